/- Contracts of EncodeHex (program and reference). -/
import Derived.Test.YtcnnnhlbnpollaaDoorParse
import Derived.Maps.AppendAt
import Derived.Deep.RegionHeld3
import Derived.RegionTactic
namespace Go.Proofs.YtcnnnhlbnpollaaDoor
open Go.RowKit

/-- append in a region that draws its order. -/
theorem step_append_own {P : Program} {ops : Array Oper} {o : Oper} {a : Act} {w : World} {K : Act → World → Prop} {Q : Exit → Act → World → Prop} {E : Prop} (hgd : o.guard = none) (s x : Operand) (t : TypeId)
    (ho : o.op = .call { callee := .builtin .append, args := #[s, x], argTypes := #[t, t] })
    (base : Nat) (e : TypeId) (i : TypeInfo) (z : Value) (size bytes : Nat) (ht : P.underlying t = some (.slice e)) (hi : P.info? e = some i) (hz : i.zero = some z)
    (hsize : i.size = size) (hby : i.bytes = bytes) (hzs : z.cells.size = size) (hsz : 0 < size)
    (v : Value) (n : Nat) (xs : List Value) (hs : a.eval s = v) (hown : w.ownsRow base e size v n xs)
    (ad : Addr) (m c : Nat) (news : List Value) (hx : a.eval x = .slice (some ad) m c) (hl : news.length = m * size) (hnews : ∀ j u, news[j]? = some u → w.cell? (ad.add j) = some u) (h1 : ∀ u ∈ news, u.oneCell' = true)
    (h63 : n + m ≤ maxLen) (hbytes : (n + m) * bytes ≤ 140737488355328) (hbase : base ≤ w.heap.size)
    (h : ∀ v' w', Hid (w'.ownsRow base e size v' (n + m) (xs ++ news)) → w.grownBy w' v.ownBlock → (v' = .slice none 0 0 ↔ v = .slice none 0 0 ∧ m = 0) → K (a.put o.dst v') w') :
    if Region.wanted o (yielded ops a.tmps) = true then Oper.wp P o a w K Q else E := by
  have hw : Region.wanted o (yielded ops a.tmps) = true := by simp [Region.wanted, hgd]
  rw [if_pos hw]
  exact wp_append_own w s x t ho base e i z size bytes ht hi hz hsize hby hzs hsz v n xs hs hown ad m c news hx hl hnews h1 h63 hbytes hbase h
def hexDig (x : Nat) : UInt8 := if x < 10 then UInt8.ofNat (48 + x) else UInt8.ofNat (87 + x)
def hexEnc (l : List UInt8) : List UInt8 := l.flatMap fun c => [hexDig (c.toNat / 16), hexDig (c.toNat % 16)]
theorem hexEnc_snoc (l : List UInt8) (c : UInt8) : hexEnc (l ++ [c]) = hexEnc l ++ [hexDig (c.toNat / 16), hexDig (c.toNat % 16)] := by simp [hexEnc]
theorem hexEnc_len (l : List UInt8) : (hexEnc l).length = 2 * l.length := by
  induction l with
  | nil => rfl
  | cons c r ih => simp only [hexEnc, List.flatMap_cons, List.length_append, List.length_cons, List.length_nil] at *; omega
theorem two_new (W : World) (x y : Value) : ∀ j u, [x, y][j]? = some u → (W.alloc (.cells #[x, y] 5)).cell? ((⟨W.heap.size, 0, none⟩ : Addr).add j) = some u := by
  intro j u hu
  have hj : j < 2 := by have := (List.getElem?_eq_some_iff.1 hu).1; simpa using this
  have : ((⟨W.heap.size, 0, none⟩ : Addr).add j) = ⟨W.heap.size, j, none⟩ := by
    unfold Addr.add; split
    · rename_i h; subst h; rfl
    · simp
  rw [this, (Blk.new W 5 #[x, y]).cell j]
  simpa using hu
theorem lit_at (i : Nat) (h : i < (ByteArray.mk #[48, 49, 50, 51, 52, 53, 54, 55, 56, 57, 97, 98, 99, 100, 101, 102]).size) : (ByteArray.mk #[48, 49, 50, 51, 52, 53, 54, 55, 56, 57, 97, 98, 99, 100, 101, 102])[i].toNat = (hexDig i).toNat := by
  have h' : i < 16 := h
  have : ∀ j : Fin 16, (ByteArray.mk #[48, 49, 50, 51, 52, 53, 54, 55, 56, 57, 97, 98, 99, 100, 101, 102])[j.val]'(show j.val < 16 from j.isLt) = hexDig j.val := by decide
  exact congrArg UInt8.toNat (this ⟨i, h'⟩)
theorem enc_row {w7 : World} {B k : Nat} {v : Value} {s : ByteArray} {x y : Int} (hk : k < s.size) (h : w7.ownsRow B 5 1 v (2 * k + 2) (Lib.byteCells (hexEnc (s.data.toList.take k)) ++ [.int .u8 x, .int .u8 y]))
    (hx : x = ((hexDig (s[k].toNat / 16)).toNat : Int)) (hy : y = ((hexDig (s[k].toNat % 16)).toNat : Int)) : w7.ownsRow B 5 1 v (2 * (k + 1)) (Lib.byteCells (hexEnc (s.data.toList.take (k + 1)))) := by
  rw [List.take_succ_eq_append_getElem (by rw [ba_len]; exact hk), ba_at s k hk, hexEnc_snoc, Nat.mul_add]
  subst hx hy
  simpa [Lib.byteCells] using h
/-- 'string(out)' of a row of bytes. -/
theorem conv_row {W : World} {B n : Nat} {v : Value} {l : List UInt8} (h : W.ownsRow B 5 1 v n (Lib.byteCells l)) (hv : v ≠ .slice none 0 0) (hn : n = l.length) : (convert 24 9 v).run Tryd.prog W = .ok (.string ⟨l.toArray⟩) W := by
  subst hn
  rcases h.2 with ⟨h1, _⟩ | ⟨g, cap, cur, rfl, _⟩
  · exact absurd h1 hv
  · refine run_convert_bytes_back _ _ _ 5 ⟨g, 0, none⟩ cap l Tryd.underlying24 Tryd.underlying5 Tryd.underlying9 (fun j hj => ?_)
    refine h.cells (g := g) rfl j _ ?_
    simp [Lib.byteCells, hj]
theorem and_15 (a : Nat) (ha : a < 256) : bits .and .u8 (a : Int) 15 = ((a % 16 : Nat) : Int) := by
  show IntKind.u8.wrap ((BitVec.ofInt 8 (a : Int) &&& BitVec.ofInt 8 15).toNat : Int) = _
  have h1 : (BitVec.ofInt 8 (a : Int)).toNat = a := by
    rw [BitVec.ofInt_natCast, BitVec.toNat_ofNat]; exact Nat.mod_eq_of_lt (by omega)
  have h2 : (BitVec.ofInt 8 15).toNat = 2 ^ 4 - 1 := by decide
  rw [BitVec.toNat_and, h1, h2, Nat.and_two_pow_sub_one_eq_mod]
  simp [IntKind.wrap, IntKind.signed, IntKind.bits]
  omega
theorem info_u8 : (Tryd.prog.info? 5).map (fun i => (i.zero, i.size, i.bytes)) = some (some (.int .u8 0), 1, 1) := by kernel_rfl

set_option maxHeartbeats 2000000 in
theorem i_EncodeHex_yes (s : ByteArray) (w : World) (hs : s.size ≤ 20000) :
    Calls Tryd.prog 13 #[.string s] w fun e w' => e = .returned (.tuple #[.string ⟨(hexEnc s.data.toList).toArray⟩, .bool true]) ∧ Below w.heap.size w w' := by
  obtain ⟨i0, hi, hz0, hz1, hz2⟩ := info_parts info_u8
  have g1 : (s.size : Int) ≤ 20000 := by omega
  go_enter Tryd.func13, Tryd.ntmps13
  go_wp2_with (at_make; refine wpList_make_own _ rfl (.const (.int .i64 0)) (.tmp 11) 24 rfl w.heap.size 5 i0 _ 1 Tryd.underlying24 hi hz0 hz1 .i64 .i64 _ (2 * s.size) rfl rfl (by push_cast; rfl) (by rw [hz2]; omega) (by unfold maxLen; omega) (Nat.le_refl _) ?_; intro w1 hown hgr)
  have HW : Below w.heap.size w w1 := (Below.refl _ _).grown hgr (Nat.le_refl _) (fun k hk => by cases hk)
  go_loopw [4, 5] (fun v4 v5 wr => ∃ (k : Nat) (v : Value), k ≤ s.size ∧ v4 = v ∧ v5 = .int .i64 k ∧ wr.ownsRow w.heap.size 5 1 v (2 * k) (Lib.byteCells (hexEnc (s.data.toList.take k))) ∧ v ≠ .slice none 0 0 ∧ Below w.heap.size w wr) (fun _ v5 _ => s.size - (intOf v5).toNat)
  case atStart => exact ⟨0, _, by omega, rfl, rfl, hown, by simp, HW⟩
  case round =>
    obtain ⟨k, v, hk, rfl, rfl, hO, hnn, hW⟩ := hrel
    clear hown hgr HW
    by_cases hlt : k < s.size
    · have e3 : (k : Int) < (s.size : Int) := by omega
      have e0 : (0 : Int) ≤ (k : Int) := by omega
      have hc := UInt8.toNat_lt s[k]
      have hand := and_15 s[k].toNat hc
      have hm16 : s[k].toNat % 16 < 16 := Nat.mod_lt _ (by omega)
      have HLO : ∃ lo, s[k].toNat % 16 = lo := ⟨_, rfl⟩
      obtain ⟨lo, hlo⟩ := HLO
      have HLo := Lib.hid hlo
      rw [hlo] at hand hm16
      clear hlo
      go_wp2_with fail
      have hOd := hO
      go_region_held3 (fun _ => True) (trivial) (first | (refine step_append_own rfl (.tmp 19) (.tmp 30) 24 rfl w.heap.size 5 i0 _ 1 1 Tryd.underlying24 hi hz0 hz1 hz2 rfl (by omega) u4 (2 * k) (Lib.byteCells (hexEnc (s.data.toList.take k))) rfl (by first | exact World.ownsRow.alloc hOd _ | exact World.ownsRow.alloc (w := wr.drew) hOd _) _ 2 2 _ rfl rfl (two_new _ _ _) (by simp [Value.oneCell']) (by unfold maxLen; omega) (by omega) (by have := hW.size; simp; omega) ?_; intro v7 w7 hown7 hg7 hnil7))
      all_goals
        have hR := enc_row hlt hown7.out (by rw [lit_at]; congr 3) (by rw [HLo.out, lit_at])
        have hW7 : Below w.heap.size w w7 := ((hW.alloc hW.size _).drew).grown hg7 (by have := hW.size; simp; omega) (fun k hk => (hO.lt k hk).1)
        have hn7 : v7 ≠ .slice none 0 0 := fun e => hnn (hnil7.1 e).1
        clear hown7 hg7 hnil7 hO hOd hnn hand hW
        go_wp2
        go_roundw
        case rel => exact ⟨k + 1, v7, by omega, rfl, by go_num, hR, hn7, hW7⟩
        case measure => simp [intOf]; omega
    · obtain rfl : k = s.size := by omega
      rw [ba_take] at hO
      have hcv := conv_row hO hnn (by rw [hexEnc_len, ba_len])
      clear hO hnn
      go_wp2
      go_ret2
      exact ⟨rfl, hW⟩

theorem ret_sb {a b : ByteArray} {p q : Bool} (h : a = b) (h' : p = q) : Ending.returned (.tuple #[.string a, .bool p]) = .returned (.tuple #[.string b, .bool q]) := by rw [h, h']
/-- EncodeHex. -/
def encB (l : List UInt8) : Bool := decide (l.length ≤ 20000)
def encS (l : List UInt8) : ByteArray := if encB l = true then ⟨(hexEnc l).toArray⟩ else ⟨#[]⟩
theorem enc_yes {s : ByteArray} (h : s.size ≤ 20000) : encB s.data.toList = true ∧ encS s.data.toList = ⟨(hexEnc s.data.toList).toArray⟩ := by
  have : encB s.data.toList = true := by unfold encB; rw [ba_len]; simpa using h
  exact ⟨this, by unfold encS; rw [if_pos this]⟩
theorem enc_no {s : ByteArray} (h : 20000 < s.size) : encB s.data.toList = false ∧ encS s.data.toList = ⟨#[]⟩ := by
  have : encB s.data.toList = false := by unfold encB; rw [ba_len]; simpa using h
  exact ⟨this, by unfold encS; rw [this]; rfl⟩
theorem i_EncodeHex (s : ByteArray) (w : World) :
    Calls Tryd.prog 13 #[.string s] w fun e w' => e = .returned (.tuple #[.string (encS s.data.toList), .bool (encB s.data.toList)]) ∧ Below w.heap.size w w' := by
  by_cases h : s.size ≤ 20000
  · obtain ⟨e1, e2⟩ := enc_yes h
    rw [e1, e2]
    exact i_EncodeHex_yes s w h
  · have HV := Lib.hid (enc_no (s := s) (by omega))
    have g1 : (20000 : Int) < (s.size : Int) := by omega
    clear h
    go_enter Tryd.func13, Tryd.ntmps13
    go_wp2
    go_ret2
    exact ⟨ret_sb HV.out.2.symm HV.out.1.symm, Below.refl _ _⟩
theorem s_l01FigH (x : Int) (w : World) (h0 : 0 ≤ x) (h : x < 16) :
    Calls Tryd.prog 19 #[.int .i64 x] w fun e w' => e = .returned (.int .u8 ((hexDig x.toNat).toNat : Int)) ∧ w = w' := by
  obtain ⟨k, rfl⟩ : ∃ k : Nat, x = (k : Int) := ⟨x.toNat, by omega⟩
  by_cases h1 : k < 10
  · have e : hexDig (k : Int).toNat = UInt8.ofNat (48 + k) := by unfold hexDig; rw [if_pos (by omega)]; rfl
    rw [e]
    exact s_l01Figure k w h1
  · have HU := Lib.hid (show ((hexDig (k : Int).toNat).toNat : Int) = 87 + (k : Int) by
      unfold hexDig; rw [if_neg (by omega)]; simp [UInt8.toNat_ofNat']; omega)
    have h2 : (10 : Int) ≤ (k : Int) := by omega
    go_enter Tryd.func19, Tryd.ntmps19
    go_wp2
    go_ret
    exact ⟨ret_int (by rw [HU.out]; omega), rfl⟩

end Go.Proofs.YtcnnnhlbnpollaaDoor
