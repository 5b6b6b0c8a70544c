/- Contracts of DecodeHex (program and reference). -/
import Derived.Test.YtcnnnhlbnpollaaDoorHex
namespace Go.Proofs.YtcnnnhlbnpollaaDoor
open Go.RowKit

/-- The value of a digit, or -1. -/
def hexVal (c : UInt8) : Int := if 48 ≤ c.toNat ∧ c.toNat ≤ 57 then (c.toNat : Int) - 48 else if 97 ≤ c.toNat ∧ c.toNat ≤ 102 then (c.toNat : Int) - 87 else -1
theorem hexVal_bd (c : UInt8) : -1 ≤ hexVal c ∧ hexVal c ≤ 15 := by unfold hexVal; split; omega; split <;> omega
theorem hexVal_cases (c : UInt8) : (48 ≤ (c.toNat : Int) ∧ (c.toNat : Int) ≤ 57 ∧ hexVal c = (c.toNat : Int) - 48) ∨ (97 ≤ (c.toNat : Int) ∧ (c.toNat : Int) ≤ 102 ∧ hexVal c = (c.toNat : Int) - 87) ∨
    (((c.toNat : Int) < 48 ∨ (57 < (c.toNat : Int) ∧ (c.toNat : Int) < 97) ∨ 102 < (c.toNat : Int)) ∧ hexVal c = -1) := by
  unfold hexVal
  by_cases h1 : 48 ≤ c.toNat ∧ c.toNat ≤ 57
  · rw [if_pos h1]; exact .inl (by omega)
  · rw [if_neg h1]
    by_cases h2 : 97 ≤ c.toNat ∧ c.toNat ≤ 102
    · rw [if_pos h2]; exact .inr (.inl (by omega))
    · rw [if_neg h2]; exact .inr (.inr (by omega))
theorem i_hexValue (c : UInt8) (w : World) : Calls Tryd.prog 27 #[.int .u8 (c.toNat : Int)] w fun e w' => e = .returned (.int .i64 (hexVal c)) ∧ w = w' := by
  have hc := UInt8.toNat_lt c
  rcases hexVal_cases c with ⟨h1, h2, h3⟩ | ⟨h1, h2, h3⟩ | ⟨h1, h3⟩
  · have HV := Lib.hid h3
    clear h3
    go_enter Tryd.func27, Tryd.ntmps27
    go_wp2
    go_ret
    exact ⟨ret_int HV.out.symm, rfl⟩
  · have HV := Lib.hid h3
    have h4 : (57 : Int) < (c.toNat : Int) := by omega
    clear h3
    go_enter Tryd.func27, Tryd.ntmps27
    go_wp2
    go_ret
    exact ⟨ret_int (by rw [HV.out]; omega), rfl⟩
  · have HV := Lib.hid h3
    clear h3
    rcases h1 with h1 | ⟨h1, h2⟩ | h1
    all_goals
      go_enter Tryd.func27, Tryd.ntmps27
      go_wp2
      go_ret
      exact ⟨ret_int HV.out.symm, rfl⟩
theorem byte_new (W : World) (v : Value) : ∀ j u, [v][j]? = some u → (W.alloc (.cells #[v] 5)).cell? ((⟨W.heap.size, 0, none⟩ : Addr).add j) = some u := by
  intro j u hu
  have hj : j = 0 := by have := (List.getElem?_eq_some_iff.1 hu).1; simpa using this
  subst hj
  rw [show ∀ p : Addr, p.add 0 = p from fun p => by simp [Addr.add], (Blk.new W 5 #[v]).cell 0]
  simpa using hu
/-- DecodeHex: the bytes of pairs of digits. -/
def decOk : List UInt8 → Bool
  | a :: b :: r => decide (0 ≤ hexVal a) && decide (0 ≤ hexVal b) && decOk r
  | [_] => false
  | [] => true
def decL : List UInt8 → List UInt8
  | a :: b :: r => UInt8.ofNat (16 * hexVal a + hexVal b).toNat :: decL r
  | _ => []
theorem dec_take {l : List UInt8} {k : Nat} (h : 2 * k + 1 < l.length) (ho : decOk (l.take (2 * k)) = true) :
    decOk (l.take (2 * (k + 1))) = (decide (0 ≤ hexVal (l.getD (2 * k) 0)) && decide (0 ≤ hexVal (l.getD (2 * k + 1) 0))) ∧
    decL (l.take (2 * (k + 1))) = decL (l.take (2 * k)) ++ [UInt8.ofNat (16 * hexVal (l.getD (2 * k) 0) + hexVal (l.getD (2 * k + 1) 0)).toNat] := by
  induction k generalizing l with
  | zero =>
    match l, h with
    | a :: b :: r, _ => simp [decOk, decL]
  | succ k ih =>
    match l, h, ho with
    | a :: b :: r, h, ho =>
      have e1 : 2 * (k + 1) = 2 * k + 1 + 1 := by omega
      have e2 : 2 * (k + 1 + 1) = 2 * (k + 1) + 1 + 1 := by omega
      rw [e2, e1]
      simp only [List.take_succ_cons, decOk, decL, List.getD_cons_succ, List.cons_append] at *
      rw [e1] at ho
      simp only [List.take_succ_cons, decOk, Bool.and_eq_true] at ho
      obtain ⟨i1, i2⟩ := ih (l := r) (by simp at h; omega) ho.2
      rw [show 2 * (k + 1) = 2 * k + 1 + 1 by omega] at i1 i2
      rw [i1, i2]
      have hh := ho.1
      rw [hh.1, hh.2]
      simp
theorem dec_bad {l : List UInt8} {k : Nat} (h : 2 * k + 1 < l.length) (hb : hexVal (l.getD (2 * k) 0) < 0 ∨ hexVal (l.getD (2 * k + 1) 0) < 0) : decOk l = false := by
  induction k generalizing l with
  | zero =>
    match l, h with
    | a :: b :: r, _ =>
      simp at hb
      simp only [decOk]
      rcases hb with hb | hb
      · have : decide (0 ≤ hexVal a) = false := by simp; omega
        rw [this]; rfl
      · have : decide (0 ≤ hexVal b) = false := by simp; omega
        rw [this]; simp
  | succ k ih =>
    match l, h with
    | a :: b :: r, h =>
      have := ih (l := r) (by simp at h; omega) (by
        rw [show 2 * (k + 1) = 2 * k + 1 + 1 by omega] at hb
        simpa using hb)
      simp [decOk, this]

theorem decOk_odd : ∀ (l : List UInt8), l.length % 2 = 1 → decOk l = false
  | [], h => by simp at h
  | [_], _ => rfl
  | a :: b :: r, h => by simp only [decOk]; rw [decOk_odd r (by simp at h; omega)]; simp
theorem decL_len : ∀ (l : List UInt8), (decL l).length = l.length / 2
  | [] => rfl
  | [_] => by simp [decL]
  | a :: b :: r => by simp only [decL, List.length_cons]; rw [decL_len r]; omega
def decB (l : List UInt8) : Bool := decide (l.length ≤ 40000) && decOk l
def decS (l : List UInt8) : ByteArray := if decB l = true then ⟨(decL l).toArray⟩ else ⟨#[]⟩
theorem decB_no {l : List UInt8} (h : 40000 < l.length ∨ decOk l = false) : decB l = false ∧ decS l = ⟨#[]⟩ := by
  have : decB l = false := by
    unfold decB
    rcases h with h | h
    · have : decide (l.length ≤ 40000) = false := by simp; omega
      rw [this]; rfl
    · rw [h]; simp
  exact ⟨this, by unfold decS; rw [this]; rfl⟩
theorem decB_yes {l : List UInt8} (h : l.length ≤ 40000) (h2 : decOk l = true) : decB l = true ∧ decS l = ⟨(decL l).toArray⟩ := by
  have : decB l = true := by simp [decB, h, h2]
  exact ⟨this, by unfold decS; rw [if_pos this]⟩
/-- The pairs up to j are decoded. -/
def DecTo (s : ByteArray) (j : Nat) (B : Nat) (v : Value) (w : World) : Prop :=
  j % 2 = 0 ∧ decOk (s.data.toList.take j) = true ∧ w.ownsRow B 5 1 v (j / 2) (Lib.byteCells (decL (s.data.toList.take j)))
theorem byte_of {x : Int} (h0 : 0 ≤ x) (h1 : x ≤ 255) : ((UInt8.ofNat x.toNat).toNat : Int) = x := by
  simp [UInt8.toNat_ofNat']; omega
theorem getD_at (s : ByteArray) (j : Nat) (h : j < s.size) : s.data.toList.getD j 0 = s[j] := by
  rw [← ba_at s j h, List.getD_eq_getElem?_getD, List.getElem?_eq_getElem (by rw [ba_len]; exact h)]; rfl
theorem decTo_step {s : ByteArray} {j B : Nat} {v v' : Value} {w w' : World} (h : DecTo s j B v w) (hj : j + 1 < s.size) (h0 : 0 ≤ hexVal s[j]) (h1 : 0 ≤ hexVal s[j + 1])
    (ho : w'.ownsRow B 5 1 v' (j / 2 + 1) (Lib.byteCells (decL (s.data.toList.take j)) ++ [.int .u8 (16 * hexVal s[j] + hexVal s[j + 1])])) : DecTo s (j + 2) B v' w' := by
  obtain ⟨a, b, _⟩ := h
  obtain ⟨k, rfl⟩ : ∃ k, j = 2 * k := ⟨j / 2, by omega⟩
  obtain ⟨c, d⟩ := dec_take (l := s.data.toList) (k := k) (by rw [ba_len]; omega) b
  rw [getD_at s _ (by omega), getD_at s _ (by omega)] at c d
  have e : 2 * k + 2 = 2 * (k + 1) := by omega
  have b0 := hexVal_bd s[2 * k]
  have b1 := hexVal_bd s[2 * k + 1]
  refine ⟨by omega, by rw [e, c]; simp [h0, h1], ?_⟩
  rw [e, d, show 2 * (k + 1) / 2 = 2 * k / 2 + 1 by omega]
  have eb := byte_of (x := 16 * hexVal s[2 * k] + hexVal s[2 * k + 1]) (by omega) (by omega)
  simp only [Lib.byteCells, List.map_append, List.map_cons, List.map_nil, eb] at ho ⊢
  exact ho
theorem decTo_bad {s : ByteArray} {j B : Nat} {v : Value} {w : World} (h : DecTo s j B v w) (hj : j + 1 < s.size) (hb : hexVal s[j] < 0 ∨ hexVal s[j + 1] < 0) : decOk s.data.toList = false := by
  obtain ⟨k, rfl⟩ : ∃ k, j = 2 * k := ⟨j / 2, by have := h.1; omega⟩
  exact dec_bad (k := k) (by rw [ba_len]; omega) (by rw [getD_at s _ (by omega), getD_at s _ (by omega)]; exact hb)

set_option maxHeartbeats 4000000 in
theorem i_DecodeHex (s : ByteArray) (w : World) (hs : s.size ≤ 9223372036854775807) :
    Calls Tryd.prog 14 #[.string s] w fun e w' => e = .returned (.tuple #[.string (decS s.data.toList), .bool (decB s.data.toList)]) ∧ Below w.heap.size w w' := by
  by_cases h2 : s.size % 2 = 1
  · have HV := Lib.hid (decB_no (l := s.data.toList) (.inr (decOk_odd _ (by rw [ba_len]; exact h2))))
    have g1 : (((s.size : Int) % 2) != 0) = true := by simp only [bne_iff_ne, ne_eq]; omega
    clear h2
    go_enter Tryd.func14, Tryd.ntmps14
    go_wp2
    go_ret2
    exact ⟨ret_sb HV.out.2.symm HV.out.1.symm, Below.refl _ _⟩
  · have g1 : (((s.size : Int) % 2) != 0) = false := by simp only [bne_eq_false_iff_eq]; omega
    by_cases h4 : 20000 < s.size / 2
    · have HV := Lib.hid (decB_no (l := s.data.toList) (.inl (by rw [ba_len]; omega)))
      have g2 : (20000 : Int) < (s.size : Int) / 2 := by omega
      go_enter Tryd.func14, Tryd.ntmps14
      go_wp2
      go_ret2
      exact ⟨ret_sb HV.out.2.symm HV.out.1.symm, Below.refl _ _⟩
    · have g2 : (s.size : Int) / 2 ≤ 20000 := by omega
      obtain ⟨i0, hi, hz0, hz1, hz2⟩ := info_parts info_u8
      have g3 : s.size ≤ 40000 := by omega
      have g4 : (s.size : Int) ≤ 40000 := by omega
      have HEv := Lib.hid (show s.size % 2 = 0 by omega)
      go_enter Tryd.func14, Tryd.ntmps14
      go_wp2_with (at_make; refine wpList_make_own _ rfl (.const (.int .i64 0)) (.tmp 20) 24 rfl w.heap.size 5 i0 _ 1 Tryd.underlying24 hi hz0 hz1 .i64 .i64 _ (s.size / 2) rfl rfl (by push_cast; rfl) (by rw [hz2]; omega) (by unfold maxLen; omega) (Nat.le_refl _) ?_; intro w1 hown hgr)
      have HW : Below w.heap.size w w1 := (Below.refl _ _).grown hgr (Nat.le_refl _) (fun k hk => by cases hk)
      go_loopw [4, 5, 6, 7] (fun v4 v5 _ _ wr => ∃ (j : Nat) (v : Value), j ≤ s.size ∧ v4 = v ∧ v5 = .int .i64 j ∧ DecTo s j w.heap.size v wr ∧ v ≠ .slice none 0 0 ∧ Below w.heap.size w wr) (fun _ v5 _ _ _ => s.size - (intOf v5).toNat)
      case atStart => exact ⟨0, _, by omega, rfl, rfl, ⟨rfl, rfl, hown⟩, by simp, HW⟩
      case round =>
        obtain ⟨j, v, hk, rfl, rfl, hD, hnn, hW⟩ := hrel
        clear hown hgr HW
        by_cases hlt : j < s.size
        · have hj1 : j + 1 < s.size := by have := hD.1; have := HEv.out; omega
          have e3 : (j : Int) < (s.size : Int) := by omega
          have e4 : (j : Int) + 1 < (s.size : Int) := by omega
          have z1 : IntKind.i64.wrap ((j : Int) + 1) = (j : Int) + 1 := IntWalk.i64_in _ (by omega)
          have z2 : (0 : Int) ≤ (j : Int) + 1 := by omega
          have z3 : ((j : Int) + 1).toNat = j + 1 := by omega
          have z0 : (0 : Int) ≤ (j : Int) := by omega
          have b0 := hexVal_bd s[j]
          have b1 := hexVal_bd s[j + 1]
          go_wp2_with fail
          go_quiet ((go_at_call 27; refine Calls.quiet_of_same ((i_hexValue _ _).mono (fun _ _ h => ⟨h.1, h.2.symm⟩))))
          have HX := Lib.hid (fun (v' : Value) (w' : World) (h0 : 0 ≤ hexVal s[j]) (h1 : 0 ≤ hexVal s[j + 1]) (ho : w'.ownsRow w.heap.size 5 1 v' (j / 2 + 1) (Lib.byteCells (decL (s.data.toList.take j)) ++ [.int .u8 (16 * hexVal s[j] + hexVal s[j + 1])])) => decTo_step hD hj1 h0 h1 ho)
          have HY := Lib.hid (fun (hb : hexVal s[j] < 0 ∨ hexVal s[j + 1] < 0) => decB_no (l := s.data.toList) (.inr (decTo_bad hD hj1 hb)))
          have hO := hD.2.2
          clear hD
          generalize hexVal s[j] = x at *
          generalize hexVal s[j + 1] = y at *
          generalize (s[j + 1].toNat : Int) = cj1 at *
          by_cases hx : x < 0
          · have HV := Lib.hid (HY.out (.inl hx))
            go_wp2
            go_ret2
            exact ⟨ret_sb HV.out.2.symm HV.out.1.symm, below_drewN hW _⟩
          · by_cases hy : y < 0
            · have HV := Lib.hid (HY.out (.inr hy))
              go_wp2
              go_ret2
              exact ⟨ret_sb HV.out.2.symm HV.out.1.symm, below_drewN hW _⟩
            · have hx' : 0 ≤ x := by omega
              have hy' : 0 ≤ y := by omega
              have hs2 := hW.size
              go_wp2_with (at_builtin; refine wpList_append_own _ rfl (.tmp 43) (.tmp 49) 24 rfl w.heap.size 5 i0 _ 1 1 Tryd.underlying24 hi hz0 hz1 hz2 rfl (by omega) u4 (j / 2) (Lib.byteCells (decL (s.data.toList.take j))) rfl (World.ownsRow.alloc (show World.ownsRow (World.drewN wr _) _ _ _ _ _ _ from hO) _) _ 1 1 [.int .u8 (16 * x + y)] rfl rfl (byte_new _ _) (by simp [Value.oneCell']) (by unfold maxLen; omega) (by omega) (by simp; omega) ?_; intro v7 w7 hown7 hg7 hnil7; have hR := HX.out v7 w7 hx' hy' hown7; have hW7 : Below w.heap.size w w7 := ((below_drewN hW _).alloc (by simpa using hs2) _).grown hg7 (by simp; omega) (fun k hk => (hO.lt k hk).1); have hn7 : v7 ≠ .slice none 0 0 := (fun e => hnn (hnil7.1 e).1); clear hown7 hg7 hnil7 hO hnn hW HX HY)
              go_roundw
              case rel => exact ⟨j + 2, v7, by omega, rfl, by go_num, hR, hn7, hW7⟩
              case measure => simp [intOf]; omega
        · obtain rfl : j = s.size := by omega
          obtain ⟨_, d1, d2⟩ := hD
          rw [ba_take] at d1 d2
          have HV := Lib.hid (decB_yes (l := s.data.toList) (by rw [ba_len]; omega) d1)
          have hcv := conv_row d2 hnn (by rw [decL_len, ba_len])
          clear d1 d2 hnn
          go_wp2
          go_ret2
          exact ⟨ret_sb HV.out.2.symm HV.out.1.symm, hW⟩
end Go.Proofs.YtcnnnhlbnpollaaDoor
