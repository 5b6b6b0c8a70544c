/- Contracts of the draws of rivers: l02River, DrawReaches. -/
import Derived.Test.YtgbncfjabnaokabRcD
import Derived.Test.YtgbncfjabnaokabRiQ
namespace Go.Proofs.Ytgbncfjabnaokab
open Go.RowKit

theorem RQ.grown {W w' : World} {lo g : Nat} {r : Rc} {a : Ad} (h : RQ W lo r a) (hg : W.grownBy w' (some g)) (hl : g < lo) : RQ w' lo r a := by
  have key : ∀ k, lo ≤ k → k < W.heap.size → w'.heap[k]? = W.heap[k]? := fun k h1 h2 => hg.block k h2 (fun e => by injection e; omega)
  exact ⟨(h.1.same key).mono (Nat.le_refl _) hg.size, (h.2.same key).mono (Nat.le_refl _) hg.size⟩
theorem RQ.append {W w' : World} {lo base n : Nat} {v : Value} {xs : List Value} {r : Rc} {a : Ad} (h : RQ W lo r a) (hO : W.ownsRow base 29 3 v n xs) (hg : W.grownBy w' v.ownBlock) : RQ w' lo r a := by
  obtain ⟨A, c, rfl⟩ := own_shape hO
  have hR := Row.of_own hO
  have hg' : W.grownBy w' (A.map (·.block)) := by cases A <;> exact hg
  exact ⟨(hR.other h.1 (by decide) hg').mono (Nat.le_refl _) hg.size, (hR.other h.2 (by decide) hg').mono (Nat.le_refl _) hg.size⟩
theorem rcAt_snoc {ds : List Rc} {r : Rc} {j : Nat} (h : j < ds.length) : rcAt (ds ++ [r]) j = rcAt ds j := by
  unfold rcAt; rw [List.getD_eq_getElem?_getD, List.getD_eq_getElem?_getD, List.getElem?_append_left h]
theorem rcAt_end {ds : List Rc} {r : Rc} : rcAt (ds ++ [r]) ds.length = r := by unfold rcAt; simp
theorem fill_snoc {ds : List Rc} {ad : Nat → Ad} {xs : List Value} {r : Rc} {a : Ad} (h : Fill ds ad ds.length xs) (hl : xs.length = ds.length * 3) :
    Fill (ds ++ [r]) (adSet ad ds.length a) (ds ++ [r]).length (xs ++ [.slice a.tA r.ps.length a.tc, .int .i64 r.vol, .slice a.pA r.zs.length a.pc]) := by
  intro j hj
  simp only [List.length_append, List.length_cons, List.length_nil] at hj
  rcases Nat.lt_or_ge j ds.length with h1 | h1
  · rw [adSet_ne _ h1, rcAt_snoc h1, List.getElem?_append_left (by omega), List.getElem?_append_left (by omega), List.getElem?_append_left (by omega)]
    exact h j h1
  · obtain rfl : j = ds.length := by omega
    rw [adSet_eq, rcAt_end, List.getElem?_append_right (by omega), List.getElem?_append_right (by omega), List.getElem?_append_right (by omega), hl]
    simp
theorem rows_snoc {W : World} {lo : Nat} {ds : List Rc} {ad : Nat → Ad} {r : Rc} {a : Ad} (h : RowsTo W lo ds ad ds.length) (h' : RQ W lo r a) : RowsTo W lo (ds ++ [r]) (adSet ad ds.length a) (ds ++ [r]).length := by
  intro j hj
  simp only [List.length_append, List.length_cons, List.length_nil] at hj
  rcases Nat.lt_or_ge j ds.length with h1 | h1
  · rw [adSet_ne _ h1, rcAt_snoc h1]; exact h j h1
  · obtain rfl : j = ds.length := by omega
    rw [adSet_eq, rcAt_end]; exact h'
theorem rc_new (W : World) (x y z : Value) : ∀ j u, [x, y, z][j]? = some u → (W.alloc (.cells #[x, y, z] 29)).cell? ((⟨W.heap.size, 0, none⟩ : Addr).add j) = some u := by
  intro j u hu
  have : ((⟨W.heap.size, 0, none⟩ : Addr).add j) = ⟨W.heap.size, j, none⟩ := by
    unfold Addr.add; split
    · rename_i h; subst h; rfl
    · simp
  rw [this, (Blk.new W 29 #[x, y, z]).cell j]
  simpa using hu
theorem info_rc : (Try.prog.info? 29).map (fun i => (i.zero, i.size, i.bytes)) = some (some (.agg #[.slice none 0 0, .int .i64 0, .slice none 0 0]), 3, 56) := by kernel_rfl
/-- What a drawn river is known for. -/
def RvD (ds : List Rc) : Prop := ∀ j, j < ds.length → RcD (rcAt ds j) 7000
theorem rvD_snoc {ds : List Rc} {r : Rc} (h : RvD ds) (h' : RcD r 7000) : RvD (ds ++ [r]) := by
  intro j hj
  simp only [List.length_append, List.length_cons, List.length_nil] at hj
  rcases Nat.lt_or_ge j ds.length with h1 | h1
  · rw [rcAt_snoc h1]; exact h j h1
  · obtain rfl : j = ds.length := by omega
    rw [rcAt_end]; exact h'
/-- A row of reaches, drawn so far. -/
def Riv (W : World) (lo : Nat) (v : Value) (ds : List Rc) : Prop := ∃ (xs : List Value) (ad : Nat → Ad), W.ownsRow lo 29 3 v ds.length xs ∧ Fill ds ad ds.length xs ∧ RowsTo W lo ds ad ds.length ∧ RvD ds
theorem Riv.grown {W w' : World} {lo g : Nat} {v : Value} {ds : List Rc} (h : Riv W lo v ds) (hg : W.grownBy w' (some g)) (hl : g < lo) : Riv w' lo v ds := by
  obtain ⟨xs, ad, h1, h2, h3, h4⟩ := h
  exact ⟨xs, ad, own_grown h1 hg hl, h2, fun j hj => (h3 j hj).grown hg hl, h4⟩
theorem Riv.add {W w' : World} {lo : Nat} {v v' : Value} {ds : List Rc} {r : Rc} {a : Ad} {xs : List Value} {ad : Nat → Ad} (hO : W.ownsRow lo 29 3 v ds.length xs) (hF : Fill ds ad ds.length xs) (hT : RowsTo W lo ds ad ds.length) (hv : RvD ds) (hq : RQ W lo r a) (hd : RcD r 7000)
    (hown : w'.ownsRow lo 29 3 v' (ds.length + 1) (xs ++ [.slice a.tA r.ps.length a.tc, .int .i64 r.vol, .slice a.pA r.zs.length a.pc])) (hg : W.grownBy w' v.ownBlock) : Riv w' lo v' (ds ++ [r]) :=
  ⟨_, _, by rw [List.length_append]; exact hown, fill_snoc hF hO.1, rows_snoc (fun j hj => (hT j hj).append hO hg) (hq.append hO hg), rvD_snoc hv hd⟩
theorem Riv.at_ {W : World} {lo : Nat} {v : Value} {ds : List Rc} (h : Riv W lo v ds) : ∃ A c, v = .slice A ds.length c ∧ RsAt W W.heap.size A ds ∧ RvD ds := by
  obtain ⟨xs, ad, h1, h2, h3, h4⟩ := h
  obtain ⟨A, c, rfl⟩ := own_shape h1
  refine ⟨A, c, rfl, fun hn => ?_, h4⟩
  obtain ⟨g, rfl, _, hg, _, hc, _⟩ := (Row.of_own h1).form hn
  refine ⟨g, 0, ad, rfl, hg, fun j hj => ?_⟩
  obtain ⟨a, b, c⟩ := h2 j hj
  obtain ⟨r1, r2⟩ := h3 j hj
  rw [Nat.zero_add, hc _ (by omega), hc _ (by omega), hc _ (by omega)]
  exact ⟨a, b, c, r1.pts, r2.nums⟩

def RvOut (w : World) (g H : Nat) (A : Option Addr) (n c : Nat) (zs : List Int) (e : Ending) (w' : World) : Prop :=
  ∃ (v : Value) (ds : List Rc), e = .returned v ∧ 2 ≤ ds.length ∧ ds.length ≤ 4 ∧ Riv w' w.heap.size v ds ∧ Dr w' g H A n c zs ∧ w.grownBy w' (some g)

set_option maxHeartbeats 4000000 in
theorem d_River (g H : Nat) (A : Option Addr) (n c : Nat) (zs : List Int) (w : World) (hD : Dr w g H A n c zs) :
    Calls Try.prog 49 #[.pointer (some ⟨g, 0, none⟩)] w (RvOut w g H A n c zs) := by
  have hgl := hD.lt
  have hgH := hD.le
  obtain ⟨i0, hi, hz0, hz1, hz2⟩ := info_parts info_rc
  have hown := World.ownsRow_made (e := 29) (size := 3) (base := w.heap.size) w #[] 0 (Nat.le_refl _) (Nat.zero_le _) (by simp)
  have hR0 : Riv (w.alloc (.cells #[] 29)) w.heap.size (.slice (some ⟨w.heap.size, 0, none⟩) 0 0) [] := ⟨[], fun _ => ⟨none, 0, none, 0⟩, hown, fun j hj => by simp at hj, fun j hj => by simp at hj, fun j hj => by simp at hj⟩
  go_enter Try.func49, Try.ntmps49
  go_wp2_with fail
  refine (d_Below g H A n c zs 3 _ (hD.alloc _) (by omega) (by omega)).mono ?_; rintro e w1 ⟨k0, k1, k2, rfl, hD1, hG1⟩
  have hR1 := Lib.hid (hR0.grown hG1 hgl)
  have hG1' := Lib.hid (grown_alloc_trans hG1)
  clear hown hR0 hG1 hD
  obtain ⟨kn, hkn⟩ : ∃ kn : Nat, 2 + k0 = (kn : Int) := ⟨(2 + k0).toNat, by omega⟩
  have HK := Lib.hid hkn
  have hk1 : 2 ≤ kn := by omega
  have hk2 : kn ≤ 4 := by omega
  clear hkn
  go_wp2_with fail
  go_loopw [3, 4] (fun v3 v4 wr => ∃ (ds : List Rc) (k : Nat), v4 = .int .i64 k ∧ 2 ≤ ds.length + k ∧ ds.length + k ≤ 4 ∧ Riv wr w.heap.size v3 ds ∧ Dr wr g H A n c zs ∧ w.grownBy wr (some g)) (fun _ v4 _ => (intOf v4).toNat)
  case atStart => exact ⟨[], kn, by rw [HK.out], by simp; omega, by simp; omega, hR1.out, hD1, hG1'.out⟩
  case round =>
    obtain ⟨ds, k, rfl, hl1, hl2, hR, hD, hG⟩ := hrel
    clear hR1 hG1' HK hD1
    have hwl := hG.size
    by_cases hk : 0 < k
    · have e1 : (0 : Int) < (k : Int) := by omega
      have hb : decide (0 < k) = true := by simpa using hk
      go_wp2_with fail
      refine (d_Reach g H A n c zs _ hD).mono ?_; rintro e w5 ⟨ps, vol, zp, tA, tc, pA, pc, rfl, hrc, hO5, hD5, hG5⟩
      obtain ⟨xs, ad, hO, hF, hT, hv⟩ := hR.grown hG5 hgl
      have hs5 := hG5.size
      have hq5 : RQ w5 w.heap.size ⟨ps, vol, zp⟩ ⟨tA, tc, pA, pc⟩ := ⟨hO5.1.mono hwl (Nat.le_refl _), hO5.2.1.mono hwl (Nat.le_refl _)⟩
      have hW5 := hG.trans hG5
      clear hR hD hG hO5 hG5
      go_wp2_with (at_builtin; refine wpList_append_own _ rfl (.tmp 13) (.tmp 16) 42 rfl w.heap.size 29 i0 _ 3 56 Try.underlying42 hi hz0 hz1 hz2 rfl (by omega) u3 ds.length xs rfl (World.ownsRow.alloc hO _) _ 1 1 [.slice tA ps.length tc, .int .i64 vol, .slice pA zp.length pc] rfl rfl (rc_new _ _ _ _) (by simp [Value.oneCell']) (by unfold maxLen; omega) (by omega) (by simp; omega) ?_; intro v7 w7 hown7 hg7 hnil7)
      have hba : Below w5.heap.size w5 (w5.alloc (.cells #[.slice tA ps.length tc, .int .i64 vol, .slice pA zp.length pc] 29)) := (Below.refl _ _).alloc (Nat.le_refl _) _
      have hR7 := Riv.add (World.ownsRow.alloc hO (.cells #[.slice tA ps.length tc, .int .i64 vol, .slice pA zp.length pc] 29)) hF (fun j hj => (hT j hj).bel hba) hv (hq5.bel hba) hrc hown7 hg7
      have hD7 := (hD5.alloc (.cells #[.slice tA ps.length tc, .int .i64 vol, .slice pA zp.length pc] 29)).grown hg7 (fun k hk => by have := (hO.lt k hk).1; exact .inr ⟨by omega, by omega⟩)
      have hG7 := grown_mix (hW5.trans (World.grownBy_alloc w5 (.cells #[.slice tA ps.length tc, .int .i64 vol, .slice pA zp.length pc] 29) (some g))) hg7 (fun k hk => (hO.lt k hk).1)
      have HL := Lib.hid (show (ds ++ [(⟨ps, vol, zp⟩ : Rc)]).length = ds.length + 1 by simp)
      clear hown7 hg7 hnil7 hO hF hT hv hq5 hW5 hD5 hba hrc
      go_wp2
      go_roundw
      case rel => exact ⟨_, k - 1, by rw [show ((k - 1 : Nat) : Int) = (k : Int) - 1 by omega], by rw [HL.out]; omega, by rw [HL.out]; omega, hR7, hD7, hG7⟩
      case measure => simp [intOf]; omega
    · obtain rfl : k = 0 := by omega
      go_wp2
      go_ret
      exact ⟨_, ds, rfl, by omega, by omega, hR, hD, hG⟩

def DrawRsOut (w : World) (e : Ending) (w' : World) : Prop :=
  ∃ (A : Option Addr) (c : Nat) (ds : List Rc), e = .returned (.slice A ds.length c) ∧ 2 ≤ ds.length ∧ ds.length ≤ 4 ∧ RvD ds ∧ RsAt w' w'.heap.size A ds ∧ Below w.heap.size w w'
set_option maxHeartbeats 400000 in
theorem s_DrawReaches (A : Option Addr) (n c : Nat) (zs : List Int) (w : World) (hB : BytesAt w w.heap.size A n zs) (hn : n ≤ 1048576) :
    Calls Try.prog 21 #[.slice A n c] w (DrawRsOut w) := by
  go_enter Try.func21, Try.ntmps21
  go_wp2_with fail
  refine (d_New A n c zs w.heap.size _ hB hn (Nat.le_refl _)).mono ?_; rintro e w0 ⟨rfl, hD0, hW⟩
  clear hB
  go_wp2_with fail
  refine (d_River _ _ A n c zs _ hD0).mono ?_; rintro e w1 ⟨v, ds, rfl, l2, l4, hR, hD1, hG1⟩
  have hW1 := below_grown hW hG1 hW.size (Nat.le_refl _)
  obtain ⟨tA, tc, rfl, hA, hv⟩ := hR.at_
  clear hD0 hD1 hG1 hR
  go_wp2
  go_ret
  exact ⟨tA, tc, ds, rfl, l2, l4, hv, hA, hW1⟩
end Go.Proofs.Ytgbncfjabnaokab
