/- Contracts of the laws' own helpers on points: szPointS, toPoint, toPointS, eqPoint, eqPointS. -/
import Derived.Test.YtgbncfjabnaokabPts
import Derived.Test.YtgbncfjabnaokabArith
import Derived.Deep.RegionHeld3
namespace Go.Proofs.Ytgbncfjabnaokab
open Go.RowKit

/-- What is left of a size, or -1. -/
def szV (left : Int) (n : Nat) : Int := if left < n then -1 else left - n
theorem l_szPointS (A : Option Addr) (n c : Nat) (left : Int) (w : World) (h0 : 0 ≤ left) (h1 : left ≤ 1048576) (hn : n ≤ 9223372036854775807) :
    Calls Try.prog 33 #[.slice A n c, .int .i64 left] w fun e w' => e = .returned (.int .i64 (szV left n)) ∧ w = w' := by
  by_cases h : left < (n : Int)
  · have HV := Lib.hid (show szV left n = -1 by unfold szV; rw [if_pos h])
    go_enter Try.func33, Try.ntmps33
    go_wp2
    go_ret
    exact ⟨ret_int HV.out.symm, rfl⟩
  · have HV := Lib.hid (show szV left n = left - n by unfold szV; rw [if_neg h])
    go_enter Try.func33, Try.ntmps33
    go_wp2
    go_ret
    exact ⟨ret_int HV.out.symm, rfl⟩

theorem l_toPoint (x y : Int) (w : World) :
    Calls Try.prog 59 #[.agg #[.int .i64 x, .int .i64 y]] w fun e w' => e = .returned (.agg #[.int .i64 x, .int .i64 y]) ∧ Below w.heap.size w w' := by
  go_enter Try.func59, Try.ntmps59
  go_wp2
  refine bodyPost_ret (v := .agg #[.int .i64 x, .int .i64 y]) (by simp [results, Try.results59, go_sem]) rfl ⟨rfl, ?_⟩
  exact (((Below.refl _ _).alloc (Nat.le_refl _) _).alloc (by simp) _).alloc (by simp; omega) _

theorem l_eqPoint (x y : Int) (w : World) :
    Calls Try.prog 61 #[.agg #[.int .i64 x, .int .i64 y], .agg #[.int .i64 x, .int .i64 y]] w fun e w' => e = .returned (.bool true) ∧ Below w.heap.size w w' := by
  go_enter Try.func61, Try.ntmps61
  go_wp2
  go_ret
  exact ⟨rfl, ((Below.refl _ _).alloc (Nat.le_refl _) _).alloc (by simp) _⟩

/-- Points in memory of the call's own. -/
def PtsOut (w : World) (ps : List (Int × Int)) (e : Ending) (w' : World) : Prop :=
  ∃ A c, e = .returned (.slice A ps.length c) ∧ Row w' w.heap.size w'.heap.size 52 2 A ps.length c (cellsP ps) ∧ Below w.heap.size w w'
theorem info_point : (Try.prog.info? 52).map (fun i => (i.zero, i.size, i.bytes)) = some (some (.agg #[.int .i64 0, .int .i64 0]), 2, 16) := by kernel_rfl
/-- The row holds the points up to k. -/
def UpTo (ps : List (Int × Int)) (k : Nat) (xs : List Value) : Prop := ∀ j, j < k * 2 → xs[j]? = (cellsP ps)[j]?
theorem upTo_end {ps : List (Int × Int)} {xs : List Value} (h : UpTo ps ps.length xs) (hl : xs.length = ps.length * 2) : xs = cellsP ps := by
  apply List.ext_getElem?
  intro j
  rcases Nat.lt_or_ge j (ps.length * 2) with hj | hj
  · exact h j hj
  · rw [List.getElem?_eq_none (by omega), List.getElem?_eq_none (by rw [cellsP_len]; omega)]
theorem upTo_step {ps : List (Int × Int)} {xs : List Value} {k : Nat} (h : UpTo ps k xs) (hk : k < ps.length) (hl : xs.length = ps.length * 2) :
    UpTo ps (k + 1) ((xs.set (k * 2) (.int .i64 (px ps k))).set (k * 2 + 1) (.int .i64 (py ps k))) := by
  intro j hj
  have c := cellsP_at ps k hk
  simp only [List.getElem?_set]
  by_cases h1 : k * 2 + 1 = j
  · subst h1; simp [c.2]; omega
  · rw [if_neg h1]
    by_cases h2 : k * 2 = j
    · subst h2; simp [c.1]; omega
    · rw [if_neg h2]; exact h j (by omega)

set_option maxHeartbeats 1000000 in
theorem l_toPointS (A : Option Addr) (c : Nat) (ps : List (Int × Int)) (H : Nat) (w : World) (hP : PtsAt w H A ps) (hH : H ≤ w.heap.size) (hn : ps.length ≤ 1048576) :
    Calls Try.prog 37 #[.slice A ps.length c] w (PtsOut w ps) := by
  obtain ⟨i0, hi, hz0, hz1, hz2⟩ := info_parts info_point
  have HP := Lib.hid hP
  have HF := Lib.hid (fun (xs : List Value) (h : UpTo ps ps.length xs) (hl : xs.length = ps.length * 2) => upTo_end h hl)
  obtain ⟨n, hnn⟩ : ∃ n, n = ps.length := ⟨_, rfl⟩
  have HPost : Hid (PtsOut w ps = fun e w' => ∃ A c, e = .returned (.slice A n c) ∧ Row w' w.heap.size w'.heap.size 52 2 A n c (cellsP ps) ∧ Below w.heap.size w w') := by
    unfold Hid; rw [hnn]; rfl
  rw [← hnn] at hn ⊢
  have HL := Lib.hid hnn
  clear hP hnn
  go_enter Try.func37, Try.ntmps37
  go_wp2_with (at_make; refine wpList_make_full _ rfl (.tmp 6) (.tmp 6) 27 rfl w.heap.size 52 i0 _ 2 Try.underlying27 hi hz0 hz1 .i64 .i64 _ _ n rfl rfl rfl rfl (by rw [hz2]; omega) (by unfold maxLen; omega) (Nat.le_refl _) ?_; intro w1 hown hgr)
  have HW : Below w.heap.size w w1 := (Below.refl _ _).grown hgr (Nat.le_refl _) (fun k hk => by cases hk)
  go_loopw [4] (fun v4 wr => ∃ (k : Nat) (xs : List Value), k ≤ n ∧ v4 = .int .i64 k ∧ UpTo ps k xs ∧ wr.ownsRow w.heap.size 52 2 (.slice (some ⟨w.heap.size, 0, none⟩) n n) n xs ∧ Below w.heap.size w wr) (fun v4 _ => n - (intOf v4).toNat)
  case atStart => exact ⟨0, _, by omega, rfl, fun j hj => by omega, hown, HW⟩
  case round =>
    obtain ⟨k, xs, hk, rfl, hU, hO, hW⟩ := hrel
    have hxl := hO.1
    clear hown hgr HW
    by_cases hlt : k < n
    · have hl2 : k < ps.length := by rw [← HL.out]; exact hlt
      obtain ⟨b, off, rfl, hb, hc⟩ := HP.out (by omega)
      obtain ⟨cx, cy⟩ := hc k hl2
      have cx' := (hW.cell (p := ⟨b, off + k * 2, none⟩) (by show b < _; omega)).trans cx
      have cy' := (hW.cell (p := ⟨b, off + k * 2 + 1, none⟩) (by show b < _; omega)).trans cy
      have e3 : (k : Int) < (n : Int) := by omega
      have HS := Lib.hid (upTo_step hU hl2 (by rw [← HL.out]; exact hxl))
      clear cx cy hc hU hl2
      go_wp2_with fail
      refine (l_toPoint _ _ _).mono ?_; rintro e w2 ⟨rfl, hb2⟩
      have hR := (Row.of_own hO).below hb2 (Nat.le_refl _)
      have hO2 := hR.1
      have hW2 := hW.trans (hb2.mono hW.size)
      have f1 := hO2.frozenAt (k * 2)
      have f2 := hO2.frozenAt (k * 2 + 1)
      obtain ⟨u1, hu1⟩ : ∃ u, w2.cell? ⟨w.heap.size, k * 2, none⟩ = some u := by
        rw [hO2.cellAt (k * 2) (by omega)]; exact ⟨_, List.getElem?_eq_getElem (by omega)⟩
      obtain ⟨u2, hu2⟩ : ∃ u, w2.cell? ⟨w.heap.size, k * 2 + 1, none⟩ = some u := by
        rw [hO2.cellAt (k * 2 + 1) (by omega)]; exact ⟨_, List.getElem?_eq_getElem (by omega)⟩
      have hO3 := ((hO2.stored (k * 2) (.int .i64 (px ps k))).1.stored (k * 2 + 1) (.int .i64 (py ps k))).1
      have hW3 := (hW2.setCell (p := ⟨w.heap.size, k * 2, none⟩) (Nat.le_refl _) (.int .i64 (px ps k))).setCell (p := ⟨w.heap.size, k * 2 + 1, none⟩) (Nat.le_refl _) (.int .i64 (py ps k))
      clear cx' cy' hb2 hR hO hW hW2
      go_wp2
      go_roundw
      case rel => exact ⟨k + 1, _, by omega, by go_num, HS.out, hO3, hW3⟩
      case measure => simp [intOf]; omega
    · have hxs := HF.out xs (by rw [← HL.out, show n = k by omega]; exact hU) (by rw [← HL.out]; exact hxl)
      have HX := Lib.hid hxs
      clear hU hxs
      go_wp2
      go_ret
      rw [HPost.out]
      exact ⟨_, _, rfl, Row.of_own (by rw [← HX.out]; exact hO), hW⟩
end Go.Proofs.Ytgbncfjabnaokab
