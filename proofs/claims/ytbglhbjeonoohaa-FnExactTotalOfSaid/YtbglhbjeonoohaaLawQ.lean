/- Contract of eqPointS, and the walks of the laws FnExactTableOk, FnExactValueAt, FnExactPlaceOf. -/
import Derived.Test.YtbglhbjeonoohaaLawP
import Derived.Test.YtbglhbjeonoohaaTabV
namespace Go.Proofs.Ytbglhbjeonoohaa
open Go.RowKit

theorem quad_below {W w1 : World} {b o1 o2 b' o3 o4 : Nat} {v1 v2 v3 v4 : Value} (hb : Below W.heap.size W w1) (h : W.cell? ⟨b, o1, none⟩ = some v1 ∧ W.cell? ⟨b, o2, none⟩ = some v2 ∧ W.cell? ⟨b', o3, none⟩ = some v3 ∧ W.cell? ⟨b', o4, none⟩ = some v4 ∧ b < W.heap.size ∧ b' < W.heap.size) :
    w1.cell? ⟨b, o1, none⟩ = some v1 ∧ w1.cell? ⟨b, o2, none⟩ = some v2 ∧ w1.cell? ⟨b', o3, none⟩ = some v3 ∧ w1.cell? ⟨b', o4, none⟩ = some v4 ∧ b < w1.heap.size ∧ b' < w1.heap.size := by
  obtain ⟨h1, h2, h3, h4, hb1, hb2⟩ := h
  have := hb.size
  exact ⟨(hb.cell (p := ⟨b, o1, none⟩) hb1).trans h1, (hb.cell (p := ⟨b, o2, none⟩) hb1).trans h2, (hb.cell (p := ⟨b', o3, none⟩) hb2).trans h3, (hb.cell (p := ⟨b', o4, none⟩) hb2).trans h4, by omega, by omega⟩

set_option maxHeartbeats 1000000 in
theorem l_eqPointS (A B : Option Addr) (c d : Nat) (ps : List (Int × Int)) (H : Nat) (w : World) (hP : PtsAt w H A ps) (hQ : PtsAt w H B ps) (hH : H ≤ w.heap.size) (hn : ps.length ≤ 1048576) :
    Calls Try.prog 18 #[.slice A ps.length c, .slice B ps.length d] w fun e w' => e = .returned (.bool true) ∧ Below w.heap.size w w' := by
  have HP := Lib.hid hP
  have HQ := Lib.hid hQ
  obtain ⟨n, hnn⟩ : ∃ n, n = ps.length := ⟨_, rfl⟩
  rw [← hnn] at hn ⊢
  have HL := Lib.hid hnn
  clear hP hQ hnn
  go_enter Try.func18, Try.ntmps18
  go_wp2
  go_loopw [5] (fun v5 wr => ∃ k : Nat, k ≤ n ∧ v5 = .int .i64 k ∧ Below w.heap.size w wr) (fun v5 _ => n - (intOf v5).toNat)
  case atStart => exact ⟨0, by omega, rfl, Below.refl _ _⟩
  case round =>
    obtain ⟨k, hk, rfl, hW⟩ := hrel
    by_cases hlt : k < n
    · have hl2 : k < ps.length := by rw [← HL.out]; exact hlt
      obtain ⟨b, off, rfl, hb, hc⟩ := HP.out (by omega)
      obtain ⟨b', off', rfl, hb', hc'⟩ := HQ.out (by omega)
      have S0 : wr.drew.cell? ⟨b, off + k * 2, none⟩ = some (.int .i64 (px ps k)) ∧ wr.drew.cell? ⟨b, off + k * 2 + 1, none⟩ = some (.int .i64 (py ps k)) ∧ wr.drew.cell? ⟨b', off' + k * 2, none⟩ = some (.int .i64 (px ps k)) ∧ wr.drew.cell? ⟨b', off' + k * 2 + 1, none⟩ = some (.int .i64 (py ps k)) ∧ b < wr.drew.heap.size ∧ b' < wr.drew.heap.size :=
        ⟨(hW.cell (p := ⟨b, off + k * 2, none⟩) (by show b < _; omega)).trans (hc k hl2).1, (hW.cell (p := ⟨b, off + k * 2 + 1, none⟩) (by show b < _; omega)).trans (hc k hl2).2, (hW.cell (p := ⟨b', off' + k * 2, none⟩) (by show b' < _; omega)).trans (hc' k hl2).1, (hW.cell (p := ⟨b', off' + k * 2 + 1, none⟩) (by show b' < _; omega)).trans (hc' k hl2).2, by show b < wr.heap.size; have := hW.size; omega, by show b' < wr.heap.size; have := hW.size; omega⟩
      have e0 : (0 : Int) ≤ (k : Int) := by omega
      have e3 : (k : Int) < (n : Int) := by omega
      clear hc hc' hl2
      go_wp2_with fail
      go_region_held3 (fun w' => w'.cell? ⟨b, off + k * 2, none⟩ = some (.int .i64 (px ps k)) ∧ w'.cell? ⟨b, off + k * 2 + 1, none⟩ = some (.int .i64 (py ps k)) ∧ w'.cell? ⟨b', off' + k * 2, none⟩ = some (.int .i64 (px ps k)) ∧ w'.cell? ⟨b', off' + k * 2 + 1, none⟩ = some (.int .i64 (py ps k)) ∧ b < w'.heap.size ∧ b' < w'.heap.size) (first | with_reducible exact S1 | with_reducible exact S0) (first | (go_at_call 33; refine (l_eqPoint _ _ _).mono ?_; rintro e w2 ⟨rfl, hb2⟩; have S1 := quad_below hb2 S0))
      have hW2 := hW.drew.trans (hb2.mono hW.size)
      clear S0 S1 hb2
      go_wp2
      go_roundw
      case rel => exact ⟨k + 1, by omega, by go_num, hW2⟩
      case measure => simp [intOf]; omega
    · go_wp2
      go_ret
      exact ⟨rfl, hW⟩

theorem szV_neg {n : Nat} (h : 1048576 < n) : szV 1048576 n = -1 := by unfold szV; rw [if_pos (by omega)]
theorem szV_pos {n : Nat} (h : n ≤ 1048576) : 0 ≤ szV 1048576 n := by unfold szV; rw [if_neg (by omega)]; omega

set_option maxHeartbeats 1000000 in
theorem walk_FnExactTableOk (A : Option Addr) (c : Nat) (ps : List (Int × Int)) (w : World) (hP : PtsAt w w.heap.size A ps) (hm : ps.length ≤ 9223372036854775807) :
    Calls Try.prog 4 #[.slice A ps.length c] w fun e w' => e = .returned (.bool true) ∧ Below w.heap.size w w' := by
  by_cases hbig : 1048576 < ps.length
  · have hz := szV_neg hbig
    clear hP
    generalize ps.length = n at *
    go_enter Try.func4, Try.ntmps4
    go_wp2_with (go_at_call 15; refine (l_szPointS A n c _ _ (by omega) (by omega) hm).mono ?_; rintro e w' ⟨rfl, rfl⟩)
    go_ret
    exact ⟨rfl, Below.refl _ _⟩
  · have hz := szV_pos (n := ps.length) (by omega)
    have HP := Lib.hid hP
    clear hP
    go_enter Try.func4, Try.ntmps4
    go_wp2_with fail
    refine (l_szPointS A ps.length c _ _ (by omega) (by omega) hm).mono ?_; rintro e w' ⟨rfl, rfl⟩
    go_wp2_with fail
    refine (l_toPointS A c ps w.heap.size _ HP.out (Nat.le_refl _) (by omega)).mono ?_; rintro e w1 ⟨A1, c1, rfl, hR1, hb1⟩
    go_wp2_with fail
    refine (s_TableOk A1 c1 ps w1.heap.size _ hR1.pts (Nat.le_refl _) (by omega)).mono ?_; rintro e w2 ⟨rfl, hb2⟩
    have hW2 := hb1.trans (hb2.mono hb1.size)
    clear hR1 hb1 hb2
    go_wp2_with fail
    refine (l_toPointS A c ps w.heap.size _ (HP.out.below hW2) hW2.size (by omega)).mono ?_; rintro e w3 ⟨A3, c3, rfl, hR3, hb3⟩
    have hW3 := hW2.trans (hb3.mono hW2.size)
    clear hb3 hW2
    go_wp2_with fail
    refine (i_TableOk A3 c3 ps w3.heap.size _ hR3.pts (Nat.le_refl _) (by omega)).mono ?_; rintro e w4 ⟨rfl, hb4⟩
    have hR4 := hR3.below hb4 (Nat.le_refl _)
    have hW4 := hW3.trans (hb4.mono hW3.size)
    have hs4 := hb4.size
    clear hR3 hb4
    go_wp2_with fail
    refine (l_toPointS A c ps w.heap.size _ (HP.out.below hW4) hW4.size (by omega)).mono ?_; rintro e w5 ⟨A5, c5, rfl, hR5, hb5⟩
    have hR6 := hR4.below hb5 hs4
    have hW5 := hW4.trans (hb5.mono hW4.size)
    have hs5 := hb5.size
    clear hR4 hb5 hW4
    go_wp2_with fail
    refine (l_eqPointS A3 A5 c3 c5 ps w5.heap.size _ (hR6.pts.mono (by omega)) hR5.pts (Nat.le_refl _) (by omega)).mono ?_; rintro e w6 ⟨rfl, hb6⟩
    have hW6 := hW5.trans (hb6.mono hW5.size)
    go_wp2
    go_ret
    exact ⟨rfl, hW6⟩

set_option maxHeartbeats 1000000 in
theorem walk_FnExactValueAt (A : Option Addr) (c : Nat) (ps : List (Int × Int)) (x : Int) (_hx : (Lit.int .i64 x).wf = true) (w : World) (hP : PtsAt w w.heap.size A ps) (hm : ps.length ≤ 9223372036854775807) :
    Calls Try.prog 5 #[.slice A ps.length c, .int .i64 x] w fun e w' => e = .returned (.bool true) ∧ Below w.heap.size w w' := by
  by_cases hbig : 1048576 < ps.length
  · have hz := szV_neg hbig
    clear hP
    generalize ps.length = n at *
    go_enter Try.func5, Try.ntmps5
    go_wp2_with (go_at_call 15; refine (l_szPointS A n c _ _ (by omega) (by omega) hm).mono ?_; rintro e w' ⟨rfl, rfl⟩)
    go_ret
    exact ⟨rfl, Below.refl _ _⟩
  · have hz := szV_pos (n := ps.length) (by omega)
    have HP := Lib.hid hP
    clear hP
    go_enter Try.func5, Try.ntmps5
    go_wp2_with fail
    refine (l_szPointS A ps.length c _ _ (by omega) (by omega) hm).mono ?_; rintro e w' ⟨rfl, rfl⟩
    go_wp2_with fail
    refine (l_toPointS A c ps w.heap.size _ HP.out (Nat.le_refl _) (by omega)).mono ?_; rintro e w1 ⟨A1, c1, rfl, hR1, hb1⟩
    go_wp2_with fail
    refine (s_ValueAt A1 c1 ps x w1.heap.size _ hR1.pts (Nat.le_refl _) (by omega)).mono ?_; rintro e w2 ⟨rfl, hb2⟩
    have hW2 := hb1.trans (hb2.mono hb1.size)
    clear hR1 hb1 hb2
    go_wp2_with fail
    refine (l_toPointS A c ps w.heap.size _ (HP.out.below hW2) hW2.size (by omega)).mono ?_; rintro e w3 ⟨A3, c3, rfl, hR3, hb3⟩
    have hW3 := hW2.trans (hb3.mono hW2.size)
    clear hb3 hW2
    go_wp2_with fail
    refine (i_ValueAt A3 c3 ps x w3.heap.size _ hR3.pts (Nat.le_refl _) (by omega)).mono ?_; rintro e w4 ⟨rfl, hb4⟩
    have hR4 := hR3.below hb4 (Nat.le_refl _)
    have hW4 := hW3.trans (hb4.mono hW3.size)
    have hs4 := hb4.size
    clear hR3 hb4
    go_wp2_with fail
    refine (l_toPointS A c ps w.heap.size _ (HP.out.below hW4) hW4.size (by omega)).mono ?_; rintro e w5 ⟨A5, c5, rfl, hR5, hb5⟩
    have hR6 := hR4.below hb5 hs4
    have hW5 := hW4.trans (hb5.mono hW4.size)
    have hs5 := hb5.size
    clear hR4 hb5 hW4
    go_wp2_with fail
    refine (l_eqPointS A3 A5 c3 c5 ps w5.heap.size _ (hR6.pts.mono (by omega)) hR5.pts (Nat.le_refl _) (by omega)).mono ?_; rintro e w6 ⟨rfl, hb6⟩
    have hW6 := hW5.trans (hb6.mono hW5.size)
    go_wp2
    go_ret
    exact ⟨rfl, hW6⟩

set_option maxHeartbeats 1000000 in
theorem walk_FnExactPlaceOf (A : Option Addr) (c : Nat) (ps : List (Int × Int)) (x : Int) (_hx : (Lit.int .i64 x).wf = true) (w : World) (hP : PtsAt w w.heap.size A ps) (hm : ps.length ≤ 9223372036854775807) :
    Calls Try.prog 6 #[.slice A ps.length c, .int .i64 x] w fun e w' => e = .returned (.bool true) ∧ Below w.heap.size w w' := by
  by_cases hbig : 1048576 < ps.length
  · have hz := szV_neg hbig
    clear hP
    generalize ps.length = n at *
    go_enter Try.func6, Try.ntmps6
    go_wp2_with (go_at_call 15; refine (l_szPointS A n c _ _ (by omega) (by omega) hm).mono ?_; rintro e w' ⟨rfl, rfl⟩)
    go_ret
    exact ⟨rfl, Below.refl _ _⟩
  · have hz := szV_pos (n := ps.length) (by omega)
    have HP := Lib.hid hP
    clear hP
    go_enter Try.func6, Try.ntmps6
    go_wp2_with fail
    refine (l_szPointS A ps.length c _ _ (by omega) (by omega) hm).mono ?_; rintro e w' ⟨rfl, rfl⟩
    go_wp2_with fail
    refine (l_toPointS A c ps w.heap.size _ HP.out (Nat.le_refl _) (by omega)).mono ?_; rintro e w1 ⟨A1, c1, rfl, hR1, hb1⟩
    go_wp2_with fail
    refine (s_PlaceOf A1 c1 ps x w1.heap.size _ hR1.pts (Nat.le_refl _) (by omega)).mono ?_; rintro e w2 ⟨rfl, hb2⟩
    have hW2 := hb1.trans (hb2.mono hb1.size)
    clear hR1 hb1 hb2
    go_wp2_with fail
    refine (l_toPointS A c ps w.heap.size _ (HP.out.below hW2) hW2.size (by omega)).mono ?_; rintro e w3 ⟨A3, c3, rfl, hR3, hb3⟩
    have hW3 := hW2.trans (hb3.mono hW2.size)
    clear hb3 hW2
    go_wp2_with fail
    refine (i_PlaceOf A3 c3 ps x w3.heap.size _ hR3.pts (Nat.le_refl _) (by omega)).mono ?_; rintro e w4 ⟨rfl, hb4⟩
    have hR4 := hR3.below hb4 (Nat.le_refl _)
    have hW4 := hW3.trans (hb4.mono hW3.size)
    have hs4 := hb4.size
    clear hR3 hb4
    go_wp2_with fail
    refine (l_toPointS A c ps w.heap.size _ (HP.out.below hW4) hW4.size (by omega)).mono ?_; rintro e w5 ⟨A5, c5, rfl, hR5, hb5⟩
    have hR6 := hR4.below hb5 hs4
    have hW5 := hW4.trans (hb5.mono hW4.size)
    have hs5 := hb5.size
    clear hR4 hb5 hW4
    go_wp2_with fail
    refine (l_eqPointS A3 A5 c3 c5 ps w5.heap.size _ (hR6.pts.mono (by omega)) hR5.pts (Nat.le_refl _) (by omega)).mono ?_; rintro e w6 ⟨rfl, hb6⟩
    have hW6 := hW5.trans (hb6.mono hW5.size)
    go_wp2
    go_ret
    exact ⟨rfl, hW6⟩
end Go.Proofs.Ytbglhbjeonoohaa
