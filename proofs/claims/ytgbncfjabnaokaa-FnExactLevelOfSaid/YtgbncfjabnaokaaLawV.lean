/- Walks of the laws FnExactSpaceIn, FnExactLevelOf. -/
import Derived.Test.YtgbncfjabnaokaaBoxes
import Derived.Test.YtgbncfjabnaokaaReL
namespace Go.Proofs.Ytgbncfjabnaokaa
open Go.RowKit

set_option maxHeartbeats 2000000 in
theorem walk_FnExactSpaceIn (tA : Option Addr) (tc : Nat) (ps : List (Int × Int)) (vol : Int) (pA : Option Addr) (pc : Nat) (zs : List Int) (w : World) (hP : PtsAt w w.heap.size tA ps) (hQ : NumsAt w w.heap.size pA zs) (hn : ps.length ≤ 9223372036854775807) (hm : zs.length ≤ 9223372036854775807) :
    Calls Try.prog 3 #[.agg #[.slice tA ps.length tc, .int .i64 vol, .slice pA zs.length pc]] w fun e w' => e = .returned (.bool true) ∧ Below w.heap.size w w' := by
  rcases szR_cases ps.length zs.length with hz | ⟨hz, hn', hm'⟩
  · clear hP hQ
    go_enter Try.func3, Try.ntmps3
    go_wp2_with (go_at_call 9; refine (l_szReach tA ps.length tc vol pA zs.length pc _ _ (by omega) (by omega) hn hm).mono ?_; rintro e w1 ⟨rfl, hb1⟩)
    go_ret
    exact ⟨rfl, (box_step (Nat.le_refl _) hb1).2.1⟩
  · have HT := Lib.hid (fun (W : World) (hb : Below w.heap.size w W) => l_toReach tA tc ps vol pA pc zs w.heap.size W (hP.below hb) (hQ.below hb) hb.size hn' hm')
    clear hP hQ
    go_enter Try.func3, Try.ntmps3
    go_wp2_with fail
    refine (l_szReach tA ps.length tc vol pA zs.length pc _ _ (by omega) (by omega) hn hm).mono ?_; rintro e w1 ⟨rfl, hb1⟩
    obtain ⟨hB1, hW1, _⟩ := box_step (Nat.le_refl _) hb1
    have cA := hB1.cell
    clear hb1
    go_wp2_with fail
    refine (HT.out _ hW1).mono ?_; rintro e w2 ⟨tA2, tc2, pA2, pc2, rfl, hR2, hS2, hb2⟩
    have hB2 := hB1.below hb2 hB1.lt
    have hW2 := hW1.trans (hb2.mono hW1.size)
    clear cA hB1 hW1 hb2
    go_wp2_with fail
    refine (s_SpaceIn tA2 tc2 ps vol pA2 pc2 zs w2.heap.size _ hR2.pts hS2.nums (Nat.le_refl _) hn' hm').mono ?_; rintro e w3 ⟨rfl, hb3⟩
    have hB3 := hB2.below hb3 hB2.lt
    have hW3 := hW2.trans (hb3.mono hW2.size)
    have cA := hB3.cell
    clear hB2 hW2 hb3 hR2 hS2
    go_wp2_with fail
    refine (HT.out _ hW3).mono ?_; rintro e w4 ⟨tA4, tc4, pA4, pc4, rfl, hR4, hS4, hb4⟩
    have hB4 := hB3.below hb4 hB3.lt
    have hW4 := hW3.trans (hb4.mono hW3.size)
    obtain ⟨hX5, hb5, hs5⟩ := boxN w4 30 #[.slice tA4 ps.length tc4, .int .i64 vol, .slice pA4 zs.length pc4]
    have hB5 := hB4.below hb5 hB4.lt
    have hW5 := hW4.trans (hb5.mono hW4.size)
    have cX5 := hX5.cell
    clear cA hB3 hW3 hb4
    go_wp2_with fail
    refine (i_SpaceIn tA4 tc4 ps vol pA4 pc4 zs w4.heap.size _ (hR4.pts.below hb5) (hS4.nums.below hb5) (by rw [hs5]; omega) hn' hm').mono ?_; rintro e w6 ⟨rfl, hb6⟩
    have hB6 := hB5.below hb6 hB5.lt
    have hX6 := hX5.below hb6 hX5.lt
    have hW6 := hW5.trans (hb6.mono hW5.size)
    have hs6 : w4.heap.size ≤ w6.heap.size := by have := hb6.size; rw [hs5] at this; omega
    have hb46 := hb5.trans (hb6.mono (by rw [hs5]; omega))
    have hP6 := hR4.pts.below hb46.drew
    have hQ6 := hS4.nums.below hb46.drew
    have S0 : (∀ i, w6.drew.cell? ⟨w.heap.size, i, none⟩ = #[.slice tA ps.length tc, .int .i64 vol, .slice pA zs.length pc][i]?) ∧ (∀ i, w6.drew.cell? ⟨w4.heap.size, i, none⟩ = #[.slice tA4 ps.length tc4, .int .i64 vol, .slice pA4 zs.length pc4][i]?) ∧ w.heap.size < w6.drew.heap.size ∧ w4.heap.size < w6.drew.heap.size := ⟨hB6.drew.cell, hX6.drew.cell, hB6.lt, hX6.lt⟩
    have hW6d := hW6.drew
    clear hB4 hB5 hX5 hW4 hW5 cX5 hb5 hb6 hR4 hS4 hB6 hX6 hs5 hb46 hW6
    go_wp2_with fail
    go_region_held3 (fun w' => (∀ i, w'.cell? ⟨w.heap.size, i, none⟩ = #[.slice tA ps.length tc, .int .i64 vol, .slice pA zs.length pc][i]?) ∧ (∀ i, w'.cell? ⟨w4.heap.size, i, none⟩ = #[.slice tA4 ps.length tc4, .int .i64 vol, .slice pA4 zs.length pc4][i]?) ∧ w.heap.size < w'.heap.size ∧ w4.heap.size < w'.heap.size) (first | with_reducible exact S2 | with_reducible exact S1 | with_reducible exact S0) (first | (go_at_call 11; refine (HT.out _ hW6d).mono ?_; rintro e w7 ⟨tA7, tc7, pA7, pc7, rfl, hR7, hS7, hb7⟩; have S1 := boxes_below hb7 S0) | (go_at_call 13; refine (l_eqReach tA4 tc4 tA7 tc7 ps vol pA4 pc4 pA7 pc7 zs w7.heap.size _ ((hP6.below (hb7.mono hs6)).mono (Nat.le_trans hs6 hb7.size)) hR7.pts ((hQ6.below (hb7.mono hs6)).mono (Nat.le_trans hs6 hb7.size)) hS7.nums (Nat.le_refl _) hn' hm').mono ?_; rintro e w8 ⟨rfl, hb8⟩; have S2 := boxes_below hb8 S1))
    have hW8 := (hW6d.trans (hb7.mono hW6d.size)).trans (hb8.mono (Nat.le_trans hW6d.size hb7.size))
    go_wp2
    go_ret
    exact ⟨rfl, hW8⟩

set_option maxHeartbeats 2000000 in
theorem walk_FnExactLevelOf (tA : Option Addr) (tc : Nat) (ps : List (Int × Int)) (vol : Int) (pA : Option Addr) (pc : Nat) (zs : List Int) (w : World) (hP : PtsAt w w.heap.size tA ps) (hQ : NumsAt w w.heap.size pA zs) (hn : ps.length ≤ 9223372036854775807) (hm : zs.length ≤ 9223372036854775807) :
    Calls Try.prog 6 #[.agg #[.slice tA ps.length tc, .int .i64 vol, .slice pA zs.length pc]] w fun e w' => e = .returned (.bool true) ∧ Below w.heap.size w w' := by
  rcases szR_cases ps.length zs.length with hz | ⟨hz, hn', hm'⟩
  · clear hP hQ
    go_enter Try.func6, Try.ntmps6
    go_wp2_with (go_at_call 9; refine (l_szReach tA ps.length tc vol pA zs.length pc _ _ (by omega) (by omega) hn hm).mono ?_; rintro e w1 ⟨rfl, hb1⟩)
    go_ret
    exact ⟨rfl, (box_step (Nat.le_refl _) hb1).2.1⟩
  · have HT := Lib.hid (fun (W : World) (hb : Below w.heap.size w W) => l_toReach tA tc ps vol pA pc zs w.heap.size W (hP.below hb) (hQ.below hb) hb.size hn' hm')
    clear hP hQ
    go_enter Try.func6, Try.ntmps6
    go_wp2_with fail
    refine (l_szReach tA ps.length tc vol pA zs.length pc _ _ (by omega) (by omega) hn hm).mono ?_; rintro e w1 ⟨rfl, hb1⟩
    obtain ⟨hB1, hW1, _⟩ := box_step (Nat.le_refl _) hb1
    have cA := hB1.cell
    clear hb1
    go_wp2_with fail
    refine (HT.out _ hW1).mono ?_; rintro e w2 ⟨tA2, tc2, pA2, pc2, rfl, hR2, hS2, hb2⟩
    have hB2 := hB1.below hb2 hB1.lt
    have hW2 := hW1.trans (hb2.mono hW1.size)
    clear cA hB1 hW1 hb2
    go_wp2_with fail
    refine (s_LevelOf tA2 tc2 ps vol pA2 pc2 zs w2.heap.size _ hR2.pts hS2.nums (Nat.le_refl _) hn' hm').mono ?_; rintro e w3 ⟨rfl, hb3⟩
    have hB3 := hB2.below hb3 hB2.lt
    have hW3 := hW2.trans (hb3.mono hW2.size)
    have cA := hB3.cell
    clear hB2 hW2 hb3 hR2 hS2
    go_wp2_with fail
    refine (HT.out _ hW3).mono ?_; rintro e w4 ⟨tA4, tc4, pA4, pc4, rfl, hR4, hS4, hb4⟩
    have hB4 := hB3.below hb4 hB3.lt
    have hW4 := hW3.trans (hb4.mono hW3.size)
    obtain ⟨hX5, hb5, hs5⟩ := boxN w4 30 #[.slice tA4 ps.length tc4, .int .i64 vol, .slice pA4 zs.length pc4]
    have hB5 := hB4.below hb5 hB4.lt
    have hW5 := hW4.trans (hb5.mono hW4.size)
    have cX5 := hX5.cell
    clear cA hB3 hW3 hb4
    go_wp2_with fail
    refine (i_LevelOf tA4 tc4 ps vol pA4 pc4 zs w4.heap.size _ (hR4.pts.below hb5) (hS4.nums.below hb5) (by rw [hs5]; omega) hn' hm').mono ?_; rintro e w6 ⟨rfl, hb6⟩
    have hB6 := hB5.below hb6 hB5.lt
    have hX6 := hX5.below hb6 hX5.lt
    have hW6 := hW5.trans (hb6.mono hW5.size)
    have hs6 : w4.heap.size ≤ w6.heap.size := by have := hb6.size; rw [hs5] at this; omega
    have hb46 := hb5.trans (hb6.mono (by rw [hs5]; omega))
    have hP6 := hR4.pts.below hb46.drew
    have hQ6 := hS4.nums.below hb46.drew
    have S0 : (∀ i, w6.drew.cell? ⟨w.heap.size, i, none⟩ = #[.slice tA ps.length tc, .int .i64 vol, .slice pA zs.length pc][i]?) ∧ (∀ i, w6.drew.cell? ⟨w4.heap.size, i, none⟩ = #[.slice tA4 ps.length tc4, .int .i64 vol, .slice pA4 zs.length pc4][i]?) ∧ w.heap.size < w6.drew.heap.size ∧ w4.heap.size < w6.drew.heap.size := ⟨hB6.drew.cell, hX6.drew.cell, hB6.lt, hX6.lt⟩
    have hW6d := hW6.drew
    clear hB4 hB5 hX5 hW4 hW5 cX5 hb5 hb6 hR4 hS4 hB6 hX6 hs5 hb46 hW6
    go_wp2_with fail
    go_region_held3 (fun w' => (∀ i, w'.cell? ⟨w.heap.size, i, none⟩ = #[.slice tA ps.length tc, .int .i64 vol, .slice pA zs.length pc][i]?) ∧ (∀ i, w'.cell? ⟨w4.heap.size, i, none⟩ = #[.slice tA4 ps.length tc4, .int .i64 vol, .slice pA4 zs.length pc4][i]?) ∧ w.heap.size < w'.heap.size ∧ w4.heap.size < w'.heap.size) (first | with_reducible exact S2 | with_reducible exact S1 | with_reducible exact S0) (first | (go_at_call 11; refine (HT.out _ hW6d).mono ?_; rintro e w7 ⟨tA7, tc7, pA7, pc7, rfl, hR7, hS7, hb7⟩; have S1 := boxes_below hb7 S0) | (go_at_call 13; refine (l_eqReach tA4 tc4 tA7 tc7 ps vol pA4 pc4 pA7 pc7 zs w7.heap.size _ ((hP6.below (hb7.mono hs6)).mono (Nat.le_trans hs6 hb7.size)) hR7.pts ((hQ6.below (hb7.mono hs6)).mono (Nat.le_trans hs6 hb7.size)) hS7.nums (Nat.le_refl _) hn' hm').mono ?_; rintro e w8 ⟨rfl, hb8⟩; have S2 := boxes_below hb8 S1))
    have hW8 := (hW6d.trans (hb7.mono hW6d.size)).trans (hb8.mono (Nat.le_trans hW6d.size hb7.size))
    go_wp2
    go_ret
    exact ⟨rfl, hW8⟩

end Go.Proofs.Ytgbncfjabnaokaa
