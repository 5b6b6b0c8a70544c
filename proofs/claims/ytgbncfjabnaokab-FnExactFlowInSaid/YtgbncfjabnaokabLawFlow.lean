/- Walks of the laws FnExactFlowIn. -/
import Derived.Test.YtgbncfjabnaokabFlowB
namespace Go.Proofs.Ytgbncfjabnaokab
open Go.RowKit

set_option maxHeartbeats 8000000 in
set_option maxRecDepth 100000 in
theorem walk_FnExactFlowIn (tA : Option Addr) (tc : Nat) (ps : List (Int × Int)) (vol : Int) (pA : Option Addr) (pc : Nat) (zs : List Int) (w : World) (hP : PtsAt w w.heap.size tA ps) (hQ : NumsAt w w.heap.size pA zs) (hn : ps.length ≤ 9223372036854775807) (hm : zs.length ≤ 9223372036854775807) :
    Calls Try.prog 3 #[.agg #[.slice tA ps.length tc, .int .i64 vol, .slice pA zs.length pc]] w fun e w' => e = .returned (.bool true) ∧ Below w.heap.size w w' := by
  rcases szR_cases ps.length zs.length with hz | ⟨hz, hn', hm'⟩
  · clear hP hQ
    go_enter Try.func3, Try.ntmps3
    go_wp2_with (go_at_call 9; refine (l_szReach tA ps.length tc vol pA zs.length pc _ _ (by omega) (by omega) hn hm).mono ?_; rintro e w1 ⟨rfl, hb1⟩)
    go_ret
    exact ⟨rfl, (box_step (Nat.le_refl _) hb1).2.1⟩
  · have HT := Lib.hid (l_toReachO tA tc ps vol pA pc zs w hP hQ hn' hm')
    clear hP hQ
    obtain ⟨vo, zo, no, hzo, HS0, HI0⟩ := FnExactFlowIn_both ps vol zs  hn' hm'
    have HS := Lib.hid HS0
    have HI := Lib.hid HI0
    clear HS0 HI0
    go_enter Try.func3, Try.ntmps3
    go_wp2_with fail
    refine (l_szReach tA ps.length tc vol pA zs.length pc _ _ (by omega) (by omega) hn hm).mono ?_; rintro e w1 ⟨rfl, hb1⟩
    obtain ⟨hBa, hW, hs1⟩ := box_step (Nat.le_refl _) hb1
    clear hb1
    have chBa := hBa.cell
    go_wp2_with fail
    refine (HT.out _ hW).mono ?_; rintro e w2 ⟨t2, c2, p2, d2, rfl, hR2, hS2, hb2⟩
    clear chBa
    have hs2 := hb2.size
    try simp only [World.size_alloc] at hs2
    replace hBa := hBa.bel hb2
    replace hW := bel_step hW hb2
    have O2 := RO.mk_ (lo := w1.heap.size) hR2 hS2 (Nat.le_refl _)
    clear hR2 hS2 hb2
    go_wp2_with fail
    refine (HS.out _ _ _ _ _ _ _ O2).mono ?_; rintro e w3 ⟨t3, c3, p3, d3, rfl, hR3, hS3, hb3⟩
    have hs3 := hb3.size
    try simp only [World.size_alloc] at hs3
    replace hBa := hBa.bel hb3
    replace hW := bel_step hW hb3
    have O3 := RO.mk_ (lo := w2.heap.size) hR3 hS3 (Nat.le_refl _)
    clear hR3 hS3 hb3 O2
    obtain ⟨hBw, hbb, _⟩ := boxN w3 29 #[.slice t3 ps.length c3, .int .i64 vo, .slice p3 zo.length d3]
    replace hBa := hBa.bel hbb
    replace O3 := O3.bel hbb
    replace hW := bel_step hW hbb
    clear hbb
    have chBa := hBa.cell
    go_wp2_with fail
    refine (HT.out _ hW).mono ?_; rintro e w4 ⟨t4, c4, p4, d4, rfl, hR4, hS4, hb4⟩
    clear chBa
    have hs4 := hb4.size
    try simp only [World.size_alloc] at hs4
    replace hBa := hBa.bel hb4
    replace hBw := hBw.bel hb4
    replace O3 := O3.bel hb4
    replace hW := bel_step hW hb4
    have O4 := RO.mk_ (lo := w3.heap.size + 1) hR4 hS4 (by simp)
    clear hR4 hS4 hb4
    obtain ⟨hBx, hbb, _⟩ := boxN w4 29 #[.slice t4 ps.length c4, .int .i64 vol, .slice p4 zs.length d4]
    replace hBa := hBa.bel hbb
    replace hBw := hBw.bel hbb
    replace O3 := O3.bel hbb
    replace O4 := O4.bel hbb
    replace hW := bel_step hW hbb
    clear hbb
    have chBx := hBx.cell
    go_wp2_with fail
    refine (HI.out _ _ _ _ _ _ _ O4).mono ?_; rintro e w5 ⟨t5, c5, p5, d5, rfl, hR5, hS5, hb5⟩
    clear chBx
    have hs5 := hb5.size
    try simp only [World.size_alloc] at hs5
    replace hBa := hBa.bel hb5
    replace hBw := hBw.bel hb5
    replace hBx := hBx.bel hb5
    replace O3 := O3.bel hb5
    replace O4 := O4.bel hb5
    replace hW := bel_step hW hb5
    have O5 := RO.mk_ (lo := w4.heap.size + 1) hR5 hS5 (by simp)
    clear hR5 hS5 hb5
    obtain ⟨hBg, hbb, _⟩ := boxN w5 29 #[.slice t5 ps.length c5, .int .i64 vo, .slice p5 zo.length d5]
    replace hBa := hBa.bel hbb
    replace hBw := hBw.bel hbb
    replace hBx := hBx.bel hbb
    replace O3 := O3.bel hbb
    replace O4 := O4.bel hbb
    replace O5 := O5.bel hbb
    replace hW := bel_step hW hbb
    clear hbb
    have chBg := hBg.cell
    have chBw := hBw.cell
    go_wp2_with fail
    refine (l_eqReachO vo O5 O3 hn' hzo).mono ?_; rintro e w6 ⟨rfl, hb6⟩
    clear chBg chBw
    have hs6 := hb6.size
    try simp only [World.size_alloc] at hs6
    replace hBa := hBa.bel hb6
    replace hBw := hBw.bel hb6
    replace hBx := hBx.bel hb6
    replace hBg := hBg.bel hb6
    replace O3 := O3.bel hb6
    replace O4 := O4.bel hb6
    replace O5 := O5.bel hb6
    replace hW := bel_step hW hb6
    clear hb6
    have S0 : (∀ i, w6.drew.cell? ⟨w.heap.size, i, none⟩ = #[.slice tA ps.length tc, .int .i64 vol, .slice pA zs.length pc][i]?) ∧ (∀ i, w6.drew.cell? ⟨w4.heap.size, i, none⟩ = #[.slice t4 ps.length c4, .int .i64 vol, .slice p4 zs.length d4][i]?) ∧ w.heap.size < w6.drew.heap.size ∧ w4.heap.size < w6.drew.heap.size := ⟨hBa.drew.cell, hBx.drew.cell, hBa.lt, hBx.lt⟩
    have hWd := hW.drew
    have O4d : RO w6.drew (w3.heap.size + 1) w4.heap.size ps zs t4 c4 p4 d4 := O4
    go_wp2_with fail
    go_region_held3 (fun w' => (∀ i, w'.cell? ⟨w.heap.size, i, none⟩ = #[.slice tA ps.length tc, .int .i64 vol, .slice pA zs.length pc][i]?) ∧ (∀ i, w'.cell? ⟨w4.heap.size, i, none⟩ = #[.slice t4 ps.length c4, .int .i64 vol, .slice p4 zs.length d4][i]?) ∧ w.heap.size < w'.heap.size ∧ w4.heap.size < w'.heap.size) (first | with_reducible exact S2 | with_reducible exact S1 | with_reducible exact S0) (first | (go_at_call 11; refine (HT.out _ hWd).mono ?_; rintro e w7 ⟨t7, c7, p7, d7, rfl, hR7, hS7, hb7⟩; have S1 := boxes_below hb7 S0) | (go_at_call 13; refine (l_eqReachO vol (O4d.bel hb7) (RO.mk_ (lo := 0) hR7 hS7 (Nat.zero_le _)) hn' hm').mono ?_; rintro e w8 ⟨rfl, hb8⟩; have S2 := boxes_below hb8 S1))
    have hb68 : Below w6.heap.size w6 w8 := ((Below.refl _ _).drew).trans (hb7.trans (hb8.mono hb7.size))
    have hs8 := hb68.size
    try simp only [World.size_alloc] at hs8
    replace hBa := hBa.bel hb68
    replace hBw := hBw.bel hb68
    replace hBx := hBx.bel hb68
    replace hBg := hBg.bel hb68
    replace O3 := O3.bel hb68
    replace O4 := O4.bel hb68
    replace O5 := O5.bel hb68
    replace hW := bel_step hW hb68
    clear S0 S1 S2 hb7 hb8 hb68 hWd O4d hR7 hS7
    have chBx := hBx.cell
    go_wp2_with fail
    refine (l_markReach t4 ps.length c4 vol p4 zs.length d4 1 _ _ (w3.heap.size + 1) w4.heap.size _ O4.1 O4.2.1 O4.2.2 hn' hm' (by omega) (by omega)).mono ?_; rintro e w9 ⟨rfl, hM9⟩
    clear chBx
    have hu9 := hM9.2.2
    have hs9 := hu9.size
    replace hBa := hBa.upto hu9 (.inl (by omega))
    replace hBw := hBw.upto hu9 (.inl (by omega))
    replace hBg := hBg.upto hu9 (.inr (by omega))
    replace O3 := O3.upto hu9 (.inl (by omega))
    replace O5 := O5.upto hu9 (.inr (by omega))
    replace hW := bel_upto hW hu9 (by omega)
    clear hu9 hM9 O4 hBx
    have chBg := hBg.cell
    have chBw := hBw.cell
    go_wp2_with fail
    refine (l_eqReachO vo O5 O3 hn' hzo).mono ?_; rintro e w10 ⟨rfl, hb10⟩
    clear chBg chBw
    have hs10 := hb10.size
    try simp only [World.size_alloc] at hs10
    replace hBa := hBa.bel hb10
    replace hBw := hBw.bel hb10
    replace hBg := hBg.bel hb10
    replace O3 := O3.bel hb10
    replace O5 := O5.bel hb10
    replace hW := bel_step hW hb10
    clear hb10
    have chBg := hBg.cell
    go_wp2_with fail
    refine (l_markReach t5 ps.length c5 vo p5 zo.length d5 1 _ _ (w4.heap.size + 1) w5.heap.size _ O5.1 O5.2.1 O5.2.2 hn' hzo (by omega) (by omega)).mono ?_; rintro e w11 ⟨rfl, hM11⟩
    clear chBg
    have hu11 := hM11.2.2
    have hs11 := hu11.size
    replace hBa := hBa.upto hu11 (.inl (by omega))
    replace hBw := hBw.upto hu11 (.inl (by omega))
    replace hBg := hBg.upto hu11 (.inr (by omega))
    replace O3 := O3.upto hu11 (.inl (by omega))
    replace hW := bel_upto hW hu11 (by omega)
    have M5 := RM.of_marked hM11 O5.2.2
    clear hu11 hM11 O5
    have chBg := hBg.cell
    go_wp2_with fail
    refine (l_heldReach t5 ps.length c5 vo p5 zo.length d5 1 _ _ M5.pts M5.nums (Nat.le_refl _) hn' hzo (by omega) (by omega)).mono ?_; rintro e w12 ⟨rfl, hb12⟩
    clear chBg
    have hs12 := hb12.size
    try simp only [World.size_alloc] at hs12
    replace hBa := hBa.bel hb12
    replace hBw := hBw.bel hb12
    replace hBg := hBg.bel hb12
    replace O3 := O3.bel hb12
    replace M5 := M5.bel hb12
    replace hW := bel_step hW hb12
    clear hb12
    have chBa := hBa.cell
    go_wp2_with fail
    refine (HT.out _ hW).mono ?_; rintro e w13 ⟨t13, c13, p13, d13, rfl, hR13, hS13, hb13⟩
    clear chBa
    have hs13 := hb13.size
    try simp only [World.size_alloc] at hs13
    replace hBa := hBa.bel hb13
    replace hBw := hBw.bel hb13
    replace hBg := hBg.bel hb13
    replace O3 := O3.bel hb13
    replace M5 := M5.bel hb13
    replace hW := bel_step hW hb13
    have O13 := RO.mk_ (lo := w12.heap.size) hR13 hS13 (Nat.le_refl _)
    clear hR13 hS13 hb13
    go_wp2_with fail
    refine (HI.out _ _ _ _ _ _ _ O13).mono ?_; rintro e w14 ⟨t14, c14, p14, d14, rfl, hR14, hS14, hb14⟩
    have hs14 := hb14.size
    try simp only [World.size_alloc] at hs14
    replace hBa := hBa.bel hb14
    replace hBw := hBw.bel hb14
    replace hBg := hBg.bel hb14
    replace O3 := O3.bel hb14
    replace M5 := M5.bel hb14
    replace hW := bel_step hW hb14
    have O14 := RO.mk_ (lo := w13.heap.size) hR14 hS14 (Nat.le_refl _)
    clear hR14 hS14 hb14 O13
    obtain ⟨hBh, hbb, _⟩ := boxN w14 29 #[.slice t14 ps.length c14, .int .i64 vo, .slice p14 zo.length d14]
    replace hBa := hBa.bel hbb
    replace hBw := hBw.bel hbb
    replace hBg := hBg.bel hbb
    replace O3 := O3.bel hbb
    replace M5 := M5.bel hbb
    replace O14 := O14.bel hbb
    replace hW := bel_step hW hbb
    clear hbb
    have chBh := hBh.cell
    have chBw := hBw.cell
    go_wp2_with fail
    refine (l_eqReachO vo O14 O3 hn' hzo).mono ?_; rintro e w15 ⟨rfl, hb15⟩
    clear chBh chBw
    have hs15 := hb15.size
    try simp only [World.size_alloc] at hs15
    replace hBa := hBa.bel hb15
    replace hBw := hBw.bel hb15
    replace hBg := hBg.bel hb15
    replace hBh := hBh.bel hb15
    replace O3 := O3.bel hb15
    replace M5 := M5.bel hb15
    replace O14 := O14.bel hb15
    replace hW := bel_step hW hb15
    clear hb15
    have chBg := hBg.cell
    go_wp2_with fail
    refine (l_heldReach t5 ps.length c5 vo p5 zo.length d5 1 _ _ M5.pts M5.nums (Nat.le_refl _) hn' hzo (by omega) (by omega)).mono ?_; rintro e w16 ⟨rfl, hb16⟩
    clear chBg
    replace hW := bel_step hW hb16
    go_wp2
    go_ret
    exact ⟨rfl, hW⟩

end Go.Proofs.Ytgbncfjabnaokab
