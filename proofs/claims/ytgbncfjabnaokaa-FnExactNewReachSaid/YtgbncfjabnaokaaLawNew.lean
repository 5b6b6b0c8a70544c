/- Walk of the law FnExactNewReach. -/
import Derived.Test.YtgbncfjabnaokaaNewB
namespace Go.Proofs.Ytgbncfjabnaokaa
open Go.RowKit

set_option maxHeartbeats 8000000 in
set_option maxRecDepth 100000 in
theorem walk_FnExactNewReach (A : Option Addr) (c : Nat) (ps : List (Int × Int)) (a0 a1 : Int) (_h0 : (Lit.int .i64 a0).wf = true) (_h1 : (Lit.int .i64 a1).wf = true) (w : World) (hP : PtsAt w w.heap.size A ps) (hm : ps.length ≤ 9223372036854775807) :
    Calls Try.prog 7 #[.slice A ps.length c, .int .i64 a0, .int .i64 a1] w fun e w' => e = .returned (.bool true) ∧ Below w.heap.size w w' := by
  by_cases hbig : 1048576 < ps.length
  · have hz := szV_neg hbig
    clear hP
    generalize ps.length = n at *
    go_enter Try.func7, Try.ntmps7
    go_wp2_with (go_at_call 23; refine (l_szPointS A n c _ _ (by omega) (by omega) hm).mono ?_; rintro e w' ⟨rfl, rfl⟩)
    go_ret
    exact ⟨rfl, Below.refl _ _⟩
  · have hz := szV_pos (n := ps.length) (by omega)
    have hn : ps.length ≤ 1048576 := by omega
    have HT := Lib.hid (fun (W : World) (hb : Below w.heap.size w W) => l_toPointS A c ps w.heap.size W (hP.below hb) hb.size hn)
    clear hP
    obtain ⟨po, vo, zo, bo, hpo, hzo, HS0, HI0⟩ := FnExactNewReach_both ps a0 a1 hn
    have HS := Lib.hid HS0
    have HI := Lib.hid HI0
    have hW := Below.refl w.heap.size w
    clear HS0 HI0
    go_enter Try.func7, Try.ntmps7
    go_wp2_with fail
    refine (l_szPointS A ps.length c _ _ (by omega) (by omega) hm).mono ?_; rintro e w' ⟨rfl, rfl⟩
    go_wp2_with fail
    refine (HT.out _ hW).mono ?_; rintro e w2 ⟨t2, c2, rfl, hR2, hb2⟩
    have hs2 := hb2.size
    try simp only [World.size_alloc] at hs2
    replace hW := bel_step hW hb2
    have O2 := RP.mk_ (lo := w.heap.size) hR2 (Nat.le_refl _)
    clear hR2 hb2
    go_wp2_with fail
    refine (HS.out _ _ _ _ _ O2).mono ?_; rintro e w3 ⟨t3, c3, p3, d3, rfl, hR3, hS3, hb3⟩
    have hs3 := hb3.size
    try simp only [World.size_alloc] at hs3
    replace hW := bel_step hW hb3
    have O3 := RO.mk_ (lo := w2.heap.size) hR3 hS3 (Nat.le_refl _)
    clear hR3 hS3 hb3 O2
    obtain ⟨hBw, hbb, _⟩ := boxN w3 30 #[.slice t3 po.length c3, .int .i64 vo, .slice p3 zo.length d3]
    replace O3 := O3.bel hbb
    replace hW := bel_step hW hbb
    clear hbb
    go_wp2_with fail
    refine (HT.out _ hW).mono ?_; rintro e w4 ⟨t4, c4, rfl, hR4, hb4⟩
    have hs4 := hb4.size
    try simp only [World.size_alloc] at hs4
    replace hBw := hBw.bel hb4
    replace O3 := O3.bel hb4
    replace hW := bel_step hW hb4
    have O4 := RP.mk_ (lo := w3.heap.size + 1) hR4 (by simp)
    clear hR4 hb4
    go_wp2_with fail
    refine (HI.out _ _ _ _ _ O4).mono ?_; rintro e w5 ⟨t5, c5, p5, d5, rfl, hR5, hS5, hb5⟩
    have hs5 := hb5.size
    try simp only [World.size_alloc] at hs5
    replace hBw := hBw.bel hb5
    replace O3 := O3.bel hb5
    replace O4 := O4.bel hb5
    replace hW := bel_step hW hb5
    have O5 := RO.mk_ (lo := w4.heap.size) hR5 hS5 (Nat.le_refl _)
    clear hR5 hS5 hb5
    obtain ⟨hBg, hbb, _⟩ := boxN w5 30 #[.slice t5 po.length c5, .int .i64 vo, .slice p5 zo.length d5]
    replace hBw := hBw.bel hbb
    replace O3 := O3.bel hbb
    replace O4 := O4.bel hbb
    replace O5 := O5.bel hbb
    replace hW := bel_step hW hbb
    clear hbb
    have chBg := hBg.cell
    have chBw := hBw.cell
    go_wp2_with fail
    refine (l_eqReachO vo O5 O3 hpo hzo).mono ?_; rintro e w6 ⟨rfl, hb6⟩
    clear chBg chBw
    have hs6 := hb6.size
    try simp only [World.size_alloc] at hs6
    replace hBw := hBw.bel hb6
    replace hBg := hBg.bel hb6
    replace O3 := O3.bel hb6
    replace O4 := O4.bel hb6
    replace O5 := O5.bel hb6
    replace hW := bel_step hW hb6
    clear hb6
    go_wp2_with fail
    refine (HT.out _ hW).mono ?_; rintro e w7 ⟨t7, c7, rfl, hR7, hb7⟩
    have hs7 := hb7.size
    try simp only [World.size_alloc] at hs7
    replace hBw := hBw.bel hb7
    replace hBg := hBg.bel hb7
    replace O3 := O3.bel hb7
    replace O4 := O4.bel hb7
    replace O5 := O5.bel hb7
    replace hW := bel_step hW hb7
    have O7 := RP.mk_ (lo := 0) hR7 (Nat.zero_le _)
    clear hR7 hb7
    go_wp2_with fail
    refine (l_eqPointS t4 t7 c4 c7 ps w7.heap.size _ O4.pts O7.pts (Nat.le_refl _) hn).mono ?_; rintro e w8 ⟨rfl, hb8⟩
    have hs8 := hb8.size
    try simp only [World.size_alloc] at hs8
    replace hBw := hBw.bel hb8
    replace hBg := hBg.bel hb8
    replace O3 := O3.bel hb8
    replace O4 := O4.bel hb8
    replace O5 := O5.bel hb8
    replace hW := bel_step hW hb8
    clear hb8 O7
    go_wp2_with fail
    refine (l_markPointS t4 ps.length c4 1 _ (w3.heap.size + 1) w4.heap.size _ O4.1 hn (by omega) (by omega)).mono ?_; rintro e w9 ⟨rfl, _, hg9⟩
    have hu9 := Upto.of_grown hg9 (row_in O4.1)
    have hs9 := hu9.size
    replace hBw := hBw.upto hu9 (.inl (by omega))
    replace hBg := hBg.upto hu9 (.inr (by omega))
    replace O3 := O3.upto hu9 (.inl (by omega))
    replace O5 := O5.upto hu9 (.inr (by omega))
    replace hW := bel_upto hW hu9 (by omega)
    clear hu9 hg9 O4
    have chBg := hBg.cell
    have chBw := hBw.cell
    go_wp2_with fail
    refine (l_eqReachO vo O5 O3 hpo hzo).mono ?_; rintro e w10 ⟨rfl, hb10⟩
    clear chBg chBw
    have hs10 := hb10.size
    try simp only [World.size_alloc] at hs10
    replace hBw := hBw.bel hb10
    replace hBg := hBg.bel hb10
    replace O3 := O3.bel hb10
    replace O5 := O5.bel hb10
    replace hW := bel_step hW hb10
    clear hb10
    have chBg := hBg.cell
    go_wp2_with fail
    refine (l_markReach t5 po.length c5 vo p5 zo.length d5 1 _ _ w4.heap.size w5.heap.size _ O5.1 O5.2.1 O5.2.2 hpo hzo (by omega) (by omega)).mono ?_; rintro e w11 ⟨rfl, hM11⟩
    clear chBg
    have hu11 := hM11.2.2
    have hs11 := hu11.size
    replace hBw := hBw.upto hu11 (.inl (by omega))
    replace hBg := hBg.upto hu11 (.inr (by omega))
    replace O3 := O3.upto hu11 (.inl (by omega))
    replace hW := bel_upto hW hu11 (by omega)
    have M5 := RM.of_marked hM11 O5.2.2
    clear hu11 hM11 O5
    have chBg := hBg.cell
    go_wp2_with fail
    refine (l_heldReach t5 po.length c5 vo p5 zo.length d5 1 _ _ M5.pts M5.nums (Nat.le_refl _) hpo hzo (by omega) (by omega)).mono ?_; rintro e w12 ⟨rfl, hb12⟩
    clear chBg
    have hs12 := hb12.size
    try simp only [World.size_alloc] at hs12
    replace hBw := hBw.bel hb12
    replace hBg := hBg.bel hb12
    replace O3 := O3.bel hb12
    replace M5 := M5.bel hb12
    replace hW := bel_step hW hb12
    clear hb12
    go_wp2_with fail
    refine (HT.out _ hW).mono ?_; rintro e w13 ⟨t13, c13, rfl, hR13, hb13⟩
    have hs13 := hb13.size
    try simp only [World.size_alloc] at hs13
    replace hBw := hBw.bel hb13
    replace hBg := hBg.bel hb13
    replace O3 := O3.bel hb13
    replace M5 := M5.bel hb13
    replace hW := bel_step hW hb13
    have O13 := RP.mk_ (lo := w12.heap.size) hR13 (Nat.le_refl _)
    clear hR13 hb13
    go_wp2_with fail
    refine (HI.out _ _ _ _ _ O13).mono ?_; rintro e w14 ⟨t14, c14, p14, d14, rfl, hR14, hS14, hb14⟩
    have hs14 := hb14.size
    try simp only [World.size_alloc] at hs14
    replace hBw := hBw.bel hb14
    replace hBg := hBg.bel hb14
    replace O3 := O3.bel hb14
    replace M5 := M5.bel hb14
    replace hW := bel_step hW hb14
    have O14 := RO.mk_ (lo := w13.heap.size) hR14 hS14 (Nat.le_refl _)
    clear hR14 hS14 hb14 O13
    obtain ⟨hBh, hbb, _⟩ := boxN w14 30 #[.slice t14 po.length c14, .int .i64 vo, .slice p14 zo.length d14]
    replace hBw := hBw.bel hbb
    replace hBg := hBg.bel hbb
    replace O3 := O3.bel hbb
    replace M5 := M5.bel hbb
    replace O14 := O14.bel hbb
    replace hW := bel_step hW hbb
    clear hbb
    have chBh := hBh.cell
    have chBw := hBw.cell
    go_wp2_with fail
    refine (l_eqReachO vo O14 O3 hpo hzo).mono ?_; rintro e w15 ⟨rfl, hb15⟩
    clear chBh chBw
    have hs15 := hb15.size
    try simp only [World.size_alloc] at hs15
    replace hBw := hBw.bel hb15
    replace hBg := hBg.bel hb15
    replace hBh := hBh.bel hb15
    replace O3 := O3.bel hb15
    replace M5 := M5.bel hb15
    replace O14 := O14.bel hb15
    replace hW := bel_step hW hb15
    clear hb15
    have chBg := hBg.cell
    go_wp2_with fail
    refine (l_heldReach t5 po.length c5 vo p5 zo.length d5 1 _ _ M5.pts M5.nums (Nat.le_refl _) hpo hzo (by omega) (by omega)).mono ?_; rintro e w16 ⟨rfl, hb16⟩
    clear chBg
    replace hW := bel_step hW hb16
    go_wp2
    go_ret
    exact ⟨rfl, hW⟩

end Go.Proofs.Ytgbncfjabnaokaa
