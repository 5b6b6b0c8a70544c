/- Contract of the reference's PassOn. -/
import Derived.Test.YtlnmpdkbkkmhiaaPass
namespace Go.Proofs.Ytlnmpdkbkkmhiaa
open Go.RowKit
set_option maxHeartbeats 8000000 in
theorem s_PassOn (fA : Option Addr) (fc : Nat) (pf : List (Int × Int)) (vf : Int) (fP : Option Addr) (fd : Nat) (zf : List Int) (gA : Option Addr) (gc : Nat) (pt : List (Int × Int)) (vt : Int) (gP : Option Addr) (gd : Nat) (zt : List Int) (amount keep : Int) (H : Nat) (w : World)
    (hPf : PtsAt w H fA pf) (hQf : NumsAt w H fP zf) (hPt : PtsAt w H gA pt) (hQt : NumsAt w H gP zt) (hH : H ≤ w.heap.size) (hnf : pf.length ≤ 1048576) (hmf : zf.length ≤ 1048576) (hnt : pt.length ≤ 1048576) (hmt : zt.length ≤ 1048576) (ha : amount ≤ 9223372036854775807) (hk : keep ≤ 9223372036854775807) :
    Calls Try.prog 38 #[.agg #[.slice fA pf.length fc, .int .i64 vf, .slice fP zf.length fd], .agg #[.slice gA pt.length gc, .int .i64 vt, .slice gP zt.length gd], .int .i64 amount, .int .i64 keep] w (PassOut w pf (vf - passN pf vf zf pt vt zt amount keep) zf pt (passVol pf vf zf pt vt zt amount keep) (passZ pf vf zf pt vt zt amount keep) (passN pf vf zf pt vt zt amount keep)) := by
  have HRf := Lib.hid (fun (W : World) (hb : Below w.heap.size w W) => s_ReachOk fA fc pf vf fP fd zf H W (hPf.below (hb.mono hH)) (hQf.below (hb.mono hH)) (Nat.le_trans hH hb.size) hnf hmf)
  have HRt := Lib.hid (fun (W : World) (hb : Below w.heap.size w W) => s_ReachOk gA gc pt vt gP gd zt H W (hPt.below (hb.mono hH)) (hQt.below (hb.mono hH)) (Nat.le_trans hH hb.size) hnt hmt)
  have HCf := Lib.hid (fun (W : World) (hb : Below w.heap.size w W) => s_copy fA fc pf vf fP fd zf H W (hPf.below (hb.mono hH)) (hQf.below (hb.mono hH)) (Nat.le_trans hH hb.size) hnf hmf)
  have HCt := Lib.hid (fun (W : World) (hb : Below w.heap.size w W) => s_copy gA gc pt vt gP gd zt H W (hPt.below (hb.mono hH)) (hQt.below (hb.mono hH)) (Nat.le_trans hH hb.size) hnt hmt)
  have HSt := Lib.hid (fun (W : World) (hb : Below w.heap.size w W) => s_SpaceIn gA gc pt vt gP gd zt H W (hPt.below (hb.mono hH)) (hQt.below (hb.mono hH)) (Nat.le_trans hH hb.size) hnt hmt)
  have HTf := Lib.hid (fun (a : Int) (ha' : a ≤ 9223372036854775807) (W : World) (hb : Below w.heap.size w W) => s_TakeOff fA fc pf vf fP fd zf a keep H W (hPf.below (hb.mono hH)) (hQf.below (hb.mono hH)) (Nat.le_trans hH hb.size) hnf hmf ha' hk)
  have HEt := Lib.hid (fun (a : Int) (W : World) (hb : Below w.heap.size w W) => s_SendTo gA gc pt vt gP gd zt a H W (hPt.below (hb.mono hH)) (hQt.below (hb.mono hH)) (Nat.le_trans hH hb.size) hnt hmt)
  clear hPf hQf hPt hQt
  obtain ⟨hF, hT, h8, h9, hW⟩ := start4 w 32 #[.slice fA pf.length fc, .int .i64 vf, .slice fP zf.length fd] #[.slice gA pt.length gc, .int .i64 vt, .slice gP zt.length gd] #[.slice none 0 0, .int .i64 0, .slice none 0 0] #[.slice none 0 0, .int .i64 0, .slice none 0 0]
  have hsp := space_bd (ps := pt) (vol := vt) (zs := zt)
  have n1 : w.heap.size ≠ w.heap.size + 1 + 1 := by omega
  have n2 : w.heap.size + 1 ≠ w.heap.size + 1 + 1 := by omega
  have n3 : w.heap.size ≠ w.heap.size + 1 + 1 + 1 := by omega
  have n4 : w.heap.size + 1 ≠ w.heap.size + 1 + 1 + 1 := by omega
  rcases pass_cases pf vf zf pt vt zt amount keep with ⟨hb, r1⟩ | ⟨hb, r1, r2⟩ | ⟨hb, r1, r2, q1⟩ | ⟨hb, r1, r2, q1, q2⟩ | ⟨hb, r1, r2, q1, q2⟩
  · obtain ⟨e1, e2, e3⟩ := pass_no hb
    rw [e1, e2, e3]
    clear e1 e2 e3 hb HRt HSt HTf HEt
    have cF := hF.cell
    go_enter Try.func38, Try.ntmps38
    go_wp2_with fail
    refine (HRf.out _ hW).mono ?_; rintro e wx ⟨rfl, hb1⟩
    replace hF := hF.bel hb1
    replace hT := hT.bel hb1
    replace h8 := h8.bel hb1
    replace h9 := h9.bel hb1
    replace hW := bel_step hW hb1
    clear cF hb1
    have S0 : (∀ i, wx.drew.cell? ⟨w.heap.size, i, none⟩ = #[Value.slice fA pf.length fc, .int .i64 vf, .slice fP zf.length fd][i]?) ∧ (∀ i, wx.drew.cell? ⟨w.heap.size + 1, i, none⟩ = #[Value.slice gA pt.length gc, .int .i64 vt, .slice gP zt.length gd][i]?) ∧ w.heap.size < wx.drew.heap.size ∧ w.heap.size + 1 < wx.drew.heap.size := ⟨hF.drew.cell, hT.drew.cell, hF.lt, hT.lt⟩
    have hsx := h9.lt
    have hWd := hW.drew
    have g80 := h8.drew
    have g90 := h9.drew
    go_wp2_with fail
    go_region_held3 (fun w' => (∀ i, w'.cell? ⟨w.heap.size, i, none⟩ = #[Value.slice fA pf.length fc, .int .i64 vf, .slice fP zf.length fd][i]?) ∧ (∀ i, w'.cell? ⟨w.heap.size + 1, i, none⟩ = #[Value.slice gA pt.length gc, .int .i64 vt, .slice gP zt.length gd][i]?) ∧ w.heap.size < w'.heap.size ∧ w.heap.size + 1 < w'.heap.size) (first | with_reducible exact S8 | with_reducible exact S7 | with_reducible exact S0 | with_reducible exact boxes_three S8 n1 n2 | with_reducible exact boxes_three (boxes_three S8 n1 n2) n3 n4) (first | (go_at_call 37; ((with_reducible refine (HCf.out _ hWd).mono ?_)); rintro e w7 ⟨t7, c7, p7, d7, rfl, hR7, hS7, hb7⟩; have S7 := boxes_below hb7 S0; have O7 := RO.mk_ (lo := wx.heap.size) hR7 hS7 (Nat.le_refl _); have hW7 := bel_step hWd hb7) | (go_at_call 37; ((with_reducible refine (HCt.out _ hW7).mono ?_)); rintro e w8 ⟨t8, c8, p8, d8, rfl, hR8, hS8, hb8⟩; have S8 := boxes_below hb8 S7; have O8 := RO.mk_ (lo := w7.heap.size) hR8 hS8 (Nat.le_refl _); have hW8 := bel_step hW7 hb8; have g8 := (g80.bel hb7).bel hb8; have g9 := (g90.bel hb7).bel hb8; have c8x := g8.cell; have f8x := g8.frozen; have c9x := g9.cell; have f9x := g9.frozen))
    have hs7 := hb7.size
    have hs7' : wx.heap.size ≤ w7.heap.size := hs7
    go_wp2
    obtain ⟨e8, e9, P1, P2, hW9⟩ := pass_fin g8 g9 (O7.bel hb8) O8 (by omega) (by omega) hW8 (W := _) rfl
    refine bodyPost_ret (v := .tuple #[.agg #[.slice t7 pf.length c7, .int .i64 vf, .slice p7 zf.length d7], .agg #[.slice t8 pt.length c8, .int .i64 vt, .slice p8 zt.length d8], .int .i64 0]) ?_ rfl ⟨t7, c7, p7, d7, t8, c8, p8, d8, _, _, _, _, by rw [Int.sub_zero], P1, P2, .inl (Nat.le_refl _), by omega, by omega, hW9⟩
    simp [results, Try.results38, go_sem, e8, e9]

  · obtain ⟨e1, e2, e3⟩ := pass_no hb
    rw [e1, e2, e3]
    clear e1 e2 e3 hb HSt HTf HEt
    have cF := hF.cell
    go_enter Try.func38, Try.ntmps38
    go_wp2_with fail
    refine (HRf.out _ hW).mono ?_; rintro e w1 ⟨rfl, hb1⟩
    replace hF := hF.bel hb1
    replace hT := hT.bel hb1
    replace h8 := h8.bel hb1
    replace h9 := h9.bel hb1
    replace hW := bel_step hW hb1
    clear cF hb1
    have cT := hT.cell
    go_wp2_with fail
    refine (HRt.out _ hW).mono ?_; rintro e wx ⟨rfl, hb2⟩
    replace hF := hF.bel hb2
    replace hT := hT.bel hb2
    replace h8 := h8.bel hb2
    replace h9 := h9.bel hb2
    replace hW := bel_step hW hb2
    clear cT hb2
    have S0 : (∀ i, wx.drew.cell? ⟨w.heap.size, i, none⟩ = #[Value.slice fA pf.length fc, .int .i64 vf, .slice fP zf.length fd][i]?) ∧ (∀ i, wx.drew.cell? ⟨w.heap.size + 1, i, none⟩ = #[Value.slice gA pt.length gc, .int .i64 vt, .slice gP zt.length gd][i]?) ∧ w.heap.size < wx.drew.heap.size ∧ w.heap.size + 1 < wx.drew.heap.size := ⟨hF.drew.cell, hT.drew.cell, hF.lt, hT.lt⟩
    have hsx := h9.lt
    have hWd := hW.drew
    have g80 := h8.drew
    have g90 := h9.drew
    go_wp2_with fail
    go_region_held3 (fun w' => (∀ i, w'.cell? ⟨w.heap.size, i, none⟩ = #[Value.slice fA pf.length fc, .int .i64 vf, .slice fP zf.length fd][i]?) ∧ (∀ i, w'.cell? ⟨w.heap.size + 1, i, none⟩ = #[Value.slice gA pt.length gc, .int .i64 vt, .slice gP zt.length gd][i]?) ∧ w.heap.size < w'.heap.size ∧ w.heap.size + 1 < w'.heap.size) (first | with_reducible exact S8 | with_reducible exact S7 | with_reducible exact S0 | with_reducible exact boxes_three S8 n1 n2 | with_reducible exact boxes_three (boxes_three S8 n1 n2) n3 n4) (first | (go_at_call 37; ((with_reducible refine (HCf.out _ hWd).mono ?_)); rintro e w7 ⟨t7, c7, p7, d7, rfl, hR7, hS7, hb7⟩; have S7 := boxes_below hb7 S0; have O7 := RO.mk_ (lo := wx.heap.size) hR7 hS7 (Nat.le_refl _); have hW7 := bel_step hWd hb7) | (go_at_call 37; ((with_reducible refine (HCt.out _ hW7).mono ?_)); rintro e w8 ⟨t8, c8, p8, d8, rfl, hR8, hS8, hb8⟩; have S8 := boxes_below hb8 S7; have O8 := RO.mk_ (lo := w7.heap.size) hR8 hS8 (Nat.le_refl _); have hW8 := bel_step hW7 hb8; have g8 := (g80.bel hb7).bel hb8; have g9 := (g90.bel hb7).bel hb8; have c8x := g8.cell; have f8x := g8.frozen; have c9x := g9.cell; have f9x := g9.frozen))
    have hs7 := hb7.size
    have hs7' : wx.heap.size ≤ w7.heap.size := hs7
    go_wp2
    obtain ⟨e8, e9, P1, P2, hW9⟩ := pass_fin g8 g9 (O7.bel hb8) O8 (by omega) (by omega) hW8 (W := _) rfl
    refine bodyPost_ret (v := .tuple #[.agg #[.slice t7 pf.length c7, .int .i64 vf, .slice p7 zf.length d7], .agg #[.slice t8 pt.length c8, .int .i64 vt, .slice p8 zt.length d8], .int .i64 0]) ?_ rfl ⟨t7, c7, p7, d7, t8, c8, p8, d8, _, _, _, _, by rw [Int.sub_zero], P1, P2, .inl (Nat.le_refl _), by omega, by omega, hW9⟩
    simp [results, Try.results38, go_sem, e8, e9]

  · obtain ⟨e1, e2, e3⟩ := pass_no hb
    rw [e1, e2, e3]
    clear e1 e2 e3 hb HSt HTf HEt
    have cF := hF.cell
    go_enter Try.func38, Try.ntmps38
    go_wp2_with fail
    refine (HRf.out _ hW).mono ?_; rintro e w1 ⟨rfl, hb1⟩
    replace hF := hF.bel hb1
    replace hT := hT.bel hb1
    replace h8 := h8.bel hb1
    replace h9 := h9.bel hb1
    replace hW := bel_step hW hb1
    clear cF hb1
    have cT := hT.cell
    go_wp2_with fail
    refine (HRt.out _ hW).mono ?_; rintro e wx ⟨rfl, hb2⟩
    replace hF := hF.bel hb2
    replace hT := hT.bel hb2
    replace h8 := h8.bel hb2
    replace h9 := h9.bel hb2
    replace hW := bel_step hW hb2
    clear cT hb2
    have S0 : (∀ i, wx.drew.cell? ⟨w.heap.size, i, none⟩ = #[Value.slice fA pf.length fc, .int .i64 vf, .slice fP zf.length fd][i]?) ∧ (∀ i, wx.drew.cell? ⟨w.heap.size + 1, i, none⟩ = #[Value.slice gA pt.length gc, .int .i64 vt, .slice gP zt.length gd][i]?) ∧ w.heap.size < wx.drew.heap.size ∧ w.heap.size + 1 < wx.drew.heap.size := ⟨hF.drew.cell, hT.drew.cell, hF.lt, hT.lt⟩
    have hsx := h9.lt
    have hWd := hW.drew
    have g80 := h8.drew
    have g90 := h9.drew
    go_wp2_with fail
    go_region_held3 (fun w' => (∀ i, w'.cell? ⟨w.heap.size, i, none⟩ = #[Value.slice fA pf.length fc, .int .i64 vf, .slice fP zf.length fd][i]?) ∧ (∀ i, w'.cell? ⟨w.heap.size + 1, i, none⟩ = #[Value.slice gA pt.length gc, .int .i64 vt, .slice gP zt.length gd][i]?) ∧ w.heap.size < w'.heap.size ∧ w.heap.size + 1 < w'.heap.size) (first | with_reducible exact S8 | with_reducible exact S7 | with_reducible exact S0 | with_reducible exact boxes_three S8 n1 n2 | with_reducible exact boxes_three (boxes_three S8 n1 n2) n3 n4) (first | (go_at_call 37; ((with_reducible refine (HCf.out _ hWd).mono ?_)); rintro e w7 ⟨t7, c7, p7, d7, rfl, hR7, hS7, hb7⟩; have S7 := boxes_below hb7 S0; have O7 := RO.mk_ (lo := wx.heap.size) hR7 hS7 (Nat.le_refl _); have hW7 := bel_step hWd hb7) | (go_at_call 37; ((with_reducible refine (HCt.out _ hW7).mono ?_)); rintro e w8 ⟨t8, c8, p8, d8, rfl, hR8, hS8, hb8⟩; have S8 := boxes_below hb8 S7; have O8 := RO.mk_ (lo := w7.heap.size) hR8 hS8 (Nat.le_refl _); have hW8 := bel_step hW7 hb8; have g8 := (g80.bel hb7).bel hb8; have g9 := (g90.bel hb7).bel hb8; have c8x := g8.cell; have f8x := g8.frozen; have c9x := g9.cell; have f9x := g9.frozen))
    have hs7 := hb7.size
    have hs7' : wx.heap.size ≤ w7.heap.size := hs7
    go_wp2
    obtain ⟨e8, e9, P1, P2, hW9⟩ := pass_fin g8 g9 (O7.bel hb8) O8 (by omega) (by omega) hW8 (W := _) rfl
    refine bodyPost_ret (v := .tuple #[.agg #[.slice t7 pf.length c7, .int .i64 vf, .slice p7 zf.length d7], .agg #[.slice t8 pt.length c8, .int .i64 vt, .slice p8 zt.length d8], .int .i64 0]) ?_ rfl ⟨t7, c7, p7, d7, t8, c8, p8, d8, _, _, _, _, by rw [Int.sub_zero], P1, P2, .inl (Nat.le_refl _), by omega, by omega, hW9⟩
    simp [results, Try.results38, go_sem, e8, e9]

  · obtain ⟨e1, e2, e3⟩ := pass_no hb
    rw [e1, e2, e3]
    clear e1 e2 e3 hb HSt HTf HEt
    have cF := hF.cell
    go_enter Try.func38, Try.ntmps38
    go_wp2_with fail
    refine (HRf.out _ hW).mono ?_; rintro e w1 ⟨rfl, hb1⟩
    replace hF := hF.bel hb1
    replace hT := hT.bel hb1
    replace h8 := h8.bel hb1
    replace h9 := h9.bel hb1
    replace hW := bel_step hW hb1
    clear cF hb1
    have cT := hT.cell
    go_wp2_with fail
    refine (HRt.out _ hW).mono ?_; rintro e wx ⟨rfl, hb2⟩
    replace hF := hF.bel hb2
    replace hT := hT.bel hb2
    replace h8 := h8.bel hb2
    replace h9 := h9.bel hb2
    replace hW := bel_step hW hb2
    clear cT hb2
    have S0 : (∀ i, wx.drew.cell? ⟨w.heap.size, i, none⟩ = #[Value.slice fA pf.length fc, .int .i64 vf, .slice fP zf.length fd][i]?) ∧ (∀ i, wx.drew.cell? ⟨w.heap.size + 1, i, none⟩ = #[Value.slice gA pt.length gc, .int .i64 vt, .slice gP zt.length gd][i]?) ∧ w.heap.size < wx.drew.heap.size ∧ w.heap.size + 1 < wx.drew.heap.size := ⟨hF.drew.cell, hT.drew.cell, hF.lt, hT.lt⟩
    have hsx := h9.lt
    have hWd := hW.drew
    have g80 := h8.drew
    have g90 := h9.drew
    go_wp2_with fail
    go_region_held3 (fun w' => (∀ i, w'.cell? ⟨w.heap.size, i, none⟩ = #[Value.slice fA pf.length fc, .int .i64 vf, .slice fP zf.length fd][i]?) ∧ (∀ i, w'.cell? ⟨w.heap.size + 1, i, none⟩ = #[Value.slice gA pt.length gc, .int .i64 vt, .slice gP zt.length gd][i]?) ∧ w.heap.size < w'.heap.size ∧ w.heap.size + 1 < w'.heap.size) (first | with_reducible exact S8 | with_reducible exact S7 | with_reducible exact S0 | with_reducible exact boxes_three S8 n1 n2 | with_reducible exact boxes_three (boxes_three S8 n1 n2) n3 n4) (first | (go_at_call 37; ((with_reducible refine (HCf.out _ hWd).mono ?_)); rintro e w7 ⟨t7, c7, p7, d7, rfl, hR7, hS7, hb7⟩; have S7 := boxes_below hb7 S0; have O7 := RO.mk_ (lo := wx.heap.size) hR7 hS7 (Nat.le_refl _); have hW7 := bel_step hWd hb7) | (go_at_call 37; ((with_reducible refine (HCt.out _ hW7).mono ?_)); rintro e w8 ⟨t8, c8, p8, d8, rfl, hR8, hS8, hb8⟩; have S8 := boxes_below hb8 S7; have O8 := RO.mk_ (lo := w7.heap.size) hR8 hS8 (Nat.le_refl _); have hW8 := bel_step hW7 hb8; have g8 := (g80.bel hb7).bel hb8; have g9 := (g90.bel hb7).bel hb8; have c8x := g8.cell; have f8x := g8.frozen; have c9x := g9.cell; have f9x := g9.frozen))
    have hs7 := hb7.size
    have hs7' : wx.heap.size ≤ w7.heap.size := hs7
    go_wp2
    obtain ⟨e8, e9, P1, P2, hW9⟩ := pass_fin g8 g9 (O7.bel hb8) O8 (by omega) (by omega) hW8 (W := _) rfl
    refine bodyPost_ret (v := .tuple #[.agg #[.slice t7 pf.length c7, .int .i64 vf, .slice p7 zf.length d7], .agg #[.slice t8 pt.length c8, .int .i64 vt, .slice p8 zt.length d8], .int .i64 0]) ?_ rfl ⟨t7, c7, p7, d7, t8, c8, p8, d8, _, _, _, _, by rw [Int.sub_zero], P1, P2, .inl (Nat.le_refl _), by omega, by omega, hW9⟩
    simp [results, Try.results38, go_sem, e8, e9]

  · obtain ⟨e1, e2, e3⟩ := pass_yes hb
    rw [e1, e2, e3]
    clear e1 e2 e3 hb HCf HCt
    generalize spaceV pt vt zt = sp at *
    obtain ⟨m, hif⟩ : ∃ m, (if sp < amount then sp else amount) = m := ⟨_, rfl⟩
    have hmi : minI amount sp = m := hif
    rw [hmi]
    have hab : m ≤ 9223372036854775807 := by rw [← hif]; split <;> omega
    clear hmi
    have HTf' := Lib.hid (fun (W : World) (hb : Below w.heap.size w W) => HTf.out m hab W hb)
    generalize takeV pf vf zf m keep = n at *
    clear HTf hab
    have HEn := Lib.hid (fun (W : World) (hb : Below w.heap.size w W) => HEt.out n W hb)
    clear HEt
    generalize sendVol pt vt zt n = vo at *
    generalize sendZ pt vt zt n = zo at *
    have cF := hF.cell
    go_enter Try.func38, Try.ntmps38
    go_wp2_with fail
    refine (HRf.out _ hW).mono ?_; rintro e w1 ⟨rfl, hb1⟩
    replace hF := hF.bel hb1
    replace hT := hT.bel hb1
    replace h8 := h8.bel hb1
    replace h9 := h9.bel hb1
    replace hW := bel_step hW hb1
    clear cF hb1
    have cT := hT.cell
    go_wp2_with fail
    refine (HRt.out _ hW).mono ?_; rintro e wx ⟨rfl, hb2⟩
    replace hF := hF.bel hb2
    replace hT := hT.bel hb2
    replace h8 := h8.bel hb2
    replace h9 := h9.bel hb2
    replace hW := bel_step hW hb2
    clear cT hb2
    have S0 : (∀ i, wx.drew.cell? ⟨w.heap.size, i, none⟩ = #[Value.slice fA pf.length fc, .int .i64 vf, .slice fP zf.length fd][i]?) ∧ (∀ i, wx.drew.cell? ⟨w.heap.size + 1, i, none⟩ = #[Value.slice gA pt.length gc, .int .i64 vt, .slice gP zt.length gd][i]?) ∧ w.heap.size < wx.drew.heap.size ∧ w.heap.size + 1 < wx.drew.heap.size := ⟨hF.drew.cell, hT.drew.cell, hF.lt, hT.lt⟩
    have hsx : w.heap.size + 1 + 1 + 1 < wx.heap.size := h9.lt
    have hWd := hW.drew
    have hWda := (bel_alloc hW (.cells #[.slice none 0 0, .int .i64 0, .slice none 0 0] 32)).drew
    have S0a : (∀ i, (wx.alloc (.cells #[.slice none 0 0, .int .i64 0, .slice none 0 0] 32)).drew.cell? ⟨w.heap.size, i, none⟩ = #[Value.slice fA pf.length fc, .int .i64 vf, .slice fP zf.length fd][i]?) ∧ (∀ i, (wx.alloc (.cells #[.slice none 0 0, .int .i64 0, .slice none 0 0] 32)).drew.cell? ⟨w.heap.size + 1, i, none⟩ = #[Value.slice gA pt.length gc, .int .i64 vt, .slice gP zt.length gd][i]?) ∧ w.heap.size < (wx.alloc (.cells #[.slice none 0 0, .int .i64 0, .slice none 0 0] 32)).drew.heap.size ∧ w.heap.size + 1 < (wx.alloc (.cells #[.slice none 0 0, .int .i64 0, .slice none 0 0] 32)).drew.heap.size := ⟨(hF.alloc _).drew.cell, (hT.alloc _).drew.cell, (hF.alloc _).lt, (hT.alloc _).lt⟩
    go_upto_region 3 with (fail)
    go_cut [11, 12] (fun s11 s12 wy => PassMid w pf (vf - n) zf n #[.slice fA pf.length fc, .int .i64 vf, .slice fP zf.length fd] #[.slice gA pt.length gc, .int .i64 vt, .slice gP zt.length gd] s11 s12 wy)
    case first =>
      go_region_held3 (fun w' => (∀ i, w'.cell? ⟨w.heap.size, i, none⟩ = #[Value.slice fA pf.length fc, .int .i64 vf, .slice fP zf.length fd][i]?) ∧ (∀ i, w'.cell? ⟨w.heap.size + 1, i, none⟩ = #[Value.slice gA pt.length gc, .int .i64 vt, .slice gP zt.length gd][i]?) ∧ w.heap.size < w'.heap.size ∧ w.heap.size + 1 < w'.heap.size) (first | with_reducible exact S8 | with_reducible exact S7 | with_reducible exact S0 | with_reducible exact S0a | with_reducible exact boxes_alloc S8 _ | with_reducible exact boxes_alloc S7 _ | ((with_reducible refine boxes_three S8 ?_ ?_) <;> omega)) (first | (go_at_call 60; ((with_reducible refine (HSt.out _ hWd).mono ?_)); rintro e w7 ⟨rfl, hb7⟩; have S7 := boxes_below hb7 S0; have hW7 := bel_step hWd hb7; have F7 := hF.drew.bel hb7; have T7 := hT.drew.bel hb7; have E7 := h8.drew.bel hb7; have N7 := h9.drew.bel hb7; have hs7 : wx.heap.size ≤ w7.heap.size := hb7.size) | (go_at_call 60; ((with_reducible refine (HSt.out _ hWda).mono ?_)); rintro e w7 ⟨rfl, hb7⟩; have S7 := boxes_below hb7 S0a; have hW7 := bel_step hWda hb7; have F7 := (hF.alloc _).drew.bel hb7; have T7 := (hT.alloc _).drew.bel hb7; have E7 := (h8.alloc _).drew.bel hb7; have N7 := (h9.alloc _).drew.bel hb7; have X7 := (Blk.new wx 32 #[.slice none 0 0, .int .i64 0, .slice none 0 0]).drew.bel hb7; have hs7 := hb7.size; simp only [World.size_drew, World.size_alloc] at hs7) | (go_at_call 59; ((with_reducible refine (HTf'.out _ hW7).mono ?_)); rintro e w8 ⟨t8, c8, p8, d8, rfl, hR8, hS8, hb8⟩; have S8 := boxes_below hb8 S7; have hW8 := bel_step hW7 hb8; have F8 := F7.bel hb8; have T8 := T7.bel hb8; have E8 := E7.bel hb8; have N8 := N7.bel hb8; (try (have X8 := X7.bel hb8; have cX8 := X8.cell; have fX8 := X8.frozen)); have O8 := RO.mk_ (lo := w7.heap.size) hR8 hS8 (Nat.le_refl _); have hs8 := hb8.size) | (go_at_call 59; ((with_reducible refine (HTf'.out _ (bel_alloc hW7 (.cells #[.slice none 0 0, .int .i64 0, .slice none 0 0] 32))).mono ?_)); rintro e w8 ⟨t8, c8, p8, d8, rfl, hR8, hS8, hb8⟩; have S8 := boxes_below hb8 (boxes_alloc S7 (.cells #[.slice none 0 0, .int .i64 0, .slice none 0 0] 32)); have hW8 := bel_step (bel_alloc hW7 _) hb8; have F8 := (F7.alloc _).bel hb8; have T8 := (T7.alloc _).bel hb8; have E8 := (E7.alloc _).bel hb8; have N8 := (N7.alloc _).bel hb8; have X8 := (Blk.new w7 32 #[.slice none 0 0, .int .i64 0, .slice none 0 0]).bel hb8; have cX8 := X8.cell; have fX8 := X8.frozen; have O8 := RO.mk_ (lo := w7.heap.size + 1) hR8 hS8 (by simp); have hs8 := hb8.size; simp only [World.size_alloc] at hs8))
      all_goals
        have k2 : w.heap.size + 1 + 1 + 1 < w7.heap.size := N7.lt
        have k1 : w.heap.size + 1 + 1 + 1 < w8.heap.size := N8.lt
        have k2' : w.heap.size + 1 + 1 + 1 < w7.heap.size + 1 := by omega
        go_wp2_with fail
        go_meet
        first
          | (refine ⟨w8.heap.size, t8, c8, p8, d8, _, _, rfl, rfl, k1, k2, k1, Blk.new _ _ _, O8.alloc_ _, F8.alloc _, T8.alloc _, E8.alloc _, N8.alloc _, bel_alloc hW8 _⟩; done)
          | (refine ⟨w7.heap.size, t8, c8, p8, d8, _, _, rfl, rfl, k2, k2', k1, X8.three, O8.three ?_, F8.farn ?_, T8.farn ?_, E8.farn ?_, N8.farn ?_, bel_three hW8 ?_⟩ <;> omega)
          | (refine ⟨wx.heap.size, t8, c8, p8, d8, _, _, rfl, rfl, hsx, k2, k1, X8.three, O8.three ?_, F8.farn ?_, T8.farn ?_, E8.farn ?_, N8.farn ?_, bel_three hW8 ?_⟩ <;> omega)
    case rest =>
      obtain ⟨g, t8, c8, p8, d8, lo, hi, rfl, rfl, hg, hlo, hhi, X, O8, hF, hT, h8, h9, hW⟩ := hcut
      clear HSt HRf HRt hif S0 hsp
      have S0 := (show (∀ i, (World.drew _).cell? ⟨w.heap.size + 1, i, none⟩ = #[Value.slice gA pt.length gc, .int .i64 vt, .slice gP zt.length gd][i]?) ∧ (∀ i, (World.drew _).cell? ⟨g, i, none⟩ = #[Value.slice t8 pf.length c8, .int .i64 (vf - n), .slice p8 zf.length d8][i]?) ∧ w.heap.size + 1 < (World.drew _).heap.size ∧ g < (World.drew _).heap.size from ⟨hT.drew.cell, X.drew.cell, hT.lt, X.lt⟩)
      have hWd := hW.drew
      have g80 := h8.drew
      have g90 := h9.drew
      have O8d := O8.drew_
      have m1 : w.heap.size + 1 ≠ w.heap.size + 1 + 1 := by omega
      have m2 : g ≠ w.heap.size + 1 + 1 := by omega
      have m3 : w.heap.size + 1 ≠ w.heap.size + 1 + 1 + 1 := by omega
      have m4 : g ≠ w.heap.size + 1 + 1 + 1 := by omega
      have hN9 := h9.lt
      have hO8s := O8.2.2
      go_wp2_with fail
      go_region_held3 (fun w' => (∀ i, w'.cell? ⟨w.heap.size + 1, i, none⟩ = #[Value.slice gA pt.length gc, .int .i64 vt, .slice gP zt.length gd][i]?) ∧ (∀ i, w'.cell? ⟨g, i, none⟩ = #[Value.slice t8 pf.length c8, .int .i64 (vf - n), .slice p8 zf.length d8][i]?) ∧ w.heap.size + 1 < w'.heap.size ∧ g < w'.heap.size) (first | with_reducible exact S12 | with_reducible exact S0 | with_reducible exact boxes_three S12 m1 m2 | with_reducible exact boxes_three (boxes_three S12 m1 m2) m3 m4) (first | (go_at_call 61; ((with_reducible refine (HEn.out _ hWd).mono ?_)); rintro e w12 ⟨t9, c9, p9, d9, rfl, hR9, hS9, hb12⟩; have S12 := boxes_below hb12 S0; have g8 := g80.bel hb12; have g9 := g90.bel hb12; have c8x := g8.cell; have f8x := g8.frozen; have c9x := g9.cell; have f9x := g9.frozen; have O12 := O8d.bel hb12; have hW12 := bel_step hWd hb12))
      have O9 := RO.mk_ (lo := hi) hR9 hS9 hO8s
      go_wp2
      obtain ⟨e8, e9, P1, P2, hW9⟩ := pass_fin g8 g9 O12 O9 (by omega) (by omega) hW12 (W := _) rfl
      refine bodyPost_ret (v := .tuple #[.agg #[.slice t8 pf.length c8, .int .i64 (vf - n), .slice p8 zf.length d8], .agg #[.slice t9 pt.length c9, .int .i64 vo, .slice p9 zo.length d9], .int .i64 n]) ?_ rfl ⟨t8, c8, p8, d8, t9, c9, p9, d9, _, _, _, _, rfl, P1, P2, .inl (Nat.le_refl _), by omega, by omega, hW9⟩
      simp [results, Try.results38, go_sem, e8, e9]
end Go.Proofs.Ytlnmpdkbkkmhiaa
