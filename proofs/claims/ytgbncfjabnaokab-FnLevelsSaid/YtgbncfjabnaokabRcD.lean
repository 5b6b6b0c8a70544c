/- Contracts of the draws of reaches: l02Reach. -/
import Derived.Test.YtgbncfjabnaokabRcP
import Derived.Test.YtgbncfjabnaokabTabD
import Derived.Test.YtgbncfjabnaokabFlowB
namespace Go.Proofs.Ytgbncfjabnaokab
open Go.RowKit

theorem RO.grown {W w' : World} {lo hi g : Nat} {ps : List (Int × Int)} {zs : List Int} {tA : Option Addr} {tc : Nat} {pA : Option Addr} {pc : Nat} (h : RO W lo hi ps zs tA tc pA pc) (hg : W.grownBy w' (some g)) (hl : g < lo) : RO w' lo hi ps zs tA tc pA pc := by
  have key : ∀ k, lo ≤ k → k < hi → w'.heap[k]? = W.heap[k]? := fun k h1 h2 => hg.block k (Nat.lt_of_lt_of_le h2 h.2.2) (fun e => by injection e; omega)
  exact ⟨h.1.same key, h.2.1.same key, Nat.le_trans h.2.2 hg.size⟩
/-- Three cells of a reach's box are stored. -/
theorem RO.box3 {W : World} {lo hi g : Nat} {ps : List (Int × Int)} {zs : List Int} {tA : Option Addr} {tc : Nat} {pA : Option Addr} {pc : Nat} {x y z a b c : Value} (h : RO W lo hi ps zs tA tc pA pc) (hB : Blk W g 29 #[x, y, z]) :
    RO (((W.setCell ⟨g, 0, none⟩ a).setCell ⟨g, 1, none⟩ b).setCell ⟨g, 2, none⟩ c) lo hi ps zs tA tc pA pc :=
  ⟨⟨own_three h.1.1 hB (by decide), h.1.2⟩, ⟨own_three h.2.1.1 hB (by decide), h.2.1.2⟩, by simpa [World.setCell] using h.2.2⟩
theorem Dr.box3 {W : World} {g H n c k : Nat} {A : Option Addr} {zs : List Int} {x y z : Value} (h : Dr W g H A n c zs) (hk : g < k) : Dr (((W.setCell ⟨k, 0, none⟩ x).setCell ⟨k, 1, none⟩ y).setCell ⟨k, 2, none⟩ z) g H A n c zs := by
  have hl := h.le
  exact ((h.set_ (p := ⟨k, 0, none⟩) (by show H ≤ k; omega) (by show k ≠ g; omega) x).set_ (p := ⟨k, 1, none⟩) (by show H ≤ k; omega) (by show k ≠ g; omega) y).set_ (p := ⟨k, 2, none⟩) (by show H ≤ k; omega) (by show k ≠ g; omega) z
theorem grown_box3 {w W : World} {g k : Nat} {x y z : Value} (h : w.grownBy W (some g)) (hk : w.heap.size ≤ k) : w.grownBy (((W.setCell ⟨k, 0, none⟩ x).setCell ⟨k, 1, none⟩ y).setCell ⟨k, 2, none⟩ z) (some g) :=
  only_setCell (only_setCell (only_setCell h (.inr hk) x) (.inr hk) y) (.inr hk) z
theorem grown_bel {w W w' : World} {g : Nat} (h : w.grownBy W (some g)) (hb : Below W.heap.size W w') : w.grownBy w' (some g) :=
  grown_mix h (row := none) ⟨hb.os, hb.tape, hb.output, hb.size, fun i hi _ => hb.block i hi⟩ (fun k hk => by cases hk)
/-- One box, kept over a call that writes only the cursor. -/
theorem boxg {W w1 : World} {g B : Nat} {xs : Array Value} (hg : W.grownBy w1 (some g)) (hne : B ≠ g) (h : (∀ i, W.cell? ⟨B, i, none⟩ = xs[i]?) ∧ B < W.heap.size) : (∀ i, w1.cell? ⟨B, i, none⟩ = xs[i]?) ∧ B < w1.heap.size :=
  ⟨fun i => (World.cell?_of_block (a := ⟨B, i, none⟩) (hg.block B h.2 (fun e => hne (by injection e)))).trans (h.1 i), Nat.lt_of_lt_of_le h.2 hg.size⟩
theorem boxb {W w1 : World} {B : Nat} {xs : Array Value} (hb : Below W.heap.size W w1) (h : (∀ i, W.cell? ⟨B, i, none⟩ = xs[i]?) ∧ B < W.heap.size) : (∀ i, w1.cell? ⟨B, i, none⟩ = xs[i]?) ∧ B < w1.heap.size :=
  ⟨fun i => (hb.cell (p := ⟨B, i, none⟩) h.2).trans (h.1 i), Nat.lt_of_lt_of_le h.2 hb.size⟩

theorem RO.mk_' {W : World} {lo hi lo' : Nat} {ps : List (Int × Int)} {zs : List Int} {tA : Option Addr} {tc : Nat} {pA : Option Addr} {pc : Nat} (h : RO W lo hi ps zs tA tc pA pc) (hl : lo' ≤ lo) : RO W lo' W.heap.size ps zs tA tc pA pc :=
  ⟨h.1.mono hl h.2.2, h.2.1.mono hl h.2.2, Nat.le_refl _⟩
/-- A drawn reach, in memory of the call's own. -/
def RcOut (m : Int) (w : World) (g H : Nat) (A : Option Addr) (n c : Nat) (zs : List Int) (e : Ending) (w' : World) : Prop :=
  ∃ (ps : List (Int × Int)) (vol : Int) (zp : List Int) (tA : Option Addr) (tc : Nat) (pA : Option Addr) (pc : Nat), e = .returned (.agg #[.slice tA ps.length tc, .int .i64 vol, .slice pA zp.length pc]) ∧ RcD ⟨ps, vol, zp⟩ m ∧ RO w' w.heap.size w'.heap.size ps zp tA tc pA pc ∧ Dr w' g H A n c zs ∧ w.grownBy w' (some g)

set_option maxHeartbeats 8000000 in
theorem d_Reach (g H : Nat) (A : Option Addr) (n c : Nat) (zs : List Int) (w : World) (hD : Dr w g H A n c zs) :
    Calls Try.prog 63 #[.pointer (some ⟨g, 0, none⟩)] w (RcOut 7000 w g H A n c zs) := by
  have hgl := hD.lt
  have hgH := hD.le
  have hB0 := Blk.new w 29 #[.slice none 0 0, .int .i64 0, .slice none 0 0]
  have hD0 := hD.alloc (.cells #[.slice none 0 0, .int .i64 0, .slice none 0 0] 29)
  have hG0 := World.grownBy_alloc w (.cells #[.slice none 0 0, .int .i64 0, .slice none 0 0] 29) (some g)
  go_enter Try.func63, Try.ntmps63
  go_wp2_with fail
  refine (d_Table g H A n c zs _ hD0).mono ?_; rintro e w1 ⟨tA, tc, ps, rfl, hT, hR1, hD1, hG1⟩
  have hB1 := hB0.grown hG1 (fun e => by injection e; omega)
  have hW1 := hG0.trans hG1
  clear hB0 hD0 hG0 hD hG1
  go_wp2_with fail
  refine (d_Below g H A n c zs 200 _ hD1 (by omega) (by omega)).mono ?_; rintro e w2 ⟨x, _, _, rfl, hD2, hG2⟩
  have hB2 := hB1.grown hG2 (fun e => by injection e; omega)
  have hR2 := hR1.same (w' := w2) (fun k h1 h2 => hG2.block k h2 (fun e => by simp at h1; injection e; omega))
  have hW2 := hW1.trans hG2
  have hs2 := hG2.size
  clear hB1 hR1 hW1 hD1 hG2
  go_wp2_with fail
  refine (d_Below g H A n c zs 4 _ hD2 (by omega) (by omega)).mono ?_; rintro e w3 ⟨d, d0, d1, rfl, hD3, hG3⟩
  have hB3 := hB2.grown hG3 (fun e => by injection e; omega)
  have hR3 := hR2.same (w' := w3) (fun k h1 h2 => hG3.block k (by omega) (fun e => by simp at h1; injection e; omega))
  have hW3 := hW2.trans hG3
  have hs3 := hG3.size
  clear hB2 hR2 hW2 hD2 hG3
  obtain ⟨hnb, hrc⟩ := rcD_new hT x d d0 (by omega)
  obtain ⟨n1, n2, n3⟩ := new_yes hnb
  have hnew := s_NewReach tA tc ps x d w3.heap.size w3 (hR3.pts.mono (by omega)) (Nat.le_refl _) (by have := hT.2.1; omega)
  obtain ⟨zp, hzp⟩ : ∃ zp, zp = newZ ps x d := ⟨_, rfl⟩
  obtain ⟨vol, hvol⟩ : ∃ vol, vol = newVol ps x d := ⟨_, rfl⟩
  rw [n1, ← hvol, ← hzp, hnb] at hnew
  rw [n3] at hzp
  rw [n2] at hvol
  rw [← hvol, ← hzp] at hrc
  clear n1 n2 n3 hnb hR3 hT hzp hvol
  have HN := Lib.hid hnew
  clear hnew
  go_wp2_with fail
  refine HN.out.mono ?_; rintro e w4 ⟨uA, uc, pA, pc, rfl, hR4, hS4, hb4⟩
  clear HN
  have hB4 := hB3.bel hb4
  have hD4 := hD3.below hb4
  have hW4 := grown_bel hW3 hb4
  have hO4 := RO.mk_ (lo := w.heap.size) hR4 hS4 (by have := hW3.size; omega)
  have hl4 := hB4.lt
  obtain ⟨hX5, hb5, hs5⟩ := boxN w4 29 #[.slice uA ps.length uc, .int .i64 vol, .slice pA zp.length pc]
  have hB5 := hB4.bel hb5
  have hD5 := hD4.below hb5
  have hW5 := grown_bel hW4 hb5
  have hO5 := hO4.bel hb5
  clear hB3 hD3 hW3 hR4 hS4 hb4 hB4 hD4 hW4 hO4 hb5
  have HRC := Lib.hid hrc
  clear hrc
  go_wp2_with fail
  refine (d_Below g H A n c zs 4 _ hD5 (by omega) (by omega)).mono ?_; rintro e w6 ⟨k0, k1, k2, rfl, hD6, hG6⟩
  have hB6 := hB5.grown hG6 (fun e => by injection e; omega)
  have hX6 := hX5.grown hG6 (fun e => by injection e; omega)
  have hW6 := hW5.trans hG6
  have hO6 := hO5.grown hG6 hgl
  clear hB5 hX5 hW5 hO5 hD5 hG6
  obtain ⟨kn, rfl⟩ : ∃ kn : Nat, k0 = (kn : Int) := ⟨k0.toNat, by omega⟩
  go_wp2_with fail
  go_loopw [5] (fun v5 wr => ∃ (k : Nat) (ps : List (Int × Int)) (vol : Int) (zp : List Int) (tA : Option Addr) (tc : Nat) (pA : Option Addr) (pc lo hi : Nat), v5 = .int .i64 k ∧ k ≤ 3 ∧ Hid (RcD ⟨ps, vol, zp⟩ (7000 - 300 * k)) ∧ Blk wr w4.heap.size 29 #[.slice tA ps.length tc, .int .i64 vol, .slice pA zp.length pc] ∧ Blk wr w.heap.size 29 #[.slice none 0 0, .int .i64 0, .slice none 0 0] ∧ RO wr lo hi ps zp tA tc pA pc ∧ w.heap.size ≤ lo ∧ Dr wr g H A n c zs ∧ w.grownBy wr (some g)) (fun v5 _ => (intOf v5).toNat)
  case atStart => exact ⟨kn, ps, vol, zp, uA, uc, pA, pc, _, _, rfl, by omega, rcD_mono HRC.out (by omega), hX6, hB6, hO6, Nat.le_refl _, hD6, hW6⟩
  case round =>
    obtain ⟨k, ps, vol, zp, tA, tc, pA, pc, lo, hi, rfl, hk3, HR, hX, hB, hO, hlo, hD, hG⟩ := hrel
    clear HRC hX6 hB6 hO6 hD6 hW6
    have hpl : ps.length ≤ 1048576 := by have := HR.out.2.1.2.1; dsimp only at this; omega
    have hzl : zp.length ≤ 1048576 := by have := HR.out.2.2.2; dsimp only at this; omega
    by_cases hk : 0 < k
    · have e1 : (0 : Int) < (k : Int) := by omega
      have hb : decide (0 < k) = true := by simpa using hk
      have hDd : Dr wr.drew g H A n c zs := hD
      have hOd : RO wr.drew lo hi ps zp tA tc pA pc := hO
      have hXd := hX.drew
      have hne : w4.heap.size ≠ g := by omega
      have c0x := hXd.cell
      go_wp2_with fail
      go_region_with (first | (go_at_call 62; refine (d_Below g H A n c zs 300 _ hDd (by omega) (by omega)).mono ?_; rintro e w7 ⟨a, a0, a1, rfl, hD7, hG7⟩; have hX7 := hXd.grown hG7 (fun e => hne (by injection e)); have c7x := hX7.cell; have hO7 := hOd.grown hG7 (Nat.lt_of_lt_of_le hgl hlo)) | (go_at_call 16; refine (s_SendTo tA tc ps vol pA pc zp a w7.heap.size _ hO7.pts hO7.nums (Nat.le_refl _) hpl hzl).mono ?_; rintro e w8 ⟨t8, c8, p8, q8, rfl, hR8, hS8, hb8⟩; have hX8 := hX7.bel hb8; have c8x := hX8.cell; have f8x := hX8.frozen))
      all_goals
        have hB8 := (hB.drew.grown hG7 (fun e => by injection e; omega)).bel hb8
        have hD8 := hD7.below hb8
        have hG8 := grown_bel ((show w.grownBy wr.drew (some g) from ⟨hG.os, hG.tape, hG.output, hG.size, hG.block⟩).trans hG7) hb8
        have hs7 := hG7.size
        have hO8 := RO.mk_ (lo := w.heap.size) hR8 hS8 (by have := hG.size; have : wr.drew.heap.size ≤ w7.heap.size := hs7; have e : wr.drew.heap.size = wr.heap.size := rfl; omega)
        have hX9 := hX8.three (a := .slice t8 ps.length c8) (b := .int .i64 (sendVol ps vol zp a)) (c := .slice p8 (sendZ ps vol zp a).length q8)
        have hB9 := hB8.farn (g := w4.heap.size) (a := .slice t8 ps.length c8) (b := .int .i64 (sendVol ps vol zp a)) (c := .slice p8 (sendZ ps vol zp a).length q8) (by omega)
        have hO9 := hO8.box3 (a := .slice t8 ps.length c8) (b := .int .i64 (sendVol ps vol zp a)) (c := .slice p8 (sendZ ps vol zp a).length q8) hX8
        have hD9 := hD8.box3 (x := .slice t8 ps.length c8) (y := .int .i64 (sendVol ps vol zp a)) (z := .slice p8 (sendZ ps vol zp a).length q8) (k := w4.heap.size) (by omega)
        have hG9 := grown_box3 (x := .slice t8 ps.length c8) (y := .int .i64 (sendVol ps vol zp a)) (z := .slice p8 (sendZ ps vol zp a).length q8) (k := w4.heap.size) hG8 (by omega)
        have HS := Lib.hid (show RcD ⟨ps, sendVol ps vol zp a, sendZ ps vol zp a⟩ (7000 - 300 * k + a) from rcD_send (a := a) HR.out a0 (by omega))
        clear c0x c7x hX7 hDd hOd hXd hX hB hO hD hG hX8 c8x f8x hB8 hD8 hG8 hO8 hR8 hS8 hb8 hG7 hD7 hO7 HR
        go_wp2_with fail
        refine (d_Once g H A n c zs 3 _ hD9 (by omega) (by omega)).mono ?_; rintro e w10 ⟨b, rfl, hD10, hG10⟩
        have hX10 := hX9.grown hG10 (fun e => hne (by injection e))
        have hB10 := hB9.grown hG10 (fun e => by injection e; omega)
        have hO10 := hO9.grown hG10 hgl
        have hW10 := hG9.trans hG10
        clear hX9 hB9 hO9 hD9 hG9 hG10
        cases b
        · go_wp2
          go_roundw
          case rel => exact ⟨k - 1, ps, _, _, t8, c8, p8, q8, _, _, by rw [show ((k - 1 : Nat) : Int) = (k : Int) - 1 by omega], by omega, rcD_mono HS.out (by omega), hX10, hB10, hO10, Nat.le_refl _, hD10, hW10⟩
          case measure => simp [intOf]; omega
        · have hzl' : (sendZ ps vol zp a).length ≤ 1048576 := by rw [sendZ_len]; exact hzl
          have HF := Lib.hid (show RcD ⟨ps, flowVol ps (sendVol ps vol zp a) (sendZ ps vol zp a), flowZ ps (sendVol ps vol zp a) (sendZ ps vol zp a)⟩ (7000 - 300 * k + a) from rcD_flow HS.out)
          generalize sendVol ps vol zp a = vo at *
          generalize sendZ ps vol zp a = zo at *
          have cX := hX10.cell
          have fX := hX10.frozen
          go_wp2_with fail
          refine (s_FlowIn t8 c8 ps vo p8 q8 zo w10.heap.size _ hO10.pts hO10.nums (Nat.le_refl _) hpl hzl' hO10.cap.1 hO10.cap.2).mono ?_; rintro e w11 ⟨t11, c11, p11, q11, rfl, hR11, hS11, hb11⟩
          clear cX fX
          have hX11 := hX10.bel hb11
          have hB11 := hB10.bel hb11
          have hD11 := hD10.below hb11
          have hW11 := grown_bel hW10 hb11
          have hO11 := RO.mk_ (lo := w.heap.size) hR11 hS11 (by have := hW10.size; omega)
          have cX := hX11.cell
          have fX := hX11.frozen
          have hX12 := hX11.three (a := .slice t11 ps.length c11) (b := .int .i64 (flowVol ps vo zo)) (c := .slice p11 (flowZ ps vo zo).length q11)
          have hB12 := hB11.farn (g := w4.heap.size) (a := .slice t11 ps.length c11) (b := .int .i64 (flowVol ps vo zo)) (c := .slice p11 (flowZ ps vo zo).length q11) (by omega)
          have hO12 := hO11.box3 (a := .slice t11 ps.length c11) (b := .int .i64 (flowVol ps vo zo)) (c := .slice p11 (flowZ ps vo zo).length q11) hX11
          have hD12 := hD11.box3 (x := .slice t11 ps.length c11) (y := .int .i64 (flowVol ps vo zo)) (z := .slice p11 (flowZ ps vo zo).length q11) (k := w4.heap.size) (by omega)
          have hG12 := grown_box3 (x := .slice t11 ps.length c11) (y := .int .i64 (flowVol ps vo zo)) (z := .slice p11 (flowZ ps vo zo).length q11) (k := w4.heap.size) hW11 (by omega)
          clear hX10 hB10 hO10 hD10 hW10 hX11 hB11 hD11 hW11 hO11 hR11 hS11 hb11
          go_wp2
          go_roundw
          case rel => exact ⟨k - 1, ps, _, _, t11, c11, p11, q11, _, _, by rw [show ((k - 1 : Nat) : Int) = (k : Int) - 1 by omega], by omega, rcD_mono HF.out (by omega), hX12, hB12, hO12, Nat.le_refl _, hD12, hG12⟩
          case measure => simp [intOf]; omega
    · obtain rfl : k = 0 := by omega
      have cX := hX.cell
      have cB := hB.cell
      have fB := hB.frozen
      go_wp2
      have hO9 := hO.box3 (a := .slice tA ps.length tc) (b := .int .i64 vol) (c := .slice pA zp.length pc) hB
      have hD9 := hD.box3 (x := .slice tA ps.length tc) (y := .int .i64 vol) (z := .slice pA zp.length pc) (k := w.heap.size) hgl
      have hG9 := grown_box3 (x := .slice tA ps.length tc) (y := .int .i64 vol) (z := .slice pA zp.length pc) (k := w.heap.size) hG (Nat.le_refl _)
      have c4 := three_cells hB
      have hR9 := RO.mk_' hO9 hlo
      refine bodyPost_ret (v := .agg #[.slice tA ps.length tc, .int .i64 vol, .slice pA zp.length pc]) ?_ rfl ⟨ps, vol, zp, tA, tc, pA, pc, rfl, rcD_mono HR.out (by omega), hR9, hD9, hG9⟩
      simp [results, Try.results63, go_sem, c4]
end Go.Proofs.Ytgbncfjabnaokab
