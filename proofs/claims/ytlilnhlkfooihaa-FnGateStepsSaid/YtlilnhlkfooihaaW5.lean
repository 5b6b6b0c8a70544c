/- The walk of the law FnGateSteps, and the plain facts behind it. -/
import Derived.Test.YtlilnhlkfooihaaW4
import Derived.Deep.RegionHeld3
namespace Go.Proofs.Ytlilnhlkfooihaa
open Go.RowKit

def RuleOut (w : World) (e : Ending) (w' : World) : Prop :=
  ∃ a b s : Int, ruleD a b s ∧ e = .returned (.agg #[.int .i64 a, .int .i64 b, .int .i64 s]) ∧ Below w.heap.size w w'
set_option maxHeartbeats 400000 in
theorem s_DrawRule (A : Option Addr) (n c : Nat) (zs : List Int) (H : Nat) (w : World) (hB : BytesAt w H A n zs) (hH : H ≤ w.heap.size) (hn : n ≤ 1048576) :
    Calls Try.prog 49 #[.slice A n c] w (RuleOut w) := by
  have hM := Blk.new w 30 #[.int .i64 0, .int .i64 0, .int .i64 0]
  have hB' : BytesAt (w.alloc (.cells #[.int .i64 0, .int .i64 0, .int .i64 0] 30)) H A n zs := hB.below ((Below.refl H w).alloc hH _)
  go_enter Try.func49, Try.ntmps49
  go_wp2_with fail
  refine (d_New A n c zs H _ hB' hn (by simp; omega)).mono ?_; rintro e w0 ⟨rfl, hD0, hW⟩
  have hM0 := hM.below hW hM.lt
  have hW0 := ((Below.refl w.heap.size w).alloc (Nat.le_refl _) _).trans (hW.mono (by simp))
  clear hB hB' hM hW
  go_wp2_with fail
  refine (d_Rule _ _ A n c zs _ (by simpa using hD0)).mono ?_; rintro e w1 ⟨a, b, s, hd, rfl, hD1, hG1⟩
  have hM1 := hM0.grown hG1 (fun e => by injection e; omega)
  have hW1 := below_grown hW0 hG1 hW0.size (by omega)
  have cM := hM1.cell
  have fM := hM1.frozen
  clear hD0 hM0 hW0 hD1 hG1
  go_wp2
  refine bodyPost_ret (v := .agg #[.int .i64 a, .int .i64 b, .int .i64 s]) (by simp [results, Try.results49, go_sem, cM]) rfl ⟨_, _, _, hd, rfl, ?_⟩
  repeat (refine Below.setCell ?_ (by simp) _)
  exact hW1

theorem want_at_low {l h f : Int} : wantV l h f l 1000 = 0 := want_no (.inr (.inr (.inr (Int.le_refl l))))
theorem want_at_high {l h f : Int} (hr : ruleD l h f) : wantV l h f h 1000 = 1000 := by
  have hk := ruleD_ok hr
  unfold ruleD at hr
  rw [want_yes hk (inR_mk (by omega) (by omega)) (inR_mk (by omega) (by omega)) (by omega), Int.mul_ediv_cancel _ (by omega)]
  omega
theorem want_range {l h f lev : Int} (hr : ruleD l h f) : 0 ≤ wantV l h f lev 1000 ∧ wantV l h f lev 1000 ≤ 2000 := by
  unfold wantV
  split
  · rename_i hc
    obtain ⟨_, _, h3, h4⟩ := hc
    obtain ⟨u1, u2⟩ := inR_true h3
    unfold ruleD at hr
    have := want_bd (l := l) (h := h) (lev := lev) (inf := 1000) (by omega) (by omega) (by omega) (by omega) (by omega)
    omega
  · omega
/-- How near the gate is to where it shall come, with k rounds gone. -/
def Near (want o k : Int) : Prop := (want - o ≤ 0 ∨ want - o ≤ 40 - k) ∧ (o - want ≤ 0 ∨ o - want ≤ 40 - k)
theorem move_facts {g o s c d want k : Int} (hd : weirD g o s c d) (w0 : 0 ≤ want) (w1 : want ≤ 10 * g) (hn : Near want o k) :
    weirD g (moveV g o s c d want) s c d ∧ moveV g o s c d want - o ≤ s ∧ -s ≤ moveV g o s c d want - o ∧ Near want (moveV g o s c d want) (k + 1) ∧ (o = want → moveV g o s c d want = o) := by
  rw [move_yes (weirD_ok hd) (inR_mk w0 w1)]
  unfold weirD at *
  unfold Near at *
  unfold clampV
  split <;> (try split) <;> refine ⟨?_, ?_, ?_, ?_, ?_⟩ <;> omega
theorem steer_up {g o s c d l h f : Int} (hd : weirD g o s c d) (hr : ruleD l h f) : o < steerV g o s c d l h f f 0 1000 ∨ o = 10 * g := by
  have h1 := weirD_ok hd
  have hk := ruleD_ok hr
  have hb : 0 ≤ f ∧ f ≤ 100000 := by unfold ruleD at hr; omega
  unfold weirD at hd
  rw [steer_flood h1 hk (inR_mk (by omega) (by omega)) (inR_mk hb.1 hb.2) (inR_mk (by omega) (by omega)) (Int.le_refl f), move_yes h1 (inR_mk (by omega) (by omega))]
  unfold clampV
  split <;> (try split) <;> omega

theorem blkset5 {W : World} {g : Nat} {t : TypeId} {z0 z1 z2 z3 z4 x0 x1 x2 x3 x4 : Value} (h : Blk W g t #[z0, z1, z2, z3, z4]) :
    Blk (((((W.setCell ⟨g, 0, none⟩ x0).setCell ⟨g, 1, none⟩ x1).setCell ⟨g, 2, none⟩ x2).setCell ⟨g, 3, none⟩ x3).setCell ⟨g, 4, none⟩ x4) g t #[x0, x1, x2, x3, x4] := by
  have := (((((h.set_ 0 x0).set_ 1 x1).set_ 2 x2).set_ 3 x3).set_ 4 x4)
  simpa using this
theorem belset5 {w W : World} {g : Nat} {x0 x1 x2 x3 x4 : Value} (h : Below w.heap.size w W) (hg : w.heap.size ≤ g) :
    Below w.heap.size w (((((W.setCell ⟨g, 0, none⟩ x0).setCell ⟨g, 1, none⟩ x1).setCell ⟨g, 2, none⟩ x2).setCell ⟨g, 3, none⟩ x3).setCell ⟨g, 4, none⟩ x4) :=
  ((((h.setCell (p := ⟨g, 0, none⟩) hg _).setCell (p := ⟨g, 1, none⟩) hg _).setCell (p := ⟨g, 2, none⟩) hg _).setCell (p := ⟨g, 3, none⟩) hg _).setCell (p := ⟨g, 4, none⟩) hg _
theorem step3 {w W w1 : World} {g1 g2 g3 : Nat} {t1 t2 t3 : TypeId} {c1 c2 c3 : Array Value} (h1 : Blk W g1 t1 c1) (h2 : Blk W g2 t2 c2) (h3 : Blk W g3 t3 c3) (hW : Below w.heap.size w W) (hb : Below W.heap.size W w1) :
    Blk w1 g1 t1 c1 ∧ Blk w1 g2 t2 c2 ∧ Blk w1 g3 t3 c3 ∧ Below w.heap.size w w1 ∧ (∀ i, w1.cell? ⟨g1, i, none⟩ = c1[i]?) ∧ (∀ i, w1.cell? ⟨g2, i, none⟩ = c2[i]?) ∧ (∀ i, w1.cell? ⟨g3, i, none⟩ = c3[i]?) :=
  have a := h1.below hb h1.lt
  have b := h2.below hb h2.lt
  have c := h3.below hb h3.lt
  ⟨a, b, c, hW.trans (hb.mono hW.size), a.cell, b.cell, c.cell⟩
theorem one_below {B : Nat} {xs : Array Value} {W w1 : World} (hb : Below W.heap.size W w1) (h : (∀ i, W.cell? ⟨B, i, none⟩ = xs[i]?) ∧ B + 1 ≤ W.heap.size) :
    (∀ i, w1.cell? ⟨B, i, none⟩ = xs[i]?) ∧ B + 1 ≤ w1.heap.size :=
  ⟨fun i => (hb.cell (p := ⟨B, i, none⟩) (by have := h.2; show B < _; omega)).trans (h.1 i), Nat.le_trans h.2 hb.size⟩

set_option maxHeartbeats 4000000 in
theorem walk_FnGateSteps (A : Option Addr) (n c : Nat) (zs : List Int) (w : World) (hB : BytesAt w w.heap.size A n zs) :
    Calls Try.prog 18 #[.slice A n c] w fun e w' => e = .returned (.bool true) ∧ Below w.heap.size w w' := by
  by_cases hbig : 1048576 < n
  · have hb : decide (1048576 < n) = true := by simpa using hbig
    clear hB
    go_enter Try.func18, Try.ntmps18
    go_wp2_with (go_at_call 38; refine (l_big _ _ _ _).mono ?_; rintro e w' ⟨rfl, rfl⟩)
    go_ret
    exact ⟨rfl, Below.refl _ _⟩
  · have hb : decide (1048576 < n) = false := by simpa using hbig
    have a0 := atV_bd hB 0
    have a1 := atV_bd hB 1
    go_enter Try.func18, Try.ntmps18
    go_wp2_with fail
    refine (l_big _ _ _ _).mono ?_; rintro e w' ⟨rfl, rfl⟩
    go_wp2_with fail
    refine (s_DrawWeir A n c zs _ hB (by omega)).mono ?_; rintro e w1 ⟨g, o, s, f, d, hd, rfl, hW⟩
    have HB := Lib.hid ((hB.below hW).below (((Below.refl w.heap.size w1)).alloc hW.size (.cells #[.int .i64 g, .int .i64 o, .int .i64 s, .int .i64 f, .int .i64 d] 38)))
    have HB0 := Lib.hid hB
    have HM := Blk.new w1 38 #[.int .i64 g, .int .i64 o, .int .i64 s, .int .i64 f, .int .i64 d]
    have HW := hW.alloc hW.size (.cells #[.int .i64 g, .int .i64 o, .int .i64 s, .int .i64 f, .int .i64 d] 38)
    have hwl := hW.size
    have hgb : 1 ≤ g ∧ g ≤ 4 := by unfold weirD at hd; omega
    have hsb : 1 ≤ s ∧ s ≤ 12 := by unfold weirD at hd; omega
    have hob : 0 ≤ o ∧ o ≤ 10 * g := by unfold weirD at hd; omega
    have Hd := Lib.hid hd
    have m0 : 0 ≤ atV zs 0 % (10 * g + 1) := Int.emod_nonneg _ (by omega)
    have m1 : atV zs 0 % (10 * g + 1) < 10 * g + 1 := Int.emod_lt_of_pos _ (by omega)
    clear hB hb hd hW
    go_wp2_with fail
    have HBd := Lib.hid (fun (q : Nat) => HB.out.keep (w' := (w1.alloc (.cells #[.int .i64 g, .int .i64 o, .int .i64 s, .int .i64 f, .int .i64 d] 38)).drewN q) (fun _ _ => rfl))
    go_quiet ((go_at_call 39; exact Calls.quiet_of_same ((l_atI A n c zs 0 0 w.heap.size _ rfl (HBd.out _) (by omega) (by omega)).mono fun _ _ hh => ⟨hh.1, hh.2.symm⟩)))
    generalize atV zs 0 % (10 * g + 1) = want at *
    go_wp2_with fail
    have hw1 : want ≤ 10 * g := by omega
    go_loopw [5] (fun v5 wr => ∃ k o' : Int, 0 ≤ k ∧ k ≤ 90 ∧ v5 = .int .i64 k ∧ weirD g o' s f d ∧ Near want o' k ∧ Blk wr w1.heap.size 38 #[.int .i64 g, .int .i64 o', .int .i64 s, .int .i64 f, .int .i64 d] ∧ Below w.heap.size w wr) (fun v5 _ => (90 - intOf v5).toNat)
    case atStart => exact ⟨0, o, by omega, by omega, rfl, Hd.out, ⟨by omega, by omega⟩, HM.drewN _, below_drewN HW _⟩
    case round =>
      obtain ⟨k, o', k0, k1, rfl, hd', hnear, hM, hW⟩ := hrel
      have cA := hM.cell
      have lA := hM.lt
      have fA := hM.frozen
      clear HM HW Hd HBd HB
      by_cases hk : k < 90
      · obtain ⟨p1, p2, p3, p4, p5⟩ := move_facts hd' m0 hw1 hnear
        have ok2 := weirD_ok p1
        have ob : 0 ≤ o' ∧ o' ≤ 10 * g := by unfold weirD at hd'; omega
        have ob2 : 0 ≤ moveV g o' s f d want ∧ moveV g o' s f d want ≤ 10 * g := by unfold weirD at p1; omega
        have P1 := Lib.hid p1
        have P4 := Lib.hid p4
        have P5 := Lib.hid p5
        clear p1 p4 p5 hd' hnear
        by_cases hc : o' = want
        · have hz : moveV g o' s f d want - o' = 0 := by have := P5.out hc; omega
          have e1 : (o' == want) = true := by simp [hc]
          have e2 : moveV g o' s f d want ≤ o' := by omega
          have e3 : o' ≤ moveV g o' s f d want := by omega
          have e4 : (moveV g o' s f d want - o' != 0) = false := by simp; omega
          clear hc hz
          go_wp2_with fail
          refine (i_MoveGate _ _ _ _ _ _ _).mono ?_; rintro e w3 ⟨rfl, hb3⟩
          have hM3 := hM.below hb3 hM.lt
          have hW3 := hW.trans (hb3.mono hW.size)
          clear cA fA hb3
          have cM := hM3.cell
          have fM := hM3.frozen
          have lM := hM3.lt
          go_wp2_with fail
          refine (i_WeirOk _ _ _ _ _ _).mono ?_; rintro e w4 ⟨rfl, hb4⟩
          have hX4 := (Blk.new w3 38 #[.int .i64 g, .int .i64 (moveV g o' s f d want), .int .i64 s, .int .i64 f, .int .i64 d]).below hb4 (by simp)
          have hM4 := (hM3.alloc _).below hb4 (hM3.alloc _).lt
          have hW4 := (hW3.alloc hW3.size _).trans (hb4.mono (by have := hW3.size; simp; omega))
          clear cM fM hb4
          have cM := hM4.cell
          have fM := hM4.frozen
          have cX := hX4.cell
          go_wp2
          go_roundw
          case rel => exact ⟨k + 1, _, by omega, by omega, rfl, P1.out, P4.out, blkset5 hM4, belset5 hW4 hwl⟩
          case measure => simp [intOf]; omega
        · have e1 : (o' == want) = false := by simp [hc]
          clear hc
          go_wp2_with fail
          refine (i_MoveGate _ _ _ _ _ _ _).mono ?_; rintro e w3 ⟨rfl, hb3⟩
          have hM3 := hM.below hb3 hM.lt
          have hW3 := hW.trans (hb3.mono hW.size)
          clear cA fA hb3
          have cM := hM3.cell
          have fM := hM3.frozen
          have lM := hM3.lt
          go_wp2_with fail
          refine (i_WeirOk _ _ _ _ _ _).mono ?_; rintro e w4 ⟨rfl, hb4⟩
          have hX4 := (Blk.new w3 38 #[.int .i64 g, .int .i64 (moveV g o' s f d want), .int .i64 s, .int .i64 f, .int .i64 d]).below hb4 (by simp)
          have hM4 := (hM3.alloc _).below hb4 (hM3.alloc _).lt
          have hW4 := (hW3.alloc hW3.size _).trans (hb4.mono (by have := hW3.size; simp; omega))
          clear cM fM hb4
          have cM := hM4.cell
          have fM := hM4.frozen
          have cX := hX4.cell
          go_wp2
          go_roundw
          case rel => exact ⟨k + 1, _, by omega, by omega, rfl, P1.out, P4.out, blkset5 hM4, belset5 hW4 hwl⟩
          case measure => simp [intOf]; omega
      · obtain rfl : want = o' := by unfold Near at hnear; omega
        have hst := fun (l h fl : Int) (hr : ruleD l h fl) => steer_up hd' hr
        have Hst := Lib.hid hst
        have okw := weirD_ok hd'
        clear hst hnear hd' fA cA
        go_wp2_with fail
        refine (s_DrawRule A n c zs w.heap.size _ (HB0.out.below hW) hW.size (by omega)).mono ?_; rintro e w3 ⟨l, h, fl, hr, rfl, hb3⟩
        have hM3 := (hM.below hb3 hM.lt).alloc (.cells #[.int .i64 l, .int .i64 h, .int .i64 fl] 30)
        have hW3 := (hW.trans (hb3.mono hW.size)).alloc (hW.trans (hb3.mono hW.size)).size (.cells #[.int .i64 l, .int .i64 h, .int .i64 fl] 30)
        have hR3 := Blk.new w3 30 #[.int .i64 l, .int .i64 h, .int .i64 fl]
        have HB3 := Lib.hid (HB0.out.below hW3)
        have wl := want_at_low (l := l) (h := h) (f := fl)
        have wh := want_at_high hr
        have wr2 := want_range (lev := atV zs 1) hr
        have rok := ruleD_ok hr
        have hst2 := Hst.out l h fl hr
        have rb : 0 ≤ l ∧ l < h ∧ h ≤ fl ∧ fl ≤ 1000 := by unfold ruleD at hr; omega
        clear hM hW hb3 hr Hst HB0
        go_wp2_with fail
        generalize w3.alloc (.cells #[.int .i64 l, .int .i64 h, .int .i64 fl] 30) = W0 at *
        generalize w3.heap.size = R at *
        generalize w1.heap.size = M at *
        have S0 : (∀ i, W0.drew.cell? ⟨R, i, none⟩ = #[Value.int .i64 l, .int .i64 h, .int .i64 fl][i]?) ∧ R + 1 ≤ W0.drew.heap.size := ⟨hR3.cell, hR3.lt⟩
        have HB4 := Lib.hid (HB3.out.keep (w' := W0.drew) (fun _ _ => rfl))
        go_region_held3 (fun w' => (∀ i, w'.cell? ⟨R, i, none⟩ = #[Value.int .i64 l, .int .i64 h, .int .i64 fl][i]?) ∧ R + 1 ≤ w'.heap.size) (first | with_reducible exact S1 | with_reducible exact S0) (first | (go_at_call 39; refine (l_atI A n c zs 1 1 w.heap.size _ rfl HB4.out (by omega) (by omega)).mono ?_; rintro e w' ⟨rfl, rfl⟩) | (go_at_call 35; refine (i_WantedFlow _ _ _ _ _ _).mono ?_; rintro e w5 ⟨rfl, hb5⟩; have S1 := one_below hb5 S0))
        have hM5 := hM3.drew.below hb5 hM3.lt
        have hR5 := hR3.drew.below hb5 hR3.lt
        have hW5 := hW3.drew.trans (hb5.mono hW3.size)
        clear S0 S1 HB3 HB4 hb5 hM3 hR3 hW3
        have cM := hM5.cell
        have cR := hR5.cell
        go_wp2_with fail
        refine (i_SteerWeir _ _ _ _ _ _ _ _ _ _ _ _).mono ?_; rintro e w6 ⟨rfl, hb6⟩
        have hM6 := (hM5.below hb6 hM5.lt).alloc (.cells #[.int .i64 g, .int .i64 (steerV g want s f d l h fl fl 0 1000), .int .i64 s, .int .i64 f, .int .i64 d] 38)
        have hR6 := (hR5.below hb6 hR5.lt).alloc (.cells #[.int .i64 g, .int .i64 (steerV g want s f d l h fl fl 0 1000), .int .i64 s, .int .i64 f, .int .i64 d] 38)
        have hX6 := Blk.new w6 38 #[.int .i64 g, .int .i64 (steerV g want s f d l h fl fl 0 1000), .int .i64 s, .int .i64 f, .int .i64 d]
        have hW6 := (hW5.trans (hb6.mono hW5.size)).alloc (hW5.trans (hb6.mono hW5.size)).size (.cells #[.int .i64 g, .int .i64 (steerV g want s f d l h fl fl 0 1000), .int .i64 s, .int .i64 f, .int .i64 d] 38)
        clear cM cR hb6 hM5 hR5 hW5
        have cM := hM6.cell
        have cR := hR6.cell
        generalize steerV g want s f d l h fl fl 0 1000 = st at *
        rcases hst2 with hs | hs
        · go_wp2_with (first | (go_at_call 26; refine (i_RuleOk _ _ _ _).mono ?_; rintro e w7 ⟨rfl, hb7⟩; obtain ⟨hM6, hR6, hX6, hW6, cM, cR, cX⟩ := step3 hM6 hR6 hX6 hW6 hb7) | (go_at_call 35; refine (i_WantedFlow _ _ _ _ _ _).mono ?_; rintro e w7 ⟨rfl, hb7⟩; obtain ⟨hM6, hR6, hX6, hW6, cM, cR, cX⟩ := step3 hM6 hR6 hX6 hW6 hb7))
          go_ret
          exact ⟨rfl, hW6⟩
        · have e1 : (want == 10 * g) = true := by simp [hs]
          clear hs
          go_wp2_with (first | (go_at_call 26; refine (i_RuleOk _ _ _ _).mono ?_; rintro e w7 ⟨rfl, hb7⟩; obtain ⟨hM6, hR6, hX6, hW6, cM, cR, cX⟩ := step3 hM6 hR6 hX6 hW6 hb7) | (go_at_call 35; refine (i_WantedFlow _ _ _ _ _ _).mono ?_; rintro e w7 ⟨rfl, hb7⟩; obtain ⟨hM6, hR6, hX6, hW6, cM, cR, cX⟩ := step3 hM6 hR6 hX6 hW6 hb7))
          all_goals
            go_ret
            exact ⟨rfl, hW6⟩
end Go.Proofs.Ytlilnhlkfooihaa
