/- The walks of the laws over weirs and rules: RuleOk, WeirOk, WantedFlow, MoveGate, GateFlow, OpenFor, SteerWeir. -/
import Derived.Test.YtlilnhlkfooihaaWeir3
import Derived.Deep.DeepCutAuto
namespace Go.Proofs.Ytlilnhlkfooihaa
open Go.RowKit

theorem walk_FnExactRuleOk (b0 b1 b2 : Int)  (w : World) :
    Calls Try.prog 6 #[.agg #[.int .i64 b0, .int .i64 b1, .int .i64 b2]] w fun e w' => e = .returned (.bool true) ∧ Below w.heap.size w w' := by
  have hA := Blk.new w 28 #[.int .i64 b0, .int .i64 b1, .int .i64 b2]
  have hW := (Below.refl w.heap.size w).alloc (Nat.le_refl _) (.cells #[.int .i64 b0, .int .i64 b1, .int .i64 b2] 28)
  go_enter Try.func6, Try.ntmps6
  go_wp2_with (first | (go_at_call 25; refine (l_toRule _ _ _ _).mono ?_; rintro e w1 ⟨rfl, hb⟩; obtain ⟨hA, hW, cA, fA, lA⟩ := step1 hA hW hb; clear hb) | (go_at_call 24; refine (s_RuleOk _ _ _ _).mono ?_; rintro e w1 ⟨rfl, hb⟩; obtain ⟨hA, hW, cA, fA, lA⟩ := step1 hA hW hb; clear hb) | (go_at_call 26; refine (i_RuleOk _ _ _ _).mono ?_; rintro e w1 ⟨rfl, hb⟩; obtain ⟨hA, hW, cA, fA, lA⟩ := step1 hA hW hb; clear hb))
  go_ret
  exact ⟨rfl, hW⟩

theorem walk_FnExactWeirOk (a0 a1 a2 a3 a4 : Int)  (w : World) :
    Calls Try.prog 8 #[.agg #[.int .i64 a0, .int .i64 a1, .int .i64 a2, .int .i64 a3, .int .i64 a4]] w fun e w' => e = .returned (.bool true) ∧ Below w.heap.size w w' := by
  have hA := Blk.new w 36 #[.int .i64 a0, .int .i64 a1, .int .i64 a2, .int .i64 a3, .int .i64 a4]
  have hW := (Below.refl w.heap.size w).alloc (Nat.le_refl _) (.cells #[.int .i64 a0, .int .i64 a1, .int .i64 a2, .int .i64 a3, .int .i64 a4] 36)
  go_enter Try.func8, Try.ntmps8
  go_wp2_with (first | (go_at_call 30; refine (l_toWeir _ _ _ _ _ _).mono ?_; rintro e w1 ⟨rfl, hb⟩; obtain ⟨hA, hW, cA, fA, lA⟩ := step1 hA hW hb; clear hb) | (go_at_call 29; refine (s_WeirOk _ _ _ _ _ _).mono ?_; rintro e w1 ⟨rfl, hb⟩; obtain ⟨hA, hW, cA, fA, lA⟩ := step1 hA hW hb; clear hb) | (go_at_call 31; refine (i_WeirOk _ _ _ _ _ _).mono ?_; rintro e w1 ⟨rfl, hb⟩; obtain ⟨hA, hW, cA, fA, lA⟩ := step1 hA hW hb; clear hb))
  go_ret
  exact ⟨rfl, hW⟩

theorem walk_FnExactWantedFlow (b0 b1 b2 c0 c1 : Int) (_h : (Lit.int .i64 c0).wf = true) (_h : (Lit.int .i64 c1).wf = true) (w : World) :
    Calls Try.prog 10 #[.agg #[.int .i64 b0, .int .i64 b1, .int .i64 b2], .int .i64 c0, .int .i64 c1] w fun e w' => e = .returned (.bool true) ∧ Below w.heap.size w w' := by
  have hA := Blk.new w 28 #[.int .i64 b0, .int .i64 b1, .int .i64 b2]
  have hW := (Below.refl w.heap.size w).alloc (Nat.le_refl _) (.cells #[.int .i64 b0, .int .i64 b1, .int .i64 b2] 28)
  go_enter Try.func10, Try.ntmps10
  go_wp2_with (first | (go_at_call 25; refine (l_toRule _ _ _ _).mono ?_; rintro e w1 ⟨rfl, hb⟩; obtain ⟨hA, hW, cA, fA, lA⟩ := step1 hA hW hb; clear hb) | (go_at_call 34; refine (s_WantedFlow _ _ _ _ _ _).mono ?_; rintro e w1 ⟨rfl, hb⟩; obtain ⟨hA, hW, cA, fA, lA⟩ := step1 hA hW hb; clear hb) | (go_at_call 35; refine (i_WantedFlow _ _ _ _ _ _).mono ?_; rintro e w1 ⟨rfl, hb⟩; obtain ⟨hA, hW, cA, fA, lA⟩ := step1 hA hW hb; clear hb))
  go_ret
  exact ⟨rfl, hW⟩

theorem walk_FnExactGateFlow (a0 a1 a2 a3 a4 c0 c1 : Int) (_h : (Lit.int .i64 c0).wf = true) (_h : (Lit.int .i64 c1).wf = true) (w : World) :
    Calls Try.prog 15 #[.agg #[.int .i64 a0, .int .i64 a1, .int .i64 a2, .int .i64 a3, .int .i64 a4], .int .i64 c0, .int .i64 c1] w fun e w' => e = .returned (.bool true) ∧ Below w.heap.size w w' := by
  have hA := Blk.new w 36 #[.int .i64 a0, .int .i64 a1, .int .i64 a2, .int .i64 a3, .int .i64 a4]
  have hW := (Below.refl w.heap.size w).alloc (Nat.le_refl _) (.cells #[.int .i64 a0, .int .i64 a1, .int .i64 a2, .int .i64 a3, .int .i64 a4] 36)
  go_enter Try.func15, Try.ntmps15
  go_wp2_with (first | (go_at_call 30; refine (l_toWeir _ _ _ _ _ _).mono ?_; rintro e w1 ⟨rfl, hb⟩; obtain ⟨hA, hW, cA, fA, lA⟩ := step1 hA hW hb; clear hb) | (go_at_call 44; refine (s_GateFlow _ _ _ _ _ _ _ _).mono ?_; rintro e w1 ⟨rfl, hb⟩; obtain ⟨hA, hW, cA, fA, lA⟩ := step1 hA hW hb; clear hb) | (go_at_call 45; refine (i_GateFlow _ _ _ _ _ _ _ _).mono ?_; rintro e w1 ⟨rfl, hb⟩; obtain ⟨hA, hW, cA, fA, lA⟩ := step1 hA hW hb; clear hb))
  go_ret
  exact ⟨rfl, hW⟩

theorem walk_FnExactOpenFor (a0 a1 a2 a3 a4 c0 c1 c2 : Int) (_h : (Lit.int .i64 c0).wf = true) (_h : (Lit.int .i64 c1).wf = true) (_h : (Lit.int .i64 c2).wf = true) (w : World) :
    Calls Try.prog 17 #[.agg #[.int .i64 a0, .int .i64 a1, .int .i64 a2, .int .i64 a3, .int .i64 a4], .int .i64 c0, .int .i64 c1, .int .i64 c2] w fun e w' => e = .returned (.bool true) ∧ Below w.heap.size w w' := by
  have hA := Blk.new w 36 #[.int .i64 a0, .int .i64 a1, .int .i64 a2, .int .i64 a3, .int .i64 a4]
  have hW := (Below.refl w.heap.size w).alloc (Nat.le_refl _) (.cells #[.int .i64 a0, .int .i64 a1, .int .i64 a2, .int .i64 a3, .int .i64 a4] 36)
  go_enter Try.func17, Try.ntmps17
  go_wp2_with (first | (go_at_call 30; refine (l_toWeir _ _ _ _ _ _).mono ?_; rintro e w1 ⟨rfl, hb⟩; obtain ⟨hA, hW, cA, fA, lA⟩ := step1 hA hW hb; clear hb) | (go_at_call 48; refine (s_OpenFor _ _ _ _ _ _ _ _ _).mono ?_; rintro e w1 ⟨rfl, hb⟩; obtain ⟨hA, hW, cA, fA, lA⟩ := step1 hA hW hb; clear hb) | (go_at_call 47; refine (i_OpenFor _ _ _ _ _ _ _ _ _).mono ?_; rintro e w1 ⟨rfl, hb⟩; obtain ⟨hA, hW, cA, fA, lA⟩ := step1 hA hW hb; clear hb))
  go_ret
  exact ⟨rfl, hW⟩

theorem walk_FnExactMoveGate (a0 a1 a2 a3 a4 c0 : Int) (_h : (Lit.int .i64 c0).wf = true) (w : World) :
    Calls Try.prog 14 #[.agg #[.int .i64 a0, .int .i64 a1, .int .i64 a2, .int .i64 a3, .int .i64 a4], .int .i64 c0] w fun e w' => e = .returned (.bool true) ∧ Below w.heap.size w w' := by
  have hA := Blk.new w 36 #[.int .i64 a0, .int .i64 a1, .int .i64 a2, .int .i64 a3, .int .i64 a4]
  have hW := (Below.refl w.heap.size w).alloc (Nat.le_refl _) (.cells #[.int .i64 a0, .int .i64 a1, .int .i64 a2, .int .i64 a3, .int .i64 a4] 36)
  go_enter Try.func14, Try.ntmps14
  go_wp2_with fail
  refine (l_toWeir _ _ _ _ _ _).mono ?_; rintro e w1 ⟨rfl, hb⟩; obtain ⟨hA, hW, cA, fA, lA⟩ := step1 hA hW hb; clear hb
  go_wp2_with fail
  refine (s_MoveGate _ _ _ _ _ _ _).mono ?_; rintro e w2 ⟨rfl, hb⟩; obtain ⟨hA, hW, cA, fA, lA⟩ := step1 hA hW hb; clear hb
  go_wp2_with fail
  refine (l_toWeir _ _ _ _ _ _).mono ?_; rintro e w3 ⟨rfl, hb⟩
  have hM := (Blk.new w2 _ _).below hb (by simp)
  obtain ⟨hA, hW, cA, fA, lA⟩ := step1 (hA.alloc _) (hW.alloc hW.size _) hb; clear hb
  go_wp2_with fail
  refine (i_MoveGate _ _ _ _ _ _ _).mono ?_; rintro e w4 ⟨rfl, hb⟩
  have hM := hM.below hb hM.lt
  obtain ⟨hA, hW, cA, fA, lA⟩ := step1 hA hW hb; clear hb
  have cM := hM.cell
  have hl := hM.lt
  go_wp2_with fail
  refine (l_eqWeir _ _ _ _ _ _).mono ?_; rintro e w5 ⟨rfl, hb⟩
  obtain ⟨hA, hW, cA, fA, lA⟩ := step1 (hA.alloc _) (hW.alloc hW.size _) hb; clear hb
  go_wp2
  go_ret
  exact ⟨rfl, hW⟩

theorem tw_below {B : Nat} {xs ys : Array Value} {W w1 : World} (hb : Below W.heap.size W w1) (h : (∀ i, W.cell? ⟨B, i, none⟩ = xs[i]?) ∧ (∀ i, W.cell? ⟨B + 1, i, none⟩ = ys[i]?) ∧ B + 2 ≤ W.heap.size) :
    (∀ i, w1.cell? ⟨B, i, none⟩ = xs[i]?) ∧ (∀ i, w1.cell? ⟨B + 1, i, none⟩ = ys[i]?) ∧ B + 2 ≤ w1.heap.size :=
  ⟨fun i => (hb.cell (p := ⟨B, i, none⟩) (by have := h.2.2; show B < _; omega)).trans (h.1 i), fun i => (hb.cell (p := ⟨B + 1, i, none⟩) (by have := h.2.2; show B + 1 < _; omega)).trans (h.2.1 i), Nat.le_trans h.2.2 hb.size⟩
theorem tw_alloc {B : Nat} {xs ys : Array Value} {W : World} {o : Obj} (h : (∀ i, W.cell? ⟨B, i, none⟩ = xs[i]?) ∧ (∀ i, W.cell? ⟨B + 1, i, none⟩ = ys[i]?) ∧ B + 2 ≤ W.heap.size) :
    (∀ i, (W.alloc o).cell? ⟨B, i, none⟩ = xs[i]?) ∧ (∀ i, (W.alloc o).cell? ⟨B + 1, i, none⟩ = ys[i]?) ∧ B + 2 ≤ (W.alloc o).heap.size :=
  ⟨fun i => (World.cell?_alloc_lt _ _ _ (by have := h.2.2; show B < _; omega)).trans (h.1 i), fun i => (World.cell?_alloc_lt _ _ _ (by have := h.2.2; show B + 1 < _; omega)).trans (h.2.1 i), by have := h.2.2; simp; omega⟩
theorem tw_new (w : World) (xs ys : Array Value) (t u : TypeId) : (∀ i, ((w.alloc (.cells xs t)).alloc (.cells ys u)).cell? ⟨w.heap.size, i, none⟩ = xs[i]?) ∧ (∀ i, ((w.alloc (.cells xs t)).alloc (.cells ys u)).cell? ⟨w.heap.size + 1, i, none⟩ = ys[i]?) ∧ w.heap.size + 2 ≤ ((w.alloc (.cells xs t)).alloc (.cells ys u)).heap.size := by
  have h1 := ((Blk.new w t xs).alloc (.cells ys u)).cell
  have h2 := (Blk.new (w.alloc (.cells xs t)) u ys).cell
  simp only [World.size_alloc] at h2
  exact ⟨h1, h2, by simp⟩

theorem tw_far {B g j : Nat} {u : Value} {xs ys : Array Value} {W : World} (h : (∀ i, W.cell? ⟨B, i, none⟩ = xs[i]?) ∧ (∀ i, W.cell? ⟨B + 1, i, none⟩ = ys[i]?) ∧ B + 2 ≤ W.heap.size) (hg : B + 2 ≤ g) :
    (∀ i, (W.setCell ⟨g, j, none⟩ u).cell? ⟨B, i, none⟩ = xs[i]?) ∧ (∀ i, (W.setCell ⟨g, j, none⟩ u).cell? ⟨B + 1, i, none⟩ = ys[i]?) ∧ B + 2 ≤ (W.setCell ⟨g, j, none⟩ u).heap.size :=
  ⟨fun i => (World.cell?_setCell_other _ _ _ _ (fun e => by injection e; omega)).trans (h.1 i), fun i => (World.cell?_setCell_other _ _ _ _ (fun e => by injection e; omega)).trans (h.2.1 i), by simpa [World.setCell] using h.2.2⟩
theorem bel_step {w W w1 : World} (hW : Below w.heap.size w W) (hb : Below W.heap.size W w1) : Below w.heap.size w w1 := hW.trans (hb.mono hW.size)
theorem bel_alloc {w W : World} {o : Obj} (hW : Below w.heap.size w W) : Below w.heap.size w (W.alloc o) := hW.alloc hW.size _
theorem blk_new {W w1 : World} {t : TypeId} {cs : Array Value} (hb : Below (W.alloc (.cells cs t)).heap.size (W.alloc (.cells cs t)) w1) : Blk w1 W.heap.size t cs := (Blk.new W t cs).below hb (by simp)
theorem blk_step {W w1 : World} {g : Nat} {t : TypeId} {cs : Array Value} (h : Blk W g t cs) (hb : Below W.heap.size W w1) : Blk w1 g t cs := h.below hb h.lt

theorem blk_set5 {W : World} {g : Nat} {t : TypeId} {z0 z1 z2 z3 z4 x0 x1 x2 x3 x4 : Value} (h : Blk W g t #[z0, z1, z2, z3, z4]) :
    Blk (((((W.setCell ⟨g, 0, none⟩ x0).setCell ⟨g, 1, none⟩ x1).setCell ⟨g, 2, none⟩ x2).setCell ⟨g, 3, none⟩ x3).setCell ⟨g, 4, none⟩ x4) g t #[x0, x1, x2, x3, x4] := by
  have := (((((h.set_ 0 x0).set_ 1 x1).set_ 2 x2).set_ 3 x3).set_ 4 x4)
  simpa using this
theorem bel_set5 {w W : World} {g : Nat} {x0 x1 x2 x3 x4 : Value} (h : Below w.heap.size w W) (hg : w.heap.size + 2 ≤ g) :
    Below w.heap.size w (((((W.setCell ⟨g, 0, none⟩ x0).setCell ⟨g, 1, none⟩ x1).setCell ⟨g, 2, none⟩ x2).setCell ⟨g, 3, none⟩ x3).setCell ⟨g, 4, none⟩ x4) :=
  ((((h.setCell (p := ⟨g, 0, none⟩) (by show _ ≤ g; omega) _).setCell (p := ⟨g, 1, none⟩) (by show _ ≤ g; omega) _).setCell (p := ⟨g, 2, none⟩) (by show _ ≤ g; omega) _).setCell (p := ⟨g, 3, none⟩) (by show _ ≤ g; omega) _).setCell (p := ⟨g, 4, none⟩) (by show _ ≤ g; omega) _
theorem blk_far5 {W : World} {g k : Nat} {t : TypeId} {cs : Array Value} {x0 x1 x2 x3 x4 : Value} (h : Blk W k t cs) (hk : k ≠ g) :
    Blk (((((W.setCell ⟨g, 0, none⟩ x0).setCell ⟨g, 1, none⟩ x1).setCell ⟨g, 2, none⟩ x2).setCell ⟨g, 3, none⟩ x3).setCell ⟨g, 4, none⟩ x4) k t cs :=
  ((((h.far (p := ⟨g, 0, none⟩) hk _).far (p := ⟨g, 1, none⟩) hk _).far (p := ⟨g, 2, none⟩) hk _).far (p := ⟨g, 3, none⟩) hk _).far (p := ⟨g, 4, none⟩) hk _

set_option maxHeartbeats 1000000 in
theorem walk_FnExactSteerWeir (a0 a1 a2 a3 a4 b0 b1 b2 c0 c1 c2 : Int) (_h : (Lit.int .i64 c0).wf = true) (_h : (Lit.int .i64 c1).wf = true) (_h : (Lit.int .i64 c2).wf = true) (w : World) :
    Calls Try.prog 19 #[.agg #[.int .i64 a0, .int .i64 a1, .int .i64 a2, .int .i64 a3, .int .i64 a4], .agg #[.int .i64 b0, .int .i64 b1, .int .i64 b2], .int .i64 c0, .int .i64 c1, .int .i64 c2] w fun e w' => e = .returned (.bool true) ∧ Below w.heap.size w w' := by
  have hN := tw_new w #[Value.int .i64 a0, .int .i64 a1, .int .i64 a2, .int .i64 a3, .int .i64 a4] #[Value.int .i64 b0, .int .i64 b1, .int .i64 b2] 36 28
  have hW : Below w.heap.size w ((w.alloc (.cells #[Value.int .i64 a0, .int .i64 a1, .int .i64 a2, .int .i64 a3, .int .i64 a4] 36)).alloc (.cells #[Value.int .i64 b0, .int .i64 b1, .int .i64 b2] 28)) := ((Below.refl w.heap.size w).alloc (Nat.le_refl _) _).alloc (by simp) _
  go_enter Try.func19, Try.ntmps19
  go_upto_region 1 with (fail)
  generalize hG : (w.alloc (.cells #[Value.int .i64 a0, .int .i64 a1, .int .i64 a2, .int .i64 a3, .int .i64 a4] 36)).alloc (.cells #[Value.int .i64 b0, .int .i64 b1, .int .i64 b2] 28) = W0 at *
  clear hG
  have S0 : (∀ i, W0.drew.cell? ⟨w.heap.size, i, none⟩ = #[Value.int .i64 a0, .int .i64 a1, .int .i64 a2, .int .i64 a3, .int .i64 a4][i]?) ∧ (∀ i, W0.drew.cell? ⟨w.heap.size + 1, i, none⟩ = #[Value.int .i64 b0, .int .i64 b1, .int .i64 b2][i]?) ∧ w.heap.size + 2 ≤ W0.drew.heap.size := hN
  have B0 : Below w.heap.size w W0.drew := hW.drew
  have S0a : (∀ i, ((W0.alloc (.cells #[Value.int .i64 0, .int .i64 0, .int .i64 0, .int .i64 0, .int .i64 0] 38)).drew).cell? ⟨w.heap.size, i, none⟩ = #[Value.int .i64 a0, .int .i64 a1, .int .i64 a2, .int .i64 a3, .int .i64 a4][i]?) ∧ (∀ i, ((W0.alloc (.cells #[Value.int .i64 0, .int .i64 0, .int .i64 0, .int .i64 0, .int .i64 0] 38)).drew).cell? ⟨w.heap.size + 1, i, none⟩ = #[Value.int .i64 b0, .int .i64 b1, .int .i64 b2][i]?) ∧ w.heap.size + 2 ≤ ((W0.alloc (.cells #[Value.int .i64 0, .int .i64 0, .int .i64 0, .int .i64 0, .int .i64 0] 38)).drew).heap.size := tw_alloc hN
  have B0a : Below w.heap.size w ((W0.alloc (.cells #[Value.int .i64 0, .int .i64 0, .int .i64 0, .int .i64 0, .int .i64 0] 38)).drew) := (bel_alloc hW).drew
  have M0a : Blk ((W0.alloc (.cells #[Value.int .i64 0, .int .i64 0, .int .i64 0, .int .i64 0, .int .i64 0] 38)).drew) W0.heap.size 38 #[Value.int .i64 0, .int .i64 0, .int .i64 0, .int .i64 0, .int .i64 0] := (Blk.new W0 _ _).drew
  go_cut [11] (fun s11 wx => ∃ g : Nat, s11 = .pointer (some ⟨g, 0, none⟩) ∧ Blk wx g 38 #[Value.int .i64 a0, .int .i64 (steerV a0 a1 a2 a3 a4 b0 b1 b2 c0 c1 c2), .int .i64 a2, .int .i64 a3, .int .i64 a4] ∧ Below w.heap.size w wx ∧ (∀ i, wx.cell? ⟨w.heap.size, i, none⟩ = #[Value.int .i64 a0, .int .i64 a1, .int .i64 a2, .int .i64 a3, .int .i64 a4][i]?) ∧ (∀ i, wx.cell? ⟨w.heap.size + 1, i, none⟩ = #[Value.int .i64 b0, .int .i64 b1, .int .i64 b2][i]?) ∧ w.heap.size + 2 ≤ wx.heap.size)
  case first =>
    go_region_held3 (fun w' => (∀ i, w'.cell? ⟨w.heap.size, i, none⟩ = #[Value.int .i64 a0, .int .i64 a1, .int .i64 a2, .int .i64 a3, .int .i64 a4][i]?) ∧ (∀ i, w'.cell? ⟨w.heap.size + 1, i, none⟩ = #[Value.int .i64 b0, .int .i64 b1, .int .i64 b2][i]?) ∧ w.heap.size + 2 ≤ w'.heap.size) (first | with_reducible exact S3 | with_reducible exact S2 | with_reducible exact S1 | with_reducible exact S0 | with_reducible exact S0a | with_reducible exact tw_alloc S3 | with_reducible exact tw_alloc S2 | with_reducible exact tw_alloc S1 | with_reducible exact tw_far (tw_far (tw_far (tw_far (tw_far S3 gM) gM) gM) gM) gM) (first | (go_at_call 30; refine (l_toWeir _ _ _ _ _ _).mono ?_; rintro e w1 ⟨rfl, hb1⟩; (first | (with_reducible have S1 := tw_below hb1 S0; with_reducible have B1 := bel_step B0 hb1; first | (with_reducible have M1 := blk_step M0 hb1; with_reducible have cM := M1.cell; with_reducible have fM := M1.frozen) | skip) | (with_reducible have S1 := tw_below hb1 S0a; with_reducible have B1 := bel_step B0a hb1; with_reducible have M1 := blk_step M0a hb1; with_reducible have gM := hN.2.2; with_reducible have cM := M1.cell; with_reducible have fM := M1.frozen))) | (go_at_call 25; refine (l_toRule _ _ _ _).mono ?_; rintro e w2 ⟨rfl, hb2⟩; (first | (with_reducible have S2 := tw_below hb2 S1; with_reducible have B2 := bel_step B1 hb2; first | (with_reducible have M2 := blk_step M1 hb2; with_reducible have cM := M2.cell; with_reducible have fM := M2.frozen) | skip) | (with_reducible have S2 := tw_below hb2 (tw_alloc S1); with_reducible have B2 := bel_step (bel_alloc B1) hb2; with_reducible have M2 := blk_new hb2; with_reducible have gM := S1.2.2; with_reducible have cM := M2.cell; with_reducible have fM := M2.frozen))) | (go_at_call 51; refine (s_SteerWeir _ _ _ _ _ _ _ _ _ _ _ _).mono ?_; rintro e w3 ⟨rfl, hb3⟩; (first | (with_reducible have S3 := tw_below hb3 S2; with_reducible have B3 := bel_step B2 hb3; first | (with_reducible have M3 := blk_step M2 hb3; with_reducible have cM := M3.cell; with_reducible have fM := M3.frozen) | skip) | (with_reducible have S3 := tw_below hb3 (tw_alloc S2); with_reducible have B3 := bel_step (bel_alloc B2) hb3; with_reducible have M3 := blk_new hb3; with_reducible have gM := S2.2.2; with_reducible have cM := M3.cell; with_reducible have fM := M3.frozen))))
    all_goals go_wp2_with fail
    all_goals go_meet
    all_goals first | with_reducible exact ⟨_, rfl, Blk.new _ _ _, bel_alloc B3, tw_alloc S3⟩ | with_reducible exact ⟨_, rfl, blk_set5 M3, bel_set5 B3 gM, tw_far (tw_far (tw_far (tw_far (tw_far S3 gM) gM) gM) gM) gM⟩
  case rest =>
    clear S0 B0 S0a B0a M0a hN hW
    obtain ⟨g, rfl, hM, hW, hN⟩ := hcut
    go_upto_region 2 with (fail)
    have S0 : (∀ i, wc.drew.cell? ⟨w.heap.size, i, none⟩ = #[Value.int .i64 a0, .int .i64 a1, .int .i64 a2, .int .i64 a3, .int .i64 a4][i]?) ∧ (∀ i, wc.drew.cell? ⟨w.heap.size + 1, i, none⟩ = #[Value.int .i64 b0, .int .i64 b1, .int .i64 b2][i]?) ∧ w.heap.size + 2 ≤ wc.drew.heap.size := hN
    have B0 : Below w.heap.size w wc.drew := hW.drew
    have S0a : (∀ i, ((wc.alloc (.cells #[Value.int .i64 0, .int .i64 0, .int .i64 0, .int .i64 0, .int .i64 0] 38)).drew).cell? ⟨w.heap.size, i, none⟩ = #[Value.int .i64 a0, .int .i64 a1, .int .i64 a2, .int .i64 a3, .int .i64 a4][i]?) ∧ (∀ i, ((wc.alloc (.cells #[Value.int .i64 0, .int .i64 0, .int .i64 0, .int .i64 0, .int .i64 0] 38)).drew).cell? ⟨w.heap.size + 1, i, none⟩ = #[Value.int .i64 b0, .int .i64 b1, .int .i64 b2][i]?) ∧ w.heap.size + 2 ≤ ((wc.alloc (.cells #[Value.int .i64 0, .int .i64 0, .int .i64 0, .int .i64 0, .int .i64 0] 38)).drew).heap.size := tw_alloc hN
    have B0a : Below w.heap.size w ((wc.alloc (.cells #[Value.int .i64 0, .int .i64 0, .int .i64 0, .int .i64 0, .int .i64 0] 38)).drew) := (bel_alloc hW).drew
    have M0a : Blk ((wc.alloc (.cells #[Value.int .i64 0, .int .i64 0, .int .i64 0, .int .i64 0, .int .i64 0] 38)).drew) wc.heap.size 38 #[Value.int .i64 0, .int .i64 0, .int .i64 0, .int .i64 0, .int .i64 0] := (Blk.new wc _ _).drew
    have hMd : Blk wc.drew g 38 #[Value.int .i64 a0, .int .i64 (steerV a0 a1 a2 a3 a4 b0 b1 b2 c0 c1 c2), .int .i64 a2, .int .i64 a3, .int .i64 a4] := hM.drew
    have hMa : Blk ((wc.alloc (.cells #[Value.int .i64 0, .int .i64 0, .int .i64 0, .int .i64 0, .int .i64 0] 38)).drew) g 38 #[Value.int .i64 a0, .int .i64 (steerV a0 a1 a2 a3 a4 b0 b1 b2 c0 c1 c2), .int .i64 a2, .int .i64 a3, .int .i64 a4] := (hM.alloc _).drew
    have hMl := hM.lt
    go_cut [12] (fun s12 wx => ∃ g' : Nat, s12 = .pointer (some ⟨g', 0, none⟩) ∧ Blk wx g' 38 #[Value.int .i64 a0, .int .i64 (steerV a0 a1 a2 a3 a4 b0 b1 b2 c0 c1 c2), .int .i64 a2, .int .i64 a3, .int .i64 a4] ∧ Below w.heap.size w wx ∧ Blk wx g 38 #[Value.int .i64 a0, .int .i64 (steerV a0 a1 a2 a3 a4 b0 b1 b2 c0 c1 c2), .int .i64 a2, .int .i64 a3, .int .i64 a4])
    case first =>
      go_region_held3 (fun w' => (∀ i, w'.cell? ⟨w.heap.size, i, none⟩ = #[Value.int .i64 a0, .int .i64 a1, .int .i64 a2, .int .i64 a3, .int .i64 a4][i]?) ∧ (∀ i, w'.cell? ⟨w.heap.size + 1, i, none⟩ = #[Value.int .i64 b0, .int .i64 b1, .int .i64 b2][i]?) ∧ w.heap.size + 2 ≤ w'.heap.size) (first | with_reducible exact S3 | with_reducible exact S2 | with_reducible exact S1 | with_reducible exact S0 | with_reducible exact S0a | with_reducible exact tw_alloc S3 | with_reducible exact tw_alloc S2 | with_reducible exact tw_alloc S1 | with_reducible exact tw_far (tw_far (tw_far (tw_far (tw_far S3 gM) gM) gM) gM) gM) (first | (go_at_call 30; refine (l_toWeir _ _ _ _ _ _).mono ?_; rintro e w1 ⟨rfl, hb1⟩; (first | (with_reducible have S1 := tw_below hb1 S0; with_reducible have N1 := blk_step hMd hb1; with_reducible have B1 := bel_step B0 hb1; first | (with_reducible have M1 := blk_step M0 hb1; with_reducible have cM := M1.cell; with_reducible have fM := M1.frozen) | skip) | (with_reducible have S1 := tw_below hb1 S0a; with_reducible have N1 := blk_step hMa hb1; with_reducible have gN := hMl; with_reducible have B1 := bel_step B0a hb1; with_reducible have M1 := blk_step M0a hb1; with_reducible have gM := hN.2.2; with_reducible have cM := M1.cell; with_reducible have fM := M1.frozen))) | (go_at_call 25; refine (l_toRule _ _ _ _).mono ?_; rintro e w2 ⟨rfl, hb2⟩; (first | (with_reducible have S2 := tw_below hb2 S1; with_reducible have N2 := blk_step N1 hb2; with_reducible have B2 := bel_step B1 hb2; first | (with_reducible have M2 := blk_step M1 hb2; with_reducible have cM := M2.cell; with_reducible have fM := M2.frozen) | skip) | (with_reducible have S2 := tw_below hb2 (tw_alloc S1); with_reducible have N2 := blk_step (N1.alloc _) hb2; with_reducible have gN := N1.lt; with_reducible have B2 := bel_step (bel_alloc B1) hb2; with_reducible have M2 := blk_new hb2; with_reducible have gM := S1.2.2; with_reducible have cM := M2.cell; with_reducible have fM := M2.frozen))) | (go_at_call 50; refine (i_SteerWeir _ _ _ _ _ _ _ _ _ _ _ _).mono ?_; rintro e w3 ⟨rfl, hb3⟩; (first | (with_reducible have S3 := tw_below hb3 S2; with_reducible have N3 := blk_step N2 hb3; with_reducible have B3 := bel_step B2 hb3; first | (with_reducible have M3 := blk_step M2 hb3; with_reducible have cM := M3.cell; with_reducible have fM := M3.frozen) | skip) | (with_reducible have S3 := tw_below hb3 (tw_alloc S2); with_reducible have N3 := blk_step (N2.alloc _) hb3; with_reducible have gN := N2.lt; with_reducible have B3 := bel_step (bel_alloc B2) hb3; with_reducible have M3 := blk_new hb3; with_reducible have gM := S2.2.2; with_reducible have cM := M3.cell; with_reducible have fM := M3.frozen))))
      all_goals go_wp2_with fail
      all_goals go_meet
      all_goals first | with_reducible exact ⟨_, rfl, Blk.new _ _ _, bel_alloc B3, N3.alloc _⟩ | with_reducible exact ⟨_, rfl, blk_set5 M3, bel_set5 B3 gM, blk_far5 N3 (Nat.ne_of_lt gN)⟩
    case rest =>
      clear S0 B0 S0a B0a M0a hN hW hM hMd hMa hMl
      obtain ⟨g', rfl, hM', hW, hM⟩ := hcut
      have cM := hM.cell
      have cM' := hM'.cell
      go_wp2_with fail
      refine (l_eqWeir _ _ _ _ _ _).mono ?_; rintro e w8 ⟨rfl, hb⟩
      have hW8 := hW.trans (hb.mono hW.size)
      go_wp2
      go_ret
      exact ⟨rfl, hW8⟩
end Go.Proofs.Ytlilnhlkfooihaa
