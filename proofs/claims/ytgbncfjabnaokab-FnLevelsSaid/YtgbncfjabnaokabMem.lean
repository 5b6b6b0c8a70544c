/- Words for memory: a block that is known whole (after the guide's page of such words), draws and frames. -/
import Derived.Test.YtgbncfjabnaokabPlain
import Derived.WalkKit
import Derived.Lib.Hide
import Derived.Deep.Draws
import Derived.Deep.Light
namespace Go.Proofs.Ytgbncfjabnaokab
open Go.RowKit

theorem below_drewN {B : Nat} {a w : World} (h : Below B a w) (n : Nat) : Below B a (w.drewN n) := ⟨h.os, h.tape, h.output, h.size, h.block⟩
theorem bcell {W w1 : World} (hb : Below W.heap.size W w1) : (∀ b o, b < W.heap.size → w1.cell? ⟨b, o, none⟩ = W.cell? ⟨b, o, none⟩) ∧ (∀ b o, b < W.heap.size → w1.frozen? ⟨b, o, none⟩ = W.frozen? ⟨b, o, none⟩) :=
  ⟨fun b o h => hb.cell (p := ⟨b, o, none⟩) h, fun b o h => hb.frozen (p := ⟨b, o, none⟩) h⟩

/-- Block g is just the cells cs of element type t, none frozen. -/
def Blk (w : World) (g : Nat) (t : TypeId) (cs : Array Value) : Prop := w.heap[g]? = some (.cells cs t (0, 0))

section
variable {w w' : World} {g : Nat} {t : TypeId} {cs : Array Value}
theorem Blk.lt (h : Blk w g t cs) : g < w.heap.size := by
  rcases Nat.lt_or_ge g w.heap.size with hlt | hge
  · exact hlt
  · unfold Blk at h; rw [Array.getElem?_eq_none hge] at h; cases h
theorem Blk.cell (h : Blk w g t cs) (i : Nat) : w.cell? ⟨g, i, none⟩ = cs[i]? := cell_of_row w g i cs t (0, 0) h
theorem Blk.frozen (h : Blk w g t cs) (i : Nat) : w.frozen? ⟨g, i, none⟩ = false := by
  unfold Blk at h
  simp [World.frozen?, h]
theorem Blk.new (w : World) (t : TypeId) (cs : Array Value) : Blk (w.alloc (.cells cs t)) w.heap.size t cs := heap_alloc_new w _
theorem Blk.drew (h : Blk w g t cs) : Blk w.drew g t cs := h
theorem Blk.drewN (h : Blk w g t cs) (n : Nat) : Blk (w.drewN n) g t cs := h
theorem Blk.alloc (h : Blk w g t cs) (o : Obj) : Blk (w.alloc o) g t cs := (Below.heap_alloc w o g h.lt).trans h
theorem Blk.set_ (h : Blk w g t cs) (i : Nat) (u : Value) : Blk (w.setCell ⟨g, i, none⟩ u) g t (cs.setIfInBounds i u) := by
  unfold Blk at h ⊢
  simp [World.setCell, Array.getElem?_modify, h]
theorem Blk.far (h : Blk w g t cs) {p : Addr} (hp : g ≠ p.block) (u : Value) : Blk (w.setCell p u) g t cs := (Below.heap_setCell w p u g hp).trans h
theorem Blk.below {B : Nat} (h : Blk w g t cs) (hb : Below B w w') (hg : g < B) : Blk w' g t cs := (hb.block g hg).trans h
theorem Blk.grown {row : Option Nat} (h : Blk w g t cs) (hb : w.grownBy w' row) (hg : some g ≠ row) : Blk w' g t cs := (hb.block g h.lt hg).trans h
theorem Blk.same (h : Blk w g t cs) (h' : w'.heap[g]? = w.heap[g]?) : Blk w' g t cs := h'.trans h
end

section
variable {w w1 : World} {cs ds : Array Value} {t u : TypeId}
theorem kept2a (hb : Below ((w.alloc (.cells cs t)).alloc (.cells ds u)).heap.size ((w.alloc (.cells cs t)).alloc (.cells ds u)) w1) : (∀ i, w1.cell? ⟨w.heap.size, i, none⟩ = cs[i]?) ∧ (∀ i, w1.frozen? ⟨w.heap.size, i, none⟩ = false) :=
  have h := ((Blk.new w t cs).alloc (.cells ds u)).below hb (by simp; omega)
  ⟨h.cell, h.frozen⟩
theorem kept2b (hb : Below ((w.alloc (.cells cs t)).alloc (.cells ds u)).heap.size ((w.alloc (.cells cs t)).alloc (.cells ds u)) w1) : (∀ i, w1.cell? ⟨w.heap.size + 1, i, none⟩ = ds[i]?) ∧ (∀ i, w1.frozen? ⟨w.heap.size + 1, i, none⟩ = false) := by
  have h := (Blk.new (w.alloc (.cells cs t)) u ds).below hb (by simp)
  simp only [World.size_alloc] at h
  exact ⟨h.cell, h.frozen⟩
theorem kept2z (hb : Below ((w.alloc (.cells cs t)).alloc (.cells ds u)).heap.size ((w.alloc (.cells cs t)).alloc (.cells ds u)) w1) : w.heap.size + 2 ≤ w1.heap.size := by
  have := hb.size; simpa using this
theorem kept1 (hb : Below (w.alloc (.cells cs t)).heap.size (w.alloc (.cells cs t)) w1) : (∀ i, w1.cell? ⟨w.heap.size, i, none⟩ = cs[i]?) ∧ (∀ i, w1.frozen? ⟨w.heap.size, i, none⟩ = false) ∧ w.heap.size + 1 ≤ w1.heap.size := by
  have h := (Blk.new w t cs).below hb (by simp)
  exact ⟨h.cell, h.frozen, by have := hb.size; simpa using this⟩
theorem step1 {w W w1 : World} {g : Nat} {t : TypeId} {cs : Array Value} (hA : Blk W g t cs) (hW : Below w.heap.size w W) (hb : Below W.heap.size W w1) :
    Blk w1 g t cs ∧ Below w.heap.size w w1 ∧ (∀ i, w1.cell? ⟨g, i, none⟩ = cs[i]?) ∧ (∀ i, w1.frozen? ⟨g, i, none⟩ = false) ∧ g < w1.heap.size :=
  have h := hA.below hb hA.lt
  ⟨h, hW.trans (hb.mono hW.size), h.cell, h.frozen, h.lt⟩
theorem two_below {B : Nat} {xs ys : Array Value} {W w1 : World} (hb : Below W.heap.size W w1) (h : (∀ i, W.cell? ⟨B, i, none⟩ = xs[i]?) ∧ (∀ i, W.cell? ⟨B + 1, i, none⟩ = ys[i]?) ∧ B + 3 ≤ W.heap.size) :
    (∀ i, w1.cell? ⟨B, i, none⟩ = xs[i]?) ∧ (∀ i, w1.cell? ⟨B + 1, i, none⟩ = ys[i]?) ∧ B + 3 ≤ w1.heap.size :=
  ⟨fun i => (hb.cell (p := ⟨B, i, none⟩) (by have := h.2.2; show B < _; omega)).trans (h.1 i), fun i => (hb.cell (p := ⟨B + 1, i, none⟩) (by have := h.2.2; show B + 1 < _; omega)).trans (h.2.1 i), Nat.le_trans h.2.2 hb.size⟩
theorem two_set {B : Nat} {xs ys : Array Value} {W : World} (h : (∀ i, W.cell? ⟨B, i, none⟩ = xs[i]?) ∧ (∀ i, W.cell? ⟨B + 1, i, none⟩ = ys[i]?) ∧ B + 3 ≤ W.heap.size) {j : Nat} {u : Value} :
    (∀ i, (W.setCell ⟨B + 1 + 1, j, none⟩ u).cell? ⟨B, i, none⟩ = xs[i]?) ∧ (∀ i, (W.setCell ⟨B + 1 + 1, j, none⟩ u).cell? ⟨B + 1, i, none⟩ = ys[i]?) ∧ B + 3 ≤ (W.setCell ⟨B + 1 + 1, j, none⟩ u).heap.size :=
  ⟨fun i => (World.cell?_setCell_other _ _ _ _ (by simp)).trans (h.1 i), fun i => (World.cell?_setCell_other _ _ _ _ (by simp)).trans (h.2.1 i), by simpa [World.setCell] using h.2.2⟩
section
variable {w w1 : World} {cs ds es : Array Value} {t u v : TypeId}
theorem kept3 (hb : Below (((w.alloc (.cells cs t)).alloc (.cells ds u)).alloc (.cells es v)).heap.size (((w.alloc (.cells cs t)).alloc (.cells ds u)).alloc (.cells es v)) w1) :
    Blk w1 w.heap.size t cs ∧ Blk w1 (w.heap.size + 1) u ds ∧ Blk w1 (w.heap.size + 1 + 1) v es ∧ Below w.heap.size w w1 ∧ w.heap.size + 3 ≤ w1.heap.size := by
  have h1 := (((Blk.new w t cs).alloc (.cells ds u)).alloc (.cells es v)).below hb (by simp; omega)
  have h2 := ((Blk.new (w.alloc (.cells cs t)) u ds).alloc (.cells es v)).below hb (by simp)
  have h3 := (Blk.new ((w.alloc (.cells cs t)).alloc (.cells ds u)) v es).below hb (by simp)
  simp only [World.size_alloc] at h2 h3
  refine ⟨h1, h2, h3, ((((Below.refl _ _).alloc (Nat.le_refl _) _).alloc (by simp) _).alloc (by simp; omega) _).trans (hb.mono (by simp; omega)), by have := hb.size; simpa using this⟩
end
end
end Go.Proofs.Ytgbncfjabnaokab
