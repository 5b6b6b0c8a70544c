/- Small words for boxes of reaches in the laws' walks. -/
import Derived.Test.YtgbncfjabnaokabLawT
namespace Go.Proofs.Ytgbncfjabnaokab
open Go.RowKit

theorem szR_cases (n m : Nat) : szR 1048576 n m = -1 ∨ (0 ≤ szR 1048576 n m ∧ n ≤ 1048576 ∧ m ≤ 1048576) := by
  rcases szV_or 1048576 n with h | h
  · exact .inl (by unfold szR; rw [if_pos (by omega)])
  · have e : szR 1048576 n m = szV (szV 1048576 n) m := by unfold szR; rw [if_neg (by omega)]
    obtain ⟨h1, h2⟩ := szV_le h (by omega)
    rw [e]
    rcases szV_or (szV 1048576 n) m with h3 | h3
    · exact .inl h3
    · exact .inr ⟨h3, by omega, by have := (szV_le h3 h1).2; omega⟩
theorem boxN (w : World) (t : TypeId) (cs : Array Value) : Blk (w.alloc (.cells cs t)) w.heap.size t cs ∧ Below w.heap.size w (w.alloc (.cells cs t)) ∧ (w.alloc (.cells cs t)).heap.size = w.heap.size + 1 :=
  ⟨Blk.new w t cs, (Below.refl _ _).alloc (Nat.le_refl _) _, by simp⟩
theorem boxes_below {g g' : Nat} {xs ys : Array Value} {W w1 : World} (hb : Below W.heap.size W w1) (h : (∀ i, W.cell? ⟨g, i, none⟩ = xs[i]?) ∧ (∀ i, W.cell? ⟨g', i, none⟩ = ys[i]?) ∧ g < W.heap.size ∧ g' < W.heap.size) :
    (∀ i, w1.cell? ⟨g, i, none⟩ = xs[i]?) ∧ (∀ i, w1.cell? ⟨g', i, none⟩ = ys[i]?) ∧ g < w1.heap.size ∧ g' < w1.heap.size :=
  ⟨fun i => (hb.cell (p := ⟨g, i, none⟩) h.2.2.1).trans (h.1 i), fun i => (hb.cell (p := ⟨g', i, none⟩) h.2.2.2).trans (h.2.1 i), Nat.lt_of_lt_of_le h.2.2.1 hb.size, Nat.lt_of_lt_of_le h.2.2.2 hb.size⟩
end Go.Proofs.Ytgbncfjabnaokab
