/- An argument that is a slice of reaches, opened. -/
import Derived.Test.YtgbncfjabnaokaaOpenR
import Derived.Test.YtgbncfjabnaokaaRiP
namespace Go.Proofs.Ytgbncfjabnaokaa
open Go.ChangeShapes Go.WideShapes Go.ChangeAt Go.RowKit Go.Joins Go.Deep

theorem rs_choose {Q : Nat → Rc → Ad → Prop} (n : Nat) (h : ∀ i, i < n → ∃ d a, Q i d a) : ∃ (ds : List Rc) (ad : Nat → Ad), ds.length = n ∧ ∀ i, i < n → Q i (rcAt ds i) (ad i) := by
  have h' : ∀ i, ∃ x : Rc × Ad, i < n → Q i x.1 x.2 := fun i => by
    by_cases hi : i < n
    · obtain ⟨d, a, hq⟩ := h i hi
      exact ⟨(d, a), fun _ => hq⟩
    · exact ⟨(⟨[], 0, []⟩, ⟨none, 0, none, 0⟩), fun hh => absurd hh hi⟩
  refine ⟨(List.range n).map (fun i => (Classical.choose (h' i)).1), fun i => (Classical.choose (h' i)).2, by simp, fun i hi => ?_⟩
  have := Classical.choose_spec (h' i) hi
  simpa [rcAt, hi] using this
section
variable {H : Type} {enc : TypeId × Value → H} {W : World} {base : Nat} {v : Value} {d : DataW H} {p : List MemPlace}
theorem open_reaches (hv : Value.okWide Try.prog W .any base 34 v) (h : DataW.Trod enc Try.prog W 0 (fun _ => true) true 34 v d p) :
    ∃ (A : Option Addr) (c : Nat) (ds : List Rc), v = .slice A ds.length c ∧ RsAt W W.heap.size A ds ∧ RsLen ds 9223372036854775807 ∧ ds.length ≤ 9223372036854775807 := by
  obtain ⟨a0, len0, cap0, rfl⟩ := okWide_slice Try.underlying34 hv
  obtain ⟨fuel, hf⟩ := h
  rcases open_slice_fields Try.underlying34 Try.underlying25 (by kernel_rfl) (by kernel_rfl) hf with hcs | ⟨a, len, cap, m, hcs, hl, hm, hmm, hi⟩
  · injection hcs with hcs _
    injection hcs with q1 q2 q3
    subst q1 q2 q3
    exact ⟨none, 0, [], rfl, fun h => absurd h (by simp), fun j hj => absurd hj (by simp), by simp⟩
  · injection hcs with hcs _
    injection hcs with q1 q2 q3
    subst q1 q2 q3
    have hlm : len0 ≤ m := by rw [hmm]; split <;> omega
    obtain ⟨ds, ad, hpl, hq⟩ := rs_choose (Q := fun i r a' => W.cell? (a.add (i * 3 + 0)) = some (.slice a'.tA r.ps.length a'.tc) ∧ W.cell? (a.add (i * 3 + 1)) = some (.int .i64 r.vol) ∧ W.cell? (a.add (i * 3 + 2)) = some (.slice a'.pA r.zs.length a'.pc) ∧ PtsAt W W.heap.size a'.tA r.ps ∧ NumsAt W W.heap.size a'.pA r.zs ∧ r.ps.length ≤ 9223372036854775807 ∧ r.zs.length ≤ 9223372036854775807) len0 (fun i hin => by
      obtain ⟨n', hfld⟩ := hi i (by omega)
      obtain ⟨v0, y0, c0, t0⟩ := hfld 0 _ rfl
      obtain ⟨v1, y1, c1, t1⟩ := hfld 1 _ rfl
      obtain ⟨v2, y2, c2, t2⟩ := hfld 2 _ rfl
      obtain ⟨tA, tn, tc, rfl⟩ := slice_of_trod Try.underlying22 t0
      obtain ⟨pA, pn, pc, rfl⟩ := slice_of_trod Try.underlying23 t2
      obtain ⟨x1, e1, _, _⟩ := DataW.trod_int Try.underlying3 t1
      simp at e1
      subst e1
      obtain ⟨ps, rfl, hP, hn⟩ := pts_of_trod t0
      obtain ⟨zs, rfl, hQ, hm⟩ := nums_of_trod t2
      exact ⟨⟨ps, x1, zs⟩, ⟨tA, tc, pA, pc⟩, c0, c1, c2, hP, hQ, hn, hm⟩)
    subst hpl
    refine ⟨_, _, ds, rfl, fun h0 => ?_, fun j hj => ⟨(hq j hj).2.2.2.2.2.1, (hq j hj).2.2.2.2.2.2⟩, by unfold maxLen at hm; omega⟩
    have h1 := (hq 0 (by omega)).1
    obtain ⟨b, off, spot⟩ := a
    have hspot : spot = none := by simpa [Addr.add] using World.cell?_spot h1
    subst hspot
    refine ⟨b, off, ad, rfl, ?_, fun j hj => ?_⟩
    · have := lt_of_cell h1; rw [addr_add] at this; exact this
    · have := hq j hj
      rw [addr_add, addr_add, addr_add] at this
      exact ⟨this.1, this.2.1, this.2.2.1, this.2.2.2.1, this.2.2.2.2.1⟩
end
end Go.Proofs.Ytgbncfjabnaokaa
