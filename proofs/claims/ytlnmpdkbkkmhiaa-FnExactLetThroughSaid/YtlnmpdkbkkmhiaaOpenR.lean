/- Arguments that are slices of numbers or reaches, opened. -/
import Derived.Test.YtlnmpdkbkkmhiaaOpenP
namespace Go.Proofs.Ytlnmpdkbkkmhiaa
open Go.ChangeShapes Go.WideShapes Go.ChangeAt Go.RowKit Go.Joins Go.Deep

theorem nums_choose {Q : Nat → Int → Prop} : ∀ (n : Nat), (∀ i, i < n → ∃ x, Q i x) → ∃ zs : List Int, zs.length = n ∧ ∀ i, i < n → Q i (zs.getD i 0)
  | 0, _ => ⟨[], rfl, fun i h => by omega⟩
  | n + 1, h => by
    obtain ⟨zs, hl, hq⟩ := nums_choose n (fun i hi => h i (by omega))
    obtain ⟨x, hx⟩ := h n (by omega)
    refine ⟨zs ++ [x], by simp [hl], fun i hi => ?_⟩
    rcases Nat.lt_or_ge i n with h1 | h1
    · have := hq i h1
      simpa [List.getD, List.getElem?_append, hl, h1] using this
    · obtain rfl : i = n := by omega
      simpa [List.getD, List.getElem?_append, hl] using hx
theorem cells_int : Try.prog.cellsOf 3 = 1 := by kernel_rfl
section
variable {H : Type} {enc : TypeId × Value → H} {W : World} {base : Nat} {v : Value} {d : DataW H} {p : List MemPlace}
/-- The reading of a slice of numbers. -/
theorem nums_of_trod {fuel : Nat} {A : Option Addr} {n c : Nat} {y : DataW H × List MemPlace} {b0 : Nat} {sp : Nat → Bool} {hd : Bool} (hf : DataW.trod enc Try.prog W b0 sp hd fuel 30 [.slice A n c] = some y) :
    ∃ zs : List Int, n = zs.length ∧ NumsAt W W.heap.size A zs ∧ zs.length ≤ 9223372036854775807 := by
  rcases open_slice Try.underlying30 hf with ⟨hcs, _⟩ | ⟨a, len, cap, m, n', D, Pl, hcs, hb, hl, hm, hmm, hx, hi⟩
  · simp at hcs
    obtain ⟨rfl, rfl, rfl⟩ := hcs
    exact ⟨[], rfl, fun h => absurd h (by simp), by simp⟩
  · simp at hcs
    obtain ⟨rfl, rfl, rfl⟩ := hcs
    have hlm : n ≤ m := by rw [hmm]; split <;> omega
    obtain ⟨zs, hpl, hq⟩ := nums_choose (Q := fun i x => W.cell? (a.add i) = some (.int .i64 x)) n (fun i hin => by
      obtain ⟨cs', hc, ht'⟩ := hi i (by omega)
      rw [cells_int, Nat.mul_one] at hc
      obtain ⟨x0, e0, _, _⟩ := DataW.trod_int Try.underlying3 ht'
      obtain ⟨_, hcl, hat⟩ := World.cells?_some hc
      have := hat 0 (by omega)
      subst e0
      refine ⟨x0, ?_⟩
      rw [show ∀ p : Addr, p.add 0 = p from fun p => by simp [Addr.add]] at this
      simpa using this)
    refine ⟨zs, hpl.symm, fun h0 => ?_, by rw [hpl]; unfold maxLen at hm; omega⟩
    have h1 := hq 0 (by omega)
    obtain ⟨b, off, spot⟩ := a
    have hspot : spot = none := by simpa [Addr.add] using World.cell?_spot h1
    subst hspot
    refine ⟨b, off, rfl, ?_, fun j hj => ?_⟩
    · have := lt_of_cell h1; rw [addr_add] at this; exact this
    · have := hq j (by omega)
      rw [addr_add] at this
      exact this
theorem slice_of_trod {e t : TypeId} {P : Program} {fuel : Nat} {y : DataW H × List MemPlace} {b0 : Nat} {sp : Nat → Bool} {hd : Bool} (ht : P.underlying t = some (.slice e)) (hf : DataW.trod enc P W b0 sp hd fuel t [v] = some y) : ∃ A n c, v = .slice A n c := by
  rcases open_slice ht hf with ⟨hcs, _⟩ | ⟨a, len, cap, m, n', D, Pl, hcs, hb, hl, hm, hmm, hx, hi⟩
  · simp at hcs; exact ⟨_, _, _, hcs⟩
  · simp at hcs; exact ⟨_, _, _, hcs⟩
theorem cells_reach : Try.prog.cellsOf 40 = 3 := by kernel_rfl
theorem open_reach (hv : Value.okWide Try.prog W .any base 40 v) (h : DataW.Trod enc Try.prog W 0 (fun _ => true) true 40 v d p) :
    ∃ (tA : Option Addr) (tc : Nat) (ps : List (Int × Int)) (vol : Int) (pA : Option Addr) (pc : Nat) (zs : List Int), v = .agg #[.slice tA ps.length tc, .int .i64 vol, .slice pA zs.length pc] ∧
      PtsAt W W.heap.size tA ps ∧ NumsAt W W.heap.size pA zs ∧ ps.length ≤ 9223372036854775807 ∧ zs.length ≤ 9223372036854775807 := by
  obtain ⟨c0, c1, c2, y0, y1, y2, n, rfl, _, _, h0, h1, h2⟩ := open_agg3 Try.underlying40 (by kernel_rfl) cells_reach hv h
  obtain ⟨tA, tn, tc, rfl⟩ := slice_of_trod Try.underlying38 h0
  obtain ⟨pA, pn, pc, rfl⟩ := slice_of_trod Try.underlying30 h2
  obtain ⟨vol, e1, _, _⟩ := DataW.trod_int Try.underlying3 h1
  simp at e1
  subst e1
  obtain ⟨ps, rfl, hP, hn⟩ := pts_of_trod h0
  obtain ⟨zs, rfl, hQ, hm⟩ := nums_of_trod h2
  exact ⟨tA, tc, ps, vol, pA, pc, zs, rfl, hP, hQ, hn, hm⟩
end
end Go.Proofs.Ytlnmpdkbkkmhiaa
