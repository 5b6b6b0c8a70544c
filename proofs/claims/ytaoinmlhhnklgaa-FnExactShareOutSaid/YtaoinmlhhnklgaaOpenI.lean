/- An argument that is a slice of numbers, opened. -/
import Derived.Test.YtaoinmlhhnklgaaRows
import Derived.Test.YtaoinmlhhnklgaaPts
import Derived.WalkKit
import Derived.ProofKit
import Derived.OpenShut
import Derived.Lib.SmallJoins
import Derived.Deep.Slices
import Derived.Deep.Fields
import Derived.ChangeSame
namespace Go.Proofs.Ytaoinmlhhnklgaa
open Go.ChangeShapes Go.WideShapes Go.ChangeAt Go.RowKit Go.Joins Go.Deep

theorem lt_of_cell {w : World} {p : Addr} {v : Value} (h : w.cell? p = some v) : p.block < w.heap.size := by
  rcases Nat.lt_or_ge p.block w.heap.size with hlt | hge
  · exact hlt
  · rw [World.cell?, Array.getElem?_eq_none hge] at h
    simp at h

theorem addr_add (b off j : Nat) : (⟨b, off, none⟩ : Addr).add j = ⟨b, off + j, none⟩ := by
  unfold Addr.add; split
  · rename_i h; subst h; rfl
  · rfl
theorem nums_choose {Q : Nat → Int → Prop} : ∀ (n : Nat), (∀ i, i < n → ∃ x, Q i x) → ∃ zs : List Int, zs.length = n ∧ ∀ i, i < n → Q i (zs.getD i 0)
  | 0, _ => ⟨[], rfl, fun i h => by omega⟩
  | n + 1, h => by
    obtain ⟨zs, hl, hq⟩ := nums_choose n (fun i hi => h i (by omega))
    obtain ⟨x, hx⟩ := h n (by omega)
    refine ⟨zs ++ [x], by simp [hl], fun i hi => ?_⟩
    rcases Nat.lt_or_ge i n with h1 | h1
    · have := hq i h1
      simpa [List.getD, List.getElem?_append, hl, h1] using this
    · obtain rfl : i = n := by omega
      simpa [List.getD, List.getElem?_append, hl] using hx
theorem cells_int : Try.prog.cellsOf 3 = 1 := by kernel_rfl
section
variable {H : Type} {enc : TypeId × Value → H} {W : World} {base : Nat} {v : Value} {d : DataW H} {p : List MemPlace}
/-- The reading of a slice of numbers. -/
theorem nums_of_trod {fuel : Nat} {A : Option Addr} {n c : Nat} {y : DataW H × List MemPlace} {b0 : Nat} {sp : Nat → Bool} {hd : Bool} (hf : DataW.trod enc Try.prog W b0 sp hd fuel 24 [.slice A n c] = some y) :
    ∃ zs : List Int, n = zs.length ∧ NumsAt W W.heap.size A zs ∧ zs.length ≤ 9223372036854775807 := by
  rcases open_slice Try.underlying24 hf with ⟨hcs, _⟩ | ⟨a, len, cap, m, n', D, Pl, hcs, hb, hl, hm, hmm, hx, hi⟩
  · simp at hcs
    obtain ⟨rfl, rfl, rfl⟩ := hcs
    exact ⟨[], rfl, fun h => absurd h (by simp), by simp⟩
  · simp at hcs
    obtain ⟨rfl, rfl, rfl⟩ := hcs
    have hlm : n ≤ m := by rw [hmm]; split <;> omega
    obtain ⟨zs, hpl, hq⟩ := nums_choose (Q := fun i x => W.cell? (a.add i) = some (.int .i64 x)) n (fun i hin => by
      obtain ⟨cs', hc, ht'⟩ := hi i (by omega)
      rw [cells_int, Nat.mul_one] at hc
      obtain ⟨x0, e0, _, _⟩ := DataW.trod_int Try.underlying3 ht'
      obtain ⟨_, hcl, hat⟩ := World.cells?_some hc
      have := hat 0 (by omega)
      subst e0
      refine ⟨x0, ?_⟩
      rw [show ∀ p : Addr, p.add 0 = p from fun p => by simp [Addr.add]] at this
      simpa using this)
    refine ⟨zs, hpl.symm, fun h0 => ?_, by rw [hpl]; unfold maxLen at hm; omega⟩
    have h1 := hq 0 (by omega)
    obtain ⟨b, off, spot⟩ := a
    have hspot : spot = none := by simpa [Addr.add] using World.cell?_spot h1
    subst hspot
    refine ⟨b, off, rfl, ?_, fun j hj => ?_⟩
    · have := lt_of_cell h1; rw [addr_add] at this; exact this
    · have := hq j (by omega)
      rw [addr_add] at this
      exact this
theorem open_nums (hv : Value.okWide Try.prog W .any base 24 v) (h : DataW.Trod enc Try.prog W 0 (fun _ => true) true 24 v d p) :
    ∃ (A : Option Addr) (c : Nat) (zs : List Int), v = .slice A zs.length c ∧ NumsAt W W.heap.size A zs ∧ zs.length ≤ 9223372036854775807 := by
  obtain ⟨a0, len0, cap0, rfl⟩ := okWide_slice Try.underlying24 hv
  obtain ⟨fuel, hf⟩ := h
  obtain ⟨zs, rfl, hP, hn⟩ := nums_of_trod hf
  exact ⟨a0, cap0, zs, rfl, hP, hn⟩
end
end Go.Proofs.Ytaoinmlhhnklgaa
