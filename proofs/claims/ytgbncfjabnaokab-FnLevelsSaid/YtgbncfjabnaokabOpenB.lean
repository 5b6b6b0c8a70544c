/- An argument that is a slice of bytes, opened. -/
import Derived.Test.YtgbncfjabnaokabRows
import Derived.Test.YtgbncfjabnaokabDraw
import Derived.WalkKit
import Derived.ProofKit
import Derived.OpenShut
namespace Go.Proofs.Ytgbncfjabnaokab
open Go.ChangeShapes Go.WideShapes Go.ChangeAt Go.RowKit

theorem cell_lt {w : World} {p : Addr} {v : Value} (h : w.cell? p = some v) : p.block < w.heap.size := by
  rcases Nat.lt_or_ge p.block w.heap.size with hlt | hge
  · exact hlt
  · rw [World.cell?, Array.getElem?_eq_none hge] at h
    simp at h

section
variable {H : Type} {enc : TypeId × Value → H} {W : World} {base : Nat} {v : Value} {d : DataW H} {p : List MemPlace}
theorem open_bytes (hv : Value.okWide Try.prog W .any base 40 v) (h : DataW.Trod enc Try.prog W 0 (fun _ => true) true 40 v d p) (_hlt : ∀ x ∈ p, x.block < W.heap.size) :
    ∃ (A : Option Addr) (n c : Nat) (zs : List Int), v = .slice A n c ∧ BytesAt W W.heap.size A n zs := by
  obtain ⟨a0, len0, cap0, rfl⟩ := okWide_slice Try.underlying40 hv
  obtain ⟨fuel, hf⟩ := h
  rcases open_ints Try.underlying40 Try.underlying5 (by kernel_rfl) hf with ⟨hcs, _⟩ | ⟨x, l, c, zs, hcs, _, hl, hm, hz, _, hcell, hwz⟩
  · simp [Value.cells] at hcs
    obtain ⟨rfl, rfl, rfl⟩ := hcs
    exact ⟨_, _, _, [], rfl, rfl, fun j => by simp, fun h => absurd h (by omega)⟩
  · simp [Value.cells] at hcs
    obtain ⟨rfl, rfl, rfl⟩ := hcs
    simp at hz
    refine ⟨_, _, _, zs.take len0, rfl, by simp; omega, fun j => ?_, fun h0 => ?_⟩
    · rw [List.getD_eq_getElem?_getD]
      rcases Nat.lt_or_ge j (zs.take len0).length with hj | hj
      · rw [List.getElem?_eq_getElem hj]
        have hmem := List.mem_of_mem_take (List.getElem_mem hj)
        exact bounds_u8 (hwz _ hmem)
      · rw [List.getElem?_eq_none hj]; simp
    · have h1 := hcell 0 (by omega)
      obtain ⟨b, off, spot⟩ := x
      have hspot : spot = none := by simpa [Addr.add] using World.cell?_spot h1
      subst hspot
      have hadd : ∀ j, (⟨b, off, none⟩ : Addr).add j = ⟨b, off + j, none⟩ := fun j => by
        unfold Addr.add; split
        · rename_i h; subst h; rfl
        · rfl
      refine ⟨b, off, rfl, cell_lt h1, fun j hj => ?_⟩
      have := hcell j (by omega)
      rw [hadd] at this
      rw [this]
      congr 2
      simp [List.getD_eq_getElem?_getD, hj]
end
end Go.Proofs.Ytgbncfjabnaokab
