/- Plain: tables as the draws make them. -/
import Derived.Test.YtgbncfjabnaokabTab
namespace Go.Proofs.Ytgbncfjabnaokab
open Go.RowKit

theorem px_snoc {ps : List (Int × Int)} {p : Int × Int} {j : Nat} (h : j < ps.length) : px (ps ++ [p]) j = px ps j ∧ py (ps ++ [p]) j = py ps j := by
  unfold px py
  rw [List.getD_eq_getElem?_getD, List.getD_eq_getElem?_getD, List.getElem?_append_left h]; exact ⟨rfl, rfl⟩
theorem px_end {ps : List (Int × Int)} {p : Int × Int} : px (ps ++ [p]) ps.length = p.1 ∧ py (ps ++ [p]) ps.length = p.2 := by
  unfold px py; simp
/-- A table under way: all of it is in order, and below (x, y). -/
def TabTo (ps : List (Int × Int)) (x y : Int) : Prop :=
  okTo ps ps.length = true ∧ 0 ≤ x ∧ x ≤ 49 + 101 * (ps.length : Int) ∧ 0 ≤ y ∧ y ≤ 99 + 1000 * (ps.length : Int) ∧ ∀ j, j < ps.length → px ps j < x ∧ py ps j ≤ y
theorem tabTo_nil {x y : Int} (h0 : 0 ≤ x) (h1 : x ≤ 49) (h2 : 0 ≤ y) (h3 : y ≤ 99) : TabTo [] x y :=
  ⟨okTo_zero _, h0, by simpa using h1, h2, by simpa using h3, fun j hj => by simp at hj⟩
theorem tabTo_snoc {ps : List (Int × Int)} {x y a b : Int} (h : TabTo ps x y) (hl : ps.length ≤ 1000) (a0 : 0 ≤ a) (a1 : a ≤ 100) (b0 : 0 ≤ b) (b1 : b ≤ 1000) : TabTo (ps ++ [(x, y)]) (x + 1 + a) (y + b) := by
  obtain ⟨h1, h2, h3, h4, h5, h6⟩ := h
  refine ⟨?_, by omega, by simp; omega, by omega, by simp; omega, ?_⟩
  · rw [okTo_iff]
    intro j hj
    simp only [List.length_append, List.length_cons, List.length_nil] at hj
    rcases Nat.lt_or_ge j ps.length with hlt | hge
    · have := (okTo_iff.1 h1) j hlt
      have e1 := px_snoc (p := (x, y)) hlt
      have e2 := px_snoc (ps := ps) (p := (x, y)) (j := j - 1) (by omega)
      unfold okAtB at *
      rw [e1.1, e1.2, e2.1, e2.2]; exact this
    · obtain rfl : j = ps.length := by omega
      have e1 := px_end (ps := ps) (p := (x, y))
      unfold okAtB
      rw [e1.1, e1.2]
      rcases Nat.eq_zero_or_pos ps.length with hz | hz
      · have i1 : inR x 0 1000000000 = true := inR_mk (by omega) (by omega)
        have i2 : inR y 0 1000000000 = true := inR_mk (by omega) (by omega)
        simp [i1, i2, hz]
      · have e2 := px_snoc (ps := ps) (p := (x, y)) (j := ps.length - 1) (by omega)
        have h7 := h6 (ps.length - 1) (by omega)
        have i1 : inR x 0 1000000000 = true := inR_mk (by omega) (by omega)
        have i2 : inR y 0 1000000000 = true := inR_mk (by omega) (by omega)
        simp [i1, i2, e2.1, e2.2, h7.1, h7.2]
  · intro j hj
    simp only [List.length_append, List.length_cons, List.length_nil] at hj
    rcases Nat.lt_or_ge j ps.length with hlt | hge
    · have e1 := px_snoc (p := (x, y)) hlt
      have := h6 j hlt
      rw [e1.1, e1.2]; omega
    · obtain rfl : j = ps.length := by omega
      have e1 := px_end (ps := ps) (p := (x, y))
      rw [e1.1, e1.2]; dsimp only; omega
/-- What a drawn table is known for. -/
def TabD (ps : List (Int × Int)) : Prop := tableOk ps = true ∧ ps.length ≤ 5 ∧ ∀ j, j < ps.length → px ps j ≤ 600 ∧ py ps j ≤ 6000
theorem tabTo_end {ps : List (Int × Int)} {x y : Int} (h : TabTo ps x y) (h2 : 2 ≤ ps.length) (h5 : ps.length ≤ 5) : TabD ps := by
  obtain ⟨h1, _, h3, _, h6, h7⟩ := h
  refine ⟨tableOk_mk h2 (by omega) h1, h5, fun j hj => ?_⟩
  have := h7 j hj
  omega
/-- The value of such a table is small. -/
theorem tabD_val {ps : List (Int × Int)} (h : TabD ps) (x : Int) : 0 ≤ valueV ps x ∧ valueV ps x ≤ 6000 := by
  have hb := value_bd (x := x) h.1
  have hl := tab_len h.1
  have h0 := tab_y h.1 (j := 0) (by omega)
  have h1 := h.2.2 (ps.length - 1) (by omega)
  omega
end Go.Proofs.Ytgbncfjabnaokab
