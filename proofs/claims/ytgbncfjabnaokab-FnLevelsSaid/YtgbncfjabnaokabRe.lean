/- Plain facts on reaches, no program in sight: what ReachOk, TotalOf, SpaceIn compute. -/
import Derived.Test.YtgbncfjabnaokabTab
namespace Go.Proofs.Ytgbncfjabnaokab

def sumI : List Int → Int
  | [] => 0
  | z :: r => z + sumI r
theorem sumI_append (a b : List Int) : sumI (a ++ b) = sumI a + sumI b := by
  induction a with
  | nil => simp [sumI]
  | cons z r ih => simp [sumI, ih]; omega
theorem sumI_take {zs : List Int} {k : Nat} (hk : k < zs.length) : sumI (zs.take (k + 1)) = sumI (zs.take k) + zs.getD k 0 := by
  rw [List.take_succ_eq_append_getElem hk, sumI_append]
  simp [sumI, hk]
def allPos (zs : List Int) : Bool := zs.all (fun z => decide (0 ≤ z))
theorem allPos_iff {zs : List Int} : allPos zs = true ↔ ∀ j, j < zs.length → 0 ≤ zs.getD j 0 := by
  unfold allPos
  rw [List.all_eq_true]
  constructor
  · intro h j hj
    have := h (zs[j]) (List.getElem_mem hj)
    simpa [hj] using this
  · intro h z hz
    obtain ⟨j, hj, rfl⟩ := List.getElem_of_mem hz
    have := h j hj
    simpa [hj] using this
theorem sum_nonneg {zs : List Int} (h : allPos zs = true) : 0 ≤ sumI zs := by
  induction zs with
  | nil => simp [sumI]
  | cons z r ih =>
    simp only [allPos, List.all_cons, Bool.and_eq_true, decide_eq_true_eq] at h
    have := ih h.2
    simp only [sumI]; omega
theorem sum_take_le {zs : List Int} (h : allPos zs = true) (k : Nat) : sumI (zs.take k) ≤ sumI zs := by
  have e := sumI_append (zs.take k) (zs.drop k)
  rw [List.take_append_drop] at e
  have : allPos (zs.drop k) = true := by
    unfold allPos at h ⊢
    rw [List.all_eq_true] at h ⊢
    exact fun z hz => h z (List.mem_of_mem_drop hz)
  have := sum_nonneg this
  omega
/-- ReachOk. -/
def reachOk (ps : List (Int × Int)) (vol : Int) (zs : List Int) : Bool :=
  tableOk ps && inR vol 0 1000000000 && decide (zs.length ≤ 12) && allPos zs && decide (vol + sumI zs ≤ 1000000000)
theorem reach_no {ps : List (Int × Int)} {vol : Int} {zs : List Int} (h : tableOk ps = false ∨ inR vol 0 1000000000 = false ∨ 12 < zs.length) : reachOk ps vol zs = false := by
  unfold reachOk
  rcases h with h | h | h
  · rw [h]; rfl
  · rw [h]; simp
  · have : decide (zs.length ≤ 12) = false := by simp; omega
    rw [this]; simp
theorem reach_true {ps : List (Int × Int)} {vol : Int} {zs : List Int} (h : reachOk ps vol zs = true) :
    tableOk ps = true ∧ (0 ≤ vol ∧ vol ≤ 1000000000) ∧ zs.length ≤ 12 ∧ allPos zs = true ∧ vol + sumI zs ≤ 1000000000 := by
  simp only [reachOk, Bool.and_eq_true, decide_eq_true_eq] at h
  obtain ⟨⟨⟨⟨h1, h2⟩, h3⟩, h4⟩, h5⟩ := h
  exact ⟨h1, inR_true h2, h3, h4, h5⟩
theorem reach_mk {ps : List (Int × Int)} {vol : Int} {zs : List Int} (h1 : tableOk ps = true) (h2 : inR vol 0 1000000000 = true) (h3 : zs.length ≤ 12) (h4 : allPos zs = true) (h5 : vol + sumI zs ≤ 1000000000) : reachOk ps vol zs = true := by
  simp [reachOk, h1, h2, h3, h4, h5]
theorem reach_neg {ps : List (Int × Int)} {vol : Int} {zs : List Int} {k : Nat} (hk : k < zs.length) (h : zs.getD k 0 < 0) : reachOk ps vol zs = false := by
  cases hr : reachOk ps vol zs
  · rfl
  · have := allPos_iff.1 (reach_true hr).2.2.2.1 k hk; omega
/-- What is left for the pipe from k on. -/
def LeftTo (vol : Int) (zs : List Int) (k : Nat) (L : Int) : Prop := L = 1000000000 - vol - sumI (zs.take k) ∧ ∀ j, j < k → 0 ≤ zs.getD j 0
theorem left_over {ps : List (Int × Int)} {vol L : Int} {zs : List Int} {k : Nat} (h : LeftTo vol zs k L) (hk : k < zs.length) (ho : L < zs.getD k 0) : reachOk ps vol zs = false := by
  cases hr : reachOk ps vol zs
  · rfl
  · obtain ⟨_, _, _, h4, h5⟩ := reach_true hr
    have h1 := sum_take_le h4 (k + 1)
    rw [sumI_take hk] at h1
    have := h.1
    omega
theorem left_step {vol L : Int} {zs : List Int} {k : Nat} (h : LeftTo vol zs k L) (hk : k < zs.length) (h0 : 0 ≤ zs.getD k 0) : LeftTo vol zs (k + 1) (L - zs.getD k 0) := by
  refine ⟨by rw [sumI_take hk]; have := h.1; omega, fun j hj => ?_⟩
  rcases Nat.lt_or_ge j k with h1 | h1
  · exact h.2 j h1
  · rw [show j = k by omega]; exact h0
theorem left_end {ps : List (Int × Int)} {vol L : Int} {zs : List Int} (h : LeftTo vol zs zs.length L) (h1 : tableOk ps = true) (h2 : inR vol 0 1000000000 = true) (h3 : zs.length ≤ 12) (hL : 0 ≤ L) : reachOk ps vol zs = true := by
  refine reach_mk h1 h2 h3 (allPos_iff.2 h.2) ?_
  have := h.1
  rw [List.take_length] at this
  omega
theorem pipe_big {ps : List (Int × Int)} {vol : Int} {zs : List Int} {k : Nat} (hk : k < zs.length) (h : inR (zs.getD k 0) 0 1000000000 = false) : reachOk ps vol zs = false := by
  cases hr : reachOk ps vol zs
  · rfl
  · obtain ⟨_, h2, _, h4, h5⟩ := reach_true hr
    have a := allPos_iff.1 h4 k hk
    have b := sum_take_le h4 (k + 1)
    rw [sumI_take hk] at b
    have c : 0 ≤ sumI (zs.take k) := by
      refine sum_nonneg ?_
      unfold allPos at h4 ⊢
      rw [List.all_eq_true] at h4 ⊢
      exact fun z hz => h4 z (List.mem_of_mem_take hz)
    rcases inR_false h with h | h <;> omega
/-- TotalOf, SpaceIn. -/
def totalV (ps : List (Int × Int)) (vol : Int) (zs : List Int) : Int := if reachOk ps vol zs = true then vol + sumI zs else 0
def spaceV (ps : List (Int × Int)) (vol : Int) (zs : List Int) : Int := if reachOk ps vol zs = true then 1000000000 - (vol + sumI zs) else 0
theorem sum_take_bd {zs : List Int} (h : ∀ j, j < zs.length → 0 ≤ zs.getD j 0 ∧ zs.getD j 0 ≤ 1000000000) : ∀ k, k ≤ zs.length → 0 ≤ sumI (zs.take k) ∧ sumI (zs.take k) ≤ k * 1000000000
  | 0, _ => by simp [sumI]
  | k + 1, hk => by
    have := sum_take_bd h k (by omega)
    have := h k (by omega)
    rw [sumI_take (by omega)]
    omega
end Go.Proofs.Ytgbncfjabnaokab
