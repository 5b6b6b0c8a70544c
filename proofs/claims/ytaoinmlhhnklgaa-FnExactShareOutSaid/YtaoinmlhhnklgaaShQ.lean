/- Plain: quotients and rests of shares. -/
import Derived.Test.YtaoinmlhhnklgaaShP
namespace Go.Proofs.Ytaoinmlhhnklgaa
open Go.RowKit

def qF (total : Int) (ws : List Int) (k : Nat) : Int := total * ws.getD k 0 / sumI ws
def rF (total : Int) (ws : List Int) (k : Nat) : Int := total * ws.getD k 0 % sumI ws
def allIn (ws : List Int) : Bool := ws.all (fun x => inR x 0 1000000)
def shB (total : Int) (ws : List Int) : Bool := inR total 0 1000000000 && decide (1 ≤ ws.length) && decide (ws.length ≤ 12) && allIn ws && decide (sumI ws ≠ 0)
def oF (total : Int) (ws : List Int) : Nat → Nat := fun t => ((sortO (rF total ws) (ws.length - 1))[t]!).val
def leftV (total : Int) (ws : List Int) : Int := total - sumI ((List.range ws.length).map (qF total ws))
/-- ShareOut. -/
def shareV (total : Int) (ws : List Int) : List Int := if shB total ws = true then outL ws.length (qF total ws) (oF total ws) (leftV total ws).toNat else []
theorem allIn_iff {ws : List Int} : allIn ws = true ↔ ∀ j, j < ws.length → inR (ws.getD j 0) 0 1000000 = true := by
  unfold allIn
  rw [List.all_eq_true]
  constructor
  · intro h j hj
    have := h (ws[j]) (List.getElem_mem hj)
    simpa [hj] using this
  · intro h z hz
    obtain ⟨j, hj, rfl⟩ := List.getElem_of_mem hz
    have := h j hj
    simpa [hj] using this
theorem sh_true {total : Int} {ws : List Int} (h : shB total ws = true) : (0 ≤ total ∧ total ≤ 1000000000) ∧ 1 ≤ ws.length ∧ ws.length ≤ 12 ∧ (∀ j, j < ws.length → 0 ≤ ws.getD j 0 ∧ ws.getD j 0 ≤ 1000000) ∧ sumI ws ≠ 0 := by
  simp only [shB, Bool.and_eq_true, decide_eq_true_eq] at h
  obtain ⟨⟨⟨⟨h1, h2⟩, h3⟩, h4⟩, h5⟩ := h
  exact ⟨inR_true h1, h2, h3, fun j hj => inR_true (allIn_iff.1 h4 j hj), h5⟩
theorem sh_mk {total : Int} {ws : List Int} (h1 : inR total 0 1000000000 = true) (h2 : 1 ≤ ws.length) (h3 : ws.length ≤ 12) (h4 : ∀ j, j < ws.length → inR (ws.getD j 0) 0 1000000 = true) (h5 : sumI ws ≠ 0) : shB total ws = true := by
  have := allIn_iff.2 h4
  simp [shB, h1, h2, h3, this, h5]
theorem sh_no {total : Int} {ws : List Int} (h : inR total 0 1000000000 = false ∨ ws.length < 1 ∨ 12 < ws.length ∨ (∃ j, j < ws.length ∧ inR (ws.getD j 0) 0 1000000 = false) ∨ sumI ws = 0) : shareV total ws = [] := by
  have hb : shB total ws = false := by
    cases hs : shB total ws
    · rfl
    · simp only [shB, Bool.and_eq_true, decide_eq_true_eq] at hs
      obtain ⟨⟨⟨⟨h1, h2⟩, h3⟩, h4⟩, h5⟩ := hs
      rcases h with h | h | h | ⟨j, hj, h⟩ | h
      · rw [h] at h1; cases h1
      · omega
      · omega
      · rw [allIn_iff.1 h4 j hj] at h; cases h
      · exact absurd h h5
  unfold shareV; rw [hb]; rfl
theorem sh_yes {total : Int} {ws : List Int} (h : shB total ws = true) : shareV total ws = outL ws.length (qF total ws) (oF total ws) (leftV total ws).toNat := by unfold shareV; rw [if_pos h]
theorem sum_bd {ws : List Int} : ∀ k, k ≤ ws.length → (∀ j, j < k → 0 ≤ ws.getD j 0 ∧ ws.getD j 0 ≤ 1000000) → 0 ≤ sumI (ws.take k) ∧ sumI (ws.take k) ≤ k * 1000000
  | 0, _, _ => by simp [sumI]
  | k + 1, hk, h => by
    have h1 := sum_bd k (by omega) (fun j hj => h j (by omega))
    have h2 := h k (by omega)
    rw [sumI_take (by omega)]
    omega
theorem sum_pos {ws : List Int} (h : ∀ j, j < ws.length → 0 ≤ ws.getD j 0 ∧ ws.getD j 0 ≤ 1000000) (h0 : sumI ws ≠ 0) : 0 < sumI ws := by
  have := sum_bd ws.length (Nat.le_refl _) h
  rw [List.take_length] at this
  omega
section
variable {total : Int} {ws : List Int}
/-- All that a walk asks of the quotients and rests. -/
theorem quo_facts (h : shB total ws = true) {k : Nat} (hk : k < ws.length) :
    0 ≤ total * ws.getD k 0 ∧ total * ws.getD k 0 ≤ 1000000000000000 ∧ 0 ≤ qF total ws k ∧ qF total ws k ≤ 1000000000000000 ∧ 0 ≤ rF total ws k ∧ rF total ws k < sumI ws ∧ total * ws.getD k 0 = sumI ws * qF total ws k + rF total ws k := by
  obtain ⟨t1, t2, t3, t4, t5⟩ := sh_true h
  have hs := sum_pos t4 t5
  have hw := t4 k hk
  have p0 : 0 ≤ total * ws.getD k 0 := Int.mul_nonneg t1.1 hw.1
  have p1 : total * ws.getD k 0 ≤ 1000000000 * 1000000 := Int.mul_le_mul t1.2 hw.2 hw.1 (by omega)
  refine ⟨p0, by omega, Int.ediv_nonneg p0 (by omega), ?_, Int.emod_nonneg _ (by omega), Int.emod_lt_of_pos _ hs, (Int.mul_ediv_add_emod _ _).symm⟩
  exact Int.le_trans (Int.ediv_le_self _ p0) (by omega)
theorem sumI_map_add (f g : Nat → Int) : ∀ l : List Nat, sumI (l.map (fun k => f k + g k)) = sumI (l.map f) + sumI (l.map g)
  | [] => rfl
  | x :: l => by simp only [List.map_cons, sumI]; rw [sumI_map_add f g l]; omega
theorem sumI_map_mul (c : Int) (f : Nat → Int) : ∀ l : List Nat, sumI (l.map (fun k => c * f k)) = c * sumI (l.map f)
  | [] => by simp [sumI]
  | x :: l => by simp only [List.map_cons, sumI]; rw [sumI_map_mul c f l, Int.mul_add]
theorem map_range_getD (ws : List Int) : (List.range ws.length).map (fun k => ws.getD k 0) = ws := by
  apply List.ext_getElem
  · simp
  · intro k h1 h2
    have hk : k < ws.length := h2
    simp [hk]
theorem sumI_map_congr {f g : Nat → Int} {n : Nat} (h : ∀ k, k < n → f k = g k) : sumI ((List.range n).map f) = sumI ((List.range n).map g) := by
  congr 1
  apply List.map_congr_left
  intro k hk
  exact h k (List.mem_range.1 hk)
/-- What is left, times the sum, is the sum of the rests. -/
theorem left_rests (h : shB total ws = true) : leftV total ws * sumI ws = sumI ((List.range ws.length).map (rF total ws)) := by
  have e1 : total * sumI ws = sumI ((List.range ws.length).map (fun k => total * ws.getD k 0)) := by
    rw [sumI_map_mul, map_range_getD]
  have e2 : sumI ((List.range ws.length).map (fun k => total * ws.getD k 0)) = sumI ((List.range ws.length).map (fun k => sumI ws * qF total ws k + rF total ws k)) := sumI_map_congr (fun k hk => (quo_facts h hk).2.2.2.2.2.2)
  rw [sumI_map_add (fun k => sumI ws * qF total ws k) (rF total ws), sumI_map_mul (sumI ws) (qF total ws)] at e2
  have e3 : leftV total ws * sumI ws = total * sumI ws - sumI ws * sumI ((List.range ws.length).map (qF total ws)) := by
    unfold leftV; rw [Int.sub_mul, Int.mul_comm (sumI ((List.range ws.length).map (qF total ws)))]
  omega
theorem sumI_range_succ (f : Nat → Int) (n : Nat) : sumI ((List.range (n + 1)).map f) = sumI ((List.range n).map f) + f n := by
  rw [List.range_succ, List.map_append, sumI_append]; simp [sumI]
theorem sumI_range_bd {f : Nat → Int} {c : Int} : ∀ {n : Nat}, (∀ k, k < n → 0 ≤ f k ∧ f k ≤ c) → 0 ≤ sumI ((List.range n).map f) ∧ sumI ((List.range n).map f) ≤ n * c
  | 0, _ => by simp [sumI]
  | n + 1, h => by
    have h1 := sumI_range_bd (n := n) (fun k hk => h k (by omega))
    have h2 := h n (by omega)
    rw [sumI_range_succ]
    have : ((n + 1 : Nat) : Int) * c = n * c + c := by push_cast; rw [Int.add_mul]; omega
    omega
theorem left_bd (h : shB total ws = true) : 0 ≤ leftV total ws ∧ leftV total ws < ws.length := by
  obtain ⟨t1, t2, t3, t4, t5⟩ := sh_true h
  have hs := sum_pos t4 t5
  have hr := left_rests h
  have hb := sumI_range_bd (f := rF total ws) (c := sumI ws - 1) (n := ws.length) (fun k hk => by have := quo_facts h hk; omega)
  rw [← hr] at hb
  constructor
  · rcases Int.lt_or_le (leftV total ws) 0 with h1 | h1
    · have : leftV total ws * sumI ws < 0 := Int.mul_neg_of_neg_of_pos h1 hs
      omega
    · exact h1
  · rcases Int.lt_or_le (leftV total ws) (ws.length : Int) with h1 | h1
    · exact h1
    · have h2 : (ws.length : Int) * sumI ws ≤ leftV total ws * sumI ws := Int.mul_le_mul_of_nonneg_right h1 (by omega)
      have h3 : (ws.length : Int) * (sumI ws - 1) = ws.length * sumI ws - ws.length := by rw [Int.mul_sub]; omega
      omega
theorem _root_.Go.Proofs.Ytaoinmlhhnklgaa.OrdO.cast_ {n n' : Nat} {r : Nat → Int} {o : Nat → Nat} (h : OrdO n r o) (e : n = n') : OrdO n' r o := e ▸ h
theorem ord_of (h : 1 ≤ ws.length) : (sortO (rF total ws) (ws.length - 1)).size = ws.length ∧ OrdO ws.length (rF total ws) (oF total ws) := by
  have := sort_ord (m := ws.length - 1) (rF total ws)
  have hl : ws.length - 1 + 1 = ws.length := by omega
  exact ⟨this.1.trans hl, this.2.cast_ hl⟩
end
end Go.Proofs.Ytaoinmlhhnklgaa
