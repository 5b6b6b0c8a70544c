/- Plain: the fields of a line. -/
import Derived.Test.YtgiacjfnbbbafabDoorPlain
namespace Go.Proofs.YtgiacjfnbbbafabDoor
open Go.RowKit

/-- The fields of what is left of a line, the field under way being cur. -/
def splitL : List UInt8 → List UInt8 → List (List UInt8)
  | [], cur => if cur = [] then [] else [cur]
  | c :: r, cur => if c = 32 then (if cur = [] then splitL r [] else cur :: splitL r []) else splitL r (cur ++ [c])
def okByte (c : UInt8) : Bool := decide (32 ≤ c.toNat) && decide (c.toNat ≤ 126)
def splitB (l : List UInt8) : Bool := decide (l.length ≤ 600) && l.all okByte && decide ((splitL l []).length ≤ 24)
def splitF (l : List UInt8) : List (List UInt8) := if splitB l = true then splitL l [] else []
theorem split_no {l : List UInt8} (h : 600 < l.length ∨ (∃ (k : Nat) (h : k < l.length), okByte l[k] = false) ∨ 24 < (splitL l []).length) : splitB l = false ∧ splitF l = [] := by
  have hb : splitB l = false := by
    unfold splitB
    rcases h with h | ⟨k, hk, h⟩ | h
    · have : decide (l.length ≤ 600) = false := by simp; omega
      rw [this]; rfl
    · have : l.all okByte = false := by
        rw [List.all_eq_false]
        exact ⟨l[k], List.getElem_mem hk, by rw [h]; simp⟩
      rw [this]; simp
    · have : decide ((splitL l []).length ≤ 24) = false := by simp; omega
      rw [this]; simp
  exact ⟨hb, by unfold splitF; rw [hb]; rfl⟩
theorem split_yes {l : List UInt8} (h1 : l.length ≤ 600) (h2 : l.all okByte = true) (h3 : (splitL l []).length ≤ 24) : splitB l = true ∧ splitF l = splitL l [] := by
  have hb : splitB l = true := by unfold splitB; rw [h2]; simp [h1, h3]
  exact ⟨hb, by unfold splitF; rw [hb]; rfl⟩
theorem split_true {l : List UInt8} (h : splitB l = true) : l.length ≤ 600 ∧ l.all okByte = true ∧ (splitL l []).length ≤ 24 := by
  unfold splitB at h
  simp only [Bool.and_eq_true, decide_eq_true_eq] at h
  exact ⟨h.1.1, h.1.2, h.2⟩
theorem splitF_true {l : List UInt8} (h : splitB l = true) : splitF l = splitL l [] := by unfold splitF; rw [h]; rfl
theorem splitF_len (l : List UInt8) : (splitF l).length ≤ 24 := by
  rcases bcases (splitB l) with h | h
  · rw [splitF_true h]; exact (split_true h).2.2
  · unfold splitF; rw [h]; simp
/-- The fields up to k, the field under way begun at b (no field is under way: b = k). -/
def SpTo (l : List UInt8) (k b : Nat) (fs : List (List UInt8)) : Prop :=
  b ≤ k ∧ k ≤ l.length ∧ splitL l [] = fs ++ splitL (l.drop k) ((l.drop b).take (k - b)) ∧ (∀ (j : Nat) (h : j < l.length), j < k → okByte l[j] = true) ∧ (∀ f ∈ fs, f.length ≤ l.length)
section
variable {l : List UInt8} {k b : Nat} {fs : List (List UInt8)}
theorem spTo_start (l : List UInt8) : SpTo l 0 0 [] := ⟨Nat.le_refl _, Nat.zero_le _, by simp, fun j _ h => by omega, fun f h => by simp at h⟩
theorem spTo_none : ∀ {k : Nat}, (l.drop k).take (k - k) = [] := by simp
theorem cut_ne (hb : b < k) (hk : k ≤ l.length) : (l.drop b).take (k - b) ≠ [] := by
  intro e
  have := congrArg List.length e
  simp at this; omega
theorem okTo_next (h : ∀ (j : Nat) (h : j < l.length), j < k → okByte l[j] = true) (hk : k < l.length) (ho : okByte l[k] = true) : ∀ (j : Nat) (h : j < l.length), j < k + 1 → okByte l[j] = true := by
  intro j hj h1
  rcases Nat.lt_or_ge j k with h2 | h2
  · exact h j hj h2
  · obtain rfl : j = k := by omega
    exact ho
theorem drop_at (hk : k < l.length) : l.drop k = l[k] :: l.drop (k + 1) := List.drop_eq_getElem_cons hk
theorem cut_next (hb : b ≤ k) (hk : k < l.length) : (l.drop b).take (k - b) ++ [l[k]] = (l.drop b).take (k + 1 - b) := by
  rw [show k + 1 - b = (k - b) + 1 by omega, List.take_succ_eq_append_getElem (by simp; omega)]
  congr 2
  simp [show b + (k - b) = k by omega]
/-- A space with no field under way. -/
theorem spTo_gap (h : SpTo l k k fs) (hk : k < l.length) (hc : l[k] = 32) : SpTo l (k + 1) (k + 1) fs := by
  obtain ⟨_, h2, h3, h4, h5⟩ := h
  refine ⟨Nat.le_refl _, hk, ?_, okTo_next h4 hk (by rw [hc]; rfl), h5⟩
  rw [h3, spTo_none, spTo_none, drop_at hk, splitL, if_pos hc, if_pos rfl]
/-- A space behind a field. -/
theorem spTo_field (h : SpTo l k b fs) (hb : b < k) (hk : k < l.length) (hc : l[k] = 32) : SpTo l (k + 1) (k + 1) (fs ++ [(l.drop b).take (k - b)]) := by
  obtain ⟨_, h2, h3, h4, h5⟩ := h
  refine ⟨Nat.le_refl _, hk, ?_, okTo_next h4 hk (by rw [hc]; rfl), fun f hf => ?_⟩
  · rw [h3, spTo_none, drop_at hk, splitL, if_pos hc, if_neg (cut_ne hb (by omega))]
    simp
  · rcases List.mem_append.1 hf with hf | hf
    · exact h5 f hf
    · rw [List.mem_singleton.1 hf]; simp; omega
/-- A byte of a field. -/
theorem spTo_byte (h : SpTo l k b fs) (hk : k < l.length) (hc : l[k] ≠ 32) (ho : okByte l[k] = true) : SpTo l (k + 1) b fs := by
  obtain ⟨h1, h2, h3, h4, h5⟩ := h
  refine ⟨by omega, hk, ?_, okTo_next h4 hk ho, h5⟩
  rw [h3, drop_at hk, splitL, if_neg hc, cut_next h1 hk]
theorem all_of (h : ∀ (j : Nat) (h : j < l.length), j < l.length → okByte l[j] = true) : l.all okByte = true := by
  rw [List.all_eq_true]
  intro x hx
  obtain ⟨j, hj, rfl⟩ := List.getElem_of_mem hx
  exact h j hj hj
theorem spTo_end (h : SpTo l l.length b fs) : splitL l [] = (if b < l.length then fs ++ [l.drop b] else fs) ∧ l.all okByte = true := by
  obtain ⟨h1, h2, h3, h4, h5⟩ := h
  refine ⟨?_, all_of h4⟩
  rw [h3, List.drop_length, splitL]
  by_cases hb : b < l.length
  · rw [if_neg (cut_ne hb (Nat.le_refl _)), if_pos hb, List.take_of_length_le (by simp)]
  · have : b = l.length := by omega
    subst this
    simp
end
/-- Fields are not empty and hold no space. -/
theorem splitL_mem : ∀ (l cur : List UInt8), (∀ c ∈ cur, c ≠ 32) → ∀ f ∈ splitL l cur, f ≠ [] ∧ (∀ c ∈ f, c ≠ 32) ∧ (∀ c ∈ f, c ∈ l ∨ c ∈ cur)
  | [], cur, hc, f, hf => by
    unfold splitL at hf
    split at hf
    · simp at hf
    · rename_i h
      rw [List.mem_singleton] at hf; subst hf
      exact ⟨h, hc, fun c h => .inr h⟩
  | c :: r, cur, hc, f, hf => by
    unfold splitL at hf
    split at hf
    · split at hf
      · obtain ⟨a, b, d⟩ := splitL_mem r [] (fun c h => by simp at h) f hf
        exact ⟨a, b, fun c h => .inl (by rcases d c h with h | h; exact List.mem_cons_of_mem _ h; simp at h)⟩
      · rename_i h
        rcases List.mem_cons.1 hf with hf | hf
        · subst hf; exact ⟨h, hc, fun c h => .inr h⟩
        · obtain ⟨a, b, d⟩ := splitL_mem r [] (fun c h => by simp at h) f hf
          exact ⟨a, b, fun c h => .inl (by rcases d c h with h | h; exact List.mem_cons_of_mem _ h; simp at h)⟩
    · rename_i hne
      obtain ⟨a, b, d⟩ := splitL_mem r (cur ++ [c]) (fun x h => by
        rcases List.mem_append.1 h with h | h
        · exact hc x h
        · rw [List.mem_singleton.1 h]; exact hne) f hf
      refine ⟨a, b, fun x h => ?_⟩
      rcases d x h with h | h
      · exact .inl (List.mem_cons_of_mem _ h)
      · rcases List.mem_append.1 h with h | h
        · exact .inr h
        · exact .inl (by rw [List.mem_singleton.1 h]; exact List.mem_cons_self ..)
/-- Fields, each with a space behind it. -/
def joinL : List (List UInt8) → List UInt8
  | [] => []
  | f :: r => f ++ 32 :: joinL r
theorem joinL_snoc (fs : List (List UInt8)) (f : List UInt8) : joinL (fs ++ [f]) = joinL fs ++ (f ++ [32]) := by
  induction fs with
  | nil => simp [joinL]
  | cons g r ih => simp [joinL, ih]
theorem splitL_run : ∀ (f : List UInt8) (r cur : List UInt8), (∀ c ∈ f, c ≠ 32) → splitL (f ++ r) cur = splitL r (cur ++ f)
  | [], r, cur, _ => by simp
  | c :: f, r, cur, h => by
    rw [List.cons_append, splitL, if_neg (h c (List.mem_cons_self ..)), splitL_run f r _ (fun x hx => h x (List.mem_cons_of_mem _ hx))]
    simp
theorem splitL_join : ∀ (fs : List (List UInt8)), (∀ f ∈ fs, f ≠ [] ∧ ∀ c ∈ f, c ≠ 32) → splitL (joinL fs) [] = fs
  | [], _ => rfl
  | f :: r, h => by
    have h0 := h f (List.mem_cons_self ..)
    rw [joinL, splitL_run f _ _ h0.2, splitL, if_pos rfl, if_neg (by simpa using h0.1), splitL_join r (fun g hg => h g (List.mem_cons_of_mem _ hg))]
    simp
theorem joinL_ok : ∀ (fs : List (List UInt8)), (∀ f ∈ fs, ∀ c ∈ f, okByte c = true) → (joinL fs).all okByte = true
  | [], _ => rfl
  | f :: r, h => by
    rw [joinL, List.all_append, List.all_cons, joinL_ok r (fun g hg => h g (List.mem_cons_of_mem _ hg))]
    have : f.all okByte = true := by rw [List.all_eq_true]; exact h f (List.mem_cons_self ..)
    rw [this]; rfl
/-- The fields, joined, have the same fields. -/
theorem split_again {l : List UInt8} (h : splitB l = true) (hs : (joinL (splitF l)).length ≤ 600) : splitB (joinL (splitF l)) = true ∧ splitF (joinL (splitF l)) = splitF l := by
  obtain ⟨h1, h2, h3⟩ := split_true h
  have hf := splitF_true h
  have hm := splitL_mem l [] (fun c h => by simp at h)
  rw [hf] at hs ⊢
  have e := splitL_join (splitL l []) (fun f hf => ⟨(hm f hf).1, (hm f hf).2.1⟩)
  have o := joinL_ok (splitL l []) (fun f hf c hc => by
    rw [List.all_eq_true] at h2
    rcases (hm f hf).2.2 c hc with h | h
    · exact h2 c h
    · simp at h)
  obtain ⟨a, b⟩ := split_yes hs o (by rw [e]; exact h3)
  exact ⟨a, by rw [b, e]⟩
end Go.Proofs.YtgiacjfnbbbafabDoor
