/- Plain: shares. The order of the rests, picked one by one or sorted at once. -/
import Derived.Test.YtaoinmlhhnklgaaRe
import Derived.Sort.WalkA
import Derived.Sort.LotA
namespace Go.Proofs.Ytaoinmlhhnklgaa
open Go.RowKit Go.Sort

/-- o lists the places below n, the greatest rest first, of two equals the earlier one first. -/
structure OrdO (n : Nat) (r : Nat → Int) (o : Nat → Nat) : Prop where
  lt : ∀ t, t < n → o t < n
  onto : ∀ k, k < n → ∃ t, t < n ∧ o t = k
  asc : ∀ s t, s < t → t < n → r (o t) < r (o s) ∨ (r (o t) = r (o s) ∧ o s < o t)
  total : sumI ((List.range n).map (fun t => r (o t))) = sumI ((List.range n).map r)
theorem OrdO.inj {n : Nat} {r : Nat → Int} {o : Nat → Nat} (h : OrdO n r o) {s t : Nat} (hs : s < n) (ht : t < n) (he : o s = o t) : s = t := by
  rcases Nat.lt_trichotomy s t with h1 | h1 | h1
  · have := h.asc s t h1 ht; rw [he] at this; omega
  · exact h1
  · have := h.asc t s h1 hs; rw [he] at this; omega
section
variable {m : Nat} (r : Nat → Int)
def ltR (x y : Fin (m + 1)) : Bool := decide (r y.val - r x.val < 0)
def ltT (x y : Fin (m + 1)) : Bool := decide (r y.val < r x.val ∨ (r x.val = r y.val ∧ x.val < y.val))
theorem swoT : SWO (ltT (m := m) r) where
  irrefl x := by simp [ltT]
  trans x y z h1 h2 := by simp only [ltT, decide_eq_true_eq] at *; omega
  ntrans x y z h1 h2 := by simp only [ltT, decide_eq_false_iff_not] at *; omega
theorem insInner_same : ∀ (j : Nat) (d : Array (Fin (m + 1))), j < d.size → (∀ p, p < j → d[p]!.val < d[j]!.val) → insInner (ltR r) 0 j d = insInner (ltT r) 0 j d
  | 0, d, _, _ => by unfold insInner; rfl
  | j + 1, d, hj, h => by
    have e : ltR r d[j + 1]! d[j]! = ltT r d[j + 1]! d[j]! := by
      have := h j (by omega)
      unfold ltR ltT
      apply decide_eq_decide.2; omega
    unfold insInner
    rw [e]
    split
    · refine insInner_same j _ (by rw [swp_size]; omega) (fun p hp => ?_)
      rw [swp_get d hj (by omega : j < d.size), swp_get d hj (by omega : j < d.size), if_neg (by omega), if_neg (by omega), if_pos rfl]
      exact h p (by omega)
    · rfl
theorem insOuter_same : ∀ (c i : Nat) (d : Array (Fin (m + 1))), d.size - i = c → i ≤ d.size → SortedIn (ltT r) 0 i d → (∀ p, p < i → d[p]!.val < i) → (∀ p, i ≤ p → p < d.size → d[p]!.val = p) →
    insOuter (ltR r) 0 d.size i d = insOuter (ltT r) 0 d.size i d
  | 0, i, d, hc, hi, hs, h1, h2 => by
    have eL : insOuter (ltR r) 0 d.size i d = d := by rw [insOuter, if_neg (by omega)]
    have eR : insOuter (ltT r) 0 d.size i d = d := by rw [insOuter, if_neg (by omega)]
    rw [eL, eR]
  | c + 1, i, d, hc, hi, hs, h1, h2 => by
    have eL : insOuter (ltR r) 0 d.size i d = insOuter (ltR r) 0 d.size (i + 1) (insInner (ltR r) 0 i d) := by rw [insOuter, if_pos (by omega)]
    have eR : insOuter (ltT r) 0 d.size i d = insOuter (ltT r) 0 d.size (i + 1) (insInner (ltT r) 0 i d) := by rw [insOuter, if_pos (by omega)]
    rw [eL, eR]
    have hii := h2 i (Nat.le_refl _) (by omega)
    rw [insInner_same r i d (by omega) (fun p hp => by rw [hii]; exact h1 p hp)]
    obtain ⟨⟨z1, z2, z3⟩, z4⟩ := insInner_spec (swoT r) swp_permIn permIn_refl permIn_trans 0 (i + 1) i (by omega) i d (by omega) (Nat.le_refl _) (by omega) ⟨fun p q _ hpq hqi _ hq => hs p q (Nat.zero_le _) hpq (by omega), fun q h1 h2 => by omega⟩
    have hall := permIn_all d (insInner (ltT r) 0 i d) 0 (i + 1) (fun x => x.val < i + 1) (by omega) ⟨z1, z2, z3⟩ (fun p _ hp => by
      rcases Nat.lt_or_ge p i with h | h
      · have := h1 p h; omega
      · rw [show p = i by omega, hii]; omega)
    have := insOuter_same c (i + 1) (insInner (ltT r) 0 i d) (by rw [z1]; omega) (by rw [z1]; omega) z4 (fun p hp => hall p (Nat.zero_le _) hp) (fun p hp hps => by
      rw [z2 p (.inr hp)]; exact h2 p (by omega) (by rw [z1] at hps; exact hps))
    rw [z1] at this
    exact this
def ident (m : Nat) : Array (Fin (m + 1)) := (List.finRange (m + 1)).toArray
theorem ident_at {p : Nat} (h : p < m + 1) : ((ident m)[p]!).val = p := by
  have : p < (ident m).size := by simp [ident]; omega
  rw [getElem!_pos (ident m) p this]
  simp [ident]
def sortO (m : Nat) : Array (Fin (m + 1)) := insertionSort (ltR r) (ident m) 0 (m + 1)
theorem sumI_perm {a b : List Int} (h : a.Perm b) : sumI a = sumI b := by
  induction h with
  | nil => rfl
  | cons x _ ih => simp [sumI, ih]
  | swap x y l => simp [sumI]; omega
  | trans _ _ ih1 ih2 => exact ih1.trans ih2
theorem sort_ord : (sortO r m).size = m + 1 ∧ OrdO (m + 1) r (fun t => ((sortO r m)[t]!).val) := by
  have hsz : (ident m).size = m + 1 := by simp [ident]
  have e : sortO r m = insertionSort (ltT r) (ident m) 0 (m + 1) := by
    unfold sortO insertionSort
    have := insOuter_same r (m + 1 - 1) 1 (ident m) (by rw [hsz]) (by rw [hsz]; omega) (fun p q _ h1 h2 => by omega) (fun p hp => by rw [ident_at (by omega)]; omega) (fun p hp hs => ident_at (by omega))
    rw [hsz] at this
    exact this
  rw [e]
  obtain ⟨⟨z1, z2, z3⟩, z4⟩ := insertionSort_holds (lt := ltT r) (swoT r) (ident m) 0 (m + 1) (by omega) (by omega)
  generalize insertionSort (ltT r) (ident m) 0 (m + 1) = d at *
  rw [hsz] at z1
  have hd : d.extract 0 (m + 1) = d := by have := Array.extract_size (xs := d); rwa [z1] at this
  have hi : (ident m).extract 0 (m + 1) = ident m := by have := Array.extract_size (xs := ident m); rwa [hsz] at this
  rw [hd, hi] at z3
  have hl : (ident m).toList = List.finRange (m + 1) := by simp [ident]
  rw [hl] at z3
  have hnd : d.toList.Nodup := z3.symm.nodup (List.nodup_finRange _)
  have hat : ∀ t (h : t < m + 1), d[t]! = d.toList[t]'(by simp [z1]; omega) := fun t h => by
    rw [getElem!_pos d t (by omega)]; simp
  refine ⟨z1, ⟨fun t _ => (d[t]!).isLt, fun k hk => ?_, fun s t hst ht => ?_, ?_⟩⟩
  · have : (⟨k, hk⟩ : Fin (m + 1)) ∈ d.toList := z3.mem_iff.2 (List.mem_finRange _)
    obtain ⟨t, ht, he⟩ := List.getElem_of_mem this
    have ht' : t < m + 1 := by simpa [z1] using ht
    refine ⟨t, ht', ?_⟩
    show (d[t]!).val = k
    rw [hat t ht', he]
  · have h1 := z4 s t (Nat.zero_le _) hst ht
    have hne : d[s]! ≠ d[t]! := by
      rw [hat s (by omega), hat t ht]
      intro he
      have := (List.getElem_inj hnd).1 he
      omega
    have hne' : (d[s]!).val ≠ (d[t]!).val := fun h => hne (Fin.ext h)
    unfold ltT at h1
    simp only [decide_eq_false_iff_not] at h1
    show r (d[t]!).val < r (d[s]!).val ∨ (r (d[t]!).val = r (d[s]!).val ∧ (d[s]!).val < (d[t]!).val)
    omega
  · have hm : (List.range (m + 1)).map (fun t => r (d[t]!).val) = d.toList.map (fun x => r x.val) := by
      apply List.ext_getElem
      · simp [z1]
      · intro t h1 h2
        have ht : t < m + 1 := by simpa using h1
        simp only [List.getElem_map, List.getElem_range]
        rw [hat t ht]
    have hr : (List.range (m + 1)).map r = (List.finRange (m + 1)).map (fun x => r x.val) := by
      apply List.ext_getElem
      · simp
      · intro t h1 h2; simp
    show sumI ((List.range (m + 1)).map (fun t => r (d[t]!).val)) = _
    rw [hm, hr]
    exact sumI_perm (z3.map _)
end
/-- The places picked first. -/
def picked (o : Nat → Nat) (t k : Nat) : Bool := (List.range t).any (fun s => o s == k)
theorem picked_iff {o : Nat → Nat} {t k : Nat} : picked o t k = true ↔ ∃ s, s < t ∧ o s = k := by
  unfold picked; simp
theorem picked_not {o : Nat → Nat} {t k : Nat} (h : ∀ s, s < t → o s ≠ k) : picked o t k = false := by
  cases hp : picked o t k
  · rfl
  · obtain ⟨s, h1, h2⟩ := picked_iff.1 hp; exact absurd h2 (h s h1)
theorem picked_succ (o : Nat → Nat) (t k : Nat) : picked o (t + 1) k = (picked o t k || (o t == k)) := by
  unfold picked; rw [List.range_succ, List.any_append]; simp
def outL (n : Nat) (q : Nat → Int) (o : Nat → Nat) (t : Nat) : List Int := (List.range n).map (fun k => if picked o t k = true then q k + 1 else q k)
def restL (n : Nat) (r : Nat → Int) (o : Nat → Nat) (t : Nat) : List Int := (List.range n).map (fun k => if picked o t k = true then -1 else r k)
section
variable {n : Nat} {q r : Nat → Int} {o : Nat → Nat} {t : Nat}
theorem outL_len : (outL n q o t).length = n := by simp [outL]
theorem restL_len : (restL n r o t).length = n := by simp [restL]
theorem outL_at {k : Nat} (hk : k < n) : (outL n q o t).getD k 0 = if picked o t k = true then q k + 1 else q k := by simp [outL, hk]
theorem restL_at {k : Nat} (hk : k < n) : (restL n r o t).getD k 0 = if picked o t k = true then -1 else r k := by simp [restL, hk]
theorem picked_self (h : OrdO n r o) (ht : t < n) : picked o t (o t) = false := picked_not (fun s hs he => by have := h.inj (by omega) ht he; omega)
theorem outL_step (h : OrdO n r o) (ht : t < n) : (outL n q o t).set (o t) ((outL n q o t).getD (o t) 0 + 1) = outL n q o (t + 1) := by
  rw [outL_at (h.lt t ht), picked_self h ht]
  apply List.ext_getElem
  · simp [outL]
  · intro k h1 h2
    have hk : k < n := by simpa [outL] using h2
    rw [List.getElem_set]
    simp only [outL, List.getElem_map, List.getElem_range, picked_succ]
    by_cases e : o t = k
    · subst e; simp
    · simp [e]
theorem restL_step (_h : OrdO n r o) (_ht : t < n) : (restL n r o t).set (o t) (-1) = restL n r o (t + 1) := by
  apply List.ext_getElem
  · simp [restL]
  · intro k h1 h2
    have hk : k < n := by simpa [restL] using h2
    rw [List.getElem_set]
    simp only [restL, List.getElem_map, List.getElem_range, picked_succ]
    by_cases e : o t = k
    · subst e; simp
    · simp [e]
theorem outL_zero : outL n q o 0 = (List.range n).map q := by simp [outL, picked]
theorem restL_zero : restL n r o 0 = (List.range n).map r := by simp [restL, picked]
/-- The first of the greatest among the first k. -/
def BestTo (l : List Int) (k b : Nat) : Prop := b < k ∧ (∀ j, j < b → l.getD j 0 < l.getD b 0) ∧ (∀ j, b ≤ j → j < k → l.getD j 0 ≤ l.getD b 0)
theorem best_start (l : List Int) : BestTo l 1 0 := ⟨by omega, fun j h => by omega, fun j _ h => by rw [show j = 0 by omega]; omega⟩
theorem best_more {l : List Int} {k b : Nat} (h : BestTo l k b) (hk : l.getD b 0 < l.getD k 0) : BestTo l (k + 1) k := by
  obtain ⟨h1, h2, h3⟩ := h
  refine ⟨by omega, fun j hj => ?_, fun j h4 h5 => by rw [show j = k by omega]; omega⟩
  rcases Nat.lt_or_ge j b with h | h
  · have := h2 j h; omega
  · have := h3 j h hj; omega
theorem best_less {l : List Int} {k b : Nat} (h : BestTo l k b) (hk : l.getD k 0 ≤ l.getD b 0) : BestTo l (k + 1) b := by
  obtain ⟨h1, h2, h3⟩ := h
  refine ⟨by omega, h2, fun j h4 h5 => ?_⟩
  rcases Nat.lt_or_ge j k with h | h
  · exact h3 j h4 h
  · rw [show j = k by omega]; exact hk
theorem best_is (h : OrdO n r o) (ht : t < n) (hr : ∀ k, k < n → 0 ≤ r k) {b : Nat} (hb : BestTo (restL n r o t) n b) : b = o t := by
  obtain ⟨h1, h2, h3⟩ := hb
  have ho := h.lt t ht
  have e1 : (restL n r o t).getD (o t) 0 = r (o t) := by rw [restL_at ho, picked_self h ht]; rfl
  have r0 := hr _ ho
  rcases Nat.lt_trichotomy b (o t) with hlt | he | hlt
  · have h4 := h3 (o t) (by omega) ho
    rw [e1, restL_at h1] at h4
    rcases bcases (picked o t b) with hp | hp
    · rw [hp] at h4; simp at h4; omega
    · rw [hp] at h4; simp at h4
      obtain ⟨s, hs, he⟩ := h.onto b h1
      have hst : ¬ s < t := fun hst => by rw [picked_iff.2 ⟨s, hst, he⟩] at hp; cases hp
      have hne : s ≠ t := fun hh => by subst hh; omega
      have := h.asc t s (by omega) hs
      rw [he] at this; omega
  · exact he
  · have h4 := h2 (o t) hlt
    rw [e1, restL_at h1] at h4
    rcases bcases (picked o t b) with hp | hp
    · rw [hp] at h4; simp at h4; omega
    · rw [hp] at h4; simp at h4
      obtain ⟨s, hs, he⟩ := h.onto b h1
      have hst : ¬ s < t := fun hst => by rw [picked_iff.2 ⟨s, hst, he⟩] at hp; cases hp
      have hne : s ≠ t := fun hh => by subst hh; omega
      have := h.asc t s (by omega) hs
      rw [he] at this; omega
end
end Go.Proofs.Ytaoinmlhhnklgaa
