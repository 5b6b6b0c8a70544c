/- Plain: what SendTo, FlowIn, TakeOff and PassOn do to a valid reach; drawn reaches. -/
import Derived.Test.YtgbncfjabnaokabPass
import Derived.Test.YtgbncfjabnaokabTabP
import Derived.Test.YtgbncfjabnaokabFlow
import Derived.Test.YtgbncfjabnaokabRiP
namespace Go.Proofs.Ytgbncfjabnaokab
open Go.RowKit

theorem sumI_set {zs : List Int} {j : Nat} (v : Int) (h : j < zs.length) : sumI (zs.set j v) = sumI zs - zs.getD j 0 + v := by
  induction zs generalizing j with
  | nil => simp at h
  | cons z r ih =>
    cases j with
    | zero => simp [sumI]; omega
    | succ j => have := ih (j := j) (by simpa using h); simp [sumI] at *; omega
theorem allPos_set {zs : List Int} {j : Nat} {v : Int} (h : allPos zs = true) (hv : 0 ≤ v) : allPos (zs.set j v) = true := by
  rw [allPos_iff] at h ⊢
  intro i hi
  rw [List.length_set] at hi
  have := h i hi
  by_cases e : j = i
  · subst e; simp [List.getD_eq_getElem?_getD, hi, hv]
  · simpa [List.getD_eq_getElem?_getD, List.getElem?_set, e] using this
theorem sumI_drop {zs : List Int} (h : 0 < zs.length) : zs.getD 0 0 + sumI (zs.drop 1) = sumI zs := by
  cases zs with
  | nil => simp at h
  | cons z r => simp [sumI]
theorem send_ok {ps : List (Int × Int)} {vol : Int} {zs : List Int} {a : Int} (h : reachOk ps vol zs = true) (h0 : 0 ≤ a) (h1 : vol + sumI zs + a ≤ 1000000000) :
    reachOk ps (sendVol ps vol zs a) (sendZ ps vol zs a) = true ∧ sendVol ps vol zs a + sumI (sendZ ps vol zs a) = vol + sumI zs + a := by
  obtain ⟨t1, t2, t3, t4, t5⟩ := reach_true h
  have hsp := space_yes h
  have hB : sendB ps vol zs a = true := by unfold sendB; rw [h, inR_mk h0 (by omega)]; rfl
  have hs := sum_nonneg t4
  by_cases hz : zs.length = 0
  · obtain ⟨e1, e2⟩ := send_vol hB hz
    rw [e1, e2]
    exact ⟨reach_mk t1 (inR_mk (by omega) (by omega)) t3 t4 (by omega), by omega⟩
  · obtain ⟨e1, e2⟩ := send_pipe hB (by omega)
    have hl := allPos_iff.1 t4 (zs.length - 1) (by omega)
    have hsum := sumI_set (zs := zs) (j := zs.length - 1) (zs.getD (zs.length - 1) 0 + a) (by omega)
    rw [e1, e2]
    exact ⟨reach_mk t1 (inR_mk (by omega) (by omega)) (by simpa using t3) (allPos_set t4 (by omega)) (by omega), by omega⟩
theorem flow_ok {ps : List (Int × Int)} {vol : Int} {zs : List Int} (h : reachOk ps vol zs = true) :
    reachOk ps (flowVol ps vol zs) (flowZ ps vol zs) = true ∧ flowVol ps vol zs + sumI (flowZ ps vol zs) = vol + sumI zs := by
  obtain ⟨t1, t2, t3, t4, t5⟩ := reach_true h
  by_cases hz : zs.length = 0
  · obtain ⟨e1, e2⟩ := flow_no (ps := ps) (vol := vol) (zs := zs) (by unfold flowB; simp [hz])
    rw [e1, e2]; exact ⟨h, rfl⟩
  · obtain ⟨e1, e2⟩ := flow_yes (ps := ps) (vol := vol) (zs := zs) (by unfold flowB; rw [h]; simp; omega)
    have hd := sumI_drop (zs := zs) (by omega)
    have h0 := allPos_iff.1 t4 0 (by omega)
    have hp : allPos (zs.drop 1) = true := by
      unfold allPos at t4 ⊢; rw [List.all_eq_true] at t4 ⊢
      exact fun z hz => t4 z (List.mem_of_mem_drop hz)
    have hn := sum_nonneg hp
    have hq : allPos (zs.drop 1 ++ [0]) = true := by
      unfold allPos at hp ⊢; rw [List.all_append, hp]; rfl
    have hs : sumI (zs.drop 1 ++ [0]) = sumI (zs.drop 1) := by rw [sumI_append]; simp [sumI]
    rw [e1, e2]
    exact ⟨reach_mk t1 (inR_mk (by omega) (by omega)) (by simp; omega) hq (by omega), by omega⟩
/-- What a drawn reach is known for: valid, its table drawn, at most m in it and on its way. -/
def RcD (r : Rc) (m : Int) : Prop := reachOk r.ps r.vol r.zs = true ∧ TabD r.ps ∧ r.vol + sumI r.zs ≤ m ∧ r.zs.length ≤ 3
theorem rcD_new {ps : List (Int × Int)} (h : TabD ps) (x d : Int) (d0 : 0 ≤ d) (d3 : d ≤ 3) : newB ps x d = true ∧ RcD ⟨ps, valueV ps x, List.replicate d.toNat 0⟩ 6000 := by
  have hv := tabD_val h x
  have hs : ∀ n : Nat, sumI (List.replicate n 0) = 0 := fun n => by
    induction n with
    | zero => rfl
    | succ n ih => simp [List.replicate_succ, sumI, ih]
  have hp : ∀ n : Nat, allPos (List.replicate n 0) = true := fun n => by
    unfold allPos; rw [List.all_eq_true]; intro z hz; rw [List.eq_of_mem_replicate hz]; rfl
  have hr : reachOk ps (valueV ps x) (List.replicate d.toNat 0) = true := reach_mk h.1 (inR_mk hv.1 (by omega)) (by simp; omega) (hp _) (by rw [hs]; omega)
  refine ⟨?_, hr, h, by dsimp only; rw [hs]; omega, by simp; omega⟩
  unfold newB
  rw [hr, inR_mk d0 (by omega)]; rfl
theorem rcD_send {r : Rc} {m a : Int} (h : RcD r m) (h0 : 0 ≤ a) (h1 : m + a ≤ 1000000000) : RcD ⟨r.ps, sendVol r.ps r.vol r.zs a, sendZ r.ps r.vol r.zs a⟩ (m + a) := by
  obtain ⟨h2, h3, h4, h5⟩ := h
  obtain ⟨e1, e2⟩ := send_ok h2 h0 (by omega)
  exact ⟨e1, h3, by dsimp only; omega, by dsimp only; rw [sendZ_len]; exact h5⟩
theorem rcD_flow {r : Rc} {m : Int} (h : RcD r m) : RcD ⟨r.ps, flowVol r.ps r.vol r.zs, flowZ r.ps r.vol r.zs⟩ m := by
  obtain ⟨h2, h3, h4, h5⟩ := h
  obtain ⟨e1, e2⟩ := flow_ok h2
  exact ⟨e1, h3, by dsimp only; omega, by dsimp only; rw [flowZ_len]; exact h5⟩
theorem rcD_mono {r : Rc} {m m' : Int} (h : RcD r m) (hm : m ≤ m') : RcD r m' := ⟨h.1, h.2.1, by have := h.2.2.1; omega, h.2.2.2⟩
/-- TakeOff of a valid reach. -/
theorem take_ok {ps : List (Int × Int)} {vol : Int} {zs : List Int} {a k : Int} (h : reachOk ps vol zs = true) (h0 : 0 ≤ a) (h1 : 0 ≤ k) :
    ∃ n, takeV ps vol zs a k = n ∧ 0 ≤ n ∧ n ≤ a ∧ n ≤ vol ∧ (n = 0 ∨ k ≤ vol - n) ∧ (n = a ∨ vol - n ≤ k ∨ vol - n = 0) ∧ reachOk ps (vol - n) zs = true := by
  obtain ⟨t1, t2, t3, t4, t5⟩ := reach_true h
  refine ⟨takeV ps vol zs a k, rfl, ?_⟩
  have hs := sum_nonneg t4
  rw [take_yes h h0 h1]
  have hn : 0 ≤ max 0 (min a (vol - k)) ∧ max 0 (min a (vol - k)) ≤ vol := by omega
  exact ⟨by omega, by omega, by omega, by omega, by omega, reach_mk t1 (inR_mk (by omega) (by omega)) t3 t4 (by omega)⟩
/-- PassOn between valid reaches with room enough. -/
theorem passOn_ok {pf pt : List (Int × Int)} {vf vt : Int} {zf zt : List Int} {a k : Int} (h : reachOk pf vf zf = true) (h' : reachOk pt vt zt = true) (h0 : 0 ≤ a) (h1 : 0 ≤ k) :
    ∃ n, passN pf vf zf pt vt zt a k = n ∧ 0 ≤ n ∧ n ≤ a ∧ n ≤ vf ∧ (n = 0 ∨ k ≤ vf - n) ∧ reachOk pf (vf - n) zf = true ∧
      reachOk pt (passVol pf vf zf pt vt zt a k) (passZ pf vf zf pt vt zt a k) = true ∧ passVol pf vf zf pt vt zt a k + sumI (passZ pf vf zf pt vt zt a k) = vt + sumI zt + n ∧
      (a ≤ spaceV pt vt zt → n = takeV pf vf zf a k) := by
  have hB : passB pf vf zf pt vt zt a k = true := by unfold passB; rw [h, h']; simp [h0, h1]
  obtain ⟨e1, e2, e3⟩ := pass_yes hB
  have hsp := space_bd (ps := pt) (vol := vt) (zs := zt)
  have hsy := space_yes h'
  have hm : 0 ≤ minI a (spaceV pt vt zt) ∧ minI a (spaceV pt vt zt) ≤ a ∧ minI a (spaceV pt vt zt) ≤ spaceV pt vt zt := by unfold minI; split <;> omega
  obtain ⟨n, en, n0, n1, n2, n3, _, n5⟩ := take_ok h hm.1 h1
  rw [e1, e2, e3, en]
  obtain ⟨s1, s2⟩ := send_ok h' n0 (by omega)
  refine ⟨n, rfl, n0, by omega, n2, n3, n5, s1, s2, fun ha => ?_⟩
  have : minI a (spaceV pt vt zt) = a := by unfold minI; split <;> omega
  rw [this] at en; exact en.symm
/-- The pipe after k flows. -/
theorem flow_round {ps : List (Int × Int)} {vol : Int} {zs : List Int} {k : Nat} (hk : k < zs.length) (h : reachOk ps vol (zs.drop k ++ List.replicate k 0) = true) :
    flowZ ps vol (zs.drop k ++ List.replicate k 0) = zs.drop (k + 1) ++ List.replicate (k + 1) 0 := by
  obtain ⟨e1, e2⟩ := flow_yes (ps := ps) (vol := vol) (zs := zs.drop k ++ List.replicate k 0) (by unfold flowB; rw [h]; simp; omega)
  rw [e2]
  rw [List.drop_append_of_le_length (by simp; omega), List.drop_drop, List.replicate_succ', List.append_assoc]
end Go.Proofs.Ytgbncfjabnaokab
