/- A region that draws its order, by an invariant over what has come up: each operation is walked once. No program in sight. -/
import Derived.WalkKit
import Derived.Lib.Hide
import Derived.Deep.RegionHeld3
import Derived.RegionTactic
namespace Go.Proofs.Ytlnmpdkbkkmhiaa
open Go.RowKit

theorem count_set_true : ∀ (l : List Bool) (i : Nat), l[i]? = some false → (l.set i true).count false + 1 = l.count false
  | [], i, h => by simp at h
  | b :: l, 0, h => by simp at h; subst h; simp
  | b :: l, i + 1, h => by
    have := count_set_true l i (by simpa using h)
    simp only [List.set_cons_succ, List.count_cons]; omega
theorem count_zero_all : ∀ (l : List Bool), l.count false = 0 → ∀ i, i < l.length → l[i]? = some true
  | [], _, i, h => by simp at h
  | b :: l, h, i, hi => by
    have hb : b = true := by
      cases b
      · simp at h
      · rfl
    subst hb
    cases i with
    | zero => rfl
    | succ i => simpa using count_zero_all l (by simpa using h) i (by simpa using hi)
section
variable {P : Program} {md : Region.Mode} {ops : Array Oper} {Q : Exit → Act → World → Prop}
/-- One operation's step. -/
def StepAt (P : Program) (md : Region.Mode) (ops : Array Oper) (Q : Exit → Act → World → Prop) (J : Array Bool → Act → World → Prop) (i : Nat) (o : Oper) : Prop :=
  ∀ (listed : Array Bool) (a : Act) (w : World), J listed a w → listed[i]? = some false → (∀ e ∈ o.after, Region.binds md e = true → listed[e.on]? = some true) →
    ∀ K : Act → World → Prop, Hid (∀ a' w', J (listed.setIfInBounds i true) a' w' → K a' w') → if Region.wanted o (yielded ops a.tmps) = true then Oper.wp P o a w K Q else K (a.put o.dst undef) w
def Steps (P : Program) (md : Region.Mode) (ops : Array Oper) (Q : Exit → Act → World → Prop) (J : Array Bool → Act → World → Prop) : Nat → List Oper → Prop
  | _, [] => True
  | i, o :: l => StepAt P md ops Q J i o ∧ Steps P md ops Q J (i + 1) l
theorem Steps.nil {J : Array Bool → Act → World → Prop} {i : Nat} : Steps P md ops Q J i [] := trivial
theorem Steps.cons {J : Array Bool → Act → World → Prop} {i : Nat} {o : Oper} {l : List Oper} (h : StepAt P md ops Q J i o) (t : Steps P md ops Q J (i + 1) l) : Steps P md ops Q J i (o :: l) := ⟨h, t⟩
theorem Steps.at {J : Array Bool → Act → World → Prop} : ∀ {l : List Oper} {k i : Nat} {o : Oper}, Steps P md ops Q J k l → l[i]? = some o → StepAt P md ops Q J (k + i) o
  | [], k, i, o, _, h => by simp at h
  | x :: l, k, 0, o, hs, h => by simp at h; subst h; exact hs.1
  | x :: l, k, i + 1, o, hs, h => by
    have := Steps.at (l := l) (k := k + 1) (i := i) hs.2 (by simpa using h)
    rwa [show k + 1 + i = k + (i + 1) by omega] at this
theorem getD_some {listed : Array Bool} {i : Nat} {d : Bool} (h : listed.getD i d = !d) : listed[i]? = some (!d) := by
  rw [Array.getD_eq_getD_getElem?] at h
  cases hh : listed[i]? with
  | none => rw [hh] at h; simp at h
  | some b => rw [hh] at h; simp at h; rw [h]
theorem ready_none {listed : Array Bool} (h : listed.toList.count false = 0) (hz : listed.size = ops.size) : Region.ready md ops listed = [] := by
  rcases hr : Region.ready md ops listed with _ | ⟨x, xs⟩
  · rfl
  · exfalso
    have hx : x ∈ Region.ready md ops listed := by rw [hr]; simp
    obtain ⟨h1, o, ho, _⟩ := mem_ready.1 hx
    have hlt : x < ops.size := (Array.getElem?_eq_some_iff.1 ho).1
    have h2 := count_zero_all _ h x (by simpa using (by omega : x < listed.size))
    have h3 := getD_some (d := true) (by simpa using h1)
    rw [Array.getElem?_toList, h3] at h2
    simp at h2
theorem wpAny_inv (J : Array Bool → Act → World → Prop) (hs : ∀ (i : Nat) (o : Oper), ops[i]? = some o → StepAt P md ops Q J i o)
    (he : ∀ (listed : Array Bool) (a : Act) (w : World), listed.size = ops.size → Region.ready md ops listed = [] → J listed a w → Q .normal a w) :
    ∀ (fuel : Nat) (listed : Array Bool) (a : Act) (w : World), listed.size = ops.size → listed.toList.count false ≤ fuel → J listed a w → wpAny P md ops Q fuel listed a w
  | 0, listed, a, w, hz, hc, hJ => by
    have := ready_none (md := md) (ops := ops) (listed := listed) (by omega) hz
    exact ⟨this, he _ _ _ hz this hJ⟩
  | fuel + 1, listed, a, w, hz, hc, hJ => by
    refine ⟨fun h0 => he _ _ _ hz h0 hJ, fun i hi => ?_⟩
    obtain ⟨h1, o, ho, hp⟩ := mem_ready.1 hi
    have hi0 := getD_some (d := true) (by simpa using h1)
    refine wpOp_step ho (fun K hK => hs i o ho listed a w hJ hi0 (fun e he hb => getD_some (d := false) (hp e he hb)) K (Lib.hid fun a' w' hJ' => hK a' w' ?_))
    refine wpAny_inv J hs he fuel _ _ _ (by simpa using hz) ?_ hJ'
    have := count_set_true listed.toList i (by rw [Array.getElem?_toList]; exact hi0)
    rw [Array.toList_setIfInBounds]
    omega
/-- Every operation waits only for earlier ones. -/
def acyc (l : List Oper) : Bool := l.zipIdx.all fun p => p.1.after.all fun e => !Region.binds .any e || decide (e.on < p.2)
theorem all_listed {l : List Oper} (ha : acyc l = true) {listed : Array Bool} (hz : listed.size = l.toArray.size) (hr : Region.ready .any l.toArray listed = []) : listed = Array.replicate l.length true := by
  have key : ∀ i, i < l.length → listed[i]? = some true := by
    intro i
    induction i using Nat.strongRecOn with
    | _ i ih =>
      intro hi
      rcases hb : listed[i]? with _ | b
      · have := (Array.getElem?_eq_none_iff.1 hb); simp at hz; omega
      · cases b with
        | true => rfl
        | false =>
          exfalso
          have : i ∈ Region.ready .any l.toArray listed := mem_ready.2 ⟨by rw [Array.getD_eq_getD_getElem?, hb]; rfl, l[i], by simp [hi], fun e he hbd => by
            have h1 : decide (e.on < i) = true := by
              unfold acyc at ha
              rw [List.all_eq_true] at ha
              have := ha (l[i], i) (by
                rw [List.mem_iff_getElem]
                exact ⟨i, by simpa using hi, by simp⟩)
              rw [Array.all_eq_true_iff_forall_mem] at this
              have h2 := this e he
              rw [hbd] at h2; simpa using h2
            simp at h1
            have := ih e.on h1 (by omega)
            rw [Array.getD_eq_getD_getElem?, this]; rfl⟩
          rw [hr] at this; simp at this
  apply Array.ext_getElem?
  intro i
  rcases Nat.lt_or_ge i l.length with h | h
  · rw [key i h]; simp [h]
  · rw [Array.getElem?_eq_none (by simp at hz; omega), Array.getElem?_eq_none (by simpa using h)]
theorem wp_region_inv {id : Nat} {l : List Oper} {a : Act} {w : World} (J : Array Bool → Act → World → Prop) (hm : P.follows .mixedOrders = true) (ha : acyc l = true)
    (h0 : J (Array.replicate l.length false) a w.drew) (hs : Steps P .any l.toArray Q J 0 l) (he : ∀ (a : Act) (w : World), J (Array.replicate l.length true) a w → Q .normal a w) : (Code.region id l.toArray true).wp P Q a w := by
  refine wp_region_any hm (wpAny_inv J (fun i o ho => ?_) (fun listed a w hz hr hJ => ?_) _ _ _ _ (by simp) ?_ ?_)
  · have := hs.at (i := i) (by simpa using ho)
    rwa [Nat.zero_add] at this
  · rw [all_listed ha hz hr] at hJ; exact he _ _ hJ
  · have : (Array.replicate l.toArray.size false).toList = List.replicate l.length false := by simp
    rw [this]
    simp
  · simpa using h0
end
/-- The frame as a function of some of its slots. -/
def putAll (a : Act) : List (Nat × Value) → Act
  | [] => a
  | p :: l => putAll (a.put (some p.1) p.2) l
theorem with_frame {P : Program} {c : Code} {Q : Exit → Act → World → Prop} {a : Act} {w : World} (ks : List Nat) (h : ∀ Fr : List Value → Act, (∀ us, Fr us = putAll a (ks.zip us)) → c.wp P Q a w) : c.wp P Q a w := h _ (fun _ => rfl)
end Go.Proofs.Ytlnmpdkbkkmhiaa
