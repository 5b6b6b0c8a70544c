/- Plain facts on tables, no program in sight: what TableOk, ValueAt, PlaceOf compute; values do not fall; the place of a value is the first at which it is reached. -/
import Derived.Test.YtgbncfjabnaokabPlain
namespace Go.Proofs.Ytgbncfjabnaokab

def px (ps : List (Int × Int)) (j : Nat) : Int := (ps.getD j (0, 0)).1
def py (ps : List (Int × Int)) (j : Nat) : Int := (ps.getD j (0, 0)).2
def okAtB (ps : List (Int × Int)) (j : Nat) : Bool :=
  inR (px ps j) 0 1000000000 && inR (py ps j) 0 1000000000 && (decide (j = 0) || (decide (px ps (j - 1) < px ps j) && decide (py ps (j - 1) ≤ py ps j)))
def okTo (ps : List (Int × Int)) (k : Nat) : Bool := (List.range k).all (okAtB ps)
theorem okTo_iff {ps : List (Int × Int)} {k : Nat} : okTo ps k = true ↔ ∀ j, j < k → okAtB ps j = true := by simp [okTo]
theorem okTo_zero (ps : List (Int × Int)) : okTo ps 0 = true := by simp [okTo]
theorem okTo_succ {ps : List (Int × Int)} {k : Nat} (h : okTo ps k = true) (h' : okAtB ps k = true) : okTo ps (k + 1) = true := by
  rw [okTo_iff] at h ⊢
  intro j hj
  rcases Nat.lt_or_ge j k with hlt | hge
  · exact h j hlt
  · rw [show j = k by omega]; exact h'
theorem okTo_no {ps : List (Int × Int)} {k m : Nat} (hk : k < m) (h' : okAtB ps k = false) : okTo ps m = false := by
  cases h : okTo ps m
  · rfl
  · rw [okTo_iff] at h; have := h k hk; rw [h'] at this; cases this
def tableOk (ps : List (Int × Int)) : Bool := decide (2 ≤ ps.length) && decide (ps.length ≤ 20) && okTo ps ps.length
theorem tableOk_mk {ps : List (Int × Int)} (h1 : 2 ≤ ps.length) (h2 : ps.length ≤ 20) (h3 : okTo ps ps.length = true) : tableOk ps = true := by simp [tableOk, h1, h2, h3]
theorem tableOk_len {ps : List (Int × Int)} (h : ps.length < 2 ∨ 20 < ps.length) : tableOk ps = false := by
  rcases h with h | h
  · have : decide (2 ≤ ps.length) = false := by simp; omega
    simp [tableOk, this]
  · have : decide (ps.length ≤ 20) = false := by simp; omega
    simp [tableOk, this]
theorem tableOk_no {ps : List (Int × Int)} (h : okTo ps ps.length = false) : tableOk ps = false := by simp [tableOk, h]
theorem okAt_facts {ps : List (Int × Int)} {j : Nat} (h : okAtB ps j = true) : (0 ≤ px ps j ∧ px ps j ≤ 1000000000) ∧ (0 ≤ py ps j ∧ py ps j ≤ 1000000000) ∧ (0 < j → px ps (j - 1) < px ps j ∧ py ps (j - 1) ≤ py ps j) := by
  simp only [okAtB, Bool.and_eq_true, Bool.or_eq_true, decide_eq_true_eq] at h
  obtain ⟨⟨h1, h2⟩, h3⟩ := h
  exact ⟨inR_true h1, inR_true h2, fun hj => by rcases h3 with h3 | h3 <;> omega⟩

section
variable {ps : List (Int × Int)} (h : tableOk ps = true)
include h
theorem tab_len : 2 ≤ ps.length ∧ ps.length ≤ 20 := by
  simp only [tableOk, Bool.and_eq_true, decide_eq_true_eq] at h; exact h.1
theorem tab_ok {j : Nat} (hj : j < ps.length) : okAtB ps j = true := by
  simp only [tableOk, Bool.and_eq_true] at h; exact okTo_iff.1 h.2 j hj
theorem tab_x {j : Nat} (hj : j < ps.length) : 0 ≤ px ps j ∧ px ps j ≤ 1000000000 := (okAt_facts (tab_ok h hj)).1
theorem tab_y {j : Nat} (hj : j < ps.length) : 0 ≤ py ps j ∧ py ps j ≤ 1000000000 := (okAt_facts (tab_ok h hj)).2.1
theorem tab_step {j : Nat} (hj : j + 1 < ps.length) : px ps j < px ps (j + 1) ∧ py ps j ≤ py ps (j + 1) := (okAt_facts (tab_ok h hj)).2.2 (by omega)
theorem tab_xmono {i j : Nat} (hij : i ≤ j) (hj : j < ps.length) : px ps i ≤ px ps j := by
  induction j with
  | zero => rw [show i = 0 by omega]; exact Int.le_refl _
  | succ j ih =>
    rcases Nat.lt_or_ge i (j + 1) with hl | hg
    · have := ih (by omega) (by omega); have := (tab_step h hj).1; omega
    · rw [show i = j + 1 by omega]; exact Int.le_refl _
theorem tab_ymono {i j : Nat} (hij : i ≤ j) (hj : j < ps.length) : py ps i ≤ py ps j := by
  induction j with
  | zero => rw [show i = 0 by omega]; exact Int.le_refl _
  | succ j ih =>
    rcases Nat.lt_or_ge i (j + 1) with hl | hg
    · have := ih (by omega) (by omega); have := (tab_step h hj).2; omega
    · rw [show i = j + 1 by omega]; exact Int.le_refl _
theorem tab_xlt {i j : Nat} (hij : i < j) (hj : j < ps.length) : px ps i < px ps j := by
  have h1 := (tab_step h (j := i) (by omega)).1
  have h2 := tab_xmono h (i := i + 1) (j := j) (by omega) hj
  omega
end

/-- The first number from k on with f, at most n further on. -/
def firstF (f : Int → Bool) : Nat → Int → Int
  | 0, k => k
  | n + 1, k => if f k = true then k else firstF f n (k + 1)
theorem firstF_spec (f : Int → Bool) : ∀ (n : Nat) (k : Int), k ≤ firstF f n k ∧ firstF f n k ≤ k + n ∧ (∀ j, k ≤ j → j < firstF f n k → f j = false) ∧ (firstF f n k < k + n → f (firstF f n k) = true)
  | 0, k => by simp only [firstF]; exact ⟨by omega, by omega, fun j h1 h2 => by omega, fun h => by omega⟩
  | n + 1, k => by
    simp only [firstF]
    by_cases hf : f k = true
    · rw [if_pos hf]; exact ⟨by omega, by omega, fun j h1 h2 => by omega, fun _ => hf⟩
    · rw [if_neg hf]
      obtain ⟨a1, a2, a3, a4⟩ := firstF_spec f n (k + 1)
      refine ⟨by omega, by omega, fun j h1 h2 => ?_, fun h => a4 (by omega)⟩
      by_cases hj : j = k
      · subst hj; simpa using hf
      · exact a3 j (by omega) h2
theorem firstF_eq {f : Int → Bool} {n : Nat} {k p : Int} (h1 : k ≤ p) (h2 : p ≤ k + n) (h3 : ∀ j, k ≤ j → j < p → f j = false) (h4 : f p = true ∨ p = k + n) : firstF f n k = p := by
  obtain ⟨a1, a2, a3, a4⟩ := firstF_spec f n k
  rcases Int.lt_trichotomy (firstF f n k) p with h | h | h
  · have := a4 (by omega); rw [h3 _ a1 h] at this; cases this
  · exact h
  · rcases h4 with h4 | h4
    · have := a3 p h1 h; rw [h4] at this; cases this
    · omega

/-- The segment of x; the value on a segment; the value of a table. -/
def segB (ps : List (Int × Int)) (x k : Int) : Bool := decide (x < px ps (k.toNat + 1))
def segOf (ps : List (Int × Int)) (x : Int) : Nat := (firstF (segB ps x) (ps.length - 1) 0).toNat
def linV (ps : List (Int × Int)) (k : Nat) (x : Int) : Int := py ps k + (x - px ps k) * (py ps (k + 1) - py ps k) / (px ps (k + 1) - px ps k)
def valueV (ps : List (Int × Int)) (x : Int) : Int :=
  if tableOk ps = true then (if x ≤ px ps 0 then py ps 0 else if px ps (ps.length - 1) ≤ x then py ps (ps.length - 1) else linV ps (segOf ps x) x) else 0
theorem value_no {ps : List (Int × Int)} {x : Int} (h : tableOk ps = false) : valueV ps x = 0 := by unfold valueV; rw [h]; rfl
theorem value_low {ps : List (Int × Int)} {x : Int} (h : tableOk ps = true) (hx : x ≤ px ps 0) : valueV ps x = py ps 0 := by unfold valueV; rw [if_pos h, if_pos hx]
theorem value_high {ps : List (Int × Int)} {x : Int} (h : tableOk ps = true) (hx : px ps 0 < x) (hx' : px ps (ps.length - 1) ≤ x) : valueV ps x = py ps (ps.length - 1) := by
  unfold valueV; rw [if_pos h, if_neg (by omega), if_pos hx']
theorem value_mid {ps : List (Int × Int)} {x : Int} (h : tableOk ps = true) (hx : px ps 0 < x) (hx' : x < px ps (ps.length - 1)) : valueV ps x = linV ps (segOf ps x) x := by
  unfold valueV; rw [if_pos h, if_neg (by omega), if_neg (by omega)]
theorem seg_eq {ps : List (Int × Int)} {x : Int} {k : Nat} (hk : k + 1 < ps.length) (h1 : ∀ j, j < k → px ps (j + 1) ≤ x) (h2 : x < px ps (k + 1)) : segOf ps x = k := by
  have : firstF (segB ps x) (ps.length - 1) 0 = (k : Int) := by
    refine firstF_eq (by omega) (by omega) (fun j j0 jk => ?_) (.inl ?_)
    · have := h1 j.toNat (by omega); simp [segB]; omega
    · simp [segB]; exact h2
  unfold segOf; rw [this]; omega
theorem seg_spec {ps : List (Int × Int)} {x : Int} (h : tableOk ps = true) (hx : px ps 0 < x) (hx' : x < px ps (ps.length - 1)) :
    segOf ps x + 1 < ps.length ∧ px ps (segOf ps x) ≤ x ∧ x < px ps (segOf ps x + 1) := by
  have hl := tab_len h
  obtain ⟨a1, a2, a3, a4⟩ := firstF_spec (segB ps x) (ps.length - 1) 0
  have hs : ((segOf ps x : Nat) : Int) = firstF (segB ps x) (ps.length - 1) 0 := by unfold segOf; omega
  rw [← hs] at a1 a2 a3 a4
  have hlt : segOf ps x + 1 < ps.length := by
    rcases Nat.lt_or_ge (segOf ps x + 1) ps.length with h' | h'
    · exact h'
    · have := a3 ((ps.length - 2 : Nat) : Int) (by omega) (by omega)
      simp only [segB, decide_eq_false_iff_not] at this
      rw [show (((ps.length - 2 : Nat) : Int)).toNat + 1 = ps.length - 1 by omega] at this
      omega
  have h2 := a4 (by omega)
  simp only [segB, decide_eq_true_eq, Int.toNat_natCast] at h2
  refine ⟨hlt, ?_, h2⟩
  rcases Nat.eq_zero_or_pos (segOf ps x) with h0 | h0
  · rw [h0]; omega
  · have := a3 ((segOf ps x - 1 : Nat) : Int) (by omega) (by omega)
    simp only [segB, decide_eq_false_iff_not] at this
    rw [show (((segOf ps x - 1 : Nat) : Int)).toNat + 1 = segOf ps x by omega] at this
    omega
/-- A value on a segment lies between its ends, and does not fall. -/
theorem lin_mono {a b c x x' : Int} (hb : 0 ≤ b) (hc : 0 < c) (h : x ≤ x') : (x - a) * b / c ≤ (x' - a) * b / c :=
  Int.ediv_le_ediv hc (Int.mul_le_mul_of_nonneg_right (by omega) hb)
theorem lin_bd {ps : List (Int × Int)} {k : Nat} {x : Int} (h : tableOk ps = true) (hk : k + 1 < ps.length) (h1 : px ps k ≤ x) (h2 : x ≤ px ps (k + 1)) : py ps k ≤ linV ps k x ∧ linV ps k x ≤ py ps (k + 1) := by
  obtain ⟨s1, s2⟩ := tab_step h hk
  unfold linV
  have e0 : 0 ≤ (x - px ps k) * (py ps (k + 1) - py ps k) / (px ps (k + 1) - px ps k) := Int.ediv_nonneg (Int.mul_nonneg (by omega) (by omega)) (by omega)
  have e1 : (x - px ps k) * (py ps (k + 1) - py ps k) / (px ps (k + 1) - px ps k) ≤ (px ps (k + 1) - px ps k) * (py ps (k + 1) - py ps k) / (px ps (k + 1) - px ps k) :=
    lin_mono (by omega) (by omega) h2
  rw [Int.mul_ediv_cancel_left _ (by omega)] at e1
  omega
theorem value_bd {ps : List (Int × Int)} {x : Int} (h : tableOk ps = true) : py ps 0 ≤ valueV ps x ∧ valueV ps x ≤ py ps (ps.length - 1) := by
  have hl := tab_len h
  rcases Int.lt_or_le (px ps 0) x with h1 | h1
  · rcases Int.lt_or_le x (px ps (ps.length - 1)) with h2 | h2
    · rw [value_mid h h1 h2]
      obtain ⟨s1, s2, s3⟩ := seg_spec h h1 h2
      have := lin_bd h s1 s2 (by omega)
      have := tab_ymono h (i := 0) (j := segOf ps x) (by omega) (by omega)
      have := tab_ymono h (i := segOf ps x + 1) (j := ps.length - 1) (by omega) (by omega)
      omega
    · rw [value_high h h1 h2]; exact ⟨tab_ymono h (by omega) (by omega), Int.le_refl _⟩
  · rw [value_low h h1]; exact ⟨Int.le_refl _, tab_ymono h (by omega) (by omega)⟩
theorem value_mono {ps : List (Int × Int)} {x x' : Int} (h : tableOk ps = true) (hxx : x ≤ x') : valueV ps x ≤ valueV ps x' := by
  have hl := tab_len h
  rcases Int.lt_or_le (px ps 0) x with h1 | h1
  · rcases Int.lt_or_le x' (px ps (ps.length - 1)) with h2 | h2
    · rw [value_mid h h1 (by omega), value_mid h (by omega) h2]
      obtain ⟨s1, s2, s3⟩ := seg_spec h h1 (by omega)
      obtain ⟨t1, t2, t3⟩ := seg_spec h (x := x') (by omega) h2
      rcases Nat.lt_trichotomy (segOf ps x) (segOf ps x') with hs | hs | hs
      · have a := lin_bd h s1 s2 (by omega)
        have b := lin_bd h t1 t2 (by omega)
        have := tab_ymono h (i := segOf ps x + 1) (j := segOf ps x') (by omega) (by omega)
        omega
      · rw [← hs] at t1 t2 t3 ⊢
        obtain ⟨q1, q2⟩ := tab_step h s1
        unfold linV
        have := lin_mono (a := px ps (segOf ps x)) (b := py ps (segOf ps x + 1) - py ps (segOf ps x)) (c := px ps (segOf ps x + 1) - px ps (segOf ps x)) (by omega) (by omega) hxx
        omega
      · have := tab_xmono h (i := segOf ps x' + 1) (j := segOf ps x) (by omega) (by omega)
        omega
    · rw [value_high h (x := x') (by omega) h2]; exact (value_bd h).2
  · rw [value_low h h1]; exact (value_bd h).1
theorem value_point {ps : List (Int × Int)} {j : Nat} (h : tableOk ps = true) (hj : j < ps.length) : valueV ps (px ps j) = py ps j := by
  have hl := tab_len h
  rcases Nat.eq_zero_or_pos j with h0 | h0
  · subst h0; exact value_low h (Int.le_refl _)
  · have h1 := tab_xlt h h0 hj
    rcases Nat.lt_or_ge (j + 1) ps.length with h2 | h2
    · have h3 := tab_xlt h (i := j) (j := ps.length - 1) (by omega) (by omega)
      rw [value_mid h h1 h3]
      have hs : segOf ps (px ps j) = j := seg_eq h2 (fun i hi => tab_xmono h (by omega) hj) (tab_step h h2).1
      rw [hs]
      unfold linV
      simp
    · have : valueV ps (px ps j) = py ps (ps.length - 1) := value_high h h1 (by rw [show ps.length - 1 = j by omega]; exact Int.le_refl _)
      rw [this, show ps.length - 1 = j by omega]

/-- PlaceOf. -/
def placeB (ps : List (Int × Int)) (y : Int) : Bool := tableOk ps && decide (y ≤ py ps (ps.length - 1))
def reachB (ps : List (Int × Int)) (y x : Int) : Bool := decide (y ≤ valueV ps x)
def placeV (ps : List (Int × Int)) (y : Int) : Int := if placeB ps y = true then firstF (reachB ps y) (px ps (ps.length - 1) - px ps 0).toNat (px ps 0) else 0
theorem place_no {ps : List (Int × Int)} {y : Int} (h : tableOk ps = false ∨ py ps (ps.length - 1) < y) : placeB ps y = false ∧ placeV ps y = 0 := by
  have : placeB ps y = false := by
    unfold placeB
    rcases h with h | h
    · rw [h]; rfl
    · have : decide (y ≤ py ps (ps.length - 1)) = false := by simp; omega
      rw [this]; simp
  exact ⟨this, by unfold placeV; rw [this]; rfl⟩
theorem place_yes {ps : List (Int × Int)} {y : Int} (h : tableOk ps = true) (hy : y ≤ py ps (ps.length - 1)) : placeB ps y = true := by simp [placeB, h, hy]
/-- The least place is where a search ends. -/
theorem place_eq {ps : List (Int × Int)} {y p : Int} (h : tableOk ps = true) (hy : y ≤ py ps (ps.length - 1)) (h1 : px ps 0 ≤ p) (h2 : p ≤ px ps (ps.length - 1)) (h3 : px ps 0 < p → valueV ps (p - 1) < y) (h4 : y ≤ valueV ps p) : placeV ps y = p := by
  unfold placeV
  rw [if_pos (place_yes h hy)]
  refine firstF_eq h1 (by omega) (fun j j0 jp => ?_) (.inl (by simpa [reachB] using h4))
  have := h3 (by omega)
  have := value_mono h (x := j) (x' := p - 1) (by omega)
  simp [reachB]; omega
theorem place_spec {ps : List (Int × Int)} {y : Int} (h : tableOk ps = true) (hy : y ≤ py ps (ps.length - 1)) :
    px ps 0 ≤ placeV ps y ∧ placeV ps y ≤ px ps (ps.length - 1) ∧ y ≤ valueV ps (placeV ps y) ∧ (px ps 0 < placeV ps y → valueV ps (placeV ps y - 1) < y) := by
  have hl := tab_len h
  have hx := tab_xmono h (i := 0) (j := ps.length - 1) (by omega) (by omega)
  obtain ⟨a1, a2, a3, a4⟩ := firstF_spec (reachB ps y) (px ps (ps.length - 1) - px ps 0).toNat (px ps 0)
  have he : placeV ps y = firstF (reachB ps y) (px ps (ps.length - 1) - px ps 0).toNat (px ps 0) := by unfold placeV; rw [if_pos (place_yes h hy)]
  rw [← he] at a1 a2 a3 a4
  refine ⟨a1, by omega, ?_, fun hp => ?_⟩
  · rcases Int.lt_or_le (placeV ps y) (px ps (ps.length - 1)) with hlt | hge
    · have := a4 (by omega); simpa [reachB] using this
    · have e : placeV ps y = px ps (ps.length - 1) := by omega
      rw [e, value_point h (by omega)]; exact hy
  · have := a3 (placeV ps y - 1) (by omega) (by omega)
    simp [reachB] at this; omega
end Go.Proofs.Ytgbncfjabnaokab
