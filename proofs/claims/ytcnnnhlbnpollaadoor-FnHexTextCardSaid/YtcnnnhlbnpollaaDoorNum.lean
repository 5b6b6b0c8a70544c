/- Plain facts on decimal texts, no program in sight. -/
import Derived.Lib.ItoaNum
import Derived.Test.YtcnnnhlbnpollaaDoorPlain
namespace Go.Proofs.YtcnnnhlbnpollaaDoor

theorem snoc_ind {α : Type} {Q : List α → Prop} (h0 : Q []) (hs : ∀ l c, Q l → Q (l ++ [c])) (l : List α) : Q l := by
  rw [← List.reverse_reverse l]
  induction l.reverse with
  | nil => exact h0
  | cons c r ih => rw [List.reverse_cons]; exact hs _ _ ih
def isDig (c : UInt8) : Bool := decide (48 ≤ c.toNat) && decide (c.toNat ≤ 57)
def allDig (l : List UInt8) : Bool := l.all isDig
def valD (l : List UInt8) : Nat := l.foldl (fun n c => 10 * n + (c.toNat - 48)) 0
theorem valD_snoc (l : List UInt8) (c : UInt8) : valD (l ++ [c]) = 10 * valD l + (c.toNat - 48) := by simp [valD]
theorem allDig_snoc (l : List UInt8) (c : UInt8) : allDig (l ++ [c]) = (allDig l && isDig c) := by simp [allDig]
theorem dig_bd {c : UInt8} (h : isDig c = true) : 48 ≤ c.toNat ∧ c.toNat ≤ 57 := by simpa [isDig] using h
theorem valD_lt : ∀ (l : List UInt8), allDig l = true → valD l < 10 ^ l.length := by
  intro l
  induction l using snoc_ind with
  | h0 => intro _; simp [valD]
  | hs l c ih =>
    intro h
    rw [allDig_snoc, Bool.and_eq_true] at h
    have a := ih h.1
    have b := dig_bd h.2
    rw [valD_snoc, List.length_append, List.length_singleton, Nat.pow_succ]
    omega
theorem getD_app {l r : List UInt8} (h : 0 < l.length) : (l ++ r).getD 0 0 = l.getD 0 0 := by cases l with | nil => simp at h | cons a b => rfl
def leadOk (l : List UInt8) : Bool := decide (0 < l.length) && (decide (l.length = 1) || decide (l.getD 0 0 ≠ 48))
theorem dec_snoc {a d : Nat} (h : d < 10) : Lib.decDigits (10 * a + d) = (if a = 0 then [] else Lib.decDigits a) ++ [UInt8.ofNat (48 + d)] := by
  by_cases ha : a = 0
  · subst ha; rw [if_pos rfl, Lib.decDigits_one (by omega)]; simp
  · rw [if_neg ha, Lib.decDigits, dif_neg (by omega), show (10 * a + d) / 10 = a by omega, show (10 * a + d) % 10 = d by omega]
theorem u8_of_dig {c : UInt8} (h : isDig c = true) : UInt8.ofNat (48 + (c.toNat - 48)) = c := by
  have := dig_bd h
  rw [show 48 + (c.toNat - 48) = c.toNat by omega]; simp
theorem valD_pos : ∀ (l : List UInt8), allDig l = true → 0 < l.length → l.getD 0 0 ≠ 48 → 0 < valD l := by
  intro l
  induction l using snoc_ind with
  | h0 => intro _ h; simp at h
  | hs l c ih =>
    intro h _ hl
    rw [allDig_snoc, Bool.and_eq_true] at h
    have b := dig_bd h.2
    rw [valD_snoc]
    rcases Nat.eq_zero_or_pos l.length with h0 | h0
    · have : l = [] := List.eq_nil_of_length_eq_zero h0
      subst this
      have : c.toNat ≠ 48 := fun e => hl (by simp; apply UInt8.toNat_inj.1; simpa using e)
      omega
    · have := ih h.1 h0 (by rw [getD_app h0] at hl; exact hl)
      omega
theorem dec_valD : ∀ (l : List UInt8), allDig l = true → leadOk l = true → Lib.decDigits (valD l) = l := by
  intro l
  induction l using snoc_ind with
  | h0 => intro _ h; simp [leadOk] at h
  | hs l c ih =>
    intro h hl
    rw [allDig_snoc, Bool.and_eq_true] at h
    have b := dig_bd h.2
    rw [valD_snoc, dec_snoc (by omega), u8_of_dig h.2]
    congr 1
    rcases Nat.eq_zero_or_pos l.length with h0 | h0
    · have : l = [] := List.eq_nil_of_length_eq_zero h0
      subst this
      rfl
    · have hh : l.getD 0 0 ≠ 48 := by
        simp only [leadOk, List.length_append, List.length_singleton, Bool.and_eq_true, Bool.or_eq_true, decide_eq_true_eq] at hl
        rcases hl.2 with hl | hl
        · omega
        · rw [getD_app h0] at hl; exact hl
      rw [if_neg (by have := valD_pos l h.1 h0 hh; omega)]
      exact ih h.1 (by simp only [leadOk, Bool.and_eq_true, Bool.or_eq_true, decide_eq_true_eq]; exact ⟨h0, .inr hh⟩)
theorem dec_len (m : Nat) : 0 < (Lib.decDigits m).length := by
  rw [Lib.decDigits]; split <;> simp
theorem dec_head (m : Nat) : (0 < m → (Lib.decDigits m).getD 0 0 ≠ 48) ∧ allDig (Lib.decDigits m) = true := by
  induction m using Nat.strongRecOn with
  | _ m ih =>
    by_cases h : m < 10
    · rw [Lib.decDigits_one h]
      refine ⟨fun hm he => ?_, ?_⟩
      · have := congrArg UInt8.toNat he
        simp [UInt8.toNat_ofNat'] at this
        omega
      · simp [allDig, isDig, UInt8.toNat_ofNat']
        omega
    · rw [Lib.decDigits, dif_neg h]
      obtain ⟨a, b⟩ := ih (m / 10) (by omega)
      have hd : isDig (UInt8.ofNat (48 + m % 10)) = true := by simp [isDig, UInt8.toNat_ofNat']; omega
      refine ⟨fun _ => ?_, by rw [allDig_snoc, b, hd]; rfl⟩
      rw [getD_app (dec_len _)]
      exact a (by omega)
/-- A text of digits is its number's numeral just where it does not begin with a needless 0. -/
theorem dec_eq {l : List UInt8} (h : allDig l = true) : Lib.decDigits (valD l) = l ↔ leadOk l = true := by
  refine ⟨fun he => ?_, dec_valD l h⟩
  simp only [leadOk, Bool.and_eq_true, Bool.or_eq_true, decide_eq_true_eq]
  have hl : 0 < l.length := by rw [← he]; exact dec_len _
  refine ⟨hl, ?_⟩
  rcases Nat.eq_zero_or_pos (valD l) with h0 | h0
  · left; rw [h0, Lib.decDigits_one (by omega)] at he; rw [← he]; rfl
  · right; have := (dec_head (valD l)).1 h0; rw [he] at this; exact this
/-- ParseUint. -/
def parseB (l : List UInt8) : Bool := decide (l.length ≤ 10) && allDig l && decide (valD l ≤ 1000000000) && leadOk l
def parseN (l : List UInt8) : Int := if parseB l = true then (valD l : Int) else 0
theorem parse_no {l : List UInt8} (h : 10 < l.length ∨ allDig l = false ∨ 1000000000 < valD l ∨ leadOk l = false) : parseB l = false ∧ parseN l = 0 := by
  have : parseB l = false := by
    unfold parseB
    rcases h with h | h | h | h
    · have : decide (l.length ≤ 10) = false := by simp; omega
      rw [this]; simp
    · rw [h]; simp
    · have : decide (valD l ≤ 1000000000) = false := by simp; omega
      rw [this]; simp
    · rw [h]; simp
  exact ⟨this, by unfold parseN; rw [this]; rfl⟩
theorem parse_yes {l : List UInt8} (h1 : l.length ≤ 10) (h2 : allDig l = true) (h3 : valD l ≤ 1000000000) (h4 : leadOk l = true) : parseB l = true ∧ parseN l = (valD l : Int) := by
  have : parseB l = true := by simp [parseB, h1, h2, h3, h4]
  exact ⟨this, by unfold parseN; rw [if_pos this]⟩
theorem dig_no {l : List UInt8} {k : Nat} (hk : k < l.length) (h : isDig l[k] = false) : allDig l = false := by
  cases ha : allDig l
  · rfl
  · rw [allDig, List.all_eq_true] at ha; have := ha _ (List.getElem_mem hk); rw [h] at this; cases this
theorem dig_step {l : List UInt8} {k : Nat} (hk : k < l.length) (h : isDig l[k] = true) (ha : allDig (l.take k) = true) : allDig (l.take (k + 1)) = true ∧ valD (l.take (k + 1)) = 10 * valD (l.take k) + (l[k].toNat - 48) := by
  rw [List.take_succ_eq_append_getElem hk, allDig_snoc, valD_snoc, ha, h]; exact ⟨rfl, rfl⟩
theorem valD_bd {l : List UInt8} (h : allDig l = true) (hl : l.length ≤ 10) : valD l < 10000000000 := by
  have a := valD_lt l h
  have b : 10 ^ l.length ≤ 10 ^ 10 := Nat.pow_le_pow_right (by omega) hl
  omega
end Go.Proofs.YtcnnnhlbnpollaaDoor
