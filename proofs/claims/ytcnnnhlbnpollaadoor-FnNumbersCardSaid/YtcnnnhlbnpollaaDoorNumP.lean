/- Plain: the decimal text of a number is parsed back; hexadecimal text is decoded back. -/
import Derived.Test.YtcnnnhlbnpollaaDoorNum
import Derived.Test.YtcnnnhlbnpollaaDoorTxt
import Derived.Lib.ItoaLen
namespace Go.Proofs.YtcnnnhlbnpollaaDoor
open Go.RowKit

theorem u8_dig {k : Nat} (h : k < 10) : (UInt8.ofNat (48 + k)).toNat = 48 + k := by have := u8_digit h; omega
theorem dec_step (m : Nat) : Lib.decDigits m = (if m / 10 = 0 then [] else Lib.decDigits (m / 10)) ++ [UInt8.ofNat (48 + m % 10)] := by
  have e := dec_snoc (a := m / 10) (d := m % 10) (Nat.mod_lt _ (by omega))
  rw [show 10 * (m / 10) + m % 10 = m by omega] at e
  exact e
theorem valD_dec (m : Nat) : valD (Lib.decDigits m) = m := by
  induction m using Nat.strongRecOn with
  | ind m ih =>
    rw [dec_step, valD_snoc, u8_dig (Nat.mod_lt _ (by omega))]
    split
    · simp [valD]; omega
    · rw [ih _ (by omega)]; omega
theorem dec_len_le (k : Nat) : ∀ m, m < 10 ^ (k + 1) → (Lib.decDigits m).length ≤ k + 1 := by
  induction k with
  | zero =>
    intro m hm
    rw [dec_step, if_pos (by simp at hm; omega)]; simp
  | succ k ih =>
    intro m hm
    rw [dec_step, List.length_append]
    split
    · simp
    · have := ih (m / 10) (by rw [Nat.pow_succ] at hm; exact Nat.div_lt_of_lt_mul (by omega))
      simp; omega
theorem lead_dec (m : Nat) : leadOk (Lib.decDigits m) = true := by
  have h1 := dec_len m
  have h2 := (dec_head m).1
  unfold leadOk
  rcases Nat.eq_zero_or_pos m with rfl | h
  · have e : Lib.decDigits 0 = [48] := by rw [dec_step]; rfl
    rw [e]; rfl
  · rw [decide_eq_true h1, decide_eq_true (h2 h)]; simp
theorem itoa_pos {n : Int} (h : 0 ≤ n) : Lib.itoa n = Lib.decDigits n.toNat := by unfold Lib.itoa; rw [if_neg (by omega)]
theorem itoa_neg {n : Int} (h : n < 0) : Lib.itoa n = 45 :: Lib.decDigits n.natAbs := by unfold Lib.itoa; rw [if_pos h]
theorem parse_in {n : Int} (h0 : 0 ≤ n) (h1 : n ≤ 1000000000) : parseB (Lib.itoa n) = true ∧ parseN (Lib.itoa n) = n := by
  rw [itoa_pos h0]
  have hv := valD_dec n.toNat
  have := parse_yes (l := Lib.decDigits n.toNat) (dec_len_le 9 _ (by simp; omega)) (dec_head _).2 (by omega) (lead_dec _)
  refine ⟨this.1, this.2.trans ?_⟩
  rw [hv]; omega
theorem parse_out {n : Int} (h : n < 0 ∨ 1000000000 < n) : parseB (Lib.itoa n) = false ∧ parseN (Lib.itoa n) = 0 := by
  rcases h with h | h
  · rw [itoa_neg h]
    exact parse_no (.inr (.inl (by simp [allDig, isDig])))
  · rw [itoa_pos (by omega)]
    exact parse_no (.inr (.inr (.inl (by rw [valD_dec]; omega))))
theorem itoa_some (n : Int) : 0 < (Lib.itoa n).length := by
  rcases Int.lt_or_le n 0 with h | h
  · rw [itoa_neg h]; simp
  · rw [itoa_pos h]; exact dec_len _
theorem mul_bd {x z : Int} (x0 : 0 ≤ x) (x1 : x ≤ 1000000) (z0 : -1000000 ≤ z) (z1 : z ≤ 1000000) : -1000000000000 ≤ x * z ∧ x * z ≤ 1000000000000 := by
  have h1 : x * z ≤ x * 1000000 := Int.mul_le_mul_of_nonneg_left z1 x0
  have h2 : x * -1000000 ≤ x * z := Int.mul_le_mul_of_nonneg_left z0 x0
  omega
end Go.Proofs.YtcnnnhlbnpollaaDoor
