/- Texts: digits, and the contract of the reference's FormatInt. -/
import Derived.Test.YtgiacjfnbbbafabDoorMem
import Derived.Test.YtgiacjfnbbbafabDoorArith
import Derived.Laws.IdiomStrings
import Derived.Laws.Concat
import Derived.Lib.ItoaNum
import Derived.Lib.UnsafeStr
namespace Go.Proofs.YtgiacjfnbbbafabDoor
open Go.RowKit

theorem ret_str {a b : ByteArray} (h : a = b) : Ending.returned (.string a) = .returned (.string b) := by rw [h]
/-- The digits of a number, none for 0. -/
def digs (m : Nat) : List UInt8 := if m = 0 then [] else Lib.decDigits m
theorem digs_step {m : Nat} (h : 0 < m) : digs m = digs (m / 10) ++ [UInt8.ofNat (48 + m % 10)] := by
  unfold digs
  rw [if_neg (by omega)]
  by_cases h1 : m < 10
  · rw [Lib.decDigits, dif_pos h1, if_pos (by omega), show m % 10 = m by omega]; rfl
  · rw [Lib.decDigits, dif_neg h1, if_neg (by omega)]
/-- The digits still to come, and those that are there. -/
def Fmt (m0 m : Nat) (l : List UInt8) : Prop := digs m0 = digs m ++ l
theorem fmt_step {m0 m : Nat} {l : List UInt8} (h : Fmt m0 m l) (hm : 0 < m) : Fmt m0 (m / 10) (UInt8.ofNat (48 + m % 10) :: l) := by
  unfold Fmt at *; rw [h, digs_step hm]; simp
theorem fmt_end {m0 : Nat} {l : List UInt8} (h : Fmt m0 0 l) (h0 : 0 < m0) : l = Lib.decDigits m0 := by
  unfold Fmt digs at h; rw [if_neg (by omega), if_pos rfl] at h; simpa using h.symm
theorem ba_cons (c : UInt8) (l : List UInt8) : (ByteArray.mk #[c] ++ ByteArray.mk l.toArray) = ByteArray.mk (c :: l).toArray := ByteArray.mk_append_mk [c] l
theorem u8_digit {k : Nat} (h : k < 10) : ((UInt8.ofNat (48 + k)).toNat : Int) = 48 + (k : Int) := by
  simp [UInt8.toNat_ofNat']; omega

def figU (x : Int) : UInt8 := UInt8.ofNat (48 + x.toNat)
theorem ba_add (P : Program) (W : World) (c : UInt8) (l : List UInt8) (h : l.length ≤ 9223372036854775806) : (Op.stringOp .add ⟨#[c]⟩ ⟨l.toArray⟩).run P W = .ok (.string ⟨(c :: l).toArray⟩) W := by
  rw [run_string_add_sum (P := P) (w := W) _ _ (by simp [ByteArray.size]; omega), ba_cons]
/-- 'string([]byte{c})'. -/
theorem conv_one (W : World) (c : UInt8) : (convert 22 9 (.slice (some ⟨W.heap.size, 0, none⟩) 1 1)).run Tryd.prog (W.alloc (.cells #[.int .u8 (c.toNat : Int)] 5)) = .ok (.string ⟨#[c]⟩) (W.alloc (.cells #[.int .u8 (c.toNat : Int)] 5)) := by
  refine run_convert_bytes_back _ _ _ 5 ⟨W.heap.size, 0, none⟩ 1 [c] Tryd.underlying22 Tryd.underlying5 Tryd.underlying9 (fun j hj => ?_)
  obtain rfl : j = 0 := by simp at hj; exact hj
  rw [show ∀ p : Addr, p.add 0 = p from fun p => by simp [Addr.add], (Blk.new W 5 #[.int .u8 (c.toNat : Int)]).cell 0]
  rfl

/-- Few digits are there. -/
def Few (m0 m : Nat) (l : List UInt8) : Prop := l.length ≤ 19 ∧ m * 10 ^ l.length ≤ m0
theorem few_step {m0 m : Nat} {l : List UInt8} (h : Few m0 m l) (hm : 0 < m) (h1 : m0 ≤ 9223372036854775808) (c : UInt8) : Few m0 (m / 10) (c :: l) := by
  obtain ⟨_, h3⟩ := h
  have h4 : l.length ≤ 18 := by
    rcases Nat.lt_or_ge l.length 19 with h | h
    · omega
    · have a : 10 ^ 19 ≤ 10 ^ l.length := Nat.pow_le_pow_right (by omega) h
      have b : 1 * 10 ^ l.length ≤ m * 10 ^ l.length := Nat.mul_le_mul_right _ hm
      omega
  refine ⟨by simp; omega, ?_⟩
  simp only [List.length_cons, Nat.pow_succ]
  have : m / 10 * (10 ^ l.length * 10) = (m / 10 * 10) * 10 ^ l.length := by
    rw [Nat.mul_comm (10 ^ l.length) 10, Nat.mul_assoc]
  rw [this]
  exact Nat.le_trans (Nat.mul_le_mul_right _ (by omega)) h3
theorem neg_rem (m : Nat) : Int.tmod (-(m : Int)) 10 = -((m % 10 : Nat) : Int) := by rw [Int.neg_tmod, Int.tmod_eq_emod_of_nonneg (by omega)]; omega
theorem neg_quo (m : Nat) : Int.tdiv (-(m : Int)) 10 = -((m / 10 : Nat) : Int) := by rw [Int.neg_tdiv, Int.tdiv_eq_ediv_of_nonneg (by omega)]; omega

end Go.Proofs.YtgiacjfnbbbafabDoor
