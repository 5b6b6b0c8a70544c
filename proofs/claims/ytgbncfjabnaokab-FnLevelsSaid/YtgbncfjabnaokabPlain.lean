/- Plain arithmetic, no program in sight: integer square roots, quotients, masks. -/
import Derived.WalkKit
namespace Go.Proofs.Ytgbncfjabnaokab
open Go.RowKit

def inR (n lo hi : Int) : Bool := decide (lo ≤ n) && decide (n ≤ hi)
theorem inR_true {n lo hi : Int} (h : inR n lo hi = true) : lo ≤ n ∧ n ≤ hi := by simpa [inR] using h
theorem inR_mk {n lo hi : Int} (h1 : lo ≤ n) (h2 : n ≤ hi) : inR n lo hi = true := by simp [inR, h1, h2]
theorem inR_false {n lo hi : Int} (h : inR n lo hi = false) : n < lo ∨ hi < n := by
  simp only [inR, Bool.and_eq_false_iff, decide_eq_false_iff_not] at h; omega
theorem inR_no {n lo hi : Int} (h : n < lo ∨ hi < n) : inR n lo hi = false := by
  simp only [inR, Bool.and_eq_false_iff, decide_eq_false_iff_not]; omega

theorem ret_int {k : IntKind} {a b : Int} (h : a = b) : Ending.returned (.int k a) = .returned (.int k b) := by rw [h]
theorem ret_bool {a b : Bool} (h : a = b) : Ending.returned (.bool a) = .returned (.bool b) := by rw [h]

theorem bcases (b : Bool) : b = true ∨ b = false := by cases b <;> simp

/-- Clamp. -/
def clampV (n lo hi : Int) : Int := if hi < lo ∨ n < lo then lo else if hi < n then hi else n
/-- FloorDiv. -/
def fdivV (a b : Int) : Int := if b ≤ 0 then 0 else if a.tmod b < 0 then wrap64 (wrap64 (a.tdiv b) - 1) else wrap64 (a.tdiv b)

/-- The integer square root. -/
def isqN : Nat → Nat
  | 0 => 0
  | n + 1 => if (isqN n + 1) * (isqN n + 1) ≤ n + 1 then isqN n + 1 else isqN n
theorem isqN_spec (n : Nat) : isqN n * isqN n ≤ n ∧ n < (isqN n + 1) * (isqN n + 1) := by
  induction n with
  | zero => simp [isqN]
  | succ n ih =>
    obtain ⟨h1, h2⟩ := ih
    simp only [isqN]
    split
    · rename_i h
      refine ⟨h, ?_⟩
      have e : (isqN n + 1 + 1) * (isqN n + 1 + 1) = (isqN n + 1) * (isqN n + 1) + 2 * (isqN n + 1) + 1 := by
        simp only [Nat.add_mul, Nat.mul_add]; omega
      omega
    · rename_i h
      exact ⟨by omega, by omega⟩
def isq (n : Int) : Int := (isqN n.toNat : Nat)
theorem isq_nonneg (n : Int) : 0 ≤ isq n := by unfold isq; omega
theorem isq_spec (n : Int) (h : 0 ≤ n) : isq n * isq n ≤ n ∧ n < (isq n + 1) * (isq n + 1) := by
  obtain ⟨h1, h2⟩ := isqN_spec n.toNat
  unfold isq
  constructor
  · have : ((isqN n.toNat * isqN n.toNat : Nat) : Int) ≤ (n.toNat : Int) := by exact_mod_cast h1
    rw [Int.natCast_mul] at this; omega
  · have : (n.toNat : Int) < (((isqN n.toNat + 1) * (isqN n.toNat + 1) : Nat) : Int) := by exact_mod_cast h2
    rw [Int.natCast_mul] at this; push_cast at this; omega
theorem sq_mono {a b : Int} (h0 : 0 ≤ a) (h : a ≤ b) : a * a ≤ b * b := Int.mul_le_mul h h h0 (by omega)
theorem root_unique {n r s : Int} (hr : 0 ≤ r) (hs : 0 ≤ s) (r1 : r * r ≤ n) (r2 : n < (r + 1) * (r + 1)) (s1 : s * s ≤ n) (s2 : n < (s + 1) * (s + 1)) : r = s := by
  rcases Int.lt_trichotomy r s with h | h | h
  · have := sq_mono (a := r + 1) (b := s) (by omega) (by omega); omega
  · exact h
  · have := sq_mono (a := s + 1) (b := r) (by omega) (by omega); omega
theorem isq_eq {n r : Int} (hn : 0 ≤ n) (hr : 0 ≤ r) (r1 : r * r ≤ n) (r2 : n < (r + 1) * (r + 1)) : r = isq n :=
  root_unique hr (isq_nonneg n) r1 r2 (isq_spec n hn).1 (isq_spec n hn).2
theorem isq_mono {a b : Int} (h0 : 0 ≤ a) (h : a ≤ b) : isq a ≤ isq b := by
  rcases Int.lt_or_le (isq b) (isq a) with hlt | hle
  · have h1 := (isq_spec a h0).1
    have h2 := (isq_spec b (by omega)).2
    have := sq_mono (a := isq b + 1) (b := isq a) (by have := isq_nonneg b; omega) (by omega)
    omega
  · exact hle
theorem isq_le {a m : Int} (h0 : 0 ≤ a) (hm : 0 ≤ m) (h : a < (m + 1) * (m + 1)) : isq a ≤ m := by
  rcases Int.lt_or_le m (isq a) with hlt | hle
  · have h1 := (isq_spec a h0).1
    have := sq_mono (a := m + 1) (b := isq a) (by omega) (by omega)
    omega
  · exact hle
/-- RootOf. -/
def rootV (n : Int) : Int := if inR n 0 1000000000000000000 = true then isq n else -1

theorem and_mask16 (a : Nat) (ha : a < 9223372036854775808) : bits .and .i64 (a : Int) 65535 = (a : Int) % 65536 := by
  show IntKind.i64.wrap ((BitVec.ofInt 64 (a : Int) &&& BitVec.ofInt 64 65535).toNat : Int) = _
  have h1 : (BitVec.ofInt 64 (a : Int)).toNat = a := by
    rw [BitVec.ofInt_natCast, BitVec.toNat_ofNat]; exact Nat.mod_eq_of_lt (by omega)
  have h2 : (BitVec.ofInt 64 65535).toNat = 2 ^ 16 - 1 := by decide
  rw [BitVec.toNat_and, h1, h2, Nat.and_two_pow_sub_one_eq_mod, IntKind.wrap_i64]
  omega
end Go.Proofs.Ytgbncfjabnaokab
