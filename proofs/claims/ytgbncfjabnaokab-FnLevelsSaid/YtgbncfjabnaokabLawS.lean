/- Contracts of szReach, toReach, eqReach. -/
import Derived.Test.YtgbncfjabnaokabLawR
namespace Go.Proofs.Ytgbncfjabnaokab
open Go.RowKit

theorem szV_le {left : Int} {n : Nat} (h : 0 ≤ szV left n) (h1 : left ≤ 1048576) : szV left n ≤ 1048576 ∧ (n : Int) ≤ left := by
  unfold szV at *; split at h
  · omega
  · rename_i hh; rw [if_neg hh]; omega
theorem szV_or (left : Int) (n : Nat) : szV left n = -1 ∨ 0 ≤ szV left n := by
  unfold szV; split
  · exact .inl rfl
  · exact .inr (by omega)
/-- The size of a reach. -/
def szR (left : Int) (n m : Nat) : Int := if szV left n < 0 then -1 else szV (szV left n) m
theorem l_szReach (tA : Option Addr) (n tc : Nat) (vol : Int) (pA : Option Addr) (m pc : Nat) (left : Int) (w : World) (h0 : 0 ≤ left) (h1 : left ≤ 1048576) (hn : n ≤ 9223372036854775807) (hm : m ≤ 9223372036854775807) :
    Calls Try.prog 9 #[.agg #[.slice tA n tc, .int .i64 vol, .slice pA m pc], .int .i64 left] w fun e w' => e = .returned (.int .i64 (szR left n m)) ∧ Below w.heap.size w w' := by
  rcases szV_or left n with h | h
  · have HV := Lib.hid (show szR left n m = -1 by unfold szR; rw [if_pos (by omega)])
    go_enter Try.func9, Try.ntmps9
    go_wp2_with (go_at_call 33; refine (l_szPointS _ _ _ _ _ h0 h1 hn).mono ?_; rintro e w' ⟨rfl, rfl⟩)
    go_ret
    exact ⟨ret_int HV.out.symm, (Below.refl _ _).alloc (Nat.le_refl _) _⟩
  · have HV := Lib.hid (show szR left n m = szV (szV left n) m by unfold szR; rw [if_neg (by omega)])
    have hle := (szV_le h h1).1
    rcases szV_or (szV left n) m with h2 | h2
    all_goals
      go_enter Try.func9, Try.ntmps9
      go_wp2_with (first | (go_at_call 33; refine (l_szPointS _ _ _ _ _ h0 h1 hn).mono ?_; rintro e w' ⟨rfl, rfl⟩) | (go_at_call 34; refine (l_szIntS _ _ _ _ _ h hle hm).mono ?_; rintro e w' ⟨rfl, rfl⟩))
      go_ret
      exact ⟨ret_int (by first | exact HV.out.symm | exact h2.symm.trans HV.out.symm | exact (HV.out.trans h2).symm), (Below.refl _ _).alloc (Nat.le_refl _) _⟩
end Go.Proofs.Ytgbncfjabnaokab
