/- Contracts of the small arithmetic functions (inRange, Clamp, FloorDiv, RootOf, NextRandom, RandomBelow), program and reference: what each returns, for all arguments. No conditions but those written. -/
import Derived.Test.YtlnmpdkbkkmhiaaProg
import Derived.Test.YtlnmpdkbkkmhiaaPlain
import Derived.WalkKit
import Derived.Lib.Hide
import Derived.Deep.QuietTactic
import Derived.BigQuiet
namespace Go.Proofs.Ytlnmpdkbkkmhiaa
open Go.RowKit

theorem i_inRange (n lo hi : Int) (w : World) :
    Calls Try.prog 30 #[.int .i64 n, .int .i64 lo, .int .i64 hi] w fun e w' => e = .returned (.bool (inR n lo hi)) ∧ w = w' := by
  by_cases h1 : lo ≤ n
  · by_cases h2 : n ≤ hi
    · go_enter Try.func30, Try.ntmps30
      go_wp2
      go_ret
      exact ⟨ret_bool (inR_mk h1 h2).symm, rfl⟩
    · go_enter Try.func30, Try.ntmps30
      go_wp2
      go_ret
      exact ⟨ret_bool (inR_no (by omega)).symm, rfl⟩
  · go_enter Try.func30, Try.ntmps30
    go_wp2
    go_ret
    exact ⟨ret_bool (inR_no (by omega)).symm, rfl⟩

theorem s_l01In (n lo hi : Int) (w : World) :
    Calls Try.prog 57 #[.int .i64 n, .int .i64 lo, .int .i64 hi] w fun e w' => e = .returned (.bool (inR n lo hi)) ∧ w = w' := by
  by_cases h1 : lo ≤ n
  · by_cases h2 : n ≤ hi
    · go_enter Try.func57, Try.ntmps57
      go_wp2
      go_ret
      exact ⟨ret_bool (inR_mk h1 h2).symm, rfl⟩
    · go_enter Try.func57, Try.ntmps57
      go_wp2
      go_ret
      exact ⟨ret_bool (inR_no (by omega)).symm, rfl⟩
  · go_enter Try.func57, Try.ntmps57
    go_wp2
    go_ret
    exact ⟨ret_bool (inR_no (by omega)).symm, rfl⟩

/-- NextRandom. -/
def nextV (n : Int) : Int := if inR n 0 65535 = true then (n * 25173 + 13849) % 65536 else 0

theorem nextV_bd (n : Int) : 0 ≤ nextV n ∧ nextV n ≤ 65535 := by
  unfold nextV; split <;> omega

/-- RandomBelow: the next state, the number. -/
def rb0 (n m : Int) : Int := if inR n 0 65535 = true ∧ inR m 1 4096 = true then nextV n else 0
def rb1 (n m : Int) : Int := if inR n 0 65535 = true ∧ inR m 1 4096 = true then nextV n / 16 % m else 0
theorem ret_int2 {a b c d : Int} (h : a = c) (h' : b = d) : Ending.returned (.tuple #[.int .i64 a, .int .i64 b]) = .returned (.tuple #[.int .i64 c, .int .i64 d]) := by rw [h, h']

theorem i_RootOf (n : Int) (w : World) :
    Calls Try.prog 31 #[.int .i64 n] w fun e w' => e = .returned (.int .i64 (rootV n)) ∧ w = w' := by
  rcases bcases (inR n 0 1000000000000000000) with h | h
  · obtain ⟨h1, h2⟩ := inR_true h
    have HR := Lib.hid (show rootV n = isq n by unfold rootV; rw [if_pos h])
    clear h
    go_enter Try.func31, Try.ntmps31
    go_wp2
    go_loop [3, 4] (fun l h => ∃ a b : Int, 0 ≤ a ∧ a ≤ b ∧ b ≤ 1000000000 ∧ a * a ≤ n ∧ n < (b + 1) * (b + 1) ∧ l = .int .i64 a ∧ h = .int .i64 b) (fun l h => (intOf h - intOf l).toNat)
    case atStart => exact ⟨0, 1000000000, by omega, by omega, by omega, by omega, by omega, rfl, rfl⟩
    case round =>
      obtain ⟨a, b, g1, g2, g3, g4, g5, rfl, rfl⟩ := hrel
      by_cases hlt : a < b
      · have m0 : 0 ≤ (a + b + 1) / 2 * ((a + b + 1) / 2) := Int.mul_nonneg (by omega) (by omega)
        have m1 : (a + b + 1) / 2 * ((a + b + 1) / 2) ≤ 1000000000 * 1000000000 := sq_mono (by omega) (by omega)
        by_cases hc : (a + b + 1) / 2 * ((a + b + 1) / 2) ≤ n
        · go_wp2
          go_round
          case rel => exact ⟨(a + b + 1) / 2, b, by omega, by omega, by omega, hc, g5, rfl, rfl⟩
          case measure => simp [intOf]; omega
        · go_wp2
          go_round
          case rel => exact ⟨a, (a + b + 1) / 2 - 1, by omega, by omega, by omega, g4, by rw [Int.sub_add_cancel]; omega, rfl, rfl⟩
          case measure => simp [intOf]; omega
      · have hab : a = b := by omega
        have HA := Lib.hid hab
        clear hab
        go_wp2
        go_ret
        exact ⟨ret_int (by rw [HR.out]; exact isq_eq h1 g1 g4 (by rw [HA.out]; exact g5)), rfl⟩
  · have h3 := inR_false h
    have HR := Lib.hid (show rootV n = -1 by unfold rootV; rw [h]; rfl)
    clear h
    rcases h3 with h3 | h3
    all_goals
      go_enter Try.func31, Try.ntmps31
      go_wp2
      go_ret
      exact ⟨ret_int HR.out.symm, rfl⟩

theorem s_RootOf (n : Int) (w : World) :
    Calls Try.prog 63 #[.int .i64 n] w fun e w' => e = .returned (.int .i64 (rootV n)) ∧ w = w' := by
  rcases bcases (inR n 0 1000000000000000000) with h | h
  · obtain ⟨h1, h2⟩ := inR_true h
    have HR := Lib.hid (show rootV n = isq n by unfold rootV; rw [if_pos h])
    go_enter Try.func63, Try.ntmps63
    go_wp2_with (go_at_call 57; refine (s_l01In _ _ _ _).mono ?_; rintro e w' ⟨rfl, rfl⟩)
    clear h
    go_loop [3, 4] (fun l h => ∃ a b : Int, 0 ≤ a ∧ a < b ∧ b ≤ 1000000001 ∧ a * a ≤ n ∧ n < b * b ∧ l = .int .i64 a ∧ h = .int .i64 b) (fun l h => (intOf h - intOf l).toNat)
    case atStart => exact ⟨0, 1000000001, by omega, by omega, by omega, by omega, by omega, rfl, rfl⟩
    case round =>
      obtain ⟨a, b, g1, g2, g3, g4, g5, rfl, rfl⟩ := hrel
      by_cases hlt : 1 < b - a
      · have m0 : 0 ≤ (a + b) / 2 * ((a + b) / 2) := Int.mul_nonneg (by omega) (by omega)
        have m1 : (a + b) / 2 * ((a + b) / 2) ≤ 1000000000 * 1000000000 := sq_mono (by omega) (by omega)
        by_cases hc : (a + b) / 2 * ((a + b) / 2) ≤ n
        · go_wp2
          go_round
          case rel => exact ⟨(a + b) / 2, b, by omega, by omega, by omega, hc, g5, rfl, rfl⟩
          case measure => simp [intOf]; omega
        · go_wp2
          go_round
          case rel => exact ⟨a, (a + b) / 2, by omega, by omega, by omega, g4, by omega, rfl, rfl⟩
          case measure => simp [intOf]; omega
      · have hab : a + 1 = b := by omega
        have HA := Lib.hid hab
        clear hab
        go_wp2
        go_ret
        exact ⟨ret_int (by rw [HR.out]; exact isq_eq h1 g1 g4 (by rw [HA.out]; exact g5)), rfl⟩
  · have HR := Lib.hid (show rootV n = -1 by unfold rootV; rw [h]; rfl)
    go_enter Try.func63, Try.ntmps63
    go_wp2_with (go_at_call 57; refine (s_l01In _ _ _ _).mono ?_; rintro e w' ⟨rfl, rfl⟩)
    go_ret
    exact ⟨ret_int HR.out.symm, rfl⟩
end Go.Proofs.Ytlnmpdkbkkmhiaa
