/- Contracts of the small arithmetic functions (inRange, Clamp, FloorDiv, RootOf, NextRandom, RandomBelow), program and reference: what each returns, for all arguments. No conditions but those written. -/
import Derived.Test.YtgbncfjabnaokabProg
import Derived.Test.YtgbncfjabnaokabPlain
import Derived.WalkKit
import Derived.Lib.Hide
import Derived.Deep.QuietTactic
import Derived.BigQuiet
namespace Go.Proofs.Ytgbncfjabnaokab
open Go.RowKit

theorem i_inRange (n lo hi : Int) (w : World) :
    Calls Try.prog 52 #[.int .i64 n, .int .i64 lo, .int .i64 hi] w fun e w' => e = .returned (.bool (inR n lo hi)) ∧ w = w' := by
  by_cases h1 : lo ≤ n
  · by_cases h2 : n ≤ hi
    · go_enter Try.func52, Try.ntmps52
      go_wp2
      go_ret
      exact ⟨ret_bool (inR_mk h1 h2).symm, rfl⟩
    · go_enter Try.func52, Try.ntmps52
      go_wp2
      go_ret
      exact ⟨ret_bool (inR_no (by omega)).symm, rfl⟩
  · go_enter Try.func52, Try.ntmps52
    go_wp2
    go_ret
    exact ⟨ret_bool (inR_no (by omega)).symm, rfl⟩

theorem s_l01In (n lo hi : Int) (w : World) :
    Calls Try.prog 46 #[.int .i64 n, .int .i64 lo, .int .i64 hi] w fun e w' => e = .returned (.bool (inR n lo hi)) ∧ w = w' := by
  by_cases h1 : lo ≤ n
  · by_cases h2 : n ≤ hi
    · go_enter Try.func46, Try.ntmps46
      go_wp2
      go_ret
      exact ⟨ret_bool (inR_mk h1 h2).symm, rfl⟩
    · go_enter Try.func46, Try.ntmps46
      go_wp2
      go_ret
      exact ⟨ret_bool (inR_no (by omega)).symm, rfl⟩
  · go_enter Try.func46, Try.ntmps46
    go_wp2
    go_ret
    exact ⟨ret_bool (inR_no (by omega)).symm, rfl⟩

/-- NextRandom. -/
def nextV (n : Int) : Int := if inR n 0 65535 = true then (n * 25173 + 13849) % 65536 else 0

theorem nextV_bd (n : Int) : 0 ≤ nextV n ∧ nextV n ≤ 65535 := by
  unfold nextV; split <;> omega

/-- RandomBelow: the next state, the number. -/
def rb0 (n m : Int) : Int := if inR n 0 65535 = true ∧ inR m 1 4096 = true then nextV n else 0
def rb1 (n m : Int) : Int := if inR n 0 65535 = true ∧ inR m 1 4096 = true then nextV n / 16 % m else 0
theorem ret_int2 {a b c d : Int} (h : a = c) (h' : b = d) : Ending.returned (.tuple #[.int .i64 a, .int .i64 b]) = .returned (.tuple #[.int .i64 c, .int .i64 d]) := by rw [h, h']

end Go.Proofs.Ytgbncfjabnaokab
