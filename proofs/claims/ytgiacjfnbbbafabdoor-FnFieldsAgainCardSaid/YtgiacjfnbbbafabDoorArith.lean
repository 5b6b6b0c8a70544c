/- Contracts of the small arithmetic functions (inRange, Clamp, FloorDiv, RootOf, NextRandom, RandomBelow), program and reference: what each returns, for all arguments. No conditions but those written. -/
import Derived.Test.YtgiacjfnbbbafabDoorProg
import Derived.Test.YtgiacjfnbbbafabDoorPlain
import Derived.WalkKit
import Derived.Lib.Hide
import Derived.Deep.QuietTactic
import Derived.BigQuiet
namespace Go.Proofs.YtgiacjfnbbbafabDoor
open Go.RowKit

/-- NextRandom. -/
def nextV (n : Int) : Int := if inR n 0 65535 = true then (n * 25173 + 13849) % 65536 else 0

theorem nextV_bd (n : Int) : 0 ≤ nextV n ∧ nextV n ≤ 65535 := by
  unfold nextV; split <;> omega

/-- RandomBelow: the next state, the number. -/
def rb0 (n m : Int) : Int := if inR n 0 65535 = true ∧ inR m 1 4096 = true then nextV n else 0
def rb1 (n m : Int) : Int := if inR n 0 65535 = true ∧ inR m 1 4096 = true then nextV n / 16 % m else 0
theorem ret_int2 {a b c d : Int} (h : a = c) (h' : b = d) : Ending.returned (.tuple #[.int .i64 a, .int .i64 b]) = .returned (.tuple #[.int .i64 c, .int .i64 d]) := by rw [h, h']

end Go.Proofs.YtgiacjfnbbbafabDoor
