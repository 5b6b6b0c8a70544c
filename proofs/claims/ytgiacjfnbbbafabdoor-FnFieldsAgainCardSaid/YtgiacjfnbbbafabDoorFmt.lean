/- FormatInt of the program: strconv.Itoa by the shelf's contract; the table that it reads. -/
import Derived.Test.YtgiacjfnbbbafabDoorTxt
import Derived.Test.YtgiacjfnbbbafabDoorShelf
import Derived.Lib.AppendIntMem
import Derived.Lib.LaidTab
import Derived.OpenShut
namespace Go.Proofs.YtgiacjfnbbbafabDoor
open Go.RowKit

/-- The library's table of powers of ten reads as its initialiser lays it. -/
def Tab10 (w : World) : Prop := Lib.TabIs Tryd.prog w "internal/strconv.uint64pow10" .u64 Lib.pow10Tab
theorem Tab10.below {w w' : World} (h : Tab10 w) (hb : Below w.heap.size w w') : Tab10 w' := Lib.tabBelow_of_tabIs h w' hb
theorem i_FormatInt (n : Int) (w : World) (h0 : -9223372036854775808 ≤ n) (h1 : n ≤ 9223372036854775807) (hT : Tab10 w) :
    Calls Tryd.prog 8 #[.int .i64 n] w fun e w' => e = .returned (.string ⟨(Lib.itoa n).toArray⟩) ∧ Below w.heap.size w w' := by
  have HC : Hid (Calls Tryd.prog 19 #[.int .i64 n] w fun e w' => e = .returned (.string ⟨(Lib.itoa n).toArray⟩) ∧ Below w.heap.size w w') :=
    Lib.hid ((Tryd.strconv_Itoa n h0 h1 w hT).mono fun e w' ⟨h, k, os, hw⟩ => ⟨h, by rw [hw]; exact Lib.below_grow _ w (Nat.le_refl _) k os⟩)
  clear hT
  go_enter Tryd.func8, Tryd.ntmps8
  go_wp2_with fail
  refine HC.out.mono ?_; rintro e w1 ⟨rfl, hb⟩
  go_wp2
  go_ret
  exact ⟨rfl, hb⟩

end Go.Proofs.YtgiacjfnbbbafabDoor
