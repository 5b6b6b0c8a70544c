/- Walk of the law FnExactParseUint. -/
import Derived.Test.YtcnnnhlbnpollaaParse
namespace Go.Proofs.Ytcnnnhlbnpollaa
open Go.RowKit
set_option maxHeartbeats 1000000 in
theorem walk_FnExactParseUint (s : ByteArray) (hs : s.size ≤ maxLen) (w : World) :
    Calls Try.prog 5 #[.string s] w fun e w' => e = .returned (.bool true) ∧ Below w.heap.size w w' := by
  unfold maxLen at hs
  by_cases hb : (1048576 : Int) < (s.size : Int)
  · go_enter Try.func5, Try.ntmps5
    go_wp2
    go_ret
    exact ⟨rfl, Below.refl _ _⟩
  · have hb' : (s.size : Int) ≤ 1048576 := by omega
    have HS := Lib.hid (s_ParseUint s w hs)
    have HI := Lib.hid (fun W => i_ParseUint s W hs)
    generalize parseN s.data.toList = n at *
    generalize parseB s.data.toList = b at *
    go_enter Try.func5, Try.ntmps5
    go_wp2_with fail
    refine (HS.out).mono ?_; rintro e w1 ⟨rfl, hb1⟩
    go_wp2_with fail
    refine (HI.out _).mono ?_; rintro e w2 ⟨rfl, rfl⟩
    go_wp2
    go_ret
    exact ⟨rfl, hb1⟩
end Go.Proofs.Ytcnnnhlbnpollaa
