/- Walk of the law FnExactDecodeHex. -/
import Derived.Test.YtcnnnhlbnpollaaDec
namespace Go.Proofs.Ytcnnnhlbnpollaa
open Go.RowKit
set_option maxHeartbeats 1000000 in
theorem walk_FnExactDecodeHex (s : ByteArray) (hs : s.size ≤ maxLen) (w : World) :
    Calls Try.prog 4 #[.string s] w fun e w' => e = .returned (.bool true) ∧ Below w.heap.size w w' := by
  unfold maxLen at hs
  by_cases hb : (1048576 : Int) < (s.size : Int)
  · go_enter Try.func4, Try.ntmps4
    go_wp2
    go_ret
    exact ⟨rfl, Below.refl _ _⟩
  · have hb' : (s.size : Int) ≤ 1048576 := by omega
    have HS := Lib.hid (s_DecodeHex s w hs)
    have HI := Lib.hid (fun W => i_DecodeHex s W hs)
    generalize decS s.data.toList = n at *
    generalize decB s.data.toList = b at *
    go_enter Try.func4, Try.ntmps4
    go_wp2_with fail
    refine (HS.out).mono ?_; rintro e w1 ⟨rfl, hb1⟩
    go_wp2_with fail
    refine (HI.out _).mono ?_; rintro e w2 ⟨rfl, hb2⟩
    have hn : (n.toList == n.toList) = true := by simp
    go_wp2
    go_ret
    exact ⟨rfl, hb1.trans (hb2.mono hb1.size)⟩
end Go.Proofs.Ytcnnnhlbnpollaa
