/- SendTo, for its law: the program's and the reference's contract with one result. -/
import Derived.Test.YtgbncfjabnaokabSend
namespace Go.Proofs.Ytgbncfjabnaokab
open Go.RowKit
theorem FnExactSendTo_both (ps : List (Int × Int)) (vol : Int) (zs : List Int) (a0 : Int) (_h0 : (Lit.int .i64 a0).wf = true) (hn : ps.length ≤ 1048576) (hm : zs.length ≤ 1048576) :
    ∃ (vo : Int) (zo : List Int) (_no : Int), zo.length ≤ 1048576 ∧
      (∀ (W : World) (lo hi : Nat) (tA : Option Addr) (tc : Nat) (pA : Option Addr) (pc : Nat), RO W lo hi ps zs tA tc pA pc → Calls Try.prog 16 #[.agg #[.slice tA ps.length tc, .int .i64 vol, .slice pA zs.length pc], .int .i64 a0] W (ReachOut W ps vo zo)) ∧
      (∀ (W : World) (lo hi : Nat) (tA : Option Addr) (tc : Nat) (pA : Option Addr) (pc : Nat), RO W lo hi ps zs tA tc pA pc → Calls Try.prog 17 #[.agg #[.slice tA ps.length tc, .int .i64 vol, .slice pA zs.length pc], .int .i64 a0] W (ReachOut W ps vo zo)) :=
  ⟨sendVol ps vol zs a0, sendZ ps vol zs a0, 0, by rw [sendZ_len]; exact hm,
    fun W _ _ tA tc pA pc h => s_SendTo tA tc ps vol pA pc zs a0 W.heap.size W h.pts h.nums (Nat.le_refl _) hn hm,
    fun W _ _ tA tc pA pc h => i_SendTo tA tc ps vol pA pc zs a0 W.heap.size W h.pts h.nums (Nat.le_refl _) hn hm⟩
end Go.Proofs.Ytgbncfjabnaokab
