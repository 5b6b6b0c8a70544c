/- FlowIn, for its law: the program's and the reference's contract with one result. -/
import Derived.Test.YtgbncfjabnaokabFlow
namespace Go.Proofs.Ytgbncfjabnaokab
open Go.RowKit
theorem RO.cap {W : World} {lo hi : Nat} {ps : List (Int × Int)} {zs : List Int} {tA : Option Addr} {tc : Nat} {pA : Option Addr} {pc : Nat} (h : RO W lo hi ps zs tA tc pA pc) : zs.length ≤ pc ∧ pc ≤ 9223372036854775807 := by
  rcases h.2.1.1.2 with ⟨hv, h0⟩ | ⟨g, cap, cur, hv, _, _, h1, h2, _⟩
  · injection hv with _ _ hc; omega
  · injection hv with _ _ hc; subst hc; unfold maxLen at h2; omega
theorem FnExactFlowIn_both (ps : List (Int × Int)) (vol : Int) (zs : List Int) (hn : ps.length ≤ 1048576) (hm : zs.length ≤ 1048576) :
    ∃ (vo : Int) (zo : List Int) (_no : Int), zo.length ≤ 1048576 ∧
      (∀ (W : World) (lo hi : Nat) (tA : Option Addr) (tc : Nat) (pA : Option Addr) (pc : Nat), RO W lo hi ps zs tA tc pA pc → Calls Try.prog 10 #[.agg #[.slice tA ps.length tc, .int .i64 vol, .slice pA zs.length pc]] W (ReachOut W ps vo zo)) ∧
      (∀ (W : World) (lo hi : Nat) (tA : Option Addr) (tc : Nat) (pA : Option Addr) (pc : Nat), RO W lo hi ps zs tA tc pA pc → Calls Try.prog 12 #[.agg #[.slice tA ps.length tc, .int .i64 vol, .slice pA zs.length pc]] W (ReachOut W ps vo zo)) :=
  ⟨flowVol ps vol zs, flowZ ps vol zs, 0, by rw [flowZ_len]; exact hm,
    fun W _ _ tA tc pA pc h => s_FlowIn tA tc ps vol pA pc zs W.heap.size W h.pts h.nums (Nat.le_refl _) hn hm h.cap.1 h.cap.2,
    fun W _ _ tA tc pA pc h => i_FlowIn tA tc ps vol pA pc zs W.heap.size W h.pts h.nums (Nat.le_refl _) hn hm⟩
end Go.Proofs.Ytgbncfjabnaokab
