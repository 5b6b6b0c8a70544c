/- FlowIn, for its law: the program's and the reference's contract with one result. -/
import Derived.Test.YtlnmpdkbkkmhiaaFlow
namespace Go.Proofs.Ytlnmpdkbkkmhiaa
open Go.RowKit
theorem RO.cap {W : World} {lo hi : Nat} {ps : List (Int × Int)} {zs : List Int} {tA : Option Addr} {tc : Nat} {pA : Option Addr} {pc : Nat} (h : RO W lo hi ps zs tA tc pA pc) : zs.length ≤ pc ∧ pc ≤ 9223372036854775807 := by
  rcases h.2.1.1.2 with ⟨hv, h0⟩ | ⟨g, cap, cur, hv, _, _, h1, h2, _⟩
  · injection hv with _ _ hc; omega
  · injection hv with _ _ hc; subst hc; unfold maxLen at h2; omega
end Go.Proofs.Ytlnmpdkbkkmhiaa
