/- TakeOff, for its law: the program's and the reference's contract with one result. -/
import Derived.Test.YtgbncfjabnaokaaOwn
import Derived.OpenShut
namespace Go.Proofs.Ytgbncfjabnaokaa
open Go.RowKit
theorem rng_i64 {a : Int} (h : (Lit.int .i64 a).wf = true) : a ≤ 9223372036854775807 := (bounds_i64 h).2
theorem FnExactTakeOff_both (ps : List (Int × Int)) (vol : Int) (zs : List Int) (a0 a1 : Int) (h0 : (Lit.int .i64 a0).wf = true) (h1 : (Lit.int .i64 a1).wf = true) (hn : ps.length ≤ 1048576) (hm : zs.length ≤ 1048576) :
    ∃ (vo : Int) (zo : List Int) (no : Int), zo.length ≤ 1048576 ∧
      (∀ (W : World) (lo hi : Nat) (tA : Option Addr) (tc : Nat) (pA : Option Addr) (pc : Nat), RO W lo hi ps zs tA tc pA pc → Calls Try.prog 31 #[.agg #[.slice tA ps.length tc, .int .i64 vol, .slice pA zs.length pc], .int .i64 a0, .int .i64 a1] W (TakeOut W ps vo zo no)) ∧
      (∀ (W : World) (lo hi : Nat) (tA : Option Addr) (tc : Nat) (pA : Option Addr) (pc : Nat), RO W lo hi ps zs tA tc pA pc → Calls Try.prog 32 #[.agg #[.slice tA ps.length tc, .int .i64 vol, .slice pA zs.length pc], .int .i64 a0, .int .i64 a1] W (TakeOut W ps vo zo no)) :=
  ⟨vol - takeV ps vol zs a0 a1, zs, takeV ps vol zs a0 a1, hm,
    fun W _ _ tA tc pA pc h => s_TakeOff tA tc ps vol pA pc zs a0 a1 W.heap.size W h.pts h.nums (Nat.le_refl _) hn hm (rng_i64 h0) (rng_i64 h1),
    fun W _ _ tA tc pA pc h => i_TakeOff tA tc ps vol pA pc zs a0 a1 W.heap.size W h.pts h.nums (Nat.le_refl _) hn hm (rng_i64 h0) (rng_i64 h1)⟩
end Go.Proofs.Ytgbncfjabnaokaa
