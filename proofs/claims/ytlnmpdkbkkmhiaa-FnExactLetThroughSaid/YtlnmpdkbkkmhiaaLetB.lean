/- LetThrough, for its law. -/
import Derived.Test.YtlnmpdkbkkmhiaaLet
import Derived.Test.YtlnmpdkbkkmhiaaPassB
namespace Go.Proofs.Ytlnmpdkbkkmhiaa
open Go.RowKit

theorem FnExactLetThrough_both (pf : List (Int × Int)) (vf : Int) (zf : List Int) (pt : List (Int × Int)) (vt : Int) (zt : List Int) (g o s c d : Int) (hnf : pf.length ≤ 1048576) (hmf : zf.length ≤ 1048576) (hnt : pt.length ≤ 1048576) (hmt : zt.length ≤ 1048576) :
    ∃ (vo : Int) (vp : Int) (zp : List Int) (no : Int), zp.length ≤ 1048576 ∧
      (∀ (W : World) (lo hi lo' hi' : Nat) (tA : Option Addr) (tc : Nat) (pA : Option Addr) (pc : Nat) (tB : Option Addr) (td : Nat) (pB : Option Addr) (pd : Nat), RO W lo hi pf zf tA tc pA pc → RO W lo' hi' pt zt tB td pB pd → Calls Try.prog 14 #[.agg #[.slice tA pf.length tc, .int .i64 vf, .slice pA zf.length pc], .agg #[.slice tB pt.length td, .int .i64 vt, .slice pB zt.length pd], .agg #[Value.int .i64 g, .int .i64 o, .int .i64 s, .int .i64 c, .int .i64 d]] W (PassOut W pf vo zf pt vp zp no)) ∧
      (∀ (W : World) (lo hi lo' hi' : Nat) (tA : Option Addr) (tc : Nat) (pA : Option Addr) (pc : Nat) (tB : Option Addr) (td : Nat) (pB : Option Addr) (pd : Nat), RO W lo hi pf zf tA tc pA pc → RO W lo' hi' pt zt tB td pB pd → Calls Try.prog 8 #[.agg #[.slice tA pf.length tc, .int .i64 vf, .slice pA zf.length pc], .agg #[.slice tB pt.length td, .int .i64 vt, .slice pB zt.length pd], .agg #[Value.int .i64 g, .int .i64 o, .int .i64 s, .int .i64 c, .int .i64 d]] W (PassOut W pf vo zf pt vp zp no)) :=
  ⟨vf - letN pf vf zf pt vt zt g o s c d, letVol pf vf zf pt vt zt g o s c d, letZ pf vf zf pt vt zt g o s c d, letN pf vf zf pt vt zt g o s c d, by rw [letZ_len]; exact hmt,
    fun W _ _ _ _ tA tc pA pc tB td pB pd h h' => s_LetThrough tA tc pf vf pA pc zf tB td pt vt pB pd zt g o s c d W.heap.size W h.pts h.nums h'.pts h'.nums (Nat.le_refl _) hnf hmf hnt hmt,
    fun W _ _ _ _ tA tc pA pc tB td pB pd h h' => i_LetThrough tA tc pf vf pA pc zf tB td pt vt pB pd zt g o s c d W.heap.size W h.pts h.nums h'.pts h'.nums (Nat.le_refl _) hnf hmf hnt hmt⟩
end Go.Proofs.Ytlnmpdkbkkmhiaa
