/- Words for the laws that look at sharing: boxes and reaches that are kept over calls. -/
import Derived.Test.YtgbncfjabnaokabBoxes
import Derived.Test.YtgbncfjabnaokabTake
namespace Go.Proofs.Ytgbncfjabnaokab
open Go.RowKit

theorem Blk.bel {w w' : World} {g : Nat} {t : TypeId} {cs : Array Value} (h : Blk w g t cs) (hb : Below w.heap.size w w') : Blk w' g t cs := h.below hb h.lt
theorem bel_step {w W w' : World} (h : Below w.heap.size w W) (hb : Below W.heap.size W w') : Below w.heap.size w w' := h.trans (hb.mono h.size)
theorem bel_upto {w W w' : World} {lo hi : Nat} (h : Below w.heap.size w W) (hu : Upto lo hi W w') (hlo : w.heap.size ≤ lo) : Below w.heap.size w w' := h.trans (hu.below hlo h.size)
/-- A reach of the call's own, in blocks from lo on and below hi. -/
def RO (W : World) (lo hi : Nat) (ps : List (Int × Int)) (zs : List Int) (tA : Option Addr) (tc : Nat) (pA : Option Addr) (pc : Nat) : Prop :=
  Row W lo hi 52 2 tA ps.length tc (cellsP ps) ∧ Row W lo hi 3 1 pA zs.length pc (cellsI zs) ∧ hi ≤ W.heap.size
/-- The same, marked. -/
def RM (W : World) (lo hi : Nat) (k : Int) (n m : Nat) (tA : Option Addr) (tc : Nat) (pA : Option Addr) (pc : Nat) : Prop :=
  Row W lo hi 52 2 tA n tc (cellsP (markP k n)) ∧ Row W lo hi 3 1 pA m pc (cellsI (markI (k + 2 * (n : Int)) m)) ∧ hi ≤ W.heap.size
section
variable {W w' : World} {lo hi lo' hi' : Nat} {ps : List (Int × Int)} {zs : List Int} {tA : Option Addr} {tc : Nat} {pA : Option Addr} {pc : Nat} {k : Int} {n m : Nat}
theorem RO.mk_ (h : Row w' W.heap.size w'.heap.size 52 2 tA ps.length tc (cellsP ps)) (h' : Row w' W.heap.size w'.heap.size 3 1 pA zs.length pc (cellsI zs)) (hlo : lo ≤ W.heap.size) : RO w' lo w'.heap.size ps zs tA tc pA pc :=
  ⟨h.mono hlo (Nat.le_refl _), h'.mono hlo (Nat.le_refl _), Nat.le_refl _⟩
theorem RO.of_out (h : OutR W w' ps zs tA tc pA pc) (hlo : lo ≤ W.heap.size) : RO w' lo w'.heap.size ps zs tA tc pA pc := RO.mk_ h.1 h.2.1 hlo
theorem RO.bel (h : RO W lo hi ps zs tA tc pA pc) (hb : Below W.heap.size W w') : RO w' lo hi ps zs tA tc pA pc := ⟨h.1.below hb h.2.2, h.2.1.below hb h.2.2, Nat.le_trans h.2.2 hb.size⟩
theorem RO.upto (h : RO W lo hi ps zs tA tc pA pc) (hu : Upto lo' hi' W w') (hd : hi ≤ lo' ∨ hi' ≤ lo) : RO w' lo hi ps zs tA tc pA pc := ⟨h.1.upto hu hd h.2.2, h.2.1.upto hu hd h.2.2, Nat.le_trans h.2.2 hu.size⟩
theorem RO.pts (h : RO W lo hi ps zs tA tc pA pc) : PtsAt W W.heap.size tA ps := h.1.pts.mono h.2.2
theorem RO.nums (h : RO W lo hi ps zs tA tc pA pc) : NumsAt W W.heap.size pA zs := h.2.1.nums.mono h.2.2
theorem RM.of_marked (h : Marked tA n tc pA m pc k lo hi W w') (hs : hi ≤ W.heap.size) : RM w' lo hi k n m tA tc pA pc := ⟨h.1, h.2.1, Nat.le_trans hs h.2.2.size⟩
theorem RM.bel (h : RM W lo hi k n m tA tc pA pc) (hb : Below W.heap.size W w') : RM w' lo hi k n m tA tc pA pc := ⟨h.1.below hb h.2.2, h.2.1.below hb h.2.2, Nat.le_trans h.2.2 hb.size⟩
theorem RM.upto (h : RM W lo hi k n m tA tc pA pc) (hu : Upto lo' hi' W w') (hd : hi ≤ lo' ∨ hi' ≤ lo) : RM w' lo hi k n m tA tc pA pc := ⟨h.1.upto hu hd h.2.2, h.2.1.upto hu hd h.2.2, Nat.le_trans h.2.2 hu.size⟩
theorem RM.pts (h : RM W lo hi k n m tA tc pA pc) : PtsAt W W.heap.size tA (markP k n) := by
  have h1 := h.1
  rw [show n = (markP k n).length from (markP_len k n).symm, markP_len] at h1
  exact (Row.pts (by rw [markP_len]; exact h.1)).mono h.2.2
theorem RM.nums (h : RM W lo hi k n m tA tc pA pc) : NumsAt W W.heap.size pA (markI (k + 2 * (n : Int)) m) :=
  (Row.nums (by rw [markI_len]; exact h.2.1)).mono h.2.2
end
theorem l_toReachO (tA : Option Addr) (tc : Nat) (ps : List (Int × Int)) (vol : Int) (pA : Option Addr) (pc : Nat) (zs : List Int) (w : World) (hP : PtsAt w w.heap.size tA ps) (hQ : NumsAt w w.heap.size pA zs) (hn : ps.length ≤ 1048576) (hm : zs.length ≤ 1048576) (W : World) (hb : Below w.heap.size w W) :
    Calls Try.prog 11 #[.agg #[.slice tA ps.length tc, .int .i64 vol, .slice pA zs.length pc]] W (ReachOut W ps vol zs) := l_toReach tA tc ps vol pA pc zs w.heap.size W (hP.below hb) (hQ.below hb) hb.size hn hm
theorem l_eqReachO {W : World} {ps : List (Int × Int)} {zs : List Int} (vol : Int) {lo hi : Nat} {tA : Option Addr} {tc : Nat} {pA : Option Addr} {pc : Nat} {lo' hi' : Nat} {tA' : Option Addr} {tc' : Nat} {pA' : Option Addr} {pc' : Nat} (h : RO W lo hi ps zs tA tc pA pc) (h' : RO W lo' hi' ps zs tA' tc' pA' pc') (hn : ps.length ≤ 1048576) (hm : zs.length ≤ 1048576) :
    Calls Try.prog 13 #[.agg #[.slice tA ps.length tc, .int .i64 vol, .slice pA zs.length pc], .agg #[.slice tA' ps.length tc', .int .i64 vol, .slice pA' zs.length pc']] W fun e w' => e = .returned (.bool true) ∧ Below W.heap.size W w' :=
  l_eqReach tA tc tA' tc' ps vol pA pc pA' pc' zs W.heap.size W h.pts h'.pts h.nums h'.nums (Nat.le_refl _) hn hm
end Go.Proofs.Ytgbncfjabnaokab
