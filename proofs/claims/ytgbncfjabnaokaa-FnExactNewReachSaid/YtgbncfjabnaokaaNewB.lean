/- NewReach, for its law: the program's and the reference's contract with one result. -/
import Derived.Test.YtgbncfjabnaokaaNew
namespace Go.Proofs.Ytgbncfjabnaokaa
open Go.RowKit
/-- Points of the call's own. -/
def RP (W : World) (lo hi : Nat) (ps : List (Int × Int)) (A : Option Addr) (c : Nat) : Prop := Row W lo hi 61 2 A ps.length c (cellsP ps) ∧ hi ≤ W.heap.size
section
variable {W w' : World} {lo hi lo' hi' : Nat} {ps : List (Int × Int)} {A : Option Addr} {c : Nat}
theorem RP.mk_ (h : Row w' W.heap.size w'.heap.size 61 2 A ps.length c (cellsP ps)) (hlo : lo ≤ W.heap.size) : RP w' lo w'.heap.size ps A c := ⟨h.mono hlo (Nat.le_refl _), Nat.le_refl _⟩
theorem RP.bel (h : RP W lo hi ps A c) (hb : Below W.heap.size W w') : RP w' lo hi ps A c := ⟨h.1.below hb h.2, Nat.le_trans h.2 hb.size⟩
theorem RP.pts (h : RP W lo hi ps A c) : PtsAt W W.heap.size A ps := h.1.pts.mono h.2
end
theorem new_len (ps : List (Int × Int)) (level delay : Int) (hn : ps.length ≤ 1048576) : (newP ps level delay).length ≤ 1048576 ∧ (newZ ps level delay).length ≤ 1048576 := by
  unfold newP newZ; split
  · rename_i h
    simp only [newB, Bool.and_eq_true] at h
    have := inR_true h.1
    exact ⟨hn, by rw [List.length_replicate]; omega⟩
  · simp
theorem FnExactNewReach_both (ps : List (Int × Int)) (a0 a1 : Int) (hn : ps.length ≤ 1048576) :
    ∃ (po : List (Int × Int)) (vo : Int) (zo : List Int) (bo : Bool), po.length ≤ 1048576 ∧ zo.length ≤ 1048576 ∧
      (∀ (W : World) (lo hi : Nat) (A : Option Addr) (c : Nat), RP W lo hi ps A c → Calls Try.prog 24 #[.slice A ps.length c, .int .i64 a0, .int .i64 a1] W (NewOut W po vo zo bo)) ∧
      (∀ (W : World) (lo hi : Nat) (A : Option Addr) (c : Nat), RP W lo hi ps A c → Calls Try.prog 26 #[.slice A ps.length c, .int .i64 a0, .int .i64 a1] W (NewOut W po vo zo bo)) :=
  ⟨newP ps a0 a1, newVol ps a0 a1, newZ ps a0 a1, newB ps a0 a1, (new_len ps a0 a1 hn).1, (new_len ps a0 a1 hn).2,
    fun W _ _ A c h => s_NewReach A c ps a0 a1 W.heap.size W h.pts (Nat.le_refl _) hn,
    fun W _ _ A c h => i_NewReach A c ps a0 a1 W.heap.size W h.pts (Nat.le_refl _) hn⟩
end Go.Proofs.Ytgbncfjabnaokaa
