/- Contracts of toReach and eqReach. -/
import Derived.Test.YtgbncfjabnaokabLawS
namespace Go.Proofs.Ytgbncfjabnaokab
open Go.RowKit

/-- A reach in memory of the call's own. -/
def ReachOut (w : World) (ps : List (Int × Int)) (vol : Int) (zs : List Int) (e : Ending) (w' : World) : Prop :=
  ∃ tA tc pA pc, e = .returned (.agg #[.slice tA ps.length tc, .int .i64 vol, .slice pA zs.length pc]) ∧ Row w' w.heap.size w'.heap.size 52 2 tA ps.length tc (cellsP ps) ∧ Row w' w.heap.size w'.heap.size 3 1 pA zs.length pc (cellsI zs) ∧ Below w.heap.size w w'

set_option maxHeartbeats 1000000 in
theorem l_toReach (tA : Option Addr) (tc : Nat) (ps : List (Int × Int)) (vol : Int) (pA : Option Addr) (pc : Nat) (zs : List Int) (H : Nat) (w : World) (hP : PtsAt w H tA ps) (hQ : NumsAt w H pA zs) (hH : H ≤ w.heap.size) (hn : ps.length ≤ 1048576) (hm : zs.length ≤ 1048576) :
    Calls Try.prog 11 #[.agg #[.slice tA ps.length tc, .int .i64 vol, .slice pA zs.length pc]] w (ReachOut w ps vol zs) := by
  have HP := Lib.hid (fun (W : World) (hb : Below w.heap.size w W) => l_toPointS tA tc ps H W (hP.below (hb.mono hH)) (Nat.le_trans hH hb.size) hn)
  have HQ := Lib.hid (fun (W : World) (hb : Below w.heap.size w W) => l_toIntS pA pc zs H W (hQ.below (hb.mono hH)) (Nat.le_trans hH hb.size) hm)
  clear hP hQ
  go_enter Try.func11, Try.ntmps11
  go_wp2_with fail
  refine (HP.out _ ((((Below.refl _ _).alloc (Nat.le_refl _) _).alloc (by simp) _).alloc (by simp; omega) _)).mono ?_; rintro e w1 ⟨A1, c1, rfl, hR1, hb1⟩
  obtain ⟨hA, hB, hC, hW, hs⟩ := kept3 hb1
  have hsz : (((w.alloc (.cells #[.slice tA ps.length tc, .int .i64 vol, .slice pA zs.length pc] 25)).alloc (.cells #[.slice none 0 0, .int .i64 0, .slice none 0 0] 29)).alloc (.cells #[.slice none 0 0, .int .i64 0, .slice none 0 0] 29)).heap.size = w.heap.size + 3 := by simp
  rw [hsz] at hR1
  clear hb1 hsz
  have cA := hA.cell
  have cC := hC.cell
  have fC := hC.frozen
  have hA2 := (hA.far (p := ⟨w.heap.size + 1 + 1, 0, none⟩) (by show _ ≠ w.heap.size + 1 + 1; omega) (.slice A1 ps.length c1)).far (p := ⟨w.heap.size + 1 + 1, 1, none⟩) (by show _ ≠ w.heap.size + 1 + 1; omega) (.int .i64 vol)
  have hB2 := (hB.far (p := ⟨w.heap.size + 1 + 1, 0, none⟩) (by show _ ≠ w.heap.size + 1 + 1; omega) (.slice A1 ps.length c1)).far (p := ⟨w.heap.size + 1 + 1, 1, none⟩) (by show _ ≠ w.heap.size + 1 + 1; omega) (.int .i64 vol)
  have hC2 := (hC.set_ 0 (.slice A1 ps.length c1)).set_ 1 (.int .i64 vol)
  have hW2 := (hW.setCell (p := ⟨w.heap.size + 1 + 1, 0, none⟩) (by show _ ≤ w.heap.size + 1 + 1; omega) (.slice A1 ps.length c1)).setCell (p := ⟨w.heap.size + 1 + 1, 1, none⟩) (by show _ ≤ w.heap.size + 1 + 1; omega) (.int .i64 vol)
  have hR2 := (hR1.same (w' := (w1.setCell ⟨w.heap.size + 1 + 1, 0, none⟩ (.slice A1 ps.length c1)).setCell ⟨w.heap.size + 1 + 1, 1, none⟩ (.int .i64 vol)) (fun g h1 h2 => (Below.heap_setCell _ _ _ _ (by show _ ≠ w.heap.size + 1 + 1; omega)).trans (Below.heap_setCell _ _ _ _ (by show _ ≠ w.heap.size + 1 + 1; omega))))
  go_wp2_with fail
  refine (HQ.out _ hW2).mono ?_; rintro e w3 ⟨A3, c3, rfl, hR3, hb3⟩
  have hA3 := hA2.below hb3 hA2.lt
  have hB3 := hB2.below hb3 hB2.lt
  have hC3 := hC2.below hb3 hC2.lt
  have hs3 := hb3.size
  have hsz : ((w1.setCell ⟨w.heap.size + 1 + 1, 0, none⟩ (.slice A1 ps.length c1)).setCell ⟨w.heap.size + 1 + 1, 1, none⟩ (.int .i64 vol)).heap.size = w1.heap.size := by simp [World.setCell]
  have hR4 := hR2.below hb3 (by rw [hsz]; exact Nat.le_refl _)
  have hW3 := hW2.trans (hb3.mono hW2.size)
  rw [hsz] at hR3 hs3
  clear hA hB hC hW hA2 hB2 hC2 hW2 hR1 hR2 hb3 hsz cA cC fC
  have cC := hC3.cell
  have fC := hC3.frozen
  have cB := hB3.cell
  have fB := hB3.frozen
  go_wp2_with fail
  have key : ∀ g, g ≠ w.heap.size + 1 → g ≠ w.heap.size + 1 + 1 → ((((w3.setCell ⟨w.heap.size + 1 + 1, 2, none⟩ (.slice A3 zs.length c3)).setCell ⟨w.heap.size + 1, 0, none⟩ (.slice A1 ps.length c1)).setCell ⟨w.heap.size + 1, 1, none⟩ (.int .i64 vol)).setCell ⟨w.heap.size + 1, 2, none⟩ (.slice A3 zs.length c3)).heap[g]? = w3.heap[g]? := fun g h1 h2 =>
    (Below.heap_setCell _ _ _ _ h1).trans ((Below.heap_setCell _ _ _ _ h1).trans ((Below.heap_setCell _ _ _ _ h1).trans (Below.heap_setCell _ _ _ _ h2)))
  have hsz : ((((w3.setCell ⟨w.heap.size + 1 + 1, 2, none⟩ (.slice A3 zs.length c3)).setCell ⟨w.heap.size + 1, 0, none⟩ (.slice A1 ps.length c1)).setCell ⟨w.heap.size + 1, 1, none⟩ (.int .i64 vol)).setCell ⟨w.heap.size + 1, 2, none⟩ (.slice A3 zs.length c3)).heap.size = w3.heap.size := by simp [World.setCell]
  refine bodyPost_ret (v := .agg #[.slice A1 ps.length c1, .int .i64 vol, .slice A3 zs.length c3]) ?_ rfl ⟨A1, c1, A3, c3, rfl, ?_, ?_, ?_⟩
  · have hB4 := (((hB3.far (p := ⟨w.heap.size + 1 + 1, 2, none⟩) (by show _ ≠ w.heap.size + 1 + 1; omega) (.slice A3 zs.length c3)).set_ 0 (.slice A1 ps.length c1)).set_ 1 (.int .i64 vol)).set_ 2 (.slice A3 zs.length c3)
    have c4 := hB4.cell
    simp [results, Try.results11, go_sem, c4]
  · rw [hsz]; exact (hR4.same fun g h1 h2 => key g (by omega) (by omega)).mono (by omega) hs3
  · rw [hsz]; exact (hR3.same fun g h1 h2 => key g (by omega) (by omega)).mono (by omega) (Nat.le_refl _)
  · exact (((hW3.setCell (by show _ ≤ w.heap.size + 1 + 1; omega) _).setCell (by show _ ≤ w.heap.size + 1; omega) _).setCell (by show _ ≤ w.heap.size + 1; omega) _).setCell (by show _ ≤ w.heap.size + 1; omega) _

set_option maxHeartbeats 1000000 in
theorem l_eqReach (tA : Option Addr) (tc : Nat) (tA' : Option Addr) (tc' : Nat) (ps : List (Int × Int)) (vol : Int) (pA : Option Addr) (pc : Nat) (pA' : Option Addr) (pc' : Nat) (zs : List Int) (H : Nat) (w : World) (hP : PtsAt w H tA ps) (hP' : PtsAt w H tA' ps) (hQ : NumsAt w H pA zs) (hQ' : NumsAt w H pA' zs) (hH : H ≤ w.heap.size) (hn : ps.length ≤ 1048576) (hm : zs.length ≤ 1048576) :
    Calls Try.prog 13 #[.agg #[.slice tA ps.length tc, .int .i64 vol, .slice pA zs.length pc], .agg #[.slice tA' ps.length tc', .int .i64 vol, .slice pA' zs.length pc']] w fun e w' => e = .returned (.bool true) ∧ Below w.heap.size w w' := by
  have HP := Lib.hid (fun (W : World) (hb : Below w.heap.size w W) => l_eqPointS tA tA' tc tc' ps H W (hP.below (hb.mono hH)) (hP'.below (hb.mono hH)) (Nat.le_trans hH hb.size) hn)
  have HQ := Lib.hid (fun (W : World) (hb : Below w.heap.size w W) => l_eqIntS pA pA' pc pc' zs H W (hQ.below (hb.mono hH)) (hQ'.below (hb.mono hH)) (Nat.le_trans hH hb.size) hm)
  clear hP hQ hP' hQ'
  go_enter Try.func13, Try.ntmps13
  go_wp2_with fail
  refine (HP.out _ (((Below.refl _ _).alloc (Nat.le_refl _) _).alloc (by simp) _)).mono ?_; rintro e w1 ⟨rfl, hb1⟩
  have cA := (kept2a hb1).1
  have cB := (kept2b hb1).1
  have hW := (((Below.refl w.heap.size w).alloc (Nat.le_refl _) (.cells #[.slice tA ps.length tc, .int .i64 vol, .slice pA zs.length pc] 29)).alloc (by simp) (.cells #[.slice tA' ps.length tc', .int .i64 vol, .slice pA' zs.length pc'] 29)).trans (hb1.mono (by simp; omega))
  clear hb1
  go_wp2_with fail
  refine (HQ.out _ hW).mono ?_; rintro e w2 ⟨rfl, hb2⟩
  go_wp2
  go_ret
  exact ⟨rfl, hW.trans (hb2.mono hW.size)⟩
end Go.Proofs.Ytgbncfjabnaokab
