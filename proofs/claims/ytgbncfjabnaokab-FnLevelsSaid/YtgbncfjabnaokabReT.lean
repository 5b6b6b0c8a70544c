/- Contracts of TotalOf and SpaceIn (program and reference). -/
import Derived.Test.YtgbncfjabnaokabReC
namespace Go.Proofs.Ytgbncfjabnaokab
open Go.RowKit

theorem total_yes {ps : List (Int × Int)} {vol : Int} {zs : List Int} (h : reachOk ps vol zs = true) : totalV ps vol zs = vol + sumI zs := by unfold totalV; rw [if_pos h]
theorem total_no {ps : List (Int × Int)} {vol : Int} {zs : List Int} (h : reachOk ps vol zs = false) : totalV ps vol zs = 0 := by unfold totalV; rw [h]; rfl
theorem space_yes {ps : List (Int × Int)} {vol : Int} {zs : List Int} (h : reachOk ps vol zs = true) : spaceV ps vol zs = 1000000000 - (vol + sumI zs) := by unfold spaceV; rw [if_pos h]
theorem space_no {ps : List (Int × Int)} {vol : Int} {zs : List Int} (h : reachOk ps vol zs = false) : spaceV ps vol zs = 0 := by unfold spaceV; rw [h]; rfl
theorem pipeIn_of {ps : List (Int × Int)} {vol : Int} {zs : List Int} (h : reachOk ps vol zs = true) : PipeIn zs zs.length := fun j hj => by
  obtain ⟨_, h2, _, h4, h5⟩ := reach_true h
  have a := allPos_iff.1 h4 j hj
  refine ⟨a, ?_⟩
  rcases bcases (inR (zs.getD j 0) 0 1000000000) with g | g
  · exact (inR_true g).2
  · have := pipe_big (ps := ps) (vol := vol) hj g; rw [h] at this; cases this

/-- A reach's box, and what it reads, after a call that changes nothing below. -/
theorem box_step {w w1 : World} {t : TypeId} {cs : Array Value} {H : Nat} (hH : H ≤ w.heap.size) (hb : Below (w.alloc (.cells cs t)).heap.size (w.alloc (.cells cs t)) w1) :
    Blk w1 w.heap.size t cs ∧ Below w.heap.size w w1 ∧ H ≤ w1.heap.size := by
  have hW := ((Below.refl w.heap.size w).alloc (Nat.le_refl _) (.cells cs t)).trans (hb.mono (by simp))
  exact ⟨(Blk.new w t cs).below hb (by simp), hW, Nat.le_trans hH hW.size⟩

set_option maxHeartbeats 1000000 in
theorem i_TotalOf (tA : Option Addr) (tc : Nat) (ps : List (Int × Int)) (vol : Int) (pA : Option Addr) (pc : Nat) (zs : List Int) (H : Nat) (w : World) (hP : PtsAt w H tA ps) (hQ : NumsAt w H pA zs) (hH : H ≤ w.heap.size) (hn : ps.length ≤ 1048576) (hm : zs.length ≤ 1048576) :
    Calls Try.prog 24 #[.agg #[.slice tA ps.length tc, .int .i64 vol, .slice pA zs.length pc]] w fun e w' => e = .returned (.int .i64 (totalV ps vol zs)) ∧ Below w.heap.size w w' := by
  have HR := Lib.hid (fun (W : World) (h : PtsAt W H tA ps) (h2 : NumsAt W H pA zs) (h' : H ≤ W.heap.size) => i_ReachOk tA tc ps vol pA pc zs H W h h2 h' hn hm)
  have HP := Lib.hid hP
  have HQ := Lib.hid hQ
  have HA1 : H ≤ (w.alloc (.cells #[.slice tA ps.length tc, .int .i64 vol, .slice pA zs.length pc] 29)).heap.size := by simp; omega
  have HP1 := Lib.hid (hP.below ((Below.refl H w).alloc hH (.cells #[.slice tA ps.length tc, .int .i64 vol, .slice pA zs.length pc] 29)))
  have HQ1 := Lib.hid (hQ.below ((Below.refl H w).alloc hH (.cells #[.slice tA ps.length tc, .int .i64 vol, .slice pA zs.length pc] 29)))
  clear hP hQ
  rcases bcases (reachOk ps vol zs) with h1 | h1
  · obtain ⟨_, v1, h3, _, v2⟩ := reach_true h1
    have HV := Lib.hid (total_yes h1)
    have hpi := pipeIn_of h1
    have HB := Lib.hid (sum_take_bd hpi)
    clear hpi
    go_enter Try.func24, Try.ntmps24
    go_wp2_with fail
    refine (HR.out _ HP1.out HQ1.out HA1).mono ?_; rintro e w1 ⟨rfl, hb1⟩
    obtain ⟨hB, hW, hH1⟩ := box_step hH hb1
    have cA := hB.cell
    clear hb1
    go_wp2_with fail
    have HQ2 := Lib.hid (HQ.out.below (hW.mono hH))
    have HF := Lib.hid (show ∀ L, SumTo vol zs zs.length L → L = totalV ps vol zs from fun L hL => by rw [HV.out]; have : L = vol + sumI (zs.take zs.length) := hL; rw [this, List.take_length])
    go_loop [3, 14] (fun v3 v14 => ∃ (k : Nat) (L : Int), k ≤ zs.length ∧ 0 ≤ L ∧ L ≤ 20000000000 ∧ v3 = .int .i64 L ∧ v14 = .int .i64 k ∧ SumTo vol zs k L) (fun _ v14 => zs.length - (intOf v14).toNat)
    case atStart => exact ⟨0, vol, by omega, by omega, by omega, rfl, rfl, by simp [SumTo, sumI]⟩
    case round =>
      obtain ⟨k, L, hk, l0, l1, rfl, rfl, hL⟩ := hrel
      by_cases hlt : k < zs.length
      · obtain ⟨b, off, rfl, hb, hc⟩ := HQ2.out (by omega)
        have ck := hc k hlt
        have e3 : (k : Int) < (zs.length : Int) := by omega
        have HS := Lib.hid (sumTo_step hL hlt)
        have hbd := HB.out (k + 1) (by omega)
        have hzk : L + zs.getD k 0 = vol + sumI (zs.take (k + 1)) := HS.out
        have hbk := HB.out k (by omega)
        have hLk : L = vol + sumI (zs.take k) := hL
        have b1 : 0 ≤ L + zs.getD k 0 := by omega
        have b2 : L + zs.getD k 0 ≤ 20000000000 := by omega
        have b3 : -20000000000 ≤ zs.getD k 0 := by omega
        have b4 : zs.getD k 0 ≤ 20000000000 := by omega
        clear hc hL hbd hbk hzk hLk
        generalize zs.getD k 0 = z at *
        go_wp2
        go_round
        case rel => exact ⟨k + 1, L + z, by omega, by omega, by omega, rfl, by go_num, HS.out⟩
        case measure => simp [intOf]; omega
      · have HX := Lib.hid (HF.out L (by rw [show zs.length = k by omega]; exact hL))
        clear hL
        go_wp2
        go_ret
        exact ⟨ret_int HX.out, hW⟩
  · have HV := Lib.hid (total_no h1)
    go_enter Try.func24, Try.ntmps24
    go_wp2_with (go_at_call 26; refine (HR.out _ HP1.out HQ1.out HA1).mono ?_; rintro e w1 ⟨rfl, hb1⟩)
    go_ret
    exact ⟨ret_int HV.out.symm, (box_step hH hb1).2.1⟩

end Go.Proofs.Ytgbncfjabnaokab
