/- Contracts of SpaceIn and LevelOf (program and reference). -/
import Derived.Test.YtgbncfjabnaokabReT
namespace Go.Proofs.Ytgbncfjabnaokab
open Go.RowKit

theorem total_bd {ps : List (Int × Int)} {vol : Int} {zs : List Int} : 0 ≤ totalV ps vol zs ∧ totalV ps vol zs ≤ 1000000000 := by
  rcases bcases (reachOk ps vol zs) with h | h
  · obtain ⟨_, v1, _, h4, v2⟩ := reach_true h
    rw [total_yes h]
    have := sum_nonneg h4
    omega
  · rw [total_no h]; omega
theorem space_bd {ps : List (Int × Int)} {vol : Int} {zs : List Int} : 0 ≤ spaceV ps vol zs ∧ spaceV ps vol zs ≤ 1000000000 := by
  rcases bcases (reachOk ps vol zs) with h | h
  · have := total_bd (ps := ps) (vol := vol) (zs := zs)
    rw [total_yes h] at this
    rw [space_yes h]
    omega
  · rw [space_no h]; omega

set_option maxHeartbeats 1000000 in
theorem i_SpaceIn (tA : Option Addr) (tc : Nat) (ps : List (Int × Int)) (vol : Int) (pA : Option Addr) (pc : Nat) (zs : List Int) (H : Nat) (w : World) (hP : PtsAt w H tA ps) (hQ : NumsAt w H pA zs) (hH : H ≤ w.heap.size) (hn : ps.length ≤ 1048576) (hm : zs.length ≤ 1048576) :
    Calls Try.prog 25 #[.agg #[.slice tA ps.length tc, .int .i64 vol, .slice pA zs.length pc]] w fun e w' => e = .returned (.int .i64 (spaceV ps vol zs)) ∧ Below w.heap.size w w' := by
  have HR := Lib.hid (fun (W : World) (h : PtsAt W H tA ps) (h2 : NumsAt W H pA zs) (h' : H ≤ W.heap.size) => i_ReachOk tA tc ps vol pA pc zs H W h h2 h' hn hm)
  have HS := Lib.hid (fun (W : World) (h : PtsAt W H tA ps) (h2 : NumsAt W H pA zs) (h' : H ≤ W.heap.size) => i_TotalOf tA tc ps vol pA pc zs H W h h2 h' hn hm)
  have HP := Lib.hid hP
  have HQ := Lib.hid hQ
  have HA1 : H ≤ (w.alloc (.cells #[.slice tA ps.length tc, .int .i64 vol, .slice pA zs.length pc] 29)).heap.size := by simp; omega
  have HP1 := Lib.hid (hP.below ((Below.refl H w).alloc hH (.cells #[.slice tA ps.length tc, .int .i64 vol, .slice pA zs.length pc] 29)))
  have HQ1 := Lib.hid (hQ.below ((Below.refl H w).alloc hH (.cells #[.slice tA ps.length tc, .int .i64 vol, .slice pA zs.length pc] 29)))
  clear hP hQ
  rcases bcases (reachOk ps vol zs) with h1 | h1
  · have HV := Lib.hid (show 1000000000 - totalV ps vol zs = spaceV ps vol zs by rw [total_yes h1, space_yes h1])
    have hbd := total_bd (ps := ps) (vol := vol) (zs := zs)
    go_enter Try.func25, Try.ntmps25
    go_wp2_with fail
    refine (HR.out _ HP1.out HQ1.out HA1).mono ?_; rintro e w1 ⟨rfl, hb1⟩
    obtain ⟨hB, hW, hH1⟩ := box_step hH hb1
    have cA := hB.cell
    clear hb1
    go_wp2_with fail
    refine (HS.out _ (HP.out.below (hW.mono hH)) (HQ.out.below (hW.mono hH)) hH1).mono ?_; rintro e w2 ⟨rfl, hb2⟩
    go_wp2
    go_ret
    exact ⟨ret_int HV.out, hW.trans (hb2.mono hW.size)⟩
  · have HV := Lib.hid (space_no h1)
    go_enter Try.func25, Try.ntmps25
    go_wp2_with (go_at_call 26; refine (HR.out _ HP1.out HQ1.out HA1).mono ?_; rintro e w1 ⟨rfl, hb1⟩)
    go_ret
    exact ⟨ret_int HV.out.symm, (box_step hH hb1).2.1⟩

set_option maxHeartbeats 1000000 in
theorem s_SpaceIn (tA : Option Addr) (tc : Nat) (ps : List (Int × Int)) (vol : Int) (pA : Option Addr) (pc : Nat) (zs : List Int) (H : Nat) (w : World) (hP : PtsAt w H tA ps) (hQ : NumsAt w H pA zs) (hH : H ≤ w.heap.size) (hn : ps.length ≤ 1048576) (hm : zs.length ≤ 1048576) :
    Calls Try.prog 47 #[.agg #[.slice tA ps.length tc, .int .i64 vol, .slice pA zs.length pc]] w fun e w' => e = .returned (.int .i64 (spaceV ps vol zs)) ∧ Below w.heap.size w w' := by
  have HR := Lib.hid (fun (W : World) (h : PtsAt W H tA ps) (h2 : NumsAt W H pA zs) (h' : H ≤ W.heap.size) => s_ReachOk tA tc ps vol pA pc zs H W h h2 h' hn hm)
  have HP := Lib.hid hP
  have HQ := Lib.hid hQ
  have HA1 : H ≤ (w.alloc (.cells #[.slice tA ps.length tc, .int .i64 vol, .slice pA zs.length pc] 29)).heap.size := by simp; omega
  have HP1 := Lib.hid (hP.below ((Below.refl H w).alloc hH (.cells #[.slice tA ps.length tc, .int .i64 vol, .slice pA zs.length pc] 29)))
  have HQ1 := Lib.hid (hQ.below ((Below.refl H w).alloc hH (.cells #[.slice tA ps.length tc, .int .i64 vol, .slice pA zs.length pc] 29)))
  clear hP hQ
  rcases bcases (reachOk ps vol zs) with h1 | h1
  · obtain ⟨_, v1, h3, _, v2⟩ := reach_true h1
    have HV := Lib.hid (space_yes h1)
    have hpi := pipeIn_of h1
    have HS := Lib.hid (fun (W : World) (h : NumsAt W H pA zs) (h' : H ≤ W.heap.size) => s_l02Sum tA tc ps vol pA pc zs H W h h' hpi v1.1 v1.2 h3)
    have hbd := total_bd (ps := ps) (vol := vol) (zs := zs)
    rw [total_yes h1] at hbd
    clear hpi
    go_enter Try.func47, Try.ntmps47
    go_wp2_with fail
    refine (HR.out _ HP1.out HQ1.out HA1).mono ?_; rintro e w1 ⟨rfl, hb1⟩
    obtain ⟨hB, hW, hH1⟩ := box_step hH hb1
    have cA := hB.cell
    clear hb1
    go_wp2_with fail
    refine (HS.out _ (HQ.out.below (hW.mono hH)) hH1).mono ?_; rintro e w2 ⟨rfl, hb2⟩
    go_wp2
    go_ret
    exact ⟨ret_int HV.out.symm, hW.trans (hb2.mono hW.size)⟩
  · have HV := Lib.hid (space_no h1)
    go_enter Try.func47, Try.ntmps47
    go_wp2_with (go_at_call 36; refine (HR.out _ HP1.out HQ1.out HA1).mono ?_; rintro e w1 ⟨rfl, hb1⟩)
    go_ret
    exact ⟨ret_int HV.out.symm, (box_step hH hb1).2.1⟩

/-- LevelOf. -/
def levelV (ps : List (Int × Int)) (vol : Int) (zs : List Int) : Int := if reachOk ps vol zs = true then (if placeB ps vol = true then placeV ps vol else px ps (ps.length - 1)) else 0
theorem level_no {ps : List (Int × Int)} {vol : Int} {zs : List Int} (h : reachOk ps vol zs = false) : levelV ps vol zs = 0 := by unfold levelV; rw [h]; rfl
theorem level_in {ps : List (Int × Int)} {vol : Int} {zs : List Int} (h : reachOk ps vol zs = true) (hp : placeB ps vol = true) : levelV ps vol zs = placeV ps vol := by unfold levelV; rw [if_pos h, if_pos hp]
theorem level_out {ps : List (Int × Int)} {vol : Int} {zs : List Int} (h : reachOk ps vol zs = true) (hp : placeB ps vol = false) : levelV ps vol zs = px ps (ps.length - 1) := by unfold levelV; rw [if_pos h, hp]; rfl

set_option maxHeartbeats 1000000 in
theorem i_LevelOf (tA : Option Addr) (tc : Nat) (ps : List (Int × Int)) (vol : Int) (pA : Option Addr) (pc : Nat) (zs : List Int) (H : Nat) (w : World) (hP : PtsAt w H tA ps) (hQ : NumsAt w H pA zs) (hH : H ≤ w.heap.size) (hn : ps.length ≤ 1048576) (hm : zs.length ≤ 1048576) :
    Calls Try.prog 29 #[.agg #[.slice tA ps.length tc, .int .i64 vol, .slice pA zs.length pc]] w fun e w' => e = .returned (.int .i64 (levelV ps vol zs)) ∧ Below w.heap.size w w' := by
  have HR := Lib.hid (fun (W : World) (h : PtsAt W H tA ps) (h2 : NumsAt W H pA zs) (h' : H ≤ W.heap.size) => i_ReachOk tA tc ps vol pA pc zs H W h h2 h' hn hm)
  have HS := Lib.hid (fun (W : World) (h : PtsAt W H tA ps) (h' : H ≤ W.heap.size) => i_PlaceOf tA tc ps vol H W h h' hn)
  have HP := Lib.hid hP
  have HQ := Lib.hid hQ
  have HA1 : H ≤ (w.alloc (.cells #[.slice tA ps.length tc, .int .i64 vol, .slice pA zs.length pc] 29)).heap.size := by simp; omega
  have HP1 := Lib.hid (hP.below ((Below.refl H w).alloc hH (.cells #[.slice tA ps.length tc, .int .i64 vol, .slice pA zs.length pc] 29)))
  have HQ1 := Lib.hid (hQ.below ((Below.refl H w).alloc hH (.cells #[.slice tA ps.length tc, .int .i64 vol, .slice pA zs.length pc] 29)))
  clear hP hQ
  rcases bcases (reachOk ps vol zs) with h1 | h1
  · rcases bcases (placeB ps vol) with h2 | h2
    · have HV := Lib.hid (level_in h1 h2)
      go_enter Try.func29, Try.ntmps29
      go_wp2_with fail
      refine (HR.out _ HP1.out HQ1.out HA1).mono ?_; rintro e w1 ⟨rfl, hb1⟩
      obtain ⟨hB, hW, hH1⟩ := box_step hH hb1
      have cA := hB.cell
      clear hb1
      go_wp2_with fail
      refine (HS.out _ (HP.out.below (hW.mono hH)) hH1).mono ?_; rintro e w2 ⟨rfl, hb2⟩
      go_wp2
      go_ret
      exact ⟨ret_int HV.out.symm, hW.trans (hb2.mono hW.size)⟩
    · have HV := Lib.hid (level_out h1 h2)
      have hl := tab_len (reach_true h1).1
      have Hp := Lib.hid (show ∀ W, PtsAt W H tA ps → ∃ b off, tA = some ⟨b, off, none⟩ ∧ b < H ∧ W.cell? ⟨b, off + (ps.length - 1) * 2, none⟩ = some (.int .i64 (px ps (ps.length - 1))) from fun W h => by
        obtain ⟨b, off, e, hb, hc⟩ := h (by omega)
        exact ⟨b, off, e, hb, (hc (ps.length - 1) (by omega)).1⟩)
      have g0 : (2 : Int) ≤ (ps.length : Int) := by omega
      have g1 : (0 : Int) ≤ (ps.length : Int) - 1 := by omega
      have g2 : (ps.length : Int) - 1 < (ps.length : Int) := by omega
      have g3 : (ps.length : Int) ≤ 20 := by omega
      go_enter Try.func29, Try.ntmps29
      go_wp2_with fail
      refine (HR.out _ HP1.out HQ1.out HA1).mono ?_; rintro e w1 ⟨rfl, hb1⟩
      obtain ⟨hB, hW, hH1⟩ := box_step hH hb1
      have cA := hB.cell
      clear hb1
      go_wp2_with fail
      refine (HS.out _ (HP.out.below (hW.mono hH)) hH1).mono ?_; rintro e w2 ⟨rfl, hb2⟩
      have hB2 := hB.below hb2 hB.lt
      have hW2 := hW.trans (hb2.mono hW.size)
      obtain ⟨b, off, rfl, hb, cl⟩ := Hp.out _ (HP.out.below (hW2.mono hH))
      have c0 := hB2.cell 0
      have c1 := hB2.cell 1
      clear cA hb2 hB hW
      generalize px ps (ps.length - 1) = xl at *
      go_wp2
      go_ret
      exact ⟨ret_int HV.out.symm, hW2⟩
  · have HV := Lib.hid (level_no h1)
    go_enter Try.func29, Try.ntmps29
    go_wp2_with (go_at_call 26; refine (HR.out _ HP1.out HQ1.out HA1).mono ?_; rintro e w1 ⟨rfl, hb1⟩)
    go_ret
    exact ⟨ret_int HV.out.symm, (box_step hH hb1).2.1⟩

end Go.Proofs.Ytgbncfjabnaokab
