/- Contracts of ReachOk, TotalOf, SpaceIn and the reference's sum. -/
import Derived.Test.YtgbncfjabnaokabTabV
import Derived.Test.YtgbncfjabnaokabRe
namespace Go.Proofs.Ytgbncfjabnaokab
open Go.RowKit


set_option maxHeartbeats 1000000 in
theorem i_ReachOk (tA : Option Addr) (tc : Nat) (ps : List (Int × Int)) (vol : Int) (pA : Option Addr) (pc : Nat) (zs : List Int) (H : Nat) (w : World) (hP : PtsAt w H tA ps) (hQ : NumsAt w H pA zs) (hH : H ≤ w.heap.size) (hn : ps.length ≤ 1048576) (hm : zs.length ≤ 1048576) :
    Calls Try.prog 26 #[.agg #[.slice tA ps.length tc, .int .i64 vol, .slice pA zs.length pc]] w fun e w' => e = .returned (.bool (reachOk ps vol zs)) ∧ Below w.heap.size w w' := by
  obtain ⟨n, hnn⟩ : ∃ n, n = ps.length := ⟨_, rfl⟩
  obtain ⟨m, hmm⟩ : ∃ m, m = zs.length := ⟨_, rfl⟩
  rw [← hnn] at hn ⊢
  rw [← hmm] at hm ⊢
  have HN := Lib.hid hnn
  have HM := Lib.hid hmm
  have HP := Lib.hid hP
  have HQ := Lib.hid hQ
  clear hnn hmm hP hQ
  have HP1 := Lib.hid (HP.out.below ((Below.refl H w).alloc hH (.cells #[.slice tA n tc, .int .i64 vol, .slice pA m pc] 29)))
  have HT0 := Lib.hid (fun (W : World) (h : PtsAt W H tA ps) (h' : H ≤ W.heap.size) => i_TableOk tA tc ps H W h h' (by rw [← HN.out]; exact hn))
  have HT : Hid (∀ (W : World) (h : PtsAt W H tA ps) (h' : H ≤ W.heap.size), Calls Try.prog 51 #[.slice tA n tc] W fun e w' => e = .returned (.bool (tableOk ps)) ∧ Below W.heap.size W w') := by
    unfold Hid; rw [HN.out]; exact HT0.out
  clear HT0
  rcases bcases (tableOk ps) with h1 | h1
  · rcases bcases (inR vol 0 1000000000) with h2 | h2
    · obtain ⟨v1, v2⟩ := inR_true h2
      by_cases h3 : (12 : Int) < (m : Int)
      · have HV := Lib.hid (reach_no (ps := ps) (vol := vol) (zs := zs) (.inr (.inr (by rw [← HM.out]; omega))))
        go_enter Try.func26, Try.ntmps26
        go_wp2_with (first | (go_at_call 52; refine (i_inRange _ _ _ _).mono ?_; rintro e w' ⟨rfl, rfl⟩) | (go_at_call 51; refine (HT.out _ HP1.out (by simp; omega)).mono ?_; rintro e w1 ⟨rfl, hb1⟩; have hB := (Blk.new w _ _).below hb1 (by simp); have hW := ((Below.refl w.heap.size w).alloc (Nat.le_refl _) _).trans (hb1.mono (by simp)); have cA := hB.cell; clear hb1))
        go_ret
        exact ⟨ret_bool HV.out.symm, hW⟩
      · have h3' : (m : Int) ≤ 12 := by omega
        have H1 := Lib.hid h1
        have H2 := Lib.hid h2
        go_enter Try.func26, Try.ntmps26
        go_wp2_with (first | (go_at_call 52; refine (i_inRange _ _ _ _).mono ?_; rintro e w' ⟨rfl, rfl⟩) | (go_at_call 51; refine (HT.out _ HP1.out (by simp; omega)).mono ?_; rintro e w1 ⟨rfl, hb1⟩; have hB := (Blk.new w _ _).below hb1 (by simp); have hW := ((Below.refl w.heap.size w).alloc (Nat.le_refl _) _).trans (hb1.mono (by simp)); have cA := hB.cell; clear hb1))
        clear h1 h2
        go_loop [3, 28] (fun v3 v28 => ∃ (k : Nat) (L : Int), k ≤ m ∧ 0 ≤ L ∧ L ≤ 1000000000 ∧ v3 = .int .i64 L ∧ v28 = .int .i64 k ∧ LeftTo vol zs k L) (fun _ v28 => m - (intOf v28).toNat)
        case atStart => exact ⟨0, 1000000000 - vol, by omega, by omega, by omega, rfl, rfl, by simp [sumI], fun j hj => by omega⟩
        case round =>
          obtain ⟨k, L, hk, l0, l1, rfl, rfl, hL⟩ := hrel
          by_cases hlt : k < m
          · have hl2 : k < zs.length := by rw [← HM.out]; exact hlt
            obtain ⟨b, off, rfl, hb, hc⟩ := HQ.out (by omega)
            have ck := (hW.cell (p := ⟨b, off + k, none⟩) (by show b < _; omega)).trans (hc k hl2)
            have e3 : (k : Int) < (m : Int) := by omega
            clear hc
            rcases Int.lt_or_le (zs.getD k 0) 0 with g1 | g1
            · have HV := Lib.hid (reach_neg (ps := ps) (vol := vol) hl2 g1)
              clear hL hl2
              generalize zs.getD k 0 = z at *
              go_wp2
              go_ret
              exact ⟨ret_bool HV.out.symm, hW⟩
            · rcases Int.lt_or_le L (zs.getD k 0) with g2 | g2
              · have HV := Lib.hid (left_over (ps := ps) hL hl2 g2)
                clear hL hl2
                generalize zs.getD k 0 = z at *
                go_wp2
                go_ret
                exact ⟨ret_bool HV.out.symm, hW⟩
              · have HS := Lib.hid (left_step hL hl2 g1)
                clear hL hl2
                generalize zs.getD k 0 = z at *
                go_wp2
                go_round
                case rel => exact ⟨k + 1, L - z, by omega, by omega, by omega, rfl, by go_num, HS.out⟩
                case measure => simp [intOf]; omega
          · have HV := Lib.hid (left_end (ps := ps) (by rw [← HM.out, show m = k by omega]; exact hL) H1.out H2.out (by rw [← HM.out]; omega) l0)
            clear hL
            go_wp2
            go_ret
            exact ⟨ret_bool HV.out.symm, hW⟩
    · have HV := Lib.hid (reach_no (ps := ps) (vol := vol) (zs := zs) (.inr (.inl h2)))
      go_enter Try.func26, Try.ntmps26
      go_wp2_with (first | (go_at_call 52; refine (i_inRange _ _ _ _).mono ?_; rintro e w' ⟨rfl, rfl⟩) | (go_at_call 51; refine (HT.out _ HP1.out (by simp; omega)).mono ?_; rintro e w1 ⟨rfl, hb1⟩; have hB := (Blk.new w _ _).below hb1 (by simp); have hW := ((Below.refl w.heap.size w).alloc (Nat.le_refl _) _).trans (hb1.mono (by simp)); have cA := hB.cell; clear hb1))
      go_ret
      exact ⟨ret_bool HV.out.symm, hW⟩
  · have HV := Lib.hid (reach_no (vol := vol) (zs := zs) (.inl h1))
    go_enter Try.func26, Try.ntmps26
    go_wp2_with (first | (go_at_call 52; refine (i_inRange _ _ _ _).mono ?_; rintro e w' ⟨rfl, rfl⟩) | (go_at_call 51; refine (HT.out _ HP1.out (by simp; omega)).mono ?_; rintro e w1 ⟨rfl, hb1⟩; have hB := (Blk.new w _ _).below hb1 (by simp); have hW := ((Below.refl w.heap.size w).alloc (Nat.le_refl _) _).trans (hb1.mono (by simp)); have cA := hB.cell; clear hb1))
    go_ret
    exact ⟨ret_bool HV.out.symm, hW⟩

/-- The pipe's elements up to k are amounts. -/
def PipeIn (zs : List Int) (k : Nat) : Prop := ∀ j, j < k → 0 ≤ zs.getD j 0 ∧ zs.getD j 0 ≤ 1000000000
theorem pipeIn_step {zs : List Int} {k : Nat} (h : PipeIn zs k) (h' : 0 ≤ zs.getD k 0 ∧ zs.getD k 0 ≤ 1000000000) : PipeIn zs (k + 1) := fun j hj => by
  rcases Nat.lt_or_ge j k with h1 | h1
  · exact h j h1
  · rw [show j = k by omega]; exact h'
theorem pipe_end {ps : List (Int × Int)} {vol : Int} {zs : List Int} (h : PipeIn zs zs.length) (h1 : tableOk ps = true) (h2 : inR vol 0 1000000000 = true) (h3 : zs.length ≤ 12) : reachOk ps vol zs = decide (vol + sumI zs ≤ 1000000000) := by
  have h4 : allPos zs = true := allPos_iff.2 (fun j hj => (h j hj).1)
  have h3' : decide (zs.length ≤ 12) = true := by simp [h3]
  unfold reachOk
  rw [h1, h2, h3', h4]; rfl

def SumTo (vol : Int) (zs : List Int) (k : Nat) (L : Int) : Prop := L = vol + sumI (zs.take k)
theorem sumTo_step {vol L : Int} {zs : List Int} {k : Nat} (h : SumTo vol zs k L) (hk : k < zs.length) : SumTo vol zs (k + 1) (L + zs.getD k 0) := by
  unfold SumTo at *; rw [sumI_take hk]; omega

set_option maxHeartbeats 1000000 in
theorem s_l02Sum (tA : Option Addr) (tc : Nat) (ps : List (Int × Int)) (vol : Int) (pA : Option Addr) (pc : Nat) (zs : List Int) (H : Nat) (w : World) (hQ : NumsAt w H pA zs) (hH : H ≤ w.heap.size) (hz : PipeIn zs zs.length) (h0 : 0 ≤ vol) (h1 : vol ≤ 1000000000) (hm : zs.length ≤ 12) :
    Calls Try.prog 58 #[.agg #[.slice tA ps.length tc, .int .i64 vol, .slice pA zs.length pc]] w fun e w' => e = .returned (.int .i64 (vol + sumI zs)) ∧ Below w.heap.size w w' := by
  obtain ⟨n, hnn⟩ : ∃ n, n = ps.length := ⟨_, rfl⟩
  obtain ⟨m, hmm⟩ : ∃ m, m = zs.length := ⟨_, rfl⟩
  have HB := Lib.hid (sum_take_bd hz)
  rw [← hnn]
  rw [← hmm] at hm ⊢
  have HM := Lib.hid hmm
  have HQ := Lib.hid hQ
  clear hnn hmm hQ hz
  have hB := Blk.new w 29 #[.slice tA n tc, .int .i64 vol, .slice pA m pc]
  have cA := hB.cell
  have hW : Below w.heap.size w (w.alloc (.cells #[.slice tA n tc, .int .i64 vol, .slice pA m pc] 29)) := (Below.refl w.heap.size w).alloc (Nat.le_refl _) _
  have hs : w.heap.size < (w.alloc (.cells #[.slice tA n tc, .int .i64 vol, .slice pA m pc] 29)).heap.size := hB.lt
  go_enter Try.func58, Try.ntmps58
  go_wp2
  generalize w.alloc (.cells #[.slice tA n tc, .int .i64 vol, .slice pA m pc] 29) = W0 at *
  go_loop [3, 4] (fun v3 v4 => ∃ (k : Nat) (L : Int), k ≤ m ∧ 0 ≤ L ∧ L ≤ 20000000000 ∧ v3 = .int .i64 L ∧ v4 = .int .i64 k ∧ SumTo vol zs k L) (fun _ v4 => m - (intOf v4).toNat)
  case atStart => exact ⟨0, vol, by omega, by omega, by omega, rfl, rfl, by simp [SumTo, sumI]⟩
  case round =>
    obtain ⟨k, L, hk, l0, l1, rfl, rfl, hL⟩ := hrel
    by_cases hlt : k < m
    · have hl2 : k < zs.length := by rw [← HM.out]; exact hlt
      obtain ⟨b, off, rfl, hb, hc⟩ := HQ.out (by omega)
      have ck := (hW.cell (p := ⟨b, off + k, none⟩) (by show b < _; omega)).trans (hc k hl2)
      have e3 : (k : Int) < (m : Int) := by omega
      have HS := Lib.hid (sumTo_step hL hl2)
      have hbd := HB.out (k + 1) (by omega)
      have hbk := HB.out k (by omega)
      have hzk : L + zs.getD k 0 = vol + sumI (zs.take (k + 1)) := HS.out
      have hLk : L = vol + sumI (zs.take k) := hL
      have b1 : 0 ≤ L + zs.getD k 0 := by omega
      have b2 : L + zs.getD k 0 ≤ 20000000000 := by omega
      have b3 : -20000000000 ≤ zs.getD k 0 := by omega
      have b4 : zs.getD k 0 ≤ 20000000000 := by omega
      clear hc hL hl2 hbd hbk hzk hLk
      generalize zs.getD k 0 = z at *
      go_wp2
      go_round
      case rel => exact ⟨k + 1, L + z, by omega, by omega, by omega, rfl, by go_num, HS.out⟩
      case measure => simp [intOf]; omega
    · have HV := Lib.hid (show L = vol + sumI zs by have : L = vol + sumI (zs.take k) := hL; rw [this, show k = zs.length by rw [← HM.out]; omega, List.take_length])
      clear hL
      go_wp2
      go_ret
      exact ⟨ret_int HV.out, hW⟩

set_option maxHeartbeats 1000000 in
theorem s_ReachOk (tA : Option Addr) (tc : Nat) (ps : List (Int × Int)) (vol : Int) (pA : Option Addr) (pc : Nat) (zs : List Int) (H : Nat) (w : World) (hP : PtsAt w H tA ps) (hQ : NumsAt w H pA zs) (hH : H ≤ w.heap.size) (hn : ps.length ≤ 1048576) (hm : zs.length ≤ 1048576) :
    Calls Try.prog 36 #[.agg #[.slice tA ps.length tc, .int .i64 vol, .slice pA zs.length pc]] w fun e w' => e = .returned (.bool (reachOk ps vol zs)) ∧ Below w.heap.size w w' := by
  obtain ⟨n, hnn⟩ : ∃ n, n = ps.length := ⟨_, rfl⟩
  obtain ⟨m, hmm⟩ : ∃ m, m = zs.length := ⟨_, rfl⟩
  rw [← hnn] at hn ⊢
  rw [← hmm] at hm ⊢
  have HN := Lib.hid hnn
  have HM := Lib.hid hmm
  have HP := Lib.hid hP
  have HQ := Lib.hid hQ
  clear hnn hmm hP hQ
  have HP1 := Lib.hid (HP.out.below ((Below.refl H w).alloc hH (.cells #[.slice tA n tc, .int .i64 vol, .slice pA m pc] 29)))
  have HT0 := Lib.hid (fun (W : World) (h : PtsAt W H tA ps) (h' : H ≤ W.heap.size) => s_TableOk tA tc ps H W h h' (by rw [← HN.out]; exact hn))
  have HT : Hid (∀ (W : World) (h : PtsAt W H tA ps) (h' : H ≤ W.heap.size), Calls Try.prog 54 #[.slice tA n tc] W fun e w' => e = .returned (.bool (tableOk ps)) ∧ Below W.heap.size W w') := by
    unfold Hid; rw [HN.out]; exact HT0.out
  clear HT0
  rcases bcases (tableOk ps) with h1 | h1
  · rcases bcases (inR vol 0 1000000000) with h2 | h2
    · obtain ⟨v1, v2⟩ := inR_true h2
      by_cases h3 : (12 : Int) < (m : Int)
      · have HV := Lib.hid (reach_no (ps := ps) (vol := vol) (zs := zs) (.inr (.inr (by rw [← HM.out]; omega))))
        go_enter Try.func36, Try.ntmps36
        go_wp2_with (first | (go_at_call 46; refine (s_l01In _ _ _ _).mono ?_; rintro e w' ⟨rfl, rfl⟩) | (go_at_call 54; refine (HT.out _ HP1.out (by simp; omega)).mono ?_; rintro e w1 ⟨rfl, hb1⟩; have hB := (Blk.new w _ _).below hb1 (by simp); have hW := ((Below.refl w.heap.size w).alloc (Nat.le_refl _) _).trans (hb1.mono (by simp)); have cA := hB.cell; clear hb1))
        go_ret
        exact ⟨ret_bool HV.out.symm, hW⟩
      · have h3' : (m : Int) ≤ 12 := by omega
        have H1 := Lib.hid h1
        have H2 := Lib.hid h2
        go_enter Try.func36, Try.ntmps36
        go_wp2_with (first | (go_at_call 46; refine (s_l01In _ _ _ _).mono ?_; rintro e w' ⟨rfl, rfl⟩) | (go_at_call 54; refine (HT.out _ HP1.out (by simp; omega)).mono ?_; rintro e w1 ⟨rfl, hb1⟩; have hB := (Blk.new w _ _).below hb1 (by simp); have hW := ((Below.refl w.heap.size w).alloc (Nat.le_refl _) _).trans (hb1.mono (by simp)); have cA := hB.cell; clear hb1))
        clear h1 h2
        go_loop [3] (fun v3 => ∃ k : Nat, k ≤ m ∧ v3 = .int .i64 k ∧ PipeIn zs k) (fun v3 => m - (intOf v3).toNat)
        case atStart => exact ⟨0, by omega, rfl, fun j hj => by omega⟩
        case round =>
          obtain ⟨k, hk, rfl, hL⟩ := hrel
          by_cases hlt : k < m
          · have hl2 : k < zs.length := by rw [← HM.out]; exact hlt
            obtain ⟨b, off, rfl, hb, hc⟩ := HQ.out (by omega)
            have ck := (hW.cell (p := ⟨b, off + k, none⟩) (by show b < _; omega)).trans (hc k hl2)
            have e3 : (k : Int) < (m : Int) := by omega
            clear hc
            rcases bcases (inR (zs.getD k 0) 0 1000000000) with g1 | g1
            · have HS := Lib.hid (pipeIn_step hL (inR_true g1))
              clear hL hl2
              generalize zs.getD k 0 = z at *
              go_wp2_with (go_at_call 46; refine (s_l01In _ _ _ _).mono ?_; rintro e w' ⟨rfl, rfl⟩)
              go_round
              case rel => exact ⟨k + 1, by omega, by go_num, HS.out⟩
              case measure => simp [intOf]; omega
            · have HV := Lib.hid (pipe_big (ps := ps) (vol := vol) hl2 g1)
              clear hL hl2
              generalize zs.getD k 0 = z at *
              go_wp2_with (go_at_call 46; refine (s_l01In _ _ _ _).mono ?_; rintro e w' ⟨rfl, rfl⟩)
              go_ret
              exact ⟨ret_bool HV.out.symm, hW⟩
          · have hL' : PipeIn zs zs.length := by rw [← HM.out, show m = k by omega]; exact hL
            have HV := Lib.hid (pipe_end (ps := ps) hL' H1.out H2.out (by rw [← HM.out]; omega))
            have HS0 := Lib.hid (fun (W : World) (h : NumsAt W H pA zs) (h' : H ≤ W.heap.size) => s_l02Sum tA tc ps vol pA pc zs H W h h' hL' (by omega) (by omega) (by rw [← HM.out]; omega))
            clear hL hL'
            have hlW := hB.lt
            go_wp2_with fail
            rw [HN.out, HM.out]
            refine (HS0.out _ (HQ.out.below (hW.mono hH)) (Nat.le_trans hH hW.size)).mono ?_; rintro e w2 ⟨rfl, hb2⟩
            rw [← HN.out, ← HM.out]
            go_wp2
            go_ret
            exact ⟨ret_bool HV.out.symm, hW.trans (hb2.mono hW.size)⟩
    · have HV := Lib.hid (reach_no (ps := ps) (vol := vol) (zs := zs) (.inr (.inl h2)))
      go_enter Try.func36, Try.ntmps36
      go_wp2_with (first | (go_at_call 46; refine (s_l01In _ _ _ _).mono ?_; rintro e w' ⟨rfl, rfl⟩) | (go_at_call 54; refine (HT.out _ HP1.out (by simp; omega)).mono ?_; rintro e w1 ⟨rfl, hb1⟩; have hB := (Blk.new w _ _).below hb1 (by simp); have hW := ((Below.refl w.heap.size w).alloc (Nat.le_refl _) _).trans (hb1.mono (by simp)); have cA := hB.cell; clear hb1))
      go_ret
      exact ⟨ret_bool HV.out.symm, hW⟩
  · have HV := Lib.hid (reach_no (vol := vol) (zs := zs) (.inl h1))
    go_enter Try.func36, Try.ntmps36
    go_wp2_with (first | (go_at_call 46; refine (s_l01In _ _ _ _).mono ?_; rintro e w' ⟨rfl, rfl⟩) | (go_at_call 54; refine (HT.out _ HP1.out (by simp; omega)).mono ?_; rintro e w1 ⟨rfl, hb1⟩; have hB := (Blk.new w _ _).below hb1 (by simp); have hW := ((Below.refl w.heap.size w).alloc (Nat.le_refl _) _).trans (hb1.mono (by simp)); have cA := hB.cell; clear hb1))
    go_ret
    exact ⟨ret_bool HV.out.symm, hW⟩
end Go.Proofs.Ytgbncfjabnaokab
