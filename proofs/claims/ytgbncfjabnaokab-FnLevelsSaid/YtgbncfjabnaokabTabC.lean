/- Contracts of TableOk, ValueAt, PlaceOf (program and reference). -/
import Derived.Test.YtgbncfjabnaokabArith
import Derived.Test.YtgbncfjabnaokabPts
import Derived.Deep.QuietTactic
import Derived.BigQuiet
import Derived.Deep.RegionHeld3
import Derived.Deep.DeepCutAuto
namespace Go.Proofs.Ytgbncfjabnaokab
open Go.RowKit

theorem okAt_x {ps : List (Int × Int)} {k : Nat} (h : inR (px ps k) 0 1000000000 = false) : okAtB ps k = false := by simp [okAtB, h]
theorem okAt_y {ps : List (Int × Int)} {k : Nat} (h : inR (py ps k) 0 1000000000 = false) : okAtB ps k = false := by simp [okAtB, h]
theorem okAt_0 {ps : List (Int × Int)} (h1 : inR (px ps 0) 0 1000000000 = true) (h2 : inR (py ps 0) 0 1000000000 = true) : okAtB ps 0 = true := by simp [okAtB, h1, h2]
theorem okAt_yes {ps : List (Int × Int)} {k : Nat} (h1 : inR (px ps k) 0 1000000000 = true) (h2 : inR (py ps k) 0 1000000000 = true) (h3 : px ps (k - 1) < px ps k) (h4 : py ps (k - 1) ≤ py ps k) : okAtB ps k = true := by
  simp [okAtB, h1, h2, h3, h4]
theorem okAt_sx {ps : List (Int × Int)} {k : Nat} (hk : 0 < k) (h3 : px ps k ≤ px ps (k - 1)) : okAtB ps k = false := by
  have a : decide (k = 0) = false := by simp; omega
  have b : decide (px ps (k - 1) < px ps k) = false := by simp; omega
  simp [okAtB, a, b]
theorem okAt_sy {ps : List (Int × Int)} {k : Nat} (hk : 0 < k) (h3 : py ps k < py ps (k - 1)) : okAtB ps k = false := by
  have a : decide (k = 0) = false := by simp; omega
  have b : decide (py ps (k - 1) ≤ py ps k) = false := by simp; omega
  simp [okAtB, a, b]

set_option maxHeartbeats 2000000 in
theorem i_TableOk (A : Option Addr) (c : Nat) (ps : List (Int × Int)) (H : Nat) (w : World) (hP : PtsAt w H A ps) (hH : H ≤ w.heap.size) (hn : ps.length ≤ 1048576) :
    Calls Try.prog 51 #[.slice A ps.length c] w fun e w' => e = .returned (.bool (tableOk ps)) ∧ Below w.heap.size w w' := by
  by_cases h2 : ps.length < 2
  · have HV := Lib.hid (tableOk_len (.inl h2))
    have e1 : (ps.length : Int) < 2 := by omega
    clear hP
    generalize ps.length = n at *
    go_enter Try.func51, Try.ntmps51
    go_wp2
    go_ret
    exact ⟨ret_bool HV.out.symm, Below.refl _ _⟩
  · by_cases h20 : 20 < ps.length
    · have HV := Lib.hid (tableOk_len (.inr h20))
      have e1 : (20 : Int) < (ps.length : Int) := by omega
      have e2 : (2 : Int) ≤ (ps.length : Int) := by omega
      clear hP
      generalize ps.length = n at *
      go_enter Try.func51, Try.ntmps51
      go_wp2
      go_ret
      exact ⟨ret_bool HV.out.symm, Below.refl _ _⟩
    · obtain ⟨b, off, rfl, hb, hc⟩ := hP (by omega)
      have HC := Lib.hid hc
      have HN := Lib.hid (fun k (hk : k < ps.length) (h : okAtB ps k = false) => tableOk_no (okTo_no hk h))
      have HY := Lib.hid (fun (h : okTo ps ps.length = true) => tableOk_mk (by omega) (by omega) h)
      obtain ⟨n, hnn⟩ : ∃ n, n = ps.length := ⟨_, rfl⟩
      rw [← hnn] at h2 h20 hn ⊢
      have HL := Lib.hid hnn
      clear hc hP hnn
      have e1 : (2 : Int) ≤ (n : Int) := by omega
      have e2 : (n : Int) ≤ 20 := by omega
      go_enter Try.func51, Try.ntmps51
      go_wp2
      go_loopw [15] (fun v15 wr => ∃ k : Nat, k ≤ n ∧ v15 = .int .i64 k ∧ okTo ps k = true ∧ Below w.heap.size w wr) (fun v15 _ => n - (intOf v15).toNat)
      case atStart => exact ⟨0, by omega, rfl, okTo_zero ps, Below.refl _ _⟩
      case round =>
        obtain ⟨k, hk, rfl, hok, hW⟩ := hrel
        by_cases hlt : k < n
        · have hl2 : k < ps.length := by rw [← HL.out]; exact hlt
          obtain ⟨cx, cy⟩ := HC.out k hl2
          have cx' := (hW.cell (p := ⟨b, off + k * 2, none⟩) (by show b < _; omega)).trans cx
          have cy' := (hW.cell (p := ⟨b, off + k * 2 + 1, none⟩) (by show b < _; omega)).trans cy
          have hbw : b < wr.heap.size := by have := hW.size; omega
          have e3 : (k : Int) < (n : Int) := by omega
          have OK := Lib.hid hok
          have NO := Lib.hid (HN.out k hl2)
          clear cx cy hok hl2
          rcases bcases (inR (px ps k) 0 1000000000) with h3 | h3
          · rcases bcases (inR (py ps k) 0 1000000000) with h4 | h4
            · rcases Nat.eq_zero_or_pos k with h0 | h0
              · have hg : decide ((0 : Int) < (k : Int)) = false := by simp; omega
                have hg' : decide (0 < k) = false := by simp; omega
                have H1 := Lib.hid (okTo_succ OK.out (show okAtB ps k = true by subst h0; exact okAt_0 h3 h4))
                clear h0
                go_wp2_with (go_at_call 52; refine (i_inRange _ _ _ _).mono ?_; rintro e w' ⟨rfl, rfl⟩)
                go_quiet (fail)
                go_wp2
                go_roundw
                case rel => exact ⟨k + 1, by omega, by go_num, H1.out, below_drewN (hW.alloc hW.size _) _⟩
                case measure => simp [intOf]; omega
              · obtain ⟨dx, dy⟩ := HC.out (k - 1) (by rw [← HL.out]; omega)
                have dx' := (hW.cell (p := ⟨b, off + (k - 1) * 2, none⟩) (by show b < _; omega)).trans dx
                have dy' := (hW.cell (p := ⟨b, off + (k - 1) * 2 + 1, none⟩) (by show b < _; omega)).trans dy
                have g1 : (0 : Int) < (k : Int) := by omega
                have g2 : (0 : Int) ≤ (k : Int) - 1 := by omega
                have g3 : (k : Int) - 1 < (n : Int) := by omega
                have hg : decide ((0 : Int) < (k : Int)) = true := by simp; omega
                have hg' : decide (0 < k) = true := by simp; omega
                clear dx dy
                rcases Int.lt_or_le (px ps (k - 1)) (px ps k) with h5 | h5
                · have d5 : decide (px ps k ≤ px ps (k - 1)) = false := by simp; omega
                  rcases Int.lt_or_le (py ps k) (py ps (k - 1)) with h6 | h6
                  · have d6 : decide (py ps k < py ps (k - 1)) = true := by simp; omega
                    have HV := Lib.hid (NO.out (okAt_sy h0 h6))
                    go_wp2_with (go_at_call 52; refine (i_inRange _ _ _ _).mono ?_; rintro e w' ⟨rfl, rfl⟩)
                    go_quiet (fail)
                    go_wp2
                    go_ret
                    exact ⟨ret_bool HV.out.symm, below_drewN (hW.alloc hW.size _) _⟩
                  · have d6 : decide (py ps k < py ps (k - 1)) = false := by simp; omega
                    have H1 := Lib.hid (okTo_succ OK.out (okAt_yes h3 h4 h5 h6))
                    go_wp2_with (go_at_call 52; refine (i_inRange _ _ _ _).mono ?_; rintro e w' ⟨rfl, rfl⟩)
                    go_quiet (fail)
                    go_wp2
                    go_roundw
                    case rel => exact ⟨k + 1, by omega, by go_num, H1.out, below_drewN (hW.alloc hW.size _) _⟩
                    case measure => simp [intOf]; omega
                · have d5 : decide (px ps k ≤ px ps (k - 1)) = true := by simp; omega
                  have HV := Lib.hid (NO.out (okAt_sx h0 h5))
                  go_wp2_with (go_at_call 52; refine (i_inRange _ _ _ _).mono ?_; rintro e w' ⟨rfl, rfl⟩)
                  go_quiet (fail)
                  go_wp2
                  go_ret
                  exact ⟨ret_bool HV.out.symm, below_drewN (hW.alloc hW.size _) _⟩
            · have HV := Lib.hid (NO.out (okAt_y h4))
              go_wp2_with (go_at_call 52; refine (i_inRange _ _ _ _).mono ?_; rintro e w' ⟨rfl, rfl⟩)
              go_ret
              exact ⟨ret_bool HV.out.symm, hW.alloc hW.size _⟩
          · have HV := Lib.hid (NO.out (okAt_x h3))
            go_wp2_with (go_at_call 52; refine (i_inRange _ _ _ _).mono ?_; rintro e w' ⟨rfl, rfl⟩)
            go_ret
            exact ⟨ret_bool HV.out.symm, hW.alloc hW.size _⟩
        · have e3 : (n : Int) ≤ (k : Int) := by omega
          have HV := Lib.hid (HY.out (by rw [← HL.out, show n = k by omega]; exact hok))
          clear hok
          go_wp2
          go_ret
          exact ⟨ret_bool HV.out.symm, hW⟩

theorem tableOk_bd {ps : List (Int × Int)} (h : okTo ps ps.length = true) : tableOk ps = inR (ps.length : Int) 2 20 := by
  unfold tableOk inR
  rw [h, Bool.and_true]
  congr 1 <;> exact decide_eq_decide.2 (by omega)

set_option maxHeartbeats 2000000 in
theorem s_TableOk (A : Option Addr) (c : Nat) (ps : List (Int × Int)) (H : Nat) (w : World) (hP : PtsAt w H A ps) (hH : H ≤ w.heap.size) (hn : ps.length ≤ 1048576) :
    Calls Try.prog 54 #[.slice A ps.length c] w fun e w' => e = .returned (.bool (tableOk ps)) ∧ Below w.heap.size w w' := by
  have HP := Lib.hid hP
  have HN := Lib.hid (fun k (hk : k < ps.length) (h : okAtB ps k = false) => tableOk_no (okTo_no hk h))
  have HY := Lib.hid (fun (h : okTo ps ps.length = true) => tableOk_bd h)
  obtain ⟨n, hnn⟩ : ∃ n, n = ps.length := ⟨_, rfl⟩
  rw [← hnn] at hn ⊢
  have HL := Lib.hid hnn
  clear hP hnn
  go_enter Try.func54, Try.ntmps54
  go_wp2
  go_loopw [3] (fun v3 wr => ∃ k : Nat, k ≤ n ∧ v3 = .int .i64 k ∧ okTo ps k = true ∧ Below w.heap.size w wr) (fun v3 _ => n - (intOf v3).toNat)
  case atStart => exact ⟨0, by omega, rfl, okTo_zero ps, Below.refl _ _⟩
  case round =>
    obtain ⟨k, hk, rfl, hok, hW⟩ := hrel
    by_cases hlt : k < n
    · have hl2 : k < ps.length := by rw [← HL.out]; exact hlt
      obtain ⟨b, off, rfl, hb, hc⟩ := HP.out (by omega)
      obtain ⟨cx, cy⟩ := hc k hl2
      have cx' := (hW.cell (p := ⟨b, off + k * 2, none⟩) (by show b < _; omega)).trans cx
      have cy' := (hW.cell (p := ⟨b, off + k * 2 + 1, none⟩) (by show b < _; omega)).trans cy
      have e0 : (0 : Int) ≤ (k : Int) := by omega
      have e3 : (k : Int) < (n : Int) := by omega
      have OK := Lib.hid hok
      have NO := Lib.hid (HN.out k hl2)
      have HC := Lib.hid hc
      clear cx cy hok hl2 hc
      rcases bcases (inR (px ps k) 0 1000000000) with h3 | h3
      · rcases bcases (inR (py ps k) 0 1000000000) with h4 | h4
        · rcases Nat.eq_zero_or_pos k with h0 | h0
          · have hg : decide ((0 : Int) < (k : Int)) = false := by simp; omega
            have hg' : decide (0 < k) = false := by simp; omega
            have H1 := Lib.hid (okTo_succ OK.out (show okAtB ps k = true by subst h0; exact okAt_0 h3 h4))
            clear h0
            go_wp2_with fail
            go_quiet ((go_at_call 46; exact Calls.quiet_of_same ((s_l01In _ _ _ _).mono fun _ _ hh => ⟨hh.1, hh.2.symm⟩)))
            go_wp2
            go_roundw
            case rel => exact ⟨k + 1, by omega, by go_num, H1.out, below_drewN hW _⟩
            case measure => simp [intOf]; omega
          · obtain ⟨dx, dy⟩ := HC.out (k - 1) (by rw [← HL.out]; omega)
            have dx' := (hW.cell (p := ⟨b, off + (k - 1) * 2, none⟩) (by show b < _; omega)).trans dx
            have dy' := (hW.cell (p := ⟨b, off + (k - 1) * 2 + 1, none⟩) (by show b < _; omega)).trans dy
            have g1 : (0 : Int) < (k : Int) := by omega
            have g2 : (0 : Int) ≤ (k : Int) - 1 := by omega
            have g3 : (k : Int) - 1 < (n : Int) := by omega
            have hg : decide ((0 : Int) < (k : Int)) = true := by simp; omega
            have hg' : decide (0 < k) = true := by simp; omega
            clear dx dy
            rcases Int.lt_or_le (px ps (k - 1)) (px ps k) with h5 | h5
            · have d5 : decide (px ps k ≤ px ps (k - 1)) = false := by simp; omega
              rcases Int.lt_or_le (py ps k) (py ps (k - 1)) with h6 | h6
              · have d6 : decide (py ps k < py ps (k - 1)) = true := by simp; omega
                have HV := Lib.hid (NO.out (okAt_sy h0 h6))
                go_wp2_with fail
                go_quiet ((go_at_call 46; exact Calls.quiet_of_same ((s_l01In _ _ _ _).mono fun _ _ hh => ⟨hh.1, hh.2.symm⟩)))
                go_wp2
                go_ret
                exact ⟨ret_bool HV.out.symm, below_drewN hW _⟩
              · have d6 : decide (py ps k < py ps (k - 1)) = false := by simp; omega
                have H1 := Lib.hid (okTo_succ OK.out (okAt_yes h3 h4 h5 h6))
                go_wp2_with fail
                go_quiet ((go_at_call 46; exact Calls.quiet_of_same ((s_l01In _ _ _ _).mono fun _ _ hh => ⟨hh.1, hh.2.symm⟩)))
                go_wp2
                go_roundw
                case rel => exact ⟨k + 1, by omega, by go_num, H1.out, below_drewN hW _⟩
                case measure => simp [intOf]; omega
            · have d5 : decide (px ps k ≤ px ps (k - 1)) = true := by simp; omega
              have HV := Lib.hid (NO.out (okAt_sx h0 h5))
              go_wp2_with fail
              go_quiet ((go_at_call 46; exact Calls.quiet_of_same ((s_l01In _ _ _ _).mono fun _ _ hh => ⟨hh.1, hh.2.symm⟩)))
              go_wp2
              go_ret
              exact ⟨ret_bool HV.out.symm, below_drewN hW _⟩
        · have HV := Lib.hid (NO.out (okAt_y h4))
          go_wp2_with fail
          go_quiet ((go_at_call 46; exact Calls.quiet_of_same ((s_l01In _ _ _ _).mono fun _ _ hh => ⟨hh.1, hh.2.symm⟩)))
          go_wp2
          go_ret
          exact ⟨ret_bool HV.out.symm, below_drewN hW _⟩
      · have HV := Lib.hid (NO.out (okAt_x h3))
        go_wp2_with fail
        go_quiet ((go_at_call 46; exact Calls.quiet_of_same ((s_l01In _ _ _ _).mono fun _ _ hh => ⟨hh.1, hh.2.symm⟩)))
        go_wp2
        go_ret
        exact ⟨ret_bool HV.out.symm, below_drewN hW _⟩
    · have e3 : (n : Int) ≤ (k : Int) := by omega
      have HV := Lib.hid (HY.out (by rw [← HL.out, show n = k by omega]; exact hok))
      clear hok
      go_wp2_with (go_at_call 46; refine (s_l01In _ _ _ _).mono ?_; rintro e w' ⟨rfl, rfl⟩)
      go_ret
      exact ⟨ret_bool (by rw [HV.out, ← HL.out]), hW⟩
end Go.Proofs.Ytgbncfjabnaokab
