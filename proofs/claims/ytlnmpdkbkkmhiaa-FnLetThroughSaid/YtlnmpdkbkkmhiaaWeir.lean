/- Contracts of the functions on weirs and rules (program and reference): RuleOk, WeirOk, WantedFlow, GateFlow, MoveGate, OpenFor, SteerWeir, and the laws' copies toRule, toWeir. -/
import Derived.Test.YtlnmpdkbkkmhiaaArith
import Derived.Test.YtlnmpdkbkkmhiaaMem
import Derived.Deep.Light
namespace Go.Proofs.Ytlnmpdkbkkmhiaa
open Go.RowKit

def ruleOk (l h f : Int) : Bool := inR l 0 100000 && inR h 0 100000 && inR f 0 100000 && decide (l < h) && decide (h ≤ f)
def weirOk (g o s c d : Int) : Bool := inR g 1 8 && inR o 0 (10 * g) && inR s 1 80 && inR c 0 100000 && inR d 1 1000
theorem weirOk_true {g o s c d : Int} (h : weirOk g o s c d = true) : (1 ≤ g ∧ g ≤ 8) ∧ (0 ≤ o ∧ o ≤ 10 * g) ∧ (1 ≤ s ∧ s ≤ 80) ∧ (0 ≤ c ∧ c ≤ 100000) ∧ (1 ≤ d ∧ d ≤ 1000) := by
  simp only [weirOk, Bool.and_eq_true] at h
  obtain ⟨⟨⟨⟨h1, h2⟩, h3⟩, h4⟩, h5⟩ := h
  exact ⟨inR_true h1, inR_true h2, inR_true h3, inR_true h4, inR_true h5⟩
theorem ruleOk_true {l h f : Int} (hh : ruleOk l h f = true) : (0 ≤ l ∧ l ≤ 100000) ∧ (0 ≤ h ∧ h ≤ 100000) ∧ (0 ≤ f ∧ f ≤ 100000) ∧ l < h ∧ h ≤ f := by
  simp only [ruleOk, Bool.and_eq_true, decide_eq_true_eq] at hh
  obtain ⟨⟨⟨⟨h1, h2⟩, h3⟩, h4⟩, h5⟩ := hh
  exact ⟨inR_true h1, inR_true h2, inR_true h3, h4, h5⟩

theorem s_l03Level (n : Int) (w : World) :
    Calls Try.prog 62 #[.int .i64 n] w fun e w' => e = .returned (.bool (inR n 0 100000)) ∧ w = w' := by
  go_enter Try.func62, Try.ntmps62
  go_wp2_with (go_at_call 57; refine (s_l01In _ _ _ _).mono ?_; rintro e w' ⟨rfl, rfl⟩)
  go_ret
  exact ⟨rfl, rfl⟩

theorem wok_aux {g : Int} (h : inR g 1 8 = true) : 1 ≤ g ∧ g ≤ 8 := inR_true h
theorem weirOk_no {g o s c d : Int} (h : ¬ inR g 1 8 = true) : weirOk g o s c d = false := by simp [weirOk, h]

theorem i_WeirOk (g o s c d : Int) (w : World) :
    Calls Try.prog 24 #[.agg #[.int .i64 g, .int .i64 o, .int .i64 s, .int .i64 c, .int .i64 d]] w fun e w' => e = .returned (.bool (weirOk g o s c d)) ∧ Below w.heap.size w w' := by
  rcases bcases (inR g 1 8) with h | h
  · obtain ⟨g1, g2⟩ := inR_true h
    go_enter Try.func24, Try.ntmps24
    go_wp2_with (go_at_call 30; refine (i_inRange _ _ _ _).mono ?_; rintro e w' ⟨rfl, rfl⟩)
    all_goals
      go_ret
      refine ⟨ret_bool ?_, (Below.refl _ _).alloc (Nat.le_refl _) _⟩
      go_light
      simp_all [weirOk]
  · go_enter Try.func24, Try.ntmps24
    go_wp2_with (go_at_call 30; refine (i_inRange _ _ _ _).mono ?_; rintro e w' ⟨rfl, rfl⟩)
    go_ret
    exact ⟨ret_bool (by simp [weirOk, h]), (Below.refl _ _).alloc (Nat.le_refl _) _⟩

theorem s_WeirOk (g o s c d : Int) (w : World) :
    Calls Try.prog 36 #[.agg #[.int .i64 g, .int .i64 o, .int .i64 s, .int .i64 c, .int .i64 d]] w fun e w' => e = .returned (.bool (weirOk g o s c d)) ∧ Below w.heap.size w w' := by
  rcases bcases (inR g 1 8) with h | h
  · obtain ⟨g1, g2⟩ := inR_true h
    go_enter Try.func36, Try.ntmps36
    go_wp2_with (go_at_call 57; refine (s_l01In _ _ _ _).mono ?_; rintro e w' ⟨rfl, rfl⟩)
    all_goals
      go_ret
      refine ⟨ret_bool ?_, (Below.refl _ _).alloc (Nat.le_refl _) _⟩
      go_light
      simp_all [weirOk]
  · go_enter Try.func36, Try.ntmps36
    go_wp2_with (go_at_call 57; refine (s_l01In _ _ _ _).mono ?_; rintro e w' ⟨rfl, rfl⟩)
    go_ret
    exact ⟨ret_bool (by simp [weirOk, h]), (Below.refl _ _).alloc (Nat.le_refl _) _⟩

theorem l_toWeir (g o s c d : Int) (w : World) :
    Calls Try.prog 16 #[.agg #[.int .i64 g, .int .i64 o, .int .i64 s, .int .i64 c, .int .i64 d]] w fun e w' => e = .returned (.agg #[.int .i64 g, .int .i64 o, .int .i64 s, .int .i64 c, .int .i64 d]) ∧ Below w.heap.size w w' := by
  go_enter Try.func16, Try.ntmps16
  go_wp2
  refine bodyPost_ret (v := .agg #[.int .i64 g, .int .i64 o, .int .i64 s, .int .i64 c, .int .i64 d]) (by simp [results, Try.results16, go_sem]) rfl ⟨rfl, ?_⟩
  exact (((Below.refl _ _).alloc (Nat.le_refl _) _).alloc (by simp) _).alloc (by simp; omega) _
theorem prod_bd {o d r : Int} (o0 : 0 ≤ o) (o1 : o ≤ 80) (d0 : 0 ≤ d) (d1 : d ≤ 1000) (r0 : 0 ≤ r) (r1 : r ≤ 400) : 0 ≤ o * d ∧ o * d ≤ 80000 ∧ 0 ≤ o * d * r ∧ o * d * r ≤ 32000000 := by
  have h1 : 0 ≤ o * d := Int.mul_nonneg o0 d0
  have h2 : o * d ≤ 80 * 1000 := Int.mul_le_mul o1 d1 d0 (by omega)
  have h3 : 0 ≤ o * d * r := Int.mul_nonneg h1 r0
  have h4 : o * d * r ≤ 80000 * 400 := Int.mul_le_mul (by omega) r1 r0 (by omega)
  omega

/-- GateFlow. -/
def gateV (g o s c d up dn : Int) : Int :=
  if weirOk g o s c d = true ∧ inR up 0 100000 = true ∧ inR dn 0 100000 = true ∧ 0 < up - max c dn then o * d * isq (up - max c dn) / 10 else 0

theorem root_small {h : Int} (h0 : 0 < h) (h1 : h ≤ 100000) : rootV h = isq h ∧ 0 ≤ isq h ∧ isq h ≤ 400 :=
  ⟨by unfold rootV; rw [if_pos (inR_mk (by omega) (by omega))], isq_nonneg _, isq_le (by omega) (by omega) (by omega)⟩

theorem gate_pos {g o s c d up dn m : Int} (h : weirOk g o s c d = true) (h2 : inR up 0 100000 = true) (h3 : inR dn 0 100000 = true) (hm : max c dn = m) (h4 : 0 < up - m) : gateV g o s c d up dn = o * d * isq (up - m) / 10 := by
  unfold gateV; rw [hm, if_pos ⟨h, h2, h3, h4⟩]
theorem gate_zero {g o s c d up dn m : Int} (hm : max c dn = m) (h4 : up - m ≤ 0) : gateV g o s c d up dn = 0 := by
  unfold gateV; rw [hm, if_neg]; rintro ⟨_, _, _, h⟩; omega
theorem gate_no {g o s c d up dn : Int} (h : weirOk g o s c d = false ∨ inR up 0 100000 = false ∨ inR dn 0 100000 = false) : gateV g o s c d up dn = 0 := by
  unfold gateV; rw [if_neg]; rintro ⟨h1, h2, h3, _⟩; rcases h with h | h | h <;> simp_all

theorem i_GateFlow (g o s c d up dn : Int) (w : World) :
    Calls Try.prog 11 #[.agg #[.int .i64 g, .int .i64 o, .int .i64 s, .int .i64 c, .int .i64 d], .int .i64 up, .int .i64 dn] w fun e w' => e = .returned (.int .i64 (gateV g o s c d up dn)) ∧ Below w.heap.size w w' := by
  rcases bcases (weirOk g o s c d) with h | h
  · rcases bcases (inR up 0 100000) with h2 | h2
    · rcases bcases (inR dn 0 100000) with h3 | h3
      · obtain ⟨b1, b2, b3, b4, b5⟩ := weirOk_true h
        obtain ⟨u1, u2⟩ := inR_true h2
        obtain ⟨d1, d2⟩ := inR_true h3
        rcases Int.lt_or_le c dn with hcd | hcd
        · have hm := Lib.hid (show max c dn = dn by omega)
          by_cases h4 : up - dn ≤ 0
          · have HV := Lib.hid (gate_zero (g := g) (o := o) (s := s) (d := d) hm.out h4)
            go_enter Try.func11, Try.ntmps11
            go_wp2_with (first | (go_at_call 30; refine (i_inRange _ _ _ _).mono ?_; rintro e w' ⟨rfl, rfl⟩) | (go_at_call 24; refine (i_WeirOk _ _ _ _ _ _).mono ?_; rintro e w1 ⟨rfl, hb⟩; obtain ⟨hc, hf⟩ := bcell hb))
            go_ret
            exact ⟨ret_int HV.out.symm, ((Below.refl _ _).alloc (Nat.le_refl _) _).trans (hb.mono (by simp))⟩
          · have HV := Lib.hid (gate_pos h h2 h3 hm.out (by omega))
            obtain ⟨r0, r1, r2⟩ := root_small (h := up - dn) (by omega) (by omega)
            obtain ⟨q1, q2, q3, q4⟩ := prod_bd (o := o) (d := d) (r := isq (up - dn)) (by omega) (by omega) (by omega) (by omega) r1 r2
            go_enter Try.func11, Try.ntmps11
            go_wp2_with (first | (go_at_call 30; refine (i_inRange _ _ _ _).mono ?_; rintro e w' ⟨rfl, rfl⟩) | (go_at_call 24; refine (i_WeirOk _ _ _ _ _ _).mono ?_; rintro e w1 ⟨rfl, hb⟩; obtain ⟨hc, hf⟩ := bcell hb))
            go_quiet ((go_at_call 31; exact Calls.quiet_of_same (((i_RootOf _ _).mono fun _ _ hh => ⟨hh.1, hh.2.symm⟩))))
            go_wp2
            go_ret
            exact ⟨ret_int (by rw [HV.out]), below_drewN (((Below.refl _ _).alloc (Nat.le_refl _) _).trans (hb.mono (by simp))) _⟩
        · have hm := Lib.hid (show max c dn = c by omega)
          by_cases h4 : up - c ≤ 0
          · have HV := Lib.hid (gate_zero (g := g) (o := o) (s := s) (d := d) hm.out h4)
            go_enter Try.func11, Try.ntmps11
            go_wp2_with (first | (go_at_call 30; refine (i_inRange _ _ _ _).mono ?_; rintro e w' ⟨rfl, rfl⟩) | (go_at_call 24; refine (i_WeirOk _ _ _ _ _ _).mono ?_; rintro e w1 ⟨rfl, hb⟩; obtain ⟨hc, hf⟩ := bcell hb))
            go_ret
            exact ⟨ret_int HV.out.symm, ((Below.refl _ _).alloc (Nat.le_refl _) _).trans (hb.mono (by simp))⟩
          · have HV := Lib.hid (gate_pos h h2 h3 hm.out (by omega))
            obtain ⟨r0, r1, r2⟩ := root_small (h := up - c) (by omega) (by omega)
            obtain ⟨q1, q2, q3, q4⟩ := prod_bd (o := o) (d := d) (r := isq (up - c)) (by omega) (by omega) (by omega) (by omega) r1 r2
            go_enter Try.func11, Try.ntmps11
            go_wp2_with (first | (go_at_call 30; refine (i_inRange _ _ _ _).mono ?_; rintro e w' ⟨rfl, rfl⟩) | (go_at_call 24; refine (i_WeirOk _ _ _ _ _ _).mono ?_; rintro e w1 ⟨rfl, hb⟩; obtain ⟨hc, hf⟩ := bcell hb))
            go_quiet ((go_at_call 31; exact Calls.quiet_of_same (((i_RootOf _ _).mono fun _ _ hh => ⟨hh.1, hh.2.symm⟩))))
            go_wp2
            go_ret
            exact ⟨ret_int (by rw [HV.out]), below_drewN (((Below.refl _ _).alloc (Nat.le_refl _) _).trans (hb.mono (by simp))) _⟩
      · have HV := Lib.hid (gate_no (g := g) (o := o) (s := s) (c := c) (d := d) (up := up) (.inr (.inr h3)))
        go_enter Try.func11, Try.ntmps11
        go_wp2_with (first | (go_at_call 30; refine (i_inRange _ _ _ _).mono ?_; rintro e w' ⟨rfl, rfl⟩) | (go_at_call 24; refine (i_WeirOk _ _ _ _ _ _).mono ?_; rintro e w1 ⟨rfl, hb⟩; obtain ⟨hc, hf⟩ := bcell hb))
        go_ret
        exact ⟨ret_int HV.out.symm, ((Below.refl _ _).alloc (Nat.le_refl _) _).trans (hb.mono (by simp))⟩
    · have HV := Lib.hid (gate_no (g := g) (o := o) (s := s) (c := c) (d := d) (dn := dn) (.inr (.inl h2)))
      go_enter Try.func11, Try.ntmps11
      go_wp2_with (first | (go_at_call 30; refine (i_inRange _ _ _ _).mono ?_; rintro e w' ⟨rfl, rfl⟩) | (go_at_call 24; refine (i_WeirOk _ _ _ _ _ _).mono ?_; rintro e w1 ⟨rfl, hb⟩; obtain ⟨hc, hf⟩ := bcell hb))
      go_ret
      exact ⟨ret_int HV.out.symm, ((Below.refl _ _).alloc (Nat.le_refl _) _).trans (hb.mono (by simp))⟩
  · have HV := Lib.hid (gate_no (up := up) (dn := dn) (.inl h))
    go_enter Try.func11, Try.ntmps11
    go_wp2_with (first | (go_at_call 30; refine (i_inRange _ _ _ _).mono ?_; rintro e w' ⟨rfl, rfl⟩) | (go_at_call 24; refine (i_WeirOk _ _ _ _ _ _).mono ?_; rintro e w1 ⟨rfl, hb⟩; obtain ⟨hc, hf⟩ := bcell hb))
    go_ret
    exact ⟨ret_int HV.out.symm, ((Below.refl _ _).alloc (Nat.le_refl _) _).trans (hb.mono (by simp))⟩

theorem s_GateFlow (g o s c d up dn : Int) (w : World) :
    Calls Try.prog 39 #[.agg #[.int .i64 g, .int .i64 o, .int .i64 s, .int .i64 c, .int .i64 d], .int .i64 up, .int .i64 dn] w fun e w' => e = .returned (.int .i64 (gateV g o s c d up dn)) ∧ Below w.heap.size w w' := by
  rcases bcases (weirOk g o s c d) with h | h
  · rcases bcases (inR up 0 100000) with h2 | h2
    · rcases bcases (inR dn 0 100000) with h3 | h3
      · obtain ⟨b1, b2, b3, b4, b5⟩ := weirOk_true h
        obtain ⟨u1, u2⟩ := inR_true h2
        obtain ⟨d1, d2⟩ := inR_true h3
        rcases Int.lt_or_le c dn with hcd | hcd
        · have hm := Lib.hid (show max c dn = dn by omega)
          by_cases h4 : up - dn ≤ 0
          · have HV := Lib.hid (gate_zero (g := g) (o := o) (s := s) (d := d) hm.out h4)
            go_enter Try.func39, Try.ntmps39
            go_wp2_with (first | (go_at_call 62; refine (s_l03Level _ _).mono ?_; rintro e w' ⟨rfl, rfl⟩) | (go_at_call 36; refine (s_WeirOk _ _ _ _ _ _).mono ?_; rintro e w1 ⟨rfl, hb⟩; obtain ⟨hc, hf⟩ := bcell hb))
            go_ret
            exact ⟨ret_int HV.out.symm, ((Below.refl _ _).alloc (Nat.le_refl _) _).trans (hb.mono (by simp))⟩
          · have HV := Lib.hid (gate_pos h h2 h3 hm.out (by omega))
            obtain ⟨r0, r1, r2⟩ := root_small (h := up - dn) (by omega) (by omega)
            obtain ⟨q1, q2, q3, q4⟩ := prod_bd (o := o) (d := d) (r := isq (up - dn)) (by omega) (by omega) (by omega) (by omega) r1 r2
            go_enter Try.func39, Try.ntmps39
            go_wp2_with (first | (go_at_call 62; refine (s_l03Level _ _).mono ?_; rintro e w' ⟨rfl, rfl⟩) | (go_at_call 36; refine (s_WeirOk _ _ _ _ _ _).mono ?_; rintro e w1 ⟨rfl, hb⟩; obtain ⟨hc, hf⟩ := bcell hb))
            go_quiet ((go_at_call 63; exact Calls.quiet_of_same (((s_RootOf _ _).mono fun _ _ hh => ⟨hh.1, hh.2.symm⟩))))
            go_wp2
            go_ret
            exact ⟨ret_int (by rw [HV.out]), below_drewN (((Below.refl _ _).alloc (Nat.le_refl _) _).trans (hb.mono (by simp))) _⟩
        · have hm := Lib.hid (show max c dn = c by omega)
          by_cases h4 : up - c ≤ 0
          · have HV := Lib.hid (gate_zero (g := g) (o := o) (s := s) (d := d) hm.out h4)
            go_enter Try.func39, Try.ntmps39
            go_wp2_with (first | (go_at_call 62; refine (s_l03Level _ _).mono ?_; rintro e w' ⟨rfl, rfl⟩) | (go_at_call 36; refine (s_WeirOk _ _ _ _ _ _).mono ?_; rintro e w1 ⟨rfl, hb⟩; obtain ⟨hc, hf⟩ := bcell hb))
            go_ret
            exact ⟨ret_int HV.out.symm, ((Below.refl _ _).alloc (Nat.le_refl _) _).trans (hb.mono (by simp))⟩
          · have HV := Lib.hid (gate_pos h h2 h3 hm.out (by omega))
            obtain ⟨r0, r1, r2⟩ := root_small (h := up - c) (by omega) (by omega)
            obtain ⟨q1, q2, q3, q4⟩ := prod_bd (o := o) (d := d) (r := isq (up - c)) (by omega) (by omega) (by omega) (by omega) r1 r2
            go_enter Try.func39, Try.ntmps39
            go_wp2_with (first | (go_at_call 62; refine (s_l03Level _ _).mono ?_; rintro e w' ⟨rfl, rfl⟩) | (go_at_call 36; refine (s_WeirOk _ _ _ _ _ _).mono ?_; rintro e w1 ⟨rfl, hb⟩; obtain ⟨hc, hf⟩ := bcell hb))
            go_quiet ((go_at_call 63; exact Calls.quiet_of_same (((s_RootOf _ _).mono fun _ _ hh => ⟨hh.1, hh.2.symm⟩))))
            go_wp2
            go_ret
            exact ⟨ret_int (by rw [HV.out]), below_drewN (((Below.refl _ _).alloc (Nat.le_refl _) _).trans (hb.mono (by simp))) _⟩
      · have HV := Lib.hid (gate_no (g := g) (o := o) (s := s) (c := c) (d := d) (up := up) (.inr (.inr h3)))
        go_enter Try.func39, Try.ntmps39
        go_wp2_with (first | (go_at_call 62; refine (s_l03Level _ _).mono ?_; rintro e w' ⟨rfl, rfl⟩) | (go_at_call 36; refine (s_WeirOk _ _ _ _ _ _).mono ?_; rintro e w1 ⟨rfl, hb⟩; obtain ⟨hc, hf⟩ := bcell hb))
        go_ret
        exact ⟨ret_int HV.out.symm, ((Below.refl _ _).alloc (Nat.le_refl _) _).trans (hb.mono (by simp))⟩
    · have HV := Lib.hid (gate_no (g := g) (o := o) (s := s) (c := c) (d := d) (dn := dn) (.inr (.inl h2)))
      go_enter Try.func39, Try.ntmps39
      go_wp2_with (first | (go_at_call 62; refine (s_l03Level _ _).mono ?_; rintro e w' ⟨rfl, rfl⟩) | (go_at_call 36; refine (s_WeirOk _ _ _ _ _ _).mono ?_; rintro e w1 ⟨rfl, hb⟩; obtain ⟨hc, hf⟩ := bcell hb))
      go_ret
      exact ⟨ret_int HV.out.symm, ((Below.refl _ _).alloc (Nat.le_refl _) _).trans (hb.mono (by simp))⟩
  · have HV := Lib.hid (gate_no (up := up) (dn := dn) (.inl h))
    go_enter Try.func39, Try.ntmps39
    go_wp2_with (first | (go_at_call 62; refine (s_l03Level _ _).mono ?_; rintro e w' ⟨rfl, rfl⟩) | (go_at_call 36; refine (s_WeirOk _ _ _ _ _ _).mono ?_; rintro e w1 ⟨rfl, hb⟩; obtain ⟨hc, hf⟩ := bcell hb))
    go_ret
    exact ⟨ret_int HV.out.symm, ((Below.refl _ _).alloc (Nat.le_refl _) _).trans (hb.mono (by simp))⟩
end Go.Proofs.Ytlnmpdkbkkmhiaa
