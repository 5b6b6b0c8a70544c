/- Contracts of WantedFlow, MoveGate, OpenFor and SteerWeir (program and reference), and of the laws' eqWeir. -/
import Derived.Test.YtlilnhlkfooihaaWeir
namespace Go.Proofs.Ytlilnhlkfooihaa
open Go.RowKit

/-- WantedFlow. -/
def wantV (l h f lev inf : Int) : Int :=
  if ruleOk l h f = true ∧ inR inf 0 1000000000 = true ∧ inR lev 0 100000 = true ∧ l < lev then min (inf * (lev - l) / (h - l)) (2 * inf) else 0
theorem want_no {l h f lev inf : Int} (hh : ruleOk l h f = false ∨ inR inf 0 1000000000 = false ∨ inR lev 0 100000 = false ∨ lev ≤ l) : wantV l h f lev inf = 0 := by
  unfold wantV; rw [if_neg]; rintro ⟨h1, h2, h3, h4⟩; rcases hh with hh | hh | hh | hh
  · rw [hh] at h1; cases h1
  · rw [hh] at h2; cases h2
  · rw [hh] at h3; cases h3
  · omega
theorem want_yes {l h f lev inf : Int} (h1 : ruleOk l h f = true) (h2 : inR inf 0 1000000000 = true) (h3 : inR lev 0 100000 = true) (h4 : l < lev) : wantV l h f lev inf = min (inf * (lev - l) / (h - l)) (2 * inf) := by
  unfold wantV; rw [if_pos ⟨h1, h2, h3, h4⟩]
theorem want_bd {l h lev inf : Int} (h0 : 0 ≤ inf) (h1 : inf ≤ 1000000000) (h2 : 0 < lev - l) (h3 : lev - l ≤ 100000) (h4 : 0 < h - l) :
    0 ≤ inf * (lev - l) ∧ inf * (lev - l) ≤ 100000000000000 ∧ 0 ≤ inf * (lev - l) / (h - l) ∧ inf * (lev - l) / (h - l) ≤ 100000000000000 := by
  have a1 : 0 ≤ inf * (lev - l) := Int.mul_nonneg h0 (by omega)
  have a2 : inf * (lev - l) ≤ 1000000000 * 100000 := Int.mul_le_mul h1 h3 (by omega) (by omega)
  have a3 : 0 ≤ inf * (lev - l) / (h - l) := Int.ediv_nonneg a1 (by omega)
  have a4 : inf * (lev - l) / (h - l) ≤ inf * (lev - l) := Int.ediv_le_self _ a1
  omega

theorem i_WantedFlow (l h f lev inf : Int) (w : World) :
    Calls Try.prog 35 #[.agg #[.int .i64 l, .int .i64 h, .int .i64 f], .int .i64 lev, .int .i64 inf] w fun e w' => e = .returned (.int .i64 (wantV l h f lev inf)) ∧ Below w.heap.size w w' := by
  rcases bcases (ruleOk l h f) with h1 | h1
  · rcases bcases (inR inf 0 1000000000) with h2 | h2
    · rcases bcases (inR lev 0 100000) with h3 | h3
      · obtain ⟨b1, b2, b3, b4, b5⟩ := ruleOk_true h1
        obtain ⟨u1, u2⟩ := inR_true h2
        obtain ⟨d1, d2⟩ := inR_true h3
        by_cases h4 : l < lev
        · have HV := Lib.hid (want_yes h1 h2 h3 h4)
          obtain ⟨q1, q2, q3, q4⟩ := want_bd (l := l) (h := h) (lev := lev) (inf := inf) u1 u2 (by omega) (by omega) (by omega)
          have hpos : 0 < h - l := by omega
          by_cases h5 : inf * (lev - l) / (h - l) ≤ 2 * inf
          all_goals
            go_enter Try.func35, Try.ntmps35
            go_wp2_with (first | (go_at_call 53; refine (i_inRange _ _ _ _).mono ?_; rintro e w' ⟨rfl, rfl⟩) | (go_at_call 26; refine (i_RuleOk _ _ _ _).mono ?_; rintro e w1 ⟨rfl, hb⟩; obtain ⟨hc, hf⟩ := bcell hb))
            all_goals
              go_ret
              exact ⟨ret_int (by rw [HV.out]; omega), ((Below.refl _ _).alloc (Nat.le_refl _) _).trans (hb.mono (by simp))⟩
        · have h4' : lev ≤ l := by omega
          have HV := Lib.hid (want_no (h := h) (f := f) (inf := inf) (.inr (.inr (.inr h4'))))
          go_enter Try.func35, Try.ntmps35
          go_wp2_with (first | (go_at_call 53; refine (i_inRange _ _ _ _).mono ?_; rintro e w' ⟨rfl, rfl⟩) | (go_at_call 26; refine (i_RuleOk _ _ _ _).mono ?_; rintro e w1 ⟨rfl, hb⟩; obtain ⟨hc, hf⟩ := bcell hb))
          go_ret
          exact ⟨ret_int HV.out.symm, ((Below.refl _ _).alloc (Nat.le_refl _) _).trans (hb.mono (by simp))⟩
      · have HV := Lib.hid (want_no (l := l) (h := h) (f := f) (inf := inf) (.inr (.inr (.inl h3))))
        go_enter Try.func35, Try.ntmps35
        go_wp2_with (first | (go_at_call 53; refine (i_inRange _ _ _ _).mono ?_; rintro e w' ⟨rfl, rfl⟩) | (go_at_call 26; refine (i_RuleOk _ _ _ _).mono ?_; rintro e w1 ⟨rfl, hb⟩; obtain ⟨hc, hf⟩ := bcell hb))
        go_ret
        exact ⟨ret_int HV.out.symm, ((Below.refl _ _).alloc (Nat.le_refl _) _).trans (hb.mono (by simp))⟩
    · have HV := Lib.hid (want_no (l := l) (h := h) (f := f) (lev := lev) (.inr (.inl h2)))
      go_enter Try.func35, Try.ntmps35
      go_wp2_with (first | (go_at_call 53; refine (i_inRange _ _ _ _).mono ?_; rintro e w' ⟨rfl, rfl⟩) | (go_at_call 26; refine (i_RuleOk _ _ _ _).mono ?_; rintro e w1 ⟨rfl, hb⟩; obtain ⟨hc, hf⟩ := bcell hb))
      go_ret
      exact ⟨ret_int HV.out.symm, ((Below.refl _ _).alloc (Nat.le_refl _) _).trans (hb.mono (by simp))⟩
  · have HV := Lib.hid (want_no (lev := lev) (inf := inf) (.inl h1))
    go_enter Try.func35, Try.ntmps35
    go_wp2_with (first | (go_at_call 53; refine (i_inRange _ _ _ _).mono ?_; rintro e w' ⟨rfl, rfl⟩) | (go_at_call 26; refine (i_RuleOk _ _ _ _).mono ?_; rintro e w1 ⟨rfl, hb⟩; obtain ⟨hc, hf⟩ := bcell hb))
    go_ret
    exact ⟨ret_int HV.out.symm, ((Below.refl _ _).alloc (Nat.le_refl _) _).trans (hb.mono (by simp))⟩

theorem s_WantedFlow (l h f lev inf : Int) (w : World) :
    Calls Try.prog 34 #[.agg #[.int .i64 l, .int .i64 h, .int .i64 f], .int .i64 lev, .int .i64 inf] w fun e w' => e = .returned (.int .i64 (wantV l h f lev inf)) ∧ Below w.heap.size w w' := by
  rcases bcases (ruleOk l h f) with h1 | h1
  · rcases bcases (inR inf 0 1000000000) with h2 | h2
    · rcases bcases (inR lev 0 100000) with h3 | h3
      · obtain ⟨b1, b2, b3, b4, b5⟩ := ruleOk_true h1
        obtain ⟨u1, u2⟩ := inR_true h2
        obtain ⟨d1, d2⟩ := inR_true h3
        by_cases h4 : l < lev
        · have HV := Lib.hid (want_yes h1 h2 h3 h4)
          obtain ⟨q1, q2, q3, q4⟩ := want_bd (l := l) (h := h) (lev := lev) (inf := inf) u1 u2 (by omega) (by omega) (by omega)
          have hpos : 0 < h - l := by omega
          by_cases h5 : inf * (lev - l) / (h - l) ≤ 2 * inf
          all_goals
            go_enter Try.func34, Try.ntmps34
            go_wp2_with (first | (go_at_call 54; refine (s_l03Level _ _).mono ?_; rintro e w' ⟨rfl, rfl⟩) | (go_at_call 52; refine (s_l01In _ _ _ _).mono ?_; rintro e w' ⟨rfl, rfl⟩) | (go_at_call 24; refine (s_RuleOk _ _ _ _).mono ?_; rintro e w1 ⟨rfl, hb⟩; obtain ⟨hc, hf⟩ := bcell hb))
            all_goals
              go_ret
              exact ⟨ret_int (by rw [HV.out]; omega), ((Below.refl _ _).alloc (Nat.le_refl _) _).trans (hb.mono (by simp))⟩
        · have h4' : lev ≤ l := by omega
          have HV := Lib.hid (want_no (h := h) (f := f) (inf := inf) (.inr (.inr (.inr h4'))))
          go_enter Try.func34, Try.ntmps34
          go_wp2_with (first | (go_at_call 54; refine (s_l03Level _ _).mono ?_; rintro e w' ⟨rfl, rfl⟩) | (go_at_call 52; refine (s_l01In _ _ _ _).mono ?_; rintro e w' ⟨rfl, rfl⟩) | (go_at_call 24; refine (s_RuleOk _ _ _ _).mono ?_; rintro e w1 ⟨rfl, hb⟩; obtain ⟨hc, hf⟩ := bcell hb))
          go_ret
          exact ⟨ret_int HV.out.symm, ((Below.refl _ _).alloc (Nat.le_refl _) _).trans (hb.mono (by simp))⟩
      · have HV := Lib.hid (want_no (l := l) (h := h) (f := f) (inf := inf) (.inr (.inr (.inl h3))))
        go_enter Try.func34, Try.ntmps34
        go_wp2_with (first | (go_at_call 54; refine (s_l03Level _ _).mono ?_; rintro e w' ⟨rfl, rfl⟩) | (go_at_call 52; refine (s_l01In _ _ _ _).mono ?_; rintro e w' ⟨rfl, rfl⟩) | (go_at_call 24; refine (s_RuleOk _ _ _ _).mono ?_; rintro e w1 ⟨rfl, hb⟩; obtain ⟨hc, hf⟩ := bcell hb))
        go_ret
        exact ⟨ret_int HV.out.symm, ((Below.refl _ _).alloc (Nat.le_refl _) _).trans (hb.mono (by simp))⟩
    · have HV := Lib.hid (want_no (l := l) (h := h) (f := f) (lev := lev) (.inr (.inl h2)))
      go_enter Try.func34, Try.ntmps34
      go_wp2_with (first | (go_at_call 54; refine (s_l03Level _ _).mono ?_; rintro e w' ⟨rfl, rfl⟩) | (go_at_call 52; refine (s_l01In _ _ _ _).mono ?_; rintro e w' ⟨rfl, rfl⟩) | (go_at_call 24; refine (s_RuleOk _ _ _ _).mono ?_; rintro e w1 ⟨rfl, hb⟩; obtain ⟨hc, hf⟩ := bcell hb))
      go_ret
      exact ⟨ret_int HV.out.symm, ((Below.refl _ _).alloc (Nat.le_refl _) _).trans (hb.mono (by simp))⟩
  · have HV := Lib.hid (want_no (lev := lev) (inf := inf) (.inl h1))
    go_enter Try.func34, Try.ntmps34
    go_wp2_with (first | (go_at_call 54; refine (s_l03Level _ _).mono ?_; rintro e w' ⟨rfl, rfl⟩) | (go_at_call 52; refine (s_l01In _ _ _ _).mono ?_; rintro e w' ⟨rfl, rfl⟩) | (go_at_call 24; refine (s_RuleOk _ _ _ _).mono ?_; rintro e w1 ⟨rfl, hb⟩; obtain ⟨hc, hf⟩ := bcell hb))
    go_ret
    exact ⟨ret_int HV.out.symm, ((Below.refl _ _).alloc (Nat.le_refl _) _).trans (hb.mono (by simp))⟩

/-- MoveGate's new opening. -/
def moveV (g o s c d op : Int) : Int := if weirOk g o s c d = true ∧ inR op 0 (10 * g) = true then clampV op (o - s) (o + s) else o
theorem move_no {g o s c d op : Int} (h : weirOk g o s c d = false ∨ inR op 0 (10 * g) = false) : moveV g o s c d op = o := by
  unfold moveV; rw [if_neg]; rintro ⟨h1, h2⟩; rcases h with h | h
  · rw [h] at h1; cases h1
  · rw [h] at h2; cases h2
theorem move_yes {g o s c d op : Int} (h1 : weirOk g o s c d = true) (h2 : inR op 0 (10 * g) = true) : moveV g o s c d op = clampV op (o - s) (o + s) := by
  unfold moveV; rw [if_pos ⟨h1, h2⟩]


theorem i_MoveGate (g o s c d op : Int) (w : World) :
    Calls Try.prog 42 #[.agg #[.int .i64 g, .int .i64 o, .int .i64 s, .int .i64 c, .int .i64 d], .int .i64 op] w fun e w' => e = .returned (.agg #[.int .i64 g, .int .i64 (moveV g o s c d op), .int .i64 s, .int .i64 c, .int .i64 d]) ∧ Below w.heap.size w w' := by
  rcases bcases (weirOk g o s c d) with h | h
  · obtain ⟨b1, b2, b3, b4, b5⟩ := weirOk_true h
    rcases bcases (inR op 0 (10 * g)) with h2 | h2
    · have HV := Lib.hid (move_yes h h2)
      go_enter Try.func42, Try.ntmps42
      go_wp2_with (first | (go_at_call 53; refine (i_inRange _ _ _ _).mono ?_; rintro e w' ⟨rfl, rfl⟩) | (go_at_call 23; refine (i_Clamp _ _ _ _).mono ?_; rintro e w' ⟨rfl, rfl⟩) | (go_at_call 31; refine (i_WeirOk _ _ _ _ _ _).mono ?_; rintro e w1 ⟨rfl, hb⟩; obtain ⟨cA, fA⟩ := kept2a hb; obtain ⟨cB, fB⟩ := kept2b hb; obtain hz := kept2z hb))
      refine bodyPost_ret (v := .agg #[.int .i64 g, .int .i64 (moveV g o s c d op), .int .i64 s, .int .i64 c, .int .i64 d]) (by simp [results, Try.results42, go_sem, cB, HV.out]) rfl ⟨rfl, ?_⟩
      repeat (refine Below.setCell ?_ (by simp) _)
      exact (((Below.refl _ _).alloc (Nat.le_refl _) _).alloc (by simp) _).trans (hb.mono (by simp; omega))
    · have HV := Lib.hid (move_no (o := o) (s := s) (c := c) (d := d) (.inr h2))
      go_enter Try.func42, Try.ntmps42
      go_wp2_with (first | (go_at_call 53; refine (i_inRange _ _ _ _).mono ?_; rintro e w' ⟨rfl, rfl⟩) | (go_at_call 23; refine (i_Clamp _ _ _ _).mono ?_; rintro e w' ⟨rfl, rfl⟩) | (go_at_call 31; refine (i_WeirOk _ _ _ _ _ _).mono ?_; rintro e w1 ⟨rfl, hb⟩; obtain ⟨cA, fA⟩ := kept2a hb; obtain ⟨cB, fB⟩ := kept2b hb; obtain hz := kept2z hb))
      refine bodyPost_ret (v := .agg #[.int .i64 g, .int .i64 (moveV g o s c d op), .int .i64 s, .int .i64 c, .int .i64 d]) (by simp [results, Try.results42, go_sem, cB, HV.out]) rfl ⟨rfl, ?_⟩
      repeat (refine Below.setCell ?_ (by simp) _)
      exact (((Below.refl _ _).alloc (Nat.le_refl _) _).alloc (by simp) _).trans (hb.mono (by simp; omega))
  · have HV := Lib.hid (move_no (op := op) (.inl h))
    go_enter Try.func42, Try.ntmps42
    go_wp2_with (first | (go_at_call 53; refine (i_inRange _ _ _ _).mono ?_; rintro e w' ⟨rfl, rfl⟩) | (go_at_call 23; refine (i_Clamp _ _ _ _).mono ?_; rintro e w' ⟨rfl, rfl⟩) | (go_at_call 31; refine (i_WeirOk _ _ _ _ _ _).mono ?_; rintro e w1 ⟨rfl, hb⟩; obtain ⟨cA, fA⟩ := kept2a hb; obtain ⟨cB, fB⟩ := kept2b hb; obtain hz := kept2z hb))
    refine bodyPost_ret (v := .agg #[.int .i64 g, .int .i64 (moveV g o s c d op), .int .i64 s, .int .i64 c, .int .i64 d]) (by simp [results, Try.results42, go_sem, cB, HV.out]) rfl ⟨rfl, ?_⟩
    repeat (refine Below.setCell ?_ (by simp) _)
    exact (((Below.refl _ _).alloc (Nat.le_refl _) _).alloc (by simp) _).trans (hb.mono (by simp; omega))

theorem s_MoveGate (g o s c d op : Int) (w : World) :
    Calls Try.prog 41 #[.agg #[.int .i64 g, .int .i64 o, .int .i64 s, .int .i64 c, .int .i64 d], .int .i64 op] w fun e w' => e = .returned (.agg #[.int .i64 g, .int .i64 (moveV g o s c d op), .int .i64 s, .int .i64 c, .int .i64 d]) ∧ Below w.heap.size w w' := by
  rcases bcases (weirOk g o s c d) with h | h
  · obtain ⟨b1, b2, b3, b4, b5⟩ := weirOk_true h
    rcases bcases (inR op 0 (10 * g)) with h2 | h2
    · obtain ⟨p1, p2⟩ := inR_true h2
      rcases (show op ≤ o - s ∨ o + s ≤ op ∨ (o - s < op ∧ op < o + s) from by omega) with h3 | h3 | h3
      · have HV := Lib.hid (show moveV g o s c d op = o - s by rw [move_yes h h2]; unfold clampV; split <;> (try split) <;> omega)
        go_enter Try.func41, Try.ntmps41
        go_wp2_with (first | (go_at_call 52; refine (s_l01In _ _ _ _).mono ?_; rintro e w' ⟨rfl, rfl⟩) | (go_at_call 29; refine (s_WeirOk _ _ _ _ _ _).mono ?_; rintro e w1 ⟨rfl, hb⟩; obtain ⟨cA, fA⟩ := kept2a hb; obtain ⟨cB, fB⟩ := kept2b hb; obtain hz := kept2z hb))
        refine bodyPost_ret (v := .agg #[.int .i64 g, .int .i64 (moveV g o s c d op), .int .i64 s, .int .i64 c, .int .i64 d]) (by simp [results, Try.results41, go_sem, cB, HV.out]) rfl ⟨rfl, ?_⟩
        repeat (refine Below.setCell ?_ (by simp) _)
        exact (((Below.refl _ _).alloc (Nat.le_refl _) _).alloc (by simp) _).trans (hb.mono (by simp; omega))
      · have HV := Lib.hid (show moveV g o s c d op = o + s by rw [move_yes h h2]; unfold clampV; split <;> (try split) <;> omega)
        go_enter Try.func41, Try.ntmps41
        go_wp2_with (first | (go_at_call 52; refine (s_l01In _ _ _ _).mono ?_; rintro e w' ⟨rfl, rfl⟩) | (go_at_call 29; refine (s_WeirOk _ _ _ _ _ _).mono ?_; rintro e w1 ⟨rfl, hb⟩; obtain ⟨cA, fA⟩ := kept2a hb; obtain ⟨cB, fB⟩ := kept2b hb; obtain hz := kept2z hb))
        refine bodyPost_ret (v := .agg #[.int .i64 g, .int .i64 (moveV g o s c d op), .int .i64 s, .int .i64 c, .int .i64 d]) (by simp [results, Try.results41, go_sem, cB, HV.out]) rfl ⟨rfl, ?_⟩
        repeat (refine Below.setCell ?_ (by simp) _)
        exact (((Below.refl _ _).alloc (Nat.le_refl _) _).alloc (by simp) _).trans (hb.mono (by simp; omega))
      · have HV := Lib.hid (show moveV g o s c d op = op by rw [move_yes h h2]; unfold clampV; split <;> (try split) <;> omega)
        go_enter Try.func41, Try.ntmps41
        go_wp2_with (first | (go_at_call 52; refine (s_l01In _ _ _ _).mono ?_; rintro e w' ⟨rfl, rfl⟩) | (go_at_call 29; refine (s_WeirOk _ _ _ _ _ _).mono ?_; rintro e w1 ⟨rfl, hb⟩; obtain ⟨cA, fA⟩ := kept2a hb; obtain ⟨cB, fB⟩ := kept2b hb; obtain hz := kept2z hb))
        all_goals
          refine bodyPost_ret (v := .agg #[.int .i64 g, .int .i64 (moveV g o s c d op), .int .i64 s, .int .i64 c, .int .i64 d]) (by simp [results, Try.results41, go_sem, cB, HV.out]) rfl ⟨rfl, ?_⟩
          repeat (refine Below.setCell ?_ (by simp) _)
          exact (((Below.refl _ _).alloc (Nat.le_refl _) _).alloc (by simp) _).trans (hb.mono (by simp; omega))
    · have HV := Lib.hid (move_no (o := o) (s := s) (c := c) (d := d) (.inr h2))
      go_enter Try.func41, Try.ntmps41
      go_wp2_with (first | (go_at_call 52; refine (s_l01In _ _ _ _).mono ?_; rintro e w' ⟨rfl, rfl⟩) | (go_at_call 29; refine (s_WeirOk _ _ _ _ _ _).mono ?_; rintro e w1 ⟨rfl, hb⟩; obtain ⟨cA, fA⟩ := kept2a hb; obtain ⟨cB, fB⟩ := kept2b hb; obtain hz := kept2z hb))
      refine bodyPost_ret (v := .agg #[.int .i64 g, .int .i64 (moveV g o s c d op), .int .i64 s, .int .i64 c, .int .i64 d]) (by simp [results, Try.results41, go_sem, cB, HV.out]) rfl ⟨rfl, ?_⟩
      repeat (refine Below.setCell ?_ (by simp) _)
      exact (((Below.refl _ _).alloc (Nat.le_refl _) _).alloc (by simp) _).trans (hb.mono (by simp; omega))
  · have HV := Lib.hid (move_no (op := op) (.inl h))
    go_enter Try.func41, Try.ntmps41
    go_wp2_with (first | (go_at_call 52; refine (s_l01In _ _ _ _).mono ?_; rintro e w' ⟨rfl, rfl⟩) | (go_at_call 29; refine (s_WeirOk _ _ _ _ _ _).mono ?_; rintro e w1 ⟨rfl, hb⟩; obtain ⟨cA, fA⟩ := kept2a hb; obtain ⟨cB, fB⟩ := kept2b hb; obtain hz := kept2z hb))
    refine bodyPost_ret (v := .agg #[.int .i64 g, .int .i64 (moveV g o s c d op), .int .i64 s, .int .i64 c, .int .i64 d]) (by simp [results, Try.results41, go_sem, cB, HV.out]) rfl ⟨rfl, ?_⟩
    repeat (refine Below.setCell ?_ (by simp) _)
    exact (((Below.refl _ _).alloc (Nat.le_refl _) _).alloc (by simp) _).trans (hb.mono (by simp; omega))
end Go.Proofs.Ytlilnhlkfooihaa
