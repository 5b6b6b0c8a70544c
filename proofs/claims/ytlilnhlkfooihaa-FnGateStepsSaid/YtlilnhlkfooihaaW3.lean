/- The walks of the laws FnQuotients and FnClamped, and the plain facts behind them. -/
import Derived.Test.YtlilnhlkfooihaaDraw2
namespace Go.Proofs.Ytlilnhlkfooihaa
open Go.RowKit

theorem fdiv_facts {a b : Int} (hb : 0 < b) (h1 : -1000000 ≤ a) (h2 : a ≤ 1000000) :
    fdivV a b * b ≤ a ∧ a < (fdivV a b + 1) * b ∧ -1000001 ≤ fdivV a b ∧ fdivV a b ≤ 1000000 ∧ a - b < fdivV a b * b ∧ (fdivV a b + 1) * b ≤ a + b := by
  have e := Int.mul_tdiv_add_tmod a b
  have m1 : a.tmod b < b := Int.tmod_lt_of_pos a hb
  have m2 : -b < a.tmod b := by
    have := Int.lt_tmod_of_pos a hb; omega
  have s1 : 0 ≤ a → 0 ≤ a.tmod b := fun h => Int.tmod_nonneg b h
  have t1 : a.tdiv b ≤ 1000000 := by
    rcases Int.lt_or_le 1000000 (a.tdiv b) with h | h
    · have : b * 1000001 ≤ b * a.tdiv b := Int.mul_le_mul_of_nonneg_left (by omega) (by omega)
      rcases Int.lt_or_le a 0 with ha | ha
      · omega
      · have := s1 ha; omega
    · exact h
  have t2 : -1000000 ≤ a.tdiv b := by
    rcases Int.lt_or_le (a.tdiv b) (-1000000) with h | h
    · have : b * a.tdiv b ≤ b * (-1000001) := Int.mul_le_mul_of_nonneg_left (by omega) (by omega)
      omega
    · exact h
  have hf : fdivV a b = if a.tmod b < 0 then a.tdiv b - 1 else a.tdiv b := by
    have w1 : wrap64 (a.tdiv b) = a.tdiv b := IntWalk.wrap64_in _ ⟨by omega, by omega⟩
    have w2 : wrap64 (a.tdiv b - 1) = a.tdiv b - 1 := IntWalk.wrap64_in _ ⟨by omega, by omega⟩
    unfold fdivV
    rw [if_neg (by omega), w1, w2]
  rw [hf]
  clear hf s1
  generalize a.tdiv b = t at *
  generalize a.tmod b = m at *
  by_cases hm : m < 0
  · rw [if_pos hm]
    have x1 : (t - 1) * b = b * t - b := by rw [Int.sub_mul, Int.one_mul, Int.mul_comm]
    have x2 : (t - 1 + 1) * b = b * t := by rw [Int.sub_add_cancel, Int.mul_comm]
    rw [x1, x2]
    omega
  · rw [if_neg hm]
    have x1 : t * b = b * t := Int.mul_comm _ _
    have x2 : (t + 1) * b = b * t + b := by rw [Int.add_mul, Int.one_mul, Int.mul_comm]
    rw [x1, x2]
    omega

theorem clamp_low {n lo hi : Int} (h : hi < lo) : clampV n lo hi = lo := by unfold clampV; rw [if_pos (.inl h)]
theorem clamp_in {n lo hi : Int} (h : lo ≤ hi) : lo ≤ clampV n lo hi ∧ clampV n lo hi ≤ hi := by unfold clampV; split <;> (try split) <;> omega
theorem clamp_fix {x lo hi : Int} (h1 : lo ≤ x) (h2 : x ≤ hi) : clampV x lo hi = x := by unfold clampV; rw [if_neg (by omega), if_neg (by omega)]
theorem clamp_753 : clampV 7 3 5 = 5 := by decide

set_option maxHeartbeats 1000000 in
theorem walk_FnClamped (A : Option Addr) (n c : Nat) (zs : List Int) (w : World) (hB : BytesAt w w.heap.size A n zs) :
    Calls Try.prog 13 #[.slice A n c] w fun e w' => e = .returned (.bool true) ∧ Below w.heap.size w w' := by
  have h753 := clamp_753
  by_cases hbig : 1048576 < n
  · have hb : decide (1048576 < n) = true := by simpa using hbig
    clear hB
    go_enter Try.func13, Try.ntmps13
    go_wp2_with (go_at_call 38; refine (l_big _ _ _ _).mono ?_; rintro e w' ⟨rfl, rfl⟩)
    go_ret
    exact ⟨rfl, Below.refl _ _⟩
  · have hb : decide (1048576 < n) = false := by simpa using hbig
    go_enter Try.func13, Try.ntmps13
    go_wp2_with fail
    refine (l_big _ _ _ _).mono ?_; rintro e w' ⟨rfl, rfl⟩
    go_wp2_with fail
    refine (s_DrawClamp A n c zs _ hB (by omega)).mono ?_; rintro e w1 ⟨x, lo, hi, rfl, hW⟩
    clear hB hb hbig
    go_wp2_with fail
    refine (i_Clamp _ _ _ _).mono ?_; rintro e w' ⟨rfl, rfl⟩
    rcases Int.lt_or_le hi lo with hl | hl
    · rw [clamp_low hl]
      go_wp2_with (go_at_call 23; refine (i_Clamp _ _ _ _).mono ?_; rintro e w' ⟨rfl, rfl⟩)
      go_ret
      exact ⟨rfl, hW⟩
    · obtain ⟨q1, q2⟩ := clamp_in (n := x) hl
      have hfix := clamp_fix q1 q2
      have hxn : x < lo ∨ hi < x ∨ (lo ≤ x ∧ x ≤ hi ∧ clampV x lo hi = x) := by
        rcases Int.lt_or_le x lo with h | h
        · exact .inl h
        · rcases Int.lt_or_le hi x with h' | h'
          · exact .inr (.inl h')
          · exact .inr (.inr ⟨h, h', clamp_fix h h'⟩)
      generalize clampV x lo hi = y at *
      rcases hxn with h | h | ⟨h, h', he⟩
      · go_wp2_with (go_at_call 23; refine (i_Clamp _ _ _ _).mono ?_; rintro e w' ⟨rfl, rfl⟩)
        go_ret
        exact ⟨rfl, hW⟩
      · have h2 : lo ≤ x := by omega
        go_wp2_with (go_at_call 23; refine (i_Clamp _ _ _ _).mono ?_; rintro e w' ⟨rfl, rfl⟩)
        go_ret
        exact ⟨rfl, hW⟩
      · subst he
        go_wp2_with (go_at_call 23; refine (i_Clamp _ _ _ _).mono ?_; rintro e w' ⟨rfl, rfl⟩)
        go_ret
        exact ⟨rfl, hW⟩

theorem rb_facts {a b : Int} (a0 : 0 ≤ a) (a1 : a ≤ 255) (b0 : 1 ≤ b) (b1 : b ≤ 256) : rb0 a b = nextV a ∧ 0 ≤ rb1 a b ∧ rb1 a b < b := by
  have h1 : inR a 0 65535 = true := inR_mk a0 (by omega)
  have h2 : inR b 1 4096 = true := inR_mk b0 (by omega)
  unfold rb0 rb1
  rw [if_pos ⟨h1, h2⟩, if_pos ⟨h1, h2⟩]
  exact ⟨rfl, Int.emod_nonneg _ (by omega), Int.emod_lt_of_pos _ (by omega)⟩
theorem root_facts {n : Int} (n0 : 0 ≤ n) (n1 : n ≤ 16777215) : 0 ≤ rootV n ∧ rootV n ≤ 4096 ∧ rootV n * rootV n ≤ n ∧ n < (rootV n + 1) * (rootV n + 1) ∧ 0 ≤ rootV n * rootV n ∧ (rootV n + 1) * (rootV n + 1) ≤ 4097 * 4097 := by
  have h : rootV n = isq n := by unfold rootV; rw [if_pos (inR_mk n0 (by omega))]
  rw [h]
  have h1 := isq_nonneg n
  have h2 : isq n ≤ 4096 := isq_le n0 (by omega) (by omega)
  exact ⟨h1, h2, (isq_spec n n0).1, (isq_spec n n0).2, Int.mul_nonneg h1 h1, sq_mono (by omega) (by omega)⟩
theorem root_neg : rootV (-1) = -1 := by unfold rootV; rw [inR_no (by omega)]; rfl

theorem l_atI (A : Option Addr) (n c : Nat) (zs : List Int) (i : Int) (k : Nat) (H : Nat) (w : World) (hik : i = (k : Int)) (h : BytesAt w H A n zs) (hi : k ≤ 1000) (hn : n ≤ 1048576) :
    Calls Try.prog 39 #[.slice A n c, .int .i64 i] w fun e w' => e = .returned (.int .i64 (atV zs k)) ∧ w = w' := by
  subst hik; exact l_at A n c zs k H w h hi hn

set_option maxHeartbeats 1000000 in
theorem walk_FnQuotients (A : Option Addr) (n c : Nat) (zs : List Int) (w : World) (hB : BytesAt w w.heap.size A n zs) :
    Calls Try.prog 12 #[.slice A n c] w fun e w' => e = .returned (.bool true) ∧ Below w.heap.size w w' := by
  by_cases hbig : 1048576 < n
  · have hb : decide (1048576 < n) = true := by simpa using hbig
    clear hB
    go_enter Try.func12, Try.ntmps12
    go_wp2_with (go_at_call 38; refine (l_big _ _ _ _).mono ?_; rintro e w' ⟨rfl, rfl⟩)
    go_ret
    exact ⟨rfl, Below.refl _ _⟩
  · have hb : decide (1048576 < n) = false := by simpa using hbig
    have a0 := atV_bd hB 0
    have a1 := atV_bd hB 1
    have a2 := atV_bd hB 2
    have a3 := atV_bd hB 3
    have a4 := atV_bd hB 4
    have a5 := atV_bd hB 5
    have a6 := atV_bd hB 6
    obtain ⟨f1, f2, f3, f4, f5, f6⟩ := fdiv_facts (a := atV zs 0 * 256 + atV zs 1 - 30000) (b := 1 + atV zs 2) (by omega) (by omega) (by omega)
    obtain ⟨r1, r2, r3, r4, r5, r6⟩ := root_facts (n := atV zs 3 * 65536 + atV zs 4 * 256 + atV zs 5) (by omega) (by omega)
    obtain ⟨s1, s2, s3⟩ := rb_facts (a := atV zs 6) (b := 1 + atV zs 2) (by omega) (by omega) (by omega) (by omega)
    have rn := root_neg
    have HB := Lib.hid hB
    clear hB
    go_enter Try.func12, Try.ntmps12
    go_wp2_with fail
    refine (l_big _ _ _ _).mono ?_; rintro e w' ⟨rfl, rfl⟩
    go_wp2_with fail
    refine (l_atI A n c zs 0 0 w.heap.size _ rfl HB.out (by omega) (by omega)).mono ?_; rintro e w' ⟨rfl, rfl⟩
    go_wp2_with fail
    refine (l_atI A n c zs 1 1 w.heap.size _ rfl HB.out (by omega) (by omega)).mono ?_; rintro e w' ⟨rfl, rfl⟩
    go_wp2_with fail
    refine (l_atI A n c zs 2 2 w.heap.size _ rfl HB.out (by omega) (by omega)).mono ?_; rintro e w' ⟨rfl, rfl⟩
    go_wp2_with fail
    refine (i_FloorDiv _ _ _).mono ?_; rintro e w' ⟨rfl, rfl⟩
    go_wp2_with fail
    refine (l_atI A n c zs 3 3 w.heap.size _ rfl HB.out (by omega) (by omega)).mono ?_; rintro e w' ⟨rfl, rfl⟩
    go_wp2_with fail
    refine (l_atI A n c zs 4 4 w.heap.size _ rfl HB.out (by omega) (by omega)).mono ?_; rintro e w' ⟨rfl, rfl⟩
    go_wp2_with fail
    refine (l_atI A n c zs 5 5 w.heap.size _ rfl HB.out (by omega) (by omega)).mono ?_; rintro e w' ⟨rfl, rfl⟩
    go_wp2_with fail
    refine (i_RootOf _ _).mono ?_; rintro e w' ⟨rfl, rfl⟩
    go_wp2_with fail
    refine (l_atI A n c zs 6 6 w.heap.size _ rfl HB.out (by omega) (by omega)).mono ?_; rintro e w' ⟨rfl, rfl⟩
    go_wp2_with fail
    refine (i_RandomBelow _ _ _).mono ?_; rintro e w1 ⟨rfl, k, rfl⟩
    have HB2 := Lib.hid (HB.out.keep (w' := w.drewN k) (fun _ _ => rfl))
    go_wp2_with (first | (go_at_call 39; refine (l_atI A n c zs 6 6 w.heap.size _ rfl HB2.out (by omega) (by omega)).mono ?_; rintro e w' ⟨rfl, rfl⟩) | (go_at_call 21; refine (i_NextRandom _ _).mono ?_; rintro e w' ⟨rfl, rfl⟩) | (go_at_call 37; refine (i_RootOf _ _).mono ?_; rintro e w' ⟨rfl, rfl⟩))
    go_ret
    exact ⟨rfl, below_drewN (Below.refl _ _) _⟩
end Go.Proofs.Ytlilnhlkfooihaa
