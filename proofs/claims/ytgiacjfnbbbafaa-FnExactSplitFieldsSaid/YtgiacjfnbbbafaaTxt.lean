/- Texts: digits, and the contract of the reference's FormatInt. -/
import Derived.Test.YtgiacjfnbbbafaaMem
import Derived.Test.YtgiacjfnbbbafaaArith
import Derived.Laws.IdiomStrings
import Derived.Laws.Concat
import Derived.Lib.ItoaNum
import Derived.Lib.UnsafeStr
namespace Go.Proofs.Ytgiacjfnbbbafaa
open Go.RowKit

theorem ret_str {a b : ByteArray} (h : a = b) : Ending.returned (.string a) = .returned (.string b) := by rw [h]
/-- The digits of a number, none for 0. -/
def digs (m : Nat) : List UInt8 := if m = 0 then [] else Lib.decDigits m
theorem digs_step {m : Nat} (h : 0 < m) : digs m = digs (m / 10) ++ [UInt8.ofNat (48 + m % 10)] := by
  unfold digs
  rw [if_neg (by omega)]
  by_cases h1 : m < 10
  · rw [Lib.decDigits, dif_pos h1, if_pos (by omega), show m % 10 = m by omega]; rfl
  · rw [Lib.decDigits, dif_neg h1, if_neg (by omega)]
/-- The digits still to come, and those that are there. -/
def Fmt (m0 m : Nat) (l : List UInt8) : Prop := digs m0 = digs m ++ l
theorem fmt_step {m0 m : Nat} {l : List UInt8} (h : Fmt m0 m l) (hm : 0 < m) : Fmt m0 (m / 10) (UInt8.ofNat (48 + m % 10) :: l) := by
  unfold Fmt at *; rw [h, digs_step hm]; simp
theorem fmt_end {m0 : Nat} {l : List UInt8} (h : Fmt m0 0 l) (h0 : 0 < m0) : l = Lib.decDigits m0 := by
  unfold Fmt digs at h; rw [if_neg (by omega), if_pos rfl] at h; simpa using h.symm
theorem ba_cons (c : UInt8) (l : List UInt8) : (ByteArray.mk #[c] ++ ByteArray.mk l.toArray) = ByteArray.mk (c :: l).toArray := ByteArray.mk_append_mk [c] l
theorem u8_digit {k : Nat} (h : k < 10) : ((UInt8.ofNat (48 + k)).toNat : Int) = 48 + (k : Int) := by
  simp [UInt8.toNat_ofNat']; omega

theorem s_l01Figure (k : Nat) (w : World) (h : k < 10) :
    Calls Try.prog 18 #[.int .i64 (k : Int)] w fun e w' => e = .returned (.int .u8 ((UInt8.ofNat (48 + k)).toNat : Int)) ∧ w = w' := by
  have HU := Lib.hid (u8_digit h)
  have h1 : (k : Int) < 10 := by omega
  have h0 : (0 : Int) ≤ (k : Int) := by omega
  go_enter Try.func18, Try.ntmps18
  go_wp2
  go_ret
  exact ⟨ret_int HU.out.symm, rfl⟩
def figU (x : Int) : UInt8 := UInt8.ofNat (48 + x.toNat)
theorem s_l01FigI (x : Int) (w : World) (h0 : 0 ≤ x) (h : x < 10) :
    Calls Try.prog 18 #[.int .i64 x] w fun e w' => e = .returned (.int .u8 ((figU x).toNat : Int)) ∧ w = w' := by
  obtain ⟨k, rfl⟩ : ∃ k : Nat, x = (k : Int) := ⟨x.toNat, by omega⟩
  exact s_l01Figure k w (by omega)
theorem ba_add (P : Program) (W : World) (c : UInt8) (l : List UInt8) (h : l.length ≤ 9223372036854775806) : (Op.stringOp .add ⟨#[c]⟩ ⟨l.toArray⟩).run P W = .ok (.string ⟨(c :: l).toArray⟩) W := by
  rw [run_string_add_sum (P := P) (w := W) _ _ (by simp [ByteArray.size]; omega), ba_cons]
/-- 'string([]byte{c})'. -/
theorem conv_one (W : World) (c : UInt8) : (convert 32 9 (.slice (some ⟨W.heap.size, 0, none⟩) 1 1)).run Try.prog (W.alloc (.cells #[.int .u8 (c.toNat : Int)] 5)) = .ok (.string ⟨#[c]⟩) (W.alloc (.cells #[.int .u8 (c.toNat : Int)] 5)) := by
  refine run_convert_bytes_back _ _ _ 5 ⟨W.heap.size, 0, none⟩ 1 [c] Try.underlying32 Try.underlying5 Try.underlying9 (fun j hj => ?_)
  obtain rfl : j = 0 := by simp at hj; exact hj
  rw [show ∀ p : Addr, p.add 0 = p from fun p => by simp [Addr.add], (Blk.new W 5 #[.int .u8 (c.toNat : Int)]).cell 0]
  rfl

set_option maxHeartbeats 2000000 in
theorem s_FormatInt_pos (m0 : Nat) (w : World) (h0 : 0 < m0) (h1 : m0 ≤ 9223372036854775807) :
    Calls Try.prog 21 #[.int .i64 (m0 : Int)] w fun e w' => e = .returned (.string ⟨(Lib.decDigits m0).toArray⟩) ∧ Below w.heap.size w w' := by
  have g0 : (0 : Int) < (m0 : Int) := by omega
  have g1 : ((m0 : Int) == 0) = false := by simp only [beq_eq_false_iff_ne, ne_eq]; omega
  have HE := Lib.hid (fun (l : List UInt8) (h : Fmt m0 0 l) => fmt_end h h0)
  go_enter Try.func21, Try.ntmps21
  go_wp2_with fail
  go_loopw [0, 4] (fun v0 v4 wr => ∃ (m : Nat) (l : List UInt8), m ≤ m0 ∧ v0 = .int .i64 (m : Int) ∧ v4 = .string ⟨l.toArray⟩ ∧ l.length + m ≤ 9223372036854775807 ∧ Fmt m0 m l ∧ Below w.heap.size w wr) (fun v0 _ _ => (intOf v0).toNat)
  case atStart => exact ⟨m0, [], Nat.le_refl _, rfl, rfl, by simpa using h1, by simp [Fmt], Below.refl _ _⟩
  case round =>
    obtain ⟨m, l, hm, rfl, rfl, hl, hF, hW⟩ := hrel
    by_cases hz : m = 0
    · subst hz
      have HX := Lib.hid (HE.out l hF)
      clear hF
      go_wp2
      go_ret
      exact ⟨ret_str (by rw [HX.out]), hW⟩
    · have z1 : ((m : Int) != 0) = true := by simp only [bne_iff_ne, ne_eq]; omega
      have z2 : (0 : Int) < (m : Int) := by omega
      have z3 : (0 : Int) ≤ (m : Int) % 10 := by omega
      have z4 : (m : Int) % 10 < 10 := by omega
      have HS := Lib.hid (fmt_step hF (by omega))
      have HC : figU ((m : Int) % 10) = UInt8.ofNat (48 + m % 10) := by unfold figU; congr 2
      have HD := Lib.hid HC
      have hcv := conv_one wr (figU ((m : Int) % 10))
      have had := ba_add Try.prog (wr.alloc (.cells #[.int .u8 ((figU ((m : Int) % 10)).toNat : Int)] 5)) (figU ((m : Int) % 10)) l (by omega)
      clear hF HC
      go_wp2_with (go_at_call 18; refine (s_l01FigI _ _ z3 z4).mono ?_; rintro e w' ⟨rfl, rfl⟩)
      go_roundw
      case rel => exact ⟨m / 10, UInt8.ofNat (48 + m % 10) :: l, by omega, by go_num, by rw [HD.out], by simp; omega, HS.out, hW.alloc hW.size _⟩
      case measure => simp [intOf]; omega

/-- Few digits are there. -/
def Few (m0 m : Nat) (l : List UInt8) : Prop := l.length ≤ 19 ∧ m * 10 ^ l.length ≤ m0
theorem few_step {m0 m : Nat} {l : List UInt8} (h : Few m0 m l) (hm : 0 < m) (h1 : m0 ≤ 9223372036854775808) (c : UInt8) : Few m0 (m / 10) (c :: l) := by
  obtain ⟨_, h3⟩ := h
  have h4 : l.length ≤ 18 := by
    rcases Nat.lt_or_ge l.length 19 with h | h
    · omega
    · have a : 10 ^ 19 ≤ 10 ^ l.length := Nat.pow_le_pow_right (by omega) h
      have b : 1 * 10 ^ l.length ≤ m * 10 ^ l.length := Nat.mul_le_mul_right _ hm
      omega
  refine ⟨by simp; omega, ?_⟩
  simp only [List.length_cons, Nat.pow_succ]
  have : m / 10 * (10 ^ l.length * 10) = (m / 10 * 10) * 10 ^ l.length := by
    rw [Nat.mul_comm (10 ^ l.length) 10, Nat.mul_assoc]
  rw [this]
  exact Nat.le_trans (Nat.mul_le_mul_right _ (by omega)) h3
theorem neg_rem (m : Nat) : Int.tmod (-(m : Int)) 10 = -((m % 10 : Nat) : Int) := by rw [Int.neg_tmod, Int.tmod_eq_emod_of_nonneg (by omega)]; omega
theorem neg_quo (m : Nat) : Int.tdiv (-(m : Int)) 10 = -((m / 10 : Nat) : Int) := by rw [Int.neg_tdiv, Int.tdiv_eq_ediv_of_nonneg (by omega)]; omega

set_option maxHeartbeats 2000000 in
theorem s_FormatInt_neg (m0 : Nat) (w : World) (h0 : 0 < m0) (h1 : m0 ≤ 9223372036854775808) :
    Calls Try.prog 21 #[.int .i64 (-(m0 : Int))] w fun e w' => e = .returned (.string ⟨(45 :: Lib.decDigits m0).toArray⟩) ∧ Below w.heap.size w w' := by
  have g0 : -(m0 : Int) < 0 := by omega
  have g1 : (-(m0 : Int) == 0) = false := by simp only [beq_eq_false_iff_ne, ne_eq]; omega
  have HE := Lib.hid (fun (l : List UInt8) (h : Fmt m0 0 l) => fmt_end h h0)
  go_enter Try.func21, Try.ntmps21
  go_wp2_with fail
  go_loopw [0, 4] (fun v0 v4 wr => ∃ (m : Nat) (l : List UInt8), m ≤ m0 ∧ v0 = .int .i64 (-(m : Int)) ∧ v4 = .string ⟨l.toArray⟩ ∧ Few m0 m l ∧ Fmt m0 m l ∧ Below w.heap.size w wr) (fun v0 _ _ => (-(intOf v0)).toNat)
  case atStart => exact ⟨m0, [], Nat.le_refl _, rfl, rfl, ⟨by simp, by simp⟩, by simp [Fmt], Below.refl _ _⟩
  case round =>
    obtain ⟨m, l, hm, rfl, rfl, hl, hF, hW⟩ := hrel
    have hl1 := hl.1
    by_cases hz : m = 0
    · subst hz
      have HX := Lib.hid (HE.out l hF)
      have had := ba_add Try.prog wr 45 l (by omega)
      clear hF
      go_wp2
      go_ret
      exact ⟨ret_str (by rw [HX.out]), hW⟩
    · have z1 : (-(m : Int) != 0) = true := by simp only [bne_iff_ne, ne_eq]; omega
      have z2 : -(m : Int) < 0 := by omega
      have r1 := neg_rem m
      have r2 := neg_quo m
      have HS := Lib.hid (fmt_step hF (by omega))
      have HL := Lib.hid (few_step hl (by omega) h1 (UInt8.ofNat (48 + m % 10)))
      clear hF hl
      have k9 : m % 10 < 10 := Nat.mod_lt _ (by omega)
      have q9 : m / 10 < m := by omega
      have hfx : figU ((m % 10 : Nat) : Int) = UInt8.ofNat (48 + m % 10) := by unfold figU; congr 2
      have HD := Lib.hid hfx
      clear hfx
      generalize m % 10 = k at *
      generalize m / 10 = q at *
      have hcv := conv_one wr (figU (k : Int))
      have had := ba_add Try.prog (wr.alloc (.cells #[.int .u8 ((figU (k : Int)).toNat : Int)] 5)) (figU (k : Int)) l (by omega)
      by_cases hk : k = 0
      · subst hk
        have z3 : ¬ (-((0 : Nat) : Int) < 0) := by omega
        have z4 : -((0 : Nat) : Int) = 0 := by omega
        rw [z4] at r1
        clear z3 z4 hcv had
        have hcv := conv_one wr (figU 0)
        have had := ba_add Try.prog (wr.alloc (.cells #[.int .u8 ((figU 0).toNat : Int)] 5)) (figU 0) l (by omega)
        go_wp2_with (go_at_call 18; refine (s_l01FigI _ _ (by omega) (by omega)).mono ?_; rintro e w' ⟨rfl, rfl⟩)
        go_roundw
        case rel => exact ⟨q, _, by omega, rfl, by rw [← HD.out]; rfl, HL.out, HS.out, hW.alloc hW.size _⟩
        case measure => simp [intOf]; omega
      · have z3 : -(k : Int) < 0 := by omega
        go_wp2_with (go_at_call 18; refine (s_l01FigI _ _ (by omega) (by omega)).mono ?_; rintro e w' ⟨rfl, rfl⟩)
        go_roundw
        case rel => exact ⟨q, _, by omega, rfl, by rw [← HD.out], HL.out, HS.out, hW.alloc hW.size _⟩
        case measure => simp [intOf]; omega

theorem s_FormatInt (n : Int) (w : World) (h0 : -9223372036854775808 ≤ n) (h1 : n ≤ 9223372036854775807) :
    Calls Try.prog 21 #[.int .i64 n] w fun e w' => e = .returned (.string ⟨(Lib.itoa n).toArray⟩) ∧ Below w.heap.size w w' := by
  rcases Int.lt_trichotomy n 0 with h | h | h
  · obtain ⟨m, rfl⟩ : ∃ m : Nat, n = -(m : Int) := ⟨n.natAbs, by omega⟩
    have e : Lib.itoa (-(m : Int)) = 45 :: Lib.decDigits m := by unfold Lib.itoa; rw [if_pos h]; congr 2; omega
    rw [e]
    exact s_FormatInt_neg m w (by omega) (by omega)
  · subst h
    have e : Lib.itoa 0 = [48] := by unfold Lib.itoa; rw [if_neg (by omega)]; exact Lib.decDigits_one (by decide)
    rw [e]
    go_enter Try.func21, Try.ntmps21
    go_wp2
    go_ret
    exact ⟨rfl, Below.refl _ _⟩
  · obtain ⟨m, rfl⟩ : ∃ m : Nat, n = (m : Int) := ⟨n.toNat, by omega⟩
    have e : Lib.itoa (m : Int) = Lib.decDigits m := by unfold Lib.itoa; rw [if_neg (by omega)]; congr 1
    rw [e]
    exact s_FormatInt_pos m w (by omega) (by omega)
end Go.Proofs.Ytgiacjfnbbbafaa
