/- Contracts of ParseUint (program and reference). -/
import Derived.Test.YtcnnnhlbnpollaaDoorTxt
import Derived.Test.YtcnnnhlbnpollaaDoorNum
namespace Go.Proofs.YtcnnnhlbnpollaaDoor
open Go.RowKit

theorem ret_nb {a b : Int} {p q : Bool} (h : a = b) (h' : p = q) : Ending.returned (.tuple #[.int .i64 a, .bool p]) = .returned (.tuple #[.int .i64 b, .bool q]) := by rw [h, h']
theorem ba_at (s : ByteArray) (k : Nat) (h : k < s.size) : s.data.toList[k]'(by simpa using h) = s[k] := rfl
theorem ba_len (s : ByteArray) : s.data.toList.length = s.size := Array.length_toList
theorem ba_take (s : ByteArray) : s.data.toList.take s.size = s.data.toList := List.take_of_length_le (by rw [ba_len]; exact Nat.le_refl _)
def DigTo (l : List UInt8) (k : Nat) (n : Int) : Prop := allDig (l.take k) = true ∧ n = (valD (l.take k) : Int)
theorem digTo_step {s : ByteArray} {k : Nat} {n : Int} (h : DigTo s.data.toList k n) (hk : k < s.size) (hd : isDig s[k] = true) : DigTo s.data.toList (k + 1) (10 * n + (s[k].toNat : Int) - 48) := by
  obtain ⟨h1, h2⟩ := h
  obtain ⟨a, b⟩ := dig_step (l := s.data.toList) (k := k) (by rw [ba_len]; exact hk) (by rw [ba_at s k hk]; exact hd) h1
  refine ⟨a, ?_⟩
  rw [b, h2, ba_at s k hk]
  have := dig_bd hd
  omega
theorem digTo_bd {s : ByteArray} {k : Nat} {n : Int} (h : DigTo s.data.toList k n) (hk : k ≤ 10) : 0 ≤ n ∧ n < 10000000000 := by
  obtain ⟨h1, h2⟩ := h
  have := valD_bd h1 (Nat.le_trans (List.length_take_le _ _) hk)
  omega
theorem lead_no {s : ByteArray} (h : s.size = 0) : leadOk s.data.toList = false := by
  have : s.data.toList = [] := List.eq_nil_of_length_eq_zero (by rw [ba_len]; exact h)
  rw [this]; rfl
theorem lead_first {s : ByteArray} (h0 : 0 < s.size) : s.data.toList.getD 0 0 = s[0] := by
  rw [← ba_at s 0 h0, List.getD_eq_getElem?_getD, List.getElem?_eq_getElem (by rw [ba_len]; exact h0)]; rfl
theorem lead_zero {s : ByteArray} (h1 : 1 < s.size) (h : s[0].toNat = 48) : leadOk s.data.toList = false := by
  unfold leadOk
  rw [ba_len, lead_first (by omega)]
  have e : s[0] = 48 := UInt8.toNat_inj.1 (by simpa using h)
  have : decide (s.size = 1) = false := by simp; omega
  rw [this, e]; simp
theorem lead_yes {s : ByteArray} (h0 : 0 < s.size) (h : ¬ (1 < s.size ∧ s[0].toNat = 48)) : leadOk s.data.toList = true := by
  unfold leadOk
  rw [ba_len, lead_first h0]
  by_cases h1 : s.size = 1
  · simp [h1]
  · have : s[0] ≠ 48 := fun e => h ⟨by omega, by rw [e]; rfl⟩
    simp [this, h0]

set_option maxHeartbeats 1000000 in
theorem i_ParseUint (s : ByteArray) (w : World) (hs : s.size ≤ 9223372036854775807) :
    Calls Tryd.prog 11 #[.string s] w fun e w' => e = .returned (.tuple #[.int .i64 (parseN s.data.toList), .bool (parseB s.data.toList)]) ∧ w = w' := by
  by_cases h0 : s.size = 0
  · have HV := Lib.hid (parse_no (l := s.data.toList) (.inr (.inr (.inr (lead_no h0)))))
    have g1 : ((s.size : Int) == 0) = true := by rw [beq_iff_eq]; omega
    have g2 : (s.size : Int) ≤ 0 := by omega
    clear h0
    go_enter Tryd.func11, Tryd.ntmps11
    go_wp2
    go_ret2
    exact ⟨ret_nb HV.out.2.symm HV.out.1.symm, rfl⟩
  · have g1 : ((s.size : Int) == 0) = false := by simp only [beq_eq_false_iff_ne, ne_eq]; omega
    have g2 : (0 : Int) < (s.size : Int) := by omega
    have g3 : 0 < s.size := by omega
    by_cases h10 : 10 < s.size
    · have HV := Lib.hid (parse_no (l := s.data.toList) (.inl (by rw [ba_len]; exact h10)))
      have g4 : (10 : Int) < (s.size : Int) := by omega
      go_enter Tryd.func11, Tryd.ntmps11
      go_wp2
      go_ret2
      exact ⟨ret_nb HV.out.2.symm HV.out.1.symm, rfl⟩
    · have g4 : (s.size : Int) ≤ 10 := by omega
      by_cases hl : 1 < s.size ∧ s[0].toNat = 48
      · have HV := Lib.hid (parse_no (l := s.data.toList) (.inr (.inr (.inr (lead_zero hl.1 hl.2)))))
        have g5 : (1 : Int) < (s.size : Int) := by omega
        have g6 : ((s[0].toNat : Int) == 48) = true := by rw [beq_iff_eq]; omega
        clear hl
        go_enter Tryd.func11, Tryd.ntmps11
        go_wp2
        go_ret2
        exact ⟨ret_nb HV.out.2.symm HV.out.1.symm, rfl⟩
      · have HL := Lib.hid (lead_yes g3 hl)
        have hl' : (s.size : Int) ≤ 1 ∨ ((s[0].toNat : Int) == 48) = false := by
          by_cases h1 : 1 < s.size
          · right; simp only [beq_eq_false_iff_ne, ne_eq]; intro e; exact hl ⟨h1, by omega⟩
          · left; omega
        clear hl
        rcases hl' with g5 | g5
        all_goals
          go_enter Tryd.func11, Tryd.ntmps11
          go_wp2
        all_goals
          go_loop [4, 5] (fun v4 v5 => ∃ (k : Nat) (n : Int), k ≤ s.size ∧ v4 = .int .i64 n ∧ v5 = .int .i64 k ∧ DigTo s.data.toList k n ∧ 0 ≤ n ∧ n < 10000000000) (fun _ v5 => s.size - (intOf v5).toNat)
          case atStart => exact ⟨0, 0, by omega, rfl, rfl, ⟨rfl, rfl⟩, by omega, by omega⟩
          case round =>
            obtain ⟨k, n, hk, rfl, rfl, hD, n0, n1⟩ := hrel
            by_cases hlt : k < s.size
            · have e3 : (k : Int) < (s.size : Int) := by omega
              rcases bcases (isDig s[k]) with hd | hd
              · have hbd := dig_bd hd
                have c1 : (48 : Int) ≤ (s[k].toNat : Int) := by omega
                have c2 : (s[k].toNat : Int) ≤ 57 := by omega
                have hS := digTo_step hD hlt hd
                have hb := digTo_bd hS (by omega)
                have HS := Lib.hid hS
                clear hD hS hd hbd
                go_wp2
                go_round
                case rel => exact ⟨k + 1, 10 * n + (s[k].toNat : Int) - 48, by omega, by go_num, by go_num, HS.out, hb.1, hb.2⟩
                case measure => simp [intOf]; omega
              · have HV := Lib.hid (parse_no (l := s.data.toList) (.inr (.inl (dig_no (k := k) (by rw [ba_len]; exact hlt) (by rw [ba_at s k hlt]; exact hd)))))
                have hc : (s[k].toNat : Int) < 48 ∨ (48 ≤ (s[k].toNat : Int) ∧ 57 < (s[k].toNat : Int)) := by
                  simp only [isDig, Bool.and_eq_false_iff, decide_eq_false_iff_not] at hd; omega
                clear hD hd
                rcases hc with hc | ⟨hc, hc'⟩
                all_goals
                  go_wp2
                  go_ret2
                  exact ⟨ret_nb HV.out.2.symm HV.out.1.symm, rfl⟩
            · obtain rfl : k = s.size := by omega
              obtain ⟨d1, d2⟩ := hD
              rw [ba_take] at d1 d2
              by_cases hbig : 1000000000 < n
              · have HV := Lib.hid (parse_no (l := s.data.toList) (.inr (.inr (.inl (by omega)))))
                clear d1 d2
                go_wp2
                go_ret2
                exact ⟨ret_nb HV.out.2.symm HV.out.1.symm, rfl⟩
              · have HV := Lib.hid (parse_yes (l := s.data.toList) (by rw [ba_len]; omega) d1 (by omega) HL.out)
                have HN := Lib.hid d2
                clear d1 d2
                go_wp2
                go_ret2
                exact ⟨ret_nb (HN.out.trans HV.out.2.symm) HV.out.1.symm, rfl⟩

theorem itoa_valD {l : List UInt8} (h : allDig l = true) : (leadOk l = true → Lib.itoa (valD l : Int) = l) ∧ (leadOk l = false → Lib.itoa (valD l : Int) ≠ l) := by
  have e : Lib.itoa (valD l : Int) = Lib.decDigits (valD l) := by unfold Lib.itoa; rw [if_neg (by omega)]; congr 1
  rw [e]
  exact ⟨fun hl => (dec_eq h).2 hl, fun hl he => by rw [(dec_eq h).1 he] at hl; cases hl⟩
theorem ba_mk (s : ByteArray) : ByteArray.mk s.data.toList.toArray = s := by cases s; simp

end Go.Proofs.YtcnnnhlbnpollaaDoor
