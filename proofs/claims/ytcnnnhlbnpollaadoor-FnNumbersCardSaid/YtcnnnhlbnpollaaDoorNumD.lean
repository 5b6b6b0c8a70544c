/- Draws of numbers (DrawFormatInt), and the walk of the law FnNumbers. -/
import Derived.Test.YtcnnnhlbnpollaaDoorNumP
import Derived.Test.YtcnnnhlbnpollaaDoorFmt
import Derived.Test.YtcnnnhlbnpollaaDoorParse
import Derived.Test.YtcnnnhlbnpollaaDoorDr
namespace Go.Proofs.YtcnnnhlbnpollaaDoor
open Go.RowKit

/-- Any int64. -/
def DNum (w : World) (g H : Nat) (A : Option Addr) (n c : Nat) (zs : List Int) (e : Ending) (w' : World) : Prop :=
  ∃ v : Int, (-9223372036854775808 ≤ v ∧ v ≤ 9223372036854775807) ∧ e = .returned (.int .i64 v) ∧ Dr w' g H A n c zs ∧ w.grownBy w' (some g)
theorem d_NumberB (g H : Nat) (A : Option Addr) (n c : Nat) (zs : List Int) (w : World) (hD : Dr w g H A n c zs) :
    Calls Tryd.prog 24 #[.pointer (some ⟨g, 0, none⟩)] w (DNum w g H A n c zs) := by
  go_enter Tryd.func24, Tryd.ntmps24
  go_wp2_with fail
  refine (d_Below g H A n c zs 4 _ hD (by omega) (by omega)).mono ?_; rintro e w1 ⟨v, v0, v1, rfl, hD1, hG1⟩
  clear hD
  rcases (show v = 0 ∨ v = 1 ∨ (2 ≤ v ∧ v ≤ 3) from by omega) with h | h | h
  · have hb : (v == 0) = true := by simp [h]
    clear h v0 v1
    go_wp2_with fail
    refine (d_Pick g H A n c zs _ _ _ [-1, 0, 127, 128, 16383, 16384, 1000000000, 1000000001, 9223372036854775807, -9223372036854775808] _ (hD1.alloc _) (ints_new _ _ _ _ hD1.lt) rfl (by simp) (by simp)).mono ?_
    rintro e w2 ⟨x, hx, rfl, hD2, hG2⟩
    have Hx := Lib.hid (show -9223372036854775808 ≤ x ∧ x ≤ 9223372036854775807 by simp at hx; omega)
    clear hx
    go_wp2
    go_ret
    exact ⟨_, Hx.out, rfl, hD2, hG1.trans (grown_alloc_trans hG2)⟩
  · have hb : (v == 0) = false := by simp [h]
    have hb2 : (v == 1) = true := by simp [h]
    clear h v0 v1
    go_wp2_with fail
    refine (d_Below g H A n c zs 1000000000 _ hD1 (by omega) (by omega)).mono ?_; rintro e w2 ⟨x, x0, x1, rfl, hD2, hG2⟩
    go_wp2
    go_ret
    exact ⟨_, by omega, rfl, hD2, hG1.trans hG2⟩
  · have hb : (v == 0) = false := by simp; omega
    have hb2 : (v == 1) = false := by simp; omega
    clear h v0 v1
    go_wp2_with fail
    refine (d_Below g H A n c zs 400 _ hD1 (by omega) (by omega)).mono ?_; rintro e w2 ⟨x, x0, x1, rfl, hD2, hG2⟩
    go_wp2
    go_ret
    exact ⟨_, by omega, rfl, hD2, hG1.trans hG2⟩

def IntOut (w : World) (e : Ending) (w' : World) : Prop := ∃ v : Int, (-9223372036854775808 ≤ v ∧ v ≤ 9223372036854775807) ∧ e = .returned (.int .i64 v) ∧ Below w.heap.size w w'
set_option maxHeartbeats 1000000 in
theorem s_DrawFormatInt (A : Option Addr) (n c : Nat) (zs : List Int) (w : World) (hB : BytesAt w w.heap.size A n zs) (hn : n ≤ 1048576) :
    Calls Tryd.prog 10 #[.slice A n c] w (IntOut w) := by
  go_enter Tryd.func10, Tryd.ntmps10
  go_wp2_with fail
  refine (d_New A n c zs w.heap.size _ hB hn (Nat.le_refl _)).mono ?_; rintro e w0 ⟨rfl, hD0, hW⟩
  clear hB
  go_wp2_with fail
  refine (d_Once _ _ A n c zs 3 _ hD0 (by omega) (by omega)).mono ?_; rintro e w1 ⟨b, rfl, hD1, hG1⟩
  replace hW := below_grown hW hG1 hW.size (Nat.le_refl _)
  clear hD0 hG1
  cases b
  · go_wp2_with fail
    refine (d_NumberB _ _ A n c zs _ hD1).mono ?_; rintro e w2 ⟨v, hv, rfl, hD2, hG2⟩
    replace hW := below_grown hW hG2 hW.size (Nat.le_refl _)
    have HV := Lib.hid hv
    clear hD1 hD2 hG2 hv
    go_wp2
    go_ret
    exact ⟨_, HV.out, rfl, hW⟩
  · go_wp2_with fail
    refine (d_Below _ _ A n c zs 1000000 _ hD1 (by omega) (by omega)).mono ?_; rintro e w2 ⟨x, x0, x1, rfl, hD2, hG2⟩
    replace hW := below_grown hW hG2 hW.size (Nat.le_refl _)
    clear hD1 hG2
    go_wp2_with fail
    refine (d_Below _ _ A n c zs 2000000 _ hD2 (by omega) (by omega)).mono ?_; rintro e w3 ⟨y, y0, y1, rfl, hD3, hG3⟩
    replace hW := below_grown hW hG3 hW.size (Nat.le_refl _)
    clear hD2 hD3 hG3
    obtain ⟨p0, p1⟩ := mul_bd x0 (by omega : x ≤ 1000000) (by omega : -1000000 ≤ y - 1000000) (by omega)
    go_wp2
    go_ret
    exact ⟨_, by omega, rfl, hW⟩

set_option maxHeartbeats 1000000 in
theorem walk_FnNumbers (A : Option Addr) (n c : Nat) (zs : List Int) (w : World) (hB : BytesAt w w.heap.size A n zs) (hT : Tab10 w) :
    Calls Tryd.prog 4 #[.slice A n c] w fun e w' => e = .returned (.bool true) ∧ Below w.heap.size w w' := by
  by_cases hbig : 1048576 < n
  · have hb : decide (1048576 < n) = true := by simpa using hbig
    clear hB hT
    go_enter Tryd.func4, Tryd.ntmps4
    go_wp2_with (go_at_call 9; refine (l_big _ _ _ _).mono ?_; rintro e w' ⟨rfl, rfl⟩)
    go_ret
    exact ⟨rfl, Below.refl _ _⟩
  · have hb : decide (1048576 < n) = false := by simpa using hbig
    have HT := Lib.hid (fun W (hb : Below w.heap.size w W) => hT.below hb)
    clear hT
    go_enter Tryd.func4, Tryd.ntmps4
    go_wp2_with fail
    refine (l_big _ _ _ _).mono ?_; rintro e w' ⟨rfl, rfl⟩
    go_wp2_with fail
    refine (s_DrawFormatInt A n c zs _ hB (by omega)).mono ?_; rintro e w1 ⟨v, ⟨v0, v1⟩, rfl, hW⟩
    clear hB hb
    go_wp2_with fail
    refine (i_FormatInt v _ v0 v1 (HT.out _ hW)).mono ?_; rintro e w2 ⟨rfl, hb2⟩
    replace hW := hW.trans (hb2.mono hW.size)
    clear hb2
    have hl := Lib.hid (itoa_some v)
    have hsz : (⟨(Lib.itoa v).toArray⟩ : ByteArray).size ≤ 9223372036854775807 := by
      have := Lib.itoa_length_le v v0 v1; simp [ByteArray.size]; omega
    have hne : ¬ (⟨(Lib.itoa v).toArray⟩ : ByteArray) = ⟨#[]⟩ := by
      have := hl.out
      intro h
      have h2 : (Lib.itoa v).toArray = #[] := congrArg ByteArray.data h
      have h3 : Lib.itoa v = [] := by simpa using h2
      rw [h3] at this; simp at this
    obtain ⟨t, ht⟩ : ∃ t : ByteArray, (⟨(Lib.itoa v).toArray⟩ : ByteArray) = t := ⟨_, rfl⟩
    have hdl : t.data.toList = Lib.itoa v := by rw [← ht]
    rw [ht] at hne hsz ⊢
    have HD := Lib.hid hdl
    clear hl ht hdl
    have hl3 : ¬ t.toList = [] := by
      rw [ByteArray.toList_eq, HD.out]; intro h; have := itoa_some v; rw [h] at this; simp at this
    have hl1 : (t.toList == []) = false := by simpa using hl3
    have hl2 : t.toList.isEmpty = false := by simpa using hl3
    clear hne
    rcases (show (0 ≤ v ∧ v ≤ 1000000000) ∨ v < 0 ∨ 1000000000 < v by omega) with ⟨h0, h1⟩ | h | h
    · have HP : Hid (Calls Tryd.prog 11 #[.string t] w2 fun e w' => e = .returned (.tuple #[.int .i64 v, .bool true]) ∧ w2 = w') := Lib.hid (by
        have := i_ParseUint t w2 hsz
        obtain ⟨e1, e2⟩ := parse_in h0 h1
        rw [HD.out, e1, e2] at this; exact this)
      clear hsz
      go_wp2_with fail
      refine HP.out.mono ?_; rintro e w' ⟨rfl, rfl⟩
      go_wp2
      go_ret
      exact ⟨rfl, hW⟩
    all_goals
      have hin : decide (0 ≤ v ∧ v ≤ 1000000000) = false := by simp; omega
      have HP : Hid (Calls Tryd.prog 11 #[.string t] w2 fun e w' => e = .returned (.tuple #[.int .i64 0, .bool false]) ∧ w2 = w') := Lib.hid (by
        have := i_ParseUint t w2 hsz
        obtain ⟨e1, e2⟩ := parse_out (n := v) (by omega)
        rw [HD.out, e1, e2] at this; exact this)
      clear hsz hin
      try have hin2 : decide (v ≤ 1000000000) = false := by simp; omega
      go_wp2_with fail
      refine HP.out.mono ?_; rintro e w' ⟨rfl, rfl⟩
      go_wp2
      go_ret
      exact ⟨rfl, hW⟩
end Go.Proofs.YtcnnnhlbnpollaaDoor
