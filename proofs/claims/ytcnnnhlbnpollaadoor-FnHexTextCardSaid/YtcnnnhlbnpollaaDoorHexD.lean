/- Draws of strings (l01Long, l01Text, DrawEncodeHex), and the walk of the law FnHexText. -/
import Derived.Test.YtcnnnhlbnpollaaDoorHexP
import Derived.Test.YtcnnnhlbnpollaaDoorDr
import Derived.Test.YtcnnnhlbnpollaaDoorFmt
namespace Go.Proofs.YtcnnnhlbnpollaaDoor
open Go.RowKit

def UpB (x : UInt8) (k : Nat) (xs : List Value) : Prop := ∀ j, j < k → xs[j]? = some (.int .u8 (x.toNat : Int))
theorem upB_step {x : UInt8} {k : Nat} {xs : List Value} (h : UpB x k xs) (hk : k < xs.length) : UpB x (k + 1) (xs.set k (.int .u8 (x.toNat : Int))) := fun j hj => by
  rcases Nat.lt_or_ge j k with hlt | hge
  · rw [List.getElem?_set_ne (by omega)]; exact h j hlt
  · obtain rfl : j = k := by omega
    simp [hk]
theorem upB_end {x : UInt8} {xs : List Value} (h : UpB x xs.length xs) : xs = Lib.byteCells (List.replicate xs.length x) := by
  apply List.ext_getElem?
  intro j
  rcases Nat.lt_or_ge j xs.length with hlt | hge
  · rw [h j hlt]; simp [Lib.byteCells, hlt]
  · rw [List.getElem?_eq_none hge, List.getElem?_eq_none (by simp [Lib.byteCells]; exact hge)]
/-- A string of a known length at most. -/
def StrOut (m : Nat) (w : World) (e : Ending) (w' : World) : Prop := ∃ s : ByteArray, s.size = m ∧ e = .returned (.string s) ∧ Below w.heap.size w w'

set_option maxHeartbeats 1000000 in
theorem s_l01Long (m : Int) (n : Nat) (xi : Int) (x : UInt8) (w : World) (hm : m = (n : Int)) (hx : xi = (x.toNat : Int)) (hn : n ≤ 1000000) :
    Calls Tryd.prog 25 #[.int .i64 m, .int .u8 xi] w (StrOut n w) := by
  subst hm hx
  obtain ⟨i0, hi, hz0, hz1, hz2⟩ := info_parts info_u8
  go_enter Tryd.func25, Tryd.ntmps25
  go_wp2_with (at_make; refine wpList_make_full _ rfl (.tmp 7) (.tmp 7) 24 rfl w.heap.size 5 i0 _ 1 Tryd.underlying24 hi hz0 hz1 .i64 .i64 _ _ n rfl rfl rfl rfl (by rw [hz2]; omega) (by unfold maxLen; omega) (Nat.le_refl _) ?_; intro w1 hown hgr)
  have HW : Below w.heap.size w w1 := (Below.refl _ _).grown hgr (Nat.le_refl _) (fun k hk => by cases hk)
  go_loopw [6] (fun v6 wr => ∃ (k : Nat) (xs : List Value), k ≤ n ∧ v6 = .int .i64 k ∧ UpB x k xs ∧ wr.ownsRow w.heap.size 5 1 (.slice (some ⟨w.heap.size, 0, none⟩) n n) n xs ∧ Below w.heap.size w wr) (fun v6 _ => n - (intOf v6).toNat)
  case atStart => exact ⟨0, _, by omega, rfl, fun j hj => by omega, hown, HW⟩
  case round =>
    obtain ⟨k, xs, hk, rfl, hU, hO, hW⟩ := hrel
    have hxl := hO.1
    rw [Nat.mul_one] at hxl
    clear hown hgr HW
    by_cases hlt : k < n
    · have e3 : (k : Int) < (n : Int) := by omega
      have HS := Lib.hid (upB_step hU (by omega))
      have f1 := hO.frozenAt k
      obtain ⟨u1, hu1⟩ : ∃ u, wr.cell? ⟨w.heap.size, k, none⟩ = some u := by
        rw [hO.cellAt k (by omega)]; exact ⟨_, List.getElem?_eq_getElem (by omega)⟩
      have hO3 := (hO.stored k (.int .u8 (x.toNat : Int))).1
      have hW3 := hW.setCell (p := ⟨w.heap.size, k, none⟩) (Nat.le_refl _) (.int .u8 (x.toNat : Int))
      clear hU hO hW hxl
      go_wp2
      go_roundw
      case rel => exact ⟨k + 1, _, by omega, by go_num, HS.out, hO3, hW3⟩
      case measure => simp [intOf]; omega
    · obtain rfl : k = n := by omega
      have hxs := upB_end (x := x) (xs := xs) (by rw [hxl]; exact hU)
      rw [hxl] at hxs
      rw [hxs] at hO
      have hcv := conv_row hO (by simp) (by simp)
      clear hU hO hxs hxl
      go_wp2
      go_ret
      exact ⟨_, by simp [ByteArray.size], rfl, hW⟩

theorem d_Byte (g H : Nat) (A : Option Addr) (n c : Nat) (zs : List Int) (w : World) (hD : Dr w g H A n c zs) :
    Calls Tryd.prog 30 #[.pointer (some ⟨g, 0, none⟩)] w (DPost 0 255 w g H A n c zs) :=
  (s_l01Byte A n c zs g H w hD.le hD.1 hD.2.1 hD.2.2.2).mono fun _ _ ⟨v, h1, h2, h3, h4, h5⟩ => ⟨v, h1, h2, h3, hD.of h4 h5, h5⟩
theorem grown_mix {w W w' : World} {g : Nat} {row : Option Nat} (h : w.grownBy W (some g)) (hg : W.grownBy w' row) (hr : ∀ k, row = some k → w.heap.size ≤ k) : w.grownBy w' (some g) :=
  ⟨hg.os.trans h.os, hg.tape.trans h.tape, hg.output.trans h.output, Nat.le_trans h.size hg.size, fun i hi hne => (hg.block i (Nat.lt_of_lt_of_le hi h.size) (fun e => by have := hr i e.symm; omega)).trans (h.block i hi hne)⟩
theorem own_grown {W w' : World} {lo g : Nat} {e : TypeId} {size n : Nat} {v : Value} {xs : List Value} (h : W.ownsRow lo e size v n xs) (hg : W.grownBy w' (some g)) (hl : g < lo) : w'.ownsRow lo e size v n xs := by
  refine ⟨h.1, ?_⟩
  rcases h.2 with h2 | ⟨k, cap, cur, hv, hk, hh, r⟩
  · exact .inl h2
  · refine .inr ⟨k, cap, cur, hv, hk, ?_, r⟩
    have hlt : k < W.heap.size := by
      rcases Nat.lt_or_ge k W.heap.size with h1 | h1
      · exact h1
      · rw [Array.getElem?_eq_none h1] at hh; cases hh
    rw [hg.block k hlt (fun e => by injection e; omega)]; exact hh
def TextOut (m : Nat) (w : World) (g H : Nat) (A : Option Addr) (n c : Nat) (zs : List Int) (e : Ending) (w' : World) : Prop :=
  ∃ s : ByteArray, s.size = m ∧ e = .returned (.string s) ∧ Dr w' g H A n c zs ∧ w.grownBy w' (some g)
theorem byte_snoc {w7 : World} {B k : Nat} {v : Value} {l : List UInt8} {x : Int} (h0 : 0 ≤ x) (h1 : x ≤ 255) (h : w7.ownsRow B 5 1 v (k + 1) (Lib.byteCells l ++ [.int .u8 x])) : w7.ownsRow B 5 1 v (k + 1) (Lib.byteCells (l ++ [UInt8.ofNat x.toNat])) := by
  have e : Lib.byteCells (l ++ [UInt8.ofNat x.toNat]) = Lib.byteCells l ++ [.int .u8 x] := by
    unfold Lib.byteCells; rw [List.map_append, List.map_cons, List.map_nil, byte_of h0 h1]
  rw [e]; exact h

set_option maxHeartbeats 2000000 in
theorem d_Text (g H : Nat) (A : Option Addr) (n c : Nat) (zs : List Int) (mi : Int) (m : Nat) (w : World) (hD : Dr w g H A n c zs) (hmi : mi = (m : Int)) (hm : m ≤ 5000) :
    Calls Tryd.prog 26 #[.pointer (some ⟨g, 0, none⟩), .int .i64 mi] w (TextOut m w g H A n c zs) := by
  subst hmi
  have hgl := hD.lt
  have hgH := hD.le
  obtain ⟨i0, hi, hz0, hz1, hz2⟩ := info_parts info_u8
  have hown := World.ownsRow_made (e := 5) (size := 1) (base := w.heap.size) w #[] 0 (Nat.le_refl _) (Nat.zero_le _) (by simp)
  have HO := Lib.hid hown
  have e1 : (m : Int) ≤ 5000 := by omega
  have e2 : decide (5000 < m) = false := by simp; omega
  clear hown
  go_enter Tryd.func26, Tryd.ntmps26
  go_wp2
  go_loopw [5, 6] (fun v5 v6 wr => ∃ (k : Nat) (l : List UInt8), l.length = k ∧ k ≤ m ∧ v6 = .int .i64 k ∧ wr.ownsRow w.heap.size 5 1 v5 k (Lib.byteCells l) ∧ v5 ≠ .slice none 0 0 ∧ Dr wr g H A n c zs ∧ w.grownBy wr (some g)) (fun _ v6 _ => m - (intOf v6).toNat)
  case atStart => exact ⟨0, [], rfl, by omega, rfl, HO.out, by simp, hD.alloc _, World.grownBy_alloc _ _ _⟩
  case round =>
    obtain ⟨k, l, hl, hk, rfl, hO, hnn, hD, hG⟩ := hrel
    clear HO
    have hs2 := hG.size
    by_cases hlt : k < m
    · have e3 : (k : Int) < (m : Int) := by omega
      have HLL := Lib.hid hl
      clear hl
      go_wp2_with fail
      refine (d_Byte g H A n c zs _ hD).mono ?_; rintro e w1 ⟨x, x0, x1, rfl, hD1, hG1⟩
      have hO1 := own_grown hO hG1 hgl
      have hG1' := hG.trans hG1
      have hs1 := hG1'.size
      have hwx : IntKind.u8.wrap x = x := by simp [IntKind.wrap, IntKind.bits, IntKind.signed]; omega
      clear hO hG hG1 hD
      go_wp2_with (at_builtin; refine wpList_append_own _ rfl (.tmp 15) (.tmp 19) 24 rfl w.heap.size 5 i0 _ 1 1 Tryd.underlying24 hi hz0 hz1 hz2 rfl (by omega) u5 k (Lib.byteCells l) rfl (World.ownsRow.alloc hO1 _) _ 1 1 [.int .u8 x] rfl rfl (byte_new _ _) (by simp [Value.oneCell']) (by unfold maxLen; omega) (by omega) (by simp; omega) ?_; intro v7 w7 hown7 hg7 hnil7; have hn7 : v7 ≠ .slice none 0 0 := (fun e => hnn (hnil7.1 e).1); have hD7 := (hD1.alloc (.cells #[.int .u8 x] 5)).grown hg7 (fun k hk => by have := (hO1.lt k hk).1; exact .inr ⟨by omega, by omega⟩); have hG7 := grown_mix (hG1'.trans (World.grownBy_alloc w1 (.cells #[.int .u8 x] 5) (some g))) hg7 (fun k hk => (hO1.lt k hk).1); have hO7 := byte_snoc x0 x1 hown7; clear hown7 hg7 hnil7 hO1 hnn)
      go_roundw
      case rel => exact ⟨k + 1, _, by simp [HLL.out], by omega, by go_num, hO7, hn7, hD7, hG7⟩
      case measure => simp [intOf]; omega
    · obtain rfl : k = m := by omega
      have hcv := conv_row hO hnn hl.symm
      have HLL := Lib.hid hl
      clear hO hnn hl
      go_wp2
      go_ret
      exact ⟨_, by simp [ByteArray.size, HLL.out], rfl, hD, hG⟩

def TxtOut (w : World) (e : Ending) (w' : World) : Prop := ∃ s : ByteArray, s.size ≤ 20001 ∧ e = .returned (.string s) ∧ Below w.heap.size w w'
set_option maxHeartbeats 1000000 in
theorem s_DrawEncodeHex (A : Option Addr) (n c : Nat) (zs : List Int) (w : World) (hB : BytesAt w w.heap.size A n zs) (hn : n ≤ 1048576) :
    Calls Tryd.prog 12 #[.slice A n c] w (TxtOut w) := by
  go_enter Tryd.func12, Tryd.ntmps12
  go_wp2_with fail
  refine (d_New A n c zs w.heap.size _ hB hn (Nat.le_refl _)).mono ?_; rintro e w0 ⟨rfl, hD0, hW⟩
  clear hB
  go_wp2_with fail
  refine (d_Once _ _ A n c zs 60 _ hD0 (by omega) (by omega)).mono ?_; rintro e w1 ⟨b, rfl, hD1, hG1⟩
  replace hW := below_grown hW hG1 hW.size (Nat.le_refl _)
  clear hD0 hG1
  cases b
  · go_wp2_with fail
    refine (d_Below _ _ A n c zs 30 _ hD1 (by omega) (by omega)).mono ?_; rintro e w2 ⟨x, x0, x1, rfl, hD2, hG2⟩
    replace hW := below_grown hW hG2 hW.size (Nat.le_refl _)
    clear hD1 hG2
    go_wp2_with fail
    refine (d_Text _ _ A n c zs x x.toNat _ hD2 (by omega) (by omega)).mono ?_; rintro e w3 ⟨s, hs, rfl, hD3, hG3⟩
    replace hW := below_grown hW hG3 hW.size (Nat.le_refl _)
    have HS := Lib.hid hs
    clear hD2 hD3 hG3 hs
    go_wp2
    go_ret
    exact ⟨s, by rw [HS.out]; omega, rfl, hW⟩
  · go_wp2_with fail
    refine (d_Below _ _ A n c zs 2 _ hD1 (by omega) (by omega)).mono ?_; rintro e w2 ⟨x, x0, x1, rfl, hD2, hG2⟩
    replace hW := below_grown hW hG2 hW.size (Nat.le_refl _)
    clear hD1 hD2 hG2
    go_wp2_with fail
    refine (s_l01Long _ (20000 + x).toNat _ 200 _ (by omega) rfl (by omega)).mono ?_; rintro e w3 ⟨s, hs, rfl, hb3⟩
    replace hW := hW.trans (hb3.mono hW.size)
    have HS := Lib.hid hs
    clear hb3 hs
    go_wp2
    go_ret
    exact ⟨s, by rw [HS.out]; omega, rfl, hW⟩

set_option maxHeartbeats 2000000 in
theorem walk_FnHexText (A : Option Addr) (n c : Nat) (zs : List Int) (w : World) (hB : BytesAt w w.heap.size A n zs) (hT : Tab10 w) :
    Calls Tryd.prog 5 #[.slice A n c] w fun e w' => e = .returned (.bool true) ∧ Below w.heap.size w w' := by
  by_cases hbig : 1048576 < n
  · have hb : decide (1048576 < n) = true := by simpa using hbig
    clear hB hT
    go_enter Tryd.func5, Tryd.ntmps5
    go_wp2_with (go_at_call 9; refine (l_big _ _ _ _).mono ?_; rintro e w' ⟨rfl, rfl⟩)
    go_ret
    exact ⟨rfl, Below.refl _ _⟩
  · have hb : decide (1048576 < n) = false := by simpa using hbig
    have HT := Lib.hid (fun W (hb : Below w.heap.size w W) => hT.below hb)
    clear hT
    go_enter Tryd.func5, Tryd.ntmps5
    go_wp2_with fail
    refine (l_big _ _ _ _).mono ?_; rintro e w' ⟨rfl, rfl⟩
    go_wp2_with fail
    refine (s_DrawEncodeHex A n c zs _ hB (by omega)).mono ?_; rintro e w1 ⟨s, hs, rfl, hW⟩
    clear hB hb
    by_cases h2 : s.size ≤ 20000
    · obtain ⟨e1, e2⟩ := enc_yes h2
      obtain ⟨d1, d2⟩ := dec_enc s.data.toList
      have hlen := hexEnc_len s.data.toList
      rw [ba_len] at hlen
      obtain ⟨d3, d4⟩ := decB_yes (l := hexEnc s.data.toList) (by omega) d1
      rw [d2] at d4
      have HI : Hid (Calls Tryd.prog 13 #[.string s] w1 fun e w' => e = .returned (.tuple #[.string ⟨(hexEnc s.data.toList).toArray⟩, .bool true]) ∧ Below w1.heap.size w1 w') := Lib.hid (by
        have := i_EncodeHex s w1; rw [e1, e2] at this; exact this)
      obtain ⟨h, hh⟩ : ∃ h : ByteArray, (⟨(hexEnc s.data.toList).toArray⟩ : ByteArray) = h := ⟨_, rfl⟩
      have hhl : h.data.toList = hexEnc s.data.toList := by rw [← hh]
      have hhs : h.size = 2 * s.size := by rw [← ba_len, hhl]; exact hlen
      have HD : Hid (∀ W, Calls Tryd.prog 14 #[.string h] W fun e w' => e = .returned (.tuple #[.string s, .bool true]) ∧ Below W.heap.size W w') := Lib.hid (fun W => by
        have := i_DecodeHex h W (by omega)
        rw [hhl, d3, d4, ba_mk] at this; exact this)
      rw [hh] at HI
      have HS := Lib.hid hhs
      have g1 : (s.size : Int) ≤ 20000 := by omega
      have g2 : (h.size : Int) = 2 * (s.size : Int) := by omega
      have g3 : (s.toList == s.toList) = true := by simp
      clear e1 e2 d1 d2 hlen d3 d4 hh hhl hhs
      go_wp2_with fail
      refine HI.out.mono ?_; rintro e w2 ⟨rfl, hb2⟩
      replace hW := hW.trans (hb2.mono hW.size)
      clear hb2
      go_wp2_with fail
      refine (HD.out _).mono ?_; rintro e w3 ⟨rfl, hb3⟩
      replace hW := hW.trans (hb3.mono hW.size)
      clear hb3
      go_wp2
      go_ret
      exact ⟨rfl, hW⟩
    · obtain ⟨e1, e2⟩ := enc_no (s := s) (by omega)
      have HI : Hid (Calls Tryd.prog 13 #[.string s] w1 fun e w' => e = .returned (.tuple #[.string ⟨#[]⟩, .bool false]) ∧ Below w1.heap.size w1 w') := Lib.hid (by
        have := i_EncodeHex s w1; rw [e1, e2] at this; exact this)
      have HF : Hid (∀ W, Tab10 W → Calls Tryd.prog 8 #[.int .i64 10] W fun e w' => e = .returned (.string ⟨#[49, 48]⟩) ∧ Below W.heap.size W w') := Lib.hid (fun W hT => by
        have := i_FormatInt 10 W (by omega) (by omega) hT
        rw [show Lib.itoa 10 = [49, 48] by simp [Lib.itoa, Lib.decDigits]] at this; exact this)
      have g1 : (20000 : Int) < (s.size : Int) := by omega
      clear e1 e2
      go_wp2_with fail
      refine HI.out.mono ?_; rintro e w2 ⟨rfl, hb2⟩
      replace hW := hW.trans (hb2.mono hW.size)
      clear hb2
      go_wp2_with fail
      refine (HF.out _ (HT.out _ hW)).mono ?_; rintro e w3 ⟨rfl, hb3⟩
      replace hW := hW.trans (hb3.mono hW.size)
      clear hb3
      go_wp2
      go_ret
      exact ⟨rfl, hW⟩
end Go.Proofs.YtcnnnhlbnpollaaDoor
