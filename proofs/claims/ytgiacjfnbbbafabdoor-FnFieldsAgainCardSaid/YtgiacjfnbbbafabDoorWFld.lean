/- The draw of a line. -/
import Derived.Test.YtgiacjfnbbbafabDoorFldD
namespace Go.Proofs.YtgiacjfnbbbafabDoor
open Go.RowKit

def LineOut (w : World) (e : Ending) (w' : World) : Prop := ∃ s : ByteArray, s.size ≤ 2000 ∧ e = .returned (.string s) ∧ Below w.heap.size w w'
theorem dr_bel {w W w' : World} (h : Below w.heap.size w W) (hg : W.grownBy w' (some w.heap.size)) : Below w.heap.size w w' := below_grown h hg h.size (Nat.le_refl _)
theorem u8_of {x : Int} (h0 : 0 ≤ x) (h1 : x ≤ 255) : ((UInt8.ofNat x.toNat).toNat : Int) = x := by
  simp [UInt8.toNat_ofNat']; omega
set_option maxHeartbeats 8000000 in
theorem s_DrawSplitFields (A : Option Addr) (n c : Nat) (zs : List Int) (w : World) (hB : BytesAt w w.heap.size A n zs) (hn : n ≤ 1048576) :
    Calls Tryd.prog 10 #[.slice A n c] w (LineOut w) := by
  go_enter Tryd.func10, Tryd.ntmps10
  go_wp2_with fail
  refine (d_New A n c zs w.heap.size _ hB hn (Nat.le_refl _)).mono ?_; rintro e w0 ⟨rfl, hD, hW⟩
  clear hB
  go_wp2_with fail
  refine (d_Below w.heap.size w.heap.size A n c zs 9 _ hD (by omega) (by omega)).mono ?_; rintro e w1 ⟨q, q0, q1, rfl, hDn, hGn⟩
  have hWn := dr_bel hW hGn
  clear hD hW hGn
  have hD := hDn
  have hW := hWn
  clear hDn hWn
  go_wp2_with fail
  refine (d_Once w.heap.size w.heap.size A n c zs 15 _ hD (by omega) (by omega)).mono ?_; rintro e w2 ⟨o, rfl, hDn, hGn⟩
  have hWn := dr_bel hW hGn
  clear hD hW hGn
  have hD := hDn
  have hW := hWn
  clear hDn hWn
  cases o
  · have nn1 : q ≤ 25 := by omega
    have nn0 := q0
    clear q0 q1
    generalize q = NN at *
    obtain ⟨N, rfl⟩ : ∃ N : Nat, NN = (N : Int) := ⟨NN.toNat, by omega⟩
    go_wp2_with fail
    go_loopw [5, 6] (fun v5 v6 wr => ∃ (k : Nat) (s : ByteArray), v6 = .int .i64 k ∧ k ≤ N ∧ v5 = .string s ∧ s.size ≤ 8 * k ∧ Dr wr w.heap.size w.heap.size A n c zs ∧ Below w.heap.size w wr) (fun _ v6 _ => N - (intOf v6).toNat)
    case atStart => exact ⟨0, ⟨#[]⟩, rfl, by omega, rfl, Nat.le_refl _, hD, hW⟩
    case round =>
      obtain ⟨k, s, rfl, hk, rfl, hs, hDr, hWr⟩ := hrel
      clear hD hW
      have hD := hDr
      have hW := hWr
      clear hDr hWr
      by_cases hkN : k < N
      · have e3 : (k : Int) < (N : Int) := by omega
        by_cases hk0 : 0 < k
        · have e4 : (0 : Int) < (k : Int) := by omega
          have e5 : decide (0 < k) = true := by simpa using hk0
          go_wp2_with fail
          refine (d_Below w.heap.size w.heap.size A n c zs 2 _ hD (by omega) (by omega)).mono ?_; rintro e wa ⟨a, a0, a1, rfl, hDn, hGn⟩
          have hWn := dr_bel hW hGn
          clear hD hW hGn
          have hD := hDn
          have hW := hWn
          clear hDn hWn
          go_wp2_with fail
          refine (d_Below w.heap.size w.heap.size A n c zs 3 _ hD (by omega) (by omega)).mono ?_; rintro e wb ⟨b, b0, b1, rfl, hDn, hGn⟩
          have hWn := dr_bel hW hGn
          clear hD hW hGn
          have hD := hDn
          have hW := hWn
          clear hDn hWn
          have hab : 0 ≤ a * b ∧ a * b ≤ 2 := by
            rcases (show a = 0 ∨ a = 1 by omega) with rfl | rfl <;> omega
          have wab : IntKind.i64.wrap (a * b) = a * b := IntWalk.i64_in _ (by omega)
          go_wp2_with fail
          refine (s_l01Long (1 + a * b) (1 + a * b).toNat 32 32 _ (by omega) rfl (by omega)).mono ?_; rintro e wl ⟨t, ht, rfl, hbl⟩
          have hDl := hD.below hbl
          have hWl : Below w.heap.size w wl := hW.trans (hbl.mono hW.size)
          have had := ba_sum Tryd.prog s t (by omega)
          have HSZ := Lib.hid (ba_size s t)
          have hs1 : (s ++ t).size ≤ 8 * k + 3 := by rw [HSZ.out]; omega
          clear hD hW hbl hs HSZ
          have hD := hDl
          have hW := hWl
          clear hDl hWl
          go_wp2_with fail
          generalize s ++ t = s1 at *
          go_wp2_with fail
          go_loopw [5, 7] (fun v5 v7 wr => ∃ (j : Nat) (s2 : ByteArray), v7 = .int .i64 j ∧ j ≤ 5 ∧ v5 = .string s2 ∧ s2.size ≤ 8 * k + 3 + j ∧ Dr wr w.heap.size w.heap.size A n c zs ∧ Below w.heap.size w wr) (fun _ v7 _ => 6 - (intOf v7).toNat)
          case atStart => exact ⟨0, s1, rfl, by omega, rfl, by omega, hD, hW⟩
          case round =>
            obtain ⟨j, s2, rfl, hj, rfl, hs2, hDj, hWj⟩ := hrel
            clear hD hW hs1
            go_wp2_with fail
            refine (d_Below w.heap.size w.heap.size A n c zs 5 _ hDj (by omega) (by omega)).mono ?_; rintro e wv ⟨v, v0, v1, rfl, hDn, hGn⟩
            have hWn := dr_bel hWj hGn
            clear hDj hWj hGn
            have hDj := hDn
            have hWj := hWn
            clear hDn hWn
            by_cases hjv : (j : Int) ≤ v
            · go_wp2_with fail
              refine (d_Below w.heap.size w.heap.size A n c zs 94 _ hDj (by omega) (by omega)).mono ?_; rintro e wx ⟨x, x0, x1, rfl, hDn, hGn⟩
              have hWn := dr_bel hWj hGn
              clear hDj hWj hGn
              have hDj := hDn
              have hWj := hWn
              clear hDn hWn
              have hcv := conv_one wx (UInt8.ofNat (33 + x).toNat)
              rw [u8_of (by omega) (by omega)] at hcv
              have had := ba_sum Tryd.prog s2 ⟨#[UInt8.ofNat (33 + x).toNat]⟩ (by have h1 : (⟨#[UInt8.ofNat (33 + x).toNat]⟩ : ByteArray).size = 1 := rfl; omega)
              have hsz := ba_size s2 ⟨#[UInt8.ofNat (33 + x).toNat]⟩
              have hsz1 : (⟨#[UInt8.ofNat (33 + x).toNat]⟩ : ByteArray).size = 1 := rfl
              have hW3 := hWj.alloc hWj.size (.cells #[.int .u8 (33 + x)] 5)
              have hD3 := hDj.alloc (.cells #[.int .u8 (33 + x)] 5)
              have HSZ := Lib.hid hsz
              have HSZ1 := Lib.hid hsz1
              clear hsz hsz1 hDj hWj
              generalize (⟨#[UInt8.ofNat (33 + x).toNat]⟩ : ByteArray) = one at *
              go_wp2
              go_roundw
              case rel => exact ⟨j + 1, s2 ++ one, by go_num, by omega, rfl, by rw [HSZ.out, HSZ1.out]; omega, hD3, hW3⟩
              case measure => simp [intOf]; omega
            · go_wp2
              go_roundw
              case rel => exact ⟨k + 1, s2, by go_num, by omega, rfl, by omega, hDj, hWj⟩
              case measure => simp [intOf]; omega
        · obtain rfl : k = 0 := by omega
          have e5 : decide ((0 : Int) < ((0 : Nat) : Int)) = false := by simp
          go_wp2_with fail
          refine (d_Once w.heap.size w.heap.size A n c zs 5 _ hD (by omega) (by omega)).mono ?_; rintro e wo ⟨o, rfl, hDn, hGn⟩
          have hWn := dr_bel hW hGn
          clear hD hW hGn
          have hD := hDn
          have hW := hWn
          clear hDn hWn
          skip
          cases o
          · have hs1 : s.size ≤ 8 * 0 + 3 := by omega
            clear hs
            generalize s = s1 at *
            go_wp2_with fail
            go_loopw [5, 7] (fun v5 v7 wr => ∃ (j : Nat) (s2 : ByteArray), v7 = .int .i64 j ∧ j ≤ 5 ∧ v5 = .string s2 ∧ s2.size ≤ 8 * 0 + 3 + j ∧ Dr wr w.heap.size w.heap.size A n c zs ∧ Below w.heap.size w wr) (fun _ v7 _ => 6 - (intOf v7).toNat)
            case atStart => exact ⟨0, s1, rfl, by omega, rfl, by omega, hD, hW⟩
            case round =>
              obtain ⟨j, s2, rfl, hj, rfl, hs2, hDj, hWj⟩ := hrel
              clear hD hW hs1
              go_wp2_with fail
              refine (d_Below w.heap.size w.heap.size A n c zs 5 _ hDj (by omega) (by omega)).mono ?_; rintro e wv ⟨v, v0, v1, rfl, hDn, hGn⟩
              have hWn := dr_bel hWj hGn
              clear hDj hWj hGn
              have hDj := hDn
              have hWj := hWn
              clear hDn hWn
              by_cases hjv : (j : Int) ≤ v
              · go_wp2_with fail
                refine (d_Below w.heap.size w.heap.size A n c zs 94 _ hDj (by omega) (by omega)).mono ?_; rintro e wx ⟨x, x0, x1, rfl, hDn, hGn⟩
                have hWn := dr_bel hWj hGn
                clear hDj hWj hGn
                have hDj := hDn
                have hWj := hWn
                clear hDn hWn
                have hcv := conv_one wx (UInt8.ofNat (33 + x).toNat)
                rw [u8_of (by omega) (by omega)] at hcv
                have had := ba_sum Tryd.prog s2 ⟨#[UInt8.ofNat (33 + x).toNat]⟩ (by have h1 : (⟨#[UInt8.ofNat (33 + x).toNat]⟩ : ByteArray).size = 1 := rfl; omega)
                have hsz := ba_size s2 ⟨#[UInt8.ofNat (33 + x).toNat]⟩
                have hsz1 : (⟨#[UInt8.ofNat (33 + x).toNat]⟩ : ByteArray).size = 1 := rfl
                have hW3 := hWj.alloc hWj.size (.cells #[.int .u8 (33 + x)] 5)
                have hD3 := hDj.alloc (.cells #[.int .u8 (33 + x)] 5)
                have HSZ := Lib.hid hsz
                have HSZ1 := Lib.hid hsz1
                clear hsz hsz1 hDj hWj
                generalize (⟨#[UInt8.ofNat (33 + x).toNat]⟩ : ByteArray) = one at *
                go_wp2
                go_roundw
                case rel => exact ⟨j + 1, s2 ++ one, by go_num, by omega, rfl, by rw [HSZ.out, HSZ1.out]; omega, hD3, hW3⟩
                case measure => simp [intOf]; omega
              · go_wp2
                go_roundw
                case rel => exact ⟨0 + 1, s2, by go_num, by omega, rfl, by omega, hDj, hWj⟩
                case measure => simp [intOf]; omega
          · skip
            go_wp2_with fail
            refine (d_Below w.heap.size w.heap.size A n c zs 2 _ hD (by omega) (by omega)).mono ?_; rintro e wa ⟨a, a0, a1, rfl, hDn, hGn⟩
            have hWn := dr_bel hW hGn
            clear hD hW hGn
            have hD := hDn
            have hW := hWn
            clear hDn hWn
            go_wp2_with fail
            refine (d_Below w.heap.size w.heap.size A n c zs 3 _ hD (by omega) (by omega)).mono ?_; rintro e wb ⟨b, b0, b1, rfl, hDn, hGn⟩
            have hWn := dr_bel hW hGn
            clear hD hW hGn
            have hD := hDn
            have hW := hWn
            clear hDn hWn
            have hab : 0 ≤ a * b ∧ a * b ≤ 2 := by
              rcases (show a = 0 ∨ a = 1 by omega) with rfl | rfl <;> omega
            have wab : IntKind.i64.wrap (a * b) = a * b := IntWalk.i64_in _ (by omega)
            go_wp2_with fail
            refine (s_l01Long (1 + a * b) (1 + a * b).toNat 32 32 _ (by omega) rfl (by omega)).mono ?_; rintro e wl ⟨t, ht, rfl, hbl⟩
            have hDl := hD.below hbl
            have hWl : Below w.heap.size w wl := hW.trans (hbl.mono hW.size)
            have had := ba_sum Tryd.prog s t (by omega)
            have HSZ := Lib.hid (ba_size s t)
            have hs1 : (s ++ t).size ≤ 8 * 0 + 3 := by rw [HSZ.out]; omega
            clear hD hW hbl hs HSZ
            have hD := hDl
            have hW := hWl
            clear hDl hWl
            go_wp2_with fail
            generalize s ++ t = s1 at *
            go_wp2_with fail
            go_loopw [5, 7] (fun v5 v7 wr => ∃ (j : Nat) (s2 : ByteArray), v7 = .int .i64 j ∧ j ≤ 5 ∧ v5 = .string s2 ∧ s2.size ≤ 8 * 0 + 3 + j ∧ Dr wr w.heap.size w.heap.size A n c zs ∧ Below w.heap.size w wr) (fun _ v7 _ => 6 - (intOf v7).toNat)
            case atStart => exact ⟨0, s1, rfl, by omega, rfl, by omega, hD, hW⟩
            case round =>
              obtain ⟨j, s2, rfl, hj, rfl, hs2, hDj, hWj⟩ := hrel
              clear hD hW hs1
              go_wp2_with fail
              refine (d_Below w.heap.size w.heap.size A n c zs 5 _ hDj (by omega) (by omega)).mono ?_; rintro e wv ⟨v, v0, v1, rfl, hDn, hGn⟩
              have hWn := dr_bel hWj hGn
              clear hDj hWj hGn
              have hDj := hDn
              have hWj := hWn
              clear hDn hWn
              by_cases hjv : (j : Int) ≤ v
              · go_wp2_with fail
                refine (d_Below w.heap.size w.heap.size A n c zs 94 _ hDj (by omega) (by omega)).mono ?_; rintro e wx ⟨x, x0, x1, rfl, hDn, hGn⟩
                have hWn := dr_bel hWj hGn
                clear hDj hWj hGn
                have hDj := hDn
                have hWj := hWn
                clear hDn hWn
                have hcv := conv_one wx (UInt8.ofNat (33 + x).toNat)
                rw [u8_of (by omega) (by omega)] at hcv
                have had := ba_sum Tryd.prog s2 ⟨#[UInt8.ofNat (33 + x).toNat]⟩ (by have h1 : (⟨#[UInt8.ofNat (33 + x).toNat]⟩ : ByteArray).size = 1 := rfl; omega)
                have hsz := ba_size s2 ⟨#[UInt8.ofNat (33 + x).toNat]⟩
                have hsz1 : (⟨#[UInt8.ofNat (33 + x).toNat]⟩ : ByteArray).size = 1 := rfl
                have hW3 := hWj.alloc hWj.size (.cells #[.int .u8 (33 + x)] 5)
                have hD3 := hDj.alloc (.cells #[.int .u8 (33 + x)] 5)
                have HSZ := Lib.hid hsz
                have HSZ1 := Lib.hid hsz1
                clear hsz hsz1 hDj hWj
                generalize (⟨#[UInt8.ofNat (33 + x).toNat]⟩ : ByteArray) = one at *
                go_wp2
                go_roundw
                case rel => exact ⟨j + 1, s2 ++ one, by go_num, by omega, rfl, by rw [HSZ.out, HSZ1.out]; omega, hD3, hW3⟩
                case measure => simp [intOf]; omega
              · go_wp2
                go_roundw
                case rel => exact ⟨0 + 1, s2, by go_num, by omega, rfl, by omega, hDj, hWj⟩
                case measure => simp [intOf]; omega
      · obtain rfl : k = N := by omega
        go_wp2_with fail
        refine (d_Below w.heap.size w.heap.size A n c zs 12 _ hD (by omega) (by omega)).mono ?_; rintro e wv ⟨v, v0, v1, rfl, hDn, hGn⟩
        have hWn := dr_bel hW hGn
        clear hD hW hGn
        have hD := hDn
        have hW := hWn
        clear hDn hWn
        rcases (show v = 0 ∨ v = 1 ∨ (2 ≤ v ∧ v ≤ 11) from by omega) with h | h | h
        · have hb0 : (v == 0) = true := by simp [h]
          clear h
          go_wp2_with fail
          have hne : wv.heap.size ≠ w.heap.size := by have := hD.lt; omega
          refine (d_PickS w.heap.size w.heap.size A n c zs wv.heap.size _ (hD.alloc _) hne (by simp) (fun j hj => ?_)).mono ?_
          · rw [(Blk.new wv _ _).cell j]
            rcases (show j = 0 ∨ j = 1 ∨ j = 2 ∨ j = 3 ∨ j = 4 ∨ j = 5 by omega) with rfl | rfl | rfl | rfl | rfl | rfl
            all_goals exact ⟨_, by decide, rfl⟩
          rintro e wp ⟨x, hx, rfl, hDp, hGp⟩
          have hWp : Below w.heap.size w wp := below_grown (hW.alloc hW.size _) hGp (by simp; have := hW.size; omega) (Nat.le_refl _)
          have had := ba_sum Tryd.prog s x (by omega)
          have HSZ := Lib.hid (ba_size s x)
          go_wp2
          go_ret
          exact ⟨_, by rw [HSZ.out]; omega, rfl, hWp⟩
        · have hb0 : (v == 0) = false := by simp [h]
          have hb1 : (v == 1) = true := by simp [h]
          clear h
          have e6 : (s.size : Int) < 600 := by omega
          go_wp2_with fail
          refine (d_Below w.heap.size w.heap.size A n c zs 2 _ hD (by omega) (by omega)).mono ?_; rintro e wy ⟨y, y0, y1, rfl, hDn, hGn⟩
          have hWn := dr_bel hW hGn
          clear hD hW hGn
          have hD := hDn
          have hW := hWn
          clear hDn hWn
          go_wp2_with fail
          refine (s_l01Long (600 - (s.size : Int) + y) (600 - (s.size : Int) + y).toNat 32 32 _ (by omega) rfl (by omega)).mono ?_; rintro e wl ⟨t, ht, rfl, hbl⟩
          have had := ba_sum Tryd.prog s t (by omega)
          have HSZ := Lib.hid (ba_size s t)
          have hWl : Below w.heap.size w wl := hW.trans (hbl.mono hW.size)
          go_wp2
          go_ret
          exact ⟨_, by rw [HSZ.out]; omega, rfl, hWl⟩
        · have hb0 : (v == 0) = false := by simp; omega
          have hb1 : (v == 1) = false := by simp; omega
          go_wp2
          go_ret
          exact ⟨_, by omega, rfl, hW⟩
  · go_wp2_with fail
    refine (d_Below w.heap.size w.heap.size A n c zs 2 _ hD (by omega) (by omega)).mono ?_; rintro e w3 ⟨y, y0, y1, rfl, hDn, hGn⟩
    have hWn := dr_bel hW hGn
    clear hD hW hGn
    have hD := hDn
    have hW := hWn
    clear hDn hWn
    go_wp2_with fail
    have nn1 : 24 + y ≤ 25 := by omega
    have nn0 : 0 ≤ 24 + y := by omega
    clear y0 y1
    generalize 24 + y = NN at *
    obtain ⟨N, rfl⟩ : ∃ N : Nat, NN = (N : Int) := ⟨NN.toNat, by omega⟩
    go_wp2_with fail
    go_loopw [5, 6] (fun v5 v6 wr => ∃ (k : Nat) (s : ByteArray), v6 = .int .i64 k ∧ k ≤ N ∧ v5 = .string s ∧ s.size ≤ 8 * k ∧ Dr wr w.heap.size w.heap.size A n c zs ∧ Below w.heap.size w wr) (fun _ v6 _ => N - (intOf v6).toNat)
    case atStart => exact ⟨0, ⟨#[]⟩, rfl, by omega, rfl, Nat.le_refl _, hD, hW⟩
    case round =>
      obtain ⟨k, s, rfl, hk, rfl, hs, hDr, hWr⟩ := hrel
      clear hD hW
      have hD := hDr
      have hW := hWr
      clear hDr hWr
      by_cases hkN : k < N
      · have e3 : (k : Int) < (N : Int) := by omega
        by_cases hk0 : 0 < k
        · have e4 : (0 : Int) < (k : Int) := by omega
          have e5 : decide (0 < k) = true := by simpa using hk0
          go_wp2_with fail
          refine (d_Below w.heap.size w.heap.size A n c zs 2 _ hD (by omega) (by omega)).mono ?_; rintro e wa ⟨a, a0, a1, rfl, hDn, hGn⟩
          have hWn := dr_bel hW hGn
          clear hD hW hGn
          have hD := hDn
          have hW := hWn
          clear hDn hWn
          go_wp2_with fail
          refine (d_Below w.heap.size w.heap.size A n c zs 3 _ hD (by omega) (by omega)).mono ?_; rintro e wb ⟨b, b0, b1, rfl, hDn, hGn⟩
          have hWn := dr_bel hW hGn
          clear hD hW hGn
          have hD := hDn
          have hW := hWn
          clear hDn hWn
          have hab : 0 ≤ a * b ∧ a * b ≤ 2 := by
            rcases (show a = 0 ∨ a = 1 by omega) with rfl | rfl <;> omega
          have wab : IntKind.i64.wrap (a * b) = a * b := IntWalk.i64_in _ (by omega)
          go_wp2_with fail
          refine (s_l01Long (1 + a * b) (1 + a * b).toNat 32 32 _ (by omega) rfl (by omega)).mono ?_; rintro e wl ⟨t, ht, rfl, hbl⟩
          have hDl := hD.below hbl
          have hWl : Below w.heap.size w wl := hW.trans (hbl.mono hW.size)
          have had := ba_sum Tryd.prog s t (by omega)
          have HSZ := Lib.hid (ba_size s t)
          have hs1 : (s ++ t).size ≤ 8 * k + 3 := by rw [HSZ.out]; omega
          clear hD hW hbl hs HSZ
          have hD := hDl
          have hW := hWl
          clear hDl hWl
          go_wp2_with fail
          generalize s ++ t = s1 at *
          go_wp2_with fail
          go_loopw [5, 7] (fun v5 v7 wr => ∃ (j : Nat) (s2 : ByteArray), v7 = .int .i64 j ∧ j ≤ 5 ∧ v5 = .string s2 ∧ s2.size ≤ 8 * k + 3 + j ∧ Dr wr w.heap.size w.heap.size A n c zs ∧ Below w.heap.size w wr) (fun _ v7 _ => 6 - (intOf v7).toNat)
          case atStart => exact ⟨0, s1, rfl, by omega, rfl, by omega, hD, hW⟩
          case round =>
            obtain ⟨j, s2, rfl, hj, rfl, hs2, hDj, hWj⟩ := hrel
            clear hD hW hs1
            go_wp2_with fail
            refine (d_Below w.heap.size w.heap.size A n c zs 5 _ hDj (by omega) (by omega)).mono ?_; rintro e wv ⟨v, v0, v1, rfl, hDn, hGn⟩
            have hWn := dr_bel hWj hGn
            clear hDj hWj hGn
            have hDj := hDn
            have hWj := hWn
            clear hDn hWn
            by_cases hjv : (j : Int) ≤ v
            · go_wp2_with fail
              refine (d_Below w.heap.size w.heap.size A n c zs 94 _ hDj (by omega) (by omega)).mono ?_; rintro e wx ⟨x, x0, x1, rfl, hDn, hGn⟩
              have hWn := dr_bel hWj hGn
              clear hDj hWj hGn
              have hDj := hDn
              have hWj := hWn
              clear hDn hWn
              have hcv := conv_one wx (UInt8.ofNat (33 + x).toNat)
              rw [u8_of (by omega) (by omega)] at hcv
              have had := ba_sum Tryd.prog s2 ⟨#[UInt8.ofNat (33 + x).toNat]⟩ (by have h1 : (⟨#[UInt8.ofNat (33 + x).toNat]⟩ : ByteArray).size = 1 := rfl; omega)
              have hsz := ba_size s2 ⟨#[UInt8.ofNat (33 + x).toNat]⟩
              have hsz1 : (⟨#[UInt8.ofNat (33 + x).toNat]⟩ : ByteArray).size = 1 := rfl
              have hW3 := hWj.alloc hWj.size (.cells #[.int .u8 (33 + x)] 5)
              have hD3 := hDj.alloc (.cells #[.int .u8 (33 + x)] 5)
              have HSZ := Lib.hid hsz
              have HSZ1 := Lib.hid hsz1
              clear hsz hsz1 hDj hWj
              generalize (⟨#[UInt8.ofNat (33 + x).toNat]⟩ : ByteArray) = one at *
              go_wp2
              go_roundw
              case rel => exact ⟨j + 1, s2 ++ one, by go_num, by omega, rfl, by rw [HSZ.out, HSZ1.out]; omega, hD3, hW3⟩
              case measure => simp [intOf]; omega
            · go_wp2
              go_roundw
              case rel => exact ⟨k + 1, s2, by go_num, by omega, rfl, by omega, hDj, hWj⟩
              case measure => simp [intOf]; omega
        · obtain rfl : k = 0 := by omega
          have e5 : decide ((0 : Int) < ((0 : Nat) : Int)) = false := by simp
          go_wp2_with fail
          refine (d_Once w.heap.size w.heap.size A n c zs 5 _ hD (by omega) (by omega)).mono ?_; rintro e wo ⟨o, rfl, hDn, hGn⟩
          have hWn := dr_bel hW hGn
          clear hD hW hGn
          have hD := hDn
          have hW := hWn
          clear hDn hWn
          skip
          cases o
          · have hs1 : s.size ≤ 8 * 0 + 3 := by omega
            clear hs
            generalize s = s1 at *
            go_wp2_with fail
            go_loopw [5, 7] (fun v5 v7 wr => ∃ (j : Nat) (s2 : ByteArray), v7 = .int .i64 j ∧ j ≤ 5 ∧ v5 = .string s2 ∧ s2.size ≤ 8 * 0 + 3 + j ∧ Dr wr w.heap.size w.heap.size A n c zs ∧ Below w.heap.size w wr) (fun _ v7 _ => 6 - (intOf v7).toNat)
            case atStart => exact ⟨0, s1, rfl, by omega, rfl, by omega, hD, hW⟩
            case round =>
              obtain ⟨j, s2, rfl, hj, rfl, hs2, hDj, hWj⟩ := hrel
              clear hD hW hs1
              go_wp2_with fail
              refine (d_Below w.heap.size w.heap.size A n c zs 5 _ hDj (by omega) (by omega)).mono ?_; rintro e wv ⟨v, v0, v1, rfl, hDn, hGn⟩
              have hWn := dr_bel hWj hGn
              clear hDj hWj hGn
              have hDj := hDn
              have hWj := hWn
              clear hDn hWn
              by_cases hjv : (j : Int) ≤ v
              · go_wp2_with fail
                refine (d_Below w.heap.size w.heap.size A n c zs 94 _ hDj (by omega) (by omega)).mono ?_; rintro e wx ⟨x, x0, x1, rfl, hDn, hGn⟩
                have hWn := dr_bel hWj hGn
                clear hDj hWj hGn
                have hDj := hDn
                have hWj := hWn
                clear hDn hWn
                have hcv := conv_one wx (UInt8.ofNat (33 + x).toNat)
                rw [u8_of (by omega) (by omega)] at hcv
                have had := ba_sum Tryd.prog s2 ⟨#[UInt8.ofNat (33 + x).toNat]⟩ (by have h1 : (⟨#[UInt8.ofNat (33 + x).toNat]⟩ : ByteArray).size = 1 := rfl; omega)
                have hsz := ba_size s2 ⟨#[UInt8.ofNat (33 + x).toNat]⟩
                have hsz1 : (⟨#[UInt8.ofNat (33 + x).toNat]⟩ : ByteArray).size = 1 := rfl
                have hW3 := hWj.alloc hWj.size (.cells #[.int .u8 (33 + x)] 5)
                have hD3 := hDj.alloc (.cells #[.int .u8 (33 + x)] 5)
                have HSZ := Lib.hid hsz
                have HSZ1 := Lib.hid hsz1
                clear hsz hsz1 hDj hWj
                generalize (⟨#[UInt8.ofNat (33 + x).toNat]⟩ : ByteArray) = one at *
                go_wp2
                go_roundw
                case rel => exact ⟨j + 1, s2 ++ one, by go_num, by omega, rfl, by rw [HSZ.out, HSZ1.out]; omega, hD3, hW3⟩
                case measure => simp [intOf]; omega
              · go_wp2
                go_roundw
                case rel => exact ⟨0 + 1, s2, by go_num, by omega, rfl, by omega, hDj, hWj⟩
                case measure => simp [intOf]; omega
          · skip
            go_wp2_with fail
            refine (d_Below w.heap.size w.heap.size A n c zs 2 _ hD (by omega) (by omega)).mono ?_; rintro e wa ⟨a, a0, a1, rfl, hDn, hGn⟩
            have hWn := dr_bel hW hGn
            clear hD hW hGn
            have hD := hDn
            have hW := hWn
            clear hDn hWn
            go_wp2_with fail
            refine (d_Below w.heap.size w.heap.size A n c zs 3 _ hD (by omega) (by omega)).mono ?_; rintro e wb ⟨b, b0, b1, rfl, hDn, hGn⟩
            have hWn := dr_bel hW hGn
            clear hD hW hGn
            have hD := hDn
            have hW := hWn
            clear hDn hWn
            have hab : 0 ≤ a * b ∧ a * b ≤ 2 := by
              rcases (show a = 0 ∨ a = 1 by omega) with rfl | rfl <;> omega
            have wab : IntKind.i64.wrap (a * b) = a * b := IntWalk.i64_in _ (by omega)
            go_wp2_with fail
            refine (s_l01Long (1 + a * b) (1 + a * b).toNat 32 32 _ (by omega) rfl (by omega)).mono ?_; rintro e wl ⟨t, ht, rfl, hbl⟩
            have hDl := hD.below hbl
            have hWl : Below w.heap.size w wl := hW.trans (hbl.mono hW.size)
            have had := ba_sum Tryd.prog s t (by omega)
            have HSZ := Lib.hid (ba_size s t)
            have hs1 : (s ++ t).size ≤ 8 * 0 + 3 := by rw [HSZ.out]; omega
            clear hD hW hbl hs HSZ
            have hD := hDl
            have hW := hWl
            clear hDl hWl
            go_wp2_with fail
            generalize s ++ t = s1 at *
            go_wp2_with fail
            go_loopw [5, 7] (fun v5 v7 wr => ∃ (j : Nat) (s2 : ByteArray), v7 = .int .i64 j ∧ j ≤ 5 ∧ v5 = .string s2 ∧ s2.size ≤ 8 * 0 + 3 + j ∧ Dr wr w.heap.size w.heap.size A n c zs ∧ Below w.heap.size w wr) (fun _ v7 _ => 6 - (intOf v7).toNat)
            case atStart => exact ⟨0, s1, rfl, by omega, rfl, by omega, hD, hW⟩
            case round =>
              obtain ⟨j, s2, rfl, hj, rfl, hs2, hDj, hWj⟩ := hrel
              clear hD hW hs1
              go_wp2_with fail
              refine (d_Below w.heap.size w.heap.size A n c zs 5 _ hDj (by omega) (by omega)).mono ?_; rintro e wv ⟨v, v0, v1, rfl, hDn, hGn⟩
              have hWn := dr_bel hWj hGn
              clear hDj hWj hGn
              have hDj := hDn
              have hWj := hWn
              clear hDn hWn
              by_cases hjv : (j : Int) ≤ v
              · go_wp2_with fail
                refine (d_Below w.heap.size w.heap.size A n c zs 94 _ hDj (by omega) (by omega)).mono ?_; rintro e wx ⟨x, x0, x1, rfl, hDn, hGn⟩
                have hWn := dr_bel hWj hGn
                clear hDj hWj hGn
                have hDj := hDn
                have hWj := hWn
                clear hDn hWn
                have hcv := conv_one wx (UInt8.ofNat (33 + x).toNat)
                rw [u8_of (by omega) (by omega)] at hcv
                have had := ba_sum Tryd.prog s2 ⟨#[UInt8.ofNat (33 + x).toNat]⟩ (by have h1 : (⟨#[UInt8.ofNat (33 + x).toNat]⟩ : ByteArray).size = 1 := rfl; omega)
                have hsz := ba_size s2 ⟨#[UInt8.ofNat (33 + x).toNat]⟩
                have hsz1 : (⟨#[UInt8.ofNat (33 + x).toNat]⟩ : ByteArray).size = 1 := rfl
                have hW3 := hWj.alloc hWj.size (.cells #[.int .u8 (33 + x)] 5)
                have hD3 := hDj.alloc (.cells #[.int .u8 (33 + x)] 5)
                have HSZ := Lib.hid hsz
                have HSZ1 := Lib.hid hsz1
                clear hsz hsz1 hDj hWj
                generalize (⟨#[UInt8.ofNat (33 + x).toNat]⟩ : ByteArray) = one at *
                go_wp2
                go_roundw
                case rel => exact ⟨j + 1, s2 ++ one, by go_num, by omega, rfl, by rw [HSZ.out, HSZ1.out]; omega, hD3, hW3⟩
                case measure => simp [intOf]; omega
              · go_wp2
                go_roundw
                case rel => exact ⟨0 + 1, s2, by go_num, by omega, rfl, by omega, hDj, hWj⟩
                case measure => simp [intOf]; omega
      · obtain rfl : k = N := by omega
        go_wp2_with fail
        refine (d_Below w.heap.size w.heap.size A n c zs 12 _ hD (by omega) (by omega)).mono ?_; rintro e wv ⟨v, v0, v1, rfl, hDn, hGn⟩
        have hWn := dr_bel hW hGn
        clear hD hW hGn
        have hD := hDn
        have hW := hWn
        clear hDn hWn
        rcases (show v = 0 ∨ v = 1 ∨ (2 ≤ v ∧ v ≤ 11) from by omega) with h | h | h
        · have hb0 : (v == 0) = true := by simp [h]
          clear h
          go_wp2_with fail
          have hne : wv.heap.size ≠ w.heap.size := by have := hD.lt; omega
          refine (d_PickS w.heap.size w.heap.size A n c zs wv.heap.size _ (hD.alloc _) hne (by simp) (fun j hj => ?_)).mono ?_
          · rw [(Blk.new wv _ _).cell j]
            rcases (show j = 0 ∨ j = 1 ∨ j = 2 ∨ j = 3 ∨ j = 4 ∨ j = 5 by omega) with rfl | rfl | rfl | rfl | rfl | rfl
            all_goals exact ⟨_, by decide, rfl⟩
          rintro e wp ⟨x, hx, rfl, hDp, hGp⟩
          have hWp : Below w.heap.size w wp := below_grown (hW.alloc hW.size _) hGp (by simp; have := hW.size; omega) (Nat.le_refl _)
          have had := ba_sum Tryd.prog s x (by omega)
          have HSZ := Lib.hid (ba_size s x)
          go_wp2
          go_ret
          exact ⟨_, by rw [HSZ.out]; omega, rfl, hWp⟩
        · have hb0 : (v == 0) = false := by simp [h]
          have hb1 : (v == 1) = true := by simp [h]
          clear h
          have e6 : (s.size : Int) < 600 := by omega
          go_wp2_with fail
          refine (d_Below w.heap.size w.heap.size A n c zs 2 _ hD (by omega) (by omega)).mono ?_; rintro e wy ⟨y, y0, y1, rfl, hDn, hGn⟩
          have hWn := dr_bel hW hGn
          clear hD hW hGn
          have hD := hDn
          have hW := hWn
          clear hDn hWn
          go_wp2_with fail
          refine (s_l01Long (600 - (s.size : Int) + y) (600 - (s.size : Int) + y).toNat 32 32 _ (by omega) rfl (by omega)).mono ?_; rintro e wl ⟨t, ht, rfl, hbl⟩
          have had := ba_sum Tryd.prog s t (by omega)
          have HSZ := Lib.hid (ba_size s t)
          have hWl : Below w.heap.size w wl := hW.trans (hbl.mono hW.size)
          go_wp2
          go_ret
          exact ⟨_, by rw [HSZ.out]; omega, rfl, hWl⟩
        · have hb0 : (v == 0) = false := by simp; omega
          have hb1 : (v == 1) = false := by simp; omega
          go_wp2
          go_ret
          exact ⟨_, by omega, rfl, hW⟩
end Go.Proofs.YtgiacjfnbbbafabDoor
