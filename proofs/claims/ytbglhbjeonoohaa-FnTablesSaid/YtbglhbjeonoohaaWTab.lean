/- The walk of the law FnTables. -/
import Derived.Test.YtbglhbjeonoohaaTabD
import Derived.Test.YtbglhbjeonoohaaTabV
namespace Go.Proofs.Ytbglhbjeonoohaa
open Go.RowKit

theorem l_atJ (A : Option Addr) (n c : Nat) (zs : List Int) (i : Int) (k : Nat) (H : Nat) (w : World) (hik : i = (k : Int)) (h : BytesAt w H A n zs) (hi : k ≤ 1000) (hn : n ≤ 1048576) :
    Calls Try.prog 12 #[.slice A n c, .int .i64 i] w fun e w' => e = .returned (.int .i64 (atV zs k)) ∧ w = w' := by
  subst hik; exact l_at A n c zs k H w h hi hn
/-- All that the law asks of a drawn table. -/
structure TabPack (W1 : World) (b off m tc : Nat) (x0 xl yl : Int) (fx fy : Nat → Int) (V : Int → Int) : Prop where
  m2 : 2 ≤ m
  m5 : m ≤ 5
  x00 : 0 ≤ x0
  x0l : x0 < xl
  xl6 : xl ≤ 600
  fx0 : fx 0 = x0
  fxl : fx (m - 1) = xl
  fyl : fy (m - 1) = yl
  mono : ∀ x, V x ≤ V (x + 1)
  point : ∀ j, j < m → V (fx j) = fy j
  cells : ∀ W, Below W1.heap.size W1 W → ∀ j, j < m → W.cell? ⟨b, off + j * 2, none⟩ = some (.int .i64 (fx j)) ∧ W.cell? ⟨b, off + j * 2 + 1, none⟩ = some (.int .i64 (fy j)) ∧ b < W.heap.size
  value : ∀ W, Below W1.heap.size W1 W → ∀ x, Calls Try.prog 11 #[.slice (some ⟨b, off, none⟩) m tc, .int .i64 x] W fun e w' => e = .returned (.int .i64 (V x)) ∧ Below W.heap.size W w'
  place : ∀ y, y ≤ yl → ∃ p : Int, x0 ≤ p ∧ p ≤ xl ∧ y ≤ V p ∧ (x0 < p → V (p - 1) < y) ∧ ∀ W, Below W1.heap.size W1 W → Calls Try.prog 13 #[.slice (some ⟨b, off, none⟩) m tc, .int .i64 y] W fun e w' => e = .returned (.tuple #[.int .i64 p, .bool true]) ∧ Below W.heap.size W w'
  noPlace : ∀ y, yl < y → ∀ W, Below W1.heap.size W1 W → Calls Try.prog 13 #[.slice (some ⟨b, off, none⟩) m tc, .int .i64 y] W fun e w' => e = .returned (.tuple #[.int .i64 0, .bool false]) ∧ Below W.heap.size W w'
  tableOk : ∀ W, Below W1.heap.size W1 W → Calls Try.prog 14 #[.slice (some ⟨b, off, none⟩) m tc] W fun e w' => e = .returned (.bool true) ∧ Below W.heap.size W w'

theorem tab_pack {W1 : World} {tA : Option Addr} {tc : Nat} {ps : List (Int × Int)} (hT : TabD ps) (hP : PtsAt W1 W1.heap.size tA ps) :
    ∃ (b off m : Nat) (x0 xl yl : Int) (fx fy : Nat → Int) (V : Int → Int), tA = some ⟨b, off, none⟩ ∧ ps.length = m ∧ TabPack W1 b off m tc x0 xl yl fx fy V := by
  have hl := tab_len hT.1
  obtain ⟨b, off, rfl, hb, hc⟩ := hP (by omega)
  have below : ∀ {W : World}, Below W1.heap.size W1 W → PtsAt W W1.heap.size (some ⟨b, off, none⟩) ps := fun hW => hP.below hW
  refine ⟨b, off, ps.length, px ps 0, px ps (ps.length - 1), py ps (ps.length - 1), px ps, py ps, valueV ps, rfl, rfl, hl.1, hT.2.1, (tab_x hT.1 (by omega)).1, tab_xlt hT.1 (by omega) (by omega), (hT.2.2 _ (by omega)).1, rfl, rfl, rfl, fun x => value_mono hT.1 (by omega), fun j hj => value_point hT.1 hj, ?_, ?_, ?_, ?_, ?_⟩
  · intro W hW j hj
    exact ⟨(hW.cell (p := ⟨b, off + j * 2, none⟩) hb).trans (hc j hj).1, (hW.cell (p := ⟨b, off + j * 2 + 1, none⟩) hb).trans (hc j hj).2, Nat.lt_of_lt_of_le hb hW.size⟩
  · intro W hW x
    exact i_ValueAt _ tc ps x W1.heap.size W (below hW) hW.size (by omega)
  · intro y hy
    obtain ⟨p1, p2, p3, p4⟩ := place_spec hT.1 hy
    refine ⟨placeV ps y, p1, p2, p3, p4, fun W hW => ?_⟩
    have h := i_PlaceOf _ tc ps y W1.heap.size W (below hW) hW.size (by omega)
    rw [place_yes hT.1 hy] at h; exact h
  · intro y hy W hW
    have h := i_PlaceOf _ tc ps y W1.heap.size W (below hW) hW.size (by omega)
    obtain ⟨h1, h2⟩ := place_no (ps := ps) (y := y) (.inr hy)
    rw [h1, h2] at h; exact h
  · intro W hW
    have h := i_TableOk _ tc ps W1.heap.size W (below hW) hW.size (by omega)
    rw [hT.1] at h; exact h
theorem stepB {w1 W w' : World} (h : Below w1.heap.size w1 W) (hb : Below W.heap.size W w') : Below w1.heap.size w1 w' := h.trans (hb.mono h.size)

set_option maxRecDepth 100000 in
set_option maxHeartbeats 8000000 in
theorem walk_FnTables (A : Option Addr) (n c : Nat) (zs : List Int) (w : World) (hB : BytesAt w w.heap.size A n zs) :
    Calls Try.prog 3 #[.slice A n c] w fun e w' => e = .returned (.bool true) ∧ Below w.heap.size w w' := by
  by_cases hbig : 1048576 < n
  · have hb : decide (1048576 < n) = true := by simpa using hbig
    clear hB
    go_enter Try.func3, Try.ntmps3
    go_wp2_with (go_at_call 9; refine (l_big _ _ _ _).mono ?_; rintro e w' ⟨rfl, rfl⟩)
    go_ret
    exact ⟨rfl, Below.refl _ _⟩
  · have hb : decide (1048576 < n) = false := by simpa using hbig
    go_enter Try.func3, Try.ntmps3
    go_wp2_with fail
    refine (l_big _ _ _ _).mono ?_; rintro e w' ⟨rfl, rfl⟩
    go_wp2_with fail
    refine (s_DrawTable A n c zs _ hB (by omega)).mono ?_; rintro e w1 ⟨tA, tc, ps, rfl, hT, hP, hW⟩
    obtain ⟨b, off, m, x0, xl, yl, fx, fy, V, rfl, hm, K⟩ := tab_pack (tc := tc) hT hP
    clear hT hP hb
    rw [hm]
    clear hm ps
    have HA := Lib.hid (fun (W : World) (hb : Below w1.heap.size w1 W) (k : Nat) (hk : k ≤ 1000) (i : Int) (hik : i = (k : Int)) => l_atJ A n c zs i k w.heap.size W hik ((hB.below hW).below (hb.mono hW.size)) hk (by omega))
    have HAB := Lib.hid (fun k => atV_bd hB k)
    clear hB
    have KK := Lib.hid K
    obtain ⟨m2, m5, x00, x0l, xl6⟩ : 2 ≤ m ∧ m ≤ 5 ∧ 0 ≤ x0 ∧ x0 < xl ∧ xl ≤ 600 := ⟨K.m2, K.m5, K.x00, K.x0l, K.xl6⟩
    clear K
    have g1 : (0 : Int) ≤ (m : Int) - 1 := by omega
    have g2 : (m : Int) - 1 < (m : Int) := by omega
    have g0 : 0 < m := by omega
    have z4 : IntKind.i64.wrap ((m : Int) - 1) = (m : Int) - 1 := IntWalk.i64_in _ (by omega)
    have z5 : ((m : Int) - 1).toNat = m - 1 := by omega
    obtain ⟨c0x, c0y, hbl⟩ := KK.out.cells w1 (Below.refl _ _) 0 (by omega)
    obtain ⟨clx, cly, _⟩ := KK.out.cells w1 (Below.refl _ _) (m - 1) (by omega)
    rw [Nat.zero_mul, Nat.add_zero, KK.out.fx0] at c0x
    rw [KK.out.fxl] at clx
    clear c0y cly
    go_wp2_with fail
    go_loopw [6] (fun v6 wr => ∃ x : Int, x0 ≤ x ∧ x ≤ xl ∧ v6 = .int .i64 x ∧ Below w1.heap.size w1 wr) (fun v6 _ => (xl - intOf v6).toNat)
    case atStart => exact ⟨x0, by omega, by omega, rfl, Below.refl _ _⟩
    case round =>
      obtain ⟨x, hx0, hx1, rfl, hWr⟩ := hrel
      clear c0x clx
      by_cases hx : x < xl
      · have hm := KK.out.mono x
        go_wp2_with fail
        refine (KK.out.value _ hWr _).mono ?_; rintro e w2 ⟨rfl, hb2⟩
        replace hWr := stepB hWr hb2
        clear hb2
        go_wp2_with fail
        refine (KK.out.value _ hWr _).mono ?_; rintro e w3 ⟨rfl, hb3⟩
        replace hWr := stepB hWr hb3
        clear hb3
        go_wp2
        go_roundw
        case rel => exact ⟨x + 1, by omega, by omega, rfl, hWr⟩
        case measure => simp [intOf]; omega
      · go_wp2_with fail
        go_loopw [7] (fun v7 wr => ∃ k : Nat, k ≤ 12 ∧ v7 = .int .i64 k ∧ Below w1.heap.size w1 wr) (fun v7 _ => (12 - intOf v7).toNat)
        case atStart => exact ⟨0, by omega, rfl, hWr⟩
        case round =>
          obtain ⟨k, hk, rfl, hWq⟩ := hrel
          clear hWr
          by_cases hk12 : k < 12
          · have e1 : (k : Int) < 12 := by omega
            have e2 : decide (k < 12) = true := by simpa using hk12
            have a0 := HAB.out k
            have a1 := HAB.out (k + 1)
            have f0 : 0 ≤ atV zs k * atV zs (k + 1) := Int.mul_nonneg (by omega) (by omega)
            have f1 : atV zs k * atV zs (k + 1) ≤ 255 * 255 := Int.mul_le_mul (by omega) (by omega) (by omega) (by omega)
            go_wp2_with fail
            refine (HA.out _ hWq k (by omega) _ rfl).mono ?_; rintro e w' ⟨rfl, rfl⟩
            go_wp2_with fail
            refine (HA.out _ hWq (k + 1) (by omega) _ (by push_cast; rfl)).mono ?_; rintro e w' ⟨rfl, rfl⟩
            go_wp2_with fail
            generalize atV zs k * atV zs (k + 1) % 4000 = y at *
            clear a0 a1 f0 f1
            rcases Int.lt_or_le yl y with hy | hy
            · refine (KK.out.noPlace y hy _ hWq).mono ?_; rintro e w4 ⟨rfl, hb4⟩
              replace hWq := stepB hWq hb4
              clear hb4
              obtain ⟨_, cly, _⟩ := KK.out.cells _ hWq (m - 1) (by omega)
              rw [KK.out.fyl] at cly
              go_wp2
              go_roundw
              case rel => exact ⟨k + 1, by omega, by go_num, hWq⟩
              case measure => simp [intOf]; omega
            · obtain ⟨p, p0, p1, p2, p3, HP⟩ := KK.out.place y hy
              refine (HP _ hWq).mono ?_; rintro e w4 ⟨rfl, hb4⟩
              replace hWq := stepB hWq hb4
              clear hb4 HP
              obtain ⟨_, cly, _⟩ := KK.out.cells _ hWq (m - 1) (by omega)
              rw [KK.out.fyl] at cly
              by_cases hp : x0 < p
              · have p4 := p3 hp
                clear p3
                go_wp2_with fail
                refine (KK.out.value _ hWq _).mono ?_; rintro e w5 ⟨rfl, hb5⟩
                replace hWq := stepB hWq hb5
                clear hb5 cly
                go_wp2_with fail
                refine (KK.out.value _ hWq _).mono ?_; rintro e w6 ⟨rfl, hb6⟩
                replace hWq := stepB hWq hb6
                clear hb6
                go_wp2
                go_roundw
                case rel => exact ⟨k + 1, by omega, by go_num, hWq⟩
                case measure => simp [intOf]; omega
              · clear p3
                go_wp2_with fail
                refine (KK.out.value _ hWq _).mono ?_; rintro e w5 ⟨rfl, hb5⟩
                replace hWq := stepB hWq hb5
                clear hb5 cly
                go_wp2
                go_roundw
                case rel => exact ⟨k + 1, by omega, by go_num, hWq⟩
                case measure => simp [intOf]; omega
          · have hk' : (k : Int) = 12 := by omega
            rw [hk']
            clear hk' hk hk12
            go_wp2_with fail
            go_loopw [11] (fun v11 wr => ∃ k : Nat, k ≤ m ∧ v11 = .int .i64 k ∧ Below w1.heap.size w1 wr) (fun v11 _ => m - (intOf v11).toNat)
            case atStart => exact ⟨0, by omega, rfl, hWq⟩
            case round =>
              obtain ⟨k, hk, rfl, hWs⟩ := hrel
              clear hWq
              by_cases hkm : k < m
              · have e1 : (k : Int) < (m : Int) := by omega
                obtain ⟨ckx, cky, hbl⟩ := KK.out.cells _ hWs k hkm
                have hpt := KK.out.point k hkm
                have S0 : wr.drew.cell? ⟨b, off + k * 2, none⟩ = some (.int .i64 (fx k)) ∧ wr.drew.cell? ⟨b, off + k * 2 + 1, none⟩ = some (.int .i64 (fy k)) ∧ b < wr.drew.heap.size := ⟨ckx, cky, hbl⟩
                go_wp2_with fail
                go_region_held3 (fun w' => w'.cell? ⟨b, off + k * 2, none⟩ = some (.int .i64 (fx k)) ∧ w'.cell? ⟨b, off + k * 2 + 1, none⟩ = some (.int .i64 (fy k)) ∧ b < w'.heap.size) (first | with_reducible exact S7 | with_reducible exact S0) (first | (go_at_call 11; ((with_reducible refine (KK.out.value _ hWs.drew _).mono ?_)); rintro e w7 ⟨rfl, hb7⟩; have hW7 := stepB hWs.drew hb7; have S7 := KK.out.cells _ hW7 k hkm))
                all_goals
                  go_wp2
                  go_roundw
                  case rel => exact ⟨k + 1, by omega, by go_num, hW7⟩
                  case measure => simp [intOf]; omega
              · obtain rfl : k = m := by omega
                go_wp2_with fail
                refine (KK.out.tableOk _ hWs).mono ?_; rintro e w5 ⟨rfl, hb5⟩
                go_wp2
                go_ret
                exact ⟨rfl, hW.trans ((stepB hWs hb5).mono hW.size)⟩
end Go.Proofs.Ytbglhbjeonoohaa
