/- Contract of eqPointS, and the walks of the laws FnExactTableOk, FnExactValueAt, FnExactPlaceOf. -/
import Derived.Test.YtgbncfjabnaokabLawP
import Derived.Test.YtgbncfjabnaokabTabV
namespace Go.Proofs.Ytgbncfjabnaokab
open Go.RowKit

theorem quad_below {W w1 : World} {b o1 o2 b' o3 o4 : Nat} {v1 v2 v3 v4 : Value} (hb : Below W.heap.size W w1) (h : W.cell? ⟨b, o1, none⟩ = some v1 ∧ W.cell? ⟨b, o2, none⟩ = some v2 ∧ W.cell? ⟨b', o3, none⟩ = some v3 ∧ W.cell? ⟨b', o4, none⟩ = some v4 ∧ b < W.heap.size ∧ b' < W.heap.size) :
    w1.cell? ⟨b, o1, none⟩ = some v1 ∧ w1.cell? ⟨b, o2, none⟩ = some v2 ∧ w1.cell? ⟨b', o3, none⟩ = some v3 ∧ w1.cell? ⟨b', o4, none⟩ = some v4 ∧ b < w1.heap.size ∧ b' < w1.heap.size := by
  obtain ⟨h1, h2, h3, h4, hb1, hb2⟩ := h
  have := hb.size
  exact ⟨(hb.cell (p := ⟨b, o1, none⟩) hb1).trans h1, (hb.cell (p := ⟨b, o2, none⟩) hb1).trans h2, (hb.cell (p := ⟨b', o3, none⟩) hb2).trans h3, (hb.cell (p := ⟨b', o4, none⟩) hb2).trans h4, by omega, by omega⟩

set_option maxHeartbeats 1000000 in
theorem l_eqPointS (A B : Option Addr) (c d : Nat) (ps : List (Int × Int)) (H : Nat) (w : World) (hP : PtsAt w H A ps) (hQ : PtsAt w H B ps) (hH : H ≤ w.heap.size) (hn : ps.length ≤ 1048576) :
    Calls Try.prog 40 #[.slice A ps.length c, .slice B ps.length d] w fun e w' => e = .returned (.bool true) ∧ Below w.heap.size w w' := by
  have HP := Lib.hid hP
  have HQ := Lib.hid hQ
  obtain ⟨n, hnn⟩ : ∃ n, n = ps.length := ⟨_, rfl⟩
  rw [← hnn] at hn ⊢
  have HL := Lib.hid hnn
  clear hP hQ hnn
  go_enter Try.func40, Try.ntmps40
  go_wp2
  go_loopw [5] (fun v5 wr => ∃ k : Nat, k ≤ n ∧ v5 = .int .i64 k ∧ Below w.heap.size w wr) (fun v5 _ => n - (intOf v5).toNat)
  case atStart => exact ⟨0, by omega, rfl, Below.refl _ _⟩
  case round =>
    obtain ⟨k, hk, rfl, hW⟩ := hrel
    by_cases hlt : k < n
    · have hl2 : k < ps.length := by rw [← HL.out]; exact hlt
      obtain ⟨b, off, rfl, hb, hc⟩ := HP.out (by omega)
      obtain ⟨b', off', rfl, hb', hc'⟩ := HQ.out (by omega)
      have S0 : wr.drew.cell? ⟨b, off + k * 2, none⟩ = some (.int .i64 (px ps k)) ∧ wr.drew.cell? ⟨b, off + k * 2 + 1, none⟩ = some (.int .i64 (py ps k)) ∧ wr.drew.cell? ⟨b', off' + k * 2, none⟩ = some (.int .i64 (px ps k)) ∧ wr.drew.cell? ⟨b', off' + k * 2 + 1, none⟩ = some (.int .i64 (py ps k)) ∧ b < wr.drew.heap.size ∧ b' < wr.drew.heap.size :=
        ⟨(hW.cell (p := ⟨b, off + k * 2, none⟩) (by show b < _; omega)).trans (hc k hl2).1, (hW.cell (p := ⟨b, off + k * 2 + 1, none⟩) (by show b < _; omega)).trans (hc k hl2).2, (hW.cell (p := ⟨b', off' + k * 2, none⟩) (by show b' < _; omega)).trans (hc' k hl2).1, (hW.cell (p := ⟨b', off' + k * 2 + 1, none⟩) (by show b' < _; omega)).trans (hc' k hl2).2, by show b < wr.heap.size; have := hW.size; omega, by show b' < wr.heap.size; have := hW.size; omega⟩
      have e0 : (0 : Int) ≤ (k : Int) := by omega
      have e3 : (k : Int) < (n : Int) := by omega
      clear hc hc' hl2
      go_wp2_with fail
      go_region_held3 (fun w' => w'.cell? ⟨b, off + k * 2, none⟩ = some (.int .i64 (px ps k)) ∧ w'.cell? ⟨b, off + k * 2 + 1, none⟩ = some (.int .i64 (py ps k)) ∧ w'.cell? ⟨b', off' + k * 2, none⟩ = some (.int .i64 (px ps k)) ∧ w'.cell? ⟨b', off' + k * 2 + 1, none⟩ = some (.int .i64 (py ps k)) ∧ b < w'.heap.size ∧ b' < w'.heap.size) (first | with_reducible exact S1 | with_reducible exact S0) (first | (go_at_call 61; refine (l_eqPoint _ _ _).mono ?_; rintro e w2 ⟨rfl, hb2⟩; have S1 := quad_below hb2 S0))
      have hW2 := hW.drew.trans (hb2.mono hW.size)
      clear S0 S1 hb2
      go_wp2
      go_roundw
      case rel => exact ⟨k + 1, by omega, by go_num, hW2⟩
      case measure => simp [intOf]; omega
    · go_wp2
      go_ret
      exact ⟨rfl, hW⟩

theorem szV_neg {n : Nat} (h : 1048576 < n) : szV 1048576 n = -1 := by unfold szV; rw [if_pos (by omega)]
theorem szV_pos {n : Nat} (h : n ≤ 1048576) : 0 ≤ szV 1048576 n := by unfold szV; rw [if_neg (by omega)]; omega

end Go.Proofs.Ytgbncfjabnaokab
