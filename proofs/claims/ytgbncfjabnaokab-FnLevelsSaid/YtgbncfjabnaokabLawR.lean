/- Contracts of the laws' own helpers on reaches: szIntS, szReach, toIntS, toReach, eqIntS, eqReach. -/
import Derived.Test.YtgbncfjabnaokabLawQ
import Derived.Test.YtgbncfjabnaokabReT
namespace Go.Proofs.Ytgbncfjabnaokab
open Go.RowKit

theorem l_szIntS (A : Option Addr) (n c : Nat) (left : Int) (w : World) (h0 : 0 ≤ left) (h1 : left ≤ 1048576) (hn : n ≤ 9223372036854775807) :
    Calls Try.prog 34 #[.slice A n c, .int .i64 left] w fun e w' => e = .returned (.int .i64 (szV left n)) ∧ w = w' := by
  by_cases h : left < (n : Int)
  · have HV := Lib.hid (show szV left n = -1 by unfold szV; rw [if_pos h])
    go_enter Try.func34, Try.ntmps34
    go_wp2
    go_ret
    exact ⟨ret_int HV.out.symm, rfl⟩
  · have HV := Lib.hid (show szV left n = left - n by unfold szV; rw [if_neg h])
    go_enter Try.func34, Try.ntmps34
    go_wp2
    go_ret
    exact ⟨ret_int HV.out.symm, rfl⟩

/-- Numbers in memory of the call's own. -/
def NumsOut (w : World) (zs : List Int) (e : Ending) (w' : World) : Prop :=
  ∃ A c, e = .returned (.slice A zs.length c) ∧ Row w' w.heap.size w'.heap.size 3 1 A zs.length c (cellsI zs) ∧ Below w.heap.size w w'
theorem info_int : (Try.prog.info? 3).map (fun i => (i.zero, i.size, i.bytes)) = some (some (.int .i64 0), 1, 8) := by kernel_rfl
def UpToI (zs : List Int) (k : Nat) (xs : List Value) : Prop := ∀ j, j < k → xs[j]? = (cellsI zs)[j]?
theorem upToI_end {zs : List Int} {xs : List Value} (h : UpToI zs zs.length xs) (hl : xs.length = zs.length) : xs = cellsI zs := by
  apply List.ext_getElem?
  intro j
  rcases Nat.lt_or_ge j zs.length with hj | hj
  · exact h j hj
  · rw [List.getElem?_eq_none (by omega), List.getElem?_eq_none (by rw [cellsI_len]; omega)]
theorem upToI_step {zs : List Int} {xs : List Value} {k : Nat} (h : UpToI zs k xs) (hk : k < zs.length) (hl : xs.length = zs.length) :
    UpToI zs (k + 1) (xs.set k (.int .i64 (zs.getD k 0))) := by
  intro j hj
  have c := cellsI_at zs k hk
  simp only [List.getElem?_set]
  by_cases h1 : k = j
  · subst h1; rw [if_pos rfl, if_pos (by omega), c]
  · rw [if_neg h1]; exact h j (by omega)

set_option maxHeartbeats 1000000 in
theorem l_toIntS (A : Option Addr) (c : Nat) (zs : List Int) (H : Nat) (w : World) (hP : NumsAt w H A zs) (hH : H ≤ w.heap.size) (hn : zs.length ≤ 1048576) :
    Calls Try.prog 38 #[.slice A zs.length c] w (NumsOut w zs) := by
  obtain ⟨i0, hi, hz0, hz1, hz2⟩ := info_parts info_int
  have HP := Lib.hid hP
  have HF := Lib.hid (fun (xs : List Value) (h : UpToI zs zs.length xs) (hl : xs.length = zs.length) => upToI_end h hl)
  obtain ⟨n, hnn⟩ : ∃ n, n = zs.length := ⟨_, rfl⟩
  have HPost : Hid (NumsOut w zs = fun e w' => ∃ A c, e = .returned (.slice A n c) ∧ Row w' w.heap.size w'.heap.size 3 1 A n c (cellsI zs) ∧ Below w.heap.size w w') := by
    unfold Hid; rw [hnn]; rfl
  rw [← hnn] at hn ⊢
  have HL := Lib.hid hnn
  clear hP hnn
  go_enter Try.func38, Try.ntmps38
  go_wp2_with (at_make; refine wpList_make_full _ rfl (.tmp 6) (.tmp 6) 23 rfl w.heap.size 3 i0 _ 1 Try.underlying23 hi hz0 hz1 .i64 .i64 _ _ n rfl rfl rfl rfl (by rw [hz2]; omega) (by unfold maxLen; omega) (Nat.le_refl _) ?_; intro w1 hown hgr)
  have HW : Below w.heap.size w w1 := (Below.refl _ _).grown hgr (Nat.le_refl _) (fun k hk => by cases hk)
  go_loopw [4] (fun v4 wr => ∃ (k : Nat) (xs : List Value), k ≤ n ∧ v4 = .int .i64 k ∧ UpToI zs k xs ∧ wr.ownsRow w.heap.size 3 1 (.slice (some ⟨w.heap.size, 0, none⟩) n n) n xs ∧ Below w.heap.size w wr) (fun v4 _ => n - (intOf v4).toNat)
  case atStart => exact ⟨0, _, by omega, rfl, fun j hj => by omega, hown, HW⟩
  case round =>
    obtain ⟨k, xs, hk, rfl, hU, hO, hW⟩ := hrel
    have hxl := hO.1
    rw [Nat.mul_one] at hxl
    clear hown hgr HW
    by_cases hlt : k < n
    · have hl2 : k < zs.length := by rw [← HL.out]; exact hlt
      obtain ⟨b, off, rfl, hb, hc⟩ := HP.out (by omega)
      have cx' := (hW.cell (p := ⟨b, off + k, none⟩) (by show b < _; omega)).trans (hc k hl2)
      have e3 : (k : Int) < (n : Int) := by omega
      have HS := Lib.hid (upToI_step hU hl2 (by rw [← HL.out]; exact hxl))
      have f1 := hO.frozenAt k
      obtain ⟨u1, hu1⟩ : ∃ u, wr.cell? ⟨w.heap.size, k, none⟩ = some u := by
        rw [hO.cellAt k (by omega)]; exact ⟨_, List.getElem?_eq_getElem (by omega)⟩
      have hO3 := (hO.stored k (.int .i64 (zs.getD k 0))).1
      have hW3 := hW.setCell (p := ⟨w.heap.size, k, none⟩) (Nat.le_refl _) (.int .i64 (zs.getD k 0))
      clear hc hU hl2 hO hW hxl
      generalize zs.getD k 0 = z at *
      go_wp2
      go_roundw
      case rel => exact ⟨k + 1, _, by omega, by go_num, HS.out, hO3, hW3⟩
      case measure => simp [intOf]; omega
    · have hxs := HF.out xs (by rw [← HL.out, show n = k by omega]; exact hU) (by rw [← HL.out]; exact hxl)
      have HX := Lib.hid hxs
      clear hU hxs hxl
      go_wp2
      go_ret
      rw [HPost.out]
      exact ⟨_, _, rfl, Row.of_own (by rw [← HX.out]; exact hO), hW⟩

set_option maxHeartbeats 1000000 in
theorem l_eqIntS (A B : Option Addr) (c d : Nat) (zs : List Int) (H : Nat) (w : World) (hP : NumsAt w H A zs) (hQ : NumsAt w H B zs) (hH : H ≤ w.heap.size) (hn : zs.length ≤ 1048576) :
    Calls Try.prog 41 #[.slice A zs.length c, .slice B zs.length d] w fun e w' => e = .returned (.bool true) ∧ Below w.heap.size w w' := by
  have HP := Lib.hid hP
  have HQ := Lib.hid hQ
  obtain ⟨n, hnn⟩ : ∃ n, n = zs.length := ⟨_, rfl⟩
  rw [← hnn] at hn ⊢
  have HL := Lib.hid hnn
  clear hP hQ hnn
  go_enter Try.func41, Try.ntmps41
  go_wp2
  go_loopw [5] (fun v5 wr => ∃ k : Nat, k ≤ n ∧ v5 = .int .i64 k ∧ Below w.heap.size w wr) (fun v5 _ => n - (intOf v5).toNat)
  case atStart => exact ⟨0, by omega, rfl, Below.refl _ _⟩
  case round =>
    obtain ⟨k, hk, rfl, hW⟩ := hrel
    by_cases hlt : k < n
    · have hl2 : k < zs.length := by rw [← HL.out]; exact hlt
      obtain ⟨b, off, rfl, hb, hc⟩ := HP.out (by omega)
      obtain ⟨b', off', rfl, hb', hc'⟩ := HQ.out (by omega)
      have c1 := (hW.cell (p := ⟨b, off + k, none⟩) (by show b < _; omega)).trans (hc k hl2)
      have c2 := (hW.cell (p := ⟨b', off' + k, none⟩) (by show b' < _; omega)).trans (hc' k hl2)
      have e0 : (0 : Int) ≤ (k : Int) := by omega
      have e3 : (k : Int) < (n : Int) := by omega
      clear hc hc' hl2
      generalize zs.getD k 0 = z at *
      go_wp2_with fail
      go_quiet (fail)
      go_wp2
      go_roundw
      case rel => exact ⟨k + 1, by omega, by go_num, below_drewN hW _⟩
      case measure => simp [intOf]; omega
    · go_wp2
      go_ret
      exact ⟨rfl, hW⟩
end Go.Proofs.Ytgbncfjabnaokab
