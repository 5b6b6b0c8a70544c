/- The laws' helpers on slices of numbers. -/
import Derived.Test.YtaoinmlhhnklgaaPts
import Derived.Test.YtaoinmlhhnklgaaArith
import Derived.Laws.MakeOwn
import Derived.RegionTactic
import Derived.Deep.QuietTactic
import Derived.BigQuiet
namespace Go.Proofs.Ytaoinmlhhnklgaa
open Go.RowKit
theorem below_drewN_ {B : Nat} {a w : World} (h : Below B a w) (n : Nat) : Below B a (w.drewN n) := ⟨h.os, h.tape, h.output, h.size, h.block⟩
/-- Numbers in memory of the call's own. -/
def NumsOut (w : World) (zs : List Int) (e : Ending) (w' : World) : Prop :=
  ∃ A c, e = .returned (.slice A zs.length c) ∧ Row w' w.heap.size w'.heap.size 3 1 A zs.length c (cellsI zs) ∧ Below w.heap.size w w'
theorem info_int : (Try.prog.info? 3).map (fun i => (i.zero, i.size, i.bytes)) = some (some (.int .i64 0), 1, 8) := by kernel_rfl
def UpToI (zs : List Int) (k : Nat) (xs : List Value) : Prop := ∀ j, j < k → xs[j]? = (cellsI zs)[j]?
theorem upToI_end {zs : List Int} {xs : List Value} (h : UpToI zs zs.length xs) (hl : xs.length = zs.length) : xs = cellsI zs := by
  apply List.ext_getElem?
  intro j
  rcases Nat.lt_or_ge j zs.length with hj | hj
  · exact h j hj
  · rw [List.getElem?_eq_none (by omega), List.getElem?_eq_none (by rw [cellsI_len]; omega)]
theorem upToI_step {zs : List Int} {xs : List Value} {k : Nat} (h : UpToI zs k xs) (hk : k < zs.length) (hl : xs.length = zs.length) :
    UpToI zs (k + 1) (xs.set k (.int .i64 (zs.getD k 0))) := by
  intro j hj
  have c := cellsI_at zs k hk
  simp only [List.getElem?_set]
  by_cases h1 : k = j
  · subst h1; rw [if_pos rfl, if_pos (by omega), c]
  · rw [if_neg h1]; exact h j (by omega)

set_option maxHeartbeats 1000000 in
theorem l_toIntS (A : Option Addr) (c : Nat) (zs : List Int) (H : Nat) (w : World) (hP : NumsAt w H A zs) (hH : H ≤ w.heap.size) (hn : zs.length ≤ 1048576) :
    Calls Try.prog 9 #[.slice A zs.length c] w (NumsOut w zs) := by
  obtain ⟨i0, hi, hz0, hz1, hz2⟩ := info_parts info_int
  have HP := Lib.hid hP
  have HF := Lib.hid (fun (xs : List Value) (h : UpToI zs zs.length xs) (hl : xs.length = zs.length) => upToI_end h hl)
  obtain ⟨n, hnn⟩ : ∃ n, n = zs.length := ⟨_, rfl⟩
  have HPost : Hid (NumsOut w zs = fun e w' => ∃ A c, e = .returned (.slice A n c) ∧ Row w' w.heap.size w'.heap.size 3 1 A n c (cellsI zs) ∧ Below w.heap.size w w') := by
    unfold Hid; rw [hnn]; rfl
  rw [← hnn] at hn ⊢
  have HL := Lib.hid hnn
  clear hP hnn
  go_enter Try.func9, Try.ntmps9
  go_wp2_with (at_make; refine wpList_make_full _ rfl (.tmp 6) (.tmp 6) 24 rfl w.heap.size 3 i0 _ 1 Try.underlying24 hi hz0 hz1 .i64 .i64 _ _ n rfl rfl rfl rfl (by rw [hz2]; omega) (by unfold maxLen; omega) (Nat.le_refl _) ?_; intro w1 hown hgr)
  have HW : Below w.heap.size w w1 := (Below.refl _ _).grown hgr (Nat.le_refl _) (fun k hk => by cases hk)
  go_loopw [4] (fun v4 wr => ∃ (k : Nat) (xs : List Value), k ≤ n ∧ v4 = .int .i64 k ∧ UpToI zs k xs ∧ wr.ownsRow w.heap.size 3 1 (.slice (some ⟨w.heap.size, 0, none⟩) n n) n xs ∧ Below w.heap.size w wr) (fun v4 _ => n - (intOf v4).toNat)
  case atStart => exact ⟨0, _, by omega, rfl, fun j hj => by omega, hown, HW⟩
  case round =>
    obtain ⟨k, xs, hk, rfl, hU, hO, hW⟩ := hrel
    have hxl := hO.1
    rw [Nat.mul_one] at hxl
    clear hown hgr HW
    by_cases hlt : k < n
    · have hl2 : k < zs.length := by rw [← HL.out]; exact hlt
      obtain ⟨b, off, rfl, hb, hc⟩ := HP.out (by omega)
      have cx' := (hW.cell (p := ⟨b, off + k, none⟩) (by show b < _; omega)).trans (hc k hl2)
      have e3 : (k : Int) < (n : Int) := by omega
      have HS := Lib.hid (upToI_step hU hl2 (by rw [← HL.out]; exact hxl))
      have f1 := hO.frozenAt k
      obtain ⟨u1, hu1⟩ : ∃ u, wr.cell? ⟨w.heap.size, k, none⟩ = some u := by
        rw [hO.cellAt k (by omega)]; exact ⟨_, List.getElem?_eq_getElem (by omega)⟩
      have hO3 := (hO.stored k (.int .i64 (zs.getD k 0))).1
      have hW3 := hW.setCell (p := ⟨w.heap.size, k, none⟩) (Nat.le_refl _) (.int .i64 (zs.getD k 0))
      clear hc hU hl2 hO hW hxl
      generalize zs.getD k 0 = z at *
      go_wp2
      go_roundw
      case rel => exact ⟨k + 1, _, by omega, by go_num, HS.out, hO3, hW3⟩
      case measure => simp [intOf]; omega
    · have hxs := HF.out xs (by rw [← HL.out, show n = k by omega]; exact hU) (by rw [← HL.out]; exact hxl)
      have HX := Lib.hid hxs
      clear hU hxs hxl
      go_wp2
      go_ret
      rw [HPost.out]
      exact ⟨_, _, rfl, Row.of_own (by rw [← HX.out]; exact hO), hW⟩

set_option maxHeartbeats 1000000 in
theorem l_eqIntS (A B : Option Addr) (c d : Nat) (zs : List Int) (H : Nat) (w : World) (hP : NumsAt w H A zs) (hQ : NumsAt w H B zs) (hH : H ≤ w.heap.size) (hn : zs.length ≤ 1048576) :
    Calls Try.prog 10 #[.slice A zs.length c, .slice B zs.length d] w fun e w' => e = .returned (.bool true) ∧ Below w.heap.size w w' := by
  have HP := Lib.hid hP
  have HQ := Lib.hid hQ
  obtain ⟨n, hnn⟩ : ∃ n, n = zs.length := ⟨_, rfl⟩
  rw [← hnn] at hn ⊢
  have HL := Lib.hid hnn
  clear hP hQ hnn
  go_enter Try.func10, Try.ntmps10
  go_wp2
  go_loopw [5] (fun v5 wr => ∃ k : Nat, k ≤ n ∧ v5 = .int .i64 k ∧ Below w.heap.size w wr) (fun v5 _ => n - (intOf v5).toNat)
  case atStart => exact ⟨0, by omega, rfl, Below.refl _ _⟩
  case round =>
    obtain ⟨k, hk, rfl, hW⟩ := hrel
    by_cases hlt : k < n
    · have hl2 : k < zs.length := by rw [← HL.out]; exact hlt
      obtain ⟨b, off, rfl, hb, hc⟩ := HP.out (by omega)
      obtain ⟨b', off', rfl, hb', hc'⟩ := HQ.out (by omega)
      have c1 := (hW.cell (p := ⟨b, off + k, none⟩) (by show b < _; omega)).trans (hc k hl2)
      have c2 := (hW.cell (p := ⟨b', off' + k, none⟩) (by show b' < _; omega)).trans (hc' k hl2)
      have e0 : (0 : Int) ≤ (k : Int) := by omega
      have e3 : (k : Int) < (n : Int) := by omega
      clear hc hc' hl2
      generalize zs.getD k 0 = z at *
      go_wp2_with fail
      go_quiet (fail)
      go_wp2
      go_roundw
      case rel => exact ⟨k + 1, by omega, by go_num, below_drewN hW _⟩
      case measure => simp [intOf]; omega
    · go_wp2
      go_ret
      exact ⟨rfl, hW⟩
def markI (k : Int) (n : Nat) : List Int := (List.range n).map fun (j : Nat) => k + (j : Int)
theorem markI_len (k : Int) (n : Nat) : (markI k n).length = n := by simp [markI]
theorem markI_at {k : Int} {n j : Nat} (h : j < n) : (markI k n).getD j 0 = k + (j : Int) := by simp [markI, h]

theorem own_addr {w : World} {base : Nat} {e : TypeId} {size n c : Nat} {A : Option Addr} {xs : List Value} (h : w.ownsRow base e size (.slice A n c) n xs) (hn : 0 < n) : ∃ g, A = some ⟨g, 0, none⟩ := by
  rcases h.2 with ⟨_, h0⟩ | ⟨g, cap, cur, hv, _⟩
  · omega
  · injection hv with hA; exact ⟨g, hA⟩
set_option maxHeartbeats 1000000 in
theorem l_markIntS (A : Option Addr) (n c : Nat) (k : Int) (xs : List Value) (lo hi : Nat) (w : World) (hR : Row w lo hi 3 1 A n c xs) (hn : n ≤ 1048576) (hk : 0 ≤ k) (hk' : k ≤ 9000000) :
    Calls Try.prog 11 #[.slice A n c, .int .i64 k] w fun e w' => e = .returned (.int .i64 (k + (n : Int))) ∧ Row w' lo hi 3 1 A n c (cellsI (markI k n)) ∧ w.grownBy w' (A.map (·.block)) := by
  have HE := Lib.hid (fun (xs : List Value) (h : UpToI (markI k n) (markI k n).length xs) (hl : xs.length = (markI k n).length) => upToI_end h hl)
  have HS := Lib.hid (fun (xs : List Value) (i : Nat) (h : UpToI (markI k n) i xs) (hi : i < n) (hl : xs.length = n) => show UpToI (markI k n) (i + 1) (xs.set i (.int .i64 (k + (i : Int)))) by
    have := upToI_step h (by rw [markI_len]; exact hi) (by rw [markI_len]; exact hl)
    rwa [markI_at hi] at this)
  have HL := Lib.hid (markI_len k n)
  have hhi := hR.2
  go_enter Try.func11, Try.ntmps11
  go_wp2
  go_loopw [1, 5] (fun v1 v5 wr => ∃ (i : Nat) (ys : List Value), i ≤ n ∧ v1 = .int .i64 (k + (i : Int)) ∧ v5 = .int .i64 i ∧ UpToI (markI k n) i ys ∧ wr.ownsRow lo 3 1 (.slice A n c) n ys ∧ w.grownBy wr (A.map (·.block))) (fun _ v5 _ => n - (intOf v5).toNat)
  case atStart => exact ⟨0, xs, by omega, by simp, rfl, fun j hj => by omega, hR.1, World.grownBy.refl _ _⟩
  case round =>
    obtain ⟨i, ys, hin, rfl, rfl, hU, hO, hG⟩ := hrel
    have hyl := hO.1
    rw [Nat.mul_one] at hyl
    clear hR
    by_cases hlt : i < n
    · obtain ⟨g, rfl⟩ := own_addr hO (by omega)
      have e3 : (i : Int) < (n : Int) := by omega
      have HU := Lib.hid (HS.out ys i hU hlt hyl)
      have f1 := hO.frozenAt i
      obtain ⟨u1, hu1⟩ : ∃ u, wr.cell? ⟨g, i, none⟩ = some u := by
        rw [hO.cellAt i (by omega)]; exact ⟨_, List.getElem?_eq_getElem (by omega)⟩
      have s1 := hO.stored i (.int .i64 (k + (i : Int)))
      have hO3 := s1.1
      have hG3 := hG.trans s1.2
      clear hO hG hU hyl s1
      go_wp2
      go_roundw
      case rel => exact ⟨i + 1, _, by omega, by go_num, by go_num, HU.out, hO3, hG3⟩
      case measure => simp [intOf]; omega
    · obtain rfl : i = n := by omega
      have hys := HE.out ys (by rw [HL.out]; exact hU) (by rw [HL.out]; exact hyl)
      have HX := Lib.hid hys
      clear hU hys hyl
      go_wp2
      go_ret
      exact ⟨rfl, ⟨by rw [← HX.out]; exact hO, hhi⟩, hG⟩

set_option maxHeartbeats 1000000 in
theorem l_heldIntS (A : Option Addr) (n c : Nat) (k : Int) (H : Nat) (w : World) (hP : NumsAt w H A (markI k n)) (hn : n ≤ 1048576) (hk : 0 ≤ k) (hk' : k ≤ 9000000) :
    Calls Try.prog 12 #[.slice A n c, .int .i64 k] w fun e w' => e = .returned (.int .i64 (k + (n : Int))) ∧ w = w' := by
  have HP := Lib.hid (show ∀ i, i < n → ∃ b off, A = some ⟨b, off, none⟩ ∧ w.cell? ⟨b, off + i, none⟩ = some (.int .i64 (k + (i : Int))) from fun i hi => by
    obtain ⟨b, off, e, _, hc⟩ := hP (by rw [markI_len]; omega)
    have := hc i (by rw [markI_len]; exact hi)
    rw [markI_at hi] at this
    exact ⟨b, off, e, this⟩)
  clear hP
  go_enter Try.func12, Try.ntmps12
  go_wp2
  go_loop [1, 5] (fun v1 v5 => ∃ i : Nat, i ≤ n ∧ v1 = .int .i64 (k + (i : Int)) ∧ v5 = .int .i64 i) (fun _ v5 => n - (intOf v5).toNat)
  case atStart => exact ⟨0, by omega, by simp, rfl⟩
  case round =>
    obtain ⟨i, hin, rfl, rfl⟩ := hrel
    by_cases hlt : i < n
    · obtain ⟨b, off, rfl, c1⟩ := HP.out i hlt
      have e3 : (i : Int) < (n : Int) := by omega
      go_wp2
      go_round
      case rel => exact ⟨i + 1, by omega, by go_num, by go_num⟩
      case measure => simp [intOf]; omega
    · obtain rfl : i = n := by omega
      go_wp2
      go_ret
      exact ⟨rfl, rfl⟩

end Go.Proofs.Ytaoinmlhhnklgaa
