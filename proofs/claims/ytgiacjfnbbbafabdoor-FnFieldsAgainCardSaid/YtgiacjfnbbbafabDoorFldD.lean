/- The draw of a line; the walk of the law FnFieldsAgain. -/
import Derived.Test.YtgiacjfnbbbafabDoorSpS
import Derived.Test.YtgiacjfnbbbafabDoorDr
import Derived.Test.YtgiacjfnbbbafabDoorFmt
import Derived.Laws.MakeOwn
import Derived.Deep.RegionHeld3
import Derived.RegionTactic
import Derived.Deep.QuietTactic
import Derived.BigQuiet

namespace Go.Proofs.YtgiacjfnbbbafabDoor
open Go.RowKit



theorem info_u8 : (Tryd.prog.info? 5).map (fun i => (i.zero, i.size, i.bytes)) = some (some (.int .u8 0), 1, 1) := by kernel_rfl

theorem conv_row {W : World} {B n : Nat} {v : Value} {l : List UInt8} (h : W.ownsRow B 5 1 v n (Lib.byteCells l)) (hv : v ≠ .slice none 0 0) (hn : n = l.length) : (convert 22 9 v).run Tryd.prog W = .ok (.string ⟨l.toArray⟩) W := by
  subst hn
  rcases h.2 with ⟨h1, _⟩ | ⟨g, cap, cur, rfl, _⟩
  · exact absurd h1 hv
  · refine run_convert_bytes_back _ _ _ 5 ⟨g, 0, none⟩ cap l Tryd.underlying22 Tryd.underlying5 Tryd.underlying9 (fun j hj => ?_)
    refine h.cells (g := g) rfl j _ ?_
    simp [Lib.byteCells, hj]
def UpB (x : UInt8) (k : Nat) (xs : List Value) : Prop := ∀ j, j < k → xs[j]? = some (.int .u8 (x.toNat : Int))
theorem upB_step {x : UInt8} {k : Nat} {xs : List Value} (h : UpB x k xs) (hk : k < xs.length) : UpB x (k + 1) (xs.set k (.int .u8 (x.toNat : Int))) := fun j hj => by
  rcases Nat.lt_or_ge j k with hlt | hge
  · rw [List.getElem?_set_ne (by omega)]; exact h j hlt
  · obtain rfl : j = k := by omega
    simp [hk]
theorem upB_end {x : UInt8} {xs : List Value} (h : UpB x xs.length xs) : xs = Lib.byteCells (List.replicate xs.length x) := by
  apply List.ext_getElem?
  intro j
  rcases Nat.lt_or_ge j xs.length with hlt | hge
  · rw [h j hlt]; simp [Lib.byteCells, hlt]
  · rw [List.getElem?_eq_none hge, List.getElem?_eq_none (by simp [Lib.byteCells]; exact hge)]
/-- A string of a known length at most. -/
def StrOut (m : Nat) (w : World) (e : Ending) (w' : World) : Prop := ∃ s : ByteArray, s.size = m ∧ e = .returned (.string s) ∧ Below w.heap.size w w'

set_option maxHeartbeats 1000000 in
theorem s_l01Long (m : Int) (n : Nat) (xi : Int) (x : UInt8) (w : World) (hm : m = (n : Int)) (hx : xi = (x.toNat : Int)) (hn : n ≤ 1000000) :
    Calls Tryd.prog 16 #[.int .i64 m, .int .u8 xi] w (StrOut n w) := by
  subst hm hx
  obtain ⟨i0, hi, hz0, hz1, hz2⟩ := info_parts info_u8
  go_enter Tryd.func16, Tryd.ntmps16
  go_wp2_with (at_make; refine wpList_make_full _ rfl (.tmp 7) (.tmp 7) 22 rfl w.heap.size 5 i0 _ 1 Tryd.underlying22 hi hz0 hz1 .i64 .i64 _ _ n rfl rfl rfl rfl (by rw [hz2]; omega) (by unfold maxLen; omega) (Nat.le_refl _) ?_; intro w1 hown hgr)
  have HW : Below w.heap.size w w1 := (Below.refl _ _).grown hgr (Nat.le_refl _) (fun k hk => by cases hk)
  go_loopw [6] (fun v6 wr => ∃ (k : Nat) (xs : List Value), k ≤ n ∧ v6 = .int .i64 k ∧ UpB x k xs ∧ wr.ownsRow w.heap.size 5 1 (.slice (some ⟨w.heap.size, 0, none⟩) n n) n xs ∧ Below w.heap.size w wr) (fun v6 _ => n - (intOf v6).toNat)
  case atStart => exact ⟨0, _, by omega, rfl, fun j hj => by omega, hown, HW⟩
  case round =>
    obtain ⟨k, xs, hk, rfl, hU, hO, hW⟩ := hrel
    have hxl := hO.1
    rw [Nat.mul_one] at hxl
    clear hown hgr HW
    by_cases hlt : k < n
    · have e3 : (k : Int) < (n : Int) := by omega
      have HS := Lib.hid (upB_step hU (by omega))
      have f1 := hO.frozenAt k
      obtain ⟨u1, hu1⟩ : ∃ u, wr.cell? ⟨w.heap.size, k, none⟩ = some u := by
        rw [hO.cellAt k (by omega)]; exact ⟨_, List.getElem?_eq_getElem (by omega)⟩
      have hO3 := (hO.stored k (.int .u8 (x.toNat : Int))).1
      have hW3 := hW.setCell (p := ⟨w.heap.size, k, none⟩) (Nat.le_refl _) (.int .u8 (x.toNat : Int))
      clear hU hO hW hxl
      go_wp2
      go_roundw
      case rel => exact ⟨k + 1, _, by omega, by go_num, HS.out, hO3, hW3⟩
      case measure => simp [intOf]; omega
    · obtain rfl : k = n := by omega
      have hxs := upB_end (x := x) (xs := xs) (by rw [hxl]; exact hU)
      rw [hxl] at hxs
      rw [hxs] at hO
      have hcv := conv_row hO (by simp) (by simp)
      clear hU hO hxs hxl
      go_wp2
      go_ret
      exact ⟨_, by simp [ByteArray.size], rfl, hW⟩


/-- A slice that reads as the values xs and lies below block H. -/
def ValsAt (w : World) (H : Nat) (A : Option Addr) (xs : List Value) : Prop := 0 < xs.length → ∃ b off, A = some ⟨b, off, none⟩ ∧ b < H ∧ ∀ j u, xs[j]? = some u → w.cell? ⟨b, off + j, none⟩ = some u
theorem ValsAt.below {w w' : World} {H : Nat} {A : Option Addr} {xs : List Value} (h : ValsAt w H A xs) (hb : Below H w w') : ValsAt w' H A xs := fun hn => by
  obtain ⟨b, off, e, hl, hc⟩ := h hn
  exact ⟨b, off, e, hl, fun j u hu => (hb.cell (p := ⟨b, off + j, none⟩) hl).trans (hc j u hu)⟩
theorem vals_own {w : World} {lo n c : Nat} {A : Option Addr} {xs : List Value} (h : w.ownsRow lo 9 1 (.slice A n c) n xs) : ValsAt w w.heap.size A xs := fun hn => by
  have hl := h.1
  rcases h.2 with ⟨_, h0⟩ | ⟨g, cap, cur, hv, hg, hh, _⟩
  · omega
  · simp only [Value.slice.injEq, true_and] at hv
    obtain ⟨rfl, rfl⟩ := hv
    refine ⟨g, 0, rfl, (h.lt g rfl).2, fun j u hu => ?_⟩
    have hj : j < xs.length := (List.getElem?_eq_some_iff.1 hu).1
    rw [Nat.zero_add, h.cellAt j (by omega)]; exact hu
theorem own_keep {w w' : World} {lo n : Nat} {v : Value} {xs : List Value} (h : w.ownsRow lo 9 1 v n xs) (hb : Below w.heap.size w w') : w'.ownsRow lo 9 1 v n xs := by
  rcases h with ⟨h1, h2 | ⟨g, cap, cur, hv, hg, hh, r⟩⟩
  · exact ⟨h1, .inl h2⟩
  · refine ⟨h1, .inr ⟨g, cap, cur, hv, hg, ?_, r⟩⟩
    have hlt : g < w.heap.size := by
      rcases Nat.lt_or_ge g w.heap.size with h3 | h3
      · exact h3
      · rw [Array.getElem?_eq_none h3] at hh; cases hh
    exact (hb.block g hlt).trans hh
theorem cellsS_at (fs : List (List UInt8)) (j : Nat) (h : j < fs.length) : (cellsS fs)[j]? = some (.string (strOf (fs.getD j []))) := by simp [cellsS, h]

set_option maxHeartbeats 2000000 in
theorem l_sameTexts (A B : Option Addr) (c d : Nat) (fs : List (List UInt8)) (w : World) (hP : ValsAt w w.heap.size A (cellsS fs)) (hQ : ValsAt w w.heap.size B (cellsS fs)) (hn : fs.length ≤ 1048576) :
    Calls Tryd.prog 13 #[.slice A fs.length c, .slice B fs.length d] w fun e w' => e = .returned (.bool true) ∧ Below w.heap.size w w' := by
  have HP := Lib.hid (fun (i : Nat) (hi : i < fs.length) => (show ∃ b off b' off' x, A = some ⟨b, off, none⟩ ∧ B = some ⟨b', off', none⟩ ∧ b < w.heap.size ∧ b' < w.heap.size ∧ w.cell? ⟨b, off + i, none⟩ = some (.string x) ∧ w.cell? ⟨b', off' + i, none⟩ = some (.string x) by
    obtain ⟨b, off, e, hb, hc⟩ := hP (by rw [cellsS_len]; omega)
    obtain ⟨b', off', e', hb', hc'⟩ := hQ (by rw [cellsS_len]; omega)
    exact ⟨b, off, b', off', _, e, e', hb, hb', hc i _ (cellsS_at fs i hi), hc' i _ (cellsS_at fs i hi)⟩))
  clear hP hQ
  generalize fs.length = n at *
  go_enter Tryd.func13, Tryd.ntmps13
  go_wp2
  go_loopw [5] (fun v5 wr => ∃ k : Nat, k ≤ n ∧ v5 = .int .i64 k ∧ Below w.heap.size w wr) (fun v5 _ => n - (intOf v5).toNat)
  case atStart => exact ⟨0, by omega, rfl, Below.refl _ _⟩
  case round =>
    obtain ⟨k, hk, rfl, hW⟩ := hrel
    by_cases hlt : k < n
    · obtain ⟨b, off, b', off', x, rfl, rfl, hb, hb', hc, hc'⟩ := HP.out k hlt
      have c1 := (hW.cell (p := ⟨b, off + k, none⟩) (by show b < _; omega)).trans hc
      have c2 := (hW.cell (p := ⟨b', off' + k, none⟩) (by show b' < _; omega)).trans hc'
      have e0 : (0 : Int) ≤ (k : Int) := by omega
      have e3 : (k : Int) < (n : Int) := by omega
      clear hc hc'
      go_wp2_with fail
      go_quiet (fail)
      go_wp2
      go_roundw
      case rel => exact ⟨k + 1, by omega, by go_num, below_drewN hW _⟩
      case measure => simp [intOf]; omega
    · go_wp2
      go_ret
      exact ⟨rfl, hW⟩


theorem ba_sum (P : Program) (a b : ByteArray) (h : a.size + b.size ≤ 1000000) (W : World) : (Op.stringOp .add a b).run P W = .ok (.string (a ++ b)) W := by
  rw [run_string_add_sum (P := P) (w := W) _ _ (by omega)]
theorem ba_size (a b : ByteArray) : (a ++ b).size = a.size + b.size := ByteArray.size_append
def DStr (m : Nat) (w : World) (g H : Nat) (A : Option Addr) (n c : Nat) (zs : List Int) (e : Ending) (w' : World) : Prop :=
  ∃ x : ByteArray, x.size ≤ m ∧ e = .returned (.string x) ∧ Dr w' g H A n c zs ∧ w.grownBy w' (some g)
set_option maxHeartbeats 1000000 in
theorem d_PickS (g H : Nat) (A : Option Addr) (n c : Nat) (zs : List Int) (b : Nat) (w : World) (hD : Dr w g H A n c zs) (hne : b ≠ g) (hb : b < w.heap.size) (hL : ∀ j : Nat, j < 6 → ∃ x : ByteArray, x.size ≤ 2 ∧ w.cell? ⟨b, j, none⟩ = some (.string x)) :
    Calls Tryd.prog 21 #[.pointer (some ⟨g, 0, none⟩), .slice (some ⟨b, 0, none⟩) 6 6] w (DStr 2 w g H A n c zs) := by
  go_enter Tryd.func21, Tryd.ntmps21
  go_wp2_with fail
  refine (d_Below g H A n c zs 6 _ hD (by omega) (by omega)).mono ?_; rintro e w1 ⟨v, v0, v1, rfl, hD1, hG1⟩
  obtain ⟨k, rfl⟩ : ∃ k : Nat, v = (k : Int) := ⟨v.toNat, by omega⟩
  obtain ⟨x, hx, hc⟩ := hL k (by omega)
  have c1 : w1.cell? ⟨b, k, none⟩ = some (.string x) := (World.cell?_of_block (a := ⟨b, k, none⟩) (hG1.block b hb (fun e => hne (by injection e)))).trans hc
  have e1 : (k : Int) < 6 := by omega
  clear hL hc
  go_wp2
  go_ret
  exact ⟨x, hx, rfl, hD1, hG1⟩
end Go.Proofs.YtgiacjfnbbbafabDoor
