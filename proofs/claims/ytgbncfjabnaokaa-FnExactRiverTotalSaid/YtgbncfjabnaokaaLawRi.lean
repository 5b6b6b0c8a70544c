/- Contracts of the laws' own helpers on lists of reaches: szReachS, toReachS, eqReachS; walks of the laws FnExactRiverOk, FnExactRiverTotal. -/
import Derived.Test.YtgbncfjabnaokaaRiC
import Derived.Test.YtgbncfjabnaokaaBoxes
namespace Go.Proofs.Ytgbncfjabnaokaa
open Go.RowKit

theorem szR_key {l : Int} (h0 : 0 ≤ l) (h1 : l ≤ 1048576) (n m : Nat) : szR l n m = -1 ∨ (0 ≤ szR l n m ∧ szR l n m ≤ 1048576 ∧ n ≤ 1048576 ∧ m ≤ 1048576) := by
  rcases szV_or l n with h | h
  · exact .inl (by unfold szR; rw [if_pos (by omega)])
  · have e : szR l n m = szV (szV l n) m := by unfold szR; rw [if_neg (by omega)]
    obtain ⟨h3, h2⟩ := szV_le h h1
    rw [e]
    rcases szV_or (szV l n) m with h4 | h4
    · exact .inl h4
    · obtain ⟨h5, h6⟩ := szV_le h4 h3
      exact .inr ⟨h4, h5, by omega, by omega⟩
def LenTo (ds : List Rc) (k : Nat) : Prop := ∀ j, j < k → (rcAt ds j).ps.length ≤ 1048576 ∧ (rcAt ds j).zs.length ≤ 1048576
theorem lenTo_step {ds : List Rc} {k : Nat} (h : LenTo ds k) (h' : (rcAt ds k).ps.length ≤ 1048576 ∧ (rcAt ds k).zs.length ≤ 1048576) : LenTo ds (k + 1) := fun j hj => by
  rcases Nat.lt_or_ge j k with h1 | h1
  · exact h j h1
  · rw [show j = k by omega]; exact h'
def SzOut (ds : List Rc) (w : World) (e : Ending) (w' : World) : Prop := ∃ v : Int, e = .returned (.int .i64 v) ∧ (v = -1 ∨ (0 ≤ v ∧ ds.length ≤ 1048576 ∧ RsLen ds 1048576)) ∧ Below w.heap.size w w'

set_option maxHeartbeats 2000000 in
theorem l_szReachS (A : Option Addr) (c : Nat) (ds : List Rc) (H : Nat) (w : World) (hR : RsAt w H A ds) (hH : H ≤ w.heap.size) (hL : RsLen ds 9223372036854775807) (hm : ds.length ≤ 9223372036854775807) :
    Calls Try.prog 14 #[.slice A ds.length c, .int .i64 1048576] w (SzOut ds w) := by
  have HR := Lib.hid (fun (W : World) (hW : Below w.heap.size w W) (k : Nat) (hk : k < ds.length) => rs_get hR hH hL hW hk)
  have HPost : Hid (SzOut ds w = fun e w' => ∃ v : Int, e = .returned (.int .i64 v) ∧ (v = -1 ∨ (0 ≤ v ∧ ds.length ≤ 1048576 ∧ LenTo ds ds.length)) ∧ Below w.heap.size w w') := rfl
  clear hR hL
  rw [HPost.out]
  clear HPost
  generalize ds.length = n at *
  by_cases hb : (1048576 : Int) < (n : Int)
  · clear HR
    go_enter Try.func14, Try.ntmps14
    go_wp2
    go_ret
    exact ⟨-1, rfl, .inl rfl, Below.refl _ _⟩
  · go_enter Try.func14, Try.ntmps14
    go_wp2_with fail
    go_loopw [1, 5] (fun v1 v5 wr => ∃ (k : Nat) (L : Int), k ≤ n ∧ 0 ≤ L ∧ L ≤ 1048576 ∧ v1 = .int .i64 L ∧ v5 = .int .i64 k ∧ LenTo ds k ∧ Below w.heap.size w wr) (fun _ v5 _ => n - (intOf v5).toNat)
    case atStart => exact ⟨0, 1048576 - n, by omega, by omega, by omega, rfl, rfl, fun j hj => by omega, Below.refl _ _⟩
    case round =>
      obtain ⟨k, L, hk, l0, l1, rfl, rfl, hT, hW⟩ := hrel
      by_cases hlt : k < n
      · have e3 : (k : Int) < (n : Int) := by omega
        obtain ⟨b, off, tA, tc, ps, vol, pA, pc, zs, rfl, hb, hrc, lp, lz, _, _, c0, c1, c2⟩ := HR.out _ hW k hlt
        have HT := Lib.hid (fun h => lenTo_step (k := k) hT h)
        rw [hrc] at HT
        clear hrc hT
        go_wp2_with fail
        refine (l_szReach tA ps.length tc vol pA zs.length pc L _ l0 l1 lp lz).mono ?_; rintro e w1 ⟨rfl, hb1⟩
        rcases szR_key l0 l1 ps.length zs.length with hz | ⟨hz0, hz1, hz2, hz3⟩
        · rw [hz]
          go_wp2
          go_ret
          exact ⟨-1, rfl, .inl rfl, bl_step hW hb1⟩
        · have HT2 := Lib.hid (HT.out ⟨hz2, hz3⟩)
          generalize szR L ps.length zs.length = L' at *
          go_wp2
          go_roundw
          case rel => exact ⟨k + 1, L', by omega, hz0, hz1, rfl, by go_num, HT2.out, bl_step hW hb1⟩
          case measure => simp [intOf]; omega
      · obtain rfl : k = n := by omega
        go_wp2
        go_ret
        exact ⟨L, rfl, .inr ⟨l0, by omega, hT⟩, hW⟩

theorem info_reach : (Try.prog.info? 30).map (fun i => (i.zero, i.size, i.bytes)) = some (some (.agg #[.slice none 0 0, .int .i64 0, .slice none 0 0]), 3, 56) := by kernel_rfl
/-- The row's cells up to k. -/
def Fill (ds : List Rc) (ad : Nat → Ad) (k : Nat) (xs : List Value) : Prop :=
  ∀ j, j < k → xs[j * 3]? = some (.slice (ad j).tA (rcAt ds j).ps.length (ad j).tc) ∧ xs[j * 3 + 1]? = some (.int .i64 (rcAt ds j).vol) ∧ xs[j * 3 + 2]? = some (.slice (ad j).pA (rcAt ds j).zs.length (ad j).pc)
def adSet (ad : Nat → Ad) (k : Nat) (a : Ad) : Nat → Ad := fun j => if j = k then a else ad j
theorem adSet_eq (ad : Nat → Ad) (k : Nat) (a : Ad) : adSet ad k a k = a := by simp [adSet]
theorem adSet_ne {ad : Nat → Ad} {k j : Nat} (a : Ad) (h : j < k) : adSet ad k a j = ad j := by unfold adSet; rw [if_neg (by omega)]
theorem fill_step {ds : List Rc} {ad : Nat → Ad} {k : Nat} {xs : List Value} {ps : List (Int × Int)} {vol : Int} {zs : List Int} {tA pA : Option Addr} {tc pc : Nat} (h : Fill ds ad k xs) (hl : k * 3 + 3 ≤ xs.length) (hr : rcAt ds k = ⟨ps, vol, zs⟩) :
    Fill ds (adSet ad k ⟨tA, tc, pA, pc⟩) (k + 1) (((xs.set (k * 3) (.slice tA ps.length tc)).set (k * 3 + 1) (.int .i64 vol)).set (k * 3 + 2) (.slice pA zs.length pc)) := by
  intro j hj
  rcases Nat.lt_or_ge j k with h1 | h1
  · obtain ⟨a, b, c⟩ := h j h1
    rw [adSet_ne _ h1]
    refine ⟨?_, ?_, ?_⟩
    · rw [List.getElem?_set_ne (by omega), List.getElem?_set_ne (by omega), List.getElem?_set_ne (by omega)]; exact a
    · rw [List.getElem?_set_ne (by omega), List.getElem?_set_ne (by omega), List.getElem?_set_ne (by omega)]; exact b
    · rw [List.getElem?_set_ne (by omega), List.getElem?_set_ne (by omega), List.getElem?_set_ne (by omega)]; exact c
  · obtain rfl : j = k := by omega
    rw [adSet_eq, hr]
    refine ⟨?_, ?_, ?_⟩
    · rw [List.getElem?_set_ne (by omega), List.getElem?_set_ne (by omega), List.getElem?_set_self (by omega)]
    · rw [List.getElem?_set_ne (by omega), List.getElem?_set_self (by simp; omega)]
    · rw [List.getElem?_set_self (by simp; omega)]
/-- A reach's rows, all of them from lo on. -/
def RQ (W : World) (lo : Nat) (r : Rc) (a : Ad) : Prop :=
  Row W lo W.heap.size 61 2 a.tA r.ps.length a.tc (cellsP r.ps) ∧ Row W lo W.heap.size 3 1 a.pA r.zs.length a.pc (cellsI r.zs)
section
variable {W w' : World} {lo : Nat} {r : Rc} {a : Ad}
theorem RQ.bel (h : RQ W lo r a) (hb : Below W.heap.size W w') : RQ w' lo r a :=
  ⟨(h.1.below hb (Nat.le_refl _)).mono (Nat.le_refl _) hb.size, (h.2.below hb (Nat.le_refl _)).mono (Nat.le_refl _) hb.size⟩
theorem RQ.three {g i j k : Nat} {x y z : Value} (h : RQ W lo r a) (hg : g < lo) : RQ (((W.setCell ⟨g, i, none⟩ x).setCell ⟨g, j, none⟩ y).setCell ⟨g, k, none⟩ z) lo r a := by
  have key : ∀ q, lo ≤ q → q < W.heap.size → (((W.setCell ⟨g, i, none⟩ x).setCell ⟨g, j, none⟩ y).setCell ⟨g, k, none⟩ z).heap[q]? = W.heap[q]? := fun q h1 _ =>
    (Below.heap_setCell _ _ _ _ (by show q ≠ g; omega)).trans ((Below.heap_setCell _ _ _ _ (by show q ≠ g; omega)).trans (Below.heap_setCell _ _ _ _ (by show q ≠ g; omega)))
  have hs : (((W.setCell ⟨g, i, none⟩ x).setCell ⟨g, j, none⟩ y).setCell ⟨g, k, none⟩ z).heap.size = W.heap.size := by simp [World.setCell]
  unfold RQ
  rw [hs]
  exact ⟨h.1.same key, h.2.same key⟩
end
def RowsTo (W : World) (lo : Nat) (ds : List Rc) (ad : Nat → Ad) (k : Nat) : Prop := ∀ j, j < k → RQ W lo (rcAt ds j) (ad j)
theorem rowsTo_step {W : World} {lo k : Nat} {ds : List Rc} {ad : Nat → Ad} {a : Ad} (h : RowsTo W lo ds ad k) (h' : RQ W lo (rcAt ds k) a) : RowsTo W lo ds (adSet ad k a) (k + 1) := fun j hj => by
  rcases Nat.lt_or_ge j k with h1 | h1
  · rw [adSet_ne _ h1]; exact h j h1
  · rw [show j = k by omega, adSet_eq]; exact h'
/-- A list of reaches in memory of the call's own. -/
def RsOut (w : World) (ds : List Rc) (e : Ending) (w' : World) : Prop := ∃ A c, e = .returned (.slice A ds.length c) ∧ RsAt w' w'.heap.size A ds ∧ Below w.heap.size w w'
theorem rs_done {W : World} {lo g c : Nat} {ds : List Rc} {ad : Nat → Ad} {xs : List Value} (hO : W.ownsRow lo 30 3 (.slice (some ⟨g, 0, none⟩) ds.length c) ds.length xs) (hF : Fill ds ad ds.length xs) (hT : RowsTo W (g + 1) ds ad ds.length) (hg : g < W.heap.size) : RsAt W W.heap.size (some ⟨g, 0, none⟩) ds := fun _ => by
  refine ⟨g, 0, ad, rfl, hg, fun j hj => ?_⟩
  obtain ⟨a, b, c⟩ := hF j hj
  obtain ⟨r1, r2⟩ := hT j hj
  rw [Nat.zero_add, hO.cellAt _ (by omega), hO.cellAt _ (by omega), hO.cellAt _ (by omega)]
  exact ⟨a, b, c, r1.pts, r2.nums⟩

set_option maxHeartbeats 2000000 in
theorem l_toReachS (A : Option Addr) (c : Nat) (ds : List Rc) (H : Nat) (w : World) (hR : RsAt w H A ds) (hH : H ≤ w.heap.size) (hL : RsLen ds 1048576) (hn : ds.length ≤ 1048576) :
    Calls Try.prog 16 #[.slice A ds.length c] w (RsOut w ds) := by
  obtain ⟨i0, hi, hz0, hz1, hz2⟩ := info_parts info_reach
  have HR := Lib.hid (fun (W : World) (hW : Below w.heap.size w W) (k : Nat) (hk : k < ds.length) => rs_get hR hH hL hW hk)
  have HF := Lib.hid (fun (W : World) (ad : Nat → Ad) (xs : List Value) (hO : W.ownsRow w.heap.size 30 3 (.slice (some ⟨w.heap.size, 0, none⟩) ds.length ds.length) ds.length xs) (hF : Fill ds ad ds.length xs) (hT : RowsTo W (w.heap.size + 1) ds ad ds.length) (hg : w.heap.size < W.heap.size) => rs_done hO hF hT hg)
  have HPost : Hid (RsOut w ds = fun e w' => ∃ A c, e = .returned (.slice A ds.length c) ∧ RsAt w' w'.heap.size A ds ∧ Below w.heap.size w w') := rfl
  rw [HPost.out]
  clear hR hL HPost
  generalize ds.length = n at *
  go_enter Try.func16, Try.ntmps16
  go_wp2_with (at_make; refine wpList_make_full _ rfl (.tmp 6) (.tmp 6) 37 rfl w.heap.size 30 i0 _ 3 Try.underlying37 hi hz0 hz1 .i64 .i64 _ _ n rfl rfl rfl rfl (by rw [hz2]; omega) (by unfold maxLen; omega) (Nat.le_refl _) ?_; intro w1 hown hgr)
  have HW : Below w.heap.size w w1 := (Below.refl _ _).grown hgr (Nat.le_refl _) (fun k hk => by cases hk)
  have hg1 := (hown.lt w.heap.size rfl).2
  go_loopw [4] (fun v4 wr => ∃ (k : Nat) (xs : List Value) (ad : Nat → Ad), k ≤ n ∧ v4 = .int .i64 k ∧ Fill ds ad k xs ∧ RowsTo wr (w.heap.size + 1) ds ad k ∧ wr.ownsRow w.heap.size 30 3 (.slice (some ⟨w.heap.size, 0, none⟩) n n) n xs ∧ Below w.heap.size w wr ∧ w.heap.size < wr.heap.size) (fun v4 _ => n - (intOf v4).toNat)
  case atStart => exact ⟨0, _, fun _ => ⟨none, 0, none, 0⟩, by omega, rfl, fun j hj => by omega, fun j hj => by omega, hown, HW, hg1⟩
  case round =>
    obtain ⟨k, xs, ad, hk, rfl, hF, hT, hO, hW, hg⟩ := hrel
    have hxl := hO.1
    clear hown hgr HW hg1
    by_cases hlt : k < n
    · have e3 : (k : Int) < (n : Int) := by omega
      obtain ⟨b, off, tA, tc, ps, vol, pA, pc, zs, rfl, hb, hrc, lp, lz, hP, hQ, c0, c1, c2⟩ := HR.out _ hW k hlt
      have HT := Lib.hid (l_toReach tA tc ps vol pA pc zs wr.heap.size wr hP hQ (Nat.le_refl _) lp lz)
      have HS := Lib.hid (fun (tA pA : Option Addr) (tc pc : Nat) => fill_step (tA := tA) (pA := pA) (tc := tc) (pc := pc) hF (by omega) hrc)
      have HTT := Lib.hid hT
      have HRC := Lib.hid hrc
      clear hP hQ hF hT hrc
      go_wp2_with fail
      refine HT.out.mono ?_; rintro e w2 ⟨A1, c1', A3, c3, rfl, hR2, hS2, hb2⟩
      have hO2 := ((Row.of_own hO).below hb2 (Nat.le_refl _)).1
      have hW2 := bl_step hW hb2
      have hg2 : w.heap.size < w2.heap.size := Nat.lt_of_lt_of_le hg hb2.size
      have f0 := hO2.frozenAt (k * 3)
      have f1 := hO2.frozenAt (k * 3 + 1)
      have f2 := hO2.frozenAt (k * 3 + 2)
      obtain ⟨u0, hu0⟩ : ∃ u, w2.cell? ⟨w.heap.size, k * 3, none⟩ = some u := by
        rw [hO2.cellAt (k * 3) (by omega)]; exact ⟨_, List.getElem?_eq_getElem (by omega)⟩
      obtain ⟨u1, hu1⟩ : ∃ u, w2.cell? ⟨w.heap.size, k * 3 + 1, none⟩ = some u := by
        rw [hO2.cellAt (k * 3 + 1) (by omega)]; exact ⟨_, List.getElem?_eq_getElem (by omega)⟩
      obtain ⟨u2, hu2⟩ : ∃ u, w2.cell? ⟨w.heap.size, k * 3 + 2, none⟩ = some u := by
        rw [hO2.cellAt (k * 3 + 2) (by omega)]; exact ⟨_, List.getElem?_eq_getElem (by omega)⟩
      have hO3 := (((hO2.stored (k * 3) (.slice A1 ps.length c1')).1.stored (k * 3 + 1) (.int .i64 vol)).1.stored (k * 3 + 2) (.slice A3 zs.length c3)).1
      have hW3 := ((hW2.setCell (p := ⟨w.heap.size, k * 3, none⟩) (Nat.le_refl _) (.slice A1 ps.length c1')).setCell (p := ⟨w.heap.size, k * 3 + 1, none⟩) (Nat.le_refl _) (.int .i64 vol)).setCell (p := ⟨w.heap.size, k * 3 + 2, none⟩) (Nat.le_refl _) (.slice A3 zs.length c3)
      have hQ2 : RQ w2 (w.heap.size + 1) (rcAt ds k) ⟨A1, c1', A3, c3⟩ := by rw [HRC.out]; exact ⟨hR2.mono hg (Nat.le_refl _), hS2.mono hg (Nat.le_refl _)⟩
      have hT2 := Lib.hid (rowsTo_step (fun j hj => (HTT.out j hj).bel hb2) hQ2)
      have hT3 := Lib.hid (fun j hj => (hT2.out j hj).three (i := k * 3) (j := k * 3 + 1) (k := k * 3 + 2) (x := .slice A1 ps.length c1') (y := .int .i64 vol) (z := .slice A3 zs.length c3) (Nat.lt_succ_self w.heap.size))
      have hg3 : w.heap.size < (((w2.setCell ⟨w.heap.size, k * 3, none⟩ (.slice A1 ps.length c1')).setCell ⟨w.heap.size, k * 3 + 1, none⟩ (.int .i64 vol)).setCell ⟨w.heap.size, k * 3 + 2, none⟩ (.slice A3 zs.length c3)).heap.size := by simpa [World.setCell] using hg2
      clear hO hO2 hW hW2 hR2 hS2 hb2 hQ2 hT2 HTT c0 c1 c2 hg hb
      go_wp2
      go_roundw
      case rel => exact ⟨k + 1, _, _, by omega, by go_num, HS.out A1 A3 c1' c3, hT3.out, hO3, hW3, hg3⟩
      case measure => simp [intOf]; omega
    · obtain rfl : k = n := by omega
      have HX := Lib.hid (HF.out wr ad xs hO hF hT hg)
      clear hO hF hT
      go_wp2
      go_ret
      exact ⟨_, _, rfl, HX.out, hW⟩

theorem six_below {W w1 : World} {b b' o o' : Nat} {x0 x1 x2 y0 y1 y2 : Value} (hb : Below W.heap.size W w1) (h : W.cell? ⟨b, o, none⟩ = some x0 ∧ W.cell? ⟨b, o + 1, none⟩ = some x1 ∧ W.cell? ⟨b, o + 2, none⟩ = some x2 ∧ W.cell? ⟨b', o', none⟩ = some y0 ∧ W.cell? ⟨b', o' + 1, none⟩ = some y1 ∧ W.cell? ⟨b', o' + 2, none⟩ = some y2 ∧ b < W.heap.size ∧ b' < W.heap.size) :
    w1.cell? ⟨b, o, none⟩ = some x0 ∧ w1.cell? ⟨b, o + 1, none⟩ = some x1 ∧ w1.cell? ⟨b, o + 2, none⟩ = some x2 ∧ w1.cell? ⟨b', o', none⟩ = some y0 ∧ w1.cell? ⟨b', o' + 1, none⟩ = some y1 ∧ w1.cell? ⟨b', o' + 2, none⟩ = some y2 ∧ b < w1.heap.size ∧ b' < w1.heap.size := by
  obtain ⟨a0, a1, a2, a3, a4, a5, a6, a7⟩ := h
  exact ⟨(hb.cell (p := ⟨b, o, none⟩) a6).trans a0, (hb.cell (p := ⟨b, o + 1, none⟩) a6).trans a1, (hb.cell (p := ⟨b, o + 2, none⟩) a6).trans a2, (hb.cell (p := ⟨b', o', none⟩) a7).trans a3, (hb.cell (p := ⟨b', o' + 1, none⟩) a7).trans a4, (hb.cell (p := ⟨b', o' + 2, none⟩) a7).trans a5, Nat.lt_of_lt_of_le a6 hb.size, Nat.lt_of_lt_of_le a7 hb.size⟩

set_option maxHeartbeats 2000000 in
theorem l_eqReachS (A A' : Option Addr) (c c' : Nat) (ds : List Rc) (H : Nat) (w : World) (hR : RsAt w H A ds) (hR' : RsAt w H A' ds) (hH : H ≤ w.heap.size) (hL : RsLen ds 1048576) (hn : ds.length ≤ 1048576) :
    Calls Try.prog 18 #[.slice A ds.length c, .slice A' ds.length c'] w fun e w' => e = .returned (.bool true) ∧ Below w.heap.size w w' := by
  have HR := Lib.hid (fun (W : World) (hW : Below w.heap.size w W) (k : Nat) (hk : k < ds.length) => rs_get hR hH hL hW hk)
  have HR' := Lib.hid (fun (W : World) (hW : Below w.heap.size w W) (k : Nat) (hk : k < ds.length) => rs_get hR' hH hL hW hk)
  clear hR hR' hL
  generalize ds.length = n at *
  go_enter Try.func18, Try.ntmps18
  go_wp2
  go_loopw [5] (fun v5 wr => ∃ k : Nat, k ≤ n ∧ v5 = .int .i64 k ∧ Below w.heap.size w wr) (fun v5 _ => n - (intOf v5).toNat)
  case atStart => exact ⟨0, by omega, rfl, Below.refl _ _⟩
  case round =>
    obtain ⟨k, hk, rfl, hW⟩ := hrel
    by_cases hlt : k < n
    · obtain ⟨b, off, tA, tc, ps, vol, pA, pc, zs, rfl, hb, hrc, lp, lz, hP, hQ, c0, c1, c2⟩ := HR.out _ hW k hlt
      obtain ⟨b', off', tA', tc', ps', vol', pA', pc', zs', rfl, hb', hrc', lp', lz', hP', hQ', d0, d1, d2⟩ := HR'.out _ hW k hlt
      rw [hrc] at hrc'
      injection hrc' with e1 e2 e3
      subst e1 e2 e3
      have HE := Lib.hid (fun (W : World) (hb : Below wr.heap.size wr W) => l_eqReach tA tc tA' tc' ps vol pA pc pA' pc' zs wr.heap.size W (hP.below hb) (hP'.below hb) (hQ.below hb) (hQ'.below hb) hb.size lp lz)
      clear hP hP' hQ hQ' hrc
      have S0 : wr.drew.cell? ⟨b, off + k * 3, none⟩ = some (.slice tA ps.length tc) ∧ wr.drew.cell? ⟨b, off + k * 3 + 1, none⟩ = some (.int .i64 vol) ∧ wr.drew.cell? ⟨b, off + k * 3 + 2, none⟩ = some (.slice pA zs.length pc) ∧ wr.drew.cell? ⟨b', off' + k * 3, none⟩ = some (.slice tA' ps.length tc') ∧ wr.drew.cell? ⟨b', off' + k * 3 + 1, none⟩ = some (.int .i64 vol) ∧ wr.drew.cell? ⟨b', off' + k * 3 + 2, none⟩ = some (.slice pA' zs.length pc') ∧ b < wr.drew.heap.size ∧ b' < wr.drew.heap.size := ⟨c0, c1, c2, d0, d1, d2, hb, hb'⟩
      have hWd : Below wr.heap.size wr wr.drew := (Below.refl _ _).drew
      have e0 : (0 : Int) ≤ (k : Int) := by omega
      have e3 : (k : Int) < (n : Int) := by omega
      clear c0 c1 c2 d0 d1 d2
      go_wp2_with fail
      go_region_held3 (fun w' => w'.cell? ⟨b, off + k * 3, none⟩ = some (.slice tA ps.length tc) ∧ w'.cell? ⟨b, off + k * 3 + 1, none⟩ = some (.int .i64 vol) ∧ w'.cell? ⟨b, off + k * 3 + 2, none⟩ = some (.slice pA zs.length pc) ∧ w'.cell? ⟨b', off' + k * 3, none⟩ = some (.slice tA' ps.length tc') ∧ w'.cell? ⟨b', off' + k * 3 + 1, none⟩ = some (.int .i64 vol) ∧ w'.cell? ⟨b', off' + k * 3 + 2, none⟩ = some (.slice pA' zs.length pc') ∧ b < w'.heap.size ∧ b' < w'.heap.size) (first | with_reducible exact S1 | with_reducible exact S0) (first | (go_at_call 13; refine (HE.out _ hWd).mono ?_; rintro e w2 ⟨rfl, hb2⟩; have S1 := six_below hb2 S0))
      all_goals
        have hW2 := bl_step hW (hWd.trans (hb2.mono hWd.size))
        clear S0 S1 hb2
        go_wp2
        go_roundw
        case rel => exact ⟨k + 1, by omega, by go_num, hW2⟩
        case measure => simp [intOf]; omega
    · go_wp2
      go_ret
      exact ⟨rfl, hW⟩

set_option maxHeartbeats 2000000 in
theorem walk_FnExactRiverOk (A : Option Addr) (c : Nat) (ds : List Rc) (w : World) (hR : RsAt w w.heap.size A ds) (hL : RsLen ds 9223372036854775807) (hm : ds.length ≤ 9223372036854775807) :
    Calls Try.prog 4 #[.slice A ds.length c] w fun e w' => e = .returned (.bool true) ∧ Below w.heap.size w w' := by
  have HZ := Lib.hid (l_szReachS A c ds w.heap.size w hR (Nat.le_refl _) hL hm)
  have HT := Lib.hid (fun (W : World) (hW : Below w.heap.size w W) (hL : RsLen ds 1048576) (hn : ds.length ≤ 1048576) => l_toReachS A c ds w.heap.size W (hR.below hW) hW.size hL hn)
  clear hR hL hm
  go_enter Try.func4, Try.ntmps4
  go_wp2_with fail
  refine HZ.out.mono ?_; rintro e w1 ⟨v, rfl, hv, hW⟩
  rcases hv with rfl | ⟨v0, hn, hL⟩
  · go_wp2
    go_ret
    exact ⟨rfl, hW⟩
  · go_wp2_with fail
    refine (HT.out _ hW hL hn).mono ?_; rintro e w2 ⟨A2, c2, rfl, hR2, hb2⟩
    replace hW := bl_step hW hb2
    go_wp2_with fail
    refine (s_RiverOk A2 c2 ds w2.heap.size _ hR2 (Nat.le_refl _) hL hn).mono ?_; rintro e w3 ⟨rfl, hb3⟩
    replace hW := bl_step hW hb3
    clear hR2 hb2 hb3
    go_wp2_with fail
    refine (HT.out _ hW hL hn).mono ?_; rintro e w4 ⟨A4, c4, rfl, hR4, hb4⟩
    replace hW := bl_step hW hb4
    clear hb4
    go_wp2_with fail
    refine (i_RiverOk A4 c4 ds w4.heap.size _ hR4 (Nat.le_refl _) hL).mono ?_; rintro e w5 ⟨rfl, hb5⟩
    replace hW := bl_step hW hb5
    replace hR4 := (hR4.below hb5).mono hb5.size
    clear hb5
    go_wp2_with fail
    refine (HT.out _ hW hL hn).mono ?_; rintro e w6 ⟨A6, c6, rfl, hR6, hb6⟩
    replace hW := bl_step hW hb6
    replace hR4 := (hR4.below hb6).mono hb6.size
    clear hb6
    go_wp2_with fail
    refine (l_eqReachS A4 A6 c4 c6 ds w6.heap.size _ hR4 hR6 (Nat.le_refl _) hL hn).mono ?_; rintro e w7 ⟨rfl, hb7⟩
    go_wp2
    go_ret
    exact ⟨rfl, bl_step hW hb7⟩

set_option maxHeartbeats 2000000 in
theorem walk_FnExactRiverTotal (A : Option Addr) (c : Nat) (ds : List Rc) (w : World) (hR : RsAt w w.heap.size A ds) (hL : RsLen ds 9223372036854775807) (hm : ds.length ≤ 9223372036854775807) :
    Calls Try.prog 5 #[.slice A ds.length c] w fun e w' => e = .returned (.bool true) ∧ Below w.heap.size w w' := by
  have HZ := Lib.hid (l_szReachS A c ds w.heap.size w hR (Nat.le_refl _) hL hm)
  have HT := Lib.hid (fun (W : World) (hW : Below w.heap.size w W) (hL : RsLen ds 1048576) (hn : ds.length ≤ 1048576) => l_toReachS A c ds w.heap.size W (hR.below hW) hW.size hL hn)
  clear hR hL hm
  go_enter Try.func5, Try.ntmps5
  go_wp2_with fail
  refine HZ.out.mono ?_; rintro e w1 ⟨v, rfl, hv, hW⟩
  rcases hv with rfl | ⟨v0, hn, hL⟩
  · go_wp2
    go_ret
    exact ⟨rfl, hW⟩
  · go_wp2_with fail
    refine (HT.out _ hW hL hn).mono ?_; rintro e w2 ⟨A2, c2, rfl, hR2, hb2⟩
    replace hW := bl_step hW hb2
    go_wp2_with fail
    refine (s_RiverTotal A2 c2 ds w2.heap.size _ hR2 (Nat.le_refl _) hL hn).mono ?_; rintro e w3 ⟨rfl, hb3⟩
    replace hW := bl_step hW hb3
    clear hR2 hb2 hb3
    go_wp2_with fail
    refine (HT.out _ hW hL hn).mono ?_; rintro e w4 ⟨A4, c4, rfl, hR4, hb4⟩
    replace hW := bl_step hW hb4
    clear hb4
    go_wp2_with fail
    refine (i_RiverTotal A4 c4 ds w4.heap.size _ hR4 (Nat.le_refl _) hL).mono ?_; rintro e w5 ⟨rfl, hb5⟩
    replace hW := bl_step hW hb5
    replace hR4 := (hR4.below hb5).mono hb5.size
    clear hb5
    go_wp2_with fail
    refine (HT.out _ hW hL hn).mono ?_; rintro e w6 ⟨A6, c6, rfl, hR6, hb6⟩
    replace hW := bl_step hW hb6
    replace hR4 := (hR4.below hb6).mono hb6.size
    clear hb6
    go_wp2_with fail
    refine (l_eqReachS A4 A6 c4 c6 ds w6.heap.size _ hR4 hR6 (Nat.le_refl _) hL hn).mono ?_; rintro e w7 ⟨rfl, hb7⟩
    go_wp2
    go_ret
    exact ⟨rfl, bl_step hW hb7⟩
end Go.Proofs.Ytgbncfjabnaokaa
