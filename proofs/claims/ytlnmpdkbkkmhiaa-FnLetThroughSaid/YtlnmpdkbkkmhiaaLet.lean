/- LetThrough: what it computes; contracts (program and reference). -/
import Derived.Test.YtlnmpdkbkkmhiaaPassS
import Derived.Test.YtlnmpdkbkkmhiaaWeir
namespace Go.Proofs.Ytlnmpdkbkkmhiaa
open Go.RowKit

def letB (pf : List (Int × Int)) (vf : Int) (zf : List Int) (pt : List (Int × Int)) (vt : Int) (zt : List Int) (g o s c d : Int) : Bool := reachOk pf vf zf && reachOk pt vt zt && weirOk g o s c d
def letF (pf : List (Int × Int)) (vf : Int) (zf : List Int) (pt : List (Int × Int)) (vt : Int) (zt : List Int) (g o s c d : Int) : Int := gateV g o s c d (levelV pf vf zf) (levelV pt vt zt)
def letN (pf : List (Int × Int)) (vf : Int) (zf : List Int) (pt : List (Int × Int)) (vt : Int) (zt : List Int) (g o s c d : Int) : Int := if letB pf vf zf pt vt zt g o s c d = true then passN pf vf zf pt vt zt (letF pf vf zf pt vt zt g o s c d) (valueV pf c) else 0
def letVol (pf : List (Int × Int)) (vf : Int) (zf : List Int) (pt : List (Int × Int)) (vt : Int) (zt : List Int) (g o s c d : Int) : Int := if letB pf vf zf pt vt zt g o s c d = true then passVol pf vf zf pt vt zt (letF pf vf zf pt vt zt g o s c d) (valueV pf c) else vt
def letZ (pf : List (Int × Int)) (vf : Int) (zf : List Int) (pt : List (Int × Int)) (vt : Int) (zt : List Int) (g o s c d : Int) : List Int := if letB pf vf zf pt vt zt g o s c d = true then passZ pf vf zf pt vt zt (letF pf vf zf pt vt zt g o s c d) (valueV pf c) else zt
section
variable {pf : List (Int × Int)} {vf : Int} {zf : List Int} {pt : List (Int × Int)} {vt : Int} {zt : List Int} {g o s c d : Int}
theorem let_no (h : letB pf vf zf pt vt zt g o s c d = false) : letN pf vf zf pt vt zt g o s c d = 0 ∧ letVol pf vf zf pt vt zt g o s c d = vt ∧ letZ pf vf zf pt vt zt g o s c d = zt := by
  unfold letN letVol letZ; rw [h]; simp
theorem let_yes (h : letB pf vf zf pt vt zt g o s c d = true) : letN pf vf zf pt vt zt g o s c d = passN pf vf zf pt vt zt (letF pf vf zf pt vt zt g o s c d) (valueV pf c) ∧ letVol pf vf zf pt vt zt g o s c d = passVol pf vf zf pt vt zt (letF pf vf zf pt vt zt g o s c d) (valueV pf c) ∧ letZ pf vf zf pt vt zt g o s c d = passZ pf vf zf pt vt zt (letF pf vf zf pt vt zt g o s c d) (valueV pf c) := by
  unfold letN letVol letZ; rw [h]; simp
theorem letZ_len : (letZ pf vf zf pt vt zt g o s c d).length = zt.length := by unfold letZ; split; exact passZ_len; rfl
theorem let_cases : (letB pf vf zf pt vt zt g o s c d = false ∧ reachOk pf vf zf = false) ∨ (letB pf vf zf pt vt zt g o s c d = false ∧ reachOk pf vf zf = true ∧ reachOk pt vt zt = false) ∨ (letB pf vf zf pt vt zt g o s c d = false ∧ reachOk pf vf zf = true ∧ reachOk pt vt zt = true ∧ weirOk g o s c d = false) ∨ (letB pf vf zf pt vt zt g o s c d = true ∧ reachOk pf vf zf = true ∧ reachOk pt vt zt = true ∧ weirOk g o s c d = true) := by
  unfold letB
  rcases bcases (reachOk pf vf zf) with h | h <;> rcases bcases (reachOk pt vt zt) with h2 | h2 <;> rcases bcases (weirOk g o s c d) with h3 | h3 <;> rw [h, h2, h3] <;> simp
theorem gate_bd (g o s c d up dn : Int) : 0 ≤ gateV g o s c d up dn ∧ gateV g o s c d up dn ≤ 3200000 := by
  unfold gateV
  split
  · rename_i h
    obtain ⟨h1, h2, h3, h4⟩ := h
    obtain ⟨k1, k2, k3, k4, k5⟩ := weirOk_true h1
    obtain ⟨u1, u2⟩ := inR_true h2
    obtain ⟨d1, d2⟩ := inR_true h3
    have hm : up - max c dn ≤ 100000 := by have : 0 ≤ max c dn := by omega
                                           omega
    obtain ⟨_, i0, i1⟩ := root_small h4 hm
    have p0 : 0 ≤ o * d := Int.mul_nonneg k2.1 (by omega)
    have p1 : o * d ≤ 80 * 1000 := Int.mul_le_mul (by omega) k5.2 (by omega) (by omega)
    have q0 : 0 ≤ o * d * isq (up - max c dn) := Int.mul_nonneg p0 i0
    have q1 : o * d * isq (up - max c dn) ≤ 80 * 1000 * 400 := Int.mul_le_mul p1 i1 i0 (by omega)
    omega
  · omega
theorem val_bd {ps : List (Int × Int)} (h : tableOk ps = true) (x : Int) : 0 ≤ valueV ps x ∧ valueV ps x ≤ 1000000000 := by
  have h1 := value_bd (x := x) h
  have hl := tab_len h
  have h2 := tab_y h (show 0 < ps.length by omega)
  have h3 := tab_y h (show ps.length - 1 < ps.length by omega)
  omega
end
section
variable {a b e : Nat} {xs ys vs : Array Value} {W w1 : World}
theorem b3_below (hb : Below W.heap.size W w1) (h : (∀ i, W.cell? ⟨a, i, none⟩ = xs[i]?) ∧ (∀ i, W.cell? ⟨a + 1, i, none⟩ = ys[i]?) ∧ (∀ i, W.cell? ⟨a + 1 + 1, i, none⟩ = vs[i]?) ∧ a + 1 + 1 < W.heap.size) :
    (∀ i, w1.cell? ⟨a, i, none⟩ = xs[i]?) ∧ (∀ i, w1.cell? ⟨a + 1, i, none⟩ = ys[i]?) ∧ (∀ i, w1.cell? ⟨a + 1 + 1, i, none⟩ = vs[i]?) ∧ a + 1 + 1 < w1.heap.size :=
  ⟨fun i => (hb.cell (p := ⟨a, i, none⟩) (by have := h.2.2.2; show a < _; omega)).trans (h.1 i), fun i => (hb.cell (p := ⟨a + 1, i, none⟩) (by have := h.2.2.2; show a + 1 < _; omega)).trans (h.2.1 i), fun i => (hb.cell (p := ⟨a + 1 + 1, i, none⟩) h.2.2.2).trans (h.2.2.1 i), Nat.lt_of_lt_of_le h.2.2.2 hb.size⟩
theorem b3_three {k : Nat} {x y z : Value} (h : (∀ i, W.cell? ⟨a, i, none⟩ = xs[i]?) ∧ (∀ i, W.cell? ⟨a + 1, i, none⟩ = ys[i]?) ∧ (∀ i, W.cell? ⟨a + 1 + 1, i, none⟩ = vs[i]?) ∧ a + 1 + 1 < W.heap.size) (hk : a + 1 + 1 < k) :
    (∀ i, (((W.setCell ⟨k, 0, none⟩ x).setCell ⟨k, 1, none⟩ y).setCell ⟨k, 2, none⟩ z).cell? ⟨a, i, none⟩ = xs[i]?) ∧ (∀ i, (((W.setCell ⟨k, 0, none⟩ x).setCell ⟨k, 1, none⟩ y).setCell ⟨k, 2, none⟩ z).cell? ⟨a + 1, i, none⟩ = ys[i]?) ∧ (∀ i, (((W.setCell ⟨k, 0, none⟩ x).setCell ⟨k, 1, none⟩ y).setCell ⟨k, 2, none⟩ z).cell? ⟨a + 1 + 1, i, none⟩ = vs[i]?) ∧ a + 1 + 1 < (((W.setCell ⟨k, 0, none⟩ x).setCell ⟨k, 1, none⟩ y).setCell ⟨k, 2, none⟩ z).heap.size := by
  have far : ∀ q, q ≠ k → ∀ i, (((W.setCell ⟨k, 0, none⟩ x).setCell ⟨k, 1, none⟩ y).setCell ⟨k, 2, none⟩ z).cell? ⟨q, i, none⟩ = W.cell? ⟨q, i, none⟩ := fun q hq i =>
    (World.cell?_setCell_other _ _ _ _ (by first | (simp; done) | (simp; omega))).trans ((World.cell?_setCell_other _ _ _ _ (by first | (simp; done) | (simp; omega))).trans (World.cell?_setCell_other _ _ _ _ (by first | (simp; done) | (simp; omega))))
  exact ⟨fun i => (far a (by omega) i).trans (h.1 i), fun i => (far (a + 1) (by omega) i).trans (h.2.1 i), fun i => (far (a + 1 + 1) (by omega) i).trans (h.2.2.1 i), by simpa [World.setCell] using h.2.2.2⟩
end
/-- The start: the arguments' boxes and the results'. -/
theorem start5 (w : World) (t u : TypeId) (xs ys vs zs us : Array Value) : Blk (((((w.alloc (.cells xs t)).alloc (.cells ys t)).alloc (.cells vs u)).alloc (.cells zs t)).alloc (.cells us t)) w.heap.size t xs ∧ Blk (((((w.alloc (.cells xs t)).alloc (.cells ys t)).alloc (.cells vs u)).alloc (.cells zs t)).alloc (.cells us t)) (w.heap.size + 1) t ys ∧
    Blk (((((w.alloc (.cells xs t)).alloc (.cells ys t)).alloc (.cells vs u)).alloc (.cells zs t)).alloc (.cells us t)) (w.heap.size + 1 + 1) u vs ∧ Blk (((((w.alloc (.cells xs t)).alloc (.cells ys t)).alloc (.cells vs u)).alloc (.cells zs t)).alloc (.cells us t)) (w.heap.size + 1 + 1 + 1) t zs ∧ Blk (((((w.alloc (.cells xs t)).alloc (.cells ys t)).alloc (.cells vs u)).alloc (.cells zs t)).alloc (.cells us t)) (w.heap.size + 1 + 1 + 1 + 1) t us ∧
    Below w.heap.size w (((((w.alloc (.cells xs t)).alloc (.cells ys t)).alloc (.cells vs u)).alloc (.cells zs t)).alloc (.cells us t)) :=
  ⟨((((Blk.new w t xs).alloc _).alloc _).alloc _).alloc _, (((blk_new (by simp)).alloc _).alloc _).alloc _, ((blk_new (by simp)).alloc _).alloc _, (blk_new (by simp)).alloc _, blk_new (by simp), bel_alloc (bel_alloc (bel_alloc (bel_alloc (bel_alloc (Below.refl _ _) _) _) _) _) _⟩
/-- Both results are stored. -/
theorem let_fin {w w8 : World} {k : Nat} {x y z x' y' z' a b c a' b' c' : Value} {pf pt : List (Int × Int)} {zf zt : List Int} {tA tB pA pB : Option Addr} {tc td pc pd lo1 hi1 lo2 hi2 : Nat}
    (g8 : Blk w8 k 32 #[x, y, z]) (g9 : Blk w8 (k + 1) 32 #[x', y', z']) (O1 : RO w8 lo1 hi1 pf zf tA tc pA pc) (O2 : RO w8 lo2 hi2 pt zt tB td pB pd) (hk : w.heap.size < k) (l1 : k + 1 < lo1) (l2 : k + 1 < lo2) (hW : Below w.heap.size w w8) {W : World}
    (hWe : W = (((((w8.setCell ⟨k, 0, none⟩ a).setCell ⟨k, 1, none⟩ b).setCell ⟨k, 2, none⟩ c).setCell ⟨k + 1, 0, none⟩ a').setCell ⟨k + 1, 1, none⟩ b').setCell ⟨k + 1, 2, none⟩ c') :
    (∀ i, W.cell? ⟨k, i, none⟩ = #[a, b, c][i]?) ∧ (∀ i, W.cell? ⟨k + 1, i, none⟩ = #[a', b', c'][i]?) ∧ RO W lo1 hi1 pf zf tA tc pA pc ∧ RO W lo2 hi2 pt zt tB td pB pd ∧ Below w.heap.size w W := by
  subst hWe
  exact ⟨((g8.three).farn (by omega)).cell, ((g9.farn (by omega)).three).cell, (O1.three (.inl (by omega))).three (.inl (by omega)), (O2.three (.inl (by omega))).three (.inl (by omega)), bel_three (bel_three hW (by omega)) (by omega)⟩

set_option maxRecDepth 100000 in
set_option maxHeartbeats 8000000 in
theorem i_LetThrough (fA : Option Addr) (fc : Nat) (pf : List (Int × Int)) (vf : Int) (fP : Option Addr) (fd : Nat) (zf : List Int) (gA : Option Addr) (gc : Nat) (pt : List (Int × Int)) (vt : Int) (gP : Option Addr) (gd : Nat) (zt : List Int) (g o s c d : Int) (H : Nat) (w : World)
    (hPf : PtsAt w H fA pf) (hQf : NumsAt w H fP zf) (hPt : PtsAt w H gA pt) (hQt : NumsAt w H gP zt) (hH : H ≤ w.heap.size) (hnf : pf.length ≤ 1048576) (hmf : zf.length ≤ 1048576) (hnt : pt.length ≤ 1048576) (hmt : zt.length ≤ 1048576) :
    Calls Try.prog 8 #[.agg #[Value.slice fA pf.length fc, .int .i64 vf, .slice fP zf.length fd], .agg #[Value.slice gA pt.length gc, .int .i64 vt, .slice gP zt.length gd], .agg #[Value.int .i64 g, .int .i64 o, .int .i64 s, .int .i64 c, .int .i64 d]] w (PassOut w pf (vf - letN pf vf zf pt vt zt g o s c d) zf pt (letVol pf vf zf pt vt zt g o s c d) (letZ pf vf zf pt vt zt g o s c d) (letN pf vf zf pt vt zt g o s c d)) := by
  have HRf := Lib.hid (fun (W : World) (hb : Below w.heap.size w W) => i_ReachOk fA fc pf vf fP fd zf H W (hPf.below (hb.mono hH)) (hQf.below (hb.mono hH)) (Nat.le_trans hH hb.size) hnf hmf)
  have HRt := Lib.hid (fun (W : World) (hb : Below w.heap.size w W) => i_ReachOk gA gc pt vt gP gd zt H W (hPt.below (hb.mono hH)) (hQt.below (hb.mono hH)) (Nat.le_trans hH hb.size) hnt hmt)
  have HCf := Lib.hid (fun (W : World) (hb : Below w.heap.size w W) => i_copy fA fc pf vf fP fd zf H W (hPf.below (hb.mono hH)) (hQf.below (hb.mono hH)) (Nat.le_trans hH hb.size) hnf hmf)
  have HCt := Lib.hid (fun (W : World) (hb : Below w.heap.size w W) => i_copy gA gc pt vt gP gd zt H W (hPt.below (hb.mono hH)) (hQt.below (hb.mono hH)) (Nat.le_trans hH hb.size) hnt hmt)
  have HLf := Lib.hid (fun (W : World) (hb : Below w.heap.size w W) => i_LevelOf fA fc pf vf fP fd zf H W (hPf.below (hb.mono hH)) (hQf.below (hb.mono hH)) (Nat.le_trans hH hb.size) hnf hmf)
  have HLt := Lib.hid (fun (W : World) (hb : Below w.heap.size w W) => i_LevelOf gA gc pt vt gP gd zt H W (hPt.below (hb.mono hH)) (hQt.below (hb.mono hH)) (Nat.le_trans hH hb.size) hnt hmt)
  have HVf := Lib.hid (fun (W : World) (hb : Below w.heap.size w W) => i_ValueAt fA fc pf c H W (hPf.below (hb.mono hH)) (Nat.le_trans hH hb.size) hnf)
  have HPs := Lib.hid (fun (am ke : Int) (ha : am ≤ 9223372036854775807) (hk : ke ≤ 9223372036854775807) (W : World) (hb : Below w.heap.size w W) => i_PassOn fA fc pf vf fP fd zf gA gc pt vt gP gd zt am ke H W (hPf.below (hb.mono hH)) (hQf.below (hb.mono hH)) (hPt.below (hb.mono hH)) (hQt.below (hb.mono hH)) (Nat.le_trans hH hb.size) hnf hmf hnt hmt ha hk)
  clear hPf hQf hPt hQt
  obtain ⟨hF, hT, hV, h8, h9, hW⟩ := start5 w 32 27 #[Value.slice fA pf.length fc, .int .i64 vf, .slice fP zf.length fd] #[Value.slice gA pt.length gc, .int .i64 vt, .slice gP zt.length gd] #[Value.int .i64 g, .int .i64 o, .int .i64 s, .int .i64 c, .int .i64 d] #[Value.slice none 0 0, .int .i64 0, .slice none 0 0] #[Value.slice none 0 0, .int .i64 0, .slice none 0 0]
  have n8 : w.heap.size + 1 + 1 < w.heap.size + 1 + 1 + 1 := by omega
  have n9 : w.heap.size + 1 + 1 < w.heap.size + 1 + 1 + 1 + 1 := by omega
  rcases let_cases (pf := pf) (vf := vf) (zf := zf) (pt := pt) (vt := vt) (zt := zt) (g := g) (o := o) (s := s) (c := c) (d := d) with ⟨hb, r1⟩ | ⟨hb, r1, r2⟩ | ⟨hb, r1, r2, r3⟩ | ⟨hb, r1, r2, r3⟩
  · obtain ⟨e1, e2, e3⟩ := let_no hb
    rw [e1, e2, e3]
    clear e1 e2 e3 hb HLf HLt HVf HPs
    have cF := hF.cell
    go_enter Try.func8, Try.ntmps8
    go_wp2_with fail
    refine (HRf.out _ hW).mono ?_; rintro e wx ⟨rfl, hb1⟩
    replace hF := hF.bel hb1
    replace hT := hT.bel hb1
    replace hV := hV.bel hb1
    replace h8 := h8.bel hb1
    replace h9 := h9.bel hb1
    replace hW := bel_step hW hb1
    clear cF hb1
    have S0 : (∀ i, wx.drew.cell? ⟨w.heap.size, i, none⟩ = #[Value.slice fA pf.length fc, .int .i64 vf, .slice fP zf.length fd][i]?) ∧ (∀ i, wx.drew.cell? ⟨w.heap.size + 1, i, none⟩ = #[Value.slice gA pt.length gc, .int .i64 vt, .slice gP zt.length gd][i]?) ∧ (∀ i, wx.drew.cell? ⟨w.heap.size + 1 + 1, i, none⟩ = #[Value.int .i64 g, .int .i64 o, .int .i64 s, .int .i64 c, .int .i64 d][i]?) ∧ w.heap.size + 1 + 1 < wx.drew.heap.size := ⟨hF.drew.cell, hT.drew.cell, hV.drew.cell, hV.lt⟩
    have hsx : w.heap.size + 1 + 1 + 1 + 1 < wx.heap.size := h9.lt
    have hWd := hW.drew
    have g80 := h8.drew
    have g90 := h9.drew
    go_wp2_with fail
    go_region_held3 (fun w' => (∀ i, w'.cell? ⟨w.heap.size, i, none⟩ = #[Value.slice fA pf.length fc, .int .i64 vf, .slice fP zf.length fd][i]?) ∧ (∀ i, w'.cell? ⟨w.heap.size + 1, i, none⟩ = #[Value.slice gA pt.length gc, .int .i64 vt, .slice gP zt.length gd][i]?) ∧ (∀ i, w'.cell? ⟨w.heap.size + 1 + 1, i, none⟩ = #[Value.int .i64 g, .int .i64 o, .int .i64 s, .int .i64 c, .int .i64 d][i]?) ∧ w.heap.size + 1 + 1 < w'.heap.size) (first | with_reducible exact S12 | with_reducible exact S11 | with_reducible exact S10 | with_reducible exact S9 | with_reducible exact S8 | with_reducible exact S7 | with_reducible exact S0 | with_reducible exact b3_three S8 n8 | with_reducible exact b3_three (b3_three S8 n8) n9 | with_reducible exact b3_three S11 n8 | with_reducible exact b3_three (b3_three S11 n8) n9) (first | (go_at_call 25; ((with_reducible refine (HCf.out _ hWd).mono ?_)); rintro e w7 ⟨t7, c7, p7, d7, rfl, hR7, hS7, hb7⟩; have S7 := b3_below hb7 S0; have O7 := RO.mk_ (lo := wx.heap.size) hR7 hS7 (Nat.le_refl _); have hW7 := bel_step hWd hb7) | (go_at_call 25; ((with_reducible refine (HCt.out _ hW7).mono ?_)); rintro e w8 ⟨t8, c8, p8, d8, rfl, hR8, hS8, hb8⟩; have S8 := b3_below hb8 S7; have O8 := RO.mk_ (lo := w7.heap.size) hR8 hS8 (Nat.le_refl _); have hW8 := bel_step hW7 hb8; have g8 := (g80.bel hb7).bel hb8; have g9 := (g90.bel hb7).bel hb8; have c8x := g8.cell; have f8x := g8.frozen; have c9x := g9.cell; have f9x := g9.frozen))
    have hs7' : wx.heap.size ≤ w7.heap.size := hb7.size
    go_wp2
    obtain ⟨e8, e9, P1, P2, hW9⟩ := let_fin g8 g9 (O7.bel hb8) O8 (by omega) (by omega) (by omega) hW8 (W := _) rfl
    refine bodyPost_ret (v := .tuple #[.agg #[.slice t7 pf.length c7, .int .i64 vf, .slice p7 zf.length d7], .agg #[.slice t8 pt.length c8, .int .i64 vt, .slice p8 zt.length d8], .int .i64 0]) ?_ rfl ⟨t7, c7, p7, d7, t8, c8, p8, d8, _, _, _, _, by rw [Int.sub_zero], P1, P2, .inl (Nat.le_refl _), by omega, by omega, hW9⟩
    simp [results, Try.results8, go_sem, e8, e9]
  · obtain ⟨e1, e2, e3⟩ := let_no hb
    rw [e1, e2, e3]
    clear e1 e2 e3 hb HLf HLt HVf HPs
    have cF := hF.cell
    go_enter Try.func8, Try.ntmps8
    go_wp2_with fail
    refine (HRf.out _ hW).mono ?_; rintro e w1 ⟨rfl, hb1⟩
    replace hF := hF.bel hb1
    replace hT := hT.bel hb1
    replace hV := hV.bel hb1
    replace h8 := h8.bel hb1
    replace h9 := h9.bel hb1
    replace hW := bel_step hW hb1
    clear cF hb1
    have cT := hT.cell
    go_wp2_with fail
    refine (HRt.out _ hW).mono ?_; rintro e wx ⟨rfl, hb2⟩
    replace hF := hF.bel hb2
    replace hT := hT.bel hb2
    replace hV := hV.bel hb2
    replace h8 := h8.bel hb2
    replace h9 := h9.bel hb2
    replace hW := bel_step hW hb2
    clear cT hb2
    have S0 : (∀ i, wx.drew.cell? ⟨w.heap.size, i, none⟩ = #[Value.slice fA pf.length fc, .int .i64 vf, .slice fP zf.length fd][i]?) ∧ (∀ i, wx.drew.cell? ⟨w.heap.size + 1, i, none⟩ = #[Value.slice gA pt.length gc, .int .i64 vt, .slice gP zt.length gd][i]?) ∧ (∀ i, wx.drew.cell? ⟨w.heap.size + 1 + 1, i, none⟩ = #[Value.int .i64 g, .int .i64 o, .int .i64 s, .int .i64 c, .int .i64 d][i]?) ∧ w.heap.size + 1 + 1 < wx.drew.heap.size := ⟨hF.drew.cell, hT.drew.cell, hV.drew.cell, hV.lt⟩
    have hsx : w.heap.size + 1 + 1 + 1 + 1 < wx.heap.size := h9.lt
    have hWd := hW.drew
    have g80 := h8.drew
    have g90 := h9.drew
    go_wp2_with fail
    go_region_held3 (fun w' => (∀ i, w'.cell? ⟨w.heap.size, i, none⟩ = #[Value.slice fA pf.length fc, .int .i64 vf, .slice fP zf.length fd][i]?) ∧ (∀ i, w'.cell? ⟨w.heap.size + 1, i, none⟩ = #[Value.slice gA pt.length gc, .int .i64 vt, .slice gP zt.length gd][i]?) ∧ (∀ i, w'.cell? ⟨w.heap.size + 1 + 1, i, none⟩ = #[Value.int .i64 g, .int .i64 o, .int .i64 s, .int .i64 c, .int .i64 d][i]?) ∧ w.heap.size + 1 + 1 < w'.heap.size) (first | with_reducible exact S12 | with_reducible exact S11 | with_reducible exact S10 | with_reducible exact S9 | with_reducible exact S8 | with_reducible exact S7 | with_reducible exact S0 | with_reducible exact b3_three S8 n8 | with_reducible exact b3_three (b3_three S8 n8) n9 | with_reducible exact b3_three S11 n8 | with_reducible exact b3_three (b3_three S11 n8) n9) (first | (go_at_call 25; ((with_reducible refine (HCf.out _ hWd).mono ?_)); rintro e w7 ⟨t7, c7, p7, d7, rfl, hR7, hS7, hb7⟩; have S7 := b3_below hb7 S0; have O7 := RO.mk_ (lo := wx.heap.size) hR7 hS7 (Nat.le_refl _); have hW7 := bel_step hWd hb7) | (go_at_call 25; ((with_reducible refine (HCt.out _ hW7).mono ?_)); rintro e w8 ⟨t8, c8, p8, d8, rfl, hR8, hS8, hb8⟩; have S8 := b3_below hb8 S7; have O8 := RO.mk_ (lo := w7.heap.size) hR8 hS8 (Nat.le_refl _); have hW8 := bel_step hW7 hb8; have g8 := (g80.bel hb7).bel hb8; have g9 := (g90.bel hb7).bel hb8; have c8x := g8.cell; have f8x := g8.frozen; have c9x := g9.cell; have f9x := g9.frozen))
    have hs7' : wx.heap.size ≤ w7.heap.size := hb7.size
    go_wp2
    obtain ⟨e8, e9, P1, P2, hW9⟩ := let_fin g8 g9 (O7.bel hb8) O8 (by omega) (by omega) (by omega) hW8 (W := _) rfl
    refine bodyPost_ret (v := .tuple #[.agg #[.slice t7 pf.length c7, .int .i64 vf, .slice p7 zf.length d7], .agg #[.slice t8 pt.length c8, .int .i64 vt, .slice p8 zt.length d8], .int .i64 0]) ?_ rfl ⟨t7, c7, p7, d7, t8, c8, p8, d8, _, _, _, _, by rw [Int.sub_zero], P1, P2, .inl (Nat.le_refl _), by omega, by omega, hW9⟩
    simp [results, Try.results8, go_sem, e8, e9]
  · obtain ⟨e1, e2, e3⟩ := let_no hb
    rw [e1, e2, e3]
    clear e1 e2 e3 hb HLf HLt HVf HPs
    have cF := hF.cell
    go_enter Try.func8, Try.ntmps8
    go_wp2_with fail
    refine (HRf.out _ hW).mono ?_; rintro e w1 ⟨rfl, hb1⟩
    replace hF := hF.bel hb1
    replace hT := hT.bel hb1
    replace hV := hV.bel hb1
    replace h8 := h8.bel hb1
    replace h9 := h9.bel hb1
    replace hW := bel_step hW hb1
    clear cF hb1
    have cT := hT.cell
    go_wp2_with fail
    refine (HRt.out _ hW).mono ?_; rintro e w2 ⟨rfl, hb2⟩
    replace hF := hF.bel hb2
    replace hT := hT.bel hb2
    replace hV := hV.bel hb2
    replace h8 := h8.bel hb2
    replace h9 := h9.bel hb2
    replace hW := bel_step hW hb2
    clear cT hb2
    have cV := hV.cell
    go_wp2_with fail
    refine (i_WeirOk g o s c d _).mono ?_; rintro e wx ⟨rfl, hb3⟩
    replace hF := hF.bel hb3
    replace hT := hT.bel hb3
    replace hV := hV.bel hb3
    replace h8 := h8.bel hb3
    replace h9 := h9.bel hb3
    replace hW := bel_step hW hb3
    clear cV hb3
    have S0 : (∀ i, wx.drew.cell? ⟨w.heap.size, i, none⟩ = #[Value.slice fA pf.length fc, .int .i64 vf, .slice fP zf.length fd][i]?) ∧ (∀ i, wx.drew.cell? ⟨w.heap.size + 1, i, none⟩ = #[Value.slice gA pt.length gc, .int .i64 vt, .slice gP zt.length gd][i]?) ∧ (∀ i, wx.drew.cell? ⟨w.heap.size + 1 + 1, i, none⟩ = #[Value.int .i64 g, .int .i64 o, .int .i64 s, .int .i64 c, .int .i64 d][i]?) ∧ w.heap.size + 1 + 1 < wx.drew.heap.size := ⟨hF.drew.cell, hT.drew.cell, hV.drew.cell, hV.lt⟩
    have hsx : w.heap.size + 1 + 1 + 1 + 1 < wx.heap.size := h9.lt
    have hWd := hW.drew
    have g80 := h8.drew
    have g90 := h9.drew
    go_wp2_with fail
    go_region_held3 (fun w' => (∀ i, w'.cell? ⟨w.heap.size, i, none⟩ = #[Value.slice fA pf.length fc, .int .i64 vf, .slice fP zf.length fd][i]?) ∧ (∀ i, w'.cell? ⟨w.heap.size + 1, i, none⟩ = #[Value.slice gA pt.length gc, .int .i64 vt, .slice gP zt.length gd][i]?) ∧ (∀ i, w'.cell? ⟨w.heap.size + 1 + 1, i, none⟩ = #[Value.int .i64 g, .int .i64 o, .int .i64 s, .int .i64 c, .int .i64 d][i]?) ∧ w.heap.size + 1 + 1 < w'.heap.size) (first | with_reducible exact S12 | with_reducible exact S11 | with_reducible exact S10 | with_reducible exact S9 | with_reducible exact S8 | with_reducible exact S7 | with_reducible exact S0 | with_reducible exact b3_three S8 n8 | with_reducible exact b3_three (b3_three S8 n8) n9 | with_reducible exact b3_three S11 n8 | with_reducible exact b3_three (b3_three S11 n8) n9) (first | (go_at_call 25; ((with_reducible refine (HCf.out _ hWd).mono ?_)); rintro e w7 ⟨t7, c7, p7, d7, rfl, hR7, hS7, hb7⟩; have S7 := b3_below hb7 S0; have O7 := RO.mk_ (lo := wx.heap.size) hR7 hS7 (Nat.le_refl _); have hW7 := bel_step hWd hb7) | (go_at_call 25; ((with_reducible refine (HCt.out _ hW7).mono ?_)); rintro e w8 ⟨t8, c8, p8, d8, rfl, hR8, hS8, hb8⟩; have S8 := b3_below hb8 S7; have O8 := RO.mk_ (lo := w7.heap.size) hR8 hS8 (Nat.le_refl _); have hW8 := bel_step hW7 hb8; have g8 := (g80.bel hb7).bel hb8; have g9 := (g90.bel hb7).bel hb8; have c8x := g8.cell; have f8x := g8.frozen; have c9x := g9.cell; have f9x := g9.frozen))
    have hs7' : wx.heap.size ≤ w7.heap.size := hb7.size
    go_wp2
    obtain ⟨e8, e9, P1, P2, hW9⟩ := let_fin g8 g9 (O7.bel hb8) O8 (by omega) (by omega) (by omega) hW8 (W := _) rfl
    refine bodyPost_ret (v := .tuple #[.agg #[.slice t7 pf.length c7, .int .i64 vf, .slice p7 zf.length d7], .agg #[.slice t8 pt.length c8, .int .i64 vt, .slice p8 zt.length d8], .int .i64 0]) ?_ rfl ⟨t7, c7, p7, d7, t8, c8, p8, d8, _, _, _, _, by rw [Int.sub_zero], P1, P2, .inl (Nat.le_refl _), by omega, by omega, hW9⟩
    simp [results, Try.results8, go_sem, e8, e9]
  · obtain ⟨e1, e2, e3⟩ := let_yes hb
    rw [e1, e2, e3]
    clear e1 e2 e3 hb HCf HCt
    have gb := gate_bd g o s c d (levelV pf vf zf) (levelV pt vt zt)
    have vb := val_bd (reach_true r1).1 c
    unfold letF
    have HG := Lib.hid (fun (W : World) => i_GateFlow g o s c d (levelV pf vf zf) (levelV pt vt zt) W)
    generalize gateV g o s c d (levelV pf vf zf) (levelV pt vt zt) = am at *
    generalize levelV pf vf zf = up at *
    generalize levelV pt vt zt = dn at *
    generalize valueV pf c = ke at *
    have HPN := Lib.hid (fun (W : World) (hb : Below w.heap.size w W) => HPs.out am ke (by omega) (by omega) W hb)
    clear HPs
    generalize passN pf vf zf pt vt zt am ke = n at *
    generalize passVol pf vf zf pt vt zt am ke = vo at *
    generalize passZ pf vf zf pt vt zt am ke = zo at *
    have cF := hF.cell
    go_enter Try.func8, Try.ntmps8
    go_wp2_with fail
    refine (HRf.out _ hW).mono ?_; rintro e w1 ⟨rfl, hb1⟩
    replace hF := hF.bel hb1
    replace hT := hT.bel hb1
    replace hV := hV.bel hb1
    replace h8 := h8.bel hb1
    replace h9 := h9.bel hb1
    replace hW := bel_step hW hb1
    clear cF hb1
    have cT := hT.cell
    go_wp2_with fail
    refine (HRt.out _ hW).mono ?_; rintro e w2 ⟨rfl, hb2⟩
    replace hF := hF.bel hb2
    replace hT := hT.bel hb2
    replace hV := hV.bel hb2
    replace h8 := h8.bel hb2
    replace h9 := h9.bel hb2
    replace hW := bel_step hW hb2
    clear cT hb2
    have cV := hV.cell
    go_wp2_with fail
    refine (i_WeirOk g o s c d _).mono ?_; rintro e wx ⟨rfl, hb3⟩
    replace hF := hF.bel hb3
    replace hT := hT.bel hb3
    replace hV := hV.bel hb3
    replace h8 := h8.bel hb3
    replace h9 := h9.bel hb3
    replace hW := bel_step hW hb3
    clear cV hb3
    have S0 : (∀ i, wx.drew.cell? ⟨w.heap.size, i, none⟩ = #[Value.slice fA pf.length fc, .int .i64 vf, .slice fP zf.length fd][i]?) ∧ (∀ i, wx.drew.cell? ⟨w.heap.size + 1, i, none⟩ = #[Value.slice gA pt.length gc, .int .i64 vt, .slice gP zt.length gd][i]?) ∧ (∀ i, wx.drew.cell? ⟨w.heap.size + 1 + 1, i, none⟩ = #[Value.int .i64 g, .int .i64 o, .int .i64 s, .int .i64 c, .int .i64 d][i]?) ∧ w.heap.size + 1 + 1 < wx.drew.heap.size := ⟨hF.drew.cell, hT.drew.cell, hV.drew.cell, hV.lt⟩
    have hsx : w.heap.size + 1 + 1 + 1 + 1 < wx.heap.size := h9.lt
    have hWd := hW.drew
    have g80 := h8.drew
    have g90 := h9.drew
    go_wp2_with fail
    go_region_held3 (fun w' => (∀ i, w'.cell? ⟨w.heap.size, i, none⟩ = #[Value.slice fA pf.length fc, .int .i64 vf, .slice fP zf.length fd][i]?) ∧ (∀ i, w'.cell? ⟨w.heap.size + 1, i, none⟩ = #[Value.slice gA pt.length gc, .int .i64 vt, .slice gP zt.length gd][i]?) ∧ (∀ i, w'.cell? ⟨w.heap.size + 1 + 1, i, none⟩ = #[Value.int .i64 g, .int .i64 o, .int .i64 s, .int .i64 c, .int .i64 d][i]?) ∧ w.heap.size + 1 + 1 < w'.heap.size) (first | with_reducible exact S12 | with_reducible exact S11 | with_reducible exact S10 | with_reducible exact S9 | with_reducible exact S8 | with_reducible exact S7 | with_reducible exact S0 | with_reducible exact b3_three S8 n8 | with_reducible exact b3_three (b3_three S8 n8) n9 | with_reducible exact b3_three S11 n8 | with_reducible exact b3_three (b3_three S11 n8) n9) (first | (go_at_call 26; ((with_reducible refine (HLf.out _ hWd).mono ?_)); rintro e w7 ⟨rfl, hb7⟩; have S7 := b3_below hb7 S0; have hW7 := bel_step hWd hb7) | (go_at_call 26; ((with_reducible refine (HLt.out _ hW7).mono ?_)); rintro e w8 ⟨rfl, hb8⟩; have S8 := b3_below hb8 S7; have hW8 := bel_step hW7 hb8) | (go_at_call 11; ((with_reducible refine (HG.out _).mono ?_)); rintro e w9 ⟨rfl, hb9⟩; have S9 := b3_below hb9 S8; have hW9 := bel_step hW8 hb9))
    have g81 := ((g80.bel hb7).bel hb8).bel hb9
    have g91 := ((g90.bel hb7).bel hb8).bel hb9
    clear S0 S7 S8
    have S0 : (∀ i, w9.drew.cell? ⟨w.heap.size, i, none⟩ = #[Value.slice fA pf.length fc, .int .i64 vf, .slice fP zf.length fd][i]?) ∧ (∀ i, w9.drew.cell? ⟨w.heap.size + 1, i, none⟩ = #[Value.slice gA pt.length gc, .int .i64 vt, .slice gP zt.length gd][i]?) ∧ (∀ i, w9.drew.cell? ⟨w.heap.size + 1 + 1, i, none⟩ = #[Value.int .i64 g, .int .i64 o, .int .i64 s, .int .i64 c, .int .i64 d][i]?) ∧ w.heap.size + 1 + 1 < w9.drew.heap.size := S9
    have hWd9 := hW9.drew
    have g82 := g81.drew
    have g92 := g91.drew
    clear S9
    have hsz9 : wx.heap.size ≤ w9.heap.size := Nat.le_trans (show wx.heap.size ≤ w7.heap.size from hb7.size) (Nat.le_trans hb8.size hb9.size)
    go_wp2_with fail
    go_region_held3 (fun w' => (∀ i, w'.cell? ⟨w.heap.size, i, none⟩ = #[Value.slice fA pf.length fc, .int .i64 vf, .slice fP zf.length fd][i]?) ∧ (∀ i, w'.cell? ⟨w.heap.size + 1, i, none⟩ = #[Value.slice gA pt.length gc, .int .i64 vt, .slice gP zt.length gd][i]?) ∧ (∀ i, w'.cell? ⟨w.heap.size + 1 + 1, i, none⟩ = #[Value.int .i64 g, .int .i64 o, .int .i64 s, .int .i64 c, .int .i64 d][i]?) ∧ w.heap.size + 1 + 1 < w'.heap.size) (first | with_reducible exact S12 | with_reducible exact S11 | with_reducible exact S10 | with_reducible exact S9 | with_reducible exact S8 | with_reducible exact S7 | with_reducible exact S0 | with_reducible exact b3_three S8 n8 | with_reducible exact b3_three (b3_three S8 n8) n9 | with_reducible exact b3_three S11 n8 | with_reducible exact b3_three (b3_three S11 n8) n9) (first | (go_at_call 28; ((with_reducible refine (HVf.out _ hWd9).mono ?_)); rintro e w10 ⟨rfl, hb10⟩; have S10 := b3_below hb10 S0; have hW10 := bel_step hWd9 hb10) | (go_at_call 27; ((with_reducible refine (HPN.out _ hW10).mono ?_)); rintro e w11 ⟨t7, c7, p7, d7, t8, c8, p8, d8, lo1, hi1, lo2, hi2, rfl, P1, P2, hd, hl1, hl2, hb11⟩; have S11 := b3_below hb11 S10; have hW11 := bel_step hW10 hb11; have g8 := ((g82.bel hb10).bel hb11); have g9 := ((g92.bel hb10).bel hb11); have c8x := g8.cell; have f8x := g8.frozen; have c9x := g9.cell; have f9x := g9.frozen))
    all_goals
      have hsz10 : wx.heap.size ≤ w10.heap.size := Nat.le_trans hsz9 hb10.size
      go_wp2
      obtain ⟨e8, e9, Q1, Q2, hW12⟩ := let_fin g8 g9 P1 P2 (by omega) (by omega) (by omega) hW11 (W := _) rfl
      refine bodyPost_ret (v := .tuple #[.agg #[.slice t7 pf.length c7, .int .i64 (vf - n), .slice p7 zf.length d7], .agg #[.slice t8 pt.length c8, .int .i64 vo, .slice p8 zo.length d8], .int .i64 n]) ?_ rfl ⟨t7, c7, p7, d7, t8, c8, p8, d8, _, _, _, _, rfl, Q1, Q2, hd, by omega, by omega, hW12⟩
      simp [results, Try.results8, go_sem, e8, e9]
set_option maxRecDepth 100000 in
set_option maxHeartbeats 8000000 in
theorem s_LetThrough (fA : Option Addr) (fc : Nat) (pf : List (Int × Int)) (vf : Int) (fP : Option Addr) (fd : Nat) (zf : List Int) (gA : Option Addr) (gc : Nat) (pt : List (Int × Int)) (vt : Int) (gP : Option Addr) (gd : Nat) (zt : List Int) (g o s c d : Int) (H : Nat) (w : World)
    (hPf : PtsAt w H fA pf) (hQf : NumsAt w H fP zf) (hPt : PtsAt w H gA pt) (hQt : NumsAt w H gP zt) (hH : H ≤ w.heap.size) (hnf : pf.length ≤ 1048576) (hmf : zf.length ≤ 1048576) (hnt : pt.length ≤ 1048576) (hmt : zt.length ≤ 1048576) :
    Calls Try.prog 14 #[.agg #[Value.slice fA pf.length fc, .int .i64 vf, .slice fP zf.length fd], .agg #[Value.slice gA pt.length gc, .int .i64 vt, .slice gP zt.length gd], .agg #[Value.int .i64 g, .int .i64 o, .int .i64 s, .int .i64 c, .int .i64 d]] w (PassOut w pf (vf - letN pf vf zf pt vt zt g o s c d) zf pt (letVol pf vf zf pt vt zt g o s c d) (letZ pf vf zf pt vt zt g o s c d) (letN pf vf zf pt vt zt g o s c d)) := by
  have HRf := Lib.hid (fun (W : World) (hb : Below w.heap.size w W) => s_ReachOk fA fc pf vf fP fd zf H W (hPf.below (hb.mono hH)) (hQf.below (hb.mono hH)) (Nat.le_trans hH hb.size) hnf hmf)
  have HRt := Lib.hid (fun (W : World) (hb : Below w.heap.size w W) => s_ReachOk gA gc pt vt gP gd zt H W (hPt.below (hb.mono hH)) (hQt.below (hb.mono hH)) (Nat.le_trans hH hb.size) hnt hmt)
  have HCf := Lib.hid (fun (W : World) (hb : Below w.heap.size w W) => s_copy fA fc pf vf fP fd zf H W (hPf.below (hb.mono hH)) (hQf.below (hb.mono hH)) (Nat.le_trans hH hb.size) hnf hmf)
  have HCt := Lib.hid (fun (W : World) (hb : Below w.heap.size w W) => s_copy gA gc pt vt gP gd zt H W (hPt.below (hb.mono hH)) (hQt.below (hb.mono hH)) (Nat.le_trans hH hb.size) hnt hmt)
  have HLf := Lib.hid (fun (W : World) (hb : Below w.heap.size w W) => s_LevelOf fA fc pf vf fP fd zf H W (hPf.below (hb.mono hH)) (hQf.below (hb.mono hH)) (Nat.le_trans hH hb.size) hnf hmf)
  have HLt := Lib.hid (fun (W : World) (hb : Below w.heap.size w W) => s_LevelOf gA gc pt vt gP gd zt H W (hPt.below (hb.mono hH)) (hQt.below (hb.mono hH)) (Nat.le_trans hH hb.size) hnt hmt)
  have HVf := Lib.hid (fun (W : World) (hb : Below w.heap.size w W) => s_ValueAt fA fc pf c H W (hPf.below (hb.mono hH)) (Nat.le_trans hH hb.size) hnf)
  have HPs := Lib.hid (fun (am ke : Int) (ha : am ≤ 9223372036854775807) (hk : ke ≤ 9223372036854775807) (W : World) (hb : Below w.heap.size w W) => s_PassOn fA fc pf vf fP fd zf gA gc pt vt gP gd zt am ke H W (hPf.below (hb.mono hH)) (hQf.below (hb.mono hH)) (hPt.below (hb.mono hH)) (hQt.below (hb.mono hH)) (Nat.le_trans hH hb.size) hnf hmf hnt hmt ha hk)
  clear hPf hQf hPt hQt
  obtain ⟨hF, hT, hV, h8, h9, hW⟩ := start5 w 32 27 #[Value.slice fA pf.length fc, .int .i64 vf, .slice fP zf.length fd] #[Value.slice gA pt.length gc, .int .i64 vt, .slice gP zt.length gd] #[Value.int .i64 g, .int .i64 o, .int .i64 s, .int .i64 c, .int .i64 d] #[Value.slice none 0 0, .int .i64 0, .slice none 0 0] #[Value.slice none 0 0, .int .i64 0, .slice none 0 0]
  have n8 : w.heap.size + 1 + 1 < w.heap.size + 1 + 1 + 1 := by omega
  have n9 : w.heap.size + 1 + 1 < w.heap.size + 1 + 1 + 1 + 1 := by omega
  rcases let_cases (pf := pf) (vf := vf) (zf := zf) (pt := pt) (vt := vt) (zt := zt) (g := g) (o := o) (s := s) (c := c) (d := d) with ⟨hb, r1⟩ | ⟨hb, r1, r2⟩ | ⟨hb, r1, r2, r3⟩ | ⟨hb, r1, r2, r3⟩
  · obtain ⟨e1, e2, e3⟩ := let_no hb
    rw [e1, e2, e3]
    clear e1 e2 e3 hb HLf HLt HVf HPs
    have cF := hF.cell
    go_enter Try.func14, Try.ntmps14
    go_wp2_with fail
    refine (HRf.out _ hW).mono ?_; rintro e wx ⟨rfl, hb1⟩
    replace hF := hF.bel hb1
    replace hT := hT.bel hb1
    replace hV := hV.bel hb1
    replace h8 := h8.bel hb1
    replace h9 := h9.bel hb1
    replace hW := bel_step hW hb1
    clear cF hb1
    have S0 : (∀ i, wx.drew.cell? ⟨w.heap.size, i, none⟩ = #[Value.slice fA pf.length fc, .int .i64 vf, .slice fP zf.length fd][i]?) ∧ (∀ i, wx.drew.cell? ⟨w.heap.size + 1, i, none⟩ = #[Value.slice gA pt.length gc, .int .i64 vt, .slice gP zt.length gd][i]?) ∧ (∀ i, wx.drew.cell? ⟨w.heap.size + 1 + 1, i, none⟩ = #[Value.int .i64 g, .int .i64 o, .int .i64 s, .int .i64 c, .int .i64 d][i]?) ∧ w.heap.size + 1 + 1 < wx.drew.heap.size := ⟨hF.drew.cell, hT.drew.cell, hV.drew.cell, hV.lt⟩
    have hsx : w.heap.size + 1 + 1 + 1 + 1 < wx.heap.size := h9.lt
    have hWd := hW.drew
    have g80 := h8.drew
    have g90 := h9.drew
    go_wp2_with fail
    go_region_held3 (fun w' => (∀ i, w'.cell? ⟨w.heap.size, i, none⟩ = #[Value.slice fA pf.length fc, .int .i64 vf, .slice fP zf.length fd][i]?) ∧ (∀ i, w'.cell? ⟨w.heap.size + 1, i, none⟩ = #[Value.slice gA pt.length gc, .int .i64 vt, .slice gP zt.length gd][i]?) ∧ (∀ i, w'.cell? ⟨w.heap.size + 1 + 1, i, none⟩ = #[Value.int .i64 g, .int .i64 o, .int .i64 s, .int .i64 c, .int .i64 d][i]?) ∧ w.heap.size + 1 + 1 < w'.heap.size) (first | with_reducible exact S12 | with_reducible exact S11 | with_reducible exact S10 | with_reducible exact S9 | with_reducible exact S8 | with_reducible exact S7 | with_reducible exact S0 | with_reducible exact b3_three S8 n8 | with_reducible exact b3_three (b3_three S8 n8) n9 | with_reducible exact b3_three S11 n8 | with_reducible exact b3_three (b3_three S11 n8) n9) (first | (go_at_call 37; ((with_reducible refine (HCf.out _ hWd).mono ?_)); rintro e w7 ⟨t7, c7, p7, d7, rfl, hR7, hS7, hb7⟩; have S7 := b3_below hb7 S0; have O7 := RO.mk_ (lo := wx.heap.size) hR7 hS7 (Nat.le_refl _); have hW7 := bel_step hWd hb7) | (go_at_call 37; ((with_reducible refine (HCt.out _ hW7).mono ?_)); rintro e w8 ⟨t8, c8, p8, d8, rfl, hR8, hS8, hb8⟩; have S8 := b3_below hb8 S7; have O8 := RO.mk_ (lo := w7.heap.size) hR8 hS8 (Nat.le_refl _); have hW8 := bel_step hW7 hb8; have g8 := (g80.bel hb7).bel hb8; have g9 := (g90.bel hb7).bel hb8; have c8x := g8.cell; have f8x := g8.frozen; have c9x := g9.cell; have f9x := g9.frozen))
    have hs7' : wx.heap.size ≤ w7.heap.size := hb7.size
    go_wp2
    obtain ⟨e8, e9, P1, P2, hW9⟩ := let_fin g8 g9 (O7.bel hb8) O8 (by omega) (by omega) (by omega) hW8 (W := _) rfl
    refine bodyPost_ret (v := .tuple #[.agg #[.slice t7 pf.length c7, .int .i64 vf, .slice p7 zf.length d7], .agg #[.slice t8 pt.length c8, .int .i64 vt, .slice p8 zt.length d8], .int .i64 0]) ?_ rfl ⟨t7, c7, p7, d7, t8, c8, p8, d8, _, _, _, _, by rw [Int.sub_zero], P1, P2, .inl (Nat.le_refl _), by omega, by omega, hW9⟩
    simp [results, Try.results14, go_sem, e8, e9]
  · obtain ⟨e1, e2, e3⟩ := let_no hb
    rw [e1, e2, e3]
    clear e1 e2 e3 hb HLf HLt HVf HPs
    have cF := hF.cell
    go_enter Try.func14, Try.ntmps14
    go_wp2_with fail
    refine (HRf.out _ hW).mono ?_; rintro e w1 ⟨rfl, hb1⟩
    replace hF := hF.bel hb1
    replace hT := hT.bel hb1
    replace hV := hV.bel hb1
    replace h8 := h8.bel hb1
    replace h9 := h9.bel hb1
    replace hW := bel_step hW hb1
    clear cF hb1
    have cT := hT.cell
    go_wp2_with fail
    refine (HRt.out _ hW).mono ?_; rintro e wx ⟨rfl, hb2⟩
    replace hF := hF.bel hb2
    replace hT := hT.bel hb2
    replace hV := hV.bel hb2
    replace h8 := h8.bel hb2
    replace h9 := h9.bel hb2
    replace hW := bel_step hW hb2
    clear cT hb2
    have S0 : (∀ i, wx.drew.cell? ⟨w.heap.size, i, none⟩ = #[Value.slice fA pf.length fc, .int .i64 vf, .slice fP zf.length fd][i]?) ∧ (∀ i, wx.drew.cell? ⟨w.heap.size + 1, i, none⟩ = #[Value.slice gA pt.length gc, .int .i64 vt, .slice gP zt.length gd][i]?) ∧ (∀ i, wx.drew.cell? ⟨w.heap.size + 1 + 1, i, none⟩ = #[Value.int .i64 g, .int .i64 o, .int .i64 s, .int .i64 c, .int .i64 d][i]?) ∧ w.heap.size + 1 + 1 < wx.drew.heap.size := ⟨hF.drew.cell, hT.drew.cell, hV.drew.cell, hV.lt⟩
    have hsx : w.heap.size + 1 + 1 + 1 + 1 < wx.heap.size := h9.lt
    have hWd := hW.drew
    have g80 := h8.drew
    have g90 := h9.drew
    go_wp2_with fail
    go_region_held3 (fun w' => (∀ i, w'.cell? ⟨w.heap.size, i, none⟩ = #[Value.slice fA pf.length fc, .int .i64 vf, .slice fP zf.length fd][i]?) ∧ (∀ i, w'.cell? ⟨w.heap.size + 1, i, none⟩ = #[Value.slice gA pt.length gc, .int .i64 vt, .slice gP zt.length gd][i]?) ∧ (∀ i, w'.cell? ⟨w.heap.size + 1 + 1, i, none⟩ = #[Value.int .i64 g, .int .i64 o, .int .i64 s, .int .i64 c, .int .i64 d][i]?) ∧ w.heap.size + 1 + 1 < w'.heap.size) (first | with_reducible exact S12 | with_reducible exact S11 | with_reducible exact S10 | with_reducible exact S9 | with_reducible exact S8 | with_reducible exact S7 | with_reducible exact S0 | with_reducible exact b3_three S8 n8 | with_reducible exact b3_three (b3_three S8 n8) n9 | with_reducible exact b3_three S11 n8 | with_reducible exact b3_three (b3_three S11 n8) n9) (first | (go_at_call 37; ((with_reducible refine (HCf.out _ hWd).mono ?_)); rintro e w7 ⟨t7, c7, p7, d7, rfl, hR7, hS7, hb7⟩; have S7 := b3_below hb7 S0; have O7 := RO.mk_ (lo := wx.heap.size) hR7 hS7 (Nat.le_refl _); have hW7 := bel_step hWd hb7) | (go_at_call 37; ((with_reducible refine (HCt.out _ hW7).mono ?_)); rintro e w8 ⟨t8, c8, p8, d8, rfl, hR8, hS8, hb8⟩; have S8 := b3_below hb8 S7; have O8 := RO.mk_ (lo := w7.heap.size) hR8 hS8 (Nat.le_refl _); have hW8 := bel_step hW7 hb8; have g8 := (g80.bel hb7).bel hb8; have g9 := (g90.bel hb7).bel hb8; have c8x := g8.cell; have f8x := g8.frozen; have c9x := g9.cell; have f9x := g9.frozen))
    have hs7' : wx.heap.size ≤ w7.heap.size := hb7.size
    go_wp2
    obtain ⟨e8, e9, P1, P2, hW9⟩ := let_fin g8 g9 (O7.bel hb8) O8 (by omega) (by omega) (by omega) hW8 (W := _) rfl
    refine bodyPost_ret (v := .tuple #[.agg #[.slice t7 pf.length c7, .int .i64 vf, .slice p7 zf.length d7], .agg #[.slice t8 pt.length c8, .int .i64 vt, .slice p8 zt.length d8], .int .i64 0]) ?_ rfl ⟨t7, c7, p7, d7, t8, c8, p8, d8, _, _, _, _, by rw [Int.sub_zero], P1, P2, .inl (Nat.le_refl _), by omega, by omega, hW9⟩
    simp [results, Try.results14, go_sem, e8, e9]
  · obtain ⟨e1, e2, e3⟩ := let_no hb
    rw [e1, e2, e3]
    clear e1 e2 e3 hb HLf HLt HVf HPs
    have cF := hF.cell
    go_enter Try.func14, Try.ntmps14
    go_wp2_with fail
    refine (HRf.out _ hW).mono ?_; rintro e w1 ⟨rfl, hb1⟩
    replace hF := hF.bel hb1
    replace hT := hT.bel hb1
    replace hV := hV.bel hb1
    replace h8 := h8.bel hb1
    replace h9 := h9.bel hb1
    replace hW := bel_step hW hb1
    clear cF hb1
    have cT := hT.cell
    go_wp2_with fail
    refine (HRt.out _ hW).mono ?_; rintro e w2 ⟨rfl, hb2⟩
    replace hF := hF.bel hb2
    replace hT := hT.bel hb2
    replace hV := hV.bel hb2
    replace h8 := h8.bel hb2
    replace h9 := h9.bel hb2
    replace hW := bel_step hW hb2
    clear cT hb2
    have cV := hV.cell
    go_wp2_with fail
    refine (s_WeirOk g o s c d _).mono ?_; rintro e wx ⟨rfl, hb3⟩
    replace hF := hF.bel hb3
    replace hT := hT.bel hb3
    replace hV := hV.bel hb3
    replace h8 := h8.bel hb3
    replace h9 := h9.bel hb3
    replace hW := bel_step hW hb3
    clear cV hb3
    have S0 : (∀ i, wx.drew.cell? ⟨w.heap.size, i, none⟩ = #[Value.slice fA pf.length fc, .int .i64 vf, .slice fP zf.length fd][i]?) ∧ (∀ i, wx.drew.cell? ⟨w.heap.size + 1, i, none⟩ = #[Value.slice gA pt.length gc, .int .i64 vt, .slice gP zt.length gd][i]?) ∧ (∀ i, wx.drew.cell? ⟨w.heap.size + 1 + 1, i, none⟩ = #[Value.int .i64 g, .int .i64 o, .int .i64 s, .int .i64 c, .int .i64 d][i]?) ∧ w.heap.size + 1 + 1 < wx.drew.heap.size := ⟨hF.drew.cell, hT.drew.cell, hV.drew.cell, hV.lt⟩
    have hsx : w.heap.size + 1 + 1 + 1 + 1 < wx.heap.size := h9.lt
    have hWd := hW.drew
    have g80 := h8.drew
    have g90 := h9.drew
    go_wp2_with fail
    go_region_held3 (fun w' => (∀ i, w'.cell? ⟨w.heap.size, i, none⟩ = #[Value.slice fA pf.length fc, .int .i64 vf, .slice fP zf.length fd][i]?) ∧ (∀ i, w'.cell? ⟨w.heap.size + 1, i, none⟩ = #[Value.slice gA pt.length gc, .int .i64 vt, .slice gP zt.length gd][i]?) ∧ (∀ i, w'.cell? ⟨w.heap.size + 1 + 1, i, none⟩ = #[Value.int .i64 g, .int .i64 o, .int .i64 s, .int .i64 c, .int .i64 d][i]?) ∧ w.heap.size + 1 + 1 < w'.heap.size) (first | with_reducible exact S12 | with_reducible exact S11 | with_reducible exact S10 | with_reducible exact S9 | with_reducible exact S8 | with_reducible exact S7 | with_reducible exact S0 | with_reducible exact b3_three S8 n8 | with_reducible exact b3_three (b3_three S8 n8) n9 | with_reducible exact b3_three S11 n8 | with_reducible exact b3_three (b3_three S11 n8) n9) (first | (go_at_call 37; ((with_reducible refine (HCf.out _ hWd).mono ?_)); rintro e w7 ⟨t7, c7, p7, d7, rfl, hR7, hS7, hb7⟩; have S7 := b3_below hb7 S0; have O7 := RO.mk_ (lo := wx.heap.size) hR7 hS7 (Nat.le_refl _); have hW7 := bel_step hWd hb7) | (go_at_call 37; ((with_reducible refine (HCt.out _ hW7).mono ?_)); rintro e w8 ⟨t8, c8, p8, d8, rfl, hR8, hS8, hb8⟩; have S8 := b3_below hb8 S7; have O8 := RO.mk_ (lo := w7.heap.size) hR8 hS8 (Nat.le_refl _); have hW8 := bel_step hW7 hb8; have g8 := (g80.bel hb7).bel hb8; have g9 := (g90.bel hb7).bel hb8; have c8x := g8.cell; have f8x := g8.frozen; have c9x := g9.cell; have f9x := g9.frozen))
    have hs7' : wx.heap.size ≤ w7.heap.size := hb7.size
    go_wp2
    obtain ⟨e8, e9, P1, P2, hW9⟩ := let_fin g8 g9 (O7.bel hb8) O8 (by omega) (by omega) (by omega) hW8 (W := _) rfl
    refine bodyPost_ret (v := .tuple #[.agg #[.slice t7 pf.length c7, .int .i64 vf, .slice p7 zf.length d7], .agg #[.slice t8 pt.length c8, .int .i64 vt, .slice p8 zt.length d8], .int .i64 0]) ?_ rfl ⟨t7, c7, p7, d7, t8, c8, p8, d8, _, _, _, _, by rw [Int.sub_zero], P1, P2, .inl (Nat.le_refl _), by omega, by omega, hW9⟩
    simp [results, Try.results14, go_sem, e8, e9]
  · obtain ⟨e1, e2, e3⟩ := let_yes hb
    rw [e1, e2, e3]
    clear e1 e2 e3 hb HCf HCt
    have gb := gate_bd g o s c d (levelV pf vf zf) (levelV pt vt zt)
    have vb := val_bd (reach_true r1).1 c
    unfold letF
    have HG := Lib.hid (fun (W : World) => s_GateFlow g o s c d (levelV pf vf zf) (levelV pt vt zt) W)
    generalize gateV g o s c d (levelV pf vf zf) (levelV pt vt zt) = am at *
    generalize levelV pf vf zf = up at *
    generalize levelV pt vt zt = dn at *
    generalize valueV pf c = ke at *
    have HPN := Lib.hid (fun (W : World) (hb : Below w.heap.size w W) => HPs.out am ke (by omega) (by omega) W hb)
    clear HPs
    generalize passN pf vf zf pt vt zt am ke = n at *
    generalize passVol pf vf zf pt vt zt am ke = vo at *
    generalize passZ pf vf zf pt vt zt am ke = zo at *
    have cF := hF.cell
    go_enter Try.func14, Try.ntmps14
    go_wp2_with fail
    refine (HRf.out _ hW).mono ?_; rintro e w1 ⟨rfl, hb1⟩
    replace hF := hF.bel hb1
    replace hT := hT.bel hb1
    replace hV := hV.bel hb1
    replace h8 := h8.bel hb1
    replace h9 := h9.bel hb1
    replace hW := bel_step hW hb1
    clear cF hb1
    have cT := hT.cell
    go_wp2_with fail
    refine (HRt.out _ hW).mono ?_; rintro e w2 ⟨rfl, hb2⟩
    replace hF := hF.bel hb2
    replace hT := hT.bel hb2
    replace hV := hV.bel hb2
    replace h8 := h8.bel hb2
    replace h9 := h9.bel hb2
    replace hW := bel_step hW hb2
    clear cT hb2
    have cV := hV.cell
    go_wp2_with fail
    refine (s_WeirOk g o s c d _).mono ?_; rintro e wx ⟨rfl, hb3⟩
    replace hF := hF.bel hb3
    replace hT := hT.bel hb3
    replace hV := hV.bel hb3
    replace h8 := h8.bel hb3
    replace h9 := h9.bel hb3
    replace hW := bel_step hW hb3
    clear cV hb3
    have S0 : (∀ i, wx.drew.cell? ⟨w.heap.size, i, none⟩ = #[Value.slice fA pf.length fc, .int .i64 vf, .slice fP zf.length fd][i]?) ∧ (∀ i, wx.drew.cell? ⟨w.heap.size + 1, i, none⟩ = #[Value.slice gA pt.length gc, .int .i64 vt, .slice gP zt.length gd][i]?) ∧ (∀ i, wx.drew.cell? ⟨w.heap.size + 1 + 1, i, none⟩ = #[Value.int .i64 g, .int .i64 o, .int .i64 s, .int .i64 c, .int .i64 d][i]?) ∧ w.heap.size + 1 + 1 < wx.drew.heap.size := ⟨hF.drew.cell, hT.drew.cell, hV.drew.cell, hV.lt⟩
    have hsx : w.heap.size + 1 + 1 + 1 + 1 < wx.heap.size := h9.lt
    have hWd := hW.drew
    have g80 := h8.drew
    have g90 := h9.drew
    go_wp2_with fail
    go_region_held3 (fun w' => (∀ i, w'.cell? ⟨w.heap.size, i, none⟩ = #[Value.slice fA pf.length fc, .int .i64 vf, .slice fP zf.length fd][i]?) ∧ (∀ i, w'.cell? ⟨w.heap.size + 1, i, none⟩ = #[Value.slice gA pt.length gc, .int .i64 vt, .slice gP zt.length gd][i]?) ∧ (∀ i, w'.cell? ⟨w.heap.size + 1 + 1, i, none⟩ = #[Value.int .i64 g, .int .i64 o, .int .i64 s, .int .i64 c, .int .i64 d][i]?) ∧ w.heap.size + 1 + 1 < w'.heap.size) (first | with_reducible exact S12 | with_reducible exact S11 | with_reducible exact S10 | with_reducible exact S9 | with_reducible exact S8 | with_reducible exact S7 | with_reducible exact S0 | with_reducible exact b3_three S8 n8 | with_reducible exact b3_three (b3_three S8 n8) n9 | with_reducible exact b3_three S11 n8 | with_reducible exact b3_three (b3_three S11 n8) n9) (first | (go_at_call 12; ((with_reducible refine (HLf.out _ hWd).mono ?_)); rintro e w7 ⟨rfl, hb7⟩; have S7 := b3_below hb7 S0; have hW7 := bel_step hWd hb7) | (go_at_call 12; ((with_reducible refine (HLt.out _ hW7).mono ?_)); rintro e w8 ⟨rfl, hb8⟩; have S8 := b3_below hb8 S7; have hW8 := bel_step hW7 hb8) | (go_at_call 39; ((with_reducible refine (HG.out _).mono ?_)); rintro e w9 ⟨rfl, hb9⟩; have S9 := b3_below hb9 S8; have hW9 := bel_step hW8 hb9) | (go_at_call 9; ((with_reducible refine (HVf.out _ hW9).mono ?_)); rintro e w10 ⟨rfl, hb10⟩; have S10 := b3_below hb10 S9; have hW10 := bel_step hW9 hb10) | (go_at_call 38; ((with_reducible refine (HPN.out _ hW10).mono ?_)); rintro e w11 ⟨t7, c7, p7, d7, t8, c8, p8, d8, lo1, hi1, lo2, hi2, rfl, P1, P2, hd, hl1, hl2, hb11⟩; have S11 := b3_below hb11 S10; have hW11 := bel_step hW10 hb11; have g8 := (((((g80.bel hb7).bel hb8).bel hb9).bel hb10).bel hb11); have g9 := (((((g90.bel hb7).bel hb8).bel hb9).bel hb10).bel hb11); have c8x := g8.cell; have f8x := g8.frozen; have c9x := g9.cell; have f9x := g9.frozen))
    all_goals
      have hsz10 : wx.heap.size ≤ w10.heap.size := Nat.le_trans (show wx.heap.size ≤ w7.heap.size from hb7.size) (Nat.le_trans hb8.size (Nat.le_trans hb9.size hb10.size))
      go_wp2
      obtain ⟨e8, e9, Q1, Q2, hW12⟩ := let_fin g8 g9 P1 P2 (by omega) (by omega) (by omega) hW11 (W := _) rfl
      refine bodyPost_ret (v := .tuple #[.agg #[.slice t7 pf.length c7, .int .i64 (vf - n), .slice p7 zf.length d7], .agg #[.slice t8 pt.length c8, .int .i64 vo, .slice p8 zo.length d8], .int .i64 n]) ?_ rfl ⟨t7, c7, p7, d7, t8, c8, p8, d8, _, _, _, _, rfl, Q1, Q2, hd, by omega, by omega, hW12⟩
      simp [results, Try.results14, go_sem, e8, e9]
end Go.Proofs.Ytlnmpdkbkkmhiaa
