/- Contracts of PassOn (program and reference). -/
import Derived.Test.YtgbncfjabnaokabNew
namespace Go.Proofs.Ytgbncfjabnaokab
open Go.RowKit

/-- PassOn. -/
def passB (pf : List (Int × Int)) (vf : Int) (zf : List Int) (pt : List (Int × Int)) (vt : Int) (zt : List Int) (amount keep : Int) : Bool := reachOk pf vf zf && reachOk pt vt zt && decide (0 ≤ amount) && decide (0 ≤ keep)
def minI (a b : Int) : Int := if b < a then b else a
def passN (pf : List (Int × Int)) (vf : Int) (zf : List Int) (pt : List (Int × Int)) (vt : Int) (zt : List Int) (amount keep : Int) : Int :=
  if passB pf vf zf pt vt zt amount keep = true then takeV pf vf zf (minI amount (spaceV pt vt zt)) keep else 0
def passVol (pf : List (Int × Int)) (vf : Int) (zf : List Int) (pt : List (Int × Int)) (vt : Int) (zt : List Int) (amount keep : Int) : Int :=
  if passB pf vf zf pt vt zt amount keep = true then sendVol pt vt zt (passN pf vf zf pt vt zt amount keep) else vt
def passZ (pf : List (Int × Int)) (vf : Int) (zf : List Int) (pt : List (Int × Int)) (vt : Int) (zt : List Int) (amount keep : Int) : List Int :=
  if passB pf vf zf pt vt zt amount keep = true then sendZ pt vt zt (passN pf vf zf pt vt zt amount keep) else zt
section
variable {pf : List (Int × Int)} {vf : Int} {zf : List Int} {pt : List (Int × Int)} {vt : Int} {zt : List Int} {amount keep : Int}
theorem pass_no (h : passB pf vf zf pt vt zt amount keep = false) : passN pf vf zf pt vt zt amount keep = 0 ∧ passVol pf vf zf pt vt zt amount keep = vt ∧ passZ pf vf zf pt vt zt amount keep = zt := by
  unfold passVol passZ passN; rw [h]; simp
theorem pass_yes (h : passB pf vf zf pt vt zt amount keep = true) : passN pf vf zf pt vt zt amount keep = takeV pf vf zf (minI amount (spaceV pt vt zt)) keep ∧
    passVol pf vf zf pt vt zt amount keep = sendVol pt vt zt (takeV pf vf zf (minI amount (spaceV pt vt zt)) keep) ∧ passZ pf vf zf pt vt zt amount keep = sendZ pt vt zt (takeV pf vf zf (minI amount (spaceV pt vt zt)) keep) := by
  unfold passVol passZ passN; rw [h]; simp
theorem passZ_len : (passZ pf vf zf pt vt zt amount keep).length = zt.length := by unfold passZ; split; exact sendZ_len _ _ _ _; rfl
end
theorem pass_cases (pf : List (Int × Int)) (vf : Int) (zf : List Int) (pt : List (Int × Int)) (vt : Int) (zt : List Int) (amount keep : Int) :
    (passB pf vf zf pt vt zt amount keep = false ∧ reachOk pf vf zf = false) ∨ (passB pf vf zf pt vt zt amount keep = false ∧ reachOk pf vf zf = true ∧ reachOk pt vt zt = false) ∨
    (passB pf vf zf pt vt zt amount keep = false ∧ reachOk pf vf zf = true ∧ reachOk pt vt zt = true ∧ amount < 0) ∨ (passB pf vf zf pt vt zt amount keep = false ∧ reachOk pf vf zf = true ∧ reachOk pt vt zt = true ∧ 0 ≤ amount ∧ keep < 0) ∨
    (passB pf vf zf pt vt zt amount keep = true ∧ reachOk pf vf zf = true ∧ reachOk pt vt zt = true ∧ 0 ≤ amount ∧ 0 ≤ keep) := by
  unfold passB
  rcases bcases (reachOk pf vf zf) with h | h <;> rcases bcases (reachOk pt vt zt) with h2 | h2 <;> rw [h, h2]
  · by_cases a : amount < 0
    · exact .inr (.inr (.inl ⟨by simp; omega, rfl, rfl, a⟩))
    · by_cases k : keep < 0
      · exact .inr (.inr (.inr (.inl ⟨by simp; omega, rfl, rfl, by omega, k⟩)))
      · exact .inr (.inr (.inr (.inr ⟨by simp; omega, rfl, rfl, by omega, by omega⟩)))
  · exact .inr (.inl ⟨rfl, rfl, rfl⟩)
  · exact .inl ⟨rfl, rfl⟩
  · exact .inl ⟨rfl, rfl⟩
def PassOut (w : World) (pf : List (Int × Int)) (vf : Int) (zf : List Int) (pt : List (Int × Int)) (vt : Int) (zt : List Int) (n : Int) (e : Ending) (w' : World) : Prop :=
  ∃ (tA : Option Addr) (tc : Nat) (pA : Option Addr) (pc : Nat) (tB : Option Addr) (td : Nat) (pB : Option Addr) (pd lo1 hi1 lo2 hi2 : Nat), e = .returned (.tuple #[.agg #[.slice tA pf.length tc, .int .i64 vf, .slice pA zf.length pc], .agg #[.slice tB pt.length td, .int .i64 vt, .slice pB zt.length pd], .int .i64 n]) ∧
    RO w' lo1 hi1 pf zf tA tc pA pc ∧ RO w' lo2 hi2 pt zt tB td pB pd ∧ (hi1 ≤ lo2 ∨ hi2 ≤ lo1) ∧ w.heap.size ≤ lo1 ∧ w.heap.size ≤ lo2 ∧ Below w.heap.size w w'
def PassEnd (w : World) (pf : List (Int × Int)) (vf : Int) (zf : List Int) (pt : List (Int × Int)) (vt : Int) (zt : List Int) (n : Int) (s10 : Value) (w' : World) : Prop :=
  ∃ (tA : Option Addr) (tc : Nat) (pA : Option Addr) (pc : Nat) (tB : Option Addr) (td : Nat) (pB : Option Addr) (pd lo1 hi1 lo2 hi2 : Nat), s10 = .int .i64 n ∧ Blk w' (w.heap.size + 1 + 1) 29 #[.slice tA pf.length tc, .int .i64 vf, .slice pA zf.length pc] ∧ Blk w' (w.heap.size + 1 + 1 + 1) 29 #[.slice tB pt.length td, .int .i64 vt, .slice pB zt.length pd] ∧
    RO w' lo1 hi1 pf zf tA tc pA pc ∧ RO w' lo2 hi2 pt zt tB td pB pd ∧ (hi1 ≤ lo2 ∨ hi2 ≤ lo1) ∧ w.heap.size ≤ lo1 ∧ w.heap.size ≤ lo2 ∧ Below w.heap.size w w'
/-- After TakeOff, its result in a box. -/
def PassMid (w : World) (pf : List (Int × Int)) (vf : Int) (zf : List Int) (n : Int) (xs ys : Array Value) (s11 s12 : Value) (w' : World) : Prop :=
  ∃ (g : Nat) (tA : Option Addr) (tc : Nat) (pA : Option Addr) (pc lo hi : Nat), s11 = .pointer (some ⟨g, 0, none⟩) ∧ s12 = .int .i64 n ∧ w.heap.size + 1 + 1 + 1 < g ∧ w.heap.size + 1 + 1 + 1 < lo ∧ w.heap.size + 1 + 1 + 1 < hi ∧ Blk w' g 29 #[.slice tA pf.length tc, .int .i64 vf, .slice pA zf.length pc] ∧
    RO w' lo hi pf zf tA tc pA pc ∧ Blk w' w.heap.size 29 xs ∧ Blk w' (w.heap.size + 1) 29 ys ∧ Blk w' (w.heap.size + 1 + 1) 29 #[.slice none 0 0, .int .i64 0, .slice none 0 0] ∧ Blk w' (w.heap.size + 1 + 1 + 1) 29 #[.slice none 0 0, .int .i64 0, .slice none 0 0] ∧ Below w.heap.size w w'
theorem Blk.farn {W : World} {g k : Nat} {t : TypeId} {cs : Array Value} {a b c : Value} (h : Blk W k t cs) (hk : k ≠ g) : Blk (((W.setCell ⟨g, 0, none⟩ a).setCell ⟨g, 1, none⟩ b).setCell ⟨g, 2, none⟩ c) k t cs :=
  ((h.far (p := ⟨g, 0, none⟩) hk _).far (p := ⟨g, 1, none⟩) hk _).far (p := ⟨g, 2, none⟩) hk _
theorem RO.drew_ {W : World} {lo hi : Nat} {ps : List (Int × Int)} {zs : List Int} {tA : Option Addr} {tc : Nat} {pA : Option Addr} {pc : Nat} (h : RO W lo hi ps zs tA tc pA pc) : RO W.drew lo hi ps zs tA tc pA pc := ⟨h.1, h.2.1, h.2.2⟩
theorem RO.alloc_ {W : World} {lo hi : Nat} {ps : List (Int × Int)} {zs : List Int} {tA : Option Addr} {tc : Nat} {pA : Option Addr} {pc : Nat} (h : RO W lo hi ps zs tA tc pA pc) (o : Obj) : RO (W.alloc o) lo hi ps zs tA tc pA pc := h.bel ((Below.refl _ _).alloc (Nat.le_refl _) o)
theorem RO.three {W : World} {lo hi : Nat} {ps : List (Int × Int)} {zs : List Int} {tA : Option Addr} {tc : Nat} {pA : Option Addr} {pc g : Nat} {a b c : Value} (h : RO W lo hi ps zs tA tc pA pc) (hg : g < lo ∨ hi ≤ g) : RO (((W.setCell ⟨g, 0, none⟩ a).setCell ⟨g, 1, none⟩ b).setCell ⟨g, 2, none⟩ c) lo hi ps zs tA tc pA pc := by
  have key : ∀ k, lo ≤ k → k < hi → (((W.setCell ⟨g, 0, none⟩ a).setCell ⟨g, 1, none⟩ b).setCell ⟨g, 2, none⟩ c).heap[k]? = W.heap[k]? := fun k h1 h2 =>
    (Below.heap_setCell _ _ _ _ (by show k ≠ g; omega)).trans ((Below.heap_setCell _ _ _ _ (by show k ≠ g; omega)).trans (Below.heap_setCell _ _ _ _ (by show k ≠ g; omega)))
  exact ⟨h.1.same key, h.2.1.same key, by simpa [World.setCell] using h.2.2⟩
theorem RO.out_ {W w' : World} {ps : List (Int × Int)} {zs : List Int} {tA : Option Addr} {tc : Nat} {pA : Option Addr} {pc : Nat} (h : Row w' W.heap.size w'.heap.size 52 2 tA ps.length tc (cellsP ps)) (h' : Row w' W.heap.size w'.heap.size 3 1 pA zs.length pc (cellsI zs)) : RO w' W.heap.size w'.heap.size ps zs tA tc pA pc := ⟨h, h', Nat.le_refl _⟩
theorem boxes_three {g g' k : Nat} {xs ys : Array Value} {W : World} {a b c : Value} (h : (∀ i, W.cell? ⟨g, i, none⟩ = xs[i]?) ∧ (∀ i, W.cell? ⟨g', i, none⟩ = ys[i]?) ∧ g < W.heap.size ∧ g' < W.heap.size) (hk : g ≠ k) (hk' : g' ≠ k) :
    (∀ i, (((W.setCell ⟨k, 0, none⟩ a).setCell ⟨k, 1, none⟩ b).setCell ⟨k, 2, none⟩ c).cell? ⟨g, i, none⟩ = xs[i]?) ∧ (∀ i, (((W.setCell ⟨k, 0, none⟩ a).setCell ⟨k, 1, none⟩ b).setCell ⟨k, 2, none⟩ c).cell? ⟨g', i, none⟩ = ys[i]?) ∧ g < (((W.setCell ⟨k, 0, none⟩ a).setCell ⟨k, 1, none⟩ b).setCell ⟨k, 2, none⟩ c).heap.size ∧ g' < (((W.setCell ⟨k, 0, none⟩ a).setCell ⟨k, 1, none⟩ b).setCell ⟨k, 2, none⟩ c).heap.size := by
  have far : ∀ q, q ≠ k → ∀ i, (((W.setCell ⟨k, 0, none⟩ a).setCell ⟨k, 1, none⟩ b).setCell ⟨k, 2, none⟩ c).cell? ⟨q, i, none⟩ = W.cell? ⟨q, i, none⟩ := fun q hq i =>
    (World.cell?_setCell_other _ _ _ _ (by simp)).trans ((World.cell?_setCell_other _ _ _ _ (by simp)).trans (World.cell?_setCell_other _ _ _ _ (by simp)))
  exact ⟨fun i => (far g hk i).trans (h.1 i), fun i => (far g' hk' i).trans (h.2.1 i), by simpa [World.setCell] using h.2.2.1, by simpa [World.setCell] using h.2.2.2⟩
theorem boxes_alloc {g g' : Nat} {xs ys : Array Value} {W : World} (h : (∀ i, W.cell? ⟨g, i, none⟩ = xs[i]?) ∧ (∀ i, W.cell? ⟨g', i, none⟩ = ys[i]?) ∧ g < W.heap.size ∧ g' < W.heap.size) (o : Obj) :
    (∀ i, (W.alloc o).cell? ⟨g, i, none⟩ = xs[i]?) ∧ (∀ i, (W.alloc o).cell? ⟨g', i, none⟩ = ys[i]?) ∧ g < (W.alloc o).heap.size ∧ g' < (W.alloc o).heap.size := boxes_below ((Below.refl _ _).alloc (Nat.le_refl _) o) h
/-- The start: the arguments' boxes and the results'. -/
theorem start4 (w : World) (t : TypeId) (xs ys zs us : Array Value) : Blk ((((w.alloc (.cells xs t)).alloc (.cells ys t)).alloc (.cells zs t)).alloc (.cells us t)) w.heap.size t xs ∧ Blk ((((w.alloc (.cells xs t)).alloc (.cells ys t)).alloc (.cells zs t)).alloc (.cells us t)) (w.heap.size + 1) t ys ∧
    Blk ((((w.alloc (.cells xs t)).alloc (.cells ys t)).alloc (.cells zs t)).alloc (.cells us t)) (w.heap.size + 1 + 1) t zs ∧ Blk ((((w.alloc (.cells xs t)).alloc (.cells ys t)).alloc (.cells zs t)).alloc (.cells us t)) (w.heap.size + 1 + 1 + 1) t us ∧
    Below w.heap.size w ((((w.alloc (.cells xs t)).alloc (.cells ys t)).alloc (.cells zs t)).alloc (.cells us t)) :=
  ⟨(((Blk.new w t xs).alloc _).alloc _).alloc _, ((blk_new (by simp)).alloc _).alloc _, (blk_new (by simp)).alloc _, blk_new (by simp), bel_alloc (bel_alloc (bel_alloc (bel_alloc (Below.refl _ _) _) _) _) _⟩

/-- Both results are stored. -/
theorem pass_fin {w w8 : World} {x y z x' y' z' a b c a' b' c' : Value} {pf pt : List (Int × Int)} {zf zt : List Int} {tA tB pA pB : Option Addr} {tc td pc pd lo1 hi1 lo2 hi2 : Nat}
    (g8 : Blk w8 (w.heap.size + 1 + 1) 29 #[x, y, z]) (g9 : Blk w8 (w.heap.size + 1 + 1 + 1) 29 #[x', y', z']) (O1 : RO w8 lo1 hi1 pf zf tA tc pA pc) (O2 : RO w8 lo2 hi2 pt zt tB td pB pd) (l1 : w.heap.size + 1 + 1 + 1 < lo1) (l2 : w.heap.size + 1 + 1 + 1 < lo2) (hW : Below w.heap.size w w8) {W : World}
    (hWe : W = (((((w8.setCell ⟨w.heap.size + 1 + 1, 0, none⟩ a).setCell ⟨w.heap.size + 1 + 1, 1, none⟩ b).setCell ⟨w.heap.size + 1 + 1, 2, none⟩ c).setCell ⟨w.heap.size + 1 + 1 + 1, 0, none⟩ a').setCell ⟨w.heap.size + 1 + 1 + 1, 1, none⟩ b').setCell ⟨w.heap.size + 1 + 1 + 1, 2, none⟩ c') :
    (∀ i, W.cell? ⟨w.heap.size + 1 + 1, i, none⟩ = #[a, b, c][i]?) ∧ (∀ i, W.cell? ⟨w.heap.size + 1 + 1 + 1, i, none⟩ = #[a', b', c'][i]?) ∧ RO W lo1 hi1 pf zf tA tc pA pc ∧ RO W lo2 hi2 pt zt tB td pB pd ∧ Below w.heap.size w W := by
  subst hWe
  refine ⟨((g8.three).farn (by omega)).cell, ((g9.farn (by omega)).three).cell, (O1.three (.inl (by omega))).three (.inl (by omega)), (O2.three (.inl (by omega))).three (.inl (by omega)), bel_three (bel_three hW (by omega)) (by omega)⟩

set_option maxHeartbeats 8000000 in
theorem i_PassOn (fA : Option Addr) (fc : Nat) (pf : List (Int × Int)) (vf : Int) (fP : Option Addr) (fd : Nat) (zf : List Int) (gA : Option Addr) (gc : Nat) (pt : List (Int × Int)) (vt : Int) (gP : Option Addr) (gd : Nat) (zt : List Int) (amount keep : Int) (H : Nat) (w : World)
    (hPf : PtsAt w H fA pf) (hQf : NumsAt w H fP zf) (hPt : PtsAt w H gA pt) (hQt : NumsAt w H gP zt) (hH : H ≤ w.heap.size) (hnf : pf.length ≤ 1048576) (hmf : zf.length ≤ 1048576) (hnt : pt.length ≤ 1048576) (hmt : zt.length ≤ 1048576) (ha : amount ≤ 9223372036854775807) (hk : keep ≤ 9223372036854775807) :
    Calls Try.prog 19 #[.agg #[.slice fA pf.length fc, .int .i64 vf, .slice fP zf.length fd], .agg #[.slice gA pt.length gc, .int .i64 vt, .slice gP zt.length gd], .int .i64 amount, .int .i64 keep] w (PassOut w pf (vf - passN pf vf zf pt vt zt amount keep) zf pt (passVol pf vf zf pt vt zt amount keep) (passZ pf vf zf pt vt zt amount keep) (passN pf vf zf pt vt zt amount keep)) := by
  have HRf := Lib.hid (fun (W : World) (hb : Below w.heap.size w W) => i_ReachOk fA fc pf vf fP fd zf H W (hPf.below (hb.mono hH)) (hQf.below (hb.mono hH)) (Nat.le_trans hH hb.size) hnf hmf)
  have HRt := Lib.hid (fun (W : World) (hb : Below w.heap.size w W) => i_ReachOk gA gc pt vt gP gd zt H W (hPt.below (hb.mono hH)) (hQt.below (hb.mono hH)) (Nat.le_trans hH hb.size) hnt hmt)
  have HCf := Lib.hid (fun (W : World) (hb : Below w.heap.size w W) => i_copy fA fc pf vf fP fd zf H W (hPf.below (hb.mono hH)) (hQf.below (hb.mono hH)) (Nat.le_trans hH hb.size) hnf hmf)
  have HCt := Lib.hid (fun (W : World) (hb : Below w.heap.size w W) => i_copy gA gc pt vt gP gd zt H W (hPt.below (hb.mono hH)) (hQt.below (hb.mono hH)) (Nat.le_trans hH hb.size) hnt hmt)
  have HSt := Lib.hid (fun (W : World) (hb : Below w.heap.size w W) => i_SpaceIn gA gc pt vt gP gd zt H W (hPt.below (hb.mono hH)) (hQt.below (hb.mono hH)) (Nat.le_trans hH hb.size) hnt hmt)
  have HTf := Lib.hid (fun (a : Int) (ha' : a ≤ 9223372036854775807) (W : World) (hb : Below w.heap.size w W) => i_TakeOff fA fc pf vf fP fd zf a keep H W (hPf.below (hb.mono hH)) (hQf.below (hb.mono hH)) (Nat.le_trans hH hb.size) hnf hmf ha' hk)
  have HEt := Lib.hid (fun (a : Int) (W : World) (hb : Below w.heap.size w W) => i_SendTo gA gc pt vt gP gd zt a H W (hPt.below (hb.mono hH)) (hQt.below (hb.mono hH)) (Nat.le_trans hH hb.size) hnt hmt)
  clear hPf hQf hPt hQt
  obtain ⟨hF, hT, h8, h9, hW⟩ := start4 w 29 #[.slice fA pf.length fc, .int .i64 vf, .slice fP zf.length fd] #[.slice gA pt.length gc, .int .i64 vt, .slice gP zt.length gd] #[.slice none 0 0, .int .i64 0, .slice none 0 0] #[.slice none 0 0, .int .i64 0, .slice none 0 0]
  have hsp := space_bd (ps := pt) (vol := vt) (zs := zt)
  have n1 : w.heap.size ≠ w.heap.size + 1 + 1 := by omega
  have n2 : w.heap.size + 1 ≠ w.heap.size + 1 + 1 := by omega
  have n3 : w.heap.size ≠ w.heap.size + 1 + 1 + 1 := by omega
  have n4 : w.heap.size + 1 ≠ w.heap.size + 1 + 1 + 1 := by omega
  rcases pass_cases pf vf zf pt vt zt amount keep with ⟨hb, r1⟩ | ⟨hb, r1, r2⟩ | ⟨hb, r1, r2, q1⟩ | ⟨hb, r1, r2, q1, q2⟩ | ⟨hb, r1, r2, q1, q2⟩
  · obtain ⟨e1, e2, e3⟩ := pass_no hb
    rw [e1, e2, e3]
    clear e1 e2 e3 hb HRt HSt HTf HEt
    have cF := hF.cell
    go_enter Try.func19, Try.ntmps19
    go_wp2_with fail
    refine (HRf.out _ hW).mono ?_; rintro e wx ⟨rfl, hb1⟩
    replace hF := hF.bel hb1
    replace hT := hT.bel hb1
    replace h8 := h8.bel hb1
    replace h9 := h9.bel hb1
    replace hW := bel_step hW hb1
    clear cF hb1
    have S0 : (∀ i, wx.drew.cell? ⟨w.heap.size, i, none⟩ = #[Value.slice fA pf.length fc, .int .i64 vf, .slice fP zf.length fd][i]?) ∧ (∀ i, wx.drew.cell? ⟨w.heap.size + 1, i, none⟩ = #[Value.slice gA pt.length gc, .int .i64 vt, .slice gP zt.length gd][i]?) ∧ w.heap.size < wx.drew.heap.size ∧ w.heap.size + 1 < wx.drew.heap.size := ⟨hF.drew.cell, hT.drew.cell, hF.lt, hT.lt⟩
    have hsx := h9.lt
    have hWd := hW.drew
    have g80 := h8.drew
    have g90 := h9.drew
    go_wp2_with fail
    go_region_held3 (fun w' => (∀ i, w'.cell? ⟨w.heap.size, i, none⟩ = #[Value.slice fA pf.length fc, .int .i64 vf, .slice fP zf.length fd][i]?) ∧ (∀ i, w'.cell? ⟨w.heap.size + 1, i, none⟩ = #[Value.slice gA pt.length gc, .int .i64 vt, .slice gP zt.length gd][i]?) ∧ w.heap.size < w'.heap.size ∧ w.heap.size + 1 < w'.heap.size) (first | with_reducible exact S8 | with_reducible exact S7 | with_reducible exact S0 | with_reducible exact boxes_three S8 n1 n2 | with_reducible exact boxes_three (boxes_three S8 n1 n2) n3 n4) (first | (go_at_call 39; ((with_reducible refine (HCf.out _ hWd).mono ?_)); rintro e w7 ⟨t7, c7, p7, d7, rfl, hR7, hS7, hb7⟩; have S7 := boxes_below hb7 S0; have O7 := RO.mk_ (lo := wx.heap.size) hR7 hS7 (Nat.le_refl _); have hW7 := bel_step hWd hb7) | (go_at_call 39; ((with_reducible refine (HCt.out _ hW7).mono ?_)); rintro e w8 ⟨t8, c8, p8, d8, rfl, hR8, hS8, hb8⟩; have S8 := boxes_below hb8 S7; have O8 := RO.mk_ (lo := w7.heap.size) hR8 hS8 (Nat.le_refl _); have hW8 := bel_step hW7 hb8; have g8 := (g80.bel hb7).bel hb8; have g9 := (g90.bel hb7).bel hb8; have c8x := g8.cell; have f8x := g8.frozen; have c9x := g9.cell; have f9x := g9.frozen))
    have hs7 := hb7.size
    have hs7' : wx.heap.size ≤ w7.heap.size := hs7
    go_wp2
    obtain ⟨e8, e9, P1, P2, hW9⟩ := pass_fin g8 g9 (O7.bel hb8) O8 (by omega) (by omega) hW8 (W := _) rfl
    refine bodyPost_ret (v := .tuple #[.agg #[.slice t7 pf.length c7, .int .i64 vf, .slice p7 zf.length d7], .agg #[.slice t8 pt.length c8, .int .i64 vt, .slice p8 zt.length d8], .int .i64 0]) ?_ rfl ⟨t7, c7, p7, d7, t8, c8, p8, d8, _, _, _, _, by rw [Int.sub_zero], P1, P2, .inl (Nat.le_refl _), by omega, by omega, hW9⟩
    simp [results, Try.results19, go_sem, e8, e9]

  · obtain ⟨e1, e2, e3⟩ := pass_no hb
    rw [e1, e2, e3]
    clear e1 e2 e3 hb HSt HTf HEt
    have cF := hF.cell
    go_enter Try.func19, Try.ntmps19
    go_wp2_with fail
    refine (HRf.out _ hW).mono ?_; rintro e w1 ⟨rfl, hb1⟩
    replace hF := hF.bel hb1
    replace hT := hT.bel hb1
    replace h8 := h8.bel hb1
    replace h9 := h9.bel hb1
    replace hW := bel_step hW hb1
    clear cF hb1
    have cT := hT.cell
    go_wp2_with fail
    refine (HRt.out _ hW).mono ?_; rintro e wx ⟨rfl, hb2⟩
    replace hF := hF.bel hb2
    replace hT := hT.bel hb2
    replace h8 := h8.bel hb2
    replace h9 := h9.bel hb2
    replace hW := bel_step hW hb2
    clear cT hb2
    have S0 : (∀ i, wx.drew.cell? ⟨w.heap.size, i, none⟩ = #[Value.slice fA pf.length fc, .int .i64 vf, .slice fP zf.length fd][i]?) ∧ (∀ i, wx.drew.cell? ⟨w.heap.size + 1, i, none⟩ = #[Value.slice gA pt.length gc, .int .i64 vt, .slice gP zt.length gd][i]?) ∧ w.heap.size < wx.drew.heap.size ∧ w.heap.size + 1 < wx.drew.heap.size := ⟨hF.drew.cell, hT.drew.cell, hF.lt, hT.lt⟩
    have hsx := h9.lt
    have hWd := hW.drew
    have g80 := h8.drew
    have g90 := h9.drew
    go_wp2_with fail
    go_region_held3 (fun w' => (∀ i, w'.cell? ⟨w.heap.size, i, none⟩ = #[Value.slice fA pf.length fc, .int .i64 vf, .slice fP zf.length fd][i]?) ∧ (∀ i, w'.cell? ⟨w.heap.size + 1, i, none⟩ = #[Value.slice gA pt.length gc, .int .i64 vt, .slice gP zt.length gd][i]?) ∧ w.heap.size < w'.heap.size ∧ w.heap.size + 1 < w'.heap.size) (first | with_reducible exact S8 | with_reducible exact S7 | with_reducible exact S0 | with_reducible exact boxes_three S8 n1 n2 | with_reducible exact boxes_three (boxes_three S8 n1 n2) n3 n4) (first | (go_at_call 39; ((with_reducible refine (HCf.out _ hWd).mono ?_)); rintro e w7 ⟨t7, c7, p7, d7, rfl, hR7, hS7, hb7⟩; have S7 := boxes_below hb7 S0; have O7 := RO.mk_ (lo := wx.heap.size) hR7 hS7 (Nat.le_refl _); have hW7 := bel_step hWd hb7) | (go_at_call 39; ((with_reducible refine (HCt.out _ hW7).mono ?_)); rintro e w8 ⟨t8, c8, p8, d8, rfl, hR8, hS8, hb8⟩; have S8 := boxes_below hb8 S7; have O8 := RO.mk_ (lo := w7.heap.size) hR8 hS8 (Nat.le_refl _); have hW8 := bel_step hW7 hb8; have g8 := (g80.bel hb7).bel hb8; have g9 := (g90.bel hb7).bel hb8; have c8x := g8.cell; have f8x := g8.frozen; have c9x := g9.cell; have f9x := g9.frozen))
    have hs7 := hb7.size
    have hs7' : wx.heap.size ≤ w7.heap.size := hs7
    go_wp2
    obtain ⟨e8, e9, P1, P2, hW9⟩ := pass_fin g8 g9 (O7.bel hb8) O8 (by omega) (by omega) hW8 (W := _) rfl
    refine bodyPost_ret (v := .tuple #[.agg #[.slice t7 pf.length c7, .int .i64 vf, .slice p7 zf.length d7], .agg #[.slice t8 pt.length c8, .int .i64 vt, .slice p8 zt.length d8], .int .i64 0]) ?_ rfl ⟨t7, c7, p7, d7, t8, c8, p8, d8, _, _, _, _, by rw [Int.sub_zero], P1, P2, .inl (Nat.le_refl _), by omega, by omega, hW9⟩
    simp [results, Try.results19, go_sem, e8, e9]

  · obtain ⟨e1, e2, e3⟩ := pass_no hb
    rw [e1, e2, e3]
    clear e1 e2 e3 hb HSt HTf HEt
    have cF := hF.cell
    go_enter Try.func19, Try.ntmps19
    go_wp2_with fail
    refine (HRf.out _ hW).mono ?_; rintro e w1 ⟨rfl, hb1⟩
    replace hF := hF.bel hb1
    replace hT := hT.bel hb1
    replace h8 := h8.bel hb1
    replace h9 := h9.bel hb1
    replace hW := bel_step hW hb1
    clear cF hb1
    have cT := hT.cell
    go_wp2_with fail
    refine (HRt.out _ hW).mono ?_; rintro e wx ⟨rfl, hb2⟩
    replace hF := hF.bel hb2
    replace hT := hT.bel hb2
    replace h8 := h8.bel hb2
    replace h9 := h9.bel hb2
    replace hW := bel_step hW hb2
    clear cT hb2
    have S0 : (∀ i, wx.drew.cell? ⟨w.heap.size, i, none⟩ = #[Value.slice fA pf.length fc, .int .i64 vf, .slice fP zf.length fd][i]?) ∧ (∀ i, wx.drew.cell? ⟨w.heap.size + 1, i, none⟩ = #[Value.slice gA pt.length gc, .int .i64 vt, .slice gP zt.length gd][i]?) ∧ w.heap.size < wx.drew.heap.size ∧ w.heap.size + 1 < wx.drew.heap.size := ⟨hF.drew.cell, hT.drew.cell, hF.lt, hT.lt⟩
    have hsx := h9.lt
    have hWd := hW.drew
    have g80 := h8.drew
    have g90 := h9.drew
    go_wp2_with fail
    go_region_held3 (fun w' => (∀ i, w'.cell? ⟨w.heap.size, i, none⟩ = #[Value.slice fA pf.length fc, .int .i64 vf, .slice fP zf.length fd][i]?) ∧ (∀ i, w'.cell? ⟨w.heap.size + 1, i, none⟩ = #[Value.slice gA pt.length gc, .int .i64 vt, .slice gP zt.length gd][i]?) ∧ w.heap.size < w'.heap.size ∧ w.heap.size + 1 < w'.heap.size) (first | with_reducible exact S8 | with_reducible exact S7 | with_reducible exact S0 | with_reducible exact boxes_three S8 n1 n2 | with_reducible exact boxes_three (boxes_three S8 n1 n2) n3 n4) (first | (go_at_call 39; ((with_reducible refine (HCf.out _ hWd).mono ?_)); rintro e w7 ⟨t7, c7, p7, d7, rfl, hR7, hS7, hb7⟩; have S7 := boxes_below hb7 S0; have O7 := RO.mk_ (lo := wx.heap.size) hR7 hS7 (Nat.le_refl _); have hW7 := bel_step hWd hb7) | (go_at_call 39; ((with_reducible refine (HCt.out _ hW7).mono ?_)); rintro e w8 ⟨t8, c8, p8, d8, rfl, hR8, hS8, hb8⟩; have S8 := boxes_below hb8 S7; have O8 := RO.mk_ (lo := w7.heap.size) hR8 hS8 (Nat.le_refl _); have hW8 := bel_step hW7 hb8; have g8 := (g80.bel hb7).bel hb8; have g9 := (g90.bel hb7).bel hb8; have c8x := g8.cell; have f8x := g8.frozen; have c9x := g9.cell; have f9x := g9.frozen))
    have hs7 := hb7.size
    have hs7' : wx.heap.size ≤ w7.heap.size := hs7
    go_wp2
    obtain ⟨e8, e9, P1, P2, hW9⟩ := pass_fin g8 g9 (O7.bel hb8) O8 (by omega) (by omega) hW8 (W := _) rfl
    refine bodyPost_ret (v := .tuple #[.agg #[.slice t7 pf.length c7, .int .i64 vf, .slice p7 zf.length d7], .agg #[.slice t8 pt.length c8, .int .i64 vt, .slice p8 zt.length d8], .int .i64 0]) ?_ rfl ⟨t7, c7, p7, d7, t8, c8, p8, d8, _, _, _, _, by rw [Int.sub_zero], P1, P2, .inl (Nat.le_refl _), by omega, by omega, hW9⟩
    simp [results, Try.results19, go_sem, e8, e9]

  · obtain ⟨e1, e2, e3⟩ := pass_no hb
    rw [e1, e2, e3]
    clear e1 e2 e3 hb HSt HTf HEt
    have cF := hF.cell
    go_enter Try.func19, Try.ntmps19
    go_wp2_with fail
    refine (HRf.out _ hW).mono ?_; rintro e w1 ⟨rfl, hb1⟩
    replace hF := hF.bel hb1
    replace hT := hT.bel hb1
    replace h8 := h8.bel hb1
    replace h9 := h9.bel hb1
    replace hW := bel_step hW hb1
    clear cF hb1
    have cT := hT.cell
    go_wp2_with fail
    refine (HRt.out _ hW).mono ?_; rintro e wx ⟨rfl, hb2⟩
    replace hF := hF.bel hb2
    replace hT := hT.bel hb2
    replace h8 := h8.bel hb2
    replace h9 := h9.bel hb2
    replace hW := bel_step hW hb2
    clear cT hb2
    have S0 : (∀ i, wx.drew.cell? ⟨w.heap.size, i, none⟩ = #[Value.slice fA pf.length fc, .int .i64 vf, .slice fP zf.length fd][i]?) ∧ (∀ i, wx.drew.cell? ⟨w.heap.size + 1, i, none⟩ = #[Value.slice gA pt.length gc, .int .i64 vt, .slice gP zt.length gd][i]?) ∧ w.heap.size < wx.drew.heap.size ∧ w.heap.size + 1 < wx.drew.heap.size := ⟨hF.drew.cell, hT.drew.cell, hF.lt, hT.lt⟩
    have hsx := h9.lt
    have hWd := hW.drew
    have g80 := h8.drew
    have g90 := h9.drew
    go_wp2_with fail
    go_region_held3 (fun w' => (∀ i, w'.cell? ⟨w.heap.size, i, none⟩ = #[Value.slice fA pf.length fc, .int .i64 vf, .slice fP zf.length fd][i]?) ∧ (∀ i, w'.cell? ⟨w.heap.size + 1, i, none⟩ = #[Value.slice gA pt.length gc, .int .i64 vt, .slice gP zt.length gd][i]?) ∧ w.heap.size < w'.heap.size ∧ w.heap.size + 1 < w'.heap.size) (first | with_reducible exact S8 | with_reducible exact S7 | with_reducible exact S0 | with_reducible exact boxes_three S8 n1 n2 | with_reducible exact boxes_three (boxes_three S8 n1 n2) n3 n4) (first | (go_at_call 39; ((with_reducible refine (HCf.out _ hWd).mono ?_)); rintro e w7 ⟨t7, c7, p7, d7, rfl, hR7, hS7, hb7⟩; have S7 := boxes_below hb7 S0; have O7 := RO.mk_ (lo := wx.heap.size) hR7 hS7 (Nat.le_refl _); have hW7 := bel_step hWd hb7) | (go_at_call 39; ((with_reducible refine (HCt.out _ hW7).mono ?_)); rintro e w8 ⟨t8, c8, p8, d8, rfl, hR8, hS8, hb8⟩; have S8 := boxes_below hb8 S7; have O8 := RO.mk_ (lo := w7.heap.size) hR8 hS8 (Nat.le_refl _); have hW8 := bel_step hW7 hb8; have g8 := (g80.bel hb7).bel hb8; have g9 := (g90.bel hb7).bel hb8; have c8x := g8.cell; have f8x := g8.frozen; have c9x := g9.cell; have f9x := g9.frozen))
    have hs7 := hb7.size
    have hs7' : wx.heap.size ≤ w7.heap.size := hs7
    go_wp2
    obtain ⟨e8, e9, P1, P2, hW9⟩ := pass_fin g8 g9 (O7.bel hb8) O8 (by omega) (by omega) hW8 (W := _) rfl
    refine bodyPost_ret (v := .tuple #[.agg #[.slice t7 pf.length c7, .int .i64 vf, .slice p7 zf.length d7], .agg #[.slice t8 pt.length c8, .int .i64 vt, .slice p8 zt.length d8], .int .i64 0]) ?_ rfl ⟨t7, c7, p7, d7, t8, c8, p8, d8, _, _, _, _, by rw [Int.sub_zero], P1, P2, .inl (Nat.le_refl _), by omega, by omega, hW9⟩
    simp [results, Try.results19, go_sem, e8, e9]

  · obtain ⟨e1, e2, e3⟩ := pass_yes hb
    rw [e1, e2, e3]
    clear e1 e2 e3 hb HCf HCt
    generalize spaceV pt vt zt = sp at *
    obtain ⟨m, hif⟩ : ∃ m, (if sp < amount then sp else amount) = m := ⟨_, rfl⟩
    have hmi : minI amount sp = m := hif
    rw [hmi]
    have hab : m ≤ 9223372036854775807 := by rw [← hif]; split <;> omega
    clear hmi
    have HTf' := Lib.hid (fun (W : World) (hb : Below w.heap.size w W) => HTf.out m hab W hb)
    generalize takeV pf vf zf m keep = n at *
    clear HTf hab
    have HEn := Lib.hid (fun (W : World) (hb : Below w.heap.size w W) => HEt.out n W hb)
    clear HEt
    generalize sendVol pt vt zt n = vo at *
    generalize sendZ pt vt zt n = zo at *
    have cF := hF.cell
    go_enter Try.func19, Try.ntmps19
    go_wp2_with fail
    refine (HRf.out _ hW).mono ?_; rintro e w1 ⟨rfl, hb1⟩
    replace hF := hF.bel hb1
    replace hT := hT.bel hb1
    replace h8 := h8.bel hb1
    replace h9 := h9.bel hb1
    replace hW := bel_step hW hb1
    clear cF hb1
    have cT := hT.cell
    go_wp2_with fail
    refine (HRt.out _ hW).mono ?_; rintro e wx ⟨rfl, hb2⟩
    replace hF := hF.bel hb2
    replace hT := hT.bel hb2
    replace h8 := h8.bel hb2
    replace h9 := h9.bel hb2
    replace hW := bel_step hW hb2
    clear cT hb2
    have S0 : (∀ i, wx.drew.cell? ⟨w.heap.size, i, none⟩ = #[Value.slice fA pf.length fc, .int .i64 vf, .slice fP zf.length fd][i]?) ∧ (∀ i, wx.drew.cell? ⟨w.heap.size + 1, i, none⟩ = #[Value.slice gA pt.length gc, .int .i64 vt, .slice gP zt.length gd][i]?) ∧ w.heap.size < wx.drew.heap.size ∧ w.heap.size + 1 < wx.drew.heap.size := ⟨hF.drew.cell, hT.drew.cell, hF.lt, hT.lt⟩
    have hsx : w.heap.size + 1 + 1 + 1 < wx.heap.size := h9.lt
    have hWd := hW.drew
    have hWda := (bel_alloc hW (.cells #[.slice none 0 0, .int .i64 0, .slice none 0 0] 29)).drew
    have S0a : (∀ i, (wx.alloc (.cells #[.slice none 0 0, .int .i64 0, .slice none 0 0] 29)).drew.cell? ⟨w.heap.size, i, none⟩ = #[Value.slice fA pf.length fc, .int .i64 vf, .slice fP zf.length fd][i]?) ∧ (∀ i, (wx.alloc (.cells #[.slice none 0 0, .int .i64 0, .slice none 0 0] 29)).drew.cell? ⟨w.heap.size + 1, i, none⟩ = #[Value.slice gA pt.length gc, .int .i64 vt, .slice gP zt.length gd][i]?) ∧ w.heap.size < (wx.alloc (.cells #[.slice none 0 0, .int .i64 0, .slice none 0 0] 29)).drew.heap.size ∧ w.heap.size + 1 < (wx.alloc (.cells #[.slice none 0 0, .int .i64 0, .slice none 0 0] 29)).drew.heap.size := ⟨(hF.alloc _).drew.cell, (hT.alloc _).drew.cell, (hF.alloc _).lt, (hT.alloc _).lt⟩
    go_upto_region 3 with (fail)
    go_cut [11, 12] (fun s11 s12 wy => PassMid w pf (vf - n) zf n #[.slice fA pf.length fc, .int .i64 vf, .slice fP zf.length fd] #[.slice gA pt.length gc, .int .i64 vt, .slice gP zt.length gd] s11 s12 wy)
    case first =>
      go_region_held3 (fun w' => (∀ i, w'.cell? ⟨w.heap.size, i, none⟩ = #[Value.slice fA pf.length fc, .int .i64 vf, .slice fP zf.length fd][i]?) ∧ (∀ i, w'.cell? ⟨w.heap.size + 1, i, none⟩ = #[Value.slice gA pt.length gc, .int .i64 vt, .slice gP zt.length gd][i]?) ∧ w.heap.size < w'.heap.size ∧ w.heap.size + 1 < w'.heap.size) (first | with_reducible exact S8 | with_reducible exact S7 | with_reducible exact S0 | with_reducible exact S0a | with_reducible exact boxes_alloc S8 _ | with_reducible exact boxes_alloc S7 _ | ((with_reducible refine boxes_three S8 ?_ ?_) <;> omega)) (first | (go_at_call 25; ((with_reducible refine (HSt.out _ hWd).mono ?_)); rintro e w7 ⟨rfl, hb7⟩; have S7 := boxes_below hb7 S0; have hW7 := bel_step hWd hb7; have F7 := hF.drew.bel hb7; have T7 := hT.drew.bel hb7; have E7 := h8.drew.bel hb7; have N7 := h9.drew.bel hb7; have hs7 : wx.heap.size ≤ w7.heap.size := hb7.size) | (go_at_call 25; ((with_reducible refine (HSt.out _ hWda).mono ?_)); rintro e w7 ⟨rfl, hb7⟩; have S7 := boxes_below hb7 S0a; have hW7 := bel_step hWda hb7; have F7 := (hF.alloc _).drew.bel hb7; have T7 := (hT.alloc _).drew.bel hb7; have E7 := (h8.alloc _).drew.bel hb7; have N7 := (h9.alloc _).drew.bel hb7; have X7 := (Blk.new wx 29 #[.slice none 0 0, .int .i64 0, .slice none 0 0]).drew.bel hb7; have hs7 := hb7.size; simp only [World.size_drew, World.size_alloc] at hs7) | (go_at_call 23; ((with_reducible refine (HTf'.out _ hW7).mono ?_)); rintro e w8 ⟨t8, c8, p8, d8, rfl, hR8, hS8, hb8⟩; have S8 := boxes_below hb8 S7; have hW8 := bel_step hW7 hb8; have F8 := F7.bel hb8; have T8 := T7.bel hb8; have E8 := E7.bel hb8; have N8 := N7.bel hb8; (try (have X8 := X7.bel hb8; have cX8 := X8.cell; have fX8 := X8.frozen)); have O8 := RO.mk_ (lo := w7.heap.size) hR8 hS8 (Nat.le_refl _); have hs8 := hb8.size) | (go_at_call 23; ((with_reducible refine (HTf'.out _ (bel_alloc hW7 (.cells #[.slice none 0 0, .int .i64 0, .slice none 0 0] 29))).mono ?_)); rintro e w8 ⟨t8, c8, p8, d8, rfl, hR8, hS8, hb8⟩; have S8 := boxes_below hb8 (boxes_alloc S7 (.cells #[.slice none 0 0, .int .i64 0, .slice none 0 0] 29)); have hW8 := bel_step (bel_alloc hW7 _) hb8; have F8 := (F7.alloc _).bel hb8; have T8 := (T7.alloc _).bel hb8; have E8 := (E7.alloc _).bel hb8; have N8 := (N7.alloc _).bel hb8; have X8 := (Blk.new w7 29 #[.slice none 0 0, .int .i64 0, .slice none 0 0]).bel hb8; have cX8 := X8.cell; have fX8 := X8.frozen; have O8 := RO.mk_ (lo := w7.heap.size + 1) hR8 hS8 (by simp); have hs8 := hb8.size; simp only [World.size_alloc] at hs8))
      all_goals
        have k2 : w.heap.size + 1 + 1 + 1 < w7.heap.size := N7.lt
        have k1 : w.heap.size + 1 + 1 + 1 < w8.heap.size := N8.lt
        have k2' : w.heap.size + 1 + 1 + 1 < w7.heap.size + 1 := by omega
        go_wp2_with fail
        go_meet
        first
          | (refine ⟨w8.heap.size, t8, c8, p8, d8, _, _, rfl, rfl, k1, k2, k1, Blk.new _ _ _, O8.alloc_ _, F8.alloc _, T8.alloc _, E8.alloc _, N8.alloc _, bel_alloc hW8 _⟩; done)
          | (refine ⟨w7.heap.size, t8, c8, p8, d8, _, _, rfl, rfl, k2, k2', k1, X8.three, O8.three ?_, F8.farn ?_, T8.farn ?_, E8.farn ?_, N8.farn ?_, bel_three hW8 ?_⟩ <;> omega)
          | (refine ⟨wx.heap.size, t8, c8, p8, d8, _, _, rfl, rfl, hsx, k2, k1, X8.three, O8.three ?_, F8.farn ?_, T8.farn ?_, E8.farn ?_, N8.farn ?_, bel_three hW8 ?_⟩ <;> omega)
    case rest =>
      obtain ⟨g, t8, c8, p8, d8, lo, hi, rfl, rfl, hg, hlo, hhi, X, O8, hF, hT, h8, h9, hW⟩ := hcut
      clear HSt HRf HRt hif S0 hsp
      have S0 := (show (∀ i, (World.drew _).cell? ⟨w.heap.size + 1, i, none⟩ = #[Value.slice gA pt.length gc, .int .i64 vt, .slice gP zt.length gd][i]?) ∧ (∀ i, (World.drew _).cell? ⟨g, i, none⟩ = #[Value.slice t8 pf.length c8, .int .i64 (vf - n), .slice p8 zf.length d8][i]?) ∧ w.heap.size + 1 < (World.drew _).heap.size ∧ g < (World.drew _).heap.size from ⟨hT.drew.cell, X.drew.cell, hT.lt, X.lt⟩)
      have hWd := hW.drew
      have g80 := h8.drew
      have g90 := h9.drew
      have O8d := O8.drew_
      have m1 : w.heap.size + 1 ≠ w.heap.size + 1 + 1 := by omega
      have m2 : g ≠ w.heap.size + 1 + 1 := by omega
      have m3 : w.heap.size + 1 ≠ w.heap.size + 1 + 1 + 1 := by omega
      have m4 : g ≠ w.heap.size + 1 + 1 + 1 := by omega
      have hN9 := h9.lt
      have hO8s := O8.2.2
      go_wp2_with fail
      go_region_held3 (fun w' => (∀ i, w'.cell? ⟨w.heap.size + 1, i, none⟩ = #[Value.slice gA pt.length gc, .int .i64 vt, .slice gP zt.length gd][i]?) ∧ (∀ i, w'.cell? ⟨g, i, none⟩ = #[Value.slice t8 pf.length c8, .int .i64 (vf - n), .slice p8 zf.length d8][i]?) ∧ w.heap.size + 1 < w'.heap.size ∧ g < w'.heap.size) (first | with_reducible exact S12 | with_reducible exact S0 | with_reducible exact boxes_three S12 m1 m2 | with_reducible exact boxes_three (boxes_three S12 m1 m2) m3 m4) (first | (go_at_call 17; ((with_reducible refine (HEn.out _ hWd).mono ?_)); rintro e w12 ⟨t9, c9, p9, d9, rfl, hR9, hS9, hb12⟩; have S12 := boxes_below hb12 S0; have g8 := g80.bel hb12; have g9 := g90.bel hb12; have c8x := g8.cell; have f8x := g8.frozen; have c9x := g9.cell; have f9x := g9.frozen; have O12 := O8d.bel hb12; have hW12 := bel_step hWd hb12))
      have O9 := RO.mk_ (lo := hi) hR9 hS9 hO8s
      go_wp2
      obtain ⟨e8, e9, P1, P2, hW9⟩ := pass_fin g8 g9 O12 O9 (by omega) (by omega) hW12 (W := _) rfl
      refine bodyPost_ret (v := .tuple #[.agg #[.slice t8 pf.length c8, .int .i64 (vf - n), .slice p8 zf.length d8], .agg #[.slice t9 pt.length c9, .int .i64 vo, .slice p9 zo.length d9], .int .i64 n]) ?_ rfl ⟨t8, c8, p8, d8, t9, c9, p9, d9, _, _, _, _, rfl, P1, P2, .inl (Nat.le_refl _), by omega, by omega, hW9⟩
      simp [results, Try.results19, go_sem, e8, e9]
end Go.Proofs.Ytgbncfjabnaokab
