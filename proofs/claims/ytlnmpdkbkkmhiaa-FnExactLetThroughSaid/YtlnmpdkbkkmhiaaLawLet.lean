/- Walk of FnExactLetThrough. -/
import Derived.Test.YtlnmpdkbkkmhiaaLetB
import Derived.Test.YtlnmpdkbkkmhiaaInv
namespace Go.Proofs.Ytlnmpdkbkkmhiaa
open Go.RowKit
/-- Two reaches and a number, in boxes made after the world 'w', apart from the reaches' rows. -/
def Two2 (w : World) (pf : List (Int × Int)) (vf : Int) (zf : List Int) (pt : List (Int × Int)) (vt : Int) (zt : List Int) (n : Int) (s10 s11 s12 : Value) (W : World) : Prop :=
  ∃ (g1 g2 : Nat) (tA : Option Addr) (tc : Nat) (pA : Option Addr) (pc : Nat) (tB : Option Addr) (td : Nat) (pB : Option Addr) (pd lo1 hi1 lo2 hi2 : Nat), s10 = .pointer (some ⟨g1, 0, none⟩) ∧ s11 = .pointer (some ⟨g2, 0, none⟩) ∧ s12 = .int .i64 n ∧
    w.heap.size ≤ g1 ∧ w.heap.size ≤ g2 ∧ Blk W g1 32 #[.slice tA pf.length tc, .int .i64 vf, .slice pA zf.length pc] ∧ Blk W g2 32 #[.slice tB pt.length td, .int .i64 vt, .slice pB zt.length pd] ∧
    RO W lo1 hi1 pf zf tA tc pA pc ∧ RO W lo2 hi2 pt zt tB td pB pd ∧ (hi1 ≤ lo2 ∨ hi2 ≤ lo1) ∧ w.heap.size ≤ lo1 ∧ w.heap.size ≤ lo2 ∧ Below w.heap.size w W ∧
    (g1 < lo1 ∨ hi1 ≤ g1) ∧ (g1 < lo2 ∨ hi2 ≤ g1) ∧ (g2 < lo1 ∨ hi1 ≤ g2) ∧ (g2 < lo2 ∨ hi2 ≤ g2)
structure Reg8B where
  l0 : Bool
  l1 : Bool
  l2 : Bool
  l3 : Bool
  l4 : Bool
  l5 : Bool
  l6 : Bool
  l7 : Bool
  l8 : Bool
  l9 : Bool
  l10 : Bool
  l11 : Bool
  l12 : Bool
  l13 : Bool
  l14 : Bool
  l15 : Bool
structure Reg8U where
  u0 : Value
  u1 : Value
  u2 : Value
  u3 : Value
  u4 : Value
  u5 : Value
  u6 : Value
  u7 : Value
  u8 : Value
  u9 : Value
  u10 : Value
  u11 : Value
  u12 : Value
  u15 : Value
structure Reg8X where
  t0 : Option Addr
  c0 : Nat
  p0 : Option Addr
  d0 : Nat
  t1 : Option Addr
  c1 : Nat
  p1 : Option Addr
  d1 : Nat
  tx : Option Addr
  cx : Nat
  px : Option Addr
  dx : Nat
  ty : Option Addr
  cy : Nat
  py : Option Addr
  dy : Nat
  lo1 : Nat
  hi1 : Nat
  lo2 : Nat
  hi2 : Nat
  g1 : Nat
  g2 : Nat
/-- What is known in the midst of the region. -/
structure Reg8 (W0 : World) (v0 : Value) (v1 : Value) (v2 : Value) (pf : List (Int × Int)) (vf : Int) (zf : List Int) (pt : List (Int × Int)) (vt : Int) (zt : List Int) (vo : Int) (vp : Int) (zp : List Int) (no : Int) (b : Reg8B) (u : Reg8U) (x : Reg8X) (W : World) : Prop where
  hB : Below W0.heap.size W0 W
  f0 : (b.l0 = true → u.u0 = v0)
  f1 : (b.l1 = true → u.u1 = .agg #[Value.slice x.t0 pf.length x.c0, .int .i64 vf, .slice x.p0 zf.length x.d0])
  r1 : (b.l1 = true → b.l6 = false → RX W pf zf x.t0 x.c0 x.p0 x.d0)
  f2 : (b.l2 = true → u.u2 = v1)
  f3 : (b.l3 = true → u.u3 = .agg #[Value.slice x.t1 pt.length x.c1, .int .i64 vt, .slice x.p1 zt.length x.d1])
  r3 : (b.l3 = true → b.l6 = false → RX W pt zt x.t1 x.c1 x.p1 x.d1)
  f4 : (b.l4 = true → u.u4 = v2)
  f5 : (b.l5 = true → u.u5 = v2)
  f6 : (b.l6 = true → u.u6 = .tuple #[.agg #[Value.slice x.tx pf.length x.cx, .int .i64 vo, .slice x.px zf.length x.dx], .agg #[Value.slice x.ty pt.length x.cy, .int .i64 vp, .slice x.py zp.length x.dy], .int .i64 no])
  r6 : (b.l6 = true → RO W x.lo1 x.hi1 pf zf x.tx x.cx x.px x.dx ∧ RO W x.lo2 x.hi2 pt zp x.ty x.cy x.py x.dy ∧ (x.hi1 ≤ x.lo2 ∨ x.hi2 ≤ x.lo1) ∧ W0.heap.size ≤ x.lo1 ∧ W0.heap.size ≤ x.lo2)
  f7 : (b.l7 = true → b.l6 = true ∧ u.u7 = .tuple #[.agg #[Value.slice x.tx pf.length x.cx, .int .i64 vo, .slice x.px zf.length x.dx], .agg #[Value.slice x.ty pt.length x.cy, .int .i64 vp, .slice x.py zp.length x.dy], .int .i64 no])
  f8 : (b.l8 = true → b.l6 = true ∧ u.u8 = .agg #[Value.slice x.tx pf.length x.cx, .int .i64 vo, .slice x.px zf.length x.dx])
  f9 : (b.l9 = true → b.l6 = true ∧ u.u9 = .agg #[Value.slice x.ty pt.length x.cy, .int .i64 vp, .slice x.py zp.length x.dy])
  f10 : (b.l10 = true → b.l6 = true ∧ u.u10 = .int .i64 no)
  f11 : (b.l11 = true → u.u11 = .pointer (some ⟨x.g1, 0, none⟩) ∧ W0.heap.size ≤ x.g1)
  b11 : (b.l11 = true → Blk W x.g1 32 (bif b.l13 then #[Value.slice x.tx pf.length x.cx, .int .i64 vo, .slice x.px zf.length x.dx] else #[Value.slice none 0 0, .int .i64 0, .slice none 0 0]))
  d11 : (b.l11 = true → b.l6 = true → (x.g1 < x.lo1 ∨ x.hi1 ≤ x.g1) ∧ (x.g1 < x.lo2 ∨ x.hi2 ≤ x.g1))
  f12 : (b.l12 = true → u.u12 = .pointer (some ⟨x.g2, 0, none⟩) ∧ W0.heap.size ≤ x.g2)
  b12 : (b.l12 = true → Blk W x.g2 32 (bif b.l14 then #[Value.slice x.ty pt.length x.cy, .int .i64 vp, .slice x.py zp.length x.dy] else #[Value.slice none 0 0, .int .i64 0, .slice none 0 0]))
  d12 : (b.l12 = true → b.l6 = true → (x.g2 < x.lo1 ∨ x.hi1 ≤ x.g2) ∧ (x.g2 < x.lo2 ∨ x.hi2 ≤ x.g2))
  f13 : (b.l13 = true → b.l6 = true ∧ b.l11 = true)
  f14 : (b.l14 = true → b.l6 = true ∧ b.l12 = true)
  f15 : (b.l15 = true → b.l6 = true ∧ u.u15 = .int .i64 no)
  ne : (b.l11 = true → b.l12 = true → x.g1 ≠ x.g2)
structure Reg11B where
  l0 : Bool
  l1 : Bool
  l2 : Bool
  l3 : Bool
  l4 : Bool
  l5 : Bool
  l6 : Bool
  l7 : Bool
  l8 : Bool
  l9 : Bool
  l10 : Bool
  l11 : Bool
  l12 : Bool
  l13 : Bool
structure Reg11U where
  u0 : Value
  u1 : Value
  u2 : Value
  u3 : Value
  u4 : Value
  u5 : Value
  u6 : Value
  u7 : Value
  u8 : Value
  u9 : Value
  u10 : Value
  u13 : Value
structure Reg11X where
  tx : Option Addr
  cx : Nat
  px : Option Addr
  dx : Nat
  ty : Option Addr
  cy : Nat
  py : Option Addr
  dy : Nat
  lo1 : Nat
  hi1 : Nat
  lo2 : Nat
  hi2 : Nat
  g1 : Nat
  g2 : Nat
/-- What is known in the midst of the region. -/
structure Reg11 (W0 : World) (v0 : Value) (v1 : Value) (v2 : Value) (pf : List (Int × Int)) (vo : Int) (zf : List Int) (pt : List (Int × Int)) (vp : Int) (zp : List Int) (no : Int) (b : Reg11B) (u : Reg11U) (x : Reg11X) (W : World) : Prop where
  hB : Below W0.heap.size W0 W
  f0 : (b.l0 = true → u.u0 = v0)
  f1 : (b.l1 = true → u.u1 = v1)
  f2 : (b.l2 = true → u.u2 = v2)
  f3 : (b.l3 = true → u.u3 = v2)
  f4 : (b.l4 = true → u.u4 = .tuple #[.agg #[Value.slice x.tx pf.length x.cx, .int .i64 vo, .slice x.px zf.length x.dx], .agg #[Value.slice x.ty pt.length x.cy, .int .i64 vp, .slice x.py zp.length x.dy], .int .i64 no])
  r4 : (b.l4 = true → RO W x.lo1 x.hi1 pf zf x.tx x.cx x.px x.dx ∧ RO W x.lo2 x.hi2 pt zp x.ty x.cy x.py x.dy ∧ (x.hi1 ≤ x.lo2 ∨ x.hi2 ≤ x.lo1) ∧ W0.heap.size ≤ x.lo1 ∧ W0.heap.size ≤ x.lo2)
  f5 : (b.l5 = true → b.l4 = true ∧ u.u5 = .tuple #[.agg #[Value.slice x.tx pf.length x.cx, .int .i64 vo, .slice x.px zf.length x.dx], .agg #[Value.slice x.ty pt.length x.cy, .int .i64 vp, .slice x.py zp.length x.dy], .int .i64 no])
  f6 : (b.l6 = true → b.l4 = true ∧ u.u6 = .agg #[Value.slice x.tx pf.length x.cx, .int .i64 vo, .slice x.px zf.length x.dx])
  f7 : (b.l7 = true → b.l4 = true ∧ u.u7 = .agg #[Value.slice x.ty pt.length x.cy, .int .i64 vp, .slice x.py zp.length x.dy])
  f8 : (b.l8 = true → b.l4 = true ∧ u.u8 = .int .i64 no)
  f9 : (b.l9 = true → u.u9 = .pointer (some ⟨x.g1, 0, none⟩) ∧ W0.heap.size ≤ x.g1)
  b9 : (b.l9 = true → Blk W x.g1 32 (bif b.l11 then #[Value.slice x.tx pf.length x.cx, .int .i64 vo, .slice x.px zf.length x.dx] else #[Value.slice none 0 0, .int .i64 0, .slice none 0 0]))
  d9 : (b.l9 = true → b.l4 = true → (x.g1 < x.lo1 ∨ x.hi1 ≤ x.g1) ∧ (x.g1 < x.lo2 ∨ x.hi2 ≤ x.g1))
  f10 : (b.l10 = true → u.u10 = .pointer (some ⟨x.g2, 0, none⟩) ∧ W0.heap.size ≤ x.g2)
  b10 : (b.l10 = true → Blk W x.g2 32 (bif b.l12 then #[Value.slice x.ty pt.length x.cy, .int .i64 vp, .slice x.py zp.length x.dy] else #[Value.slice none 0 0, .int .i64 0, .slice none 0 0]))
  d10 : (b.l10 = true → b.l4 = true → (x.g2 < x.lo1 ∨ x.hi1 ≤ x.g2) ∧ (x.g2 < x.lo2 ∨ x.hi2 ≤ x.g2))
  f11 : (b.l11 = true → b.l4 = true ∧ b.l9 = true)
  f12 : (b.l12 = true → b.l4 = true ∧ b.l10 = true)
  f13 : (b.l13 = true → b.l4 = true ∧ u.u13 = .int .i64 no)
  ne : (b.l9 = true → b.l10 = true → x.g1 ≠ x.g2)
set_option maxHeartbeats 16000000 in
set_option maxRecDepth 100000 in
theorem walk_FnExactLetThrough (fA : Option Addr) (fc : Nat) (pf : List (Int × Int)) (vf : Int) (fP : Option Addr) (fd : Nat) (zf : List Int) (gA : Option Addr) (gc : Nat) (pt : List (Int × Int)) (vt : Int) (gP : Option Addr) (gd : Nat) (zt : List Int) (g o s c d : Int) (w : World)
    (hPf : PtsAt w w.heap.size fA pf) (hQf : NumsAt w w.heap.size fP zf) (hnf : pf.length ≤ 9223372036854775807) (hmf : zf.length ≤ 9223372036854775807) (hPt : PtsAt w w.heap.size gA pt) (hQt : NumsAt w w.heap.size gP zt) (hnt : pt.length ≤ 9223372036854775807) (hmt : zt.length ≤ 9223372036854775807) :
    Calls Try.prog 4 #[.agg #[Value.slice fA pf.length fc, .int .i64 vf, .slice fP zf.length fd], .agg #[Value.slice gA pt.length gc, .int .i64 vt, .slice gP zt.length gd], .agg #[Value.int .i64 g, .int .i64 o, .int .i64 s, .int .i64 c, .int .i64 d]] w fun e w' => e = .returned (.bool true) ∧ Below w.heap.size w w' := by
  obtain ⟨hBa, hBb, hBc, hW⟩ : Blk (((w.alloc (.cells #[Value.slice fA pf.length fc, .int .i64 vf, .slice fP zf.length fd] 40)).alloc (.cells #[Value.slice gA pt.length gc, .int .i64 vt, .slice gP zt.length gd] 40)).alloc (.cells #[Value.int .i64 g, .int .i64 o, .int .i64 s, .int .i64 c, .int .i64 d] 41)) w.heap.size 40 #[Value.slice fA pf.length fc, .int .i64 vf, .slice fP zf.length fd] ∧ Blk (((w.alloc (.cells #[Value.slice fA pf.length fc, .int .i64 vf, .slice fP zf.length fd] 40)).alloc (.cells #[Value.slice gA pt.length gc, .int .i64 vt, .slice gP zt.length gd] 40)).alloc (.cells #[Value.int .i64 g, .int .i64 o, .int .i64 s, .int .i64 c, .int .i64 d] 41)) (w.heap.size + 1) 40 #[Value.slice gA pt.length gc, .int .i64 vt, .slice gP zt.length gd] ∧ Blk (((w.alloc (.cells #[Value.slice fA pf.length fc, .int .i64 vf, .slice fP zf.length fd] 40)).alloc (.cells #[Value.slice gA pt.length gc, .int .i64 vt, .slice gP zt.length gd] 40)).alloc (.cells #[Value.int .i64 g, .int .i64 o, .int .i64 s, .int .i64 c, .int .i64 d] 41)) (w.heap.size + 1 + 1) 41 #[Value.int .i64 g, .int .i64 o, .int .i64 s, .int .i64 c, .int .i64 d] ∧ Below w.heap.size w (((w.alloc (.cells #[Value.slice fA pf.length fc, .int .i64 vf, .slice fP zf.length fd] 40)).alloc (.cells #[Value.slice gA pt.length gc, .int .i64 vt, .slice gP zt.length gd] 40)).alloc (.cells #[Value.int .i64 g, .int .i64 o, .int .i64 s, .int .i64 c, .int .i64 d] 41)) := ⟨((Blk.new w _ _).alloc _).alloc _, (blk_new (by simp)).alloc _, blk_new (by simp), bel_alloc (bel_alloc (bel_alloc (Below.refl _ _) _) _) _⟩
  rcases szR_two pf.length zf.length pt.length zt.length with hz | ⟨hz, hz', hnf', hmf', hy | ⟨hy, hnt', hmt'⟩⟩
  · clear hPf hQf hPt hQt
    have ca := hBa.cell
    go_enter Try.func4, Try.ntmps4
    go_wp2_with fail
    refine (l_szReach fA pf.length fc vf fP zf.length fd _ _ (by omega) (by omega) hnf hmf).mono ?_; rintro e w1 ⟨rfl, hb1⟩
    clear ca
    go_wp2
    go_ret
    exact ⟨rfl, bel_step hW hb1⟩
  · clear hPf hQf hPt hQt
    have cb := hBb.cell
    have ca := hBa.cell
    go_enter Try.func4, Try.ntmps4
    go_wp2_with fail
    refine (l_szReach fA pf.length fc vf fP zf.length fd _ _ (by omega) (by omega) hnf hmf).mono ?_; rintro e w1 ⟨rfl, hb1⟩
    replace hBb := hBb.bel hb1
    replace hW := bel_step hW hb1
    clear hb1
    have cb1 := hBb.cell
    clear cb ca
    go_wp2_with fail
    refine (l_szReach gA pt.length gc vt gP zt.length gd _ _ hz hz' hnt hmt).mono ?_; rintro e w2 ⟨rfl, hb2⟩
    go_wp2
    go_ret
    exact ⟨rfl, bel_step hW hb2⟩
  · have HTf := Lib.hid (l_toReachO fA fc pf vf fP fd zf w hPf hQf hnf' hmf')
    have HTt := Lib.hid (l_toReachO gA gc pt vt gP gd zt w hPt hQt hnt' hmt')
    clear hPf hQf hPt hQt
    obtain ⟨vo, vp, zp, no, hzp, HS0, HI0⟩ := FnExactLetThrough_both pf vf zf pt vt zt g o s c d hnf' hmf' hnt' hmt'
    have HS := Lib.hid (rx_call (args := fun tA tc pA pc tB td pB pd => #[.agg #[.slice tA pf.length tc, .int .i64 vf, .slice pA zf.length pc], .agg #[.slice tB pt.length td, .int .i64 vt, .slice pB zt.length pd], .agg #[Value.int .i64 g, .int .i64 o, .int .i64 s, .int .i64 c, .int .i64 d]]) (post := fun W => PassOut W pf vo zf pt vp zp no) HS0)
    have HI := Lib.hid (rx_call (args := fun tA tc pA pc tB td pB pd => #[.agg #[.slice tA pf.length tc, .int .i64 vf, .slice pA zf.length pc], .agg #[.slice tB pt.length td, .int .i64 vt, .slice pB zt.length pd], .agg #[Value.int .i64 g, .int .i64 o, .int .i64 s, .int .i64 c, .int .i64 d]]) (post := fun W => PassOut W pf vo zf pt vp zp no) HI0)
    clear HS0 HI0
    have HWr := Lib.hid (fun (W : World) => l_toWeir g o s c d W)
    have ca := hBa.cell
    go_enter Try.func4, Try.ntmps4
    go_wp2_with fail
    refine (l_szReach fA pf.length fc vf fP zf.length fd _ _ (by omega) (by omega) hnf hmf).mono ?_; rintro e w1 ⟨rfl, hb1⟩
    replace hBa := hBa.bel hb1
    replace hBb := hBb.bel hb1
    replace hBc := hBc.bel hb1
    replace hW := bel_step hW hb1
    clear hb1 ca
    have chBb := hBb.cell
    go_wp2_with fail
    refine (l_szReach gA pt.length gc vt gP zt.length gd _ _ hz hz' hnt hmt).mono ?_; rintro e w2 ⟨rfl, hb2⟩
    clear chBb
    replace hBa := hBa.bel hb2
    replace hBb := hBb.bel hb2
    replace hBc := hBc.bel hb2
    replace hW := bel_step hW hb2
    clear hb2
    clear hnf hmf hnt hmt
    have la0 := hBa.lt
    have lb0 := hBb.lt
    have lc0 := hBc.lt
    go_upto_region 8 with (fail)
    go_cut [8, 9, 10] (fun s10 s11 s12 wy => Two2 w2 pf vo zf pt vp zp no s10 s11 s12 wy)
    case first =>
      refine with_frame [33, 34, 35, 36, 37, 38, 39, 32, 40, 41, 42, 8, 9, 10] (fun Fr hFr => ?_)
      have HFr := fun (u0 u1 u2 u3 u4 u5 u6 u7 u8 u9 u10 u11 u12 u15 : Value) => hFr [u0, u1, u2, u3, u4, u5, u6, u7, u8, u9, u10, u11, u12, u15]
      clear hFr
      simp only [List.zip_cons_cons, List.zip_nil_right, putAll, Act.put, List.setIfInBounds_toArray, List.set_cons_zero, List.set_cons_succ] at HFr
      have HFR := Lib.hid HFr
      clear HFr
      have HC0 := Lib.hid (fun (V : World) (hb : Below w2.heap.size w2 V) (k : Nat) => (show V.cell? ⟨w.heap.size, k, none⟩ = #[Value.slice fA pf.length fc, .int .i64 vf, .slice fP zf.length fd][k]? from (hb.cell (p := ⟨w.heap.size, k, none⟩) hBa.lt).trans (hBa.cell k)))
      have HC1 := Lib.hid (fun (V : World) (hb : Below w2.heap.size w2 V) (k : Nat) => (show V.cell? ⟨(w.heap.size + 1), k, none⟩ = #[Value.slice gA pt.length gc, .int .i64 vt, .slice gP zt.length gd][k]? from (hb.cell (p := ⟨(w.heap.size + 1), k, none⟩) hBb.lt).trans (hBb.cell k)))
      have HC2 := Lib.hid (fun (V : World) (hb : Below w2.heap.size w2 V) (k : Nat) => (show V.cell? ⟨(w.heap.size + 1 + 1), k, none⟩ = #[Value.int .i64 g, .int .i64 o, .int .i64 s, .int .i64 c, .int .i64 d][k]? from (hb.cell (p := ⟨(w.heap.size + 1 + 1), k, none⟩) hBc.lt).trans (hBc.cell k)))
      refine wp_region_inv (fun (listed : Array Bool) (a : Act) (W : World) => ∃ (b : Reg8B) (u : Reg8U) (x : Reg8X), listed = #[b.l0, b.l1, b.l2, b.l3, b.l4, b.l5, b.l6, b.l7, b.l8, b.l9, b.l10, b.l11, b.l12, b.l13, b.l14, b.l15] ∧ a = Fr [u.u0, u.u1, u.u2, u.u3, u.u4, u.u5, u.u6, u.u7, u.u8, u.u9, u.u10, u.u11, u.u12, u.u15] ∧ Reg8 w2 (.agg #[Value.slice fA pf.length fc, .int .i64 vf, .slice fP zf.length fd]) (.agg #[Value.slice gA pt.length gc, .int .i64 vt, .slice gP zt.length gd]) (.agg #[Value.int .i64 g, .int .i64 o, .int .i64 s, .int .i64 c, .int .i64 d]) pf vf zf pt vt zt vo vp zp no b u x W) (by kernel_rfl) (by kernel_rfl) ?_ ?_ ?_
      · exact ⟨⟨false, false, false, false, false, false, false, false, false, false, false, false, false, false, false, false⟩, ⟨_, _, _, _, _, _, _, _, _, _, _, _, _, _⟩, ⟨none, 0, none, 0, none, 0, none, 0, none, 0, none, 0, none, 0, none, 0, 0, 0, 0, 0, 0, 0⟩, rfl, (HFR.out _ _ _ _ _ _ _ _ _ _ _ _ _ _).symm, ⟨(Below.refl _ _).drew, (fun h => nomatch h), (fun h => nomatch h), (fun h => nomatch h), (fun h => nomatch h), (fun h => nomatch h), (fun h => nomatch h), (fun h => nomatch h), (fun h => nomatch h), (fun h => nomatch h), (fun h => nomatch h), (fun h => nomatch h), (fun h => nomatch h), (fun h => nomatch h), (fun h => nomatch h), (fun h => nomatch h), (fun h => nomatch h), (fun h => nomatch h), (fun h => nomatch h), (fun h => nomatch h), (fun h => nomatch h), (fun h => nomatch h), (fun h => nomatch h), (fun h => nomatch h), (fun h => nomatch h)⟩⟩
      · refine Steps.cons ?_ (Steps.cons ?_ (Steps.cons ?_ (Steps.cons ?_ (Steps.cons ?_ (Steps.cons ?_ (Steps.cons ?_ (Steps.cons ?_ (Steps.cons ?_ (Steps.cons ?_ (Steps.cons ?_ (Steps.cons ?_ (Steps.cons ?_ (Steps.cons ?_ (Steps.cons ?_ (Steps.cons ?_ Steps.nil)))))))))))))))
        · intro listed a W hJ hi hp K hK
          obtain ⟨b, ⟨u0, u1, u2, u3, u4, u5, u6, u7, u8, u9, u10, u11, u12, u15⟩, ⟨t0, c0, p0, d0, t1, c1, p1, d1, tx, cx, px, dx, ty, cy, py, dy, lo1, hi1, lo2, hi2, g1, g2⟩, rfl, rfl, hR⟩ := hJ
          dsimp only at hi hp
          have hi0 : b.l0 = false := by simpa using hi
          simp [Region.binds] at hp
          clear hi
          go_split_ands
          have hc := HC0.out W hR.hB
          rw [HFR.out]
          go_simp
          exact hK.out _ _ ⟨{ b with l0 := true }, ⟨_, _, _, _, _, _, _, _, _, _, _, _, _, _⟩, ⟨t0, c0, p0, d0, t1, c1, p1, d1, tx, cx, px, dx, ty, cy, py, dy, lo1, hi1, lo2, hi2, g1, g2⟩, rfl, (HFR.out _ _ _ _ _ _ _ _ _ _ _ _ _ _).symm, ⟨hR.hB, (fun _ => rfl), (hR.f1), (hR.r1), (hR.f2), (hR.f3), (hR.r3), (hR.f4), (hR.f5), (hR.f6), (hR.r6), (hR.f7), (hR.f8), (hR.f9), (hR.f10), (hR.f11), (hR.b11), (hR.d11), (hR.f12), (hR.b12), (hR.d12), (hR.f13), (hR.f14), (hR.f15), (hR.ne)⟩⟩
        · intro listed a W hJ hi hp K hK
          obtain ⟨b, ⟨u0, u1, u2, u3, u4, u5, u6, u7, u8, u9, u10, u11, u12, u15⟩, ⟨t0, c0, p0, d0, t1, c1, p1, d1, tx, cx, px, dx, ty, cy, py, dy, lo1, hi1, lo2, hi2, g1, g2⟩, rfl, rfl, hR⟩ := hJ
          dsimp only at hi hp
          have hi0 : b.l1 = false := by simpa using hi
          simp [Region.binds] at hp
          clear hi
          go_split_ands
          have eq_ := hR.f0 (by assumption)
          try dsimp only at eq_
          obtain rfl := eq_
          rw [HFR.out]
          go_simp
          refine (HTf.out _ (bel_step hW hR.hB)).mono ?_; rintro e w7 ⟨y1, y2, y3, y4, rfl, hR7, hS7, hb7⟩
          exact hK.out _ _ ⟨{ b with l1 := true }, ⟨_, _, _, _, _, _, _, _, _, _, _, _, _, _⟩, ⟨y1, y2, y3, y4, t1, c1, p1, d1, tx, cx, px, dx, ty, cy, py, dy, lo1, hi1, lo2, hi2, g1, g2⟩, rfl, (HFR.out _ _ _ _ _ _ _ _ _ _ _ _ _ _).symm, ⟨(bel_step hR.hB hb7), (hR.f0), (fun _ => rfl), (fun _ _ => (RO.out_ hR7 hS7).rx), (hR.f2), (hR.f3), (fun h h2 => (hR.r3 h h2).bel hb7), (hR.f4), (hR.f5), (hR.f6), (fun h => ⟨(hR.r6 h).1.bel hb7, (hR.r6 h).2.1.bel hb7, (hR.r6 h).2.2⟩), (hR.f7), (hR.f8), (hR.f9), (hR.f10), (hR.f11), (fun h => (hR.b11 h).bel hb7), (hR.d11), (hR.f12), (fun h => (hR.b12 h).bel hb7), (hR.d12), (hR.f13), (hR.f14), (hR.f15), (hR.ne)⟩⟩
        · intro listed a W hJ hi hp K hK
          obtain ⟨b, ⟨u0, u1, u2, u3, u4, u5, u6, u7, u8, u9, u10, u11, u12, u15⟩, ⟨t0, c0, p0, d0, t1, c1, p1, d1, tx, cx, px, dx, ty, cy, py, dy, lo1, hi1, lo2, hi2, g1, g2⟩, rfl, rfl, hR⟩ := hJ
          dsimp only at hi hp
          have hi0 : b.l2 = false := by simpa using hi
          simp [Region.binds] at hp
          clear hi
          go_split_ands
          have hc := HC1.out W hR.hB
          rw [HFR.out]
          go_simp
          exact hK.out _ _ ⟨{ b with l2 := true }, ⟨_, _, _, _, _, _, _, _, _, _, _, _, _, _⟩, ⟨t0, c0, p0, d0, t1, c1, p1, d1, tx, cx, px, dx, ty, cy, py, dy, lo1, hi1, lo2, hi2, g1, g2⟩, rfl, (HFR.out _ _ _ _ _ _ _ _ _ _ _ _ _ _).symm, ⟨hR.hB, (hR.f0), (hR.f1), (hR.r1), (fun _ => rfl), (hR.f3), (hR.r3), (hR.f4), (hR.f5), (hR.f6), (hR.r6), (hR.f7), (hR.f8), (hR.f9), (hR.f10), (hR.f11), (hR.b11), (hR.d11), (hR.f12), (hR.b12), (hR.d12), (hR.f13), (hR.f14), (hR.f15), (hR.ne)⟩⟩
        · intro listed a W hJ hi hp K hK
          obtain ⟨b, ⟨u0, u1, u2, u3, u4, u5, u6, u7, u8, u9, u10, u11, u12, u15⟩, ⟨t0, c0, p0, d0, t1, c1, p1, d1, tx, cx, px, dx, ty, cy, py, dy, lo1, hi1, lo2, hi2, g1, g2⟩, rfl, rfl, hR⟩ := hJ
          dsimp only at hi hp
          have hi0 : b.l3 = false := by simpa using hi
          simp [Region.binds] at hp
          clear hi
          go_split_ands
          have eq_ := hR.f2 (by assumption)
          try dsimp only at eq_
          obtain rfl := eq_
          rw [HFR.out]
          go_simp
          refine (HTt.out _ (bel_step hW hR.hB)).mono ?_; rintro e w7 ⟨y1, y2, y3, y4, rfl, hR7, hS7, hb7⟩
          exact hK.out _ _ ⟨{ b with l3 := true }, ⟨_, _, _, _, _, _, _, _, _, _, _, _, _, _⟩, ⟨t0, c0, p0, d0, y1, y2, y3, y4, tx, cx, px, dx, ty, cy, py, dy, lo1, hi1, lo2, hi2, g1, g2⟩, rfl, (HFR.out _ _ _ _ _ _ _ _ _ _ _ _ _ _).symm, ⟨(bel_step hR.hB hb7), (hR.f0), (hR.f1), (fun h h2 => (hR.r1 h h2).bel hb7), (hR.f2), (fun _ => rfl), (fun _ _ => (RO.out_ hR7 hS7).rx), (hR.f4), (hR.f5), (hR.f6), (fun h => ⟨(hR.r6 h).1.bel hb7, (hR.r6 h).2.1.bel hb7, (hR.r6 h).2.2⟩), (hR.f7), (hR.f8), (hR.f9), (hR.f10), (hR.f11), (fun h => (hR.b11 h).bel hb7), (hR.d11), (hR.f12), (fun h => (hR.b12 h).bel hb7), (hR.d12), (hR.f13), (hR.f14), (hR.f15), (hR.ne)⟩⟩
        · intro listed a W hJ hi hp K hK
          obtain ⟨b, ⟨u0, u1, u2, u3, u4, u5, u6, u7, u8, u9, u10, u11, u12, u15⟩, ⟨t0, c0, p0, d0, t1, c1, p1, d1, tx, cx, px, dx, ty, cy, py, dy, lo1, hi1, lo2, hi2, g1, g2⟩, rfl, rfl, hR⟩ := hJ
          dsimp only at hi hp
          have hi0 : b.l4 = false := by simpa using hi
          simp [Region.binds] at hp
          clear hi
          go_split_ands
          have hc := HC2.out W hR.hB
          rw [HFR.out]
          go_simp
          exact hK.out _ _ ⟨{ b with l4 := true }, ⟨_, _, _, _, _, _, _, _, _, _, _, _, _, _⟩, ⟨t0, c0, p0, d0, t1, c1, p1, d1, tx, cx, px, dx, ty, cy, py, dy, lo1, hi1, lo2, hi2, g1, g2⟩, rfl, (HFR.out _ _ _ _ _ _ _ _ _ _ _ _ _ _).symm, ⟨hR.hB, (hR.f0), (hR.f1), (hR.r1), (hR.f2), (hR.f3), (hR.r3), (fun _ => rfl), (hR.f5), (hR.f6), (hR.r6), (hR.f7), (hR.f8), (hR.f9), (hR.f10), (hR.f11), (hR.b11), (hR.d11), (hR.f12), (hR.b12), (hR.d12), (hR.f13), (hR.f14), (hR.f15), (hR.ne)⟩⟩
        · intro listed a W hJ hi hp K hK
          obtain ⟨b, ⟨u0, u1, u2, u3, u4, u5, u6, u7, u8, u9, u10, u11, u12, u15⟩, ⟨t0, c0, p0, d0, t1, c1, p1, d1, tx, cx, px, dx, ty, cy, py, dy, lo1, hi1, lo2, hi2, g1, g2⟩, rfl, rfl, hR⟩ := hJ
          dsimp only at hi hp
          have hi0 : b.l5 = false := by simpa using hi
          simp [Region.binds] at hp
          clear hi
          go_split_ands
          have eq_ := hR.f4 (by assumption)
          try dsimp only at eq_
          obtain rfl := eq_
          rw [HFR.out]
          go_simp
          refine (HWr.out W).mono ?_; rintro e w7 ⟨rfl, hb7⟩
          exact hK.out _ _ ⟨{ b with l5 := true }, ⟨_, _, _, _, _, _, _, _, _, _, _, _, _, _⟩, ⟨t0, c0, p0, d0, t1, c1, p1, d1, tx, cx, px, dx, ty, cy, py, dy, lo1, hi1, lo2, hi2, g1, g2⟩, rfl, (HFR.out _ _ _ _ _ _ _ _ _ _ _ _ _ _).symm, ⟨(bel_step hR.hB hb7), (hR.f0), (hR.f1), (fun h h2 => (hR.r1 h h2).bel hb7), (hR.f2), (hR.f3), (fun h h2 => (hR.r3 h h2).bel hb7), (hR.f4), (fun _ => rfl), (hR.f6), (fun h => ⟨(hR.r6 h).1.bel hb7, (hR.r6 h).2.1.bel hb7, (hR.r6 h).2.2⟩), (hR.f7), (hR.f8), (hR.f9), (hR.f10), (hR.f11), (fun h => (hR.b11 h).bel hb7), (hR.d11), (hR.f12), (fun h => (hR.b12 h).bel hb7), (hR.d12), (hR.f13), (hR.f14), (hR.f15), (hR.ne)⟩⟩
        · intro listed a W hJ hi hp K hK
          obtain ⟨b, ⟨u0, u1, u2, u3, u4, u5, u6, u7, u8, u9, u10, u11, u12, u15⟩, ⟨t0, c0, p0, d0, t1, c1, p1, d1, tx, cx, px, dx, ty, cy, py, dy, lo1, hi1, lo2, hi2, g1, g2⟩, rfl, rfl, hR⟩ := hJ
          dsimp only at hi hp
          have hi0 : b.l6 = false := by simpa using hi
          simp [Region.binds] at hp
          clear hi
          go_split_ands
          have eq_ := hR.f1 (by assumption)
          try dsimp only at eq_
          obtain rfl := eq_
          have eq_ := hR.f3 (by assumption)
          try dsimp only at eq_
          obtain rfl := eq_
          have eq_ := hR.f5 (by assumption)
          try dsimp only at eq_
          obtain rfl := eq_
          have es1 : b.l13 = false := by rcases bcases b.l13 with e | e; exact absurd (hi0.symm.trans (hR.f13 e).1) (by decide); exact e
          have es2 : b.l14 = false := by rcases bcases b.l14 with e | e; exact absurd (hi0.symm.trans (hR.f14 e).1) (by decide); exact e
          rw [HFR.out]
          go_simp
          refine (HS.out _ _ _ _ _ _ _ _ _ (hR.r1 (by assumption) (by assumption)) (hR.r3 (by assumption) (by assumption))).mono ?_; rintro e w9 ⟨y1, y2, y3, y4, z1, z2, z3, z4, q1, q2, q3, q4, rfl, P1, P2, hd, hl1, hl2, hb9⟩
          have hsz := hR.hB.size
          exact hK.out _ _ ⟨{ b with l6 := true }, ⟨_, _, _, _, _, _, _, _, _, _, _, _, _, _⟩, ⟨t0, c0, p0, d0, t1, c1, p1, d1, y1, y2, y3, y4, z1, z2, z3, z4, q1, q2, q3, q4, g1, g2⟩, rfl, (HFR.out _ _ _ _ _ _ _ _ _ _ _ _ _ _).symm, ⟨(bel_step hR.hB hb9), (hR.f0), (hR.f1), (fun _ h2 => absurd (show true = false from h2) (by decide)), (hR.f2), (hR.f3), (fun _ h2 => absurd (show true = false from h2) (by decide)), (hR.f4), (hR.f5), (fun _ => rfl), (fun _ => ⟨P1, P2, hd, Nat.le_trans hsz hl1, Nat.le_trans hsz hl2⟩), (fun h => absurd (hi0.symm.trans (hR.f7 h).1) (by decide)), (fun h => absurd (hi0.symm.trans (hR.f8 h).1) (by decide)), (fun h => absurd (hi0.symm.trans (hR.f9 h).1) (by decide)), (fun h => absurd (hi0.symm.trans (hR.f10 h).1) (by decide)), (hR.f11), (fun h => by have hh := (hR.b11 h).bel hb9; rw [es1] at hh; show Blk w9 g1 32 (bif b.l13 then _ else _); rw [es1]; exact hh), (fun h _ => ⟨.inl (Nat.lt_of_lt_of_le (hR.b11 h).lt hl1), .inl (Nat.lt_of_lt_of_le (hR.b11 h).lt hl2)⟩), (hR.f12), (fun h => by have hh := (hR.b12 h).bel hb9; rw [es2] at hh; show Blk w9 g2 32 (bif b.l14 then _ else _); rw [es2]; exact hh), (fun h _ => ⟨.inl (Nat.lt_of_lt_of_le (hR.b12 h).lt hl1), .inl (Nat.lt_of_lt_of_le (hR.b12 h).lt hl2)⟩), (fun h => absurd (hi0.symm.trans (hR.f13 h).1) (by decide)), (fun h => absurd (hi0.symm.trans (hR.f14 h).1) (by decide)), (fun h => absurd (hi0.symm.trans (hR.f15 h).1) (by decide)), (hR.ne)⟩⟩
        · intro listed a W hJ hi hp K hK
          obtain ⟨b, ⟨u0, u1, u2, u3, u4, u5, u6, u7, u8, u9, u10, u11, u12, u15⟩, ⟨t0, c0, p0, d0, t1, c1, p1, d1, tx, cx, px, dx, ty, cy, py, dy, lo1, hi1, lo2, hi2, g1, g2⟩, rfl, rfl, hR⟩ := hJ
          dsimp only at hi hp
          have hi0 : b.l7 = false := by simpa using hi
          simp [Region.binds] at hp
          clear hi
          go_split_ands
          have hf : b.l6 = true := by assumption
          have eq_ := hR.f6 hf
          try dsimp only at eq_
          obtain rfl := eq_
          rw [HFR.out]
          go_simp
          exact hK.out _ _ ⟨{ b with l7 := true }, ⟨_, _, _, _, _, _, _, _, _, _, _, _, _, _⟩, ⟨t0, c0, p0, d0, t1, c1, p1, d1, tx, cx, px, dx, ty, cy, py, dy, lo1, hi1, lo2, hi2, g1, g2⟩, rfl, (HFR.out _ _ _ _ _ _ _ _ _ _ _ _ _ _).symm, ⟨hR.hB, (hR.f0), (hR.f1), (hR.r1), (hR.f2), (hR.f3), (hR.r3), (hR.f4), (hR.f5), (hR.f6), (hR.r6), (fun _ => ⟨hf, rfl⟩), (hR.f8), (hR.f9), (hR.f10), (hR.f11), (hR.b11), (hR.d11), (hR.f12), (hR.b12), (hR.d12), (hR.f13), (hR.f14), (hR.f15), (hR.ne)⟩⟩
        · intro listed a W hJ hi hp K hK
          obtain ⟨b, ⟨u0, u1, u2, u3, u4, u5, u6, u7, u8, u9, u10, u11, u12, u15⟩, ⟨t0, c0, p0, d0, t1, c1, p1, d1, tx, cx, px, dx, ty, cy, py, dy, lo1, hi1, lo2, hi2, g1, g2⟩, rfl, rfl, hR⟩ := hJ
          dsimp only at hi hp
          have hi0 : b.l8 = false := by simpa using hi
          simp [Region.binds] at hp
          clear hi
          go_split_ands
          have eq_ := hR.f7 (by assumption)
          try dsimp only at eq_
          obtain ⟨hf, rfl⟩ := eq_
          rw [HFR.out]
          go_simp
          exact hK.out _ _ ⟨{ b with l8 := true }, ⟨_, _, _, _, _, _, _, _, _, _, _, _, _, _⟩, ⟨t0, c0, p0, d0, t1, c1, p1, d1, tx, cx, px, dx, ty, cy, py, dy, lo1, hi1, lo2, hi2, g1, g2⟩, rfl, (HFR.out _ _ _ _ _ _ _ _ _ _ _ _ _ _).symm, ⟨hR.hB, (hR.f0), (hR.f1), (hR.r1), (hR.f2), (hR.f3), (hR.r3), (hR.f4), (hR.f5), (hR.f6), (hR.r6), (hR.f7), (fun _ => ⟨hf, rfl⟩), (hR.f9), (hR.f10), (hR.f11), (hR.b11), (hR.d11), (hR.f12), (hR.b12), (hR.d12), (hR.f13), (hR.f14), (hR.f15), (hR.ne)⟩⟩
        · intro listed a W hJ hi hp K hK
          obtain ⟨b, ⟨u0, u1, u2, u3, u4, u5, u6, u7, u8, u9, u10, u11, u12, u15⟩, ⟨t0, c0, p0, d0, t1, c1, p1, d1, tx, cx, px, dx, ty, cy, py, dy, lo1, hi1, lo2, hi2, g1, g2⟩, rfl, rfl, hR⟩ := hJ
          dsimp only at hi hp
          have hi0 : b.l9 = false := by simpa using hi
          simp [Region.binds] at hp
          clear hi
          go_split_ands
          have eq_ := hR.f7 (by assumption)
          try dsimp only at eq_
          obtain ⟨hf, rfl⟩ := eq_
          rw [HFR.out]
          go_simp
          exact hK.out _ _ ⟨{ b with l9 := true }, ⟨_, _, _, _, _, _, _, _, _, _, _, _, _, _⟩, ⟨t0, c0, p0, d0, t1, c1, p1, d1, tx, cx, px, dx, ty, cy, py, dy, lo1, hi1, lo2, hi2, g1, g2⟩, rfl, (HFR.out _ _ _ _ _ _ _ _ _ _ _ _ _ _).symm, ⟨hR.hB, (hR.f0), (hR.f1), (hR.r1), (hR.f2), (hR.f3), (hR.r3), (hR.f4), (hR.f5), (hR.f6), (hR.r6), (hR.f7), (hR.f8), (fun _ => ⟨hf, rfl⟩), (hR.f10), (hR.f11), (hR.b11), (hR.d11), (hR.f12), (hR.b12), (hR.d12), (hR.f13), (hR.f14), (hR.f15), (hR.ne)⟩⟩
        · intro listed a W hJ hi hp K hK
          obtain ⟨b, ⟨u0, u1, u2, u3, u4, u5, u6, u7, u8, u9, u10, u11, u12, u15⟩, ⟨t0, c0, p0, d0, t1, c1, p1, d1, tx, cx, px, dx, ty, cy, py, dy, lo1, hi1, lo2, hi2, g1, g2⟩, rfl, rfl, hR⟩ := hJ
          dsimp only at hi hp
          have hi0 : b.l10 = false := by simpa using hi
          simp [Region.binds] at hp
          clear hi
          go_split_ands
          have eq_ := hR.f7 (by assumption)
          try dsimp only at eq_
          obtain ⟨hf, rfl⟩ := eq_
          rw [HFR.out]
          go_simp
          exact hK.out _ _ ⟨{ b with l10 := true }, ⟨_, _, _, _, _, _, _, _, _, _, _, _, _, _⟩, ⟨t0, c0, p0, d0, t1, c1, p1, d1, tx, cx, px, dx, ty, cy, py, dy, lo1, hi1, lo2, hi2, g1, g2⟩, rfl, (HFR.out _ _ _ _ _ _ _ _ _ _ _ _ _ _).symm, ⟨hR.hB, (hR.f0), (hR.f1), (hR.r1), (hR.f2), (hR.f3), (hR.r3), (hR.f4), (hR.f5), (hR.f6), (hR.r6), (hR.f7), (hR.f8), (hR.f9), (fun _ => ⟨hf, rfl⟩), (hR.f11), (hR.b11), (hR.d11), (hR.f12), (hR.b12), (hR.d12), (hR.f13), (hR.f14), (hR.f15), (hR.ne)⟩⟩
        · intro listed a W hJ hi hp K hK
          obtain ⟨b, ⟨u0, u1, u2, u3, u4, u5, u6, u7, u8, u9, u10, u11, u12, u15⟩, ⟨t0, c0, p0, d0, t1, c1, p1, d1, tx, cx, px, dx, ty, cy, py, dy, lo1, hi1, lo2, hi2, g1, g2⟩, rfl, rfl, hR⟩ := hJ
          dsimp only at hi hp
          have hi0 : b.l11 = false := by simpa using hi
          simp [Region.binds] at hp
          clear hi
          go_split_ands
          have hba : Below W.heap.size W (W.alloc (.cells #[Value.slice none 0 0, .int .i64 0, .slice none 0 0] 32)) := (Below.refl _ _).alloc (Nat.le_refl _) _
          have hsz := hR.hB.size
          have es : b.l13 = false := by rcases bcases b.l13 with e | e; exact absurd (hi0.symm.trans (hR.f13 e).2) (by decide); exact e
          rw [HFR.out]
          go_simp
          exact hK.out _ _ ⟨{ b with l11 := true }, ⟨_, _, _, _, _, _, _, _, _, _, _, _, _, _⟩, ⟨t0, c0, p0, d0, t1, c1, p1, d1, tx, cx, px, dx, ty, cy, py, dy, lo1, hi1, lo2, hi2, W.heap.size, g2⟩, rfl, (HFR.out _ _ _ _ _ _ _ _ _ _ _ _ _ _).symm, ⟨(bel_step hR.hB hba), (hR.f0), (hR.f1), (fun h h2 => (hR.r1 h h2).bel hba), (hR.f2), (hR.f3), (fun h h2 => (hR.r3 h h2).bel hba), (hR.f4), (hR.f5), (hR.f6), (fun h => ⟨(hR.r6 h).1.bel hba, (hR.r6 h).2.1.bel hba, (hR.r6 h).2.2⟩), (hR.f7), (hR.f8), (hR.f9), (hR.f10), (fun _ => ⟨rfl, hsz⟩), (fun _ => by show Blk (W.alloc (.cells #[Value.slice none 0 0, .int .i64 0, .slice none 0 0] 32)) W.heap.size 32 (bif b.l13 then _ else _); rw [es]; exact Blk.new _ _ _), (fun _ h => ⟨.inr (hR.r6 h).1.2.2, .inr (hR.r6 h).2.1.2.2⟩), (hR.f12), (fun h => (hR.b12 h).bel hba), (hR.d12), (fun h => ⟨(hR.f13 h).1, rfl⟩), (hR.f14), (hR.f15), (fun _ h => Nat.ne_of_gt (hR.b12 h).lt)⟩⟩
        · intro listed a W hJ hi hp K hK
          obtain ⟨b, ⟨u0, u1, u2, u3, u4, u5, u6, u7, u8, u9, u10, u11, u12, u15⟩, ⟨t0, c0, p0, d0, t1, c1, p1, d1, tx, cx, px, dx, ty, cy, py, dy, lo1, hi1, lo2, hi2, g1, g2⟩, rfl, rfl, hR⟩ := hJ
          dsimp only at hi hp
          have hi0 : b.l12 = false := by simpa using hi
          simp [Region.binds] at hp
          clear hi
          go_split_ands
          have hba : Below W.heap.size W (W.alloc (.cells #[Value.slice none 0 0, .int .i64 0, .slice none 0 0] 32)) := (Below.refl _ _).alloc (Nat.le_refl _) _
          have hsz := hR.hB.size
          have es : b.l14 = false := by rcases bcases b.l14 with e | e; exact absurd (hi0.symm.trans (hR.f14 e).2) (by decide); exact e
          rw [HFR.out]
          go_simp
          exact hK.out _ _ ⟨{ b with l12 := true }, ⟨_, _, _, _, _, _, _, _, _, _, _, _, _, _⟩, ⟨t0, c0, p0, d0, t1, c1, p1, d1, tx, cx, px, dx, ty, cy, py, dy, lo1, hi1, lo2, hi2, g1, W.heap.size⟩, rfl, (HFR.out _ _ _ _ _ _ _ _ _ _ _ _ _ _).symm, ⟨(bel_step hR.hB hba), (hR.f0), (hR.f1), (fun h h2 => (hR.r1 h h2).bel hba), (hR.f2), (hR.f3), (fun h h2 => (hR.r3 h h2).bel hba), (hR.f4), (hR.f5), (hR.f6), (fun h => ⟨(hR.r6 h).1.bel hba, (hR.r6 h).2.1.bel hba, (hR.r6 h).2.2⟩), (hR.f7), (hR.f8), (hR.f9), (hR.f10), (hR.f11), (fun h => (hR.b11 h).bel hba), (hR.d11), (fun _ => ⟨rfl, hsz⟩), (fun _ => by show Blk (W.alloc (.cells #[Value.slice none 0 0, .int .i64 0, .slice none 0 0] 32)) W.heap.size 32 (bif b.l14 then _ else _); rw [es]; exact Blk.new _ _ _), (fun _ h => ⟨.inr (hR.r6 h).1.2.2, .inr (hR.r6 h).2.1.2.2⟩), (hR.f13), (fun h => ⟨(hR.f14 h).1, rfl⟩), (hR.f15), (fun h _ => Nat.ne_of_lt (hR.b11 h).lt)⟩⟩
        · intro listed a W hJ hi hp K hK
          obtain ⟨b, ⟨u0, u1, u2, u3, u4, u5, u6, u7, u8, u9, u10, u11, u12, u15⟩, ⟨t0, c0, p0, d0, t1, c1, p1, d1, tx, cx, px, dx, ty, cy, py, dy, lo1, hi1, lo2, hi2, g1, g2⟩, rfl, rfl, hR⟩ := hJ
          dsimp only at hi hp
          have hi0 : b.l13 = false := by simpa using hi
          simp [Region.binds] at hp
          clear hi
          go_split_ands
          have eq_ := hR.f8 (by assumption)
          try dsimp only at eq_
          obtain ⟨hf, rfl⟩ := eq_
          have ha : b.l11 = true := by assumption
          have eq_ := hR.f11 ha
          try dsimp only at eq_
          obtain ⟨rfl, hg⟩ := eq_
          have hk := hR.b11 ha
          rw [hi0] at hk
          replace hk : Blk W g1 32 #[Value.slice none 0 0, .int .i64 0, .slice none 0 0] := hk
          have hc := hk.cell
          have hfz := hk.frozen
          have hlt := hk.lt
          obtain ⟨ro1, ro2, ro3, ro4, ro5⟩ := hR.r6 hf
          obtain ⟨dd1, dd2⟩ := hR.d11 ha hf
          rw [HFR.out]
          go_simp
          exact hK.out _ _ ⟨{ b with l13 := true }, ⟨_, _, _, _, _, _, _, _, _, _, _, _, _, _⟩, ⟨t0, c0, p0, d0, t1, c1, p1, d1, tx, cx, px, dx, ty, cy, py, dy, lo1, hi1, lo2, hi2, g1, g2⟩, rfl, (HFR.out _ _ _ _ _ _ _ _ _ _ _ _ _ _).symm, ⟨(bel_three' hR.hB hg), (hR.f0), (hR.f1), (fun _ h2 => absurd (h2.symm.trans hf) (by decide)), (hR.f2), (hR.f3), (fun _ h2 => absurd (h2.symm.trans hf) (by decide)), (hR.f4), (hR.f5), (hR.f6), (fun _ => ⟨ro1.three dd1, ro2.three dd2, ro3, ro4, ro5⟩), (hR.f7), (hR.f8), (hR.f9), (hR.f10), (hR.f11), (fun _ => hk.three), (hR.d11), (hR.f12), (fun h => (hR.b12 h).farn (fun e => hR.ne ha h e.symm)), (hR.d12), (fun _ => ⟨hf, ha⟩), (hR.f14), (hR.f15), (hR.ne)⟩⟩
        · intro listed a W hJ hi hp K hK
          obtain ⟨b, ⟨u0, u1, u2, u3, u4, u5, u6, u7, u8, u9, u10, u11, u12, u15⟩, ⟨t0, c0, p0, d0, t1, c1, p1, d1, tx, cx, px, dx, ty, cy, py, dy, lo1, hi1, lo2, hi2, g1, g2⟩, rfl, rfl, hR⟩ := hJ
          dsimp only at hi hp
          have hi0 : b.l14 = false := by simpa using hi
          simp [Region.binds] at hp
          clear hi
          go_split_ands
          have eq_ := hR.f9 (by assumption)
          try dsimp only at eq_
          obtain ⟨hf, rfl⟩ := eq_
          have ha : b.l12 = true := by assumption
          have eq_ := hR.f12 ha
          try dsimp only at eq_
          obtain ⟨rfl, hg⟩ := eq_
          have hk := hR.b12 ha
          rw [hi0] at hk
          replace hk : Blk W g2 32 #[Value.slice none 0 0, .int .i64 0, .slice none 0 0] := hk
          have hc := hk.cell
          have hfz := hk.frozen
          have hlt := hk.lt
          obtain ⟨ro1, ro2, ro3, ro4, ro5⟩ := hR.r6 hf
          obtain ⟨dd1, dd2⟩ := hR.d12 ha hf
          rw [HFR.out]
          go_simp
          exact hK.out _ _ ⟨{ b with l14 := true }, ⟨_, _, _, _, _, _, _, _, _, _, _, _, _, _⟩, ⟨t0, c0, p0, d0, t1, c1, p1, d1, tx, cx, px, dx, ty, cy, py, dy, lo1, hi1, lo2, hi2, g1, g2⟩, rfl, (HFR.out _ _ _ _ _ _ _ _ _ _ _ _ _ _).symm, ⟨(bel_three' hR.hB hg), (hR.f0), (hR.f1), (fun _ h2 => absurd (h2.symm.trans hf) (by decide)), (hR.f2), (hR.f3), (fun _ h2 => absurd (h2.symm.trans hf) (by decide)), (hR.f4), (hR.f5), (hR.f6), (fun _ => ⟨ro1.three dd1, ro2.three dd2, ro3, ro4, ro5⟩), (hR.f7), (hR.f8), (hR.f9), (hR.f10), (hR.f11), (fun h => (hR.b11 h).farn (fun e => hR.ne h ha e)), (hR.d11), (hR.f12), (fun _ => hk.three), (hR.d12), (hR.f13), (fun _ => ⟨hf, ha⟩), (hR.f15), (hR.ne)⟩⟩
        · intro listed a W hJ hi hp K hK
          obtain ⟨b, ⟨u0, u1, u2, u3, u4, u5, u6, u7, u8, u9, u10, u11, u12, u15⟩, ⟨t0, c0, p0, d0, t1, c1, p1, d1, tx, cx, px, dx, ty, cy, py, dy, lo1, hi1, lo2, hi2, g1, g2⟩, rfl, rfl, hR⟩ := hJ
          dsimp only at hi hp
          have hi0 : b.l15 = false := by simpa using hi
          simp [Region.binds] at hp
          clear hi
          go_split_ands
          have eq_ := hR.f10 (by assumption)
          try dsimp only at eq_
          obtain ⟨hf, rfl⟩ := eq_
          rw [HFR.out]
          go_simp
          exact hK.out _ _ ⟨{ b with l15 := true }, ⟨_, _, _, _, _, _, _, _, _, _, _, _, _, _⟩, ⟨t0, c0, p0, d0, t1, c1, p1, d1, tx, cx, px, dx, ty, cy, py, dy, lo1, hi1, lo2, hi2, g1, g2⟩, rfl, (HFR.out _ _ _ _ _ _ _ _ _ _ _ _ _ _).symm, ⟨hR.hB, (hR.f0), (hR.f1), (hR.r1), (hR.f2), (hR.f3), (hR.r3), (hR.f4), (hR.f5), (hR.f6), (hR.r6), (hR.f7), (hR.f8), (hR.f9), (hR.f10), (hR.f11), (hR.b11), (hR.d11), (hR.f12), (hR.b12), (hR.d12), (hR.f13), (hR.f14), (fun _ => ⟨hf, rfl⟩), (hR.ne)⟩⟩
      · intro a W hJ
        obtain ⟨⟨l0, l1, l2, l3, l4, l5, l6, l7, l8, l9, l10, l11, l12, l13, l14, l15⟩, ⟨u0, u1, u2, u3, u4, u5, u6, u7, u8, u9, u10, u11, u12, u15⟩, ⟨t0, c0, p0, d0, t1, c1, p1, d1, tx, cx, px, dx, ty, cy, py, dy, lo1, hi1, lo2, hi2, g1, g2⟩, hl, rfl, ⟨hB, f0, f1, r1, f2, f3, r3, f4, f5, f6, r6, f7, f8, f9, f10, f11, b11, d11, f12, b12, d12, f13, f14, f15, ne⟩⟩ := hJ
        dsimp only at hl f0 f1 r1 f2 f3 r3 f4 f5 f6 r6 f7 f8 f9 f10 f11 b11 d11 f12 b12 d12 f13 f14 f15 ne
        have hl2 : (#[true, true, true, true, true, true, true, true, true, true, true, true, true, true, true, true] : Array Bool) = #[l0, l1, l2, l3, l4, l5, l6, l7, l8, l9, l10, l11, l12, l13, l14, l15] := hl
        simp only [Array.mk.injEq, List.cons.injEq, and_true] at hl2
        obtain ⟨rfl, rfl, rfl, rfl, rfl, rfl, rfl, rfl, rfl, rfl, rfl, rfl, rfl, rfl, rfl, rfl⟩ := hl2
        clear hl
        obtain ⟨rfl, hg1⟩ := f11 rfl
        obtain ⟨rfl, hg2⟩ := f12 rfl
        obtain ⟨_, rfl⟩ := f15 rfl
        obtain ⟨ro1, ro2, ro3, ro4, ro5⟩ := r6 rfl
        obtain ⟨dd1, dd2⟩ := d11 rfl rfl
        obtain ⟨dd3, dd4⟩ := d12 rfl rfl
        have B1 := b11 rfl
        have B2 := b12 rfl
        clear f0 f1 r1 f2 f3 r3 f4 f5 f6 f7 f8 f9 f10 b11 b12 f13 f14 ne
        rw [HFR.out]
        go_wp2_with fail
        go_meet
        exact ⟨g1, g2, tx, cx, px, dx, ty, cy, py, dy, lo1, hi1, lo2, hi2, rfl, rfl, rfl, hg1, hg2, B1, B2, ro1, ro2, ro3, ro4, ro5, hB, dd1, dd2, dd3, dd4⟩
    case rest =>
      obtain ⟨gw, gv, t3, c3, p3, d3, t33, c33, p33, d33, l3, h3, l33, h33, rfl, rfl, rfl, egw, egv, hBw, hBv, O3, O33, hd3, hl3, hl33, hb3, k3a, k3b, k3c, k3d⟩ := hcut
      replace hBa := hBa.bel hb3
      replace hBb := hBb.bel hb3
      replace hBc := hBc.bel hb3
      replace hW := bel_step hW hb3
      have hs3 := hb3.size
      try simp only [World.size_alloc] at hs3
      clear hb3
      have q3 := O3.2.2
      have q33 := O33.2.2
      have lw3 := hBw.lt
      have lv3 := hBv.lt
      clear HS
      skip
      have chBa := hBa.cell
      go_wp2_with fail
      refine (HTf.out _ hW).mono ?_; rintro e w4 ⟨t4, c4, p4, d4, rfl, hR4, hS4, hb4⟩
      clear chBa
      replace hBa := hBa.bel hb4
      replace hBb := hBb.bel hb4
      replace hBc := hBc.bel hb4
      replace hBw := hBw.bel hb4
      replace hBv := hBv.bel hb4
      replace O3 := O3.bel hb4
      replace O33 := O33.bel hb4
      replace hW := bel_step hW hb4
      have hs4 := hb4.size
      try simp only [World.size_alloc] at hs4
      have O4 := RO.mk_ (lo := wc.heap.size) hR4 hS4 (Nat.le_refl _)
      clear hR4 hS4 hb4
      obtain ⟨hBx, hbb, _⟩ := boxN w4 32 #[Value.slice t4 pf.length c4, .int .i64 vf, .slice p4 zf.length d4]
      replace hBa := hBa.bel hbb
      replace hBb := hBb.bel hbb
      replace hBc := hBc.bel hbb
      replace hBw := hBw.bel hbb
      replace hBv := hBv.bel hbb
      replace O3 := O3.bel hbb
      replace O33 := O33.bel hbb
      replace O4 := O4.bel hbb
      replace hW := bel_step hW hbb
      clear hbb
      have chBb := hBb.cell
      go_wp2_with fail
      refine (HTt.out _ hW).mono ?_; rintro e w5 ⟨t5, c5, p5, d5, rfl, hR5, hS5, hb5⟩
      clear chBb
      replace hBa := hBa.bel hb5
      replace hBb := hBb.bel hb5
      replace hBc := hBc.bel hb5
      replace hBw := hBw.bel hb5
      replace hBv := hBv.bel hb5
      replace hBx := hBx.bel hb5
      replace O3 := O3.bel hb5
      replace O33 := O33.bel hb5
      replace O4 := O4.bel hb5
      replace hW := bel_step hW hb5
      have hs5 := hb5.size
      try simp only [World.size_alloc] at hs5
      have O5 := RO.mk_ (lo := w4.heap.size + 1) hR5 hS5 (by simp)
      clear hR5 hS5 hb5
      obtain ⟨hBy, hbb, _⟩ := boxN w5 32 #[Value.slice t5 pt.length c5, .int .i64 vt, .slice p5 zt.length d5]
      replace hBa := hBa.bel hbb
      replace hBb := hBb.bel hbb
      replace hBc := hBc.bel hbb
      replace hBw := hBw.bel hbb
      replace hBv := hBv.bel hbb
      replace hBx := hBx.bel hbb
      replace O3 := O3.bel hbb
      replace O33 := O33.bel hbb
      replace O4 := O4.bel hbb
      replace O5 := O5.bel hbb
      replace hW := bel_step hW hbb
      clear hbb
      have cBx0 := hBx.cell
      have cBy0 := hBy.cell
      go_upto_region 11 with (fail)
      clear cBx0 cBy0
      have lx := hBx.lt
      have ly := hBy.lt
      simp only [World.size_alloc] at lx ly
      generalize hg5 : w5.alloc (.cells #[Value.slice t5 pt.length c5, .int .i64 vt, .slice p5 zt.length d5] 32) = w5b at *
      have hz5 : w5b.heap.size = w5.heap.size + 1 := by rw [← hg5]; simp
      clear hg5
      have HX4 := O4.rx
      have HX5 := O5.rx
      go_cut [13, 14, 15] (fun s10 s11 s12 wy => Two2 w5b pf vo zf pt vp zp no s10 s11 s12 wy)
      case first =>
        refine with_frame [48, 49, 50, 51, 52, 47, 53, 54, 55, 13, 14, 15] (fun Fr hFr => ?_)
        have HFr := fun (u0 u1 u2 u3 u4 u5 u6 u7 u8 u9 u10 u13 : Value) => hFr [u0, u1, u2, u3, u4, u5, u6, u7, u8, u9, u10, u13]
        clear hFr
        simp only [List.zip_cons_cons, List.zip_nil_right, putAll, Act.put, List.setIfInBounds_toArray, List.set_cons_zero, List.set_cons_succ] at HFr
        have HFR := Lib.hid HFr
        clear HFr
        have HC0 := Lib.hid (fun (V : World) (hb : Below w5b.heap.size w5b V) (k : Nat) => (show V.cell? ⟨w4.heap.size, k, none⟩ = #[Value.slice t4 pf.length c4, .int .i64 vf, .slice p4 zf.length d4][k]? from (hb.cell (p := ⟨w4.heap.size, k, none⟩) hBx.lt).trans (hBx.cell k)))
        have HC1 := Lib.hid (fun (V : World) (hb : Below w5b.heap.size w5b V) (k : Nat) => (show V.cell? ⟨w5.heap.size, k, none⟩ = #[Value.slice t5 pt.length c5, .int .i64 vt, .slice p5 zt.length d5][k]? from (hb.cell (p := ⟨w5.heap.size, k, none⟩) hBy.lt).trans (hBy.cell k)))
        have HC2 := Lib.hid (fun (V : World) (hb : Below w5b.heap.size w5b V) (k : Nat) => (show V.cell? ⟨(w.heap.size + 1 + 1), k, none⟩ = #[Value.int .i64 g, .int .i64 o, .int .i64 s, .int .i64 c, .int .i64 d][k]? from (hb.cell (p := ⟨(w.heap.size + 1 + 1), k, none⟩) hBc.lt).trans (hBc.cell k)))
        refine wp_region_inv (fun (listed : Array Bool) (a : Act) (W : World) => ∃ (b : Reg11B) (u : Reg11U) (x : Reg11X), listed = #[b.l0, b.l1, b.l2, b.l3, b.l4, b.l5, b.l6, b.l7, b.l8, b.l9, b.l10, b.l11, b.l12, b.l13] ∧ a = Fr [u.u0, u.u1, u.u2, u.u3, u.u4, u.u5, u.u6, u.u7, u.u8, u.u9, u.u10, u.u13] ∧ Reg11 w5b (.agg #[Value.slice t4 pf.length c4, .int .i64 vf, .slice p4 zf.length d4]) (.agg #[Value.slice t5 pt.length c5, .int .i64 vt, .slice p5 zt.length d5]) (.agg #[Value.int .i64 g, .int .i64 o, .int .i64 s, .int .i64 c, .int .i64 d]) pf vo zf pt vp zp no b u x W) (by kernel_rfl) (by kernel_rfl) ?_ ?_ ?_
        · exact ⟨⟨false, false, false, false, false, false, false, false, false, false, false, false, false, false⟩, ⟨_, _, _, _, _, _, _, _, _, _, _, _⟩, ⟨none, 0, none, 0, none, 0, none, 0, 0, 0, 0, 0, 0, 0⟩, rfl, (HFR.out _ _ _ _ _ _ _ _ _ _ _ _).symm, ⟨(Below.refl _ _).drew, (fun h => nomatch h), (fun h => nomatch h), (fun h => nomatch h), (fun h => nomatch h), (fun h => nomatch h), (fun h => nomatch h), (fun h => nomatch h), (fun h => nomatch h), (fun h => nomatch h), (fun h => nomatch h), (fun h => nomatch h), (fun h => nomatch h), (fun h => nomatch h), (fun h => nomatch h), (fun h => nomatch h), (fun h => nomatch h), (fun h => nomatch h), (fun h => nomatch h), (fun h => nomatch h), (fun h => nomatch h)⟩⟩
        · refine Steps.cons ?_ (Steps.cons ?_ (Steps.cons ?_ (Steps.cons ?_ (Steps.cons ?_ (Steps.cons ?_ (Steps.cons ?_ (Steps.cons ?_ (Steps.cons ?_ (Steps.cons ?_ (Steps.cons ?_ (Steps.cons ?_ (Steps.cons ?_ (Steps.cons ?_ Steps.nil)))))))))))))
          · intro listed a W hJ hi hp K hK
            obtain ⟨b, ⟨u0, u1, u2, u3, u4, u5, u6, u7, u8, u9, u10, u13⟩, ⟨tx, cx, px, dx, ty, cy, py, dy, lo1, hi1, lo2, hi2, g1, g2⟩, rfl, rfl, hR⟩ := hJ
            dsimp only at hi hp
            have hi0 : b.l0 = false := by simpa using hi
            simp [Region.binds] at hp
            clear hi
            go_split_ands
            have hc := HC0.out W hR.hB
            rw [HFR.out]
            go_simp
            exact hK.out _ _ ⟨{ b with l0 := true }, ⟨_, _, _, _, _, _, _, _, _, _, _, _⟩, ⟨tx, cx, px, dx, ty, cy, py, dy, lo1, hi1, lo2, hi2, g1, g2⟩, rfl, (HFR.out _ _ _ _ _ _ _ _ _ _ _ _).symm, ⟨hR.hB, (fun _ => rfl), (hR.f1), (hR.f2), (hR.f3), (hR.f4), (hR.r4), (hR.f5), (hR.f6), (hR.f7), (hR.f8), (hR.f9), (hR.b9), (hR.d9), (hR.f10), (hR.b10), (hR.d10), (hR.f11), (hR.f12), (hR.f13), (hR.ne)⟩⟩
          · intro listed a W hJ hi hp K hK
            obtain ⟨b, ⟨u0, u1, u2, u3, u4, u5, u6, u7, u8, u9, u10, u13⟩, ⟨tx, cx, px, dx, ty, cy, py, dy, lo1, hi1, lo2, hi2, g1, g2⟩, rfl, rfl, hR⟩ := hJ
            dsimp only at hi hp
            have hi0 : b.l1 = false := by simpa using hi
            simp [Region.binds] at hp
            clear hi
            go_split_ands
            have hc := HC1.out W hR.hB
            rw [HFR.out]
            go_simp
            exact hK.out _ _ ⟨{ b with l1 := true }, ⟨_, _, _, _, _, _, _, _, _, _, _, _⟩, ⟨tx, cx, px, dx, ty, cy, py, dy, lo1, hi1, lo2, hi2, g1, g2⟩, rfl, (HFR.out _ _ _ _ _ _ _ _ _ _ _ _).symm, ⟨hR.hB, (hR.f0), (fun _ => rfl), (hR.f2), (hR.f3), (hR.f4), (hR.r4), (hR.f5), (hR.f6), (hR.f7), (hR.f8), (hR.f9), (hR.b9), (hR.d9), (hR.f10), (hR.b10), (hR.d10), (hR.f11), (hR.f12), (hR.f13), (hR.ne)⟩⟩
          · intro listed a W hJ hi hp K hK
            obtain ⟨b, ⟨u0, u1, u2, u3, u4, u5, u6, u7, u8, u9, u10, u13⟩, ⟨tx, cx, px, dx, ty, cy, py, dy, lo1, hi1, lo2, hi2, g1, g2⟩, rfl, rfl, hR⟩ := hJ
            dsimp only at hi hp
            have hi0 : b.l2 = false := by simpa using hi
            simp [Region.binds] at hp
            clear hi
            go_split_ands
            have hc := HC2.out W hR.hB
            rw [HFR.out]
            go_simp
            exact hK.out _ _ ⟨{ b with l2 := true }, ⟨_, _, _, _, _, _, _, _, _, _, _, _⟩, ⟨tx, cx, px, dx, ty, cy, py, dy, lo1, hi1, lo2, hi2, g1, g2⟩, rfl, (HFR.out _ _ _ _ _ _ _ _ _ _ _ _).symm, ⟨hR.hB, (hR.f0), (hR.f1), (fun _ => rfl), (hR.f3), (hR.f4), (hR.r4), (hR.f5), (hR.f6), (hR.f7), (hR.f8), (hR.f9), (hR.b9), (hR.d9), (hR.f10), (hR.b10), (hR.d10), (hR.f11), (hR.f12), (hR.f13), (hR.ne)⟩⟩
          · intro listed a W hJ hi hp K hK
            obtain ⟨b, ⟨u0, u1, u2, u3, u4, u5, u6, u7, u8, u9, u10, u13⟩, ⟨tx, cx, px, dx, ty, cy, py, dy, lo1, hi1, lo2, hi2, g1, g2⟩, rfl, rfl, hR⟩ := hJ
            dsimp only at hi hp
            have hi0 : b.l3 = false := by simpa using hi
            simp [Region.binds] at hp
            clear hi
            go_split_ands
            have eq_ := hR.f2 (by assumption)
            try dsimp only at eq_
            obtain rfl := eq_
            rw [HFR.out]
            go_simp
            refine (HWr.out W).mono ?_; rintro e w7 ⟨rfl, hb7⟩
            exact hK.out _ _ ⟨{ b with l3 := true }, ⟨_, _, _, _, _, _, _, _, _, _, _, _⟩, ⟨tx, cx, px, dx, ty, cy, py, dy, lo1, hi1, lo2, hi2, g1, g2⟩, rfl, (HFR.out _ _ _ _ _ _ _ _ _ _ _ _).symm, ⟨(bel_step hR.hB hb7), (hR.f0), (hR.f1), (hR.f2), (fun _ => rfl), (hR.f4), (fun h => ⟨(hR.r4 h).1.bel hb7, (hR.r4 h).2.1.bel hb7, (hR.r4 h).2.2⟩), (hR.f5), (hR.f6), (hR.f7), (hR.f8), (hR.f9), (fun h => (hR.b9 h).bel hb7), (hR.d9), (hR.f10), (fun h => (hR.b10 h).bel hb7), (hR.d10), (hR.f11), (hR.f12), (hR.f13), (hR.ne)⟩⟩
          · intro listed a W hJ hi hp K hK
            obtain ⟨b, ⟨u0, u1, u2, u3, u4, u5, u6, u7, u8, u9, u10, u13⟩, ⟨tx, cx, px, dx, ty, cy, py, dy, lo1, hi1, lo2, hi2, g1, g2⟩, rfl, rfl, hR⟩ := hJ
            dsimp only at hi hp
            have hi0 : b.l4 = false := by simpa using hi
            simp [Region.binds] at hp
            clear hi
            go_split_ands
            have eq_ := hR.f0 (by assumption)
            try dsimp only at eq_
            obtain rfl := eq_
            have eq_ := hR.f1 (by assumption)
            try dsimp only at eq_
            obtain rfl := eq_
            have eq_ := hR.f3 (by assumption)
            try dsimp only at eq_
            obtain rfl := eq_
            have es1 : b.l11 = false := by rcases bcases b.l11 with e | e; exact absurd (hi0.symm.trans (hR.f11 e).1) (by decide); exact e
            have es2 : b.l12 = false := by rcases bcases b.l12 with e | e; exact absurd (hi0.symm.trans (hR.f12 e).1) (by decide); exact e
            rw [HFR.out]
            go_simp
            refine (HI.out _ _ _ _ _ _ _ _ _ (HX4.bel hR.hB) (HX5.bel hR.hB)).mono ?_; rintro e w9 ⟨y1, y2, y3, y4, z1, z2, z3, z4, q1, q2, q3, q4, rfl, P1, P2, hd, hl1, hl2, hb9⟩
            have hsz := hR.hB.size
            exact hK.out _ _ ⟨{ b with l4 := true }, ⟨_, _, _, _, _, _, _, _, _, _, _, _⟩, ⟨y1, y2, y3, y4, z1, z2, z3, z4, q1, q2, q3, q4, g1, g2⟩, rfl, (HFR.out _ _ _ _ _ _ _ _ _ _ _ _).symm, ⟨(bel_step hR.hB hb9), (hR.f0), (hR.f1), (hR.f2), (hR.f3), (fun _ => rfl), (fun _ => ⟨P1, P2, hd, Nat.le_trans hsz hl1, Nat.le_trans hsz hl2⟩), (fun h => absurd (hi0.symm.trans (hR.f5 h).1) (by decide)), (fun h => absurd (hi0.symm.trans (hR.f6 h).1) (by decide)), (fun h => absurd (hi0.symm.trans (hR.f7 h).1) (by decide)), (fun h => absurd (hi0.symm.trans (hR.f8 h).1) (by decide)), (hR.f9), (fun h => by have hh := (hR.b9 h).bel hb9; rw [es1] at hh; show Blk w9 g1 32 (bif b.l11 then _ else _); rw [es1]; exact hh), (fun h _ => ⟨.inl (Nat.lt_of_lt_of_le (hR.b9 h).lt hl1), .inl (Nat.lt_of_lt_of_le (hR.b9 h).lt hl2)⟩), (hR.f10), (fun h => by have hh := (hR.b10 h).bel hb9; rw [es2] at hh; show Blk w9 g2 32 (bif b.l12 then _ else _); rw [es2]; exact hh), (fun h _ => ⟨.inl (Nat.lt_of_lt_of_le (hR.b10 h).lt hl1), .inl (Nat.lt_of_lt_of_le (hR.b10 h).lt hl2)⟩), (fun h => absurd (hi0.symm.trans (hR.f11 h).1) (by decide)), (fun h => absurd (hi0.symm.trans (hR.f12 h).1) (by decide)), (fun h => absurd (hi0.symm.trans (hR.f13 h).1) (by decide)), (hR.ne)⟩⟩
          · intro listed a W hJ hi hp K hK
            obtain ⟨b, ⟨u0, u1, u2, u3, u4, u5, u6, u7, u8, u9, u10, u13⟩, ⟨tx, cx, px, dx, ty, cy, py, dy, lo1, hi1, lo2, hi2, g1, g2⟩, rfl, rfl, hR⟩ := hJ
            dsimp only at hi hp
            have hi0 : b.l5 = false := by simpa using hi
            simp [Region.binds] at hp
            clear hi
            go_split_ands
            have hf : b.l4 = true := by assumption
            have eq_ := hR.f4 hf
            try dsimp only at eq_
            obtain rfl := eq_
            rw [HFR.out]
            go_simp
            exact hK.out _ _ ⟨{ b with l5 := true }, ⟨_, _, _, _, _, _, _, _, _, _, _, _⟩, ⟨tx, cx, px, dx, ty, cy, py, dy, lo1, hi1, lo2, hi2, g1, g2⟩, rfl, (HFR.out _ _ _ _ _ _ _ _ _ _ _ _).symm, ⟨hR.hB, (hR.f0), (hR.f1), (hR.f2), (hR.f3), (hR.f4), (hR.r4), (fun _ => ⟨hf, rfl⟩), (hR.f6), (hR.f7), (hR.f8), (hR.f9), (hR.b9), (hR.d9), (hR.f10), (hR.b10), (hR.d10), (hR.f11), (hR.f12), (hR.f13), (hR.ne)⟩⟩
          · intro listed a W hJ hi hp K hK
            obtain ⟨b, ⟨u0, u1, u2, u3, u4, u5, u6, u7, u8, u9, u10, u13⟩, ⟨tx, cx, px, dx, ty, cy, py, dy, lo1, hi1, lo2, hi2, g1, g2⟩, rfl, rfl, hR⟩ := hJ
            dsimp only at hi hp
            have hi0 : b.l6 = false := by simpa using hi
            simp [Region.binds] at hp
            clear hi
            go_split_ands
            have eq_ := hR.f5 (by assumption)
            try dsimp only at eq_
            obtain ⟨hf, rfl⟩ := eq_
            rw [HFR.out]
            go_simp
            exact hK.out _ _ ⟨{ b with l6 := true }, ⟨_, _, _, _, _, _, _, _, _, _, _, _⟩, ⟨tx, cx, px, dx, ty, cy, py, dy, lo1, hi1, lo2, hi2, g1, g2⟩, rfl, (HFR.out _ _ _ _ _ _ _ _ _ _ _ _).symm, ⟨hR.hB, (hR.f0), (hR.f1), (hR.f2), (hR.f3), (hR.f4), (hR.r4), (hR.f5), (fun _ => ⟨hf, rfl⟩), (hR.f7), (hR.f8), (hR.f9), (hR.b9), (hR.d9), (hR.f10), (hR.b10), (hR.d10), (hR.f11), (hR.f12), (hR.f13), (hR.ne)⟩⟩
          · intro listed a W hJ hi hp K hK
            obtain ⟨b, ⟨u0, u1, u2, u3, u4, u5, u6, u7, u8, u9, u10, u13⟩, ⟨tx, cx, px, dx, ty, cy, py, dy, lo1, hi1, lo2, hi2, g1, g2⟩, rfl, rfl, hR⟩ := hJ
            dsimp only at hi hp
            have hi0 : b.l7 = false := by simpa using hi
            simp [Region.binds] at hp
            clear hi
            go_split_ands
            have eq_ := hR.f5 (by assumption)
            try dsimp only at eq_
            obtain ⟨hf, rfl⟩ := eq_
            rw [HFR.out]
            go_simp
            exact hK.out _ _ ⟨{ b with l7 := true }, ⟨_, _, _, _, _, _, _, _, _, _, _, _⟩, ⟨tx, cx, px, dx, ty, cy, py, dy, lo1, hi1, lo2, hi2, g1, g2⟩, rfl, (HFR.out _ _ _ _ _ _ _ _ _ _ _ _).symm, ⟨hR.hB, (hR.f0), (hR.f1), (hR.f2), (hR.f3), (hR.f4), (hR.r4), (hR.f5), (hR.f6), (fun _ => ⟨hf, rfl⟩), (hR.f8), (hR.f9), (hR.b9), (hR.d9), (hR.f10), (hR.b10), (hR.d10), (hR.f11), (hR.f12), (hR.f13), (hR.ne)⟩⟩
          · intro listed a W hJ hi hp K hK
            obtain ⟨b, ⟨u0, u1, u2, u3, u4, u5, u6, u7, u8, u9, u10, u13⟩, ⟨tx, cx, px, dx, ty, cy, py, dy, lo1, hi1, lo2, hi2, g1, g2⟩, rfl, rfl, hR⟩ := hJ
            dsimp only at hi hp
            have hi0 : b.l8 = false := by simpa using hi
            simp [Region.binds] at hp
            clear hi
            go_split_ands
            have eq_ := hR.f5 (by assumption)
            try dsimp only at eq_
            obtain ⟨hf, rfl⟩ := eq_
            rw [HFR.out]
            go_simp
            exact hK.out _ _ ⟨{ b with l8 := true }, ⟨_, _, _, _, _, _, _, _, _, _, _, _⟩, ⟨tx, cx, px, dx, ty, cy, py, dy, lo1, hi1, lo2, hi2, g1, g2⟩, rfl, (HFR.out _ _ _ _ _ _ _ _ _ _ _ _).symm, ⟨hR.hB, (hR.f0), (hR.f1), (hR.f2), (hR.f3), (hR.f4), (hR.r4), (hR.f5), (hR.f6), (hR.f7), (fun _ => ⟨hf, rfl⟩), (hR.f9), (hR.b9), (hR.d9), (hR.f10), (hR.b10), (hR.d10), (hR.f11), (hR.f12), (hR.f13), (hR.ne)⟩⟩
          · intro listed a W hJ hi hp K hK
            obtain ⟨b, ⟨u0, u1, u2, u3, u4, u5, u6, u7, u8, u9, u10, u13⟩, ⟨tx, cx, px, dx, ty, cy, py, dy, lo1, hi1, lo2, hi2, g1, g2⟩, rfl, rfl, hR⟩ := hJ
            dsimp only at hi hp
            have hi0 : b.l9 = false := by simpa using hi
            simp [Region.binds] at hp
            clear hi
            go_split_ands
            have hba : Below W.heap.size W (W.alloc (.cells #[Value.slice none 0 0, .int .i64 0, .slice none 0 0] 32)) := (Below.refl _ _).alloc (Nat.le_refl _) _
            have hsz := hR.hB.size
            have es : b.l11 = false := by rcases bcases b.l11 with e | e; exact absurd (hi0.symm.trans (hR.f11 e).2) (by decide); exact e
            rw [HFR.out]
            go_simp
            exact hK.out _ _ ⟨{ b with l9 := true }, ⟨_, _, _, _, _, _, _, _, _, _, _, _⟩, ⟨tx, cx, px, dx, ty, cy, py, dy, lo1, hi1, lo2, hi2, W.heap.size, g2⟩, rfl, (HFR.out _ _ _ _ _ _ _ _ _ _ _ _).symm, ⟨(bel_step hR.hB hba), (hR.f0), (hR.f1), (hR.f2), (hR.f3), (hR.f4), (fun h => ⟨(hR.r4 h).1.bel hba, (hR.r4 h).2.1.bel hba, (hR.r4 h).2.2⟩), (hR.f5), (hR.f6), (hR.f7), (hR.f8), (fun _ => ⟨rfl, hsz⟩), (fun _ => by show Blk (W.alloc (.cells #[Value.slice none 0 0, .int .i64 0, .slice none 0 0] 32)) W.heap.size 32 (bif b.l11 then _ else _); rw [es]; exact Blk.new _ _ _), (fun _ h => ⟨.inr (hR.r4 h).1.2.2, .inr (hR.r4 h).2.1.2.2⟩), (hR.f10), (fun h => (hR.b10 h).bel hba), (hR.d10), (fun h => ⟨(hR.f11 h).1, rfl⟩), (hR.f12), (hR.f13), (fun _ h => Nat.ne_of_gt (hR.b10 h).lt)⟩⟩
          · intro listed a W hJ hi hp K hK
            obtain ⟨b, ⟨u0, u1, u2, u3, u4, u5, u6, u7, u8, u9, u10, u13⟩, ⟨tx, cx, px, dx, ty, cy, py, dy, lo1, hi1, lo2, hi2, g1, g2⟩, rfl, rfl, hR⟩ := hJ
            dsimp only at hi hp
            have hi0 : b.l10 = false := by simpa using hi
            simp [Region.binds] at hp
            clear hi
            go_split_ands
            have hba : Below W.heap.size W (W.alloc (.cells #[Value.slice none 0 0, .int .i64 0, .slice none 0 0] 32)) := (Below.refl _ _).alloc (Nat.le_refl _) _
            have hsz := hR.hB.size
            have es : b.l12 = false := by rcases bcases b.l12 with e | e; exact absurd (hi0.symm.trans (hR.f12 e).2) (by decide); exact e
            rw [HFR.out]
            go_simp
            exact hK.out _ _ ⟨{ b with l10 := true }, ⟨_, _, _, _, _, _, _, _, _, _, _, _⟩, ⟨tx, cx, px, dx, ty, cy, py, dy, lo1, hi1, lo2, hi2, g1, W.heap.size⟩, rfl, (HFR.out _ _ _ _ _ _ _ _ _ _ _ _).symm, ⟨(bel_step hR.hB hba), (hR.f0), (hR.f1), (hR.f2), (hR.f3), (hR.f4), (fun h => ⟨(hR.r4 h).1.bel hba, (hR.r4 h).2.1.bel hba, (hR.r4 h).2.2⟩), (hR.f5), (hR.f6), (hR.f7), (hR.f8), (hR.f9), (fun h => (hR.b9 h).bel hba), (hR.d9), (fun _ => ⟨rfl, hsz⟩), (fun _ => by show Blk (W.alloc (.cells #[Value.slice none 0 0, .int .i64 0, .slice none 0 0] 32)) W.heap.size 32 (bif b.l12 then _ else _); rw [es]; exact Blk.new _ _ _), (fun _ h => ⟨.inr (hR.r4 h).1.2.2, .inr (hR.r4 h).2.1.2.2⟩), (hR.f11), (fun h => ⟨(hR.f12 h).1, rfl⟩), (hR.f13), (fun h _ => Nat.ne_of_lt (hR.b9 h).lt)⟩⟩
          · intro listed a W hJ hi hp K hK
            obtain ⟨b, ⟨u0, u1, u2, u3, u4, u5, u6, u7, u8, u9, u10, u13⟩, ⟨tx, cx, px, dx, ty, cy, py, dy, lo1, hi1, lo2, hi2, g1, g2⟩, rfl, rfl, hR⟩ := hJ
            dsimp only at hi hp
            have hi0 : b.l11 = false := by simpa using hi
            simp [Region.binds] at hp
            clear hi
            go_split_ands
            have eq_ := hR.f6 (by assumption)
            try dsimp only at eq_
            obtain ⟨hf, rfl⟩ := eq_
            have ha : b.l9 = true := by assumption
            have eq_ := hR.f9 ha
            try dsimp only at eq_
            obtain ⟨rfl, hg⟩ := eq_
            have hk := hR.b9 ha
            rw [hi0] at hk
            replace hk : Blk W g1 32 #[Value.slice none 0 0, .int .i64 0, .slice none 0 0] := hk
            have hc := hk.cell
            have hfz := hk.frozen
            have hlt := hk.lt
            obtain ⟨ro1, ro2, ro3, ro4, ro5⟩ := hR.r4 hf
            obtain ⟨dd1, dd2⟩ := hR.d9 ha hf
            rw [HFR.out]
            go_simp
            exact hK.out _ _ ⟨{ b with l11 := true }, ⟨_, _, _, _, _, _, _, _, _, _, _, _⟩, ⟨tx, cx, px, dx, ty, cy, py, dy, lo1, hi1, lo2, hi2, g1, g2⟩, rfl, (HFR.out _ _ _ _ _ _ _ _ _ _ _ _).symm, ⟨(bel_three' hR.hB hg), (hR.f0), (hR.f1), (hR.f2), (hR.f3), (hR.f4), (fun _ => ⟨ro1.three dd1, ro2.three dd2, ro3, ro4, ro5⟩), (hR.f5), (hR.f6), (hR.f7), (hR.f8), (hR.f9), (fun _ => hk.three), (hR.d9), (hR.f10), (fun h => (hR.b10 h).farn (fun e => hR.ne ha h e.symm)), (hR.d10), (fun _ => ⟨hf, ha⟩), (hR.f12), (hR.f13), (hR.ne)⟩⟩
          · intro listed a W hJ hi hp K hK
            obtain ⟨b, ⟨u0, u1, u2, u3, u4, u5, u6, u7, u8, u9, u10, u13⟩, ⟨tx, cx, px, dx, ty, cy, py, dy, lo1, hi1, lo2, hi2, g1, g2⟩, rfl, rfl, hR⟩ := hJ
            dsimp only at hi hp
            have hi0 : b.l12 = false := by simpa using hi
            simp [Region.binds] at hp
            clear hi
            go_split_ands
            have eq_ := hR.f7 (by assumption)
            try dsimp only at eq_
            obtain ⟨hf, rfl⟩ := eq_
            have ha : b.l10 = true := by assumption
            have eq_ := hR.f10 ha
            try dsimp only at eq_
            obtain ⟨rfl, hg⟩ := eq_
            have hk := hR.b10 ha
            rw [hi0] at hk
            replace hk : Blk W g2 32 #[Value.slice none 0 0, .int .i64 0, .slice none 0 0] := hk
            have hc := hk.cell
            have hfz := hk.frozen
            have hlt := hk.lt
            obtain ⟨ro1, ro2, ro3, ro4, ro5⟩ := hR.r4 hf
            obtain ⟨dd1, dd2⟩ := hR.d10 ha hf
            rw [HFR.out]
            go_simp
            exact hK.out _ _ ⟨{ b with l12 := true }, ⟨_, _, _, _, _, _, _, _, _, _, _, _⟩, ⟨tx, cx, px, dx, ty, cy, py, dy, lo1, hi1, lo2, hi2, g1, g2⟩, rfl, (HFR.out _ _ _ _ _ _ _ _ _ _ _ _).symm, ⟨(bel_three' hR.hB hg), (hR.f0), (hR.f1), (hR.f2), (hR.f3), (hR.f4), (fun _ => ⟨ro1.three dd1, ro2.three dd2, ro3, ro4, ro5⟩), (hR.f5), (hR.f6), (hR.f7), (hR.f8), (hR.f9), (fun h => (hR.b9 h).farn (fun e => hR.ne h ha e)), (hR.d9), (hR.f10), (fun _ => hk.three), (hR.d10), (hR.f11), (fun _ => ⟨hf, ha⟩), (hR.f13), (hR.ne)⟩⟩
          · intro listed a W hJ hi hp K hK
            obtain ⟨b, ⟨u0, u1, u2, u3, u4, u5, u6, u7, u8, u9, u10, u13⟩, ⟨tx, cx, px, dx, ty, cy, py, dy, lo1, hi1, lo2, hi2, g1, g2⟩, rfl, rfl, hR⟩ := hJ
            dsimp only at hi hp
            have hi0 : b.l13 = false := by simpa using hi
            simp [Region.binds] at hp
            clear hi
            go_split_ands
            have eq_ := hR.f8 (by assumption)
            try dsimp only at eq_
            obtain ⟨hf, rfl⟩ := eq_
            rw [HFR.out]
            go_simp
            exact hK.out _ _ ⟨{ b with l13 := true }, ⟨_, _, _, _, _, _, _, _, _, _, _, _⟩, ⟨tx, cx, px, dx, ty, cy, py, dy, lo1, hi1, lo2, hi2, g1, g2⟩, rfl, (HFR.out _ _ _ _ _ _ _ _ _ _ _ _).symm, ⟨hR.hB, (hR.f0), (hR.f1), (hR.f2), (hR.f3), (hR.f4), (hR.r4), (hR.f5), (hR.f6), (hR.f7), (hR.f8), (hR.f9), (hR.b9), (hR.d9), (hR.f10), (hR.b10), (hR.d10), (hR.f11), (hR.f12), (fun _ => ⟨hf, rfl⟩), (hR.ne)⟩⟩
        · intro a W hJ
          obtain ⟨⟨l0, l1, l2, l3, l4, l5, l6, l7, l8, l9, l10, l11, l12, l13⟩, ⟨u0, u1, u2, u3, u4, u5, u6, u7, u8, u9, u10, u13⟩, ⟨tx, cx, px, dx, ty, cy, py, dy, lo1, hi1, lo2, hi2, g1, g2⟩, hl, rfl, ⟨hB, f0, f1, f2, f3, f4, r4, f5, f6, f7, f8, f9, b9, d9, f10, b10, d10, f11, f12, f13, ne⟩⟩ := hJ
          dsimp only at hl f0 f1 f2 f3 f4 r4 f5 f6 f7 f8 f9 b9 d9 f10 b10 d10 f11 f12 f13 ne
          have hl2 : (#[true, true, true, true, true, true, true, true, true, true, true, true, true, true] : Array Bool) = #[l0, l1, l2, l3, l4, l5, l6, l7, l8, l9, l10, l11, l12, l13] := hl
          simp only [Array.mk.injEq, List.cons.injEq, and_true] at hl2
          obtain ⟨rfl, rfl, rfl, rfl, rfl, rfl, rfl, rfl, rfl, rfl, rfl, rfl, rfl, rfl⟩ := hl2
          clear hl
          obtain ⟨rfl, hg1⟩ := f9 rfl
          obtain ⟨rfl, hg2⟩ := f10 rfl
          obtain ⟨_, rfl⟩ := f13 rfl
          obtain ⟨ro1, ro2, ro3, ro4, ro5⟩ := r4 rfl
          obtain ⟨dd1, dd2⟩ := d9 rfl rfl
          obtain ⟨dd3, dd4⟩ := d10 rfl rfl
          have B1 := b9 rfl
          have B2 := b10 rfl
          clear f0 f1 f2 f3 f4 f5 f6 f7 f8 b9 b10 f11 f12 ne
          rw [HFR.out]
          go_wp2_with fail
          go_meet
          exact ⟨g1, g2, tx, cx, px, dx, ty, cy, py, dy, lo1, hi1, lo2, hi2, rfl, rfl, rfl, hg1, hg2, B1, B2, ro1, ro2, ro3, ro4, ro5, hB, dd1, dd2, dd3, dd4⟩
      case rest =>
        obtain ⟨gg, gh, t6, c6, p6, d6, t66, c66, p66, d66, l6, h6, l66, h66, rfl, rfl, rfl, egg, egh, hBg, hBh, O6, O66, hd6, hl6, hl66, hb6, k6a, k6b, k6c, k6d⟩ := hcut
        replace hBa := hBa.bel hb6
        replace hBb := hBb.bel hb6
        replace hBc := hBc.bel hb6
        replace hBw := hBw.bel hb6
        replace hBv := hBv.bel hb6
        replace hBx := hBx.bel hb6
        replace hBy := hBy.bel hb6
        replace O3 := O3.bel hb6
        replace O33 := O33.bel hb6
        replace O4 := O4.bel hb6
        replace O5 := O5.bel hb6
        replace hW := bel_step hW hb6
        have hs6 := hb6.size
        try simp only [World.size_alloc] at hs6
        clear hb6 HX4 HX5
        have q6 := O6.2.2
        have q66 := O66.2.2
        have lg6 := hBg.lt
        have lh6 := hBh.lt
        have chBg := hBg.cell
        have chBw := hBw.cell
        go_wp2_with fail
        refine (l_eqReachO vo O6 O3 hnf' hmf').mono ?_; rintro e w7 ⟨rfl, hb7⟩
        clear chBg chBw
        replace hBa := hBa.bel hb7
        replace hBb := hBb.bel hb7
        replace hBc := hBc.bel hb7
        replace hBw := hBw.bel hb7
        replace hBv := hBv.bel hb7
        replace hBx := hBx.bel hb7
        replace hBy := hBy.bel hb7
        replace hBg := hBg.bel hb7
        replace hBh := hBh.bel hb7
        replace O3 := O3.bel hb7
        replace O33 := O33.bel hb7
        replace O4 := O4.bel hb7
        replace O5 := O5.bel hb7
        replace O6 := O6.bel hb7
        replace O66 := O66.bel hb7
        replace hW := bel_step hW hb7
        have hs7 := hb7.size
        try simp only [World.size_alloc] at hs7
        clear hb7
        have chBh := hBh.cell
        have chBv := hBv.cell
        go_wp2_with fail
        refine (l_eqReachO vp O66 O33 hnt' hzp).mono ?_; rintro e w8 ⟨rfl, hb8⟩
        clear chBh chBv
        replace hBa := hBa.bel hb8
        replace hBb := hBb.bel hb8
        replace hBc := hBc.bel hb8
        replace hBw := hBw.bel hb8
        replace hBv := hBv.bel hb8
        replace hBx := hBx.bel hb8
        replace hBy := hBy.bel hb8
        replace hBg := hBg.bel hb8
        replace hBh := hBh.bel hb8
        replace O3 := O3.bel hb8
        replace O33 := O33.bel hb8
        replace O4 := O4.bel hb8
        replace O5 := O5.bel hb8
        replace O6 := O6.bel hb8
        replace O66 := O66.bel hb8
        replace hW := bel_step hW hb8
        have hs8 := hb8.size
        try simp only [World.size_alloc] at hs8
        clear hb8
        have S0 : (∀ i, w8.drew.cell? ⟨w.heap.size, i, none⟩ = #[Value.slice fA pf.length fc, .int .i64 vf, .slice fP zf.length fd][i]?) ∧ (∀ i, w8.drew.cell? ⟨w4.heap.size, i, none⟩ = #[Value.slice t4 pf.length c4, .int .i64 vf, .slice p4 zf.length d4][i]?) ∧ w.heap.size < w8.drew.heap.size ∧ w4.heap.size < w8.drew.heap.size := ⟨hBa.drew.cell, hBx.drew.cell, hBa.lt, hBx.lt⟩
        have hWd := hW.drew
        have Od := O4.drew_
        go_wp2_with fail
        go_region_held3 (fun w' => (∀ i, w'.cell? ⟨w.heap.size, i, none⟩ = #[Value.slice fA pf.length fc, .int .i64 vf, .slice fP zf.length fd][i]?) ∧ (∀ i, w'.cell? ⟨w4.heap.size, i, none⟩ = #[Value.slice t4 pf.length c4, .int .i64 vf, .slice p4 zf.length d4][i]?) ∧ w.heap.size < w'.heap.size ∧ w4.heap.size < w'.heap.size) (first | with_reducible exact S2 | with_reducible exact S1 | with_reducible exact S0) (first | (go_at_call 15; refine (HTf.out _ hWd).mono ?_; rintro e w9 ⟨tq, cq, pq, dq, rfl, hRq, hSq, hb9⟩; have S1 := boxes_below hb9 S0) | (go_at_call 17; refine (l_eqReachO vf (Od.bel hb9) (RO.mk_ (lo := 0) hRq hSq (Nat.zero_le _)) hnf' hmf').mono ?_; rintro e w10 ⟨rfl, hb10⟩; have S2 := boxes_below hb10 S1))
        have hbX : Below w8.heap.size w8 w10 := ((Below.refl _ _).drew).trans (hb9.trans (hb10.mono hb9.size))
        replace hBa := hBa.bel hbX
        replace hBb := hBb.bel hbX
        replace hBc := hBc.bel hbX
        replace hBw := hBw.bel hbX
        replace hBv := hBv.bel hbX
        replace hBx := hBx.bel hbX
        replace hBy := hBy.bel hbX
        replace hBg := hBg.bel hbX
        replace hBh := hBh.bel hbX
        replace O3 := O3.bel hbX
        replace O33 := O33.bel hbX
        replace O4 := O4.bel hbX
        replace O5 := O5.bel hbX
        replace O6 := O6.bel hbX
        replace O66 := O66.bel hbX
        replace hW := bel_step hW hbX
        have hs10 := hbX.size
        try simp only [World.size_alloc] at hs10
        clear S0 S1 S2 hb9 hb10 hbX hWd Od hRq hSq
        have S0 : (∀ i, w10.drew.cell? ⟨w.heap.size + 1, i, none⟩ = #[Value.slice gA pt.length gc, .int .i64 vt, .slice gP zt.length gd][i]?) ∧ (∀ i, w10.drew.cell? ⟨w5.heap.size, i, none⟩ = #[Value.slice t5 pt.length c5, .int .i64 vt, .slice p5 zt.length d5][i]?) ∧ w.heap.size + 1 < w10.drew.heap.size ∧ w5.heap.size < w10.drew.heap.size := ⟨hBb.drew.cell, hBy.drew.cell, hBb.lt, hBy.lt⟩
        have hWd := hW.drew
        have Od := O5.drew_
        go_wp2_with fail
        go_region_held3 (fun w' => (∀ i, w'.cell? ⟨w.heap.size + 1, i, none⟩ = #[Value.slice gA pt.length gc, .int .i64 vt, .slice gP zt.length gd][i]?) ∧ (∀ i, w'.cell? ⟨w5.heap.size, i, none⟩ = #[Value.slice t5 pt.length c5, .int .i64 vt, .slice p5 zt.length d5][i]?) ∧ w.heap.size + 1 < w'.heap.size ∧ w5.heap.size < w'.heap.size) (first | with_reducible exact S2 | with_reducible exact S1 | with_reducible exact S0) (first | (go_at_call 15; refine (HTt.out _ hWd).mono ?_; rintro e w11 ⟨tq, cq, pq, dq, rfl, hRq, hSq, hb11⟩; have S1 := boxes_below hb11 S0) | (go_at_call 17; refine (l_eqReachO vt (Od.bel hb11) (RO.mk_ (lo := 0) hRq hSq (Nat.zero_le _)) hnt' hmt').mono ?_; rintro e w12 ⟨rfl, hb12⟩; have S2 := boxes_below hb12 S1))
        have hbX : Below w10.heap.size w10 w12 := ((Below.refl _ _).drew).trans (hb11.trans (hb12.mono hb11.size))
        replace hBa := hBa.bel hbX
        replace hBb := hBb.bel hbX
        replace hBc := hBc.bel hbX
        replace hBw := hBw.bel hbX
        replace hBv := hBv.bel hbX
        replace hBx := hBx.bel hbX
        replace hBy := hBy.bel hbX
        replace hBg := hBg.bel hbX
        replace hBh := hBh.bel hbX
        replace O3 := O3.bel hbX
        replace O33 := O33.bel hbX
        replace O4 := O4.bel hbX
        replace O5 := O5.bel hbX
        replace O6 := O6.bel hbX
        replace O66 := O66.bel hbX
        replace hW := bel_step hW hbX
        have hs12 := hbX.size
        try simp only [World.size_alloc] at hs12
        clear S0 S1 S2 hb11 hb12 hbX hWd Od hRq hSq
        have chBx := hBx.cell
        go_wp2_with fail
        refine (l_markReach t4 pf.length c4 vf p4 zf.length d4 1 _ _ _ _ _ O4.1 O4.2.1 O4.2.2 hnf' hmf' (by omega) (by omega)).mono ?_; rintro e w13 ⟨rfl, hM13⟩
        clear chBx
        have hu13 := hM13.2.2
        replace hBa := hBa.upto hu13 (by omega)
        replace hBb := hBb.upto hu13 (by omega)
        replace hBc := hBc.upto hu13 (by omega)
        replace hBw := hBw.upto hu13 (by omega)
        replace hBv := hBv.upto hu13 (by omega)
        replace hBy := hBy.upto hu13 (by omega)
        replace hBg := hBg.upto hu13 (by omega)
        replace hBh := hBh.upto hu13 (by omega)
        replace O3 := O3.upto hu13 (by omega)
        replace O33 := O33.upto hu13 (by omega)
        replace O5 := O5.upto hu13 (by omega)
        replace O6 := O6.upto hu13 (by omega)
        replace O66 := O66.upto hu13 (by omega)
        replace hW := bel_upto hW hu13 (by omega)
        have hs13 := hu13.size
        try simp only [World.size_alloc] at hs13
        clear hu13 hM13 O4 hBx
        have chBy := hBy.cell
        go_wp2_with fail
        refine (l_markReach t5 pt.length c5 vt p5 zt.length d5 _ _ _ _ _ _ O5.1 O5.2.1 O5.2.2 hnt' hmt' (by omega) (by omega)).mono ?_; rintro e w14 ⟨rfl, hM14⟩
        clear chBy
        have hu14 := hM14.2.2
        replace hBa := hBa.upto hu14 (by omega)
        replace hBb := hBb.upto hu14 (by omega)
        replace hBc := hBc.upto hu14 (by omega)
        replace hBw := hBw.upto hu14 (by omega)
        replace hBv := hBv.upto hu14 (by omega)
        replace hBg := hBg.upto hu14 (by omega)
        replace hBh := hBh.upto hu14 (by omega)
        replace O3 := O3.upto hu14 (by omega)
        replace O33 := O33.upto hu14 (by omega)
        replace O6 := O6.upto hu14 (by omega)
        replace O66 := O66.upto hu14 (by omega)
        replace hW := bel_upto hW hu14 (by omega)
        have hs14 := hu14.size
        try simp only [World.size_alloc] at hs14
        clear hu14 hM14 O5 hBy
        have chBg := hBg.cell
        have chBw := hBw.cell
        go_wp2_with fail
        refine (l_eqReachO vo O6 O3 hnf' hmf').mono ?_; rintro e w15 ⟨rfl, hb15⟩
        clear chBg chBw
        replace hBa := hBa.bel hb15
        replace hBb := hBb.bel hb15
        replace hBc := hBc.bel hb15
        replace hBw := hBw.bel hb15
        replace hBv := hBv.bel hb15
        replace hBg := hBg.bel hb15
        replace hBh := hBh.bel hb15
        replace O3 := O3.bel hb15
        replace O33 := O33.bel hb15
        replace O6 := O6.bel hb15
        replace O66 := O66.bel hb15
        replace hW := bel_step hW hb15
        have hs15 := hb15.size
        try simp only [World.size_alloc] at hs15
        clear hb15
        have chBh := hBh.cell
        have chBv := hBv.cell
        go_wp2_with fail
        refine (l_eqReachO vp O66 O33 hnt' hzp).mono ?_; rintro e w16 ⟨rfl, hb16⟩
        clear chBh chBv
        replace hBa := hBa.bel hb16
        replace hBb := hBb.bel hb16
        replace hBc := hBc.bel hb16
        replace hBw := hBw.bel hb16
        replace hBv := hBv.bel hb16
        replace hBg := hBg.bel hb16
        replace hBh := hBh.bel hb16
        replace O3 := O3.bel hb16
        replace O33 := O33.bel hb16
        replace O6 := O6.bel hb16
        replace O66 := O66.bel hb16
        replace hW := bel_step hW hb16
        have hs16 := hb16.size
        try simp only [World.size_alloc] at hs16
        clear hb16
        have chBg := hBg.cell
        go_wp2_with fail
        refine (l_markReach t6 pf.length c6 vo p6 zf.length d6 1 _ _ _ _ _ O6.1 O6.2.1 O6.2.2 hnf' hmf' (by omega) (by omega)).mono ?_; rintro e w17 ⟨rfl, hM17⟩
        clear chBg
        have hu17 := hM17.2.2
        have M6 := RM.of_marked hM17 O6.2.2
        replace hBa := hBa.upto hu17 (by omega)
        replace hBb := hBb.upto hu17 (by omega)
        replace hBc := hBc.upto hu17 (by omega)
        replace hBw := hBw.upto hu17 (by omega)
        replace hBv := hBv.upto hu17 (by omega)
        replace hBg := hBg.upto hu17 (by omega)
        replace hBh := hBh.upto hu17 (by omega)
        replace O3 := O3.upto hu17 (by omega)
        replace O33 := O33.upto hu17 (by omega)
        replace O66 := O66.upto hu17 (by omega)
        replace hW := bel_upto hW hu17 (by omega)
        have hs17 := hu17.size
        try simp only [World.size_alloc] at hs17
        clear hu17 hM17 O6
        have chBh := hBh.cell
        go_wp2_with fail
        refine (l_markReach t66 pt.length c66 vp p66 zp.length d66 _ _ _ _ _ _ O66.1 O66.2.1 O66.2.2 hnt' hzp (by omega) (by omega)).mono ?_; rintro e w18 ⟨rfl, hM18⟩
        clear chBh
        have hu18 := hM18.2.2
        have M66 := RM.of_marked hM18 O66.2.2
        replace hBa := hBa.upto hu18 (by omega)
        replace hBb := hBb.upto hu18 (by omega)
        replace hBc := hBc.upto hu18 (by omega)
        replace hBw := hBw.upto hu18 (by omega)
        replace hBv := hBv.upto hu18 (by omega)
        replace hBg := hBg.upto hu18 (by omega)
        replace hBh := hBh.upto hu18 (by omega)
        replace O3 := O3.upto hu18 (by omega)
        replace O33 := O33.upto hu18 (by omega)
        replace M6 := M6.upto hu18 (by omega)
        replace hW := bel_upto hW hu18 (by omega)
        have hs18 := hu18.size
        try simp only [World.size_alloc] at hs18
        clear hu18 hM18 O66
        have chBg := hBg.cell
        go_wp2_with fail
        refine (l_heldReach t6 pf.length c6 vo p6 zf.length d6 1 _ _ M6.pts M6.nums (Nat.le_refl _) hnf' hmf' (by omega) (by omega)).mono ?_; rintro e w19 ⟨rfl, hb19⟩
        clear chBg
        replace hBa := hBa.bel hb19
        replace hBb := hBb.bel hb19
        replace hBc := hBc.bel hb19
        replace hBw := hBw.bel hb19
        replace hBv := hBv.bel hb19
        replace hBg := hBg.bel hb19
        replace hBh := hBh.bel hb19
        replace O3 := O3.bel hb19
        replace O33 := O33.bel hb19
        replace M6 := M6.bel hb19
        replace M66 := M66.bel hb19
        replace hW := bel_step hW hb19
        have hs19 := hb19.size
        try simp only [World.size_alloc] at hs19
        clear hb19
        have chBh := hBh.cell
        go_wp2_with fail
        refine (l_heldReach t66 pt.length c66 vp p66 zp.length d66 _ _ _ M66.pts M66.nums (Nat.le_refl _) hnt' hzp (by omega) (by omega)).mono ?_; rintro e w20 ⟨rfl, hb20⟩
        clear chBh
        replace hBa := hBa.bel hb20
        replace hBb := hBb.bel hb20
        replace hBc := hBc.bel hb20
        replace hBw := hBw.bel hb20
        replace hBv := hBv.bel hb20
        replace hBg := hBg.bel hb20
        replace hBh := hBh.bel hb20
        replace O3 := O3.bel hb20
        replace O33 := O33.bel hb20
        replace M6 := M6.bel hb20
        replace M66 := M66.bel hb20
        replace hW := bel_step hW hb20
        have hs20 := hb20.size
        try simp only [World.size_alloc] at hs20
        clear hb20
        go_upto_region 35 with (fail)
        go_cut [19, 20, 21] (fun s10 s11 s12 wy => Two2 w20 pf vo zf pt vp zp no s10 s11 s12 wy)
        case first =>
          refine with_frame [126, 127, 128, 129, 130, 131, 132, 125, 133, 134, 135, 19, 20, 21] (fun Fr hFr => ?_)
          have HFr := fun (u0 u1 u2 u3 u4 u5 u6 u7 u8 u9 u10 u11 u12 u15 : Value) => hFr [u0, u1, u2, u3, u4, u5, u6, u7, u8, u9, u10, u11, u12, u15]
          clear hFr
          simp only [List.zip_cons_cons, List.zip_nil_right, putAll, Act.put, List.setIfInBounds_toArray, List.set_cons_zero, List.set_cons_succ] at HFr
          have HFR := Lib.hid HFr
          clear HFr
          have HC0 := Lib.hid (fun (V : World) (hb : Below w20.heap.size w20 V) (k : Nat) => (show V.cell? ⟨w.heap.size, k, none⟩ = #[Value.slice fA pf.length fc, .int .i64 vf, .slice fP zf.length fd][k]? from (hb.cell (p := ⟨w.heap.size, k, none⟩) hBa.lt).trans (hBa.cell k)))
          have HC1 := Lib.hid (fun (V : World) (hb : Below w20.heap.size w20 V) (k : Nat) => (show V.cell? ⟨(w.heap.size + 1), k, none⟩ = #[Value.slice gA pt.length gc, .int .i64 vt, .slice gP zt.length gd][k]? from (hb.cell (p := ⟨(w.heap.size + 1), k, none⟩) hBb.lt).trans (hBb.cell k)))
          have HC2 := Lib.hid (fun (V : World) (hb : Below w20.heap.size w20 V) (k : Nat) => (show V.cell? ⟨(w.heap.size + 1 + 1), k, none⟩ = #[Value.int .i64 g, .int .i64 o, .int .i64 s, .int .i64 c, .int .i64 d][k]? from (hb.cell (p := ⟨(w.heap.size + 1 + 1), k, none⟩) hBc.lt).trans (hBc.cell k)))
          refine wp_region_inv (fun (listed : Array Bool) (a : Act) (W : World) => ∃ (b : Reg8B) (u : Reg8U) (x : Reg8X), listed = #[b.l0, b.l1, b.l2, b.l3, b.l4, b.l5, b.l6, b.l7, b.l8, b.l9, b.l10, b.l11, b.l12, b.l13, b.l14, b.l15] ∧ a = Fr [u.u0, u.u1, u.u2, u.u3, u.u4, u.u5, u.u6, u.u7, u.u8, u.u9, u.u10, u.u11, u.u12, u.u15] ∧ Reg8 w20 (.agg #[Value.slice fA pf.length fc, .int .i64 vf, .slice fP zf.length fd]) (.agg #[Value.slice gA pt.length gc, .int .i64 vt, .slice gP zt.length gd]) (.agg #[Value.int .i64 g, .int .i64 o, .int .i64 s, .int .i64 c, .int .i64 d]) pf vf zf pt vt zt vo vp zp no b u x W) (by kernel_rfl) (by kernel_rfl) ?_ ?_ ?_
          · exact ⟨⟨false, false, false, false, false, false, false, false, false, false, false, false, false, false, false, false⟩, ⟨_, _, _, _, _, _, _, _, _, _, _, _, _, _⟩, ⟨none, 0, none, 0, none, 0, none, 0, none, 0, none, 0, none, 0, none, 0, 0, 0, 0, 0, 0, 0⟩, rfl, (HFR.out _ _ _ _ _ _ _ _ _ _ _ _ _ _).symm, ⟨(Below.refl _ _).drew, (fun h => nomatch h), (fun h => nomatch h), (fun h => nomatch h), (fun h => nomatch h), (fun h => nomatch h), (fun h => nomatch h), (fun h => nomatch h), (fun h => nomatch h), (fun h => nomatch h), (fun h => nomatch h), (fun h => nomatch h), (fun h => nomatch h), (fun h => nomatch h), (fun h => nomatch h), (fun h => nomatch h), (fun h => nomatch h), (fun h => nomatch h), (fun h => nomatch h), (fun h => nomatch h), (fun h => nomatch h), (fun h => nomatch h), (fun h => nomatch h), (fun h => nomatch h), (fun h => nomatch h)⟩⟩
          · refine Steps.cons ?_ (Steps.cons ?_ (Steps.cons ?_ (Steps.cons ?_ (Steps.cons ?_ (Steps.cons ?_ (Steps.cons ?_ (Steps.cons ?_ (Steps.cons ?_ (Steps.cons ?_ (Steps.cons ?_ (Steps.cons ?_ (Steps.cons ?_ (Steps.cons ?_ (Steps.cons ?_ (Steps.cons ?_ Steps.nil)))))))))))))))
            · intro listed a W hJ hi hp K hK
              obtain ⟨b, ⟨u0, u1, u2, u3, u4, u5, u6, u7, u8, u9, u10, u11, u12, u15⟩, ⟨t0, c0, p0, d0, t1, c1, p1, d1, tx, cx, px, dx, ty, cy, py, dy, lo1, hi1, lo2, hi2, g1, g2⟩, rfl, rfl, hR⟩ := hJ
              dsimp only at hi hp
              have hi0 : b.l0 = false := by simpa using hi
              simp [Region.binds] at hp
              clear hi
              go_split_ands
              have hc := HC0.out W hR.hB
              rw [HFR.out]
              go_simp
              exact hK.out _ _ ⟨{ b with l0 := true }, ⟨_, _, _, _, _, _, _, _, _, _, _, _, _, _⟩, ⟨t0, c0, p0, d0, t1, c1, p1, d1, tx, cx, px, dx, ty, cy, py, dy, lo1, hi1, lo2, hi2, g1, g2⟩, rfl, (HFR.out _ _ _ _ _ _ _ _ _ _ _ _ _ _).symm, ⟨hR.hB, (fun _ => rfl), (hR.f1), (hR.r1), (hR.f2), (hR.f3), (hR.r3), (hR.f4), (hR.f5), (hR.f6), (hR.r6), (hR.f7), (hR.f8), (hR.f9), (hR.f10), (hR.f11), (hR.b11), (hR.d11), (hR.f12), (hR.b12), (hR.d12), (hR.f13), (hR.f14), (hR.f15), (hR.ne)⟩⟩
            · intro listed a W hJ hi hp K hK
              obtain ⟨b, ⟨u0, u1, u2, u3, u4, u5, u6, u7, u8, u9, u10, u11, u12, u15⟩, ⟨t0, c0, p0, d0, t1, c1, p1, d1, tx, cx, px, dx, ty, cy, py, dy, lo1, hi1, lo2, hi2, g1, g2⟩, rfl, rfl, hR⟩ := hJ
              dsimp only at hi hp
              have hi0 : b.l1 = false := by simpa using hi
              simp [Region.binds] at hp
              clear hi
              go_split_ands
              have eq_ := hR.f0 (by assumption)
              try dsimp only at eq_
              obtain rfl := eq_
              rw [HFR.out]
              go_simp
              refine (HTf.out _ (bel_step hW hR.hB)).mono ?_; rintro e w7 ⟨y1, y2, y3, y4, rfl, hR7, hS7, hb7⟩
              exact hK.out _ _ ⟨{ b with l1 := true }, ⟨_, _, _, _, _, _, _, _, _, _, _, _, _, _⟩, ⟨y1, y2, y3, y4, t1, c1, p1, d1, tx, cx, px, dx, ty, cy, py, dy, lo1, hi1, lo2, hi2, g1, g2⟩, rfl, (HFR.out _ _ _ _ _ _ _ _ _ _ _ _ _ _).symm, ⟨(bel_step hR.hB hb7), (hR.f0), (fun _ => rfl), (fun _ _ => (RO.out_ hR7 hS7).rx), (hR.f2), (hR.f3), (fun h h2 => (hR.r3 h h2).bel hb7), (hR.f4), (hR.f5), (hR.f6), (fun h => ⟨(hR.r6 h).1.bel hb7, (hR.r6 h).2.1.bel hb7, (hR.r6 h).2.2⟩), (hR.f7), (hR.f8), (hR.f9), (hR.f10), (hR.f11), (fun h => (hR.b11 h).bel hb7), (hR.d11), (hR.f12), (fun h => (hR.b12 h).bel hb7), (hR.d12), (hR.f13), (hR.f14), (hR.f15), (hR.ne)⟩⟩
            · intro listed a W hJ hi hp K hK
              obtain ⟨b, ⟨u0, u1, u2, u3, u4, u5, u6, u7, u8, u9, u10, u11, u12, u15⟩, ⟨t0, c0, p0, d0, t1, c1, p1, d1, tx, cx, px, dx, ty, cy, py, dy, lo1, hi1, lo2, hi2, g1, g2⟩, rfl, rfl, hR⟩ := hJ
              dsimp only at hi hp
              have hi0 : b.l2 = false := by simpa using hi
              simp [Region.binds] at hp
              clear hi
              go_split_ands
              have hc := HC1.out W hR.hB
              rw [HFR.out]
              go_simp
              exact hK.out _ _ ⟨{ b with l2 := true }, ⟨_, _, _, _, _, _, _, _, _, _, _, _, _, _⟩, ⟨t0, c0, p0, d0, t1, c1, p1, d1, tx, cx, px, dx, ty, cy, py, dy, lo1, hi1, lo2, hi2, g1, g2⟩, rfl, (HFR.out _ _ _ _ _ _ _ _ _ _ _ _ _ _).symm, ⟨hR.hB, (hR.f0), (hR.f1), (hR.r1), (fun _ => rfl), (hR.f3), (hR.r3), (hR.f4), (hR.f5), (hR.f6), (hR.r6), (hR.f7), (hR.f8), (hR.f9), (hR.f10), (hR.f11), (hR.b11), (hR.d11), (hR.f12), (hR.b12), (hR.d12), (hR.f13), (hR.f14), (hR.f15), (hR.ne)⟩⟩
            · intro listed a W hJ hi hp K hK
              obtain ⟨b, ⟨u0, u1, u2, u3, u4, u5, u6, u7, u8, u9, u10, u11, u12, u15⟩, ⟨t0, c0, p0, d0, t1, c1, p1, d1, tx, cx, px, dx, ty, cy, py, dy, lo1, hi1, lo2, hi2, g1, g2⟩, rfl, rfl, hR⟩ := hJ
              dsimp only at hi hp
              have hi0 : b.l3 = false := by simpa using hi
              simp [Region.binds] at hp
              clear hi
              go_split_ands
              have eq_ := hR.f2 (by assumption)
              try dsimp only at eq_
              obtain rfl := eq_
              rw [HFR.out]
              go_simp
              refine (HTt.out _ (bel_step hW hR.hB)).mono ?_; rintro e w7 ⟨y1, y2, y3, y4, rfl, hR7, hS7, hb7⟩
              exact hK.out _ _ ⟨{ b with l3 := true }, ⟨_, _, _, _, _, _, _, _, _, _, _, _, _, _⟩, ⟨t0, c0, p0, d0, y1, y2, y3, y4, tx, cx, px, dx, ty, cy, py, dy, lo1, hi1, lo2, hi2, g1, g2⟩, rfl, (HFR.out _ _ _ _ _ _ _ _ _ _ _ _ _ _).symm, ⟨(bel_step hR.hB hb7), (hR.f0), (hR.f1), (fun h h2 => (hR.r1 h h2).bel hb7), (hR.f2), (fun _ => rfl), (fun _ _ => (RO.out_ hR7 hS7).rx), (hR.f4), (hR.f5), (hR.f6), (fun h => ⟨(hR.r6 h).1.bel hb7, (hR.r6 h).2.1.bel hb7, (hR.r6 h).2.2⟩), (hR.f7), (hR.f8), (hR.f9), (hR.f10), (hR.f11), (fun h => (hR.b11 h).bel hb7), (hR.d11), (hR.f12), (fun h => (hR.b12 h).bel hb7), (hR.d12), (hR.f13), (hR.f14), (hR.f15), (hR.ne)⟩⟩
            · intro listed a W hJ hi hp K hK
              obtain ⟨b, ⟨u0, u1, u2, u3, u4, u5, u6, u7, u8, u9, u10, u11, u12, u15⟩, ⟨t0, c0, p0, d0, t1, c1, p1, d1, tx, cx, px, dx, ty, cy, py, dy, lo1, hi1, lo2, hi2, g1, g2⟩, rfl, rfl, hR⟩ := hJ
              dsimp only at hi hp
              have hi0 : b.l4 = false := by simpa using hi
              simp [Region.binds] at hp
              clear hi
              go_split_ands
              have hc := HC2.out W hR.hB
              rw [HFR.out]
              go_simp
              exact hK.out _ _ ⟨{ b with l4 := true }, ⟨_, _, _, _, _, _, _, _, _, _, _, _, _, _⟩, ⟨t0, c0, p0, d0, t1, c1, p1, d1, tx, cx, px, dx, ty, cy, py, dy, lo1, hi1, lo2, hi2, g1, g2⟩, rfl, (HFR.out _ _ _ _ _ _ _ _ _ _ _ _ _ _).symm, ⟨hR.hB, (hR.f0), (hR.f1), (hR.r1), (hR.f2), (hR.f3), (hR.r3), (fun _ => rfl), (hR.f5), (hR.f6), (hR.r6), (hR.f7), (hR.f8), (hR.f9), (hR.f10), (hR.f11), (hR.b11), (hR.d11), (hR.f12), (hR.b12), (hR.d12), (hR.f13), (hR.f14), (hR.f15), (hR.ne)⟩⟩
            · intro listed a W hJ hi hp K hK
              obtain ⟨b, ⟨u0, u1, u2, u3, u4, u5, u6, u7, u8, u9, u10, u11, u12, u15⟩, ⟨t0, c0, p0, d0, t1, c1, p1, d1, tx, cx, px, dx, ty, cy, py, dy, lo1, hi1, lo2, hi2, g1, g2⟩, rfl, rfl, hR⟩ := hJ
              dsimp only at hi hp
              have hi0 : b.l5 = false := by simpa using hi
              simp [Region.binds] at hp
              clear hi
              go_split_ands
              have eq_ := hR.f4 (by assumption)
              try dsimp only at eq_
              obtain rfl := eq_
              rw [HFR.out]
              go_simp
              refine (HWr.out W).mono ?_; rintro e w7 ⟨rfl, hb7⟩
              exact hK.out _ _ ⟨{ b with l5 := true }, ⟨_, _, _, _, _, _, _, _, _, _, _, _, _, _⟩, ⟨t0, c0, p0, d0, t1, c1, p1, d1, tx, cx, px, dx, ty, cy, py, dy, lo1, hi1, lo2, hi2, g1, g2⟩, rfl, (HFR.out _ _ _ _ _ _ _ _ _ _ _ _ _ _).symm, ⟨(bel_step hR.hB hb7), (hR.f0), (hR.f1), (fun h h2 => (hR.r1 h h2).bel hb7), (hR.f2), (hR.f3), (fun h h2 => (hR.r3 h h2).bel hb7), (hR.f4), (fun _ => rfl), (hR.f6), (fun h => ⟨(hR.r6 h).1.bel hb7, (hR.r6 h).2.1.bel hb7, (hR.r6 h).2.2⟩), (hR.f7), (hR.f8), (hR.f9), (hR.f10), (hR.f11), (fun h => (hR.b11 h).bel hb7), (hR.d11), (hR.f12), (fun h => (hR.b12 h).bel hb7), (hR.d12), (hR.f13), (hR.f14), (hR.f15), (hR.ne)⟩⟩
            · intro listed a W hJ hi hp K hK
              obtain ⟨b, ⟨u0, u1, u2, u3, u4, u5, u6, u7, u8, u9, u10, u11, u12, u15⟩, ⟨t0, c0, p0, d0, t1, c1, p1, d1, tx, cx, px, dx, ty, cy, py, dy, lo1, hi1, lo2, hi2, g1, g2⟩, rfl, rfl, hR⟩ := hJ
              dsimp only at hi hp
              have hi0 : b.l6 = false := by simpa using hi
              simp [Region.binds] at hp
              clear hi
              go_split_ands
              have eq_ := hR.f1 (by assumption)
              try dsimp only at eq_
              obtain rfl := eq_
              have eq_ := hR.f3 (by assumption)
              try dsimp only at eq_
              obtain rfl := eq_
              have eq_ := hR.f5 (by assumption)
              try dsimp only at eq_
              obtain rfl := eq_
              have es1 : b.l13 = false := by rcases bcases b.l13 with e | e; exact absurd (hi0.symm.trans (hR.f13 e).1) (by decide); exact e
              have es2 : b.l14 = false := by rcases bcases b.l14 with e | e; exact absurd (hi0.symm.trans (hR.f14 e).1) (by decide); exact e
              rw [HFR.out]
              go_simp
              refine (HI.out _ _ _ _ _ _ _ _ _ (hR.r1 (by assumption) (by assumption)) (hR.r3 (by assumption) (by assumption))).mono ?_; rintro e w9 ⟨y1, y2, y3, y4, z1, z2, z3, z4, q1, q2, q3, q4, rfl, P1, P2, hd, hl1, hl2, hb9⟩
              have hsz := hR.hB.size
              exact hK.out _ _ ⟨{ b with l6 := true }, ⟨_, _, _, _, _, _, _, _, _, _, _, _, _, _⟩, ⟨t0, c0, p0, d0, t1, c1, p1, d1, y1, y2, y3, y4, z1, z2, z3, z4, q1, q2, q3, q4, g1, g2⟩, rfl, (HFR.out _ _ _ _ _ _ _ _ _ _ _ _ _ _).symm, ⟨(bel_step hR.hB hb9), (hR.f0), (hR.f1), (fun _ h2 => absurd (show true = false from h2) (by decide)), (hR.f2), (hR.f3), (fun _ h2 => absurd (show true = false from h2) (by decide)), (hR.f4), (hR.f5), (fun _ => rfl), (fun _ => ⟨P1, P2, hd, Nat.le_trans hsz hl1, Nat.le_trans hsz hl2⟩), (fun h => absurd (hi0.symm.trans (hR.f7 h).1) (by decide)), (fun h => absurd (hi0.symm.trans (hR.f8 h).1) (by decide)), (fun h => absurd (hi0.symm.trans (hR.f9 h).1) (by decide)), (fun h => absurd (hi0.symm.trans (hR.f10 h).1) (by decide)), (hR.f11), (fun h => by have hh := (hR.b11 h).bel hb9; rw [es1] at hh; show Blk w9 g1 32 (bif b.l13 then _ else _); rw [es1]; exact hh), (fun h _ => ⟨.inl (Nat.lt_of_lt_of_le (hR.b11 h).lt hl1), .inl (Nat.lt_of_lt_of_le (hR.b11 h).lt hl2)⟩), (hR.f12), (fun h => by have hh := (hR.b12 h).bel hb9; rw [es2] at hh; show Blk w9 g2 32 (bif b.l14 then _ else _); rw [es2]; exact hh), (fun h _ => ⟨.inl (Nat.lt_of_lt_of_le (hR.b12 h).lt hl1), .inl (Nat.lt_of_lt_of_le (hR.b12 h).lt hl2)⟩), (fun h => absurd (hi0.symm.trans (hR.f13 h).1) (by decide)), (fun h => absurd (hi0.symm.trans (hR.f14 h).1) (by decide)), (fun h => absurd (hi0.symm.trans (hR.f15 h).1) (by decide)), (hR.ne)⟩⟩
            · intro listed a W hJ hi hp K hK
              obtain ⟨b, ⟨u0, u1, u2, u3, u4, u5, u6, u7, u8, u9, u10, u11, u12, u15⟩, ⟨t0, c0, p0, d0, t1, c1, p1, d1, tx, cx, px, dx, ty, cy, py, dy, lo1, hi1, lo2, hi2, g1, g2⟩, rfl, rfl, hR⟩ := hJ
              dsimp only at hi hp
              have hi0 : b.l7 = false := by simpa using hi
              simp [Region.binds] at hp
              clear hi
              go_split_ands
              have hf : b.l6 = true := by assumption
              have eq_ := hR.f6 hf
              try dsimp only at eq_
              obtain rfl := eq_
              rw [HFR.out]
              go_simp
              exact hK.out _ _ ⟨{ b with l7 := true }, ⟨_, _, _, _, _, _, _, _, _, _, _, _, _, _⟩, ⟨t0, c0, p0, d0, t1, c1, p1, d1, tx, cx, px, dx, ty, cy, py, dy, lo1, hi1, lo2, hi2, g1, g2⟩, rfl, (HFR.out _ _ _ _ _ _ _ _ _ _ _ _ _ _).symm, ⟨hR.hB, (hR.f0), (hR.f1), (hR.r1), (hR.f2), (hR.f3), (hR.r3), (hR.f4), (hR.f5), (hR.f6), (hR.r6), (fun _ => ⟨hf, rfl⟩), (hR.f8), (hR.f9), (hR.f10), (hR.f11), (hR.b11), (hR.d11), (hR.f12), (hR.b12), (hR.d12), (hR.f13), (hR.f14), (hR.f15), (hR.ne)⟩⟩
            · intro listed a W hJ hi hp K hK
              obtain ⟨b, ⟨u0, u1, u2, u3, u4, u5, u6, u7, u8, u9, u10, u11, u12, u15⟩, ⟨t0, c0, p0, d0, t1, c1, p1, d1, tx, cx, px, dx, ty, cy, py, dy, lo1, hi1, lo2, hi2, g1, g2⟩, rfl, rfl, hR⟩ := hJ
              dsimp only at hi hp
              have hi0 : b.l8 = false := by simpa using hi
              simp [Region.binds] at hp
              clear hi
              go_split_ands
              have eq_ := hR.f7 (by assumption)
              try dsimp only at eq_
              obtain ⟨hf, rfl⟩ := eq_
              rw [HFR.out]
              go_simp
              exact hK.out _ _ ⟨{ b with l8 := true }, ⟨_, _, _, _, _, _, _, _, _, _, _, _, _, _⟩, ⟨t0, c0, p0, d0, t1, c1, p1, d1, tx, cx, px, dx, ty, cy, py, dy, lo1, hi1, lo2, hi2, g1, g2⟩, rfl, (HFR.out _ _ _ _ _ _ _ _ _ _ _ _ _ _).symm, ⟨hR.hB, (hR.f0), (hR.f1), (hR.r1), (hR.f2), (hR.f3), (hR.r3), (hR.f4), (hR.f5), (hR.f6), (hR.r6), (hR.f7), (fun _ => ⟨hf, rfl⟩), (hR.f9), (hR.f10), (hR.f11), (hR.b11), (hR.d11), (hR.f12), (hR.b12), (hR.d12), (hR.f13), (hR.f14), (hR.f15), (hR.ne)⟩⟩
            · intro listed a W hJ hi hp K hK
              obtain ⟨b, ⟨u0, u1, u2, u3, u4, u5, u6, u7, u8, u9, u10, u11, u12, u15⟩, ⟨t0, c0, p0, d0, t1, c1, p1, d1, tx, cx, px, dx, ty, cy, py, dy, lo1, hi1, lo2, hi2, g1, g2⟩, rfl, rfl, hR⟩ := hJ
              dsimp only at hi hp
              have hi0 : b.l9 = false := by simpa using hi
              simp [Region.binds] at hp
              clear hi
              go_split_ands
              have eq_ := hR.f7 (by assumption)
              try dsimp only at eq_
              obtain ⟨hf, rfl⟩ := eq_
              rw [HFR.out]
              go_simp
              exact hK.out _ _ ⟨{ b with l9 := true }, ⟨_, _, _, _, _, _, _, _, _, _, _, _, _, _⟩, ⟨t0, c0, p0, d0, t1, c1, p1, d1, tx, cx, px, dx, ty, cy, py, dy, lo1, hi1, lo2, hi2, g1, g2⟩, rfl, (HFR.out _ _ _ _ _ _ _ _ _ _ _ _ _ _).symm, ⟨hR.hB, (hR.f0), (hR.f1), (hR.r1), (hR.f2), (hR.f3), (hR.r3), (hR.f4), (hR.f5), (hR.f6), (hR.r6), (hR.f7), (hR.f8), (fun _ => ⟨hf, rfl⟩), (hR.f10), (hR.f11), (hR.b11), (hR.d11), (hR.f12), (hR.b12), (hR.d12), (hR.f13), (hR.f14), (hR.f15), (hR.ne)⟩⟩
            · intro listed a W hJ hi hp K hK
              obtain ⟨b, ⟨u0, u1, u2, u3, u4, u5, u6, u7, u8, u9, u10, u11, u12, u15⟩, ⟨t0, c0, p0, d0, t1, c1, p1, d1, tx, cx, px, dx, ty, cy, py, dy, lo1, hi1, lo2, hi2, g1, g2⟩, rfl, rfl, hR⟩ := hJ
              dsimp only at hi hp
              have hi0 : b.l10 = false := by simpa using hi
              simp [Region.binds] at hp
              clear hi
              go_split_ands
              have eq_ := hR.f7 (by assumption)
              try dsimp only at eq_
              obtain ⟨hf, rfl⟩ := eq_
              rw [HFR.out]
              go_simp
              exact hK.out _ _ ⟨{ b with l10 := true }, ⟨_, _, _, _, _, _, _, _, _, _, _, _, _, _⟩, ⟨t0, c0, p0, d0, t1, c1, p1, d1, tx, cx, px, dx, ty, cy, py, dy, lo1, hi1, lo2, hi2, g1, g2⟩, rfl, (HFR.out _ _ _ _ _ _ _ _ _ _ _ _ _ _).symm, ⟨hR.hB, (hR.f0), (hR.f1), (hR.r1), (hR.f2), (hR.f3), (hR.r3), (hR.f4), (hR.f5), (hR.f6), (hR.r6), (hR.f7), (hR.f8), (hR.f9), (fun _ => ⟨hf, rfl⟩), (hR.f11), (hR.b11), (hR.d11), (hR.f12), (hR.b12), (hR.d12), (hR.f13), (hR.f14), (hR.f15), (hR.ne)⟩⟩
            · intro listed a W hJ hi hp K hK
              obtain ⟨b, ⟨u0, u1, u2, u3, u4, u5, u6, u7, u8, u9, u10, u11, u12, u15⟩, ⟨t0, c0, p0, d0, t1, c1, p1, d1, tx, cx, px, dx, ty, cy, py, dy, lo1, hi1, lo2, hi2, g1, g2⟩, rfl, rfl, hR⟩ := hJ
              dsimp only at hi hp
              have hi0 : b.l11 = false := by simpa using hi
              simp [Region.binds] at hp
              clear hi
              go_split_ands
              have hba : Below W.heap.size W (W.alloc (.cells #[Value.slice none 0 0, .int .i64 0, .slice none 0 0] 32)) := (Below.refl _ _).alloc (Nat.le_refl _) _
              have hsz := hR.hB.size
              have es : b.l13 = false := by rcases bcases b.l13 with e | e; exact absurd (hi0.symm.trans (hR.f13 e).2) (by decide); exact e
              rw [HFR.out]
              go_simp
              exact hK.out _ _ ⟨{ b with l11 := true }, ⟨_, _, _, _, _, _, _, _, _, _, _, _, _, _⟩, ⟨t0, c0, p0, d0, t1, c1, p1, d1, tx, cx, px, dx, ty, cy, py, dy, lo1, hi1, lo2, hi2, W.heap.size, g2⟩, rfl, (HFR.out _ _ _ _ _ _ _ _ _ _ _ _ _ _).symm, ⟨(bel_step hR.hB hba), (hR.f0), (hR.f1), (fun h h2 => (hR.r1 h h2).bel hba), (hR.f2), (hR.f3), (fun h h2 => (hR.r3 h h2).bel hba), (hR.f4), (hR.f5), (hR.f6), (fun h => ⟨(hR.r6 h).1.bel hba, (hR.r6 h).2.1.bel hba, (hR.r6 h).2.2⟩), (hR.f7), (hR.f8), (hR.f9), (hR.f10), (fun _ => ⟨rfl, hsz⟩), (fun _ => by show Blk (W.alloc (.cells #[Value.slice none 0 0, .int .i64 0, .slice none 0 0] 32)) W.heap.size 32 (bif b.l13 then _ else _); rw [es]; exact Blk.new _ _ _), (fun _ h => ⟨.inr (hR.r6 h).1.2.2, .inr (hR.r6 h).2.1.2.2⟩), (hR.f12), (fun h => (hR.b12 h).bel hba), (hR.d12), (fun h => ⟨(hR.f13 h).1, rfl⟩), (hR.f14), (hR.f15), (fun _ h => Nat.ne_of_gt (hR.b12 h).lt)⟩⟩
            · intro listed a W hJ hi hp K hK
              obtain ⟨b, ⟨u0, u1, u2, u3, u4, u5, u6, u7, u8, u9, u10, u11, u12, u15⟩, ⟨t0, c0, p0, d0, t1, c1, p1, d1, tx, cx, px, dx, ty, cy, py, dy, lo1, hi1, lo2, hi2, g1, g2⟩, rfl, rfl, hR⟩ := hJ
              dsimp only at hi hp
              have hi0 : b.l12 = false := by simpa using hi
              simp [Region.binds] at hp
              clear hi
              go_split_ands
              have hba : Below W.heap.size W (W.alloc (.cells #[Value.slice none 0 0, .int .i64 0, .slice none 0 0] 32)) := (Below.refl _ _).alloc (Nat.le_refl _) _
              have hsz := hR.hB.size
              have es : b.l14 = false := by rcases bcases b.l14 with e | e; exact absurd (hi0.symm.trans (hR.f14 e).2) (by decide); exact e
              rw [HFR.out]
              go_simp
              exact hK.out _ _ ⟨{ b with l12 := true }, ⟨_, _, _, _, _, _, _, _, _, _, _, _, _, _⟩, ⟨t0, c0, p0, d0, t1, c1, p1, d1, tx, cx, px, dx, ty, cy, py, dy, lo1, hi1, lo2, hi2, g1, W.heap.size⟩, rfl, (HFR.out _ _ _ _ _ _ _ _ _ _ _ _ _ _).symm, ⟨(bel_step hR.hB hba), (hR.f0), (hR.f1), (fun h h2 => (hR.r1 h h2).bel hba), (hR.f2), (hR.f3), (fun h h2 => (hR.r3 h h2).bel hba), (hR.f4), (hR.f5), (hR.f6), (fun h => ⟨(hR.r6 h).1.bel hba, (hR.r6 h).2.1.bel hba, (hR.r6 h).2.2⟩), (hR.f7), (hR.f8), (hR.f9), (hR.f10), (hR.f11), (fun h => (hR.b11 h).bel hba), (hR.d11), (fun _ => ⟨rfl, hsz⟩), (fun _ => by show Blk (W.alloc (.cells #[Value.slice none 0 0, .int .i64 0, .slice none 0 0] 32)) W.heap.size 32 (bif b.l14 then _ else _); rw [es]; exact Blk.new _ _ _), (fun _ h => ⟨.inr (hR.r6 h).1.2.2, .inr (hR.r6 h).2.1.2.2⟩), (hR.f13), (fun h => ⟨(hR.f14 h).1, rfl⟩), (hR.f15), (fun h _ => Nat.ne_of_lt (hR.b11 h).lt)⟩⟩
            · intro listed a W hJ hi hp K hK
              obtain ⟨b, ⟨u0, u1, u2, u3, u4, u5, u6, u7, u8, u9, u10, u11, u12, u15⟩, ⟨t0, c0, p0, d0, t1, c1, p1, d1, tx, cx, px, dx, ty, cy, py, dy, lo1, hi1, lo2, hi2, g1, g2⟩, rfl, rfl, hR⟩ := hJ
              dsimp only at hi hp
              have hi0 : b.l13 = false := by simpa using hi
              simp [Region.binds] at hp
              clear hi
              go_split_ands
              have eq_ := hR.f8 (by assumption)
              try dsimp only at eq_
              obtain ⟨hf, rfl⟩ := eq_
              have ha : b.l11 = true := by assumption
              have eq_ := hR.f11 ha
              try dsimp only at eq_
              obtain ⟨rfl, hg⟩ := eq_
              have hk := hR.b11 ha
              rw [hi0] at hk
              replace hk : Blk W g1 32 #[Value.slice none 0 0, .int .i64 0, .slice none 0 0] := hk
              have hc := hk.cell
              have hfz := hk.frozen
              have hlt := hk.lt
              obtain ⟨ro1, ro2, ro3, ro4, ro5⟩ := hR.r6 hf
              obtain ⟨dd1, dd2⟩ := hR.d11 ha hf
              rw [HFR.out]
              go_simp
              exact hK.out _ _ ⟨{ b with l13 := true }, ⟨_, _, _, _, _, _, _, _, _, _, _, _, _, _⟩, ⟨t0, c0, p0, d0, t1, c1, p1, d1, tx, cx, px, dx, ty, cy, py, dy, lo1, hi1, lo2, hi2, g1, g2⟩, rfl, (HFR.out _ _ _ _ _ _ _ _ _ _ _ _ _ _).symm, ⟨(bel_three' hR.hB hg), (hR.f0), (hR.f1), (fun _ h2 => absurd (h2.symm.trans hf) (by decide)), (hR.f2), (hR.f3), (fun _ h2 => absurd (h2.symm.trans hf) (by decide)), (hR.f4), (hR.f5), (hR.f6), (fun _ => ⟨ro1.three dd1, ro2.three dd2, ro3, ro4, ro5⟩), (hR.f7), (hR.f8), (hR.f9), (hR.f10), (hR.f11), (fun _ => hk.three), (hR.d11), (hR.f12), (fun h => (hR.b12 h).farn (fun e => hR.ne ha h e.symm)), (hR.d12), (fun _ => ⟨hf, ha⟩), (hR.f14), (hR.f15), (hR.ne)⟩⟩
            · intro listed a W hJ hi hp K hK
              obtain ⟨b, ⟨u0, u1, u2, u3, u4, u5, u6, u7, u8, u9, u10, u11, u12, u15⟩, ⟨t0, c0, p0, d0, t1, c1, p1, d1, tx, cx, px, dx, ty, cy, py, dy, lo1, hi1, lo2, hi2, g1, g2⟩, rfl, rfl, hR⟩ := hJ
              dsimp only at hi hp
              have hi0 : b.l14 = false := by simpa using hi
              simp [Region.binds] at hp
              clear hi
              go_split_ands
              have eq_ := hR.f9 (by assumption)
              try dsimp only at eq_
              obtain ⟨hf, rfl⟩ := eq_
              have ha : b.l12 = true := by assumption
              have eq_ := hR.f12 ha
              try dsimp only at eq_
              obtain ⟨rfl, hg⟩ := eq_
              have hk := hR.b12 ha
              rw [hi0] at hk
              replace hk : Blk W g2 32 #[Value.slice none 0 0, .int .i64 0, .slice none 0 0] := hk
              have hc := hk.cell
              have hfz := hk.frozen
              have hlt := hk.lt
              obtain ⟨ro1, ro2, ro3, ro4, ro5⟩ := hR.r6 hf
              obtain ⟨dd1, dd2⟩ := hR.d12 ha hf
              rw [HFR.out]
              go_simp
              exact hK.out _ _ ⟨{ b with l14 := true }, ⟨_, _, _, _, _, _, _, _, _, _, _, _, _, _⟩, ⟨t0, c0, p0, d0, t1, c1, p1, d1, tx, cx, px, dx, ty, cy, py, dy, lo1, hi1, lo2, hi2, g1, g2⟩, rfl, (HFR.out _ _ _ _ _ _ _ _ _ _ _ _ _ _).symm, ⟨(bel_three' hR.hB hg), (hR.f0), (hR.f1), (fun _ h2 => absurd (h2.symm.trans hf) (by decide)), (hR.f2), (hR.f3), (fun _ h2 => absurd (h2.symm.trans hf) (by decide)), (hR.f4), (hR.f5), (hR.f6), (fun _ => ⟨ro1.three dd1, ro2.three dd2, ro3, ro4, ro5⟩), (hR.f7), (hR.f8), (hR.f9), (hR.f10), (hR.f11), (fun h => (hR.b11 h).farn (fun e => hR.ne h ha e)), (hR.d11), (hR.f12), (fun _ => hk.three), (hR.d12), (hR.f13), (fun _ => ⟨hf, ha⟩), (hR.f15), (hR.ne)⟩⟩
            · intro listed a W hJ hi hp K hK
              obtain ⟨b, ⟨u0, u1, u2, u3, u4, u5, u6, u7, u8, u9, u10, u11, u12, u15⟩, ⟨t0, c0, p0, d0, t1, c1, p1, d1, tx, cx, px, dx, ty, cy, py, dy, lo1, hi1, lo2, hi2, g1, g2⟩, rfl, rfl, hR⟩ := hJ
              dsimp only at hi hp
              have hi0 : b.l15 = false := by simpa using hi
              simp [Region.binds] at hp
              clear hi
              go_split_ands
              have eq_ := hR.f10 (by assumption)
              try dsimp only at eq_
              obtain ⟨hf, rfl⟩ := eq_
              rw [HFR.out]
              go_simp
              exact hK.out _ _ ⟨{ b with l15 := true }, ⟨_, _, _, _, _, _, _, _, _, _, _, _, _, _⟩, ⟨t0, c0, p0, d0, t1, c1, p1, d1, tx, cx, px, dx, ty, cy, py, dy, lo1, hi1, lo2, hi2, g1, g2⟩, rfl, (HFR.out _ _ _ _ _ _ _ _ _ _ _ _ _ _).symm, ⟨hR.hB, (hR.f0), (hR.f1), (hR.r1), (hR.f2), (hR.f3), (hR.r3), (hR.f4), (hR.f5), (hR.f6), (hR.r6), (hR.f7), (hR.f8), (hR.f9), (hR.f10), (hR.f11), (hR.b11), (hR.d11), (hR.f12), (hR.b12), (hR.d12), (hR.f13), (hR.f14), (fun _ => ⟨hf, rfl⟩), (hR.ne)⟩⟩
          · intro a W hJ
            obtain ⟨⟨l0, l1, l2, l3, l4, l5, l6, l7, l8, l9, l10, l11, l12, l13, l14, l15⟩, ⟨u0, u1, u2, u3, u4, u5, u6, u7, u8, u9, u10, u11, u12, u15⟩, ⟨t0, c0, p0, d0, t1, c1, p1, d1, tx, cx, px, dx, ty, cy, py, dy, lo1, hi1, lo2, hi2, g1, g2⟩, hl, rfl, ⟨hB, f0, f1, r1, f2, f3, r3, f4, f5, f6, r6, f7, f8, f9, f10, f11, b11, d11, f12, b12, d12, f13, f14, f15, ne⟩⟩ := hJ
            dsimp only at hl f0 f1 r1 f2 f3 r3 f4 f5 f6 r6 f7 f8 f9 f10 f11 b11 d11 f12 b12 d12 f13 f14 f15 ne
            have hl2 : (#[true, true, true, true, true, true, true, true, true, true, true, true, true, true, true, true] : Array Bool) = #[l0, l1, l2, l3, l4, l5, l6, l7, l8, l9, l10, l11, l12, l13, l14, l15] := hl
            simp only [Array.mk.injEq, List.cons.injEq, and_true] at hl2
            obtain ⟨rfl, rfl, rfl, rfl, rfl, rfl, rfl, rfl, rfl, rfl, rfl, rfl, rfl, rfl, rfl, rfl⟩ := hl2
            clear hl
            obtain ⟨rfl, hg1⟩ := f11 rfl
            obtain ⟨rfl, hg2⟩ := f12 rfl
            obtain ⟨_, rfl⟩ := f15 rfl
            obtain ⟨ro1, ro2, ro3, ro4, ro5⟩ := r6 rfl
            obtain ⟨dd1, dd2⟩ := d11 rfl rfl
            obtain ⟨dd3, dd4⟩ := d12 rfl rfl
            have B1 := b11 rfl
            have B2 := b12 rfl
            clear f0 f1 r1 f2 f3 r3 f4 f5 f6 f7 f8 f9 f10 b11 b12 f13 f14 ne
            rw [HFR.out]
            go_wp2_with fail
            go_meet
            exact ⟨g1, g2, tx, cx, px, dx, ty, cy, py, dy, lo1, hi1, lo2, hi2, rfl, rfl, rfl, hg1, hg2, B1, B2, ro1, ro2, ro3, ro4, ro5, hB, dd1, dd2, dd3, dd4⟩
        case rest =>
          obtain ⟨gi, gj, t21, c21, p21, d21, t77, c77, p77, d77, l21, h21, l77, h77, rfl, rfl, rfl, egi, egj, hBi, hBj, O21, O77, hd21, hl21, hl77, hb21, k21a, k21b, k21c, k21d⟩ := hcut
          replace hBa := hBa.bel hb21
          replace hBb := hBb.bel hb21
          replace hBc := hBc.bel hb21
          replace hBw := hBw.bel hb21
          replace hBv := hBv.bel hb21
          replace hBg := hBg.bel hb21
          replace hBh := hBh.bel hb21
          replace O3 := O3.bel hb21
          replace O33 := O33.bel hb21
          replace M6 := M6.bel hb21
          replace M66 := M66.bel hb21
          replace hW := bel_step hW hb21
          clear hb21
          have chBi := hBi.cell
          have chBw := hBw.cell
          go_wp2_with fail
          refine (l_eqReachO vo O21 O3 hnf' hmf').mono ?_; rintro e w22 ⟨rfl, hb22⟩
          clear chBi chBw
          replace hBa := hBa.bel hb22
          replace hBb := hBb.bel hb22
          replace hBc := hBc.bel hb22
          replace hBw := hBw.bel hb22
          replace hBv := hBv.bel hb22
          replace hBg := hBg.bel hb22
          replace hBh := hBh.bel hb22
          replace hBi := hBi.bel hb22
          replace hBj := hBj.bel hb22
          replace O3 := O3.bel hb22
          replace O33 := O33.bel hb22
          replace M6 := M6.bel hb22
          replace M66 := M66.bel hb22
          replace O21 := O21.bel hb22
          replace O77 := O77.bel hb22
          replace hW := bel_step hW hb22
          have hs22 := hb22.size
          try simp only [World.size_alloc] at hs22
          clear hb22
          have chBj := hBj.cell
          have chBv := hBv.cell
          go_wp2_with fail
          refine (l_eqReachO vp O77 O33 hnt' hzp).mono ?_; rintro e w23 ⟨rfl, hb23⟩
          clear chBj chBv
          replace hBa := hBa.bel hb23
          replace hBb := hBb.bel hb23
          replace hBc := hBc.bel hb23
          replace hBw := hBw.bel hb23
          replace hBv := hBv.bel hb23
          replace hBg := hBg.bel hb23
          replace hBh := hBh.bel hb23
          replace hBi := hBi.bel hb23
          replace hBj := hBj.bel hb23
          replace O3 := O3.bel hb23
          replace O33 := O33.bel hb23
          replace M6 := M6.bel hb23
          replace M66 := M66.bel hb23
          replace O21 := O21.bel hb23
          replace O77 := O77.bel hb23
          replace hW := bel_step hW hb23
          have hs23 := hb23.size
          try simp only [World.size_alloc] at hs23
          clear hb23
          have chBg := hBg.cell
          go_wp2_with fail
          refine (l_heldReach t6 pf.length c6 vo p6 zf.length d6 1 _ _ M6.pts M6.nums (Nat.le_refl _) hnf' hmf' (by omega) (by omega)).mono ?_; rintro e w24 ⟨rfl, hb24⟩
          clear chBg
          replace hBa := hBa.bel hb24
          replace hBb := hBb.bel hb24
          replace hBc := hBc.bel hb24
          replace hBw := hBw.bel hb24
          replace hBv := hBv.bel hb24
          replace hBg := hBg.bel hb24
          replace hBh := hBh.bel hb24
          replace hBi := hBi.bel hb24
          replace hBj := hBj.bel hb24
          replace O3 := O3.bel hb24
          replace O33 := O33.bel hb24
          replace M6 := M6.bel hb24
          replace M66 := M66.bel hb24
          replace O21 := O21.bel hb24
          replace O77 := O77.bel hb24
          replace hW := bel_step hW hb24
          have hs24 := hb24.size
          try simp only [World.size_alloc] at hs24
          clear hb24
          have chBh := hBh.cell
          go_wp2_with fail
          refine (l_heldReach t66 pt.length c66 vp p66 zp.length d66 _ _ _ M66.pts M66.nums (Nat.le_refl _) hnt' hzp (by omega) (by omega)).mono ?_; rintro e w25 ⟨rfl, hb25⟩
          clear chBh
          replace hBa := hBa.bel hb25
          replace hBb := hBb.bel hb25
          replace hBc := hBc.bel hb25
          replace hBw := hBw.bel hb25
          replace hBv := hBv.bel hb25
          replace hBg := hBg.bel hb25
          replace hBh := hBh.bel hb25
          replace hBi := hBi.bel hb25
          replace hBj := hBj.bel hb25
          replace O3 := O3.bel hb25
          replace O33 := O33.bel hb25
          replace M6 := M6.bel hb25
          replace M66 := M66.bel hb25
          replace O21 := O21.bel hb25
          replace O77 := O77.bel hb25
          replace hW := bel_step hW hb25
          have hs25 := hb25.size
          try simp only [World.size_alloc] at hs25
          clear hb25
          go_wp2
          go_ret
          exact ⟨rfl, hW⟩
end Go.Proofs.Ytlnmpdkbkkmhiaa
