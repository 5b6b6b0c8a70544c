/- The walk of the law FnPassedOn. -/
import Derived.Test.YtgbncfjabnaokabDrP
import Derived.BigQuiet
namespace Go.Proofs.Ytgbncfjabnaokab
open Go.RowKit
theorem quiet_class {P : Program} {C : World → Prop} {id : Nat} {Q : Exit → Act → World → Prop} {a : Act} {w : World} {l : List Oper} (hm : P.follows .mixedOrders = true) (hB : Region.lexB .any l.toArray = true) (hC : C w.drew)
    (h : wpQuiet P l.toArray C (fun a' => ∀ w', C w' → Q .normal a' w') l a) : (Code.region id l.toArray true).wp P Q a w :=
  wp_region_quiet (C := C) hm hB hC (by simpa using h)
theorem quiet_one {P : Program} {ops : Array Oper} {C : World → Prop} {Q : Act → Prop} {o : Oper} {rest : List Oper} {a : Act} {v : Value} (hw : Region.wanted o (yielded ops a.tmps) = true) (hy : ∀ w, C w → o.quietAt P a C w v) (h : wpQuiet P ops C Q rest (a.put o.dst v)) : wpQuiet P ops C Q (o :: rest) a :=
  BigFrame.wpQuiet_want hw (fun _ hK => ⟨v, hy, hK _ h⟩)
set_option maxHeartbeats 80000000 in
set_option maxRecDepth 100000 in
theorem walk_FnPassedOn (A : Option Addr) (n c : Nat) (zs : List Int) (w : World) (hB : BytesAt w w.heap.size A n zs) :
    Calls Try.prog 6 #[.slice A n c] w fun e w' => e = .returned (.bool true) ∧ Below w.heap.size w w' := by
  by_cases hbig : 1048576 < n
  · have hb : decide (1048576 < n) = true := by simpa using hbig
    clear hB
    go_enter Try.func6, Try.ntmps6
    go_wp2_with (go_at_call 20; refine (l_big _ _ _ _).mono ?_; rintro e w' ⟨rfl, rfl⟩)
    go_ret
    exact ⟨rfl, Below.refl _ _⟩
  · have hb : decide (1048576 < n) = false := by simpa using hbig
    go_enter Try.func6, Try.ntmps6
    go_wp2_with fail
    refine (l_big _ _ _ _).mono ?_; rintro e w' ⟨rfl, rfl⟩
    go_wp2_with fail
    refine (s_DrawReaches A n c zs _ hB (by omega)).mono ?_; rintro e w1 ⟨lA, lc, ds, rfl, l2, l4, hv, hR, hW0⟩
    have HA := Lib.hid (fun (W : World) (hb : Below w1.heap.size w1 W) (k : Nat) (hk : k ≤ 1000) (i : Int) (hik : i = (k : Int)) => l_atK A n c zs i k w.heap.size W hik ((hB.below hW0).below (hb.mono hW0.size)) hk (by omega))
    have a0 := atV_bd hB 0
    have a1 := atV_bd hB 1
    clear hB hb
    obtain ⟨bb, off, tA, tc, pa, va, pA, pc, za, sa, rfl, hbl, _, D, hc⟩ := one_drawn hv hR (show 0 < ds.length by omega)
    obtain ⟨bb', off', tB, td, pb, vb, pB, pd, zb, sb, hbe, _, _, D', hc'⟩ := one_drawn hv hR (show 1 < ds.length by omega)
    simp only [Option.some.injEq, Addr.mk.injEq, and_true] at hbe
    obtain ⟨rfl, rfl⟩ := hbe
    have g1 : (1 : Int) < (ds.length : Int) := by omega
    have g0 : (0 : Int) < (ds.length : Int) := by omega
    clear hv hR l4
    generalize ds.length = len at *
    rw [Nat.zero_mul, Nat.add_zero] at hc
    rw [Nat.one_mul] at hc'
    obtain ⟨c0, c1, c2, hl⟩ := hc w1 (Below.refl _ _)
    have HC := Lib.hid hc'
    clear hc hc'
    obtain ⟨x0, hx0⟩ : ∃ x, x = atV zs 0 := ⟨_, rfl⟩
    obtain ⟨x1, hx1⟩ : ∃ x, x = atV zs 1 := ⟨_, rfl⟩
    rw [← hx0] at a0
    rw [← hx1] at a1
    have HX0 := Lib.hid hx0
    have HX1 := Lib.hid hx1
    clear hx0 hx1
    obtain ⟨m, vy, zy, hN, e1, e2, e3, e4⟩ := pass_drawn D D' (x0 * 9) (x1 * 5) (by omega) (by omega) (by omega) (by omega)
    have HPs := Lib.hid (fun (W : World) (hb : Below w1.heap.size w1 W) => D.passOn D' tc pc td pd (W := W) (amount := x0 * 9) (keep := x1 * 5) (by omega) (by omega) e1 e2 e3 hb)
    have HTk := Lib.hid (fun (W : World) (hb : Below w1.heap.size w1 W) => D.takeOff tc pc (W := W) (amount := x0 * 9) (keep := x1 * 5) (by omega) (by omega) e4 hb)
    have HTa := Lib.hid (fun (W : World) (hb : Below w1.heap.size w1 W) => D.total tc pc (W := W) hb)
    have HTb := Lib.hid (fun (W : World) (hb : Below w1.heap.size w1 W) => D'.total td pd (W := W) hb)
    have HSb := Lib.hid (fun (W : World) (hb : Below w1.heap.size w1 W) => D'.space td pd (W := W) hb)
    obtain ⟨q0, q1, q2, q3, q4, q5, q6, q7, q8, q9⟩ := hN
    have b1 := D.vols
    have b2 := D.s7
    have b3 := D'.s7
    have b4 := D.vol0
    have b5 := D'.vols
    have b6 := D'.vol0
    have lpa := D.pl
    have lza := D.zl
    have lpb := D'.pl
    clear D D' e1 e2 e3 e4
    have KX := Lib.hid q5
    have KY := Lib.hid q7
    have SX := Lib.hid q6
    have SY := Lib.hid q8
    clear q5 q6 q7 q8
    have hW : Below w1.heap.size w1 w1 := Below.refl _ _
    obtain ⟨hBa, hbb, _⟩ := boxN w1 29 #[.slice tA pa.length tc, .int .i64 va, .slice pA za.length pc]
    replace hW := bel_step hW hbb
    clear hbb
    obtain ⟨c3, c4, c5, hl1⟩ := HC.out _ hW
    have hbb : Below (w1.alloc (.cells #[.slice tA pa.length tc, .int .i64 va, .slice pA za.length pc] 29)).heap.size (w1.alloc (.cells #[.slice tA pa.length tc, .int .i64 va, .slice pA za.length pc] 29)) ((w1.alloc (.cells #[.slice tA pa.length tc, .int .i64 va, .slice pA za.length pc] 29)).alloc (.cells #[.slice tB pb.length td, .int .i64 vb, .slice pB zb.length pd] 29)) := (Below.refl _ _).alloc (Nat.le_refl _) _
    have hBb : Blk ((w1.alloc (.cells #[.slice tA pa.length tc, .int .i64 va, .slice pA za.length pc] 29)).alloc (.cells #[.slice tB pb.length td, .int .i64 vb, .slice pB zb.length pd] 29)) (w1.heap.size + 1) 29 #[.slice tB pb.length td, .int .i64 vb, .slice pB zb.length pd] := blk_new (by simp)
    replace hBa := hBa.bel hbb
    replace hW := bel_step hW hbb
    clear hbb
    go_wp2_with fail
    refine (HA.out _ hW 0 (by omega) _ rfl).mono ?_; rintro e w' ⟨rfl, rfl⟩
    rw [← HX0.out]
    clear c0 c1 c2 c3 c4 c5
    go_wp2_with fail
    refine (HA.out _ hW 1 (by omega) _ rfl).mono ?_; rintro e w' ⟨rfl, rfl⟩
    rw [← HX1.out]
    have chBa := hBa.cell
    have chBb := hBb.cell
    go_wp2_with fail
    refine (HPs.out _ hW).mono ?_; rintro e w4 ⟨tx, cx, px, dx, ty, cy, py, dy, lo1, hi1, lo2, hi2, rfl, O1, O2, hdd, hl1, hl2, hb4⟩
    clear chBa chBb
    replace hBa := hBa.bel hb4
    replace hBb := hBb.bel hb4
    replace hW := bel_step hW hb4
    clear hb4 hdd hl1 hl2
    obtain ⟨hBx, hbb, _⟩ := boxN w4 29 #[.slice tx pa.length cx, .int .i64 (va - m), .slice px za.length dx]
    replace hBa := hBa.bel hbb
    replace hBb := hBb.bel hbb
    replace O1 := O1.bel hbb
    replace O2 := O2.bel hbb
    replace hW := bel_step hW hbb
    clear hbb
    have hbb : Below (w4.alloc (.cells #[.slice tx pa.length cx, .int .i64 (va - m), .slice px za.length dx] 29)).heap.size (w4.alloc (.cells #[.slice tx pa.length cx, .int .i64 (va - m), .slice px za.length dx] 29)) ((w4.alloc (.cells #[.slice tx pa.length cx, .int .i64 (va - m), .slice px za.length dx] 29)).alloc (.cells #[.slice ty pb.length cy, .int .i64 vy, .slice py zy.length dy] 29)) := (Below.refl _ _).alloc (Nat.le_refl _) _
    have hBy : Blk ((w4.alloc (.cells #[.slice tx pa.length cx, .int .i64 (va - m), .slice px za.length dx] 29)).alloc (.cells #[.slice ty pb.length cy, .int .i64 vy, .slice py zy.length dy] 29)) (w4.heap.size + 1) 29 #[.slice ty pb.length cy, .int .i64 vy, .slice py zy.length dy] := blk_new (by simp)
    replace hBa := hBa.bel hbb
    replace hBb := hBb.bel hbb
    replace hBx := hBx.bel hbb
    replace O1 := O1.bel hbb
    replace O2 := O2.bel hbb
    replace hW := bel_step hW hbb
    clear hbb
    have chBa := hBa.cell
    go_wp2_with fail
    refine (HTk.out _ hW).mono ?_; rintro e w7 ⟨tz, cz, pz, dz, rfl, hR7, hS7, hb7⟩
    clear chBa
    replace hBa := hBa.bel hb7
    replace hBb := hBb.bel hb7
    replace hBx := hBx.bel hb7
    replace hBy := hBy.bel hb7
    replace O1 := O1.bel hb7
    replace O2 := O2.bel hb7
    replace hW := bel_step hW hb7
    clear hb7 hR7 hS7
    obtain ⟨hBz, hbb, _⟩ := boxN w7 29 #[.slice tz pa.length cz, .int .i64 (va - m), .slice pz za.length dz]
    replace hBa := hBa.bel hbb
    replace hBb := hBb.bel hbb
    replace hBx := hBx.bel hbb
    replace hBy := hBy.bel hbb
    replace O1 := O1.bel hbb
    replace O2 := O2.bel hbb
    replace hW := bel_step hW hbb
    clear hbb
    go_wp2_with fail
    dsimp only [List.append]
    generalize hg9 : w7.alloc (.cells #[.slice tz pa.length cz, .int .i64 (va - m), .slice pz za.length dz] 29) = W9 at *
    have hgl : w1.heap.size < W9.heap.size ∧ w1.heap.size + 1 < W9.heap.size ∧ w4.heap.size < W9.heap.size ∧ w4.heap.size + 1 < W9.heap.size ∧ w7.heap.size < W9.heap.size := ⟨hBa.lt, hBb.lt, hBx.lt, hBy.lt, hBz.lt⟩
    have S8 : (∀ i, W9.drew.cell? ⟨w1.heap.size, i, none⟩ = #[.slice tA pa.length tc, .int .i64 va, .slice pA za.length pc][i]?) ∧ (∀ i, W9.drew.cell? ⟨w1.heap.size + 1, i, none⟩ = #[.slice tB pb.length td, .int .i64 vb, .slice pB zb.length pd][i]?) ∧ (∀ i, W9.drew.cell? ⟨w4.heap.size, i, none⟩ = #[.slice tx pa.length cx, .int .i64 (va - m), .slice px za.length dx][i]?) ∧ (∀ i, W9.drew.cell? ⟨w4.heap.size + 1, i, none⟩ = #[.slice ty pb.length cy, .int .i64 vy, .slice py zy.length dy][i]?) ∧ (∀ i, W9.drew.cell? ⟨w7.heap.size, i, none⟩ = #[.slice tz pa.length cz, .int .i64 (va - m), .slice pz za.length dz][i]?) ∧ (w1.heap.size < W9.heap.size ∧ w1.heap.size + 1 < W9.heap.size ∧ w4.heap.size < W9.heap.size ∧ w4.heap.size + 1 < W9.heap.size ∧ w7.heap.size < W9.heap.size) ∧ Below W9.heap.size W9 W9.drew := ⟨hBa.drew.cell, hBb.drew.cell, hBx.drew.cell, hBy.drew.cell, hBz.drew.cell, hgl, (Below.refl _ _).drew⟩
    have HSX := Lib.hid (fun (W W1 : World) (hb : Below W.heap.size W W1) (h : (∀ i, W.cell? ⟨w1.heap.size, i, none⟩ = #[.slice tA pa.length tc, .int .i64 va, .slice pA za.length pc][i]?) ∧ (∀ i, W.cell? ⟨w1.heap.size + 1, i, none⟩ = #[.slice tB pb.length td, .int .i64 vb, .slice pB zb.length pd][i]?) ∧ (∀ i, W.cell? ⟨w4.heap.size, i, none⟩ = #[.slice tx pa.length cx, .int .i64 (va - m), .slice px za.length dx][i]?) ∧ (∀ i, W.cell? ⟨w4.heap.size + 1, i, none⟩ = #[.slice ty pb.length cy, .int .i64 vy, .slice py zy.length dy][i]?) ∧ (∀ i, W.cell? ⟨w7.heap.size, i, none⟩ = #[.slice tz pa.length cz, .int .i64 (va - m), .slice pz za.length dz][i]?) ∧ (w1.heap.size < W9.heap.size ∧ w1.heap.size + 1 < W9.heap.size ∧ w4.heap.size < W9.heap.size ∧ w4.heap.size + 1 < W9.heap.size ∧ w7.heap.size < W9.heap.size) ∧ Below W9.heap.size W9 W) => (five_below hb h : (∀ i, W1.cell? ⟨w1.heap.size, i, none⟩ = #[.slice tA pa.length tc, .int .i64 va, .slice pA za.length pc][i]?) ∧ (∀ i, W1.cell? ⟨w1.heap.size + 1, i, none⟩ = #[.slice tB pb.length td, .int .i64 vb, .slice pB zb.length pd][i]?) ∧ (∀ i, W1.cell? ⟨w4.heap.size, i, none⟩ = #[.slice tx pa.length cx, .int .i64 (va - m), .slice px za.length dx][i]?) ∧ (∀ i, W1.cell? ⟨w4.heap.size + 1, i, none⟩ = #[.slice ty pb.length cy, .int .i64 vy, .slice py zy.length dy][i]?) ∧ (∀ i, W1.cell? ⟨w7.heap.size, i, none⟩ = #[.slice tz pa.length cz, .int .i64 (va - m), .slice pz za.length dz][i]?) ∧ (w1.heap.size < W9.heap.size ∧ w1.heap.size + 1 < W9.heap.size ∧ w4.heap.size < W9.heap.size ∧ w4.heap.size + 1 < W9.heap.size ∧ w7.heap.size < W9.heap.size) ∧ Below W9.heap.size W9 W1))
    have HSB := Lib.hid (fun (W : World) (h : (∀ i, W.cell? ⟨w1.heap.size, i, none⟩ = #[.slice tA pa.length tc, .int .i64 va, .slice pA za.length pc][i]?) ∧ (∀ i, W.cell? ⟨w1.heap.size + 1, i, none⟩ = #[.slice tB pb.length td, .int .i64 vb, .slice pB zb.length pd][i]?) ∧ (∀ i, W.cell? ⟨w4.heap.size, i, none⟩ = #[.slice tx pa.length cx, .int .i64 (va - m), .slice px za.length dx][i]?) ∧ (∀ i, W.cell? ⟨w4.heap.size + 1, i, none⟩ = #[.slice ty pb.length cy, .int .i64 vy, .slice py zy.length dy][i]?) ∧ (∀ i, W.cell? ⟨w7.heap.size, i, none⟩ = #[.slice tz pa.length cz, .int .i64 (va - m), .slice pz za.length dz][i]?) ∧ (w1.heap.size < W9.heap.size ∧ w1.heap.size + 1 < W9.heap.size ∧ w4.heap.size < W9.heap.size ∧ w4.heap.size + 1 < W9.heap.size ∧ w7.heap.size < W9.heap.size) ∧ Below W9.heap.size W9 W) => (bel_step hW h.2.2.2.2.2.2 : Below w1.heap.size w1 W))
    have HTx := Lib.hid (fun (W : World) (h : (∀ i, W.cell? ⟨w1.heap.size, i, none⟩ = #[.slice tA pa.length tc, .int .i64 va, .slice pA za.length pc][i]?) ∧ (∀ i, W.cell? ⟨w1.heap.size + 1, i, none⟩ = #[.slice tB pb.length td, .int .i64 vb, .slice pB zb.length pd][i]?) ∧ (∀ i, W.cell? ⟨w4.heap.size, i, none⟩ = #[.slice tx pa.length cx, .int .i64 (va - m), .slice px za.length dx][i]?) ∧ (∀ i, W.cell? ⟨w4.heap.size + 1, i, none⟩ = #[.slice ty pb.length cy, .int .i64 vy, .slice py zy.length dy][i]?) ∧ (∀ i, W.cell? ⟨w7.heap.size, i, none⟩ = #[.slice tz pa.length cz, .int .i64 (va - m), .slice pz za.length dz][i]?) ∧ (w1.heap.size < W9.heap.size ∧ w1.heap.size + 1 < W9.heap.size ∧ w4.heap.size < W9.heap.size ∧ w4.heap.size + 1 < W9.heap.size ∧ w7.heap.size < W9.heap.size) ∧ Below W9.heap.size W9 W) => ro_total (O1.bel h.2.2.2.2.2.2) KX.out SX.out lpa lza)
    have HTy := Lib.hid (fun (W : World) (h : (∀ i, W.cell? ⟨w1.heap.size, i, none⟩ = #[.slice tA pa.length tc, .int .i64 va, .slice pA za.length pc][i]?) ∧ (∀ i, W.cell? ⟨w1.heap.size + 1, i, none⟩ = #[.slice tB pb.length td, .int .i64 vb, .slice pB zb.length pd][i]?) ∧ (∀ i, W.cell? ⟨w4.heap.size, i, none⟩ = #[.slice tx pa.length cx, .int .i64 (va - m), .slice px za.length dx][i]?) ∧ (∀ i, W.cell? ⟨w4.heap.size + 1, i, none⟩ = #[.slice ty pb.length cy, .int .i64 vy, .slice py zy.length dy][i]?) ∧ (∀ i, W.cell? ⟨w7.heap.size, i, none⟩ = #[.slice tz pa.length cz, .int .i64 (va - m), .slice pz za.length dz][i]?) ∧ (w1.heap.size < W9.heap.size ∧ w1.heap.size + 1 < W9.heap.size ∧ w4.heap.size < W9.heap.size ∧ w4.heap.size + 1 < W9.heap.size ∧ w7.heap.size < W9.heap.size) ∧ Below W9.heap.size W9 W) => ro_total (O2.bel h.2.2.2.2.2.2) KY.out SY.out lpb q9)
    have HSy := Lib.hid (fun (W : World) (h : (∀ i, W.cell? ⟨w1.heap.size, i, none⟩ = #[.slice tA pa.length tc, .int .i64 va, .slice pA za.length pc][i]?) ∧ (∀ i, W.cell? ⟨w1.heap.size + 1, i, none⟩ = #[.slice tB pb.length td, .int .i64 vb, .slice pB zb.length pd][i]?) ∧ (∀ i, W.cell? ⟨w4.heap.size, i, none⟩ = #[.slice tx pa.length cx, .int .i64 (va - m), .slice px za.length dx][i]?) ∧ (∀ i, W.cell? ⟨w4.heap.size + 1, i, none⟩ = #[.slice ty pb.length cy, .int .i64 vy, .slice py zy.length dy][i]?) ∧ (∀ i, W.cell? ⟨w7.heap.size, i, none⟩ = #[.slice tz pa.length cz, .int .i64 (va - m), .slice pz za.length dz][i]?) ∧ (w1.heap.size < W9.heap.size ∧ w1.heap.size + 1 < W9.heap.size ∧ w4.heap.size < W9.heap.size ∧ w4.heap.size + 1 < W9.heap.size ∧ w7.heap.size < W9.heap.size) ∧ Below W9.heap.size W9 W) => ro_space (O2.bel h.2.2.2.2.2.2) KY.out SY.out lpb q9)
    clear O1 O2 hBa hBb hBx hBy hBz hgl hg9 SX SY KX KY
    have t1 : (sa - m + (sb + m) == sa + sb) = true := by rw [beq_iff_eq]; omega
    have t1d : sa - m + (sb + m) = sa + sb := by omega
    have t2 : (1000000000 - (sb + m) == 1000000000 - sb - m) = true := by rw [beq_iff_eq]; omega
    have t2d : 1000000000 - (sb + m) = 1000000000 - sb - m := by omega
    have hcs : ((m == 0) = true ∨ ((m == 0) = false ∧ x1 * 5 ≤ va - m)) ∧ ((m == x0 * 9) = true ∨ ((m == x0 * 9) = false ∧ va - m ≤ x1 * 5)) := by simp only [beq_iff_eq, beq_eq_false_iff_ne, ne_eq]; omega
    have wr0 : IntKind.i64.wrap (sa - m + (sb + m)) = sa - m + (sb + m) := IntWalk.i64_in _ (by omega)
    have wr1 : IntKind.i64.wrap (sa + sb) = sa + sb := IntWalk.i64_in _ (by omega)
    have wr2 : IntKind.i64.wrap (sb + m) = sb + m := IntWalk.i64_in _ (by omega)
    have wr3 : IntKind.i64.wrap (1000000000 - sb - m) = 1000000000 - sb - m := IntWalk.i64_in _ (by omega)
    have wr4 : IntKind.i64.wrap (va - m) = va - m := IntWalk.i64_in _ (by omega)
    obtain ⟨hc1, hc2⟩ := hcs
    clear q3 q4 HA HC HPs HTk HX0 HX1 g0 g1 l2 lpa lza lpb q9 hbl hl
    obtain ⟨C, HCS⟩ : ∃ C : World → Prop, Hid (∀ w, C w ↔ (∀ i, w.cell? ⟨w1.heap.size, i, none⟩ = #[.slice tA pa.length tc, .int .i64 va, .slice pA za.length pc][i]?) ∧ (∀ i, w.cell? ⟨w1.heap.size + 1, i, none⟩ = #[.slice tB pb.length td, .int .i64 vb, .slice pB zb.length pd][i]?) ∧ (∀ i, w.cell? ⟨w4.heap.size, i, none⟩ = #[.slice tx pa.length cx, .int .i64 (va - m), .slice px za.length dx][i]?) ∧ (∀ i, w.cell? ⟨w4.heap.size + 1, i, none⟩ = #[.slice ty pb.length cy, .int .i64 vy, .slice py zy.length dy][i]?) ∧ (∀ i, w.cell? ⟨w7.heap.size, i, none⟩ = #[.slice tz pa.length cz, .int .i64 (va - m), .slice pz za.length dz][i]?) ∧ (w1.heap.size < W9.heap.size ∧ w1.heap.size + 1 < W9.heap.size ∧ w4.heap.size < W9.heap.size ∧ w4.heap.size + 1 < W9.heap.size ∧ w7.heap.size < W9.heap.size) ∧ Below W9.heap.size W9 w) := ⟨_, fun _ => Iff.rfl⟩
    refine quiet_class (C := C) (by kernel_rfl) (by kernel_rfl) ((HCS.out _).2 S8) ?_
    have HCX := Lib.hid (fun (W W1 : World) (hb : Below W.heap.size W W1) (h : C W) => ((HCS.out _).2 (HSX.out _ _ hb ((HCS.out _).1 h)) : C W1))
    have HTxc := Lib.hid (fun (W : World) (h : C W) => HTx.out W ((HCS.out _).1 h))
    have HTyc := Lib.hid (fun (W : World) (h : C W) => HTy.out W ((HCS.out _).1 h))
    have HSyc := Lib.hid (fun (W : World) (h : C W) => HSy.out W ((HCS.out _).1 h))
    have HTac := Lib.hid (fun (W : World) (h : C W) => HTa.out W (HSB.out _ ((HCS.out _).1 h)))
    have HTbc := Lib.hid (fun (W : World) (h : C W) => HTb.out W (HSB.out _ ((HCS.out _).1 h)))
    have HSbc := Lib.hid (fun (W : World) (h : C W) => HSb.out W (HSB.out _ ((HCS.out _).1 h)))
    have HCR := Lib.hid (fun (W : World) (h : C W) => hW0.trans ((HSB.out _ ((HCS.out _).1 h)).mono hW0.size))
    clear HTx HTy HTa HTb HSy HSb HSX HSB S8
    rcases hc1 with hc1 | ⟨hc1, hc1b⟩ <;> rcases hc2 with hc2 | ⟨hc2, hc2b⟩
    all_goals
      repeat (first
        | (refine quiet_one (v := ?_) (by rfl) (fun u hu => ?_) ?_
           rotate_left
           · first
               | (go_simp; first | done | with_reducible rfl | (go_at_call 24; with_reducible refine (HTxc.out _ hu).mono ?_; rintro e w8 ⟨rfl, hb8⟩; refine ⟨?_, HCX.out _ _ hb8 hu⟩; with_reducible rfl) | (go_at_call 24; with_reducible refine (HTyc.out _ hu).mono ?_; rintro e w8 ⟨rfl, hb8⟩; refine ⟨?_, HCX.out _ _ hb8 hu⟩; with_reducible rfl) | (go_at_call 24; with_reducible refine (HTac.out _ hu).mono ?_; rintro e w8 ⟨rfl, hb8⟩; refine ⟨?_, HCX.out _ _ hb8 hu⟩; with_reducible rfl) | (go_at_call 24; with_reducible refine (HTbc.out _ hu).mono ?_; rintro e w8 ⟨rfl, hb8⟩; refine ⟨?_, HCX.out _ _ hb8 hu⟩; with_reducible rfl) | (go_at_call 25; with_reducible refine (HSyc.out _ hu).mono ?_; rintro e w8 ⟨rfl, hb8⟩; refine ⟨?_, HCX.out _ _ hb8 hu⟩; with_reducible rfl) | (go_at_call 25; with_reducible refine (HSbc.out _ hu).mono ?_; rintro e w8 ⟨rfl, hb8⟩; refine ⟨?_, HCX.out _ _ hb8 hu⟩; with_reducible rfl))
               | (have hl := (HCS.out _).1 hu; go_simp; with_reducible rfl)
           (try simp only [Act.put, List.setIfInBounds_toArray, List.set_cons_zero, List.set_cons_succ]))
        | (refine BigFrame.wpQuiet_skip (by rfl) ?_; (try simp only [Act.put, List.setIfInBounds_toArray, List.set_cons_zero, List.set_cons_succ]))
        | fail)
      refine wpQuiet_nil ?_
      intro W10 hC10
      go_wp2
      go_ret
      exact ⟨rfl, HCR.out _ hC10⟩
end Go.Proofs.Ytgbncfjabnaokab
