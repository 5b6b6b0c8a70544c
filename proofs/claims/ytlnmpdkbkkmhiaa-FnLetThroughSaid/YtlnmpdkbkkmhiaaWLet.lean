/- The walk of the law FnLetThrough. -/
import Derived.Test.YtlnmpdkbkkmhiaaDrP
import Derived.Test.YtlnmpdkbkkmhiaaDrW
import Derived.Test.YtlnmpdkbkkmhiaaLet
import Derived.Test.YtlnmpdkbkkmhiaaPassB
import Derived.Test.YtlnmpdkbkkmhiaaInv
import Derived.BigQuiet
namespace Go.Proofs.Ytlnmpdkbkkmhiaa
open Go.RowKit
/-- Two reaches and a number, in boxes made after the world 'w', apart from the reaches' rows. -/
def Two2 (w : World) (pf : List (Int × Int)) (vf : Int) (zf : List Int) (pt : List (Int × Int)) (vt : Int) (zt : List Int) (n : Int) (s10 s11 s12 : Value) (W : World) : Prop :=
  ∃ (g1 g2 : Nat) (tA : Option Addr) (tc : Nat) (pA : Option Addr) (pc : Nat) (tB : Option Addr) (td : Nat) (pB : Option Addr) (pd lo1 hi1 lo2 hi2 : Nat), s10 = .pointer (some ⟨g1, 0, none⟩) ∧ s11 = .pointer (some ⟨g2, 0, none⟩) ∧ s12 = .int .i64 n ∧
    w.heap.size ≤ g1 ∧ w.heap.size ≤ g2 ∧ Blk W g1 32 #[.slice tA pf.length tc, .int .i64 vf, .slice pA zf.length pc] ∧ Blk W g2 32 #[.slice tB pt.length td, .int .i64 vt, .slice pB zt.length pd] ∧
    RO W lo1 hi1 pf zf tA tc pA pc ∧ RO W lo2 hi2 pt zt tB td pB pd ∧ (hi1 ≤ lo2 ∨ hi2 ≤ lo1) ∧ w.heap.size ≤ lo1 ∧ w.heap.size ≤ lo2 ∧ Below w.heap.size w W ∧
    (g1 < lo1 ∨ hi1 ≤ g1) ∧ (g1 < lo2 ∨ hi2 ≤ g1) ∧ (g2 < lo1 ∨ hi1 ≤ g2) ∧ (g2 < lo2 ∨ hi2 ≤ g2)
structure RegLB where
  l0 : Bool
  l1 : Bool
  l2 : Bool
  l3 : Bool
  l4 : Bool
  l5 : Bool
  l6 : Bool
  l7 : Bool
  l8 : Bool
  l9 : Bool
  l10 : Bool
  l11 : Bool
  l12 : Bool
  l13 : Bool
  l14 : Bool
  l15 : Bool
  l16 : Bool
structure RegLU where
  u0 : Value
  u1 : Value
  u2 : Value
  u3 : Value
  u4 : Value
  u5 : Value
  u6 : Value
  u7 : Value
  u8 : Value
  u9 : Value
  u10 : Value
  u11 : Value
  u12 : Value
  u13 : Value
  u16 : Value
structure RegLX where
  tx : Option Addr
  cx : Nat
  px : Option Addr
  dx : Nat
  ty : Option Addr
  cy : Nat
  py : Option Addr
  dy : Nat
  lo1 : Nat
  hi1 : Nat
  lo2 : Nat
  hi2 : Nat
  g1 : Nat
  g2 : Nat
/-- What is known in the midst of the region. -/
structure RegL (W0 : World) (s0 : Value) (q0 : Value) (v0 : Value) (s1 : Value) (q1 : Value) (v1 : Value) (v2 : Value) (pa : List (Int × Int)) (vo : Int) (za : List Int) (pb : List (Int × Int)) (vy : Int) (zy : List Int) (nn : Int) (b : RegLB) (u : RegLU) (x : RegLX) (W : World) : Prop where
  hB : Below W0.heap.size W0 W
  f0 : (b.l0 = true → u.u0 = s0)
  f1 : (b.l1 = true → u.u1 = q0)
  f2 : (b.l2 = true → u.u2 = v0)
  f3 : (b.l3 = true → u.u3 = s1)
  f4 : (b.l4 = true → u.u4 = q1)
  f5 : (b.l5 = true → u.u5 = v1)
  f6 : (b.l6 = true → u.u6 = v2)
  f7 : (b.l7 = true → u.u7 = .tuple #[.agg #[Value.slice x.tx pa.length x.cx, .int .i64 vo, .slice x.px za.length x.dx], .agg #[Value.slice x.ty pb.length x.cy, .int .i64 vy, .slice x.py zy.length x.dy], .int .i64 nn])
  r7 : (b.l7 = true → RO W x.lo1 x.hi1 pa za x.tx x.cx x.px x.dx ∧ RO W x.lo2 x.hi2 pb zy x.ty x.cy x.py x.dy ∧ (x.hi1 ≤ x.lo2 ∨ x.hi2 ≤ x.lo1) ∧ W0.heap.size ≤ x.lo1 ∧ W0.heap.size ≤ x.lo2)
  f8 : (b.l8 = true → b.l7 = true ∧ u.u8 = .tuple #[.agg #[Value.slice x.tx pa.length x.cx, .int .i64 vo, .slice x.px za.length x.dx], .agg #[Value.slice x.ty pb.length x.cy, .int .i64 vy, .slice x.py zy.length x.dy], .int .i64 nn])
  f9 : (b.l9 = true → b.l7 = true ∧ u.u9 = .agg #[Value.slice x.tx pa.length x.cx, .int .i64 vo, .slice x.px za.length x.dx])
  f10 : (b.l10 = true → b.l7 = true ∧ u.u10 = .agg #[Value.slice x.ty pb.length x.cy, .int .i64 vy, .slice x.py zy.length x.dy])
  f11 : (b.l11 = true → b.l7 = true ∧ u.u11 = .int .i64 nn)
  f12 : (b.l12 = true → u.u12 = .pointer (some ⟨x.g1, 0, none⟩) ∧ W0.heap.size ≤ x.g1)
  b12 : (b.l12 = true → Blk W x.g1 32 (bif b.l14 then #[Value.slice x.tx pa.length x.cx, .int .i64 vo, .slice x.px za.length x.dx] else #[Value.slice none 0 0, .int .i64 0, .slice none 0 0]))
  d12 : (b.l12 = true → b.l7 = true → (x.g1 < x.lo1 ∨ x.hi1 ≤ x.g1) ∧ (x.g1 < x.lo2 ∨ x.hi2 ≤ x.g1))
  f13 : (b.l13 = true → u.u13 = .pointer (some ⟨x.g2, 0, none⟩) ∧ W0.heap.size ≤ x.g2)
  b13 : (b.l13 = true → Blk W x.g2 32 (bif b.l15 then #[Value.slice x.ty pb.length x.cy, .int .i64 vy, .slice x.py zy.length x.dy] else #[Value.slice none 0 0, .int .i64 0, .slice none 0 0]))
  d13 : (b.l13 = true → b.l7 = true → (x.g2 < x.lo1 ∨ x.hi1 ≤ x.g2) ∧ (x.g2 < x.lo2 ∨ x.hi2 ≤ x.g2))
  f14 : (b.l14 = true → b.l7 = true ∧ b.l12 = true)
  f15 : (b.l15 = true → b.l7 = true ∧ b.l13 = true)
  f16 : (b.l16 = true → b.l7 = true ∧ u.u16 = .int .i64 nn)
  ne : (b.l12 = true → b.l13 = true → x.g1 ≠ x.g2)
theorem BytesAt.at_ {w W : World} {A : Option Addr} {n : Nat} {zs : List Int} (h : BytesAt w w.heap.size A n zs) (hb : Below w.heap.size w W) : BytesAt W W.heap.size A n zs := by
  have h' := h.below hb
  exact ⟨h'.1, h'.2.1, fun hn => by obtain ⟨b, off, e, hl, hc⟩ := h'.2.2 hn; exact ⟨b, off, e, Nat.lt_of_lt_of_le hl hb.size, hc⟩⟩
theorem quiet_class {P : Program} {C : World → Prop} {id : Nat} {Q : Exit → Act → World → Prop} {a : Act} {w : World} {l : List Oper} (hm : P.follows .mixedOrders = true) (hB : Region.lexB .any l.toArray = true) (hC : C w.drew)
    (h : wpQuiet P l.toArray C (fun a' => ∀ w', C w' → Q .normal a' w') l a) : (Code.region id l.toArray true).wp P Q a w :=
  wp_region_quiet (C := C) hm hB hC (by simpa using h)
theorem quiet_one {P : Program} {ops : Array Oper} {C : World → Prop} {Q : Act → Prop} {o : Oper} {rest : List Oper} {a : Act} {v : Value} (hw : Region.wanted o (yielded ops a.tmps) = true) (hy : ∀ w, C w → o.quietAt P a C w v) (h : wpQuiet P ops C Q rest (a.put o.dst v)) : wpQuiet P ops C Q (o :: rest) a :=
  BigFrame.wpQuiet_want hw (fun _ hK => ⟨v, hy, hK _ h⟩)
set_option maxHeartbeats 80000000 in
set_option maxRecDepth 100000 in
theorem walk_FnLetThrough (A : Option Addr) (n c : Nat) (zs : List Int) (w : World) (hB : BytesAt w w.heap.size A n zs) :
    Calls Try.prog 3 #[.slice A n c] w fun e w' => e = .returned (.bool true) ∧ Below w.heap.size w w' := by
  by_cases hbig : 1048576 < n
  · have hb : decide (1048576 < n) = true := by simpa using hbig
    clear hB
    go_enter Try.func3, Try.ntmps3
    go_wp2_with (go_at_call 5; refine (l_big _ _ _ _).mono ?_; rintro e w' ⟨rfl, rfl⟩)
    go_ret
    exact ⟨rfl, Below.refl _ _⟩
  · have hb : decide (1048576 < n) = false := by simpa using hbig
    go_enter Try.func3, Try.ntmps3
    go_wp2_with fail
    refine (l_big _ _ _ _).mono ?_; rintro e w' ⟨rfl, rfl⟩
    go_wp2_with fail
    refine (s_DrawReaches A n c zs _ hB (by omega)).mono ?_; rintro e w1 ⟨lA, lc, ds, rfl, l2, l4, hv, hR, hW0⟩
    have HT := Lib.hid (s_DrawWeir A n c zs w1 (hB.at_ hW0) (by omega))
    clear hB hb
    obtain ⟨bb, off, tA, tc, pa, va, pA, pc, za, sa, rfl, hbl, _, D, hc⟩ := one_drawn hv hR (show 0 < ds.length by omega)
    obtain ⟨bb', off', tB, td, pb, vb, pB, pd, zb, sb, hbe, _, _, D', hc'⟩ := one_drawn hv hR (show 1 < ds.length by omega)
    simp only [Option.some.injEq, Addr.mk.injEq, and_true] at hbe
    obtain ⟨rfl, rfl⟩ := hbe
    have g1 : (1 : Int) < (ds.length : Int) := by omega
    have g0 : (0 : Int) < (ds.length : Int) := by omega
    have g2 : 0 < ds.length := by omega
    have g3 : 1 < ds.length := by omega
    clear hv hR l4
    generalize ds.length = len at *
    rw [Nat.zero_mul, Nat.add_zero] at hc
    rw [Nat.one_mul] at hc'
    have HCA := Lib.hid (fun (W : World) (hb : Below w1.heap.size w1 W) => (show W.cell? ⟨bb, off, none⟩ = some (.slice tA pa.length tc) ∧ W.cell? ⟨bb, off + 1, none⟩ = some (.int .i64 va) ∧ W.cell? ⟨bb, off + 2, none⟩ = some (.slice pA za.length pc) from ⟨(hc W hb).1, (hc W hb).2.1, (hc W hb).2.2.1⟩))
    have HCB := Lib.hid (fun (W : World) (hb : Below w1.heap.size w1 W) => (show W.cell? ⟨bb, off + 3, none⟩ = some (.slice tB pb.length td) ∧ W.cell? ⟨bb, off + 3 + 1, none⟩ = some (.int .i64 vb) ∧ W.cell? ⟨bb, off + 3 + 2, none⟩ = some (.slice pB zb.length pd) from ⟨(hc' W hb).1, (hc' W hb).2.1, (hc' W hb).2.2.1⟩))
    clear hc hc'
    go_wp2_with fail
    refine HT.out.mono ?_; rintro e w2 ⟨g, o, s, f, d, hd, rfl, hb2⟩
    have hW : Below w1.heap.size w1 w2 := hb2
    clear hb2 HT
    obtain ⟨hBw, hbb, hsz⟩ := boxN w2 27 #[Value.int .i64 g, .int .i64 o, .int .i64 s, .int .i64 f, .int .i64 d]
    replace hW := bel_step hW hbb
    clear hbb
    have wok := weirD_ok hd
    clear hd
    have gb := gate_bd g o s f d (levelV pa va za) (levelV pb vb zb)
    have kb := val_bd D.tab.1 f
    have hlb : letB pa va za pb vb zb g o s f d = true := by unfold letB; rw [D.ok, D'.ok, wok]; rfl
    obtain ⟨e1, e2, e3⟩ := let_yes hlb
    obtain ⟨nn, en, n0, na, nv, kept, okx, oky, sy, _⟩ := passOn_ok D.ok D'.ok (a := letF pa va za pb vb zb g o s f d) (k := valueV pa f) gb.1 kb.1
    rw [en] at e1
    have HLt := Lib.hid (fun (W : World) (hb : Below w1.heap.size w1 W) => i_LetThrough tA tc pa va pA pc za tB td pb vb pB pd zb g o s f d W.heap.size W (D.pts W hb) (D.nums W hb) (D'.pts W hb) (D'.nums W hb) (Nat.le_refl _) D.pl D.zl D'.pl D'.zl)
    rw [e1, e2, e3] at HLt
    have zyl : (passZ pa va za pb vb zb (letF pa va za pb vb zb g o s f d) (valueV pa f)).length ≤ 1048576 := by rw [passZ_len]; exact D'.zl
    have HTa := Lib.hid (fun (W : World) (hb : Below w1.heap.size w1 W) => D.total tc pc (W := W) hb)
    have HTb := Lib.hid (fun (W : World) (hb : Below w1.heap.size w1 W) => D'.total td pd (W := W) hb)
    have HLa := Lib.hid (fun (W : World) (hb : Below w1.heap.size w1 W) => s_LevelOf tA tc pa va pA pc za W.heap.size W (D.pts W hb) (D.nums W hb) (Nat.le_refl _) D.pl D.zl)
    have HLb := Lib.hid (fun (W : World) (hb : Below w1.heap.size w1 W) => s_LevelOf tB td pb vb pB pd zb W.heap.size W (D'.pts W hb) (D'.nums W hb) (Nat.le_refl _) D'.pl D'.zl)
    have HVa := Lib.hid (fun (W : World) (hb : Below w1.heap.size w1 W) => s_ValueAt tA tc pa f W.heap.size W (D.pts W hb) (Nat.le_refl _) D.pl)
    have HG := Lib.hid (fun (W : World) => i_GateFlow g o s f d (levelV pa va za) (levelV pb vb zb) W)
    have b1 := D.vols
    have b2 := D.s7
    have b3 := D'.s7
    have b4 := D.vol0
    have b5 := D'.vols
    have b6 := D'.vol0
    have sx : va - nn + sumI za = sa - nn := by have := D.sum; omega
    rw [D'.sum] at sy
    have lpa := D.pl
    have lza := D.zl
    have lpb := D'.pl
    clear D D' e1 e2 e3 hlb en wok
    have hfl : letF pa va za pb vb zb g o s f d = gateV g o s f d (levelV pa va za) (levelV pb vb zb) := rfl
    rw [← hfl] at HG gb
    generalize letF pa va za pb vb zb g o s f d = fl at *
    clear hfl
    generalize levelV pa va za = up at *
    generalize levelV pb vb zb = dn at *
    generalize passVol pa va za pb vb zb fl (valueV pa f) = vy at *
    generalize passZ pa va za pb vb zb fl (valueV pa f) = zy at *
    generalize valueV pa f = ke at *
    have OKX := Lib.hid okx
    have OKY := Lib.hid oky
    have SX := Lib.hid sx
    have SY := Lib.hid sy
    clear okx oky sx sy
    go_upto_region 5 with (fail)
    generalize hg3 : w2.alloc (.cells #[Value.int .i64 g, .int .i64 o, .int .i64 s, .int .i64 f, .int .i64 d] 27) = w3 at *
    have hz3 : w3.heap.size = w2.heap.size + 1 := by rw [← hg3]; simp
    clear hg3 hsz
    have HCA3 := Lib.hid (fun (W : World) (hb : Below w3.heap.size w3 W) => HCA.out W (bel_step hW hb))
    have HCB3 := Lib.hid (fun (W : World) (hb : Below w3.heap.size w3 W) => HCB.out W (bel_step hW hb))
    go_cut [5, 6, 7] (fun s10 s11 s12 wy => Two2 w3 pa (va - nn) za pb vy zy nn s10 s11 s12 wy)
    case first =>
      refine with_frame [16, 17, 18, 19, 20, 21, 22, 23, 15, 24, 25, 26, 5, 6, 7] (fun Fr hFr => ?_)
      have HFr := fun (u0 u1 u2 u3 u4 u5 u6 u7 u8 u9 u10 u11 u12 u13 u16 : Value) => hFr [u0, u1, u2, u3, u4, u5, u6, u7, u8, u9, u10, u11, u12, u13, u16]
      clear hFr
      simp only [List.zip_cons_cons, List.zip_nil_right, putAll, Act.put, List.setIfInBounds_toArray, List.set_cons_zero, List.set_cons_succ] at HFr
      have HFR := Lib.hid HFr
      clear HFr
      have HC2 := Lib.hid (fun (V : World) (hb : Below w3.heap.size w3 V) (k : Nat) => (show V.cell? ⟨w2.heap.size, k, none⟩ = #[Value.int .i64 g, .int .i64 o, .int .i64 s, .int .i64 f, .int .i64 d][k]? from (hb.cell (p := ⟨w2.heap.size, k, none⟩) hBw.lt).trans (hBw.cell k)))
      refine wp_region_inv (fun (listed : Array Bool) (a : Act) (W : World) => ∃ (b : RegLB) (u : RegLU) (x : RegLX), listed = #[b.l0, b.l1, b.l2, b.l3, b.l4, b.l5, b.l6, b.l7, b.l8, b.l9, b.l10, b.l11, b.l12, b.l13, b.l14, b.l15, b.l16] ∧ a = Fr [u.u0, u.u1, u.u2, u.u3, u.u4, u.u5, u.u6, u.u7, u.u8, u.u9, u.u10, u.u11, u.u12, u.u13, u.u16] ∧ RegL w3 (.slice (some ⟨bb, off, none⟩) len lc) (.pointer (some ⟨bb, off, none⟩)) (.agg #[Value.slice tA pa.length tc, .int .i64 va, .slice pA za.length pc]) (.slice (some ⟨bb, off, none⟩) len lc) (.pointer (some ⟨bb, off + 3, none⟩)) (.agg #[Value.slice tB pb.length td, .int .i64 vb, .slice pB zb.length pd]) (.agg #[Value.int .i64 g, .int .i64 o, .int .i64 s, .int .i64 f, .int .i64 d]) pa (va - nn) za pb vy zy nn b u x W) (by kernel_rfl) (by kernel_rfl) ?_ ?_ ?_
      · exact ⟨⟨false, false, false, false, false, false, false, false, false, false, false, false, false, false, false, false, false⟩, ⟨_, _, _, _, _, _, _, _, _, _, _, _, _, _, _⟩, ⟨none, 0, none, 0, none, 0, none, 0, 0, 0, 0, 0, 0, 0⟩, rfl, (HFR.out _ _ _ _ _ _ _ _ _ _ _ _ _ _ _).symm, ⟨(Below.refl _ _).drew, (fun h => nomatch h), (fun h => nomatch h), (fun h => nomatch h), (fun h => nomatch h), (fun h => nomatch h), (fun h => nomatch h), (fun h => nomatch h), (fun h => nomatch h), (fun h => nomatch h), (fun h => nomatch h), (fun h => nomatch h), (fun h => nomatch h), (fun h => nomatch h), (fun h => nomatch h), (fun h => nomatch h), (fun h => nomatch h), (fun h => nomatch h), (fun h => nomatch h), (fun h => nomatch h), (fun h => nomatch h), (fun h => nomatch h), (fun h => nomatch h), (fun h => nomatch h)⟩⟩
      · refine Steps.cons ?_ (Steps.cons ?_ (Steps.cons ?_ (Steps.cons ?_ (Steps.cons ?_ (Steps.cons ?_ (Steps.cons ?_ (Steps.cons ?_ (Steps.cons ?_ (Steps.cons ?_ (Steps.cons ?_ (Steps.cons ?_ (Steps.cons ?_ (Steps.cons ?_ (Steps.cons ?_ (Steps.cons ?_ (Steps.cons ?_ Steps.nil))))))))))))))))
        · intro listed a W hJ hi hp K hK
          obtain ⟨b, ⟨u0, u1, u2, u3, u4, u5, u6, u7, u8, u9, u10, u11, u12, u13, u16⟩, ⟨tx, cx, px, dx, ty, cy, py, dy, lo1, hi1, lo2, hi2, g1, g2⟩, rfl, rfl, hR⟩ := hJ
          dsimp only at hi hp
          have hi0 : b.l0 = false := by simpa using hi
          simp [Region.binds] at hp
          clear hi
          go_split_ands
          rw [HFR.out]
          go_simp
          exact hK.out _ _ ⟨{ b with l0 := true }, ⟨_, _, _, _, _, _, _, _, _, _, _, _, _, _, _⟩, ⟨tx, cx, px, dx, ty, cy, py, dy, lo1, hi1, lo2, hi2, g1, g2⟩, rfl, (HFR.out _ _ _ _ _ _ _ _ _ _ _ _ _ _ _).symm, ⟨hR.hB, (fun _ => rfl), (hR.f1), (hR.f2), (hR.f3), (hR.f4), (hR.f5), (hR.f6), (hR.f7), (hR.r7), (hR.f8), (hR.f9), (hR.f10), (hR.f11), (hR.f12), (hR.b12), (hR.d12), (hR.f13), (hR.b13), (hR.d13), (hR.f14), (hR.f15), (hR.f16), (hR.ne)⟩⟩
        · intro listed a W hJ hi hp K hK
          obtain ⟨b, ⟨u0, u1, u2, u3, u4, u5, u6, u7, u8, u9, u10, u11, u12, u13, u16⟩, ⟨tx, cx, px, dx, ty, cy, py, dy, lo1, hi1, lo2, hi2, g1, g2⟩, rfl, rfl, hR⟩ := hJ
          dsimp only at hi hp
          have hi0 : b.l1 = false := by simpa using hi
          simp [Region.binds] at hp
          clear hi
          go_split_ands
          have eq_ := hR.f0 (by assumption)
          try dsimp only at eq_
          obtain rfl := eq_
          rw [HFR.out]
          go_simp
          exact hK.out _ _ ⟨{ b with l1 := true }, ⟨_, _, _, _, _, _, _, _, _, _, _, _, _, _, _⟩, ⟨tx, cx, px, dx, ty, cy, py, dy, lo1, hi1, lo2, hi2, g1, g2⟩, rfl, (HFR.out _ _ _ _ _ _ _ _ _ _ _ _ _ _ _).symm, ⟨hR.hB, (hR.f0), (fun _ => rfl), (hR.f2), (hR.f3), (hR.f4), (hR.f5), (hR.f6), (hR.f7), (hR.r7), (hR.f8), (hR.f9), (hR.f10), (hR.f11), (hR.f12), (hR.b12), (hR.d12), (hR.f13), (hR.b13), (hR.d13), (hR.f14), (hR.f15), (hR.f16), (hR.ne)⟩⟩
        · intro listed a W hJ hi hp K hK
          obtain ⟨b, ⟨u0, u1, u2, u3, u4, u5, u6, u7, u8, u9, u10, u11, u12, u13, u16⟩, ⟨tx, cx, px, dx, ty, cy, py, dy, lo1, hi1, lo2, hi2, g1, g2⟩, rfl, rfl, hR⟩ := hJ
          dsimp only at hi hp
          have hi0 : b.l2 = false := by simpa using hi
          simp [Region.binds] at hp
          clear hi
          go_split_ands
          have eq_ := hR.f1 (by assumption)
          try dsimp only at eq_
          obtain rfl := eq_
          obtain ⟨hc0, hc1, hc2⟩ := HCA3.out W hR.hB
          rw [HFR.out]
          go_simp
          exact hK.out _ _ ⟨{ b with l2 := true }, ⟨_, _, _, _, _, _, _, _, _, _, _, _, _, _, _⟩, ⟨tx, cx, px, dx, ty, cy, py, dy, lo1, hi1, lo2, hi2, g1, g2⟩, rfl, (HFR.out _ _ _ _ _ _ _ _ _ _ _ _ _ _ _).symm, ⟨hR.hB, (hR.f0), (hR.f1), (fun _ => rfl), (hR.f3), (hR.f4), (hR.f5), (hR.f6), (hR.f7), (hR.r7), (hR.f8), (hR.f9), (hR.f10), (hR.f11), (hR.f12), (hR.b12), (hR.d12), (hR.f13), (hR.b13), (hR.d13), (hR.f14), (hR.f15), (hR.f16), (hR.ne)⟩⟩
        · intro listed a W hJ hi hp K hK
          obtain ⟨b, ⟨u0, u1, u2, u3, u4, u5, u6, u7, u8, u9, u10, u11, u12, u13, u16⟩, ⟨tx, cx, px, dx, ty, cy, py, dy, lo1, hi1, lo2, hi2, g1, g2⟩, rfl, rfl, hR⟩ := hJ
          dsimp only at hi hp
          have hi0 : b.l3 = false := by simpa using hi
          simp [Region.binds] at hp
          clear hi
          go_split_ands
          rw [HFR.out]
          go_simp
          exact hK.out _ _ ⟨{ b with l3 := true }, ⟨_, _, _, _, _, _, _, _, _, _, _, _, _, _, _⟩, ⟨tx, cx, px, dx, ty, cy, py, dy, lo1, hi1, lo2, hi2, g1, g2⟩, rfl, (HFR.out _ _ _ _ _ _ _ _ _ _ _ _ _ _ _).symm, ⟨hR.hB, (hR.f0), (hR.f1), (hR.f2), (fun _ => rfl), (hR.f4), (hR.f5), (hR.f6), (hR.f7), (hR.r7), (hR.f8), (hR.f9), (hR.f10), (hR.f11), (hR.f12), (hR.b12), (hR.d12), (hR.f13), (hR.b13), (hR.d13), (hR.f14), (hR.f15), (hR.f16), (hR.ne)⟩⟩
        · intro listed a W hJ hi hp K hK
          obtain ⟨b, ⟨u0, u1, u2, u3, u4, u5, u6, u7, u8, u9, u10, u11, u12, u13, u16⟩, ⟨tx, cx, px, dx, ty, cy, py, dy, lo1, hi1, lo2, hi2, g1, g2⟩, rfl, rfl, hR⟩ := hJ
          dsimp only at hi hp
          have hi0 : b.l4 = false := by simpa using hi
          simp [Region.binds] at hp
          clear hi
          go_split_ands
          have eq_ := hR.f3 (by assumption)
          try dsimp only at eq_
          obtain rfl := eq_
          rw [HFR.out]
          go_simp
          exact hK.out _ _ ⟨{ b with l4 := true }, ⟨_, _, _, _, _, _, _, _, _, _, _, _, _, _, _⟩, ⟨tx, cx, px, dx, ty, cy, py, dy, lo1, hi1, lo2, hi2, g1, g2⟩, rfl, (HFR.out _ _ _ _ _ _ _ _ _ _ _ _ _ _ _).symm, ⟨hR.hB, (hR.f0), (hR.f1), (hR.f2), (hR.f3), (fun _ => rfl), (hR.f5), (hR.f6), (hR.f7), (hR.r7), (hR.f8), (hR.f9), (hR.f10), (hR.f11), (hR.f12), (hR.b12), (hR.d12), (hR.f13), (hR.b13), (hR.d13), (hR.f14), (hR.f15), (hR.f16), (hR.ne)⟩⟩
        · intro listed a W hJ hi hp K hK
          obtain ⟨b, ⟨u0, u1, u2, u3, u4, u5, u6, u7, u8, u9, u10, u11, u12, u13, u16⟩, ⟨tx, cx, px, dx, ty, cy, py, dy, lo1, hi1, lo2, hi2, g1, g2⟩, rfl, rfl, hR⟩ := hJ
          dsimp only at hi hp
          have hi0 : b.l5 = false := by simpa using hi
          simp [Region.binds] at hp
          clear hi
          go_split_ands
          have eq_ := hR.f4 (by assumption)
          try dsimp only at eq_
          obtain rfl := eq_
          obtain ⟨hc0, hc1, hc2⟩ := HCB3.out W hR.hB
          rw [HFR.out]
          go_simp
          exact hK.out _ _ ⟨{ b with l5 := true }, ⟨_, _, _, _, _, _, _, _, _, _, _, _, _, _, _⟩, ⟨tx, cx, px, dx, ty, cy, py, dy, lo1, hi1, lo2, hi2, g1, g2⟩, rfl, (HFR.out _ _ _ _ _ _ _ _ _ _ _ _ _ _ _).symm, ⟨hR.hB, (hR.f0), (hR.f1), (hR.f2), (hR.f3), (hR.f4), (fun _ => rfl), (hR.f6), (hR.f7), (hR.r7), (hR.f8), (hR.f9), (hR.f10), (hR.f11), (hR.f12), (hR.b12), (hR.d12), (hR.f13), (hR.b13), (hR.d13), (hR.f14), (hR.f15), (hR.f16), (hR.ne)⟩⟩
        · intro listed a W hJ hi hp K hK
          obtain ⟨b, ⟨u0, u1, u2, u3, u4, u5, u6, u7, u8, u9, u10, u11, u12, u13, u16⟩, ⟨tx, cx, px, dx, ty, cy, py, dy, lo1, hi1, lo2, hi2, g1, g2⟩, rfl, rfl, hR⟩ := hJ
          dsimp only at hi hp
          have hi0 : b.l6 = false := by simpa using hi
          simp [Region.binds] at hp
          clear hi
          go_split_ands
          have hc := HC2.out W hR.hB
          rw [HFR.out]
          go_simp
          exact hK.out _ _ ⟨{ b with l6 := true }, ⟨_, _, _, _, _, _, _, _, _, _, _, _, _, _, _⟩, ⟨tx, cx, px, dx, ty, cy, py, dy, lo1, hi1, lo2, hi2, g1, g2⟩, rfl, (HFR.out _ _ _ _ _ _ _ _ _ _ _ _ _ _ _).symm, ⟨hR.hB, (hR.f0), (hR.f1), (hR.f2), (hR.f3), (hR.f4), (hR.f5), (fun _ => rfl), (hR.f7), (hR.r7), (hR.f8), (hR.f9), (hR.f10), (hR.f11), (hR.f12), (hR.b12), (hR.d12), (hR.f13), (hR.b13), (hR.d13), (hR.f14), (hR.f15), (hR.f16), (hR.ne)⟩⟩
        · intro listed a W hJ hi hp K hK
          obtain ⟨b, ⟨u0, u1, u2, u3, u4, u5, u6, u7, u8, u9, u10, u11, u12, u13, u16⟩, ⟨tx, cx, px, dx, ty, cy, py, dy, lo1, hi1, lo2, hi2, g1, g2⟩, rfl, rfl, hR⟩ := hJ
          dsimp only at hi hp
          have hi0 : b.l7 = false := by simpa using hi
          simp [Region.binds] at hp
          clear hi
          go_split_ands
          have eq_ := hR.f2 (by assumption)
          try dsimp only at eq_
          obtain rfl := eq_
          have eq_ := hR.f5 (by assumption)
          try dsimp only at eq_
          obtain rfl := eq_
          have eq_ := hR.f6 (by assumption)
          try dsimp only at eq_
          obtain rfl := eq_
          have es1 : b.l14 = false := by rcases bcases b.l14 with e | e; exact absurd (hi0.symm.trans (hR.f14 e).1) (by decide); exact e
          have es2 : b.l15 = false := by rcases bcases b.l15 with e | e; exact absurd (hi0.symm.trans (hR.f15 e).1) (by decide); exact e
          rw [HFR.out]
          go_simp
          refine (HLt.out _ (bel_step hW hR.hB)).mono ?_; rintro e w9 ⟨y1, y2, y3, y4, z1, z2, z3, z4, q1, q2, q3, q4, rfl, P1, P2, hd, hl1, hl2, hb9⟩
          have hsz := hR.hB.size
          exact hK.out _ _ ⟨{ b with l7 := true }, ⟨_, _, _, _, _, _, _, _, _, _, _, _, _, _, _⟩, ⟨y1, y2, y3, y4, z1, z2, z3, z4, q1, q2, q3, q4, g1, g2⟩, rfl, (HFR.out _ _ _ _ _ _ _ _ _ _ _ _ _ _ _).symm, ⟨(bel_step hR.hB hb9), (hR.f0), (hR.f1), (hR.f2), (hR.f3), (hR.f4), (hR.f5), (hR.f6), (fun _ => rfl), (fun _ => ⟨P1, P2, hd, Nat.le_trans hsz hl1, Nat.le_trans hsz hl2⟩), (fun h => absurd (hi0.symm.trans (hR.f8 h).1) (by decide)), (fun h => absurd (hi0.symm.trans (hR.f9 h).1) (by decide)), (fun h => absurd (hi0.symm.trans (hR.f10 h).1) (by decide)), (fun h => absurd (hi0.symm.trans (hR.f11 h).1) (by decide)), (hR.f12), (fun h => by have hh := (hR.b12 h).bel hb9; rw [es1] at hh; show Blk w9 g1 32 (bif b.l14 then _ else _); rw [es1]; exact hh), (fun h _ => ⟨.inl (Nat.lt_of_lt_of_le (hR.b12 h).lt hl1), .inl (Nat.lt_of_lt_of_le (hR.b12 h).lt hl2)⟩), (hR.f13), (fun h => by have hh := (hR.b13 h).bel hb9; rw [es2] at hh; show Blk w9 g2 32 (bif b.l15 then _ else _); rw [es2]; exact hh), (fun h _ => ⟨.inl (Nat.lt_of_lt_of_le (hR.b13 h).lt hl1), .inl (Nat.lt_of_lt_of_le (hR.b13 h).lt hl2)⟩), (fun h => absurd (hi0.symm.trans (hR.f14 h).1) (by decide)), (fun h => absurd (hi0.symm.trans (hR.f15 h).1) (by decide)), (fun h => absurd (hi0.symm.trans (hR.f16 h).1) (by decide)), (hR.ne)⟩⟩
        · intro listed a W hJ hi hp K hK
          obtain ⟨b, ⟨u0, u1, u2, u3, u4, u5, u6, u7, u8, u9, u10, u11, u12, u13, u16⟩, ⟨tx, cx, px, dx, ty, cy, py, dy, lo1, hi1, lo2, hi2, g1, g2⟩, rfl, rfl, hR⟩ := hJ
          dsimp only at hi hp
          have hi0 : b.l8 = false := by simpa using hi
          simp [Region.binds] at hp
          clear hi
          go_split_ands
          have hf : b.l7 = true := by assumption
          have eq_ := hR.f7 hf
          try dsimp only at eq_
          obtain rfl := eq_
          rw [HFR.out]
          go_simp
          exact hK.out _ _ ⟨{ b with l8 := true }, ⟨_, _, _, _, _, _, _, _, _, _, _, _, _, _, _⟩, ⟨tx, cx, px, dx, ty, cy, py, dy, lo1, hi1, lo2, hi2, g1, g2⟩, rfl, (HFR.out _ _ _ _ _ _ _ _ _ _ _ _ _ _ _).symm, ⟨hR.hB, (hR.f0), (hR.f1), (hR.f2), (hR.f3), (hR.f4), (hR.f5), (hR.f6), (hR.f7), (hR.r7), (fun _ => ⟨hf, rfl⟩), (hR.f9), (hR.f10), (hR.f11), (hR.f12), (hR.b12), (hR.d12), (hR.f13), (hR.b13), (hR.d13), (hR.f14), (hR.f15), (hR.f16), (hR.ne)⟩⟩
        · intro listed a W hJ hi hp K hK
          obtain ⟨b, ⟨u0, u1, u2, u3, u4, u5, u6, u7, u8, u9, u10, u11, u12, u13, u16⟩, ⟨tx, cx, px, dx, ty, cy, py, dy, lo1, hi1, lo2, hi2, g1, g2⟩, rfl, rfl, hR⟩ := hJ
          dsimp only at hi hp
          have hi0 : b.l9 = false := by simpa using hi
          simp [Region.binds] at hp
          clear hi
          go_split_ands
          have eq_ := hR.f8 (by assumption)
          try dsimp only at eq_
          obtain ⟨hf, rfl⟩ := eq_
          rw [HFR.out]
          go_simp
          exact hK.out _ _ ⟨{ b with l9 := true }, ⟨_, _, _, _, _, _, _, _, _, _, _, _, _, _, _⟩, ⟨tx, cx, px, dx, ty, cy, py, dy, lo1, hi1, lo2, hi2, g1, g2⟩, rfl, (HFR.out _ _ _ _ _ _ _ _ _ _ _ _ _ _ _).symm, ⟨hR.hB, (hR.f0), (hR.f1), (hR.f2), (hR.f3), (hR.f4), (hR.f5), (hR.f6), (hR.f7), (hR.r7), (hR.f8), (fun _ => ⟨hf, rfl⟩), (hR.f10), (hR.f11), (hR.f12), (hR.b12), (hR.d12), (hR.f13), (hR.b13), (hR.d13), (hR.f14), (hR.f15), (hR.f16), (hR.ne)⟩⟩
        · intro listed a W hJ hi hp K hK
          obtain ⟨b, ⟨u0, u1, u2, u3, u4, u5, u6, u7, u8, u9, u10, u11, u12, u13, u16⟩, ⟨tx, cx, px, dx, ty, cy, py, dy, lo1, hi1, lo2, hi2, g1, g2⟩, rfl, rfl, hR⟩ := hJ
          dsimp only at hi hp
          have hi0 : b.l10 = false := by simpa using hi
          simp [Region.binds] at hp
          clear hi
          go_split_ands
          have eq_ := hR.f8 (by assumption)
          try dsimp only at eq_
          obtain ⟨hf, rfl⟩ := eq_
          rw [HFR.out]
          go_simp
          exact hK.out _ _ ⟨{ b with l10 := true }, ⟨_, _, _, _, _, _, _, _, _, _, _, _, _, _, _⟩, ⟨tx, cx, px, dx, ty, cy, py, dy, lo1, hi1, lo2, hi2, g1, g2⟩, rfl, (HFR.out _ _ _ _ _ _ _ _ _ _ _ _ _ _ _).symm, ⟨hR.hB, (hR.f0), (hR.f1), (hR.f2), (hR.f3), (hR.f4), (hR.f5), (hR.f6), (hR.f7), (hR.r7), (hR.f8), (hR.f9), (fun _ => ⟨hf, rfl⟩), (hR.f11), (hR.f12), (hR.b12), (hR.d12), (hR.f13), (hR.b13), (hR.d13), (hR.f14), (hR.f15), (hR.f16), (hR.ne)⟩⟩
        · intro listed a W hJ hi hp K hK
          obtain ⟨b, ⟨u0, u1, u2, u3, u4, u5, u6, u7, u8, u9, u10, u11, u12, u13, u16⟩, ⟨tx, cx, px, dx, ty, cy, py, dy, lo1, hi1, lo2, hi2, g1, g2⟩, rfl, rfl, hR⟩ := hJ
          dsimp only at hi hp
          have hi0 : b.l11 = false := by simpa using hi
          simp [Region.binds] at hp
          clear hi
          go_split_ands
          have eq_ := hR.f8 (by assumption)
          try dsimp only at eq_
          obtain ⟨hf, rfl⟩ := eq_
          rw [HFR.out]
          go_simp
          exact hK.out _ _ ⟨{ b with l11 := true }, ⟨_, _, _, _, _, _, _, _, _, _, _, _, _, _, _⟩, ⟨tx, cx, px, dx, ty, cy, py, dy, lo1, hi1, lo2, hi2, g1, g2⟩, rfl, (HFR.out _ _ _ _ _ _ _ _ _ _ _ _ _ _ _).symm, ⟨hR.hB, (hR.f0), (hR.f1), (hR.f2), (hR.f3), (hR.f4), (hR.f5), (hR.f6), (hR.f7), (hR.r7), (hR.f8), (hR.f9), (hR.f10), (fun _ => ⟨hf, rfl⟩), (hR.f12), (hR.b12), (hR.d12), (hR.f13), (hR.b13), (hR.d13), (hR.f14), (hR.f15), (hR.f16), (hR.ne)⟩⟩
        · intro listed a W hJ hi hp K hK
          obtain ⟨b, ⟨u0, u1, u2, u3, u4, u5, u6, u7, u8, u9, u10, u11, u12, u13, u16⟩, ⟨tx, cx, px, dx, ty, cy, py, dy, lo1, hi1, lo2, hi2, g1, g2⟩, rfl, rfl, hR⟩ := hJ
          dsimp only at hi hp
          have hi0 : b.l12 = false := by simpa using hi
          simp [Region.binds] at hp
          clear hi
          go_split_ands
          have hba : Below W.heap.size W (W.alloc (.cells #[Value.slice none 0 0, .int .i64 0, .slice none 0 0] 32)) := (Below.refl _ _).alloc (Nat.le_refl _) _
          have hsz := hR.hB.size
          have es : b.l14 = false := by rcases bcases b.l14 with e | e; exact absurd (hi0.symm.trans (hR.f14 e).2) (by decide); exact e
          rw [HFR.out]
          go_simp
          exact hK.out _ _ ⟨{ b with l12 := true }, ⟨_, _, _, _, _, _, _, _, _, _, _, _, _, _, _⟩, ⟨tx, cx, px, dx, ty, cy, py, dy, lo1, hi1, lo2, hi2, W.heap.size, g2⟩, rfl, (HFR.out _ _ _ _ _ _ _ _ _ _ _ _ _ _ _).symm, ⟨(bel_step hR.hB hba), (hR.f0), (hR.f1), (hR.f2), (hR.f3), (hR.f4), (hR.f5), (hR.f6), (hR.f7), (fun h => ⟨(hR.r7 h).1.bel hba, (hR.r7 h).2.1.bel hba, (hR.r7 h).2.2⟩), (hR.f8), (hR.f9), (hR.f10), (hR.f11), (fun _ => ⟨rfl, hsz⟩), (fun _ => by show Blk (W.alloc (.cells #[Value.slice none 0 0, .int .i64 0, .slice none 0 0] 32)) W.heap.size 32 (bif b.l14 then _ else _); rw [es]; exact Blk.new _ _ _), (fun _ h => ⟨.inr (hR.r7 h).1.2.2, .inr (hR.r7 h).2.1.2.2⟩), (hR.f13), (fun h => (hR.b13 h).bel hba), (hR.d13), (fun h => ⟨(hR.f14 h).1, rfl⟩), (hR.f15), (hR.f16), (fun _ h => Nat.ne_of_gt (hR.b13 h).lt)⟩⟩
        · intro listed a W hJ hi hp K hK
          obtain ⟨b, ⟨u0, u1, u2, u3, u4, u5, u6, u7, u8, u9, u10, u11, u12, u13, u16⟩, ⟨tx, cx, px, dx, ty, cy, py, dy, lo1, hi1, lo2, hi2, g1, g2⟩, rfl, rfl, hR⟩ := hJ
          dsimp only at hi hp
          have hi0 : b.l13 = false := by simpa using hi
          simp [Region.binds] at hp
          clear hi
          go_split_ands
          have hba : Below W.heap.size W (W.alloc (.cells #[Value.slice none 0 0, .int .i64 0, .slice none 0 0] 32)) := (Below.refl _ _).alloc (Nat.le_refl _) _
          have hsz := hR.hB.size
          have es : b.l15 = false := by rcases bcases b.l15 with e | e; exact absurd (hi0.symm.trans (hR.f15 e).2) (by decide); exact e
          rw [HFR.out]
          go_simp
          exact hK.out _ _ ⟨{ b with l13 := true }, ⟨_, _, _, _, _, _, _, _, _, _, _, _, _, _, _⟩, ⟨tx, cx, px, dx, ty, cy, py, dy, lo1, hi1, lo2, hi2, g1, W.heap.size⟩, rfl, (HFR.out _ _ _ _ _ _ _ _ _ _ _ _ _ _ _).symm, ⟨(bel_step hR.hB hba), (hR.f0), (hR.f1), (hR.f2), (hR.f3), (hR.f4), (hR.f5), (hR.f6), (hR.f7), (fun h => ⟨(hR.r7 h).1.bel hba, (hR.r7 h).2.1.bel hba, (hR.r7 h).2.2⟩), (hR.f8), (hR.f9), (hR.f10), (hR.f11), (hR.f12), (fun h => (hR.b12 h).bel hba), (hR.d12), (fun _ => ⟨rfl, hsz⟩), (fun _ => by show Blk (W.alloc (.cells #[Value.slice none 0 0, .int .i64 0, .slice none 0 0] 32)) W.heap.size 32 (bif b.l15 then _ else _); rw [es]; exact Blk.new _ _ _), (fun _ h => ⟨.inr (hR.r7 h).1.2.2, .inr (hR.r7 h).2.1.2.2⟩), (hR.f14), (fun h => ⟨(hR.f15 h).1, rfl⟩), (hR.f16), (fun h _ => Nat.ne_of_lt (hR.b12 h).lt)⟩⟩
        · intro listed a W hJ hi hp K hK
          obtain ⟨b, ⟨u0, u1, u2, u3, u4, u5, u6, u7, u8, u9, u10, u11, u12, u13, u16⟩, ⟨tx, cx, px, dx, ty, cy, py, dy, lo1, hi1, lo2, hi2, g1, g2⟩, rfl, rfl, hR⟩ := hJ
          dsimp only at hi hp
          have hi0 : b.l14 = false := by simpa using hi
          simp [Region.binds] at hp
          clear hi
          go_split_ands
          have eq_ := hR.f9 (by assumption)
          try dsimp only at eq_
          obtain ⟨hf, rfl⟩ := eq_
          have ha : b.l12 = true := by assumption
          have eq_ := hR.f12 ha
          try dsimp only at eq_
          obtain ⟨rfl, hg⟩ := eq_
          have hk := hR.b12 ha
          rw [hi0] at hk
          replace hk : Blk W g1 32 #[Value.slice none 0 0, .int .i64 0, .slice none 0 0] := hk
          have hc := hk.cell
          have hfz := hk.frozen
          have hlt := hk.lt
          obtain ⟨ro1, ro2, ro3, ro4, ro5⟩ := hR.r7 hf
          obtain ⟨dd1, dd2⟩ := hR.d12 ha hf
          rw [HFR.out]
          go_simp
          exact hK.out _ _ ⟨{ b with l14 := true }, ⟨_, _, _, _, _, _, _, _, _, _, _, _, _, _, _⟩, ⟨tx, cx, px, dx, ty, cy, py, dy, lo1, hi1, lo2, hi2, g1, g2⟩, rfl, (HFR.out _ _ _ _ _ _ _ _ _ _ _ _ _ _ _).symm, ⟨(bel_three' hR.hB hg), (hR.f0), (hR.f1), (hR.f2), (hR.f3), (hR.f4), (hR.f5), (hR.f6), (hR.f7), (fun _ => ⟨ro1.three dd1, ro2.three dd2, ro3, ro4, ro5⟩), (hR.f8), (hR.f9), (hR.f10), (hR.f11), (hR.f12), (fun _ => hk.three), (hR.d12), (hR.f13), (fun h => (hR.b13 h).farn (fun e => hR.ne ha h e.symm)), (hR.d13), (fun _ => ⟨hf, ha⟩), (hR.f15), (hR.f16), (hR.ne)⟩⟩
        · intro listed a W hJ hi hp K hK
          obtain ⟨b, ⟨u0, u1, u2, u3, u4, u5, u6, u7, u8, u9, u10, u11, u12, u13, u16⟩, ⟨tx, cx, px, dx, ty, cy, py, dy, lo1, hi1, lo2, hi2, g1, g2⟩, rfl, rfl, hR⟩ := hJ
          dsimp only at hi hp
          have hi0 : b.l15 = false := by simpa using hi
          simp [Region.binds] at hp
          clear hi
          go_split_ands
          have eq_ := hR.f10 (by assumption)
          try dsimp only at eq_
          obtain ⟨hf, rfl⟩ := eq_
          have ha : b.l13 = true := by assumption
          have eq_ := hR.f13 ha
          try dsimp only at eq_
          obtain ⟨rfl, hg⟩ := eq_
          have hk := hR.b13 ha
          rw [hi0] at hk
          replace hk : Blk W g2 32 #[Value.slice none 0 0, .int .i64 0, .slice none 0 0] := hk
          have hc := hk.cell
          have hfz := hk.frozen
          have hlt := hk.lt
          obtain ⟨ro1, ro2, ro3, ro4, ro5⟩ := hR.r7 hf
          obtain ⟨dd1, dd2⟩ := hR.d13 ha hf
          rw [HFR.out]
          go_simp
          exact hK.out _ _ ⟨{ b with l15 := true }, ⟨_, _, _, _, _, _, _, _, _, _, _, _, _, _, _⟩, ⟨tx, cx, px, dx, ty, cy, py, dy, lo1, hi1, lo2, hi2, g1, g2⟩, rfl, (HFR.out _ _ _ _ _ _ _ _ _ _ _ _ _ _ _).symm, ⟨(bel_three' hR.hB hg), (hR.f0), (hR.f1), (hR.f2), (hR.f3), (hR.f4), (hR.f5), (hR.f6), (hR.f7), (fun _ => ⟨ro1.three dd1, ro2.three dd2, ro3, ro4, ro5⟩), (hR.f8), (hR.f9), (hR.f10), (hR.f11), (hR.f12), (fun h => (hR.b12 h).farn (fun e => hR.ne h ha e)), (hR.d12), (hR.f13), (fun _ => hk.three), (hR.d13), (hR.f14), (fun _ => ⟨hf, ha⟩), (hR.f16), (hR.ne)⟩⟩
        · intro listed a W hJ hi hp K hK
          obtain ⟨b, ⟨u0, u1, u2, u3, u4, u5, u6, u7, u8, u9, u10, u11, u12, u13, u16⟩, ⟨tx, cx, px, dx, ty, cy, py, dy, lo1, hi1, lo2, hi2, g1, g2⟩, rfl, rfl, hR⟩ := hJ
          dsimp only at hi hp
          have hi0 : b.l16 = false := by simpa using hi
          simp [Region.binds] at hp
          clear hi
          go_split_ands
          have eq_ := hR.f11 (by assumption)
          try dsimp only at eq_
          obtain ⟨hf, rfl⟩ := eq_
          rw [HFR.out]
          go_simp
          exact hK.out _ _ ⟨{ b with l16 := true }, ⟨_, _, _, _, _, _, _, _, _, _, _, _, _, _, _⟩, ⟨tx, cx, px, dx, ty, cy, py, dy, lo1, hi1, lo2, hi2, g1, g2⟩, rfl, (HFR.out _ _ _ _ _ _ _ _ _ _ _ _ _ _ _).symm, ⟨hR.hB, (hR.f0), (hR.f1), (hR.f2), (hR.f3), (hR.f4), (hR.f5), (hR.f6), (hR.f7), (hR.r7), (hR.f8), (hR.f9), (hR.f10), (hR.f11), (hR.f12), (hR.b12), (hR.d12), (hR.f13), (hR.b13), (hR.d13), (hR.f14), (hR.f15), (fun _ => ⟨hf, rfl⟩), (hR.ne)⟩⟩
      · intro a W hJ
        obtain ⟨⟨l0, l1, l2, l3, l4, l5, l6, l7, l8, l9, l10, l11, l12, l13, l14, l15, l16⟩, ⟨u0, u1, u2, u3, u4, u5, u6, u7, u8, u9, u10, u11, u12, u13, u16⟩, ⟨tx, cx, px, dx, ty, cy, py, dy, lo1, hi1, lo2, hi2, g1, g2⟩, hl, rfl, ⟨hB, f0, f1, f2, f3, f4, f5, f6, f7, r7, f8, f9, f10, f11, f12, b12, d12, f13, b13, d13, f14, f15, f16, ne⟩⟩ := hJ
        dsimp only at hl f0 f1 f2 f3 f4 f5 f6 f7 r7 f8 f9 f10 f11 f12 b12 d12 f13 b13 d13 f14 f15 f16 ne
        have hl2 : (#[true, true, true, true, true, true, true, true, true, true, true, true, true, true, true, true, true] : Array Bool) = #[l0, l1, l2, l3, l4, l5, l6, l7, l8, l9, l10, l11, l12, l13, l14, l15, l16] := hl
        simp only [Array.mk.injEq, List.cons.injEq, and_true] at hl2
        obtain ⟨rfl, rfl, rfl, rfl, rfl, rfl, rfl, rfl, rfl, rfl, rfl, rfl, rfl, rfl, rfl, rfl, rfl⟩ := hl2
        clear hl
        obtain ⟨rfl, hg1⟩ := f12 rfl
        obtain ⟨rfl, hg2⟩ := f13 rfl
        obtain ⟨_, rfl⟩ := f16 rfl
        obtain ⟨ro1, ro2, ro3, ro4, ro5⟩ := r7 rfl
        obtain ⟨dd1, dd2⟩ := d12 rfl rfl
        obtain ⟨dd3, dd4⟩ := d13 rfl rfl
        have B1 := b12 rfl
        have B2 := b13 rfl
        clear f0 f1 f2 f3 f4 f5 f6 f7 f8 f9 f10 f11 b12 b13 f14 f15 ne
        rw [HFR.out]
        go_wp2_with fail
        go_meet
        exact ⟨g1, g2, tx, cx, px, dx, ty, cy, py, dy, lo1, hi1, lo2, hi2, rfl, rfl, rfl, hg1, hg2, B1, B2, ro1, ro2, ro3, ro4, ro5, hB, dd1, dd2, dd3, dd4⟩
    case rest =>
      obtain ⟨gx, gy, tx, cx, px, dx, ty, cy, py, dy, lo1, hi1, lo2, hi2, rfl, rfl, rfl, egx, egy, hBx, hBy, O1, O2, hdd, hl1, hl2, hb4, k1, k2, k3, k4⟩ := hcut
      replace hBw := hBw.bel hb4
      replace hW := bel_step hW hb4
      clear hb4 hdd hl1 hl2 k1 k2 k3 k4 HCA3 HCB3 HLt egx egy hz3
      go_wp2_with fail
      obtain ⟨C, HCS⟩ : ∃ C : World → Prop, Hid (∀ w, C w ↔ Below wc.heap.size wc w) := ⟨_, fun _ => Iff.rfl⟩
      have bl1 := hBx.lt
      have bl2 := hBy.lt
      have bl3 := hBw.lt
      have HL := Lib.hid (fun (V : World) (h : C V) => (show (∀ i, V.cell? ⟨w2.heap.size, i, none⟩ = #[Value.int .i64 g, .int .i64 o, .int .i64 s, .int .i64 f, .int .i64 d][i]?) ∧ (∀ i, V.cell? ⟨gx, i, none⟩ = #[Value.slice tx pa.length cx, .int .i64 (va - nn), .slice px za.length dx][i]?) ∧ (∀ i, V.cell? ⟨gy, i, none⟩ = #[Value.slice ty pb.length cy, .int .i64 vy, .slice py zy.length dy][i]?) ∧ (V.cell? ⟨bb, off, none⟩ = some (.slice tA pa.length tc) ∧ V.cell? ⟨bb, off + 1, none⟩ = some (.int .i64 va) ∧ V.cell? ⟨bb, off + 2, none⟩ = some (.slice pA za.length pc)) ∧ (V.cell? ⟨bb, off + 3, none⟩ = some (.slice tB pb.length td) ∧ V.cell? ⟨bb, off + 3 + 1, none⟩ = some (.int .i64 vb) ∧ V.cell? ⟨bb, off + 3 + 2, none⟩ = some (.slice pB zb.length pd)) from ⟨(hBw.bel ((HCS.out _).1 h)).cell, (hBx.bel ((HCS.out _).1 h)).cell, (hBy.bel ((HCS.out _).1 h)).cell, HCA.out _ (bel_step hW ((HCS.out _).1 h)), HCB.out _ (bel_step hW ((HCS.out _).1 h))⟩))
      refine quiet_class (C := C) (by kernel_rfl) (by kernel_rfl) ((HCS.out _).2 (Below.refl _ _).drew) ?_
      have HCX := Lib.hid (fun (W W1 : World) (hb : Below W.heap.size W W1) (h : C W) => ((HCS.out _).2 (bel_step ((HCS.out _).1 h) hb) : C W1))
      have HTac := Lib.hid (fun (W : World) (h : C W) => HTa.out W (bel_step hW ((HCS.out _).1 h)))
      have HTbc := Lib.hid (fun (W : World) (h : C W) => HTb.out W (bel_step hW ((HCS.out _).1 h)))
      have HLac := Lib.hid (fun (W : World) (h : C W) => HLa.out W (bel_step hW ((HCS.out _).1 h)))
      have HLbc := Lib.hid (fun (W : World) (h : C W) => HLb.out W (bel_step hW ((HCS.out _).1 h)))
      have HVac := Lib.hid (fun (W : World) (h : C W) => HVa.out W (bel_step hW ((HCS.out _).1 h)))
      have HTxc := Lib.hid (fun (W : World) (h : C W) => ro_total (O1.bel ((HCS.out _).1 h)) OKX.out SX.out lpa lza)
      have HTyc := Lib.hid (fun (W : World) (h : C W) => ro_total (O2.bel ((HCS.out _).1 h)) OKY.out SY.out lpb zyl)
      have HGc := Lib.hid (fun (W : World) (_ : C W) => HG.out W)
      have HCR := Lib.hid (fun (W : World) (h : C W) => hW0.trans ((bel_step hW ((HCS.out _).1 h)).mono hW0.size))
      clear HTa HTb HLa HLb HVa HG hW hBx hBy hBw O1 O2 OKX OKY SX SY HCA HCB bl1 bl2 bl3 lpa lza lpb zyl l2 hbl
      have t1 : (sa - nn + (sb + nn) == sa + sb) = true := by rw [beq_iff_eq]; omega
      have t1d : sa - nn + (sb + nn) = sa + sb := by omega
      have wr0 : IntKind.i64.wrap (sa - nn + (sb + nn)) = sa - nn + (sb + nn) := IntWalk.i64_in _ (by omega)
      have wr1 : IntKind.i64.wrap (sa + sb) = sa + sb := IntWalk.i64_in _ (by omega)
      have wr2 : IntKind.i64.wrap (sa - nn) = sa - nn := IntWalk.i64_in _ (by omega)
      have wr3 : IntKind.i64.wrap (va - nn) = va - nn := IntWalk.i64_in _ (by omega)
      have kc : (nn == 0) = true ∨ ((nn == 0) = false ∧ ke ≤ va - nn) := by simp only [beq_iff_eq, beq_eq_false_iff_ne, ne_eq]; omega
      clear kept gb kb b1 b2 b3 b4 b5 b6 nv
      have HCD := Lib.hid (fun (W : World) (h : C W) => ((HCS.out _).2 ((HCS.out _).1 h).drew : C W.drew))
      repeat (first
        | (refine quiet_one (v := ?_) (by rfl) (fun u hu => ?_) ?_
           rotate_left
           · (have hl := HL.out _ hu; go_simp; first | done | with_reducible rfl | (go_at_call 9; with_reducible refine (HVac.out _ hu).mono ?_; rintro e w8 ⟨rfl, hb8⟩; refine ⟨?_, HCX.out _ _ hb8 hu⟩; with_reducible rfl))
           (try simp only [Act.put, List.setIfInBounds_toArray, List.set_cons_zero, List.set_cons_succ]))
        | (refine BigFrame.wpQuiet_skip (by rfl) ?_; (try simp only [Act.put, List.setIfInBounds_toArray, List.set_cons_zero, List.set_cons_succ]))
        | fail)
      refine wpQuiet_nil ?_
      intro W9 hC9
      go_wp2_with fail
      dsimp only [List.append]
      refine quiet_class (C := C) (by kernel_rfl) (by kernel_rfl) (HCD.out _ hC9) ?_
      rcases kc with kc | ⟨kc, kd⟩
      all_goals
        repeat (first
          | (refine quiet_one (v := ?_) (by rfl) (fun u hu => ?_) ?_
             rotate_left
             · (have hl := HL.out _ hu; go_simp; first | done | with_reducible rfl | (go_at_call 10; with_reducible refine (HTxc.out _ hu).mono ?_; rintro e w8 ⟨rfl, hb8⟩; refine ⟨?_, HCX.out _ _ hb8 hu⟩; with_reducible rfl) | (go_at_call 10; with_reducible refine (HTyc.out _ hu).mono ?_; rintro e w8 ⟨rfl, hb8⟩; refine ⟨?_, HCX.out _ _ hb8 hu⟩; with_reducible rfl) | (go_at_call 10; with_reducible refine (HTac.out _ hu).mono ?_; rintro e w8 ⟨rfl, hb8⟩; refine ⟨?_, HCX.out _ _ hb8 hu⟩; with_reducible rfl) | (go_at_call 10; with_reducible refine (HTbc.out _ hu).mono ?_; rintro e w8 ⟨rfl, hb8⟩; refine ⟨?_, HCX.out _ _ hb8 hu⟩; with_reducible rfl) | (go_at_call 9; with_reducible refine (HVac.out _ hu).mono ?_; rintro e w8 ⟨rfl, hb8⟩; refine ⟨?_, HCX.out _ _ hb8 hu⟩; with_reducible rfl) | (go_at_call 12; with_reducible refine (HLac.out _ hu).mono ?_; rintro e w8 ⟨rfl, hb8⟩; refine ⟨?_, HCX.out _ _ hb8 hu⟩; with_reducible rfl) | (go_at_call 12; with_reducible refine (HLbc.out _ hu).mono ?_; rintro e w8 ⟨rfl, hb8⟩; refine ⟨?_, HCX.out _ _ hb8 hu⟩; with_reducible rfl) | (go_at_call 11; with_reducible refine (HGc.out _ hu).mono ?_; rintro e w8 ⟨rfl, hb8⟩; refine ⟨?_, HCX.out _ _ hb8 hu⟩; with_reducible rfl))
             (try simp only [Act.put, List.setIfInBounds_toArray, List.set_cons_zero, List.set_cons_succ]))
          | (refine BigFrame.wpQuiet_skip (by rfl) ?_; (try simp only [Act.put, List.setIfInBounds_toArray, List.set_cons_zero, List.set_cons_succ]))
          | fail)
        refine wpQuiet_nil ?_
        intro W10 hC10
        have hW10 := HCR.out _ hC10
        go_wp2
        go_ret
        exact ⟨rfl, hW10⟩
end Go.Proofs.Ytlnmpdkbkkmhiaa
