/- The walk of the law FnLevels. -/
import Derived.Test.YtgbncfjabnaokabDrP
import Derived.Test.YtgbncfjabnaokabTabD
import Derived.Test.YtgbncfjabnaokabNew
import Derived.BigQuiet
namespace Go.Proofs.Ytgbncfjabnaokab
open Go.RowKit
theorem BytesAt.at_ {w W : World} {A : Option Addr} {n : Nat} {zs : List Int} (h : BytesAt w w.heap.size A n zs) (hb : Below w.heap.size w W) : BytesAt W W.heap.size A n zs := by
  have h' := h.below hb
  exact ⟨h'.1, h'.2.1, fun hn => by obtain ⟨b, off, e, hl, hc⟩ := h'.2.2 hn; exact ⟨b, off, e, Nat.lt_of_lt_of_le hl hb.size, hc⟩⟩
theorem quiet_class {P : Program} {C : World → Prop} {id : Nat} {Q : Exit → Act → World → Prop} {a : Act} {w : World} {l : List Oper} (hm : P.follows .mixedOrders = true) (hB : Region.lexB .any l.toArray = true) (hC : C w.drew)
    (h : wpQuiet P l.toArray C (fun a' => ∀ w', C w' → Q .normal a' w') l a) : (Code.region id l.toArray true).wp P Q a w :=
  wp_region_quiet (C := C) hm hB hC (by simpa using h)
/-- A walk that no tactic looks into. -/
structure WQ (P : Program) (ops : Array Oper) (C : World → Prop) (Q : Act → Prop) (l : List Oper) (a : Act) : Prop where
  h : wpQuiet P ops C Q l a
theorem quiet_class2 {P : Program} {C : World → Prop} {id : Nat} {Q : Exit → Act → World → Prop} {a : Act} {w : World} {l : List Oper} (hm : P.follows .mixedOrders = true) (hB : Region.lexB .any l.toArray = true) (hC : C w.drew)
    (h : ∀ K : Act → Prop, Hid (∀ a', (∀ w', C w' → Q .normal a' w') → K a') → WQ P l.toArray C K l a) : (Code.region id l.toArray true).wp P Q a w :=
  quiet_class hm hB hC (h _ (Lib.hid fun _ h => h)).h
theorem quiet_one {P : Program} {ops : Array Oper} {C : World → Prop} {Q : Act → Prop} {o : Oper} {rest : List Oper} {a : Act} {v : Value} (hw : Region.wanted o (yielded ops a.tmps) = true) (hy : ∀ w, C w → o.quietAt P a C w v) (h : wpQuiet P ops C Q rest (a.put o.dst v)) : wpQuiet P ops C Q (o :: rest) a :=
  BigFrame.wpQuiet_want hw (fun _ hK => ⟨v, hy, hK _ h⟩)
theorem WQ.one {P : Program} {ops : Array Oper} {C : World → Prop} {Q : Act → Prop} {o : Oper} {rest : List Oper} {a : Act} {v : Value} (hw : Region.wanted o (yielded ops a.tmps) = true) (hy : ∀ w, C w → o.quietAt P a C w v) (h : WQ P ops C Q rest (a.put o.dst v)) : WQ P ops C Q (o :: rest) a := ⟨quiet_one hw hy h.h⟩
theorem WQ.skip {P : Program} {ops : Array Oper} {C : World → Prop} {Q : Act → Prop} {o : Oper} {rest : List Oper} {a : Act} (hw : Region.wanted o (yielded ops a.tmps) = false) (h : WQ P ops C Q rest (a.put o.dst undef)) : WQ P ops C Q (o :: rest) a := ⟨BigFrame.wpQuiet_skip hw h.h⟩
theorem WQ.nil {P : Program} {ops : Array Oper} {C : World → Prop} {Q : Act → Prop} {a : Act} (h : Q a) : WQ P ops C Q [] a := ⟨wpQuiet_nil h⟩
/-- What the law asks of a level. -/
theorem level_facts {ps : List (Int × Int)} {va : Int} {za : List Int} (h : reachOk ps va za = true) (ht : tableOk ps = true) :
    (va ≤ py ps (ps.length - 1) ∧ va ≤ valueV ps (levelV ps va za) ∧ px ps 0 ≤ levelV ps va za ∧ levelV ps va za ≤ px ps (ps.length - 1) ∧ (px ps 0 < levelV ps va za → valueV ps (levelV ps va za - 1) < va)) ∨
    (py ps (ps.length - 1) < va ∧ levelV ps va za = px ps (ps.length - 1) ∧ px ps 0 < px ps (ps.length - 1)) := by
  rcases Int.lt_or_le (py ps (ps.length - 1)) va with h1 | h1
  · right
    have hp : placeB ps va = false := (place_no (.inr h1)).1
    exact ⟨h1, level_out h hp, tab_xlt ht (by have := tab_len ht; omega) (by have := tab_len ht; omega)⟩
  · left
    have hp := place_yes ht h1
    rw [level_in h hp]
    obtain ⟨p1, p2, p3, p4⟩ := place_spec ht h1
    exact ⟨h1, p3, p1, p2, p4⟩
set_option maxHeartbeats 80000000 in
set_option maxRecDepth 100000 in
theorem walk_FnLevels (A : Option Addr) (n c : Nat) (zs : List Int) (w : World) (hB : BytesAt w w.heap.size A n zs) :
    Calls Try.prog 8 #[.slice A n c] w fun e w' => e = .returned (.bool true) ∧ Below w.heap.size w w' := by
  by_cases hbig : 1048576 < n
  · have hb : decide (1048576 < n) = true := by simpa using hbig
    clear hB
    go_enter Try.func8, Try.ntmps8
    go_wp2_with (go_at_call 20; refine (l_big _ _ _ _).mono ?_; rintro e w' ⟨rfl, rfl⟩)
    go_ret
    exact ⟨rfl, Below.refl _ _⟩
  · have hb : decide (1048576 < n) = false := by simpa using hbig
    go_enter Try.func8, Try.ntmps8
    go_wp2_with fail
    refine (l_big _ _ _ _).mono ?_; rintro e w' ⟨rfl, rfl⟩
    go_wp2_with fail
    refine (s_DrawReaches A n c zs _ hB (by omega)).mono ?_; rintro e w1 ⟨lA, lc, ds, rfl, l2, l4, hv, hR, hW0⟩
    have HA := Lib.hid (fun (W : World) (hb : Below w.heap.size w W) => l_atK A n c zs 0 0 w.heap.size W rfl (hB.below hb) (by omega) (by omega))
    have HT := Lib.hid (fun (W : World) (hb : Below w.heap.size w W) => s_DrawTable A n c zs W (hB.at_ hb) (by omega))
    have a0 := atV_bd hB 0
    clear hB hb
    have HD := Lib.hid (fun (k : Nat) (hk : k < ds.length) => one_drawn hv hR hk)
    clear hv hR
    generalize ds.length = len at *
    go_wp2_with fail
    go_loopw [4] (fun v4 wr => ∃ k : Nat, k ≤ len ∧ v4 = .int .i64 k ∧ Below w1.heap.size w1 wr) (fun v4 _ => len - (intOf v4).toNat)
    case atStart => exact ⟨0, by omega, rfl, Below.refl _ _⟩
    case round =>
      obtain ⟨k, hk, rfl, hW⟩ := hrel
      by_cases hlt : k < len
      · obtain ⟨b, off, tA, tc, ps, va, pA, pc, za, sa, rfl, hbl, _, D, hc⟩ := HD.out k hlt
        obtain ⟨c0, c1, c2, hl⟩ := hc wr hW
        clear hc HD
        have e3 : (k : Int) < (len : Int) := by omega
        have hlen := tab_len D.tab.1
        have LV := level_facts D.ok D.tab.1
        have HLv := Lib.hid (fun (W : World) (hb : Below w1.heap.size w1 W) => i_LevelOf tA tc ps va pA pc za W.heap.size W (D.pts W hb) (D.nums W hb) (Nat.le_refl _) D.pl D.zl)
        have HVa := Lib.hid (fun (x : Int) (W : World) (hb : Below w1.heap.size w1 W) => s_ValueAt tA tc ps x W.heap.size W (D.pts W hb) (Nat.le_refl _) D.pl)
        obtain ⟨bt, ot, rfl, hbt, hct⟩ := D.pts w1 (Below.refl _ _) (by omega)
        have HCT := Lib.hid (fun (W : World) (hb : Below w1.heap.size w1 W) => (show W.cell? ⟨bt, ot, none⟩ = some (.int .i64 (px ps 0)) ∧ W.cell? ⟨bt, ot + (ps.length - 1) * 2, none⟩ = some (.int .i64 (px ps (ps.length - 1))) ∧ W.cell? ⟨bt, ot + (ps.length - 1) * 2 + 1, none⟩ = some (.int .i64 (py ps (ps.length - 1))) by
          have h0 := (hct 0 (by omega)).1
          rw [Nat.zero_mul, Nat.add_zero] at h0
          exact ⟨(hb.cell (p := ⟨bt, ot, none⟩) hbt).trans h0, (hb.cell (p := ⟨bt, _, none⟩) hbt).trans (hct (ps.length - 1) (by omega)).1, (hb.cell (p := ⟨bt, _, none⟩) hbt).trans (hct (ps.length - 1) (by omega)).2⟩))
        have bx := D.tab.2.2 (ps.length - 1) (by omega)
        have b0x := tab_x D.tab.1 (show 0 < ps.length by omega)
        have blx := tab_x D.tab.1 (show ps.length - 1 < ps.length by omega)
        clear hct D
        generalize levelV ps va za = x at *
        have g0 : (2 : Int) ≤ (ps.length : Int) := by omega
        have g1 : (0 : Int) ≤ (ps.length : Int) - 1 := by omega
        have g2 : (ps.length : Int) - 1 < (ps.length : Int) := by omega
        have g3 : (ps.length : Int) ≤ 20 := by omega
        generalize hx0 : px ps 0 = x0 at *
        generalize hxl : px ps (ps.length - 1) = xl at *
        generalize hyl : py ps (ps.length - 1) = yl at *
        obtain ⟨v1, hv1⟩ : ∃ v, v = valueV ps x := ⟨_, rfl⟩
        obtain ⟨v2, hv2⟩ : ∃ v, v = valueV ps (x - 1) := ⟨_, rfl⟩
        rw [← hv1, ← hv2] at LV
        have HV1 := Lib.hid (fun (W : World) (hb : Below w1.heap.size w1 W) => by have := HVa.out x W hb; rwa [← hv1] at this)
        have HV2 := Lib.hid (fun (W : World) (hb : Below w1.heap.size w1 W) => by have := HVa.out (x - 1) W hb; rwa [← hv2] at this)
        clear hv1 hv2 HVa hx0 hxl hyl
        obtain ⟨hBr, hbb, _⟩ := boxN wr 29 #[Value.slice (some ⟨bt, ot, none⟩) ps.length tc, .int .i64 va, .slice pA za.length pc]
        replace hW := bel_step hW hbb
        clear hbb
        go_wp2_with fail
        refine (HLv.out _ hW).mono ?_; rintro e w3 ⟨rfl, hb3⟩
        replace hBr := hBr.bel hb3
        replace hW := bel_step hW hb3
        clear hb3 HLv c0 c1 c2 hl
        obtain ⟨t0, t1, t2⟩ := HCT.out _ hW
        have cr := hBr.cell
        have hbt3 : bt < w3.heap.size := Nat.lt_of_lt_of_le hbt hW.size
        go_wp2_with fail
        obtain ⟨hBl, hbb, hsz⟩ := boxN w3 52 #[Value.int .i64 xl, .int .i64 yl]
        replace hBr := hBr.bel hbb
        replace hW := bel_step hW hbb
        have t0b := (hbb.cell (p := ⟨bt, ot, none⟩) hbt3).trans t0
        have hbt4 : bt < w3.heap.size + 1 := by omega
        rw [← hsz] at hbt4
        clear hbb hsz t0 t1 t2 cr
        generalize w3.alloc (.cells #[Value.int .i64 xl, .int .i64 yl] 52) = W9 at *
        obtain ⟨C, HCS⟩ : ∃ C : World → Prop, Hid (∀ w, C w ↔ Below W9.heap.size W9 w) := ⟨_, fun _ => Iff.rfl⟩
        have bl1 := hBr.lt
        have bl2 := hBl.lt
        have HL := Lib.hid (fun (V : World) (h : C V) => (show (∀ i, V.cell? ⟨wr.heap.size, i, none⟩ = #[Value.slice (some ⟨bt, ot, none⟩) ps.length tc, .int .i64 va, .slice pA za.length pc][i]?) ∧ (∀ i, V.cell? ⟨w3.heap.size, i, none⟩ = #[Value.int .i64 xl, .int .i64 yl][i]?) ∧ V.cell? ⟨bt, ot, none⟩ = some (.int .i64 x0) from ⟨(hBr.bel ((HCS.out _).1 h)).cell, (hBl.bel ((HCS.out _).1 h)).cell, (((HCS.out _).1 h).cell (p := ⟨bt, ot, none⟩) hbt4).trans t0b⟩))
        refine quiet_class2 (C := C) (by kernel_rfl) (by kernel_rfl) ((HCS.out _).2 (Below.refl _ _).drew) (fun KK HKK => ?_)
        have HCX := Lib.hid (fun (W W1 : World) (hb : Below W.heap.size W W1) (h : C W) => ((HCS.out _).2 (bel_step ((HCS.out _).1 h) hb) : C W1))
        have HV1c := Lib.hid (fun (W : World) (h : C W) => HV1.out W (bel_step hW ((HCS.out _).1 h)))
        have HV2c := Lib.hid (fun (W : World) (h : C W) => HV2.out W (bel_step hW ((HCS.out _).1 h)))
        have HCR := Lib.hid (fun (W : World) (h : C W) => bel_step hW ((HCS.out _).1 h))
        have g4 : (0 : Int) < (ps.length : Int) := by omega
        have g5 : 0 < ps.length := by omega
        have g6 : decide (0 < ps.length) = true := by simp; omega
        have wx1 : IntKind.i64.wrap (x - 1) = x - 1 := IntWalk.i64_in _ (by omega)
        clear HV1 HV2 hW hBr hBl HCT t0b hbt hbt3 hbt4 bl1 bl2 bx b0x blx hlen
        have LW : (va ≤ yl ∧ ¬ yl < va ∧ ¬ v1 < va ∧ x0 < x ∧ ¬ va ≤ v2) ∨ (va ≤ yl ∧ ¬ yl < va ∧ ¬ v1 < va ∧ ¬ x0 < x) ∨ (¬ va ≤ yl ∧ yl < va ∧ x = xl ∧ x0 < x) := by
          rcases LV with ⟨q1, q2, q3, q4, q5⟩ | ⟨q1, q2, q3⟩
          · by_cases q6 : x0 < x
            · have := q5 q6; exact .inl ⟨q1, by omega, by omega, q6, by omega⟩
            · exact .inr (.inl ⟨q1, by omega, by omega, q6⟩)
          · exact .inr (.inr ⟨by omega, q1, q2, by omega⟩)
        clear LV
        rcases LW with ⟨q1, q2, q3, q4, q5⟩ | ⟨q1, q2, q3, q4⟩ | ⟨q1, q2, rfl, q4⟩
        · skip
          refine WQ.one (v := ?_) (by rfl) (fun u hu => ?_) ?_
          rotate_left
          · (have hl := HL.out _ hu; go_simp; first | done | with_reducible rfl | (go_at_call 30; with_reducible refine (HV1c.out _ hu).mono ?_; rintro e w8 ⟨rfl, hb8⟩; refine ⟨?_, HCX.out _ _ hb8 hu⟩; with_reducible rfl) | (go_at_call 30; with_reducible refine (HV2c.out _ hu).mono ?_; rintro e w8 ⟨rfl, hb8⟩; refine ⟨?_, HCX.out _ _ hb8 hu⟩; with_reducible rfl))
          (try simp only [Act.put, List.setIfInBounds_toArray, List.set_cons_zero, List.set_cons_succ])
          refine WQ.one (v := ?_) (by rfl) (fun u hu => ?_) ?_
          rotate_left
          · (have hl := HL.out _ hu; go_simp; first | done | with_reducible rfl | (go_at_call 30; with_reducible refine (HV1c.out _ hu).mono ?_; rintro e w8 ⟨rfl, hb8⟩; refine ⟨?_, HCX.out _ _ hb8 hu⟩; with_reducible rfl) | (go_at_call 30; with_reducible refine (HV2c.out _ hu).mono ?_; rintro e w8 ⟨rfl, hb8⟩; refine ⟨?_, HCX.out _ _ hb8 hu⟩; with_reducible rfl))
          (try simp only [Act.put, List.setIfInBounds_toArray, List.set_cons_zero, List.set_cons_succ])
          refine WQ.one (v := ?_) (by rfl) (fun u hu => ?_) ?_
          rotate_left
          · (have hl := HL.out _ hu; go_simp; first | done | with_reducible rfl | (go_at_call 30; with_reducible refine (HV1c.out _ hu).mono ?_; rintro e w8 ⟨rfl, hb8⟩; refine ⟨?_, HCX.out _ _ hb8 hu⟩; with_reducible rfl) | (go_at_call 30; with_reducible refine (HV2c.out _ hu).mono ?_; rintro e w8 ⟨rfl, hb8⟩; refine ⟨?_, HCX.out _ _ hb8 hu⟩; with_reducible rfl))
          (try simp only [Act.put, List.setIfInBounds_toArray, List.set_cons_zero, List.set_cons_succ])
          refine WQ.one (v := ?_) (by rfl) (fun u hu => ?_) ?_
          rotate_left
          · (have hl := HL.out _ hu; go_simp; first | done | with_reducible rfl | (go_at_call 30; with_reducible refine (HV1c.out _ hu).mono ?_; rintro e w8 ⟨rfl, hb8⟩; refine ⟨?_, HCX.out _ _ hb8 hu⟩; with_reducible rfl) | (go_at_call 30; with_reducible refine (HV2c.out _ hu).mono ?_; rintro e w8 ⟨rfl, hb8⟩; refine ⟨?_, HCX.out _ _ hb8 hu⟩; with_reducible rfl))
          (try simp only [Act.put, List.setIfInBounds_toArray, List.set_cons_zero, List.set_cons_succ])
          refine WQ.one (v := ?_) (by rfl) (fun u hu => ?_) ?_
          rotate_left
          · (have hl := HL.out _ hu; go_simp; first | done | with_reducible rfl | (go_at_call 30; with_reducible refine (HV1c.out _ hu).mono ?_; rintro e w8 ⟨rfl, hb8⟩; refine ⟨?_, HCX.out _ _ hb8 hu⟩; with_reducible rfl) | (go_at_call 30; with_reducible refine (HV2c.out _ hu).mono ?_; rintro e w8 ⟨rfl, hb8⟩; refine ⟨?_, HCX.out _ _ hb8 hu⟩; with_reducible rfl))
          (try simp only [Act.put, List.setIfInBounds_toArray, List.set_cons_zero, List.set_cons_succ])
          refine WQ.one (v := ?_) (by rfl) (fun u hu => ?_) ?_
          rotate_left
          · (have hl := HL.out _ hu; go_simp; first | done | with_reducible rfl | (go_at_call 30; with_reducible refine (HV1c.out _ hu).mono ?_; rintro e w8 ⟨rfl, hb8⟩; refine ⟨?_, HCX.out _ _ hb8 hu⟩; with_reducible rfl) | (go_at_call 30; with_reducible refine (HV2c.out _ hu).mono ?_; rintro e w8 ⟨rfl, hb8⟩; refine ⟨?_, HCX.out _ _ hb8 hu⟩; with_reducible rfl))
          (try simp only [Act.put, List.setIfInBounds_toArray, List.set_cons_zero, List.set_cons_succ])
          refine WQ.one (v := ?_) (by rfl) (fun u hu => ?_) ?_
          rotate_left
          · (have hl := HL.out _ hu; go_simp; first | done | with_reducible rfl | (go_at_call 30; with_reducible refine (HV1c.out _ hu).mono ?_; rintro e w8 ⟨rfl, hb8⟩; refine ⟨?_, HCX.out _ _ hb8 hu⟩; with_reducible rfl) | (go_at_call 30; with_reducible refine (HV2c.out _ hu).mono ?_; rintro e w8 ⟨rfl, hb8⟩; refine ⟨?_, HCX.out _ _ hb8 hu⟩; with_reducible rfl))
          (try simp only [Act.put, List.setIfInBounds_toArray, List.set_cons_zero, List.set_cons_succ])
          refine WQ.one (v := ?_) (by rfl) (fun u hu => ?_) ?_
          rotate_left
          · (have hl := HL.out _ hu; go_simp; first | done | with_reducible rfl | (go_at_call 30; with_reducible refine (HV1c.out _ hu).mono ?_; rintro e w8 ⟨rfl, hb8⟩; refine ⟨?_, HCX.out _ _ hb8 hu⟩; with_reducible rfl) | (go_at_call 30; with_reducible refine (HV2c.out _ hu).mono ?_; rintro e w8 ⟨rfl, hb8⟩; refine ⟨?_, HCX.out _ _ hb8 hu⟩; with_reducible rfl))
          (try simp only [Act.put, List.setIfInBounds_toArray, List.set_cons_zero, List.set_cons_succ])
          refine WQ.one (v := ?_) (by rfl) (fun u hu => ?_) ?_
          rotate_left
          · (have hl := HL.out _ hu; go_simp; first | done | with_reducible rfl | (go_at_call 30; with_reducible refine (HV1c.out _ hu).mono ?_; rintro e w8 ⟨rfl, hb8⟩; refine ⟨?_, HCX.out _ _ hb8 hu⟩; with_reducible rfl) | (go_at_call 30; with_reducible refine (HV2c.out _ hu).mono ?_; rintro e w8 ⟨rfl, hb8⟩; refine ⟨?_, HCX.out _ _ hb8 hu⟩; with_reducible rfl))
          (try simp only [Act.put, List.setIfInBounds_toArray, List.set_cons_zero, List.set_cons_succ])
          refine WQ.one (v := ?_) (by rfl) (fun u hu => ?_) ?_
          rotate_left
          · (have hl := HL.out _ hu; go_simp; first | done | with_reducible rfl | (go_at_call 30; with_reducible refine (HV1c.out _ hu).mono ?_; rintro e w8 ⟨rfl, hb8⟩; refine ⟨?_, HCX.out _ _ hb8 hu⟩; with_reducible rfl) | (go_at_call 30; with_reducible refine (HV2c.out _ hu).mono ?_; rintro e w8 ⟨rfl, hb8⟩; refine ⟨?_, HCX.out _ _ hb8 hu⟩; with_reducible rfl))
          (try simp only [Act.put, List.setIfInBounds_toArray, List.set_cons_zero, List.set_cons_succ])
          refine WQ.one (v := ?_) (by rfl) (fun u hu => ?_) ?_
          rotate_left
          · (have hl := HL.out _ hu; go_simp; first | done | with_reducible rfl | (go_at_call 30; with_reducible refine (HV1c.out _ hu).mono ?_; rintro e w8 ⟨rfl, hb8⟩; refine ⟨?_, HCX.out _ _ hb8 hu⟩; with_reducible rfl) | (go_at_call 30; with_reducible refine (HV2c.out _ hu).mono ?_; rintro e w8 ⟨rfl, hb8⟩; refine ⟨?_, HCX.out _ _ hb8 hu⟩; with_reducible rfl))
          (try simp only [Act.put, List.setIfInBounds_toArray, List.set_cons_zero, List.set_cons_succ])
          refine WQ.one (v := ?_) (by rfl) (fun u hu => ?_) ?_
          rotate_left
          · (have hl := HL.out _ hu; go_simp; first | done | with_reducible rfl | (go_at_call 30; with_reducible refine (HV1c.out _ hu).mono ?_; rintro e w8 ⟨rfl, hb8⟩; refine ⟨?_, HCX.out _ _ hb8 hu⟩; with_reducible rfl) | (go_at_call 30; with_reducible refine (HV2c.out _ hu).mono ?_; rintro e w8 ⟨rfl, hb8⟩; refine ⟨?_, HCX.out _ _ hb8 hu⟩; with_reducible rfl))
          (try simp only [Act.put, List.setIfInBounds_toArray, List.set_cons_zero, List.set_cons_succ])
          refine WQ.one (v := ?_) (by rfl) (fun u hu => ?_) ?_
          rotate_left
          · (have hl := HL.out _ hu; go_simp; first | done | with_reducible rfl | (go_at_call 30; with_reducible refine (HV1c.out _ hu).mono ?_; rintro e w8 ⟨rfl, hb8⟩; refine ⟨?_, HCX.out _ _ hb8 hu⟩; with_reducible rfl) | (go_at_call 30; with_reducible refine (HV2c.out _ hu).mono ?_; rintro e w8 ⟨rfl, hb8⟩; refine ⟨?_, HCX.out _ _ hb8 hu⟩; with_reducible rfl))
          (try simp only [Act.put, List.setIfInBounds_toArray, List.set_cons_zero, List.set_cons_succ])
          refine WQ.one (v := ?_) (by rfl) (fun u hu => ?_) ?_
          rotate_left
          · (have hl := HL.out _ hu; go_simp; first | done | with_reducible rfl | (go_at_call 30; with_reducible refine (HV1c.out _ hu).mono ?_; rintro e w8 ⟨rfl, hb8⟩; refine ⟨?_, HCX.out _ _ hb8 hu⟩; with_reducible rfl) | (go_at_call 30; with_reducible refine (HV2c.out _ hu).mono ?_; rintro e w8 ⟨rfl, hb8⟩; refine ⟨?_, HCX.out _ _ hb8 hu⟩; with_reducible rfl))
          (try simp only [Act.put, List.setIfInBounds_toArray, List.set_cons_zero, List.set_cons_succ])
          refine WQ.one (v := ?_) (by rfl) (fun u hu => ?_) ?_
          rotate_left
          · (have hl := HL.out _ hu; go_simp; first | done | with_reducible rfl | (go_at_call 30; with_reducible refine (HV1c.out _ hu).mono ?_; rintro e w8 ⟨rfl, hb8⟩; refine ⟨?_, HCX.out _ _ hb8 hu⟩; with_reducible rfl) | (go_at_call 30; with_reducible refine (HV2c.out _ hu).mono ?_; rintro e w8 ⟨rfl, hb8⟩; refine ⟨?_, HCX.out _ _ hb8 hu⟩; with_reducible rfl))
          (try simp only [Act.put, List.setIfInBounds_toArray, List.set_cons_zero, List.set_cons_succ])
          refine WQ.one (v := ?_) (by rfl) (fun u hu => ?_) ?_
          rotate_left
          · (have hl := HL.out _ hu; go_simp; first | done | with_reducible rfl | (go_at_call 30; with_reducible refine (HV1c.out _ hu).mono ?_; rintro e w8 ⟨rfl, hb8⟩; refine ⟨?_, HCX.out _ _ hb8 hu⟩; with_reducible rfl) | (go_at_call 30; with_reducible refine (HV2c.out _ hu).mono ?_; rintro e w8 ⟨rfl, hb8⟩; refine ⟨?_, HCX.out _ _ hb8 hu⟩; with_reducible rfl))
          (try simp only [Act.put, List.setIfInBounds_toArray, List.set_cons_zero, List.set_cons_succ])
          refine WQ.one (v := ?_) (by rfl) (fun u hu => ?_) ?_
          rotate_left
          · (have hl := HL.out _ hu; go_simp; first | done | with_reducible rfl | (go_at_call 30; with_reducible refine (HV1c.out _ hu).mono ?_; rintro e w8 ⟨rfl, hb8⟩; refine ⟨?_, HCX.out _ _ hb8 hu⟩; with_reducible rfl) | (go_at_call 30; with_reducible refine (HV2c.out _ hu).mono ?_; rintro e w8 ⟨rfl, hb8⟩; refine ⟨?_, HCX.out _ _ hb8 hu⟩; with_reducible rfl))
          (try simp only [Act.put, List.setIfInBounds_toArray, List.set_cons_zero, List.set_cons_succ])
          refine WQ.one (v := ?_) (by rfl) (fun u hu => ?_) ?_
          rotate_left
          · (have hl := HL.out _ hu; go_simp; first | done | with_reducible rfl | (go_at_call 30; with_reducible refine (HV1c.out _ hu).mono ?_; rintro e w8 ⟨rfl, hb8⟩; refine ⟨?_, HCX.out _ _ hb8 hu⟩; with_reducible rfl) | (go_at_call 30; with_reducible refine (HV2c.out _ hu).mono ?_; rintro e w8 ⟨rfl, hb8⟩; refine ⟨?_, HCX.out _ _ hb8 hu⟩; with_reducible rfl))
          (try simp only [Act.put, List.setIfInBounds_toArray, List.set_cons_zero, List.set_cons_succ])
          refine WQ.one (v := ?_) (by rfl) (fun u hu => ?_) ?_
          rotate_left
          · (have hl := HL.out _ hu; go_simp; first | done | with_reducible rfl | (go_at_call 30; with_reducible refine (HV1c.out _ hu).mono ?_; rintro e w8 ⟨rfl, hb8⟩; refine ⟨?_, HCX.out _ _ hb8 hu⟩; with_reducible rfl) | (go_at_call 30; with_reducible refine (HV2c.out _ hu).mono ?_; rintro e w8 ⟨rfl, hb8⟩; refine ⟨?_, HCX.out _ _ hb8 hu⟩; with_reducible rfl))
          (try simp only [Act.put, List.setIfInBounds_toArray, List.set_cons_zero, List.set_cons_succ])
          refine WQ.one (v := ?_) (by rfl) (fun u hu => ?_) ?_
          rotate_left
          · (have hl := HL.out _ hu; go_simp; first | done | with_reducible rfl | (go_at_call 30; with_reducible refine (HV1c.out _ hu).mono ?_; rintro e w8 ⟨rfl, hb8⟩; refine ⟨?_, HCX.out _ _ hb8 hu⟩; with_reducible rfl) | (go_at_call 30; with_reducible refine (HV2c.out _ hu).mono ?_; rintro e w8 ⟨rfl, hb8⟩; refine ⟨?_, HCX.out _ _ hb8 hu⟩; with_reducible rfl))
          (try simp only [Act.put, List.setIfInBounds_toArray, List.set_cons_zero, List.set_cons_succ])
          refine WQ.one (v := ?_) (by rfl) (fun u hu => ?_) ?_
          rotate_left
          · (have hl := HL.out _ hu; go_simp; first | done | with_reducible rfl | (go_at_call 30; with_reducible refine (HV1c.out _ hu).mono ?_; rintro e w8 ⟨rfl, hb8⟩; refine ⟨?_, HCX.out _ _ hb8 hu⟩; with_reducible rfl) | (go_at_call 30; with_reducible refine (HV2c.out _ hu).mono ?_; rintro e w8 ⟨rfl, hb8⟩; refine ⟨?_, HCX.out _ _ hb8 hu⟩; with_reducible rfl))
          (try simp only [Act.put, List.setIfInBounds_toArray, List.set_cons_zero, List.set_cons_succ])
          refine WQ.skip (by rfl) ?_
          (try simp only [Act.put, List.setIfInBounds_toArray, List.set_cons_zero, List.set_cons_succ])
          refine WQ.skip (by rfl) ?_
          (try simp only [Act.put, List.setIfInBounds_toArray, List.set_cons_zero, List.set_cons_succ])
          refine WQ.skip (by rfl) ?_
          (try simp only [Act.put, List.setIfInBounds_toArray, List.set_cons_zero, List.set_cons_succ])
          refine WQ.skip (by rfl) ?_
          (try simp only [Act.put, List.setIfInBounds_toArray, List.set_cons_zero, List.set_cons_succ])
          refine WQ.one (v := ?_) (by rfl) (fun u hu => ?_) ?_
          rotate_left
          · (have hl := HL.out _ hu; go_simp; first | done | with_reducible rfl | (go_at_call 30; with_reducible refine (HV1c.out _ hu).mono ?_; rintro e w8 ⟨rfl, hb8⟩; refine ⟨?_, HCX.out _ _ hb8 hu⟩; with_reducible rfl) | (go_at_call 30; with_reducible refine (HV2c.out _ hu).mono ?_; rintro e w8 ⟨rfl, hb8⟩; refine ⟨?_, HCX.out _ _ hb8 hu⟩; with_reducible rfl))
          (try simp only [Act.put, List.setIfInBounds_toArray, List.set_cons_zero, List.set_cons_succ])
          refine WQ.one (v := ?_) (by rfl) (fun u hu => ?_) ?_
          rotate_left
          · (have hl := HL.out _ hu; go_simp; first | done | with_reducible rfl | (go_at_call 30; with_reducible refine (HV1c.out _ hu).mono ?_; rintro e w8 ⟨rfl, hb8⟩; refine ⟨?_, HCX.out _ _ hb8 hu⟩; with_reducible rfl) | (go_at_call 30; with_reducible refine (HV2c.out _ hu).mono ?_; rintro e w8 ⟨rfl, hb8⟩; refine ⟨?_, HCX.out _ _ hb8 hu⟩; with_reducible rfl))
          (try simp only [Act.put, List.setIfInBounds_toArray, List.set_cons_zero, List.set_cons_succ])
          refine WQ.one (v := ?_) (by rfl) (fun u hu => ?_) ?_
          rotate_left
          · (have hl := HL.out _ hu; go_simp; first | done | with_reducible rfl | (go_at_call 30; with_reducible refine (HV1c.out _ hu).mono ?_; rintro e w8 ⟨rfl, hb8⟩; refine ⟨?_, HCX.out _ _ hb8 hu⟩; with_reducible rfl) | (go_at_call 30; with_reducible refine (HV2c.out _ hu).mono ?_; rintro e w8 ⟨rfl, hb8⟩; refine ⟨?_, HCX.out _ _ hb8 hu⟩; with_reducible rfl))
          (try simp only [Act.put, List.setIfInBounds_toArray, List.set_cons_zero, List.set_cons_succ])
          refine WQ.one (v := ?_) (by rfl) (fun u hu => ?_) ?_
          rotate_left
          · (have hl := HL.out _ hu; go_simp; first | done | with_reducible rfl | (go_at_call 30; with_reducible refine (HV1c.out _ hu).mono ?_; rintro e w8 ⟨rfl, hb8⟩; refine ⟨?_, HCX.out _ _ hb8 hu⟩; with_reducible rfl) | (go_at_call 30; with_reducible refine (HV2c.out _ hu).mono ?_; rintro e w8 ⟨rfl, hb8⟩; refine ⟨?_, HCX.out _ _ hb8 hu⟩; with_reducible rfl))
          (try simp only [Act.put, List.setIfInBounds_toArray, List.set_cons_zero, List.set_cons_succ])
          refine WQ.one (v := ?_) (by rfl) (fun u hu => ?_) ?_
          rotate_left
          · (have hl := HL.out _ hu; go_simp; first | done | with_reducible rfl | (go_at_call 30; with_reducible refine (HV1c.out _ hu).mono ?_; rintro e w8 ⟨rfl, hb8⟩; refine ⟨?_, HCX.out _ _ hb8 hu⟩; with_reducible rfl) | (go_at_call 30; with_reducible refine (HV2c.out _ hu).mono ?_; rintro e w8 ⟨rfl, hb8⟩; refine ⟨?_, HCX.out _ _ hb8 hu⟩; with_reducible rfl))
          (try simp only [Act.put, List.setIfInBounds_toArray, List.set_cons_zero, List.set_cons_succ])
          refine WQ.one (v := ?_) (by rfl) (fun u hu => ?_) ?_
          rotate_left
          · (have hl := HL.out _ hu; go_simp; first | done | with_reducible rfl | (go_at_call 30; with_reducible refine (HV1c.out _ hu).mono ?_; rintro e w8 ⟨rfl, hb8⟩; refine ⟨?_, HCX.out _ _ hb8 hu⟩; with_reducible rfl) | (go_at_call 30; with_reducible refine (HV2c.out _ hu).mono ?_; rintro e w8 ⟨rfl, hb8⟩; refine ⟨?_, HCX.out _ _ hb8 hu⟩; with_reducible rfl))
          (try simp only [Act.put, List.setIfInBounds_toArray, List.set_cons_zero, List.set_cons_succ])
          refine WQ.one (v := ?_) (by rfl) (fun u hu => ?_) ?_
          rotate_left
          · (have hl := HL.out _ hu; go_simp; first | done | with_reducible rfl | (go_at_call 30; with_reducible refine (HV1c.out _ hu).mono ?_; rintro e w8 ⟨rfl, hb8⟩; refine ⟨?_, HCX.out _ _ hb8 hu⟩; with_reducible rfl) | (go_at_call 30; with_reducible refine (HV2c.out _ hu).mono ?_; rintro e w8 ⟨rfl, hb8⟩; refine ⟨?_, HCX.out _ _ hb8 hu⟩; with_reducible rfl))
          (try simp only [Act.put, List.setIfInBounds_toArray, List.set_cons_zero, List.set_cons_succ])
          refine WQ.one (v := ?_) (by rfl) (fun u hu => ?_) ?_
          rotate_left
          · (have hl := HL.out _ hu; go_simp; first | done | with_reducible rfl | (go_at_call 30; with_reducible refine (HV1c.out _ hu).mono ?_; rintro e w8 ⟨rfl, hb8⟩; refine ⟨?_, HCX.out _ _ hb8 hu⟩; with_reducible rfl) | (go_at_call 30; with_reducible refine (HV2c.out _ hu).mono ?_; rintro e w8 ⟨rfl, hb8⟩; refine ⟨?_, HCX.out _ _ hb8 hu⟩; with_reducible rfl))
          (try simp only [Act.put, List.setIfInBounds_toArray, List.set_cons_zero, List.set_cons_succ])
          refine WQ.one (v := ?_) (by rfl) (fun u hu => ?_) ?_
          rotate_left
          · (have hl := HL.out _ hu; go_simp; first | done | with_reducible rfl | (go_at_call 30; with_reducible refine (HV1c.out _ hu).mono ?_; rintro e w8 ⟨rfl, hb8⟩; refine ⟨?_, HCX.out _ _ hb8 hu⟩; with_reducible rfl) | (go_at_call 30; with_reducible refine (HV2c.out _ hu).mono ?_; rintro e w8 ⟨rfl, hb8⟩; refine ⟨?_, HCX.out _ _ hb8 hu⟩; with_reducible rfl))
          (try simp only [Act.put, List.setIfInBounds_toArray, List.set_cons_zero, List.set_cons_succ])
          refine WQ.one (v := ?_) (by rfl) (fun u hu => ?_) ?_
          rotate_left
          · (have hl := HL.out _ hu; go_simp; first | done | with_reducible rfl | (go_at_call 30; with_reducible refine (HV1c.out _ hu).mono ?_; rintro e w8 ⟨rfl, hb8⟩; refine ⟨?_, HCX.out _ _ hb8 hu⟩; with_reducible rfl) | (go_at_call 30; with_reducible refine (HV2c.out _ hu).mono ?_; rintro e w8 ⟨rfl, hb8⟩; refine ⟨?_, HCX.out _ _ hb8 hu⟩; with_reducible rfl))
          (try simp only [Act.put, List.setIfInBounds_toArray, List.set_cons_zero, List.set_cons_succ])
          refine WQ.one (v := ?_) (by rfl) (fun u hu => ?_) ?_
          rotate_left
          · (have hl := HL.out _ hu; go_simp; first | done | with_reducible rfl | (go_at_call 30; with_reducible refine (HV1c.out _ hu).mono ?_; rintro e w8 ⟨rfl, hb8⟩; refine ⟨?_, HCX.out _ _ hb8 hu⟩; with_reducible rfl) | (go_at_call 30; with_reducible refine (HV2c.out _ hu).mono ?_; rintro e w8 ⟨rfl, hb8⟩; refine ⟨?_, HCX.out _ _ hb8 hu⟩; with_reducible rfl))
          (try simp only [Act.put, List.setIfInBounds_toArray, List.set_cons_zero, List.set_cons_succ])
          refine WQ.one (v := ?_) (by rfl) (fun u hu => ?_) ?_
          rotate_left
          · (have hl := HL.out _ hu; go_simp; first | done | with_reducible rfl | (go_at_call 30; with_reducible refine (HV1c.out _ hu).mono ?_; rintro e w8 ⟨rfl, hb8⟩; refine ⟨?_, HCX.out _ _ hb8 hu⟩; with_reducible rfl) | (go_at_call 30; with_reducible refine (HV2c.out _ hu).mono ?_; rintro e w8 ⟨rfl, hb8⟩; refine ⟨?_, HCX.out _ _ hb8 hu⟩; with_reducible rfl))
          (try simp only [Act.put, List.setIfInBounds_toArray, List.set_cons_zero, List.set_cons_succ])
          refine WQ.one (v := ?_) (by rfl) (fun u hu => ?_) ?_
          rotate_left
          · (have hl := HL.out _ hu; go_simp; first | done | with_reducible rfl | (go_at_call 30; with_reducible refine (HV1c.out _ hu).mono ?_; rintro e w8 ⟨rfl, hb8⟩; refine ⟨?_, HCX.out _ _ hb8 hu⟩; with_reducible rfl) | (go_at_call 30; with_reducible refine (HV2c.out _ hu).mono ?_; rintro e w8 ⟨rfl, hb8⟩; refine ⟨?_, HCX.out _ _ hb8 hu⟩; with_reducible rfl))
          (try simp only [Act.put, List.setIfInBounds_toArray, List.set_cons_zero, List.set_cons_succ])
          refine WQ.one (v := ?_) (by rfl) (fun u hu => ?_) ?_
          rotate_left
          · (have hl := HL.out _ hu; go_simp; first | done | with_reducible rfl | (go_at_call 30; with_reducible refine (HV1c.out _ hu).mono ?_; rintro e w8 ⟨rfl, hb8⟩; refine ⟨?_, HCX.out _ _ hb8 hu⟩; with_reducible rfl) | (go_at_call 30; with_reducible refine (HV2c.out _ hu).mono ?_; rintro e w8 ⟨rfl, hb8⟩; refine ⟨?_, HCX.out _ _ hb8 hu⟩; with_reducible rfl))
          (try simp only [Act.put, List.setIfInBounds_toArray, List.set_cons_zero, List.set_cons_succ])
          refine WQ.one (v := ?_) (by rfl) (fun u hu => ?_) ?_
          rotate_left
          · (have hl := HL.out _ hu; go_simp; first | done | with_reducible rfl | (go_at_call 30; with_reducible refine (HV1c.out _ hu).mono ?_; rintro e w8 ⟨rfl, hb8⟩; refine ⟨?_, HCX.out _ _ hb8 hu⟩; with_reducible rfl) | (go_at_call 30; with_reducible refine (HV2c.out _ hu).mono ?_; rintro e w8 ⟨rfl, hb8⟩; refine ⟨?_, HCX.out _ _ hb8 hu⟩; with_reducible rfl))
          (try simp only [Act.put, List.setIfInBounds_toArray, List.set_cons_zero, List.set_cons_succ])
          refine WQ.one (v := ?_) (by rfl) (fun u hu => ?_) ?_
          rotate_left
          · (have hl := HL.out _ hu; go_simp; first | done | with_reducible rfl | (go_at_call 30; with_reducible refine (HV1c.out _ hu).mono ?_; rintro e w8 ⟨rfl, hb8⟩; refine ⟨?_, HCX.out _ _ hb8 hu⟩; with_reducible rfl) | (go_at_call 30; with_reducible refine (HV2c.out _ hu).mono ?_; rintro e w8 ⟨rfl, hb8⟩; refine ⟨?_, HCX.out _ _ hb8 hu⟩; with_reducible rfl))
          (try simp only [Act.put, List.setIfInBounds_toArray, List.set_cons_zero, List.set_cons_succ])
          refine WQ.one (v := ?_) (by rfl) (fun u hu => ?_) ?_
          rotate_left
          · (have hl := HL.out _ hu; go_simp; first | done | with_reducible rfl | (go_at_call 30; with_reducible refine (HV1c.out _ hu).mono ?_; rintro e w8 ⟨rfl, hb8⟩; refine ⟨?_, HCX.out _ _ hb8 hu⟩; with_reducible rfl) | (go_at_call 30; with_reducible refine (HV2c.out _ hu).mono ?_; rintro e w8 ⟨rfl, hb8⟩; refine ⟨?_, HCX.out _ _ hb8 hu⟩; with_reducible rfl))
          (try simp only [Act.put, List.setIfInBounds_toArray, List.set_cons_zero, List.set_cons_succ])
          refine WQ.one (v := ?_) (by rfl) (fun u hu => ?_) ?_
          rotate_left
          · (have hl := HL.out _ hu; go_simp; first | done | with_reducible rfl | (go_at_call 30; with_reducible refine (HV1c.out _ hu).mono ?_; rintro e w8 ⟨rfl, hb8⟩; refine ⟨?_, HCX.out _ _ hb8 hu⟩; with_reducible rfl) | (go_at_call 30; with_reducible refine (HV2c.out _ hu).mono ?_; rintro e w8 ⟨rfl, hb8⟩; refine ⟨?_, HCX.out _ _ hb8 hu⟩; with_reducible rfl))
          (try simp only [Act.put, List.setIfInBounds_toArray, List.set_cons_zero, List.set_cons_succ])
          refine WQ.one (v := ?_) (by rfl) (fun u hu => ?_) ?_
          rotate_left
          · (have hl := HL.out _ hu; go_simp; first | done | with_reducible rfl | (go_at_call 30; with_reducible refine (HV1c.out _ hu).mono ?_; rintro e w8 ⟨rfl, hb8⟩; refine ⟨?_, HCX.out _ _ hb8 hu⟩; with_reducible rfl) | (go_at_call 30; with_reducible refine (HV2c.out _ hu).mono ?_; rintro e w8 ⟨rfl, hb8⟩; refine ⟨?_, HCX.out _ _ hb8 hu⟩; with_reducible rfl))
          (try simp only [Act.put, List.setIfInBounds_toArray, List.set_cons_zero, List.set_cons_succ])
          refine WQ.one (v := ?_) (by rfl) (fun u hu => ?_) ?_
          rotate_left
          · (have hl := HL.out _ hu; go_simp; first | done | with_reducible rfl | (go_at_call 30; with_reducible refine (HV1c.out _ hu).mono ?_; rintro e w8 ⟨rfl, hb8⟩; refine ⟨?_, HCX.out _ _ hb8 hu⟩; with_reducible rfl) | (go_at_call 30; with_reducible refine (HV2c.out _ hu).mono ?_; rintro e w8 ⟨rfl, hb8⟩; refine ⟨?_, HCX.out _ _ hb8 hu⟩; with_reducible rfl))
          (try simp only [Act.put, List.setIfInBounds_toArray, List.set_cons_zero, List.set_cons_succ])
          refine WQ.one (v := ?_) (by rfl) (fun u hu => ?_) ?_
          rotate_left
          · (have hl := HL.out _ hu; go_simp; first | done | with_reducible rfl | (go_at_call 30; with_reducible refine (HV1c.out _ hu).mono ?_; rintro e w8 ⟨rfl, hb8⟩; refine ⟨?_, HCX.out _ _ hb8 hu⟩; with_reducible rfl) | (go_at_call 30; with_reducible refine (HV2c.out _ hu).mono ?_; rintro e w8 ⟨rfl, hb8⟩; refine ⟨?_, HCX.out _ _ hb8 hu⟩; with_reducible rfl))
          (try simp only [Act.put, List.setIfInBounds_toArray, List.set_cons_zero, List.set_cons_succ])
          refine WQ.one (v := ?_) (by rfl) (fun u hu => ?_) ?_
          rotate_left
          · (have hl := HL.out _ hu; go_simp; first | done | with_reducible rfl | (go_at_call 30; with_reducible refine (HV1c.out _ hu).mono ?_; rintro e w8 ⟨rfl, hb8⟩; refine ⟨?_, HCX.out _ _ hb8 hu⟩; with_reducible rfl) | (go_at_call 30; with_reducible refine (HV2c.out _ hu).mono ?_; rintro e w8 ⟨rfl, hb8⟩; refine ⟨?_, HCX.out _ _ hb8 hu⟩; with_reducible rfl))
          (try simp only [Act.put, List.setIfInBounds_toArray, List.set_cons_zero, List.set_cons_succ])
          refine WQ.one (v := ?_) (by rfl) (fun u hu => ?_) ?_
          rotate_left
          · (have hl := HL.out _ hu; go_simp; first | done | with_reducible rfl | (go_at_call 30; with_reducible refine (HV1c.out _ hu).mono ?_; rintro e w8 ⟨rfl, hb8⟩; refine ⟨?_, HCX.out _ _ hb8 hu⟩; with_reducible rfl) | (go_at_call 30; with_reducible refine (HV2c.out _ hu).mono ?_; rintro e w8 ⟨rfl, hb8⟩; refine ⟨?_, HCX.out _ _ hb8 hu⟩; with_reducible rfl))
          (try simp only [Act.put, List.setIfInBounds_toArray, List.set_cons_zero, List.set_cons_succ])
          refine WQ.one (v := ?_) (by rfl) (fun u hu => ?_) ?_
          rotate_left
          · (have hl := HL.out _ hu; go_simp; first | done | with_reducible rfl | (go_at_call 30; with_reducible refine (HV1c.out _ hu).mono ?_; rintro e w8 ⟨rfl, hb8⟩; refine ⟨?_, HCX.out _ _ hb8 hu⟩; with_reducible rfl) | (go_at_call 30; with_reducible refine (HV2c.out _ hu).mono ?_; rintro e w8 ⟨rfl, hb8⟩; refine ⟨?_, HCX.out _ _ hb8 hu⟩; with_reducible rfl))
          (try simp only [Act.put, List.setIfInBounds_toArray, List.set_cons_zero, List.set_cons_succ])
          refine WQ.one (v := ?_) (by rfl) (fun u hu => ?_) ?_
          rotate_left
          · (have hl := HL.out _ hu; go_simp; first | done | with_reducible rfl | (go_at_call 30; with_reducible refine (HV1c.out _ hu).mono ?_; rintro e w8 ⟨rfl, hb8⟩; refine ⟨?_, HCX.out _ _ hb8 hu⟩; with_reducible rfl) | (go_at_call 30; with_reducible refine (HV2c.out _ hu).mono ?_; rintro e w8 ⟨rfl, hb8⟩; refine ⟨?_, HCX.out _ _ hb8 hu⟩; with_reducible rfl))
          (try simp only [Act.put, List.setIfInBounds_toArray, List.set_cons_zero, List.set_cons_succ])
          refine WQ.one (v := ?_) (by rfl) (fun u hu => ?_) ?_
          rotate_left
          · (have hl := HL.out _ hu; go_simp; first | done | with_reducible rfl | (go_at_call 30; with_reducible refine (HV1c.out _ hu).mono ?_; rintro e w8 ⟨rfl, hb8⟩; refine ⟨?_, HCX.out _ _ hb8 hu⟩; with_reducible rfl) | (go_at_call 30; with_reducible refine (HV2c.out _ hu).mono ?_; rintro e w8 ⟨rfl, hb8⟩; refine ⟨?_, HCX.out _ _ hb8 hu⟩; with_reducible rfl))
          (try simp only [Act.put, List.setIfInBounds_toArray, List.set_cons_zero, List.set_cons_succ])
          refine WQ.one (v := ?_) (by rfl) (fun u hu => ?_) ?_
          rotate_left
          · (have hl := HL.out _ hu; go_simp; first | done | with_reducible rfl | (go_at_call 30; with_reducible refine (HV1c.out _ hu).mono ?_; rintro e w8 ⟨rfl, hb8⟩; refine ⟨?_, HCX.out _ _ hb8 hu⟩; with_reducible rfl) | (go_at_call 30; with_reducible refine (HV2c.out _ hu).mono ?_; rintro e w8 ⟨rfl, hb8⟩; refine ⟨?_, HCX.out _ _ hb8 hu⟩; with_reducible rfl))
          (try simp only [Act.put, List.setIfInBounds_toArray, List.set_cons_zero, List.set_cons_succ])
          refine WQ.one (v := ?_) (by rfl) (fun u hu => ?_) ?_
          rotate_left
          · (have hl := HL.out _ hu; go_simp; first | done | with_reducible rfl | (go_at_call 30; with_reducible refine (HV1c.out _ hu).mono ?_; rintro e w8 ⟨rfl, hb8⟩; refine ⟨?_, HCX.out _ _ hb8 hu⟩; with_reducible rfl) | (go_at_call 30; with_reducible refine (HV2c.out _ hu).mono ?_; rintro e w8 ⟨rfl, hb8⟩; refine ⟨?_, HCX.out _ _ hb8 hu⟩; with_reducible rfl))
          (try simp only [Act.put, List.setIfInBounds_toArray, List.set_cons_zero, List.set_cons_succ])
          refine WQ.nil (HKK.out _ ?_)
          intro W10 hC10
          have hW10 := HCR.out _ hC10
          go_wp2
          go_roundw
          case rel => exact ⟨k + 1, by omega, by go_num, hW10⟩
          case measure => simp [intOf]; omega
        · skip
          refine WQ.one (v := ?_) (by rfl) (fun u hu => ?_) ?_
          rotate_left
          · (have hl := HL.out _ hu; go_simp; first | done | with_reducible rfl | (go_at_call 30; with_reducible refine (HV1c.out _ hu).mono ?_; rintro e w8 ⟨rfl, hb8⟩; refine ⟨?_, HCX.out _ _ hb8 hu⟩; with_reducible rfl) | (go_at_call 30; with_reducible refine (HV2c.out _ hu).mono ?_; rintro e w8 ⟨rfl, hb8⟩; refine ⟨?_, HCX.out _ _ hb8 hu⟩; with_reducible rfl))
          (try simp only [Act.put, List.setIfInBounds_toArray, List.set_cons_zero, List.set_cons_succ])
          refine WQ.one (v := ?_) (by rfl) (fun u hu => ?_) ?_
          rotate_left
          · (have hl := HL.out _ hu; go_simp; first | done | with_reducible rfl | (go_at_call 30; with_reducible refine (HV1c.out _ hu).mono ?_; rintro e w8 ⟨rfl, hb8⟩; refine ⟨?_, HCX.out _ _ hb8 hu⟩; with_reducible rfl) | (go_at_call 30; with_reducible refine (HV2c.out _ hu).mono ?_; rintro e w8 ⟨rfl, hb8⟩; refine ⟨?_, HCX.out _ _ hb8 hu⟩; with_reducible rfl))
          (try simp only [Act.put, List.setIfInBounds_toArray, List.set_cons_zero, List.set_cons_succ])
          refine WQ.one (v := ?_) (by rfl) (fun u hu => ?_) ?_
          rotate_left
          · (have hl := HL.out _ hu; go_simp; first | done | with_reducible rfl | (go_at_call 30; with_reducible refine (HV1c.out _ hu).mono ?_; rintro e w8 ⟨rfl, hb8⟩; refine ⟨?_, HCX.out _ _ hb8 hu⟩; with_reducible rfl) | (go_at_call 30; with_reducible refine (HV2c.out _ hu).mono ?_; rintro e w8 ⟨rfl, hb8⟩; refine ⟨?_, HCX.out _ _ hb8 hu⟩; with_reducible rfl))
          (try simp only [Act.put, List.setIfInBounds_toArray, List.set_cons_zero, List.set_cons_succ])
          refine WQ.one (v := ?_) (by rfl) (fun u hu => ?_) ?_
          rotate_left
          · (have hl := HL.out _ hu; go_simp; first | done | with_reducible rfl | (go_at_call 30; with_reducible refine (HV1c.out _ hu).mono ?_; rintro e w8 ⟨rfl, hb8⟩; refine ⟨?_, HCX.out _ _ hb8 hu⟩; with_reducible rfl) | (go_at_call 30; with_reducible refine (HV2c.out _ hu).mono ?_; rintro e w8 ⟨rfl, hb8⟩; refine ⟨?_, HCX.out _ _ hb8 hu⟩; with_reducible rfl))
          (try simp only [Act.put, List.setIfInBounds_toArray, List.set_cons_zero, List.set_cons_succ])
          refine WQ.one (v := ?_) (by rfl) (fun u hu => ?_) ?_
          rotate_left
          · (have hl := HL.out _ hu; go_simp; first | done | with_reducible rfl | (go_at_call 30; with_reducible refine (HV1c.out _ hu).mono ?_; rintro e w8 ⟨rfl, hb8⟩; refine ⟨?_, HCX.out _ _ hb8 hu⟩; with_reducible rfl) | (go_at_call 30; with_reducible refine (HV2c.out _ hu).mono ?_; rintro e w8 ⟨rfl, hb8⟩; refine ⟨?_, HCX.out _ _ hb8 hu⟩; with_reducible rfl))
          (try simp only [Act.put, List.setIfInBounds_toArray, List.set_cons_zero, List.set_cons_succ])
          refine WQ.one (v := ?_) (by rfl) (fun u hu => ?_) ?_
          rotate_left
          · (have hl := HL.out _ hu; go_simp; first | done | with_reducible rfl | (go_at_call 30; with_reducible refine (HV1c.out _ hu).mono ?_; rintro e w8 ⟨rfl, hb8⟩; refine ⟨?_, HCX.out _ _ hb8 hu⟩; with_reducible rfl) | (go_at_call 30; with_reducible refine (HV2c.out _ hu).mono ?_; rintro e w8 ⟨rfl, hb8⟩; refine ⟨?_, HCX.out _ _ hb8 hu⟩; with_reducible rfl))
          (try simp only [Act.put, List.setIfInBounds_toArray, List.set_cons_zero, List.set_cons_succ])
          refine WQ.one (v := ?_) (by rfl) (fun u hu => ?_) ?_
          rotate_left
          · (have hl := HL.out _ hu; go_simp; first | done | with_reducible rfl | (go_at_call 30; with_reducible refine (HV1c.out _ hu).mono ?_; rintro e w8 ⟨rfl, hb8⟩; refine ⟨?_, HCX.out _ _ hb8 hu⟩; with_reducible rfl) | (go_at_call 30; with_reducible refine (HV2c.out _ hu).mono ?_; rintro e w8 ⟨rfl, hb8⟩; refine ⟨?_, HCX.out _ _ hb8 hu⟩; with_reducible rfl))
          (try simp only [Act.put, List.setIfInBounds_toArray, List.set_cons_zero, List.set_cons_succ])
          refine WQ.one (v := ?_) (by rfl) (fun u hu => ?_) ?_
          rotate_left
          · (have hl := HL.out _ hu; go_simp; first | done | with_reducible rfl | (go_at_call 30; with_reducible refine (HV1c.out _ hu).mono ?_; rintro e w8 ⟨rfl, hb8⟩; refine ⟨?_, HCX.out _ _ hb8 hu⟩; with_reducible rfl) | (go_at_call 30; with_reducible refine (HV2c.out _ hu).mono ?_; rintro e w8 ⟨rfl, hb8⟩; refine ⟨?_, HCX.out _ _ hb8 hu⟩; with_reducible rfl))
          (try simp only [Act.put, List.setIfInBounds_toArray, List.set_cons_zero, List.set_cons_succ])
          refine WQ.one (v := ?_) (by rfl) (fun u hu => ?_) ?_
          rotate_left
          · (have hl := HL.out _ hu; go_simp; first | done | with_reducible rfl | (go_at_call 30; with_reducible refine (HV1c.out _ hu).mono ?_; rintro e w8 ⟨rfl, hb8⟩; refine ⟨?_, HCX.out _ _ hb8 hu⟩; with_reducible rfl) | (go_at_call 30; with_reducible refine (HV2c.out _ hu).mono ?_; rintro e w8 ⟨rfl, hb8⟩; refine ⟨?_, HCX.out _ _ hb8 hu⟩; with_reducible rfl))
          (try simp only [Act.put, List.setIfInBounds_toArray, List.set_cons_zero, List.set_cons_succ])
          refine WQ.one (v := ?_) (by rfl) (fun u hu => ?_) ?_
          rotate_left
          · (have hl := HL.out _ hu; go_simp; first | done | with_reducible rfl | (go_at_call 30; with_reducible refine (HV1c.out _ hu).mono ?_; rintro e w8 ⟨rfl, hb8⟩; refine ⟨?_, HCX.out _ _ hb8 hu⟩; with_reducible rfl) | (go_at_call 30; with_reducible refine (HV2c.out _ hu).mono ?_; rintro e w8 ⟨rfl, hb8⟩; refine ⟨?_, HCX.out _ _ hb8 hu⟩; with_reducible rfl))
          (try simp only [Act.put, List.setIfInBounds_toArray, List.set_cons_zero, List.set_cons_succ])
          refine WQ.one (v := ?_) (by rfl) (fun u hu => ?_) ?_
          rotate_left
          · (have hl := HL.out _ hu; go_simp; first | done | with_reducible rfl | (go_at_call 30; with_reducible refine (HV1c.out _ hu).mono ?_; rintro e w8 ⟨rfl, hb8⟩; refine ⟨?_, HCX.out _ _ hb8 hu⟩; with_reducible rfl) | (go_at_call 30; with_reducible refine (HV2c.out _ hu).mono ?_; rintro e w8 ⟨rfl, hb8⟩; refine ⟨?_, HCX.out _ _ hb8 hu⟩; with_reducible rfl))
          (try simp only [Act.put, List.setIfInBounds_toArray, List.set_cons_zero, List.set_cons_succ])
          refine WQ.one (v := ?_) (by rfl) (fun u hu => ?_) ?_
          rotate_left
          · (have hl := HL.out _ hu; go_simp; first | done | with_reducible rfl | (go_at_call 30; with_reducible refine (HV1c.out _ hu).mono ?_; rintro e w8 ⟨rfl, hb8⟩; refine ⟨?_, HCX.out _ _ hb8 hu⟩; with_reducible rfl) | (go_at_call 30; with_reducible refine (HV2c.out _ hu).mono ?_; rintro e w8 ⟨rfl, hb8⟩; refine ⟨?_, HCX.out _ _ hb8 hu⟩; with_reducible rfl))
          (try simp only [Act.put, List.setIfInBounds_toArray, List.set_cons_zero, List.set_cons_succ])
          refine WQ.one (v := ?_) (by rfl) (fun u hu => ?_) ?_
          rotate_left
          · (have hl := HL.out _ hu; go_simp; first | done | with_reducible rfl | (go_at_call 30; with_reducible refine (HV1c.out _ hu).mono ?_; rintro e w8 ⟨rfl, hb8⟩; refine ⟨?_, HCX.out _ _ hb8 hu⟩; with_reducible rfl) | (go_at_call 30; with_reducible refine (HV2c.out _ hu).mono ?_; rintro e w8 ⟨rfl, hb8⟩; refine ⟨?_, HCX.out _ _ hb8 hu⟩; with_reducible rfl))
          (try simp only [Act.put, List.setIfInBounds_toArray, List.set_cons_zero, List.set_cons_succ])
          refine WQ.one (v := ?_) (by rfl) (fun u hu => ?_) ?_
          rotate_left
          · (have hl := HL.out _ hu; go_simp; first | done | with_reducible rfl | (go_at_call 30; with_reducible refine (HV1c.out _ hu).mono ?_; rintro e w8 ⟨rfl, hb8⟩; refine ⟨?_, HCX.out _ _ hb8 hu⟩; with_reducible rfl) | (go_at_call 30; with_reducible refine (HV2c.out _ hu).mono ?_; rintro e w8 ⟨rfl, hb8⟩; refine ⟨?_, HCX.out _ _ hb8 hu⟩; with_reducible rfl))
          (try simp only [Act.put, List.setIfInBounds_toArray, List.set_cons_zero, List.set_cons_succ])
          refine WQ.one (v := ?_) (by rfl) (fun u hu => ?_) ?_
          rotate_left
          · (have hl := HL.out _ hu; go_simp; first | done | with_reducible rfl | (go_at_call 30; with_reducible refine (HV1c.out _ hu).mono ?_; rintro e w8 ⟨rfl, hb8⟩; refine ⟨?_, HCX.out _ _ hb8 hu⟩; with_reducible rfl) | (go_at_call 30; with_reducible refine (HV2c.out _ hu).mono ?_; rintro e w8 ⟨rfl, hb8⟩; refine ⟨?_, HCX.out _ _ hb8 hu⟩; with_reducible rfl))
          (try simp only [Act.put, List.setIfInBounds_toArray, List.set_cons_zero, List.set_cons_succ])
          refine WQ.one (v := ?_) (by rfl) (fun u hu => ?_) ?_
          rotate_left
          · (have hl := HL.out _ hu; go_simp; first | done | with_reducible rfl | (go_at_call 30; with_reducible refine (HV1c.out _ hu).mono ?_; rintro e w8 ⟨rfl, hb8⟩; refine ⟨?_, HCX.out _ _ hb8 hu⟩; with_reducible rfl) | (go_at_call 30; with_reducible refine (HV2c.out _ hu).mono ?_; rintro e w8 ⟨rfl, hb8⟩; refine ⟨?_, HCX.out _ _ hb8 hu⟩; with_reducible rfl))
          (try simp only [Act.put, List.setIfInBounds_toArray, List.set_cons_zero, List.set_cons_succ])
          refine WQ.one (v := ?_) (by rfl) (fun u hu => ?_) ?_
          rotate_left
          · (have hl := HL.out _ hu; go_simp; first | done | with_reducible rfl | (go_at_call 30; with_reducible refine (HV1c.out _ hu).mono ?_; rintro e w8 ⟨rfl, hb8⟩; refine ⟨?_, HCX.out _ _ hb8 hu⟩; with_reducible rfl) | (go_at_call 30; with_reducible refine (HV2c.out _ hu).mono ?_; rintro e w8 ⟨rfl, hb8⟩; refine ⟨?_, HCX.out _ _ hb8 hu⟩; with_reducible rfl))
          (try simp only [Act.put, List.setIfInBounds_toArray, List.set_cons_zero, List.set_cons_succ])
          refine WQ.one (v := ?_) (by rfl) (fun u hu => ?_) ?_
          rotate_left
          · (have hl := HL.out _ hu; go_simp; first | done | with_reducible rfl | (go_at_call 30; with_reducible refine (HV1c.out _ hu).mono ?_; rintro e w8 ⟨rfl, hb8⟩; refine ⟨?_, HCX.out _ _ hb8 hu⟩; with_reducible rfl) | (go_at_call 30; with_reducible refine (HV2c.out _ hu).mono ?_; rintro e w8 ⟨rfl, hb8⟩; refine ⟨?_, HCX.out _ _ hb8 hu⟩; with_reducible rfl))
          (try simp only [Act.put, List.setIfInBounds_toArray, List.set_cons_zero, List.set_cons_succ])
          refine WQ.one (v := ?_) (by rfl) (fun u hu => ?_) ?_
          rotate_left
          · (have hl := HL.out _ hu; go_simp; first | done | with_reducible rfl | (go_at_call 30; with_reducible refine (HV1c.out _ hu).mono ?_; rintro e w8 ⟨rfl, hb8⟩; refine ⟨?_, HCX.out _ _ hb8 hu⟩; with_reducible rfl) | (go_at_call 30; with_reducible refine (HV2c.out _ hu).mono ?_; rintro e w8 ⟨rfl, hb8⟩; refine ⟨?_, HCX.out _ _ hb8 hu⟩; with_reducible rfl))
          (try simp only [Act.put, List.setIfInBounds_toArray, List.set_cons_zero, List.set_cons_succ])
          refine WQ.one (v := ?_) (by rfl) (fun u hu => ?_) ?_
          rotate_left
          · (have hl := HL.out _ hu; go_simp; first | done | with_reducible rfl | (go_at_call 30; with_reducible refine (HV1c.out _ hu).mono ?_; rintro e w8 ⟨rfl, hb8⟩; refine ⟨?_, HCX.out _ _ hb8 hu⟩; with_reducible rfl) | (go_at_call 30; with_reducible refine (HV2c.out _ hu).mono ?_; rintro e w8 ⟨rfl, hb8⟩; refine ⟨?_, HCX.out _ _ hb8 hu⟩; with_reducible rfl))
          (try simp only [Act.put, List.setIfInBounds_toArray, List.set_cons_zero, List.set_cons_succ])
          refine WQ.one (v := ?_) (by rfl) (fun u hu => ?_) ?_
          rotate_left
          · (have hl := HL.out _ hu; go_simp; first | done | with_reducible rfl | (go_at_call 30; with_reducible refine (HV1c.out _ hu).mono ?_; rintro e w8 ⟨rfl, hb8⟩; refine ⟨?_, HCX.out _ _ hb8 hu⟩; with_reducible rfl) | (go_at_call 30; with_reducible refine (HV2c.out _ hu).mono ?_; rintro e w8 ⟨rfl, hb8⟩; refine ⟨?_, HCX.out _ _ hb8 hu⟩; with_reducible rfl))
          (try simp only [Act.put, List.setIfInBounds_toArray, List.set_cons_zero, List.set_cons_succ])
          refine WQ.skip (by rfl) ?_
          (try simp only [Act.put, List.setIfInBounds_toArray, List.set_cons_zero, List.set_cons_succ])
          refine WQ.skip (by rfl) ?_
          (try simp only [Act.put, List.setIfInBounds_toArray, List.set_cons_zero, List.set_cons_succ])
          refine WQ.skip (by rfl) ?_
          (try simp only [Act.put, List.setIfInBounds_toArray, List.set_cons_zero, List.set_cons_succ])
          refine WQ.skip (by rfl) ?_
          (try simp only [Act.put, List.setIfInBounds_toArray, List.set_cons_zero, List.set_cons_succ])
          refine WQ.one (v := ?_) (by rfl) (fun u hu => ?_) ?_
          rotate_left
          · (have hl := HL.out _ hu; go_simp; first | done | with_reducible rfl | (go_at_call 30; with_reducible refine (HV1c.out _ hu).mono ?_; rintro e w8 ⟨rfl, hb8⟩; refine ⟨?_, HCX.out _ _ hb8 hu⟩; with_reducible rfl) | (go_at_call 30; with_reducible refine (HV2c.out _ hu).mono ?_; rintro e w8 ⟨rfl, hb8⟩; refine ⟨?_, HCX.out _ _ hb8 hu⟩; with_reducible rfl))
          (try simp only [Act.put, List.setIfInBounds_toArray, List.set_cons_zero, List.set_cons_succ])
          refine WQ.one (v := ?_) (by rfl) (fun u hu => ?_) ?_
          rotate_left
          · (have hl := HL.out _ hu; go_simp; first | done | with_reducible rfl | (go_at_call 30; with_reducible refine (HV1c.out _ hu).mono ?_; rintro e w8 ⟨rfl, hb8⟩; refine ⟨?_, HCX.out _ _ hb8 hu⟩; with_reducible rfl) | (go_at_call 30; with_reducible refine (HV2c.out _ hu).mono ?_; rintro e w8 ⟨rfl, hb8⟩; refine ⟨?_, HCX.out _ _ hb8 hu⟩; with_reducible rfl))
          (try simp only [Act.put, List.setIfInBounds_toArray, List.set_cons_zero, List.set_cons_succ])
          refine WQ.one (v := ?_) (by rfl) (fun u hu => ?_) ?_
          rotate_left
          · (have hl := HL.out _ hu; go_simp; first | done | with_reducible rfl | (go_at_call 30; with_reducible refine (HV1c.out _ hu).mono ?_; rintro e w8 ⟨rfl, hb8⟩; refine ⟨?_, HCX.out _ _ hb8 hu⟩; with_reducible rfl) | (go_at_call 30; with_reducible refine (HV2c.out _ hu).mono ?_; rintro e w8 ⟨rfl, hb8⟩; refine ⟨?_, HCX.out _ _ hb8 hu⟩; with_reducible rfl))
          (try simp only [Act.put, List.setIfInBounds_toArray, List.set_cons_zero, List.set_cons_succ])
          refine WQ.one (v := ?_) (by rfl) (fun u hu => ?_) ?_
          rotate_left
          · (have hl := HL.out _ hu; go_simp; first | done | with_reducible rfl | (go_at_call 30; with_reducible refine (HV1c.out _ hu).mono ?_; rintro e w8 ⟨rfl, hb8⟩; refine ⟨?_, HCX.out _ _ hb8 hu⟩; with_reducible rfl) | (go_at_call 30; with_reducible refine (HV2c.out _ hu).mono ?_; rintro e w8 ⟨rfl, hb8⟩; refine ⟨?_, HCX.out _ _ hb8 hu⟩; with_reducible rfl))
          (try simp only [Act.put, List.setIfInBounds_toArray, List.set_cons_zero, List.set_cons_succ])
          refine WQ.one (v := ?_) (by rfl) (fun u hu => ?_) ?_
          rotate_left
          · (have hl := HL.out _ hu; go_simp; first | done | with_reducible rfl | (go_at_call 30; with_reducible refine (HV1c.out _ hu).mono ?_; rintro e w8 ⟨rfl, hb8⟩; refine ⟨?_, HCX.out _ _ hb8 hu⟩; with_reducible rfl) | (go_at_call 30; with_reducible refine (HV2c.out _ hu).mono ?_; rintro e w8 ⟨rfl, hb8⟩; refine ⟨?_, HCX.out _ _ hb8 hu⟩; with_reducible rfl))
          (try simp only [Act.put, List.setIfInBounds_toArray, List.set_cons_zero, List.set_cons_succ])
          refine WQ.one (v := ?_) (by rfl) (fun u hu => ?_) ?_
          rotate_left
          · (have hl := HL.out _ hu; go_simp; first | done | with_reducible rfl | (go_at_call 30; with_reducible refine (HV1c.out _ hu).mono ?_; rintro e w8 ⟨rfl, hb8⟩; refine ⟨?_, HCX.out _ _ hb8 hu⟩; with_reducible rfl) | (go_at_call 30; with_reducible refine (HV2c.out _ hu).mono ?_; rintro e w8 ⟨rfl, hb8⟩; refine ⟨?_, HCX.out _ _ hb8 hu⟩; with_reducible rfl))
          (try simp only [Act.put, List.setIfInBounds_toArray, List.set_cons_zero, List.set_cons_succ])
          refine WQ.one (v := ?_) (by rfl) (fun u hu => ?_) ?_
          rotate_left
          · (have hl := HL.out _ hu; go_simp; first | done | with_reducible rfl | (go_at_call 30; with_reducible refine (HV1c.out _ hu).mono ?_; rintro e w8 ⟨rfl, hb8⟩; refine ⟨?_, HCX.out _ _ hb8 hu⟩; with_reducible rfl) | (go_at_call 30; with_reducible refine (HV2c.out _ hu).mono ?_; rintro e w8 ⟨rfl, hb8⟩; refine ⟨?_, HCX.out _ _ hb8 hu⟩; with_reducible rfl))
          (try simp only [Act.put, List.setIfInBounds_toArray, List.set_cons_zero, List.set_cons_succ])
          refine WQ.one (v := ?_) (by rfl) (fun u hu => ?_) ?_
          rotate_left
          · (have hl := HL.out _ hu; go_simp; first | done | with_reducible rfl | (go_at_call 30; with_reducible refine (HV1c.out _ hu).mono ?_; rintro e w8 ⟨rfl, hb8⟩; refine ⟨?_, HCX.out _ _ hb8 hu⟩; with_reducible rfl) | (go_at_call 30; with_reducible refine (HV2c.out _ hu).mono ?_; rintro e w8 ⟨rfl, hb8⟩; refine ⟨?_, HCX.out _ _ hb8 hu⟩; with_reducible rfl))
          (try simp only [Act.put, List.setIfInBounds_toArray, List.set_cons_zero, List.set_cons_succ])
          refine WQ.one (v := ?_) (by rfl) (fun u hu => ?_) ?_
          rotate_left
          · (have hl := HL.out _ hu; go_simp; first | done | with_reducible rfl | (go_at_call 30; with_reducible refine (HV1c.out _ hu).mono ?_; rintro e w8 ⟨rfl, hb8⟩; refine ⟨?_, HCX.out _ _ hb8 hu⟩; with_reducible rfl) | (go_at_call 30; with_reducible refine (HV2c.out _ hu).mono ?_; rintro e w8 ⟨rfl, hb8⟩; refine ⟨?_, HCX.out _ _ hb8 hu⟩; with_reducible rfl))
          (try simp only [Act.put, List.setIfInBounds_toArray, List.set_cons_zero, List.set_cons_succ])
          refine WQ.one (v := ?_) (by rfl) (fun u hu => ?_) ?_
          rotate_left
          · (have hl := HL.out _ hu; go_simp; first | done | with_reducible rfl | (go_at_call 30; with_reducible refine (HV1c.out _ hu).mono ?_; rintro e w8 ⟨rfl, hb8⟩; refine ⟨?_, HCX.out _ _ hb8 hu⟩; with_reducible rfl) | (go_at_call 30; with_reducible refine (HV2c.out _ hu).mono ?_; rintro e w8 ⟨rfl, hb8⟩; refine ⟨?_, HCX.out _ _ hb8 hu⟩; with_reducible rfl))
          (try simp only [Act.put, List.setIfInBounds_toArray, List.set_cons_zero, List.set_cons_succ])
          refine WQ.one (v := ?_) (by rfl) (fun u hu => ?_) ?_
          rotate_left
          · (have hl := HL.out _ hu; go_simp; first | done | with_reducible rfl | (go_at_call 30; with_reducible refine (HV1c.out _ hu).mono ?_; rintro e w8 ⟨rfl, hb8⟩; refine ⟨?_, HCX.out _ _ hb8 hu⟩; with_reducible rfl) | (go_at_call 30; with_reducible refine (HV2c.out _ hu).mono ?_; rintro e w8 ⟨rfl, hb8⟩; refine ⟨?_, HCX.out _ _ hb8 hu⟩; with_reducible rfl))
          (try simp only [Act.put, List.setIfInBounds_toArray, List.set_cons_zero, List.set_cons_succ])
          refine WQ.skip (by rfl) ?_
          (try simp only [Act.put, List.setIfInBounds_toArray, List.set_cons_zero, List.set_cons_succ])
          refine WQ.skip (by rfl) ?_
          (try simp only [Act.put, List.setIfInBounds_toArray, List.set_cons_zero, List.set_cons_succ])
          refine WQ.skip (by rfl) ?_
          (try simp only [Act.put, List.setIfInBounds_toArray, List.set_cons_zero, List.set_cons_succ])
          refine WQ.skip (by rfl) ?_
          (try simp only [Act.put, List.setIfInBounds_toArray, List.set_cons_zero, List.set_cons_succ])
          refine WQ.skip (by rfl) ?_
          (try simp only [Act.put, List.setIfInBounds_toArray, List.set_cons_zero, List.set_cons_succ])
          refine WQ.one (v := ?_) (by rfl) (fun u hu => ?_) ?_
          rotate_left
          · (have hl := HL.out _ hu; go_simp; first | done | with_reducible rfl | (go_at_call 30; with_reducible refine (HV1c.out _ hu).mono ?_; rintro e w8 ⟨rfl, hb8⟩; refine ⟨?_, HCX.out _ _ hb8 hu⟩; with_reducible rfl) | (go_at_call 30; with_reducible refine (HV2c.out _ hu).mono ?_; rintro e w8 ⟨rfl, hb8⟩; refine ⟨?_, HCX.out _ _ hb8 hu⟩; with_reducible rfl))
          (try simp only [Act.put, List.setIfInBounds_toArray, List.set_cons_zero, List.set_cons_succ])
          refine WQ.one (v := ?_) (by rfl) (fun u hu => ?_) ?_
          rotate_left
          · (have hl := HL.out _ hu; go_simp; first | done | with_reducible rfl | (go_at_call 30; with_reducible refine (HV1c.out _ hu).mono ?_; rintro e w8 ⟨rfl, hb8⟩; refine ⟨?_, HCX.out _ _ hb8 hu⟩; with_reducible rfl) | (go_at_call 30; with_reducible refine (HV2c.out _ hu).mono ?_; rintro e w8 ⟨rfl, hb8⟩; refine ⟨?_, HCX.out _ _ hb8 hu⟩; with_reducible rfl))
          (try simp only [Act.put, List.setIfInBounds_toArray, List.set_cons_zero, List.set_cons_succ])
          refine WQ.skip (by rfl) ?_
          (try simp only [Act.put, List.setIfInBounds_toArray, List.set_cons_zero, List.set_cons_succ])
          refine WQ.skip (by rfl) ?_
          (try simp only [Act.put, List.setIfInBounds_toArray, List.set_cons_zero, List.set_cons_succ])
          refine WQ.skip (by rfl) ?_
          (try simp only [Act.put, List.setIfInBounds_toArray, List.set_cons_zero, List.set_cons_succ])
          refine WQ.skip (by rfl) ?_
          (try simp only [Act.put, List.setIfInBounds_toArray, List.set_cons_zero, List.set_cons_succ])
          refine WQ.skip (by rfl) ?_
          (try simp only [Act.put, List.setIfInBounds_toArray, List.set_cons_zero, List.set_cons_succ])
          refine WQ.skip (by rfl) ?_
          (try simp only [Act.put, List.setIfInBounds_toArray, List.set_cons_zero, List.set_cons_succ])
          refine WQ.skip (by rfl) ?_
          (try simp only [Act.put, List.setIfInBounds_toArray, List.set_cons_zero, List.set_cons_succ])
          refine WQ.skip (by rfl) ?_
          (try simp only [Act.put, List.setIfInBounds_toArray, List.set_cons_zero, List.set_cons_succ])
          refine WQ.one (v := ?_) (by rfl) (fun u hu => ?_) ?_
          rotate_left
          · (have hl := HL.out _ hu; go_simp; first | done | with_reducible rfl | (go_at_call 30; with_reducible refine (HV1c.out _ hu).mono ?_; rintro e w8 ⟨rfl, hb8⟩; refine ⟨?_, HCX.out _ _ hb8 hu⟩; with_reducible rfl) | (go_at_call 30; with_reducible refine (HV2c.out _ hu).mono ?_; rintro e w8 ⟨rfl, hb8⟩; refine ⟨?_, HCX.out _ _ hb8 hu⟩; with_reducible rfl))
          (try simp only [Act.put, List.setIfInBounds_toArray, List.set_cons_zero, List.set_cons_succ])
          refine WQ.one (v := ?_) (by rfl) (fun u hu => ?_) ?_
          rotate_left
          · (have hl := HL.out _ hu; go_simp; first | done | with_reducible rfl | (go_at_call 30; with_reducible refine (HV1c.out _ hu).mono ?_; rintro e w8 ⟨rfl, hb8⟩; refine ⟨?_, HCX.out _ _ hb8 hu⟩; with_reducible rfl) | (go_at_call 30; with_reducible refine (HV2c.out _ hu).mono ?_; rintro e w8 ⟨rfl, hb8⟩; refine ⟨?_, HCX.out _ _ hb8 hu⟩; with_reducible rfl))
          (try simp only [Act.put, List.setIfInBounds_toArray, List.set_cons_zero, List.set_cons_succ])
          refine WQ.nil (HKK.out _ ?_)
          intro W10 hC10
          have hW10 := HCR.out _ hC10
          go_wp2
          go_roundw
          case rel => exact ⟨k + 1, by omega, by go_num, hW10⟩
          case measure => simp [intOf]; omega
        · skip
          refine WQ.one (v := ?_) (by rfl) (fun u hu => ?_) ?_
          rotate_left
          · (have hl := HL.out _ hu; go_simp; first | done | with_reducible rfl | (go_at_call 30; with_reducible refine (HV1c.out _ hu).mono ?_; rintro e w8 ⟨rfl, hb8⟩; refine ⟨?_, HCX.out _ _ hb8 hu⟩; with_reducible rfl) | (go_at_call 30; with_reducible refine (HV2c.out _ hu).mono ?_; rintro e w8 ⟨rfl, hb8⟩; refine ⟨?_, HCX.out _ _ hb8 hu⟩; with_reducible rfl))
          (try simp only [Act.put, List.setIfInBounds_toArray, List.set_cons_zero, List.set_cons_succ])
          refine WQ.one (v := ?_) (by rfl) (fun u hu => ?_) ?_
          rotate_left
          · (have hl := HL.out _ hu; go_simp; first | done | with_reducible rfl | (go_at_call 30; with_reducible refine (HV1c.out _ hu).mono ?_; rintro e w8 ⟨rfl, hb8⟩; refine ⟨?_, HCX.out _ _ hb8 hu⟩; with_reducible rfl) | (go_at_call 30; with_reducible refine (HV2c.out _ hu).mono ?_; rintro e w8 ⟨rfl, hb8⟩; refine ⟨?_, HCX.out _ _ hb8 hu⟩; with_reducible rfl))
          (try simp only [Act.put, List.setIfInBounds_toArray, List.set_cons_zero, List.set_cons_succ])
          refine WQ.one (v := ?_) (by rfl) (fun u hu => ?_) ?_
          rotate_left
          · (have hl := HL.out _ hu; go_simp; first | done | with_reducible rfl | (go_at_call 30; with_reducible refine (HV1c.out _ hu).mono ?_; rintro e w8 ⟨rfl, hb8⟩; refine ⟨?_, HCX.out _ _ hb8 hu⟩; with_reducible rfl) | (go_at_call 30; with_reducible refine (HV2c.out _ hu).mono ?_; rintro e w8 ⟨rfl, hb8⟩; refine ⟨?_, HCX.out _ _ hb8 hu⟩; with_reducible rfl))
          (try simp only [Act.put, List.setIfInBounds_toArray, List.set_cons_zero, List.set_cons_succ])
          refine WQ.one (v := ?_) (by rfl) (fun u hu => ?_) ?_
          rotate_left
          · (have hl := HL.out _ hu; go_simp; first | done | with_reducible rfl | (go_at_call 30; with_reducible refine (HV1c.out _ hu).mono ?_; rintro e w8 ⟨rfl, hb8⟩; refine ⟨?_, HCX.out _ _ hb8 hu⟩; with_reducible rfl) | (go_at_call 30; with_reducible refine (HV2c.out _ hu).mono ?_; rintro e w8 ⟨rfl, hb8⟩; refine ⟨?_, HCX.out _ _ hb8 hu⟩; with_reducible rfl))
          (try simp only [Act.put, List.setIfInBounds_toArray, List.set_cons_zero, List.set_cons_succ])
          refine WQ.one (v := ?_) (by rfl) (fun u hu => ?_) ?_
          rotate_left
          · (have hl := HL.out _ hu; go_simp; first | done | with_reducible rfl | (go_at_call 30; with_reducible refine (HV1c.out _ hu).mono ?_; rintro e w8 ⟨rfl, hb8⟩; refine ⟨?_, HCX.out _ _ hb8 hu⟩; with_reducible rfl) | (go_at_call 30; with_reducible refine (HV2c.out _ hu).mono ?_; rintro e w8 ⟨rfl, hb8⟩; refine ⟨?_, HCX.out _ _ hb8 hu⟩; with_reducible rfl))
          (try simp only [Act.put, List.setIfInBounds_toArray, List.set_cons_zero, List.set_cons_succ])
          refine WQ.one (v := ?_) (by rfl) (fun u hu => ?_) ?_
          rotate_left
          · (have hl := HL.out _ hu; go_simp; first | done | with_reducible rfl | (go_at_call 30; with_reducible refine (HV1c.out _ hu).mono ?_; rintro e w8 ⟨rfl, hb8⟩; refine ⟨?_, HCX.out _ _ hb8 hu⟩; with_reducible rfl) | (go_at_call 30; with_reducible refine (HV2c.out _ hu).mono ?_; rintro e w8 ⟨rfl, hb8⟩; refine ⟨?_, HCX.out _ _ hb8 hu⟩; with_reducible rfl))
          (try simp only [Act.put, List.setIfInBounds_toArray, List.set_cons_zero, List.set_cons_succ])
          refine WQ.skip (by rfl) ?_
          (try simp only [Act.put, List.setIfInBounds_toArray, List.set_cons_zero, List.set_cons_succ])
          refine WQ.skip (by rfl) ?_
          (try simp only [Act.put, List.setIfInBounds_toArray, List.set_cons_zero, List.set_cons_succ])
          refine WQ.skip (by rfl) ?_
          (try simp only [Act.put, List.setIfInBounds_toArray, List.set_cons_zero, List.set_cons_succ])
          refine WQ.skip (by rfl) ?_
          (try simp only [Act.put, List.setIfInBounds_toArray, List.set_cons_zero, List.set_cons_succ])
          refine WQ.skip (by rfl) ?_
          (try simp only [Act.put, List.setIfInBounds_toArray, List.set_cons_zero, List.set_cons_succ])
          refine WQ.skip (by rfl) ?_
          (try simp only [Act.put, List.setIfInBounds_toArray, List.set_cons_zero, List.set_cons_succ])
          refine WQ.skip (by rfl) ?_
          (try simp only [Act.put, List.setIfInBounds_toArray, List.set_cons_zero, List.set_cons_succ])
          refine WQ.one (v := ?_) (by rfl) (fun u hu => ?_) ?_
          rotate_left
          · (have hl := HL.out _ hu; go_simp; first | done | with_reducible rfl | (go_at_call 30; with_reducible refine (HV1c.out _ hu).mono ?_; rintro e w8 ⟨rfl, hb8⟩; refine ⟨?_, HCX.out _ _ hb8 hu⟩; with_reducible rfl) | (go_at_call 30; with_reducible refine (HV2c.out _ hu).mono ?_; rintro e w8 ⟨rfl, hb8⟩; refine ⟨?_, HCX.out _ _ hb8 hu⟩; with_reducible rfl))
          (try simp only [Act.put, List.setIfInBounds_toArray, List.set_cons_zero, List.set_cons_succ])
          refine WQ.one (v := ?_) (by rfl) (fun u hu => ?_) ?_
          rotate_left
          · (have hl := HL.out _ hu; go_simp; first | done | with_reducible rfl | (go_at_call 30; with_reducible refine (HV1c.out _ hu).mono ?_; rintro e w8 ⟨rfl, hb8⟩; refine ⟨?_, HCX.out _ _ hb8 hu⟩; with_reducible rfl) | (go_at_call 30; with_reducible refine (HV2c.out _ hu).mono ?_; rintro e w8 ⟨rfl, hb8⟩; refine ⟨?_, HCX.out _ _ hb8 hu⟩; with_reducible rfl))
          (try simp only [Act.put, List.setIfInBounds_toArray, List.set_cons_zero, List.set_cons_succ])
          refine WQ.one (v := ?_) (by rfl) (fun u hu => ?_) ?_
          rotate_left
          · (have hl := HL.out _ hu; go_simp; first | done | with_reducible rfl | (go_at_call 30; with_reducible refine (HV1c.out _ hu).mono ?_; rintro e w8 ⟨rfl, hb8⟩; refine ⟨?_, HCX.out _ _ hb8 hu⟩; with_reducible rfl) | (go_at_call 30; with_reducible refine (HV2c.out _ hu).mono ?_; rintro e w8 ⟨rfl, hb8⟩; refine ⟨?_, HCX.out _ _ hb8 hu⟩; with_reducible rfl))
          (try simp only [Act.put, List.setIfInBounds_toArray, List.set_cons_zero, List.set_cons_succ])
          refine WQ.one (v := ?_) (by rfl) (fun u hu => ?_) ?_
          rotate_left
          · (have hl := HL.out _ hu; go_simp; first | done | with_reducible rfl | (go_at_call 30; with_reducible refine (HV1c.out _ hu).mono ?_; rintro e w8 ⟨rfl, hb8⟩; refine ⟨?_, HCX.out _ _ hb8 hu⟩; with_reducible rfl) | (go_at_call 30; with_reducible refine (HV2c.out _ hu).mono ?_; rintro e w8 ⟨rfl, hb8⟩; refine ⟨?_, HCX.out _ _ hb8 hu⟩; with_reducible rfl))
          (try simp only [Act.put, List.setIfInBounds_toArray, List.set_cons_zero, List.set_cons_succ])
          refine WQ.one (v := ?_) (by rfl) (fun u hu => ?_) ?_
          rotate_left
          · (have hl := HL.out _ hu; go_simp; first | done | with_reducible rfl | (go_at_call 30; with_reducible refine (HV1c.out _ hu).mono ?_; rintro e w8 ⟨rfl, hb8⟩; refine ⟨?_, HCX.out _ _ hb8 hu⟩; with_reducible rfl) | (go_at_call 30; with_reducible refine (HV2c.out _ hu).mono ?_; rintro e w8 ⟨rfl, hb8⟩; refine ⟨?_, HCX.out _ _ hb8 hu⟩; with_reducible rfl))
          (try simp only [Act.put, List.setIfInBounds_toArray, List.set_cons_zero, List.set_cons_succ])
          refine WQ.one (v := ?_) (by rfl) (fun u hu => ?_) ?_
          rotate_left
          · (have hl := HL.out _ hu; go_simp; first | done | with_reducible rfl | (go_at_call 30; with_reducible refine (HV1c.out _ hu).mono ?_; rintro e w8 ⟨rfl, hb8⟩; refine ⟨?_, HCX.out _ _ hb8 hu⟩; with_reducible rfl) | (go_at_call 30; with_reducible refine (HV2c.out _ hu).mono ?_; rintro e w8 ⟨rfl, hb8⟩; refine ⟨?_, HCX.out _ _ hb8 hu⟩; with_reducible rfl))
          (try simp only [Act.put, List.setIfInBounds_toArray, List.set_cons_zero, List.set_cons_succ])
          refine WQ.one (v := ?_) (by rfl) (fun u hu => ?_) ?_
          rotate_left
          · (have hl := HL.out _ hu; go_simp; first | done | with_reducible rfl | (go_at_call 30; with_reducible refine (HV1c.out _ hu).mono ?_; rintro e w8 ⟨rfl, hb8⟩; refine ⟨?_, HCX.out _ _ hb8 hu⟩; with_reducible rfl) | (go_at_call 30; with_reducible refine (HV2c.out _ hu).mono ?_; rintro e w8 ⟨rfl, hb8⟩; refine ⟨?_, HCX.out _ _ hb8 hu⟩; with_reducible rfl))
          (try simp only [Act.put, List.setIfInBounds_toArray, List.set_cons_zero, List.set_cons_succ])
          refine WQ.one (v := ?_) (by rfl) (fun u hu => ?_) ?_
          rotate_left
          · (have hl := HL.out _ hu; go_simp; first | done | with_reducible rfl | (go_at_call 30; with_reducible refine (HV1c.out _ hu).mono ?_; rintro e w8 ⟨rfl, hb8⟩; refine ⟨?_, HCX.out _ _ hb8 hu⟩; with_reducible rfl) | (go_at_call 30; with_reducible refine (HV2c.out _ hu).mono ?_; rintro e w8 ⟨rfl, hb8⟩; refine ⟨?_, HCX.out _ _ hb8 hu⟩; with_reducible rfl))
          (try simp only [Act.put, List.setIfInBounds_toArray, List.set_cons_zero, List.set_cons_succ])
          refine WQ.one (v := ?_) (by rfl) (fun u hu => ?_) ?_
          rotate_left
          · (have hl := HL.out _ hu; go_simp; first | done | with_reducible rfl | (go_at_call 30; with_reducible refine (HV1c.out _ hu).mono ?_; rintro e w8 ⟨rfl, hb8⟩; refine ⟨?_, HCX.out _ _ hb8 hu⟩; with_reducible rfl) | (go_at_call 30; with_reducible refine (HV2c.out _ hu).mono ?_; rintro e w8 ⟨rfl, hb8⟩; refine ⟨?_, HCX.out _ _ hb8 hu⟩; with_reducible rfl))
          (try simp only [Act.put, List.setIfInBounds_toArray, List.set_cons_zero, List.set_cons_succ])
          refine WQ.one (v := ?_) (by rfl) (fun u hu => ?_) ?_
          rotate_left
          · (have hl := HL.out _ hu; go_simp; first | done | with_reducible rfl | (go_at_call 30; with_reducible refine (HV1c.out _ hu).mono ?_; rintro e w8 ⟨rfl, hb8⟩; refine ⟨?_, HCX.out _ _ hb8 hu⟩; with_reducible rfl) | (go_at_call 30; with_reducible refine (HV2c.out _ hu).mono ?_; rintro e w8 ⟨rfl, hb8⟩; refine ⟨?_, HCX.out _ _ hb8 hu⟩; with_reducible rfl))
          (try simp only [Act.put, List.setIfInBounds_toArray, List.set_cons_zero, List.set_cons_succ])
          refine WQ.one (v := ?_) (by rfl) (fun u hu => ?_) ?_
          rotate_left
          · (have hl := HL.out _ hu; go_simp; first | done | with_reducible rfl | (go_at_call 30; with_reducible refine (HV1c.out _ hu).mono ?_; rintro e w8 ⟨rfl, hb8⟩; refine ⟨?_, HCX.out _ _ hb8 hu⟩; with_reducible rfl) | (go_at_call 30; with_reducible refine (HV2c.out _ hu).mono ?_; rintro e w8 ⟨rfl, hb8⟩; refine ⟨?_, HCX.out _ _ hb8 hu⟩; with_reducible rfl))
          (try simp only [Act.put, List.setIfInBounds_toArray, List.set_cons_zero, List.set_cons_succ])
          refine WQ.one (v := ?_) (by rfl) (fun u hu => ?_) ?_
          rotate_left
          · (have hl := HL.out _ hu; go_simp; first | done | with_reducible rfl | (go_at_call 30; with_reducible refine (HV1c.out _ hu).mono ?_; rintro e w8 ⟨rfl, hb8⟩; refine ⟨?_, HCX.out _ _ hb8 hu⟩; with_reducible rfl) | (go_at_call 30; with_reducible refine (HV2c.out _ hu).mono ?_; rintro e w8 ⟨rfl, hb8⟩; refine ⟨?_, HCX.out _ _ hb8 hu⟩; with_reducible rfl))
          (try simp only [Act.put, List.setIfInBounds_toArray, List.set_cons_zero, List.set_cons_succ])
          refine WQ.one (v := ?_) (by rfl) (fun u hu => ?_) ?_
          rotate_left
          · (have hl := HL.out _ hu; go_simp; first | done | with_reducible rfl | (go_at_call 30; with_reducible refine (HV1c.out _ hu).mono ?_; rintro e w8 ⟨rfl, hb8⟩; refine ⟨?_, HCX.out _ _ hb8 hu⟩; with_reducible rfl) | (go_at_call 30; with_reducible refine (HV2c.out _ hu).mono ?_; rintro e w8 ⟨rfl, hb8⟩; refine ⟨?_, HCX.out _ _ hb8 hu⟩; with_reducible rfl))
          (try simp only [Act.put, List.setIfInBounds_toArray, List.set_cons_zero, List.set_cons_succ])
          refine WQ.one (v := ?_) (by rfl) (fun u hu => ?_) ?_
          rotate_left
          · (have hl := HL.out _ hu; go_simp; first | done | with_reducible rfl | (go_at_call 30; with_reducible refine (HV1c.out _ hu).mono ?_; rintro e w8 ⟨rfl, hb8⟩; refine ⟨?_, HCX.out _ _ hb8 hu⟩; with_reducible rfl) | (go_at_call 30; with_reducible refine (HV2c.out _ hu).mono ?_; rintro e w8 ⟨rfl, hb8⟩; refine ⟨?_, HCX.out _ _ hb8 hu⟩; with_reducible rfl))
          (try simp only [Act.put, List.setIfInBounds_toArray, List.set_cons_zero, List.set_cons_succ])
          refine WQ.one (v := ?_) (by rfl) (fun u hu => ?_) ?_
          rotate_left
          · (have hl := HL.out _ hu; go_simp; first | done | with_reducible rfl | (go_at_call 30; with_reducible refine (HV1c.out _ hu).mono ?_; rintro e w8 ⟨rfl, hb8⟩; refine ⟨?_, HCX.out _ _ hb8 hu⟩; with_reducible rfl) | (go_at_call 30; with_reducible refine (HV2c.out _ hu).mono ?_; rintro e w8 ⟨rfl, hb8⟩; refine ⟨?_, HCX.out _ _ hb8 hu⟩; with_reducible rfl))
          (try simp only [Act.put, List.setIfInBounds_toArray, List.set_cons_zero, List.set_cons_succ])
          refine WQ.one (v := ?_) (by rfl) (fun u hu => ?_) ?_
          rotate_left
          · (have hl := HL.out _ hu; go_simp; first | done | with_reducible rfl | (go_at_call 30; with_reducible refine (HV1c.out _ hu).mono ?_; rintro e w8 ⟨rfl, hb8⟩; refine ⟨?_, HCX.out _ _ hb8 hu⟩; with_reducible rfl) | (go_at_call 30; with_reducible refine (HV2c.out _ hu).mono ?_; rintro e w8 ⟨rfl, hb8⟩; refine ⟨?_, HCX.out _ _ hb8 hu⟩; with_reducible rfl))
          (try simp only [Act.put, List.setIfInBounds_toArray, List.set_cons_zero, List.set_cons_succ])
          refine WQ.one (v := ?_) (by rfl) (fun u hu => ?_) ?_
          rotate_left
          · (have hl := HL.out _ hu; go_simp; first | done | with_reducible rfl | (go_at_call 30; with_reducible refine (HV1c.out _ hu).mono ?_; rintro e w8 ⟨rfl, hb8⟩; refine ⟨?_, HCX.out _ _ hb8 hu⟩; with_reducible rfl) | (go_at_call 30; with_reducible refine (HV2c.out _ hu).mono ?_; rintro e w8 ⟨rfl, hb8⟩; refine ⟨?_, HCX.out _ _ hb8 hu⟩; with_reducible rfl))
          (try simp only [Act.put, List.setIfInBounds_toArray, List.set_cons_zero, List.set_cons_succ])
          refine WQ.one (v := ?_) (by rfl) (fun u hu => ?_) ?_
          rotate_left
          · (have hl := HL.out _ hu; go_simp; first | done | with_reducible rfl | (go_at_call 30; with_reducible refine (HV1c.out _ hu).mono ?_; rintro e w8 ⟨rfl, hb8⟩; refine ⟨?_, HCX.out _ _ hb8 hu⟩; with_reducible rfl) | (go_at_call 30; with_reducible refine (HV2c.out _ hu).mono ?_; rintro e w8 ⟨rfl, hb8⟩; refine ⟨?_, HCX.out _ _ hb8 hu⟩; with_reducible rfl))
          (try simp only [Act.put, List.setIfInBounds_toArray, List.set_cons_zero, List.set_cons_succ])
          refine WQ.one (v := ?_) (by rfl) (fun u hu => ?_) ?_
          rotate_left
          · (have hl := HL.out _ hu; go_simp; first | done | with_reducible rfl | (go_at_call 30; with_reducible refine (HV1c.out _ hu).mono ?_; rintro e w8 ⟨rfl, hb8⟩; refine ⟨?_, HCX.out _ _ hb8 hu⟩; with_reducible rfl) | (go_at_call 30; with_reducible refine (HV2c.out _ hu).mono ?_; rintro e w8 ⟨rfl, hb8⟩; refine ⟨?_, HCX.out _ _ hb8 hu⟩; with_reducible rfl))
          (try simp only [Act.put, List.setIfInBounds_toArray, List.set_cons_zero, List.set_cons_succ])
          refine WQ.one (v := ?_) (by rfl) (fun u hu => ?_) ?_
          rotate_left
          · (have hl := HL.out _ hu; go_simp; first | done | with_reducible rfl | (go_at_call 30; with_reducible refine (HV1c.out _ hu).mono ?_; rintro e w8 ⟨rfl, hb8⟩; refine ⟨?_, HCX.out _ _ hb8 hu⟩; with_reducible rfl) | (go_at_call 30; with_reducible refine (HV2c.out _ hu).mono ?_; rintro e w8 ⟨rfl, hb8⟩; refine ⟨?_, HCX.out _ _ hb8 hu⟩; with_reducible rfl))
          (try simp only [Act.put, List.setIfInBounds_toArray, List.set_cons_zero, List.set_cons_succ])
          refine WQ.one (v := ?_) (by rfl) (fun u hu => ?_) ?_
          rotate_left
          · (have hl := HL.out _ hu; go_simp; first | done | with_reducible rfl | (go_at_call 30; with_reducible refine (HV1c.out _ hu).mono ?_; rintro e w8 ⟨rfl, hb8⟩; refine ⟨?_, HCX.out _ _ hb8 hu⟩; with_reducible rfl) | (go_at_call 30; with_reducible refine (HV2c.out _ hu).mono ?_; rintro e w8 ⟨rfl, hb8⟩; refine ⟨?_, HCX.out _ _ hb8 hu⟩; with_reducible rfl))
          (try simp only [Act.put, List.setIfInBounds_toArray, List.set_cons_zero, List.set_cons_succ])
          refine WQ.one (v := ?_) (by rfl) (fun u hu => ?_) ?_
          rotate_left
          · (have hl := HL.out _ hu; go_simp; first | done | with_reducible rfl | (go_at_call 30; with_reducible refine (HV1c.out _ hu).mono ?_; rintro e w8 ⟨rfl, hb8⟩; refine ⟨?_, HCX.out _ _ hb8 hu⟩; with_reducible rfl) | (go_at_call 30; with_reducible refine (HV2c.out _ hu).mono ?_; rintro e w8 ⟨rfl, hb8⟩; refine ⟨?_, HCX.out _ _ hb8 hu⟩; with_reducible rfl))
          (try simp only [Act.put, List.setIfInBounds_toArray, List.set_cons_zero, List.set_cons_succ])
          refine WQ.one (v := ?_) (by rfl) (fun u hu => ?_) ?_
          rotate_left
          · (have hl := HL.out _ hu; go_simp; first | done | with_reducible rfl | (go_at_call 30; with_reducible refine (HV1c.out _ hu).mono ?_; rintro e w8 ⟨rfl, hb8⟩; refine ⟨?_, HCX.out _ _ hb8 hu⟩; with_reducible rfl) | (go_at_call 30; with_reducible refine (HV2c.out _ hu).mono ?_; rintro e w8 ⟨rfl, hb8⟩; refine ⟨?_, HCX.out _ _ hb8 hu⟩; with_reducible rfl))
          (try simp only [Act.put, List.setIfInBounds_toArray, List.set_cons_zero, List.set_cons_succ])
          refine WQ.one (v := ?_) (by rfl) (fun u hu => ?_) ?_
          rotate_left
          · (have hl := HL.out _ hu; go_simp; first | done | with_reducible rfl | (go_at_call 30; with_reducible refine (HV1c.out _ hu).mono ?_; rintro e w8 ⟨rfl, hb8⟩; refine ⟨?_, HCX.out _ _ hb8 hu⟩; with_reducible rfl) | (go_at_call 30; with_reducible refine (HV2c.out _ hu).mono ?_; rintro e w8 ⟨rfl, hb8⟩; refine ⟨?_, HCX.out _ _ hb8 hu⟩; with_reducible rfl))
          (try simp only [Act.put, List.setIfInBounds_toArray, List.set_cons_zero, List.set_cons_succ])
          refine WQ.one (v := ?_) (by rfl) (fun u hu => ?_) ?_
          rotate_left
          · (have hl := HL.out _ hu; go_simp; first | done | with_reducible rfl | (go_at_call 30; with_reducible refine (HV1c.out _ hu).mono ?_; rintro e w8 ⟨rfl, hb8⟩; refine ⟨?_, HCX.out _ _ hb8 hu⟩; with_reducible rfl) | (go_at_call 30; with_reducible refine (HV2c.out _ hu).mono ?_; rintro e w8 ⟨rfl, hb8⟩; refine ⟨?_, HCX.out _ _ hb8 hu⟩; with_reducible rfl))
          (try simp only [Act.put, List.setIfInBounds_toArray, List.set_cons_zero, List.set_cons_succ])
          refine WQ.one (v := ?_) (by rfl) (fun u hu => ?_) ?_
          rotate_left
          · (have hl := HL.out _ hu; go_simp; first | done | with_reducible rfl | (go_at_call 30; with_reducible refine (HV1c.out _ hu).mono ?_; rintro e w8 ⟨rfl, hb8⟩; refine ⟨?_, HCX.out _ _ hb8 hu⟩; with_reducible rfl) | (go_at_call 30; with_reducible refine (HV2c.out _ hu).mono ?_; rintro e w8 ⟨rfl, hb8⟩; refine ⟨?_, HCX.out _ _ hb8 hu⟩; with_reducible rfl))
          (try simp only [Act.put, List.setIfInBounds_toArray, List.set_cons_zero, List.set_cons_succ])
          refine WQ.one (v := ?_) (by rfl) (fun u hu => ?_) ?_
          rotate_left
          · (have hl := HL.out _ hu; go_simp; first | done | with_reducible rfl | (go_at_call 30; with_reducible refine (HV1c.out _ hu).mono ?_; rintro e w8 ⟨rfl, hb8⟩; refine ⟨?_, HCX.out _ _ hb8 hu⟩; with_reducible rfl) | (go_at_call 30; with_reducible refine (HV2c.out _ hu).mono ?_; rintro e w8 ⟨rfl, hb8⟩; refine ⟨?_, HCX.out _ _ hb8 hu⟩; with_reducible rfl))
          (try simp only [Act.put, List.setIfInBounds_toArray, List.set_cons_zero, List.set_cons_succ])
          refine WQ.one (v := ?_) (by rfl) (fun u hu => ?_) ?_
          rotate_left
          · (have hl := HL.out _ hu; go_simp; first | done | with_reducible rfl | (go_at_call 30; with_reducible refine (HV1c.out _ hu).mono ?_; rintro e w8 ⟨rfl, hb8⟩; refine ⟨?_, HCX.out _ _ hb8 hu⟩; with_reducible rfl) | (go_at_call 30; with_reducible refine (HV2c.out _ hu).mono ?_; rintro e w8 ⟨rfl, hb8⟩; refine ⟨?_, HCX.out _ _ hb8 hu⟩; with_reducible rfl))
          (try simp only [Act.put, List.setIfInBounds_toArray, List.set_cons_zero, List.set_cons_succ])
          refine WQ.one (v := ?_) (by rfl) (fun u hu => ?_) ?_
          rotate_left
          · (have hl := HL.out _ hu; go_simp; first | done | with_reducible rfl | (go_at_call 30; with_reducible refine (HV1c.out _ hu).mono ?_; rintro e w8 ⟨rfl, hb8⟩; refine ⟨?_, HCX.out _ _ hb8 hu⟩; with_reducible rfl) | (go_at_call 30; with_reducible refine (HV2c.out _ hu).mono ?_; rintro e w8 ⟨rfl, hb8⟩; refine ⟨?_, HCX.out _ _ hb8 hu⟩; with_reducible rfl))
          (try simp only [Act.put, List.setIfInBounds_toArray, List.set_cons_zero, List.set_cons_succ])
          refine WQ.one (v := ?_) (by rfl) (fun u hu => ?_) ?_
          rotate_left
          · (have hl := HL.out _ hu; go_simp; first | done | with_reducible rfl | (go_at_call 30; with_reducible refine (HV1c.out _ hu).mono ?_; rintro e w8 ⟨rfl, hb8⟩; refine ⟨?_, HCX.out _ _ hb8 hu⟩; with_reducible rfl) | (go_at_call 30; with_reducible refine (HV2c.out _ hu).mono ?_; rintro e w8 ⟨rfl, hb8⟩; refine ⟨?_, HCX.out _ _ hb8 hu⟩; with_reducible rfl))
          (try simp only [Act.put, List.setIfInBounds_toArray, List.set_cons_zero, List.set_cons_succ])
          refine WQ.skip (by rfl) ?_
          (try simp only [Act.put, List.setIfInBounds_toArray, List.set_cons_zero, List.set_cons_succ])
          refine WQ.skip (by rfl) ?_
          (try simp only [Act.put, List.setIfInBounds_toArray, List.set_cons_zero, List.set_cons_succ])
          refine WQ.skip (by rfl) ?_
          (try simp only [Act.put, List.setIfInBounds_toArray, List.set_cons_zero, List.set_cons_succ])
          refine WQ.skip (by rfl) ?_
          (try simp only [Act.put, List.setIfInBounds_toArray, List.set_cons_zero, List.set_cons_succ])
          refine WQ.skip (by rfl) ?_
          (try simp only [Act.put, List.setIfInBounds_toArray, List.set_cons_zero, List.set_cons_succ])
          refine WQ.skip (by rfl) ?_
          (try simp only [Act.put, List.setIfInBounds_toArray, List.set_cons_zero, List.set_cons_succ])
          refine WQ.skip (by rfl) ?_
          (try simp only [Act.put, List.setIfInBounds_toArray, List.set_cons_zero, List.set_cons_succ])
          refine WQ.skip (by rfl) ?_
          (try simp only [Act.put, List.setIfInBounds_toArray, List.set_cons_zero, List.set_cons_succ])
          refine WQ.one (v := ?_) (by rfl) (fun u hu => ?_) ?_
          rotate_left
          · (have hl := HL.out _ hu; go_simp; first | done | with_reducible rfl | (go_at_call 30; with_reducible refine (HV1c.out _ hu).mono ?_; rintro e w8 ⟨rfl, hb8⟩; refine ⟨?_, HCX.out _ _ hb8 hu⟩; with_reducible rfl) | (go_at_call 30; with_reducible refine (HV2c.out _ hu).mono ?_; rintro e w8 ⟨rfl, hb8⟩; refine ⟨?_, HCX.out _ _ hb8 hu⟩; with_reducible rfl))
          (try simp only [Act.put, List.setIfInBounds_toArray, List.set_cons_zero, List.set_cons_succ])
          refine WQ.one (v := ?_) (by rfl) (fun u hu => ?_) ?_
          rotate_left
          · (have hl := HL.out _ hu; go_simp; first | done | with_reducible rfl | (go_at_call 30; with_reducible refine (HV1c.out _ hu).mono ?_; rintro e w8 ⟨rfl, hb8⟩; refine ⟨?_, HCX.out _ _ hb8 hu⟩; with_reducible rfl) | (go_at_call 30; with_reducible refine (HV2c.out _ hu).mono ?_; rintro e w8 ⟨rfl, hb8⟩; refine ⟨?_, HCX.out _ _ hb8 hu⟩; with_reducible rfl))
          (try simp only [Act.put, List.setIfInBounds_toArray, List.set_cons_zero, List.set_cons_succ])
          refine WQ.nil (HKK.out _ ?_)
          intro W10 hC10
          have hW10 := HCR.out _ hC10
          go_wp2
          go_roundw
          case rel => exact ⟨k + 1, by omega, by go_num, hW10⟩
          case measure => simp [intOf]; omega
      · obtain rfl : k = len := by omega
        go_wp2_with fail
        refine (HT.out _ (hW0.trans (hW.mono hW0.size))).mono ?_; rintro e w4 ⟨tA, tc, ps, rfl, hTD, hPt, hb4⟩
        have hW4 := bel_step (hW0.trans (hW.mono hW0.size)) hb4
        clear hb4 HT HD
        go_wp2_with fail
        refine (HA.out _ hW4).mono ?_; rintro e w' ⟨rfl, rfl⟩
        generalize atV zs 0 = y at *
        have hpl : ps.length ≤ 1048576 := by have := hTD.2.1; omega
        have HNr := Lib.hid (i_NewReach tA tc ps y 3 _ _ hPt (Nat.le_refl _) hpl)
        obtain ⟨hnb, hrc⟩ := rcD_new hTD y 3 (by omega) (by omega)
        obtain ⟨e1, e2, e3⟩ := new_yes hnb
        obtain ⟨z3, hz3⟩ : ∃ z, z = List.replicate (3 : Int).toNat (0 : Int) := ⟨_, rfl⟩
        rw [← hz3] at e3
        have hl3 : z3.length = 3 := by rw [hz3]; simp
        rw [e1, e2, e3, hnb] at HNr
        clear e1 e2 e3 hnb hrc hz3
        go_wp2_with fail
        refine HNr.out.mono ?_; rintro e w5 ⟨tS, cS, pS, dS, rfl, hO5⟩
        have hW5 := bel_step hW4 hO5.2.2
        have hPS := hO5.1.pts
        rw [hl3]
        clear hO5 HNr hPt hW4 hl3
        have HVs := Lib.hid (fun (V : World) (hb : Below w5.heap.size w5 V) => s_ValueAt tS cS ps y V.heap.size V ((hPS.below hb).mono hb.size) (Nat.le_refl _) hpl)
        generalize valueV ps y = vy at *
        obtain ⟨hBs, hbb, hsz⟩ := boxN w5 29 #[Value.slice tS ps.length cS, .int .i64 vy, .slice pS 3 dS]
        have hbs := hbb
        replace hW5 := bel_step hW5 hbb
        go_wp2_with fail
        generalize w5.alloc (.cells #[Value.slice tS ps.length cS, .int .i64 vy, .slice pS 3 dS] 29) = W9 at *
        obtain ⟨C, HCS⟩ : ∃ C : World → Prop, Hid (∀ w, C w ↔ Below W9.heap.size W9 w) := ⟨_, fun _ => Iff.rfl⟩
        refine quiet_class2 (C := C) (by kernel_rfl) (by kernel_rfl) ((HCS.out _).2 (Below.refl _ _).drew) (fun KK HKK => ?_)
        have HL := Lib.hid (fun (V : World) (h : C V) => (show (∀ i, V.cell? ⟨w5.heap.size, i, none⟩ = #[Value.slice tS ps.length cS, .int .i64 vy, .slice pS 3 dS][i]?) from (hBs.bel ((HCS.out _).1 h)).cell))
        have HCX := Lib.hid (fun (W W1 : World) (hb : Below W.heap.size W W1) (h : C W) => ((HCS.out _).2 (bel_step ((HCS.out _).1 h) hb) : C W1))
        have HVc := Lib.hid (fun (W : World) (h : C W) => HVs.out W (bel_step hbs ((HCS.out _).1 h)))
        have HAc := Lib.hid (fun (W : World) (h : C W) => HA.out W (bel_step hW5 ((HCS.out _).1 h)))
        have HCR := Lib.hid (fun (W : World) (h : C W) => bel_step hW5 ((HCS.out _).1 h))
        clear HVs HA hbs hbb hsz hBs hW5 hPS
        refine WQ.one (v := ?_) (by rfl) (fun u hu => ?_) ?_
        rotate_left
        · (have hl := HL.out _ hu; go_simp; first | done | with_reducible rfl | (go_at_call 22; with_reducible refine (HAc.out _ hu).mono ?_; rintro e w8 ⟨rfl, rfl⟩; refine ⟨?_, hu⟩; with_reducible rfl) | (go_at_call 30; with_reducible refine (HVc.out _ hu).mono ?_; rintro e w8 ⟨rfl, hb8⟩; refine ⟨?_, HCX.out _ _ hb8 hu⟩; with_reducible rfl))
        (try simp only [Act.put, List.setIfInBounds_toArray, List.set_cons_zero, List.set_cons_succ])
        refine WQ.one (v := ?_) (by rfl) (fun u hu => ?_) ?_
        rotate_left
        · (have hl := HL.out _ hu; go_simp; first | done | with_reducible rfl | (go_at_call 22; with_reducible refine (HAc.out _ hu).mono ?_; rintro e w8 ⟨rfl, rfl⟩; refine ⟨?_, hu⟩; with_reducible rfl) | (go_at_call 30; with_reducible refine (HVc.out _ hu).mono ?_; rintro e w8 ⟨rfl, hb8⟩; refine ⟨?_, HCX.out _ _ hb8 hu⟩; with_reducible rfl))
        (try simp only [Act.put, List.setIfInBounds_toArray, List.set_cons_zero, List.set_cons_succ])
        refine WQ.one (v := ?_) (by rfl) (fun u hu => ?_) ?_
        rotate_left
        · (have hl := HL.out _ hu; go_simp; first | done | with_reducible rfl | (go_at_call 22; with_reducible refine (HAc.out _ hu).mono ?_; rintro e w8 ⟨rfl, rfl⟩; refine ⟨?_, hu⟩; with_reducible rfl) | (go_at_call 30; with_reducible refine (HVc.out _ hu).mono ?_; rintro e w8 ⟨rfl, hb8⟩; refine ⟨?_, HCX.out _ _ hb8 hu⟩; with_reducible rfl))
        (try simp only [Act.put, List.setIfInBounds_toArray, List.set_cons_zero, List.set_cons_succ])
        refine WQ.one (v := ?_) (by rfl) (fun u hu => ?_) ?_
        rotate_left
        · (have hl := HL.out _ hu; go_simp; first | done | with_reducible rfl | (go_at_call 22; with_reducible refine (HAc.out _ hu).mono ?_; rintro e w8 ⟨rfl, rfl⟩; refine ⟨?_, hu⟩; with_reducible rfl) | (go_at_call 30; with_reducible refine (HVc.out _ hu).mono ?_; rintro e w8 ⟨rfl, hb8⟩; refine ⟨?_, HCX.out _ _ hb8 hu⟩; with_reducible rfl))
        (try simp only [Act.put, List.setIfInBounds_toArray, List.set_cons_zero, List.set_cons_succ])
        refine WQ.one (v := ?_) (by rfl) (fun u hu => ?_) ?_
        rotate_left
        · (have hl := HL.out _ hu; go_simp; first | done | with_reducible rfl | (go_at_call 22; with_reducible refine (HAc.out _ hu).mono ?_; rintro e w8 ⟨rfl, rfl⟩; refine ⟨?_, hu⟩; with_reducible rfl) | (go_at_call 30; with_reducible refine (HVc.out _ hu).mono ?_; rintro e w8 ⟨rfl, hb8⟩; refine ⟨?_, HCX.out _ _ hb8 hu⟩; with_reducible rfl))
        (try simp only [Act.put, List.setIfInBounds_toArray, List.set_cons_zero, List.set_cons_succ])
        refine WQ.one (v := ?_) (by rfl) (fun u hu => ?_) ?_
        rotate_left
        · (have hl := HL.out _ hu; go_simp; first | done | with_reducible rfl | (go_at_call 22; with_reducible refine (HAc.out _ hu).mono ?_; rintro e w8 ⟨rfl, rfl⟩; refine ⟨?_, hu⟩; with_reducible rfl) | (go_at_call 30; with_reducible refine (HVc.out _ hu).mono ?_; rintro e w8 ⟨rfl, hb8⟩; refine ⟨?_, HCX.out _ _ hb8 hu⟩; with_reducible rfl))
        (try simp only [Act.put, List.setIfInBounds_toArray, List.set_cons_zero, List.set_cons_succ])
        refine WQ.one (v := ?_) (by rfl) (fun u hu => ?_) ?_
        rotate_left
        · (have hl := HL.out _ hu; go_simp; first | done | with_reducible rfl | (go_at_call 22; with_reducible refine (HAc.out _ hu).mono ?_; rintro e w8 ⟨rfl, rfl⟩; refine ⟨?_, hu⟩; with_reducible rfl) | (go_at_call 30; with_reducible refine (HVc.out _ hu).mono ?_; rintro e w8 ⟨rfl, hb8⟩; refine ⟨?_, HCX.out _ _ hb8 hu⟩; with_reducible rfl))
        (try simp only [Act.put, List.setIfInBounds_toArray, List.set_cons_zero, List.set_cons_succ])
        refine WQ.one (v := ?_) (by rfl) (fun u hu => ?_) ?_
        rotate_left
        · (have hl := HL.out _ hu; go_simp; first | done | with_reducible rfl | (go_at_call 22; with_reducible refine (HAc.out _ hu).mono ?_; rintro e w8 ⟨rfl, rfl⟩; refine ⟨?_, hu⟩; with_reducible rfl) | (go_at_call 30; with_reducible refine (HVc.out _ hu).mono ?_; rintro e w8 ⟨rfl, hb8⟩; refine ⟨?_, HCX.out _ _ hb8 hu⟩; with_reducible rfl))
        (try simp only [Act.put, List.setIfInBounds_toArray, List.set_cons_zero, List.set_cons_succ])
        refine WQ.one (v := ?_) (by rfl) (fun u hu => ?_) ?_
        rotate_left
        · (have hl := HL.out _ hu; go_simp; first | done | with_reducible rfl | (go_at_call 22; with_reducible refine (HAc.out _ hu).mono ?_; rintro e w8 ⟨rfl, rfl⟩; refine ⟨?_, hu⟩; with_reducible rfl) | (go_at_call 30; with_reducible refine (HVc.out _ hu).mono ?_; rintro e w8 ⟨rfl, hb8⟩; refine ⟨?_, HCX.out _ _ hb8 hu⟩; with_reducible rfl))
        (try simp only [Act.put, List.setIfInBounds_toArray, List.set_cons_zero, List.set_cons_succ])
        refine WQ.one (v := ?_) (by rfl) (fun u hu => ?_) ?_
        rotate_left
        · (have hl := HL.out _ hu; go_simp; first | done | with_reducible rfl | (go_at_call 22; with_reducible refine (HAc.out _ hu).mono ?_; rintro e w8 ⟨rfl, rfl⟩; refine ⟨?_, hu⟩; with_reducible rfl) | (go_at_call 30; with_reducible refine (HVc.out _ hu).mono ?_; rintro e w8 ⟨rfl, hb8⟩; refine ⟨?_, HCX.out _ _ hb8 hu⟩; with_reducible rfl))
        (try simp only [Act.put, List.setIfInBounds_toArray, List.set_cons_zero, List.set_cons_succ])
        refine WQ.one (v := ?_) (by rfl) (fun u hu => ?_) ?_
        rotate_left
        · (have hl := HL.out _ hu; go_simp; first | done | with_reducible rfl | (go_at_call 22; with_reducible refine (HAc.out _ hu).mono ?_; rintro e w8 ⟨rfl, rfl⟩; refine ⟨?_, hu⟩; with_reducible rfl) | (go_at_call 30; with_reducible refine (HVc.out _ hu).mono ?_; rintro e w8 ⟨rfl, hb8⟩; refine ⟨?_, HCX.out _ _ hb8 hu⟩; with_reducible rfl))
        (try simp only [Act.put, List.setIfInBounds_toArray, List.set_cons_zero, List.set_cons_succ])
        refine WQ.one (v := ?_) (by rfl) (fun u hu => ?_) ?_
        rotate_left
        · (have hl := HL.out _ hu; go_simp; first | done | with_reducible rfl | (go_at_call 22; with_reducible refine (HAc.out _ hu).mono ?_; rintro e w8 ⟨rfl, rfl⟩; refine ⟨?_, hu⟩; with_reducible rfl) | (go_at_call 30; with_reducible refine (HVc.out _ hu).mono ?_; rintro e w8 ⟨rfl, hb8⟩; refine ⟨?_, HCX.out _ _ hb8 hu⟩; with_reducible rfl))
        (try simp only [Act.put, List.setIfInBounds_toArray, List.set_cons_zero, List.set_cons_succ])
        refine WQ.one (v := ?_) (by rfl) (fun u hu => ?_) ?_
        rotate_left
        · (have hl := HL.out _ hu; go_simp; first | done | with_reducible rfl | (go_at_call 22; with_reducible refine (HAc.out _ hu).mono ?_; rintro e w8 ⟨rfl, rfl⟩; refine ⟨?_, hu⟩; with_reducible rfl) | (go_at_call 30; with_reducible refine (HVc.out _ hu).mono ?_; rintro e w8 ⟨rfl, hb8⟩; refine ⟨?_, HCX.out _ _ hb8 hu⟩; with_reducible rfl))
        (try simp only [Act.put, List.setIfInBounds_toArray, List.set_cons_zero, List.set_cons_succ])
        refine WQ.one (v := ?_) (by rfl) (fun u hu => ?_) ?_
        rotate_left
        · (have hl := HL.out _ hu; go_simp; first | done | with_reducible rfl | (go_at_call 22; with_reducible refine (HAc.out _ hu).mono ?_; rintro e w8 ⟨rfl, rfl⟩; refine ⟨?_, hu⟩; with_reducible rfl) | (go_at_call 30; with_reducible refine (HVc.out _ hu).mono ?_; rintro e w8 ⟨rfl, hb8⟩; refine ⟨?_, HCX.out _ _ hb8 hu⟩; with_reducible rfl))
        (try simp only [Act.put, List.setIfInBounds_toArray, List.set_cons_zero, List.set_cons_succ])
        refine WQ.one (v := ?_) (by rfl) (fun u hu => ?_) ?_
        rotate_left
        · (have hl := HL.out _ hu; go_simp; first | done | with_reducible rfl | (go_at_call 22; with_reducible refine (HAc.out _ hu).mono ?_; rintro e w8 ⟨rfl, rfl⟩; refine ⟨?_, hu⟩; with_reducible rfl) | (go_at_call 30; with_reducible refine (HVc.out _ hu).mono ?_; rintro e w8 ⟨rfl, hb8⟩; refine ⟨?_, HCX.out _ _ hb8 hu⟩; with_reducible rfl))
        (try simp only [Act.put, List.setIfInBounds_toArray, List.set_cons_zero, List.set_cons_succ])
        refine WQ.one (v := ?_) (by rfl) (fun u hu => ?_) ?_
        rotate_left
        · (have hl := HL.out _ hu; go_simp; first | done | with_reducible rfl | (go_at_call 22; with_reducible refine (HAc.out _ hu).mono ?_; rintro e w8 ⟨rfl, rfl⟩; refine ⟨?_, hu⟩; with_reducible rfl) | (go_at_call 30; with_reducible refine (HVc.out _ hu).mono ?_; rintro e w8 ⟨rfl, hb8⟩; refine ⟨?_, HCX.out _ _ hb8 hu⟩; with_reducible rfl))
        (try simp only [Act.put, List.setIfInBounds_toArray, List.set_cons_zero, List.set_cons_succ])
        refine WQ.one (v := ?_) (by rfl) (fun u hu => ?_) ?_
        rotate_left
        · (have hl := HL.out _ hu; go_simp; first | done | with_reducible rfl | (go_at_call 22; with_reducible refine (HAc.out _ hu).mono ?_; rintro e w8 ⟨rfl, rfl⟩; refine ⟨?_, hu⟩; with_reducible rfl) | (go_at_call 30; with_reducible refine (HVc.out _ hu).mono ?_; rintro e w8 ⟨rfl, hb8⟩; refine ⟨?_, HCX.out _ _ hb8 hu⟩; with_reducible rfl))
        (try simp only [Act.put, List.setIfInBounds_toArray, List.set_cons_zero, List.set_cons_succ])
        refine WQ.one (v := ?_) (by rfl) (fun u hu => ?_) ?_
        rotate_left
        · (have hl := HL.out _ hu; go_simp; first | done | with_reducible rfl | (go_at_call 22; with_reducible refine (HAc.out _ hu).mono ?_; rintro e w8 ⟨rfl, rfl⟩; refine ⟨?_, hu⟩; with_reducible rfl) | (go_at_call 30; with_reducible refine (HVc.out _ hu).mono ?_; rintro e w8 ⟨rfl, hb8⟩; refine ⟨?_, HCX.out _ _ hb8 hu⟩; with_reducible rfl))
        (try simp only [Act.put, List.setIfInBounds_toArray, List.set_cons_zero, List.set_cons_succ])
        refine WQ.nil (HKK.out _ ?_)
        intro W10 hC10
        have hW10 := HCR.out _ hC10
        go_wp2
        go_ret
        exact ⟨rfl, hW10⟩
end Go.Proofs.Ytgbncfjabnaokab
