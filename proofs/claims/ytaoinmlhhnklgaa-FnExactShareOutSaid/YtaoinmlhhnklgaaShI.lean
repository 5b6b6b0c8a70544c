/- The contract of the program's ShareOut. -/
import Derived.Test.YtaoinmlhhnklgaaShS
import Derived.Test.YtaoinmlhhnklgaaNumL
namespace Go.Proofs.Ytaoinmlhhnklgaa
open Go.RowKit Go.Sort Go.Shelf

theorem bl_st {w W w' : World} (h : Below w.heap.size w W) (hb : Below W.heap.size W w') : Below w.heap.size w w' := h.trans (hb.mono h.size)
theorem nums_nil {w w' : World} (h : Below w.heap.size w w') : NumsOut w [] (.returned (.slice none 0 0)) w' :=
  ⟨none, 0, rfl, ⟨World.ownsRow_nil _ _ _ _, fun a ha => by cases ha⟩, h⟩
/-- The sum up to k, all weights in range. -/
def ShTo (ws : List Int) (k : Nat) (L : Int) : Prop := L = sumI (ws.take k) ∧ ∀ j, j < k → inR (ws.getD j 0) 0 1000000 = true
theorem shTo_step {ws : List Int} {k : Nat} {L : Int} (h : ShTo ws k L) (hk : k < ws.length) (hw : inR (ws.getD k 0) 0 1000000 = true) : ShTo ws (k + 1) (L + ws.getD k 0) := by
  refine ⟨by rw [sumI_take hk, h.1], fun j hj => ?_⟩
  rcases Nat.lt_or_ge j k with h1 | h1
  · exact h.2 j h1
  · rw [show j = k by omega]; exact hw
theorem shTo_bd {ws : List Int} {k : Nat} {L : Int} (h : ShTo ws k L) (hk : k ≤ ws.length) : 0 ≤ L ∧ L ≤ k * 1000000 := by
  rw [h.1]; exact sum_bd k hk (fun j hj => inR_true (h.2 j hj))
theorem shTo_end {ws : List Int} {L : Int} (h : ShTo ws ws.length L) : L = sumI ws := by rw [h.1, List.take_length]
theorem blk_one {W : World} {g : Nat} {t : TypeId} {x u : Value} (h : Blk W g t #[x]) : Blk (W.setCell ⟨g, 0, none⟩ u) g t #[u] := h.set_ 0 u
def FillTo (f : Nat → Int) (k : Nat) (xs : List Value) : Prop := ∀ j, j < k → xs[j]? = some (.int .i64 (f j))
theorem fillTo_step {f : Nat → Int} {k : Nat} {xs : List Value} (h : FillTo f k xs) (hk : k < xs.length) : FillTo f (k + 1) (xs.set k (.int .i64 (f k))) := fun j hj => by
  rcases Nat.lt_or_ge j k with h1 | h1
  · rw [List.getElem?_set_ne (by omega)]; exact h j h1
  · obtain rfl : j = k := by omega
    rw [List.getElem?_set_self (by omega)]
theorem fillTo_end {f : Nat → Int} {n : Nat} {xs : List Value} (h : FillTo f n xs) (hl : xs.length = n) : xs = cellsI ((List.range n).map f) := by
  apply List.ext_getElem?
  intro j
  rcases Nat.lt_or_ge j n with hj | hj
  · rw [h j hj]; simp [cellsI, hj]
  · rw [List.getElem?_eq_none (by omega), List.getElem?_eq_none (by simp [cellsI]; omega)]
def LeftTo_ (total : Int) (ws : List Int) (k : Nat) (L : Int) : Prop := L = total - sumI ((List.range k).map (qF total ws))
theorem leftTo_step {total : Int} {ws : List Int} {k : Nat} {L : Int} (h : LeftTo_ total ws k L) : LeftTo_ total ws (k + 1) (L - qF total ws k) := by
  unfold LeftTo_ at *; rw [sumI_range_succ]; omega
theorem leftTo_bd {total : Int} {ws : List Int} (hs : shB total ws = true) {k : Nat} {L : Int} (h : LeftTo_ total ws k L) (hk : k ≤ ws.length) : -13000000000000000 ≤ L ∧ L ≤ 1000000000 := by
  obtain ⟨t1, t2, t3, t4, t5⟩ := sh_true hs
  have := sumI_range_bd (f := qF total ws) (c := 1000000000000000) (n := k) (fun j hj => by have := quo_facts hs (show j < ws.length by omega); omega)
  unfold LeftTo_ at h
  omega
theorem Blk.bl {w w' : World} {g : Nat} {t : TypeId} {cs : Array Value} (h : Blk w g t cs) (hb : Below w.heap.size w w') : Blk w' g t cs := h.below hb h.lt
theorem own_other {W w' : World} {lo g n : Nat} {v : Value} {xs : List Value} {g1 : Nat} (h : W.ownsRow lo 3 1 v n xs) (hv : v.ownBlock = some g1) (hg : W.grownBy w' (some g)) (hne : g1 ≠ g) : w'.ownsRow lo 3 1 v n xs := by
  rcases h with ⟨h1, h2 | ⟨k, cap, cur, hv', hk, hh, r⟩⟩
  · exact ⟨h1, .inl h2⟩
  · refine ⟨h1, .inr ⟨k, cap, cur, hv', hk, ?_, r⟩⟩
    have hlt : k < W.heap.size := by
      rcases Nat.lt_or_ge k W.heap.size with h3 | h3
      · exact h3
      · rw [Array.getElem?_eq_none h3] at hh; cases hh
    have e : k = g1 := by rw [hv'] at hv; simpa [Value.ownBlock] using hv
    exact (hg.block k hlt (fun e2 => by injection e2; omega)).trans hh
theorem own_base {W : World} {lo lo' n : Nat} {v : Value} {xs : List Value} (h : W.ownsRow lo 3 1 v n xs) (hl : lo' ≤ lo) : W.ownsRow lo' 3 1 v n xs := by
  rcases h with ⟨h1, h2 | ⟨k, cap, cur, hv', hk, r⟩⟩
  · exact ⟨h1, .inl h2⟩
  · exact ⟨h1, .inr ⟨k, cap, cur, hv', by omega, r⟩⟩
theorem sort_grown {W : World} {m g q : Nat} (d : Array (Fin (m + 1))) : W.grownBy ((putRow (encF m) W g 0 d).drewN q) (some g) := by
  refine ⟨rfl, rfl, rfl, by show W.heap.size ≤ (putRow (encF m) W g 0 d).heap.size; rw [size_putRow]; exact Nat.le_refl _, fun k hk hne => ?_⟩
  have : g ≠ k := fun e => hne (by rw [e])
  show (putRow (encF m) W g 0 d).heap[k]? = W.heap[k]?
  simp [putRow, mapBlock, Array.getElem?_modify, this]
theorem holds_id {W : World} {lo m g c : Nat} {ys : List Value} (h : W.ownsRow lo 3 1 (.slice (some ⟨g, 0, none⟩) (m + 1) c) (m + 1) ys) (hF : FillTo (fun j => (j : Int)) (m + 1) ys) : Holds (encF m) W g 0 (ident m) := by
  intro j hj
  have hj' : j < m + 1 := by simpa [ident] using hj
  rw [Nat.zero_add]
  refine ⟨?_, h.frozenAt j⟩
  rw [h.cellAt j (by omega), hF j hj']
  unfold encF
  rw [ident_at hj']
theorem sorted_at {W : World} {m g q : Nat} {total : Int} {ws : List Int} (hm : ws.length = m + 1) (hH : Holds (encF m) W g 0 (ident m)) (j : Nat) (hj : j < ws.length) :
    ((putRow (encF m) W g 0 (sortO (rF total ws) m)).drewN q).cell? ⟨g, j, none⟩ = some (.int .i64 (oF total ws j : Nat)) := by
  have hs := (sort_ord (m := m) (rF total ws)).1
  have := cell?_putRow (encF m) W g 0 (ident m) (sortO (rF total ws) m) hH (by rw [hs]; simp [ident]) j (by omega)
  rw [Nat.zero_add] at this
  show (putRow (encF m) W g 0 (sortO (rF total ws) m)).cell? ⟨g, j, none⟩ = _
  rw [this]
  have e : ws.length - 1 = m := by omega
  unfold oF encF
  subst e
  rfl

set_option maxRecDepth 100000 in
set_option maxHeartbeats 8000000 in
theorem i_ShareOut (A : Option Addr) (c : Nat) (ws : List Int) (total : Int) (w : World) (hP : NumsAt w w.heap.size A ws) (hn : ws.length ≤ 1048576) :
    Calls Try.prog 7 #[.int .i64 total, .slice A ws.length c] w (NumsOut w (shareV total ws)) := by
  have HNo := Lib.hid (sh_no (total := total) (ws := ws))
  have HP := Lib.hid hP
  obtain ⟨n, hnn⟩ : ∃ n, n = ws.length := ⟨_, rfl⟩
  have HL := Lib.hid hnn
  rw [← hnn] at hn HNo ⊢
  clear hP hnn
  have hB0 : Blk ((w.alloc (.cells #[.int .i64 total] 3)).alloc (.cells #[.slice A n c] 24)) w.heap.size 3 #[.int .i64 total] := (Blk.new w _ _).alloc _
  have hB1 : Blk ((w.alloc (.cells #[.int .i64 total] 3)).alloc (.cells #[.slice A n c] 24)) (w.heap.size + 1) 24 #[.slice A n c] := by
    have := Blk.new (w.alloc (.cells #[.int .i64 total] 3)) 24 #[.slice A n c]
    simp only [World.size_alloc] at this; exact this
  have hW0 : Below w.heap.size w ((w.alloc (.cells #[.int .i64 total] 3)).alloc (.cells #[.slice A n c] 24)) := ((Below.refl _ _).alloc (Nat.le_refl _) _).alloc (by simp) _
  have hz0 : ((w.alloc (.cells #[.int .i64 total] 3)).alloc (.cells #[.slice A n c] 24)).heap.size = w.heap.size + 1 + 1 := by simp
  have cc0 := hB0.cell
  have cc1 := hB1.cell
  by_cases hcs : inR total 0 1000000000 = false ∨ n < 1 ∨ 12 < n
  · have HV := Lib.hid (HNo.out (by rcases hcs with h | h | h; exact .inl h; exact .inr (.inl h); exact .inr (.inr (.inl h))))
    have hc' : inR total 0 1000000000 = false ∨ (inR total 0 1000000000 = true ∧ (n : Int) < 1) ∨ (inR total 0 1000000000 = true ∧ 1 ≤ (n : Int) ∧ 12 < (n : Int)) := by
      rcases bcases (inR total 0 1000000000) with h | h
      · rw [h] at hcs ⊢; simp only [Bool.true_eq_false, false_or, true_and] at hcs ⊢; omega
      · exact .inl h
    rw [HV.out]
    clear hcs
    rcases hc' with h | ⟨h, h1⟩ | ⟨h, h1, h2⟩
    all_goals
      go_enter Try.func7, Try.ntmps7
      go_wp2_with (go_at_call 13; refine (i_inRange _ _ _ _).mono ?_; rintro e w' ⟨rfl, rfl⟩)
      go_ret
      exact nums_nil hW0
  · have h0 : inR total 0 1000000000 = true := by
      rcases bcases (inR total 0 1000000000) with h | h
      · exact h
      · exact absurd (.inl h) hcs
    have n1 : 1 ≤ n := by omega
    have n12 : n ≤ 12 := by omega
    have e1 : (1 : Int) ≤ (n : Int) := by omega
    have e12 : (n : Int) ≤ 12 := by omega
    obtain ⟨t0, t1⟩ := inR_true h0
    obtain ⟨b, off, rfl, hb, hc⟩ := HP.out (by rw [← HL.out]; omega)
    have HC := Lib.hid (fun (W : World) (hW : Below w.heap.size w W) (j : Nat) (hj : j < n) => (show W.cell? ⟨b, off + j, none⟩ = some (.int .i64 (ws.getD j 0)) from (hW.cell (p := ⟨b, off + j, none⟩) hb).trans (hc j (by rw [← HL.out]; exact hj))))
    have H0 := Lib.hid h0
    clear hc hcs HP
    have hB2 := (Blk.new ((w.alloc (.cells #[.int .i64 total] 3)).alloc (.cells #[.slice (some ⟨b, off, none⟩) n c] 24)) 3 #[.int .i64 0])
    rw [hz0] at hB2
    have hB0' := hB0.alloc (.cells #[.int .i64 0] 3)
    have hB1' := hB1.alloc (.cells #[.int .i64 0] 3)
    have hW0' := hW0.alloc hW0.size (.cells #[.int .i64 0] 3)
    clear hB0 hB1 hW0
    go_enter Try.func7, Try.ntmps7
    go_wp2_with (go_at_call 13; refine (i_inRange _ _ _ _).mono ?_; rintro e w' ⟨rfl, rfl⟩)
    clear cc0 cc1 h0
    go_loopw [29] (fun v29 wr => ∃ (k : Nat) (L : Int), k ≤ n ∧ v29 = .int .i64 k ∧ ShTo ws k L ∧ Blk wr w.heap.size 3 #[.int .i64 total] ∧ Blk wr (w.heap.size + 1) 24 #[.slice (some ⟨b, off, none⟩) n c] ∧ Blk wr (w.heap.size + 1 + 1) 3 #[.int .i64 L] ∧ Below w.heap.size w wr) (fun v29 _ => n - (intOf v29).toNat)
    case atStart => exact ⟨0, 0, by omega, rfl, ⟨by simp [sumI], fun j hj => by omega⟩, hB0', hB1', hB2, hW0'⟩
    case round =>
      obtain ⟨k, L, hk, rfl, hS, hB0, hB1, hB2r, hW⟩ := hrel
      clear hB0' hB1' hB2 hW0'
      obtain ⟨l0, l1⟩ := shTo_bd hS (by rw [← HL.out]; exact hk)
      have l2 : L ≤ 12000000 := by omega
      have c0 := hB0.cell
      have c1 := hB1.cell
      have c2 := hB2r.cell
      have f2 := hB2r.frozen
      by_cases hlt : k < n
      · have e3 : (k : Int) < (n : Int) := by omega
        have cw := HC.out wr hW k hlt
        rcases bcases (inR (ws.getD k 0) 0 1000000) with g | g
        · obtain ⟨g0, g1⟩ := inR_true g
          have HS := Lib.hid (shTo_step hS (by rw [← HL.out]; exact hlt) g)
          clear hS
          generalize ws.getD k 0 = z at *
          have hB0n := hB0.far (p := ⟨w.heap.size + 1 + 1, 0, none⟩) (by show _ ≠ w.heap.size + 1 + 1; omega) (.int .i64 (L + z))
          have hB1n := hB1.far (p := ⟨w.heap.size + 1 + 1, 0, none⟩) (by show _ ≠ w.heap.size + 1 + 1; omega) (.int .i64 (L + z))
          have hB2n := blk_one (u := .int .i64 (L + z)) hB2r
          have hWn := hW.setCell (p := ⟨w.heap.size + 1 + 1, 0, none⟩) (by show _ ≤ w.heap.size + 1 + 1; omega) (.int .i64 (L + z))
          clear hB0 hB1 hB2r hW
          go_wp2_with (go_at_call 13; refine (i_inRange _ _ _ _).mono ?_; rintro e w' ⟨rfl, rfl⟩)
          go_roundw
          case rel => exact ⟨k + 1, L + z, by omega, by go_num, HS.out, hB0n, hB1n, hB2n, hWn⟩
          case measure => simp [intOf]; omega
        · have HV := Lib.hid (HNo.out (.inr (.inr (.inr (.inl ⟨k, hlt, g⟩)))))
          clear hS
          generalize ws.getD k 0 = z at *
          go_wp2_with (go_at_call 13; refine (i_inRange _ _ _ _).mono ?_; rintro e w' ⟨rfl, rfl⟩)
          go_ret
          show NumsOut w (shareV total ws) _ _
          rw [HV.out]
          exact nums_nil hW
      · obtain rfl : k = n := by omega
        have hE := shTo_end (ws := ws) (by rw [← HL.out]; exact hS)
        by_cases hL0 : L = 0
        · subst hL0
          have HV := Lib.hid (HNo.out (.inr (.inr (.inr (.inr hE.symm)))))
          clear hS hE
          go_wp2
          go_ret
          show NumsOut w (shareV total ws) _ _
          rw [HV.out]
          exact nums_nil hW
        · have hkl : k = ws.length := HL.out
          have HE := Lib.hid hE
          have hb1 : shB total ws = true := sh_mk H0.out (by omega) (by omega) (fun j hj => hS.2 j (by rw [HL.out]; exact hj)) (by rw [← hE]; exact hL0)
          have HB := Lib.hid hb1
          have HV := Lib.hid (sh_yes hb1)
          obtain ⟨lf0, lf1⟩ := left_bd hb1
          have HO := Lib.hid (ord_of (total := total) (ws := ws) (by omega)).2
          have HQ := Lib.hid (fun (j : Nat) (hj : j < k) => (show 0 ≤ total * ws.getD j 0 ∧ total * ws.getD j 0 ≤ 1000000000000000 ∧ 0 ≤ qF total ws j ∧ qF total ws j ≤ 1000000000000000 ∧ Int.tdiv (total * ws.getD j 0) L = qF total ws j by
            obtain ⟨a0, a1, a2, a3, _, _, _⟩ := quo_facts hb1 (show j < ws.length by omega)
            exact ⟨a0, a1, a2, a3, by rw [hE]; unfold qF; exact Int.tdiv_eq_ediv_of_nonneg a0⟩))
          have HLS := Lib.hid (fun (j : Nat) (v : Int) (h : LeftTo_ total ws j v) => leftTo_step h)
          have HLB := Lib.hid (fun (j : Nat) (v : Int) (h : LeftTo_ total ws j v) (hj : j ≤ k) => leftTo_bd hb1 h (by rw [← HL.out]; exact hj))
          have HST := Lib.hid (fun (m : Nat) (hm : ws.length = m + 1) (B b off c blk cap : Nat) (W : World) (hC : ShCells W B total b off ws.length c ws) (hB : B + 2 < W.heap.size) (hb : b < W.heap.size) (n0 : B ≠ blk) (n1 : B + 1 ≠ blk) (n2 : B + 2 ≠ blk) (n3 : b ≠ blk) (hH : Holds (encF m) W blk 0 (ident m)) => i_sortStable (n := m + 1) (by omega) (i_insSort hb1 hm B b off c blk cap W hC hB hb n0 n1 n2 n3 hH) (fun e w' h => h.1))
          have s0 : (L == 0) = false := by simp; exact hL0
          have s1 : 0 < L := by omega
          have hlen : (k : Int) = (ws.length : Int) := by rw [HL.out]
          rw [← hlen] at lf1
          have hbw : b < wr.heap.size := Nat.lt_of_lt_of_le hb hW.size
          have hHB := hB2r.lt
          clear hS hE hb1 hL0 hlen hkl
          obtain ⟨i0, hi, hz0', hz1, hz2⟩ := info_parts info_int
          go_wp2_with (at_make; first | (refine wpList_make_full _ rfl (.tmp 43) (.tmp 43) 24 rfl wr.heap.size 3 i0 _ 1 Try.underlying24 hi hz0' hz1 .i64 .i64 _ _ k rfl rfl rfl rfl (by rw [hz2]; omega) (by unfold maxLen; omega) (Nat.le_refl _) ?_; intro w1 hown1 hgr1; have c1 := (hB1.grown hgr1 (by simp)).cell) | (refine wpList_make_full _ rfl (.tmp 46) (.tmp 46) 24 rfl w1.heap.size 3 i0 _ 1 Try.underlying24 hi hz0' hz1 .i64 .i64 _ _ k rfl rfl rfl rfl (by rw [hz2]; omega) (by unfold maxLen; omega) (Nat.le_refl _) ?_; intro w2 hown2 hgr2; have c0 := ((hB0.grown hgr1 (by simp)).grown hgr2 (by simp)).cell; have c1 := ((hB1.grown hgr1 (by simp)).grown hgr2 (by simp)).cell))
          have hb1w := (Below.refl wr.heap.size wr).grown hgr1 (Nat.le_refl _) (fun k hk => by cases hk)
          have hb2w := (Below.refl w1.heap.size w1).grown hgr2 (Nat.le_refl _) (fun k hk => by cases hk)
          have hg12 := (hown1.lt wr.heap.size rfl).2
          have hs01 := hW.size
          have hO1 := own_base ((Row.of_own hown1).below hb2w (Nat.le_refl _)).1 hs01
          have hO2 := own_base hown2 (Nat.le_trans hs01 (Nat.le_of_lt hg12))
          have hB0a := (hB0.bl hb1w).bl hb2w
          have hB1a := (hB1.bl hb1w).bl hb2w
          have hB2a := (hB2r.bl hb1w).bl hb2w
          have hWa := bl_st (bl_st hW hb1w) hb2w
          clear hown1 hown2 hgr1 hgr2 hb1w hb2w hB0 hB1 hB2r hW c0 c1 c2 f2
          generalize wr.heap.size = g1 at *
          generalize w1.heap.size = g2 at *
          have hne : g1 ≠ g2 := by omega
          go_loopw [10, 51] (fun v10 v51 wq => ∃ (j : Nat) (Lf : Int) (xs ys : List Value), j ≤ k ∧ v10 = .int .i64 Lf ∧ v51 = .int .i64 j ∧ LeftTo_ total ws j Lf ∧ FillTo (qF total ws) j xs ∧ FillTo (fun i => (i : Int)) j ys ∧ wq.ownsRow w.heap.size 3 1 (.slice (some ⟨g1, 0, none⟩) k k) k xs ∧ wq.ownsRow w.heap.size 3 1 (.slice (some ⟨g2, 0, none⟩) k k) k ys ∧ Blk wq w.heap.size 3 #[.int .i64 total] ∧ Blk wq (w.heap.size + 1) 24 #[.slice (some ⟨b, off, none⟩) k c] ∧ Blk wq (w.heap.size + 1 + 1) 3 #[.int .i64 L] ∧ Below w.heap.size w wq) (fun _ v51 _ => k - (intOf v51).toNat)
          case atStart => exact ⟨0, total, _, _, by omega, rfl, rfl, by simp [LeftTo_, sumI], fun j hj => by omega, fun j hj => by omega, hO1, hO2, hB0a, hB1a, hB2a, hWa⟩
          case round =>
            obtain ⟨j, Lf, xs, ys, hj, rfl, rfl, hLf, hFx, hFy, hO1, hO2, hB0, hB1, hB2, hW⟩ := hrel
            clear hB0a hB1a hB2a hWa
            have hxl := hO1.1
            have hyl := hO2.1
            rw [Nat.mul_one] at hxl hyl
            obtain ⟨lb0, lb1⟩ := HLB.out j Lf hLf hj
            by_cases hjk : j < k
            · have e3 : (j : Int) < (k : Int) := by omega
              have cw := HC.out _ hW j hjk
              obtain ⟨a0, a1, a2, a3, a4⟩ := HQ.out j hjk
              have HFX := Lib.hid (fillTo_step hFx (by omega))
              have HFY := Lib.hid (fillTo_step hFy (by omega))
              have HLN := Lib.hid (HLS.out j Lf hLf)
              have c0 := hB0.cell
              have c2 := hB2.cell
              have f1 := hO1.frozenAt j
              have f2 := hO2.frozenAt j
              obtain ⟨u1, hu1⟩ : ∃ u, _ = some u := ⟨_, hO1.cellAt j (by omega) |>.trans (List.getElem?_eq_getElem (by omega))⟩
              obtain ⟨u2, hu2⟩ : ∃ u, _ = some u := ⟨_, hO2.cellAt j (by omega) |>.trans (List.getElem?_eq_getElem (by omega))⟩
              clear hLf hFx hFy
              have ww : IntKind.i64.wrap (total * ws.getD j 0) = total * ws.getD j 0 := IntWalk.i64_in _ (by omega)
              generalize qF total ws j = q at *
              generalize ws.getD j 0 = z at *
              have ww2 : IntKind.i64.wrap (Lf - q) = Lf - q := IntWalk.i64_in _ (by omega)
              have s1x := hO1.stored j (.int .i64 q)
              have hO2x := own_other hO2 rfl s1x.2 (fun e => hne e.symm)
              have s2x := hO2x.stored j (.int .i64 j)
              have hO1x := own_other s1x.1 rfl s2x.2 hne
              have hB0x := (hB0.far (p := ⟨g1, j, none⟩) (by show _ ≠ g1; omega) (.int .i64 q)).far (p := ⟨g2, j, none⟩) (by show _ ≠ g2; omega) (.int .i64 j)
              have hB1x := (hB1.far (p := ⟨g1, j, none⟩) (by show _ ≠ g1; omega) (.int .i64 q)).far (p := ⟨g2, j, none⟩) (by show _ ≠ g2; omega) (.int .i64 j)
              have hB2x := (hB2.far (p := ⟨g1, j, none⟩) (by show _ ≠ g1; omega) (.int .i64 q)).far (p := ⟨g2, j, none⟩) (by show _ ≠ g2; omega) (.int .i64 j)
              have hWx := (hW.setCell (p := ⟨g1, j, none⟩) hs01 (.int .i64 q)).setCell (p := ⟨g2, j, none⟩) (Nat.le_trans hs01 (Nat.le_of_lt hg12)) (.int .i64 j)
              have hO2y := s2x.1
              clear hO1 hO2 hB0 hB1 hB2 hW s1x s2x hO2x
              go_wp2
              go_roundw
              case rel => exact ⟨j + 1, Lf - q, _, _, by omega, rfl, by go_num, HLN.out, HFX.out, HFY.out, hO1x, hO2y, hB0x, hB1x, hB2x, hWx⟩
              case measure => simp [intOf]; omega
            · obtain rfl : j = k := by omega
              have hx := fillTo_end hFx hxl
              have HLf := Lib.hid (show Lf = leftV total ws by unfold leftV; rw [← HL.out]; exact hLf)
              have lfb : 0 ≤ Lf ∧ Lf < (j : Int) := by rw [HLf.out]; exact ⟨lf0, lf1⟩
              obtain ⟨m, hm⟩ : ∃ m, j = m + 1 := ⟨j - 1, by omega⟩
              subst hm
              have hwl : ws.length = m + 1 := HL.out.symm
              have hH := holds_id hO2 hFy
              have hcE : ShCells _ w.heap.size total b off ws.length c ws := ⟨hB0.cell 0, by have := hB1.cell 0; rw [hwl]; exact this, by rw [← HE.out]; exact hB2.cell 0, fun i hi => HC.out _ hW i (by omega)⟩
              have hB2l := hB2.lt
              have hbl := Nat.lt_of_lt_of_le hb hW.size
              have hs := HST.out m hwl w.heap.size b off c g2 (m + 1) _ hcE hB2l hbl (by omega) (by omega) (by omega) (by omega) hH
              have HSO := Lib.hid hs
              have HSA := Lib.hid (fun (q : Nat) (i : Nat) (hi : i < m + 1) => sorted_at (q := q) (total := total) hwl hH i (by omega))
              have HX := Lib.hid hx
              clear hs hcE hFx hFy hLf hH hwl hxl hyl hx hB0 hB1 hB2
              go_wp2_with fail
              refine HSO.out.mono ?_; rintro e w5 ⟨rfl, q5, hq5⟩
              have hg5 := sort_grown (W := wr) (g := g2) (q := q5) (sortO (rF total ws) m)
              rw [← hq5] at hg5
              have hs5 : ∀ i : Nat, i < m + 1 → w5.cell? ⟨g2, i, none⟩ = some (.int .i64 (oF total ws i : Nat)) := fun i hi => by rw [hq5]; exact HSA.out q5 i hi
              have hO5 := own_other hO1 rfl hg5 hne
              have hW5 := hW.grown hg5 hW.size (fun k hk => by injection hk with hk; omega)
              rw [HX.out, ← outL_zero (o := oF total ws)] at hO5
              clear hq5 hg5 hO1 hO2 hW HSO HSA
              have HOL := Lib.hid (fun (t : Nat) (ht : t < m + 1) => (show oF total ws t < m + 1 ∧ (outL (m + 1) (qF total ws) (oF total ws) t).set (oF total ws t) ((outL (m + 1) (qF total ws) (oF total ws) t).getD (oF total ws t) 0 + 1) = outL (m + 1) (qF total ws) (oF total ws) (t + 1) ∧ 0 ≤ (outL (m + 1) (qF total ws) (oF total ws) t).getD (oF total ws t) 0 ∧ (outL (m + 1) (qF total ws) (oF total ws) t).getD (oF total ws t) 0 ≤ 1000000000000000 by
                have hO := HO.out
                rw [← HL.out] at hO
                have h1 := hO.lt t ht
                have h2 := HQ.out _ h1
                refine ⟨h1, outL_step hO ht, ?_, ?_⟩
                · rw [outL_at h1, picked_self hO ht]; exact h2.2.2.1
                · rw [outL_at h1, picked_self hO ht]; exact h2.2.2.2.1))
              have HFIN := Lib.hid (show shareV total ws = outL (m + 1) (qF total ws) (oF total ws) Lf.toNat by rw [HV.out, ← HLf.out, ← HL.out])
              have hg5l : g2 < w5.heap.size := by
                have hc := hs5 0 (by omega)
                rcases Nat.lt_or_ge g2 w5.heap.size with h | h
                · exact h
                · rw [World.cell?, Array.getElem?_eq_none h] at hc; simp at hc
              obtain ⟨lf2, lf3⟩ := lfb
              have hs01' := hs01
              go_wp2_with fail
              go_loopw [13] (fun v13 wq => ∃ t : Nat, (t : Int) ≤ Lf ∧ v13 = .int .i64 t ∧ wq.ownsRow w.heap.size 3 1 (.slice (some ⟨g1, 0, none⟩) (m + 1) (m + 1)) (m + 1) (cellsI (outL (m + 1) (qF total ws) (oF total ws) t)) ∧ (∀ i : Nat, i < m + 1 → wq.cell? ⟨g2, i, none⟩ = some (.int .i64 (oF total ws i : Nat))) ∧ Below w.heap.size w wq) (fun v13 _ => (Lf - intOf v13).toNat)
              case atStart => exact ⟨0, by omega, rfl, hO5, hs5, hW5⟩
              case round =>
                obtain ⟨t, htl, rfl, hO, hsr, hW⟩ := hrel
                clear hO5 hs5 hW5 hg5l
                by_cases hlt : (t : Int) < Lf
                · have ht : t < m + 1 := by omega
                  obtain ⟨o1, o2, o3, o4⟩ := HOL.out t ht
                  have cs := hsr t ht
                  have e3 : (t : Int) < ((m + 1 : Nat) : Int) := by omega
                  have e4 : ((oF total ws t : Nat) : Int) < ((m + 1 : Nat) : Int) := by omega
                  have e3' : (t : Int) < (m : Int) + 1 := by omega
                  have e4' : ((oF total ws t : Nat) : Int) < (m : Int) + 1 := by omega
                  have HO2 := Lib.hid o2
                  have cz := (hO.cellAt (oF total ws t) (by omega)).trans (cellsI_at _ _ (by rw [outL_len]; exact o1))
                  have fz := hO.frozenAt (oF total ws t)
                  have s1 := hO.stored (oF total ws t) (.int .i64 ((outL (m + 1) (qF total ws) (oF total ws) t).getD (oF total ws t) 0 + 1))
                  have hOn := s1.1
                  have cset : (cellsI (outL (m + 1) (qF total ws) (oF total ws) t)).set (oF total ws t) (.int .i64 ((outL (m + 1) (qF total ws) (oF total ws) t).getD (oF total ws t) 0 + 1)) = cellsI (outL (m + 1) (qF total ws) (oF total ws) (t + 1)) := by
                    rw [← o2]; simp [cellsI]
                  rw [cset] at hOn
                  have hsn : ∀ i : Nat, i < m + 1 → (wr.setCell ⟨g1, oF total ws t, none⟩ (.int .i64 ((outL (m + 1) (qF total ws) (oF total ws) t).getD (oF total ws t) 0 + 1))).cell? ⟨g2, i, none⟩ = some (.int .i64 (oF total ws i : Nat)) := fun i hi => (World.cell?_setCell_other _ _ _ _ (by first | (simp; done) | (simp; omega))).trans (hsr i hi)
                  have hWn := hW.setCell (p := ⟨g1, oF total ws t, none⟩) hs01 (.int .i64 ((outL (m + 1) (qF total ws) (oF total ws) t).getD (oF total ws t) 0 + 1))
                  have HON := Lib.hid hOn
                  have HSN := Lib.hid hsn
                  have HWN := Lib.hid hWn
                  clear o2 s1 hOn cset hsn hWn hO hsr hW
                  generalize (outL (m + 1) (qF total ws) (oF total ws) t).getD (oF total ws t) 0 = z at *
                  generalize oF total ws t = o at *
                  have ww : IntKind.i64.wrap (z + 1) = z + 1 := IntWalk.i64_in _ (by omega)
                  go_wp2
                  go_roundw
                  case rel => exact ⟨t + 1, by omega, by go_num, HON.out, HSN.out, HWN.out⟩
                  case measure => simp [intOf]; omega
                · have hte : t = Lf.toNat := by omega
                  subst hte
                  have HR := Lib.hid (show NumsOut w (shareV total ws) (.returned (.slice (some ⟨g1, 0, none⟩) (m + 1) (m + 1))) wr by
                    rw [HFIN.out]
                    exact ⟨_, m + 1, by rw [outL_len], by rw [outL_len]; exact Row.of_own hO, hW⟩)
                  clear hO hsr
                  go_wp2
                  go_ret
                  exact HR.out
end Go.Proofs.Ytaoinmlhhnklgaa
