/- Contracts of FlowIn (program and reference). -/
import Derived.Test.YtgbncfjabnaokabSend
import Derived.Laws.CopyOwn
import Derived.Deep.RegionLaw
namespace Go.Proofs.Ytgbncfjabnaokab
open Go.RowKit

/-- copy into a row that is known whole, from its head; only that block turns. -/
theorem step_copy_row {P : Program} {ops : Array Oper} {o : Oper} {a : Act} {w : World} {K : Act → World → Prop} {Q : Exit → Act → World → Prop} {E : Prop} (hgd : o.guard = none) (d s : Operand) (dT sT : TypeId)
    (ho : o.op = .call { callee := .builtin .copy, args := #[d, s], argTypes := #[dT, sT] }) (elem : TypeId) (hu : P.underlying dT = some (.slice elem)) (hsz : (P.info? elem).map (·.size) = some 1)
    (g dLen dCap : Nat) (sp : Option Addr) (sLen sCap : Nat) (hd : a.eval d = .slice (some ⟨g, 0, none⟩) dLen dCap) (hs : a.eval s = .slice sp sLen sCap)
    (cur : Array Value) (t : TypeId) (hg : w.heap[g]? = some (.cells cur t (0, 0))) (cs : List Value) (hn : cs.length = Nat.min sLen dLen)
    (hpos : 0 < cs.length → ∃ ad, sp = some ad ∧ ∀ j v, cs[j]? = some v → w.cell? (ad.add j) = some v) (hfit : cs.length ≤ cur.size) (h1 : ∀ v ∈ cs, v.oneCell' = true)
    (h : ∀ w', w.grownBy w' (some g) → Hid (w'.heap[g]? = some (.cells (cs ++ cur.toList.drop cs.length).toArray t (0, 0))) → K (a.put o.dst (goInt cs.length)) w') :
    if Region.wanted o (yielded ops a.tmps) = true then Oper.wp P o a w K Q else E := by
  have hw : Region.wanted o (yielded ops a.tmps) = true := by simp [Region.wanted, hgd]
  rw [if_pos hw]
  by_cases h0 : cs.length = 0
  · obtain rfl : cs = [] := List.eq_nil_of_length_eq_zero h0
    have hrun := run_copy_none (P := P) w dT sT o.type elem (some ⟨g, 0, none⟩) sp dLen dCap sLen sCap hu hsz (by simpa using hn.symm)
    unfold Oper.wp
    simp [execOp, ho, resolve, invoke, builtin, hd, hs, hrun, Result.andThen]
    exact h w (World.grownBy.refl _ _) (show _ = _ by simpa using hg)
  · obtain ⟨ad, rfl, hsrc⟩ := hpos (by omega)
    have hrun := run_copy_row (P := P) w dT sT o.type elem g 0 dLen dCap ad sLen sCap cur t cs hu hsz hg hn hsrc (by simpa using hfit) h1
    unfold Oper.wp
    simp [execOp, ho, resolve, invoke, builtin, hd, hs, hrun, Result.andThen]
    refine h _ ⟨rfl, rfl, rfl, by simp [World.setRow], fun k _ hk => setRow_other w g k _ (fun e => hk (by rw [e]))⟩ (show _ = _ from ?_)
    have := setRow_heap w g cur (cs ++ cur.toList.drop cs.length).toArray t (0, 0) hg
    simpa using this

/-- FlowIn. -/
def flowB (ps : List (Int × Int)) (vol : Int) (zs : List Int) : Bool := reachOk ps vol zs && decide (0 < zs.length)
def flowVol (ps : List (Int × Int)) (vol : Int) (zs : List Int) : Int := if flowB ps vol zs = true then vol + zs.getD 0 0 else vol
def flowZ (ps : List (Int × Int)) (vol : Int) (zs : List Int) : List Int := if flowB ps vol zs = true then zs.drop 1 ++ [0] else zs
theorem flow_no {ps : List (Int × Int)} {vol : Int} {zs : List Int} (h : flowB ps vol zs = false) : flowVol ps vol zs = vol ∧ flowZ ps vol zs = zs := by unfold flowVol flowZ; rw [h]; simp
theorem flow_yes {ps : List (Int × Int)} {vol : Int} {zs : List Int} (h : flowB ps vol zs = true) : flowVol ps vol zs = vol + zs.getD 0 0 ∧ flowZ ps vol zs = zs.drop 1 ++ [0] := by unfold flowVol flowZ; rw [h]; simp
theorem flowZ_len (ps : List (Int × Int)) (vol : Int) (zs : List Int) : (flowZ ps vol zs).length = zs.length := by
  unfold flowZ; split
  · rename_i h; simp [flowB] at h; simp; omega
  · rfl
theorem flow_cases (ps : List (Int × Int)) (vol : Int) (zs : List Int) :
    (flowB ps vol zs = false ∧ zs.length = 0) ∨ (flowB ps vol zs = false ∧ 0 < zs.length ∧ reachOk ps vol zs = false) ∨ (flowB ps vol zs = true ∧ 0 < zs.length ∧ reachOk ps vol zs = true) := by
  unfold flowB
  by_cases h0 : zs.length = 0
  · exact .inl ⟨by simp [h0], h0⟩
  · rcases bcases (reachOk ps vol zs) with h | h
    · exact .inr (.inr ⟨by rw [h]; simp; omega, by omega, h⟩)
    · exact .inr (.inl ⟨by rw [h]; rfl, by omega, h⟩)

theorem RO.drew {W : World} {lo hi : Nat} {ps : List (Int × Int)} {zs : List Int} {tA : Option Addr} {tc : Nat} {pA : Option Addr} {pc : Nat} (h : RO W lo hi ps zs tA tc pA pc) : RO W.drew lo hi ps zs tA tc pA pc := ⟨h.1, h.2.1, h.2.2⟩
/-- The pipe's block, whole. -/
theorem RO.whole {W : World} {lo hi : Nat} {ps : List (Int × Int)} {zs : List Int} {tA : Option Addr} {tc g pc : Nat} (h : RO W lo hi ps zs tA tc (some ⟨g, 0, none⟩) pc) :
    ∃ cur : Array Value, Blk W g 3 cur ∧ zs.length ≤ pc ∧ pc ≤ maxLen ∧ cur.size = pc ∧ cur.toList.take zs.length = cellsI zs := by
  rcases h.2.1.1.2 with ⟨hv, _⟩ | ⟨g', cap, cur, hv, _, hh, h1, h2, h3, h4⟩
  · injection hv with hA; cases hA
  · simp only [Value.slice.injEq, Option.some.injEq, Addr.mk.injEq, and_true, true_and] at hv
    obtain ⟨rfl, rfl⟩ := hv
    exact ⟨cur, hh, h1, h2, by omega, by simpa using h4⟩
/-- The pipe's row, laid anew. -/
theorem RO.relaid {W w' : World} {lo hi : Nat} {ps : List (Int × Int)} {zs ys : List Int} {tA : Option Addr} {tc g pc : Nat} {cs : List Value} (h : RO W lo hi ps zs tA tc (some ⟨g, 0, none⟩) pc) (hg : W.grownBy w' (some g)) (hh : w'.heap[g]? = some (.cells cs.toArray 3 (0, 0))) (hl : ys.length = zs.length) (hc : cs.length = pc) (ht : cs.take ys.length = cellsI ys) :
    RO w' lo hi ps ys tA tc (some ⟨g, 0, none⟩) pc := by
  have hlo : lo ≤ g := (row_in h.2.1 _ rfl).1
  obtain ⟨cur, _, h1, h2, _, _⟩ := h.whole
  refine ⟨h.2.1.other h.1 (by decide) (by simpa using hg), ⟨⟨by rw [cellsI_len, Nat.mul_one], .inr ⟨g, pc, cs.toArray, rfl, hlo, hh, by omega, h2, by simpa using hc, by simpa using ht⟩⟩, h.2.1.2⟩, Nat.le_trans h.2.2 hg.size⟩
theorem shift_take {zs : List Int} {cur : List Value} (h0 : 0 < zs.length) (ht : cur.take zs.length = cellsI zs) (hl : zs.length ≤ cur.length) :
    ((cellsI zs).drop 1 ++ cur.drop ((cellsI zs).drop 1).length).take (zs.drop 1 ++ [zs.getD (zs.length - 1) 0]).length = cellsI (zs.drop 1 ++ [zs.getD (zs.length - 1) 0]) := by
  have hd : ((cellsI zs).drop 1).length = zs.length - 1 := by rw [List.length_drop, cellsI_len]
  have hlen : (zs.drop 1 ++ [zs.getD (zs.length - 1) 0]).length = (zs.length - 1) + 1 := by simp
  rw [hlen, hd, List.take_append, hd, cellsI_append, show cellsI (zs.drop 1) = (cellsI zs).drop 1 by simp [cellsI]]
  rw [List.take_of_length_le (by omega)]
  congr 1
  rw [show zs.length - 1 + 1 - (zs.length - 1) = 1 by omega]
  have hcell : cur[zs.length - 1]? = some (.int .i64 (zs.getD (zs.length - 1) 0)) := by
    rw [← cellsI_at zs (zs.length - 1) (by omega), ← ht, List.getElem?_take]
    simp; omega
  have hlt : zs.length - 1 < cur.length := by omega
  rw [List.drop_eq_getElem_cons hlt]
  rw [List.getElem?_eq_getElem hlt] at hcell
  injection hcell with hcell
  rw [hcell]
  simp [cellsI]
theorem shift_set {zs : List Int} (x : Int) : (zs.drop 1 ++ [x]).set (zs.length - 1) 0 = zs.drop 1 ++ [0] := by
  rw [List.set_append_right _ _ (by simp)]
  simp

theorem tail_cells {W : World} {g : Nat} {zs : List Int} {cur : Array Value} (h : Blk W g 3 cur) (ht : cur.toList.take zs.length = cellsI zs) : ∀ j v, ((cellsI zs).drop 1)[j]? = some v → W.cell? ((⟨g, 1, none⟩ : Addr).add j) = some v := by
  intro j v hv
  rw [add_at, h.cell]
  rw [List.getElem?_drop] at hv
  rw [← hv, ← ht, List.getElem?_take]
  have : 1 + j < zs.length := by
    have := (List.getElem?_eq_some_iff.1 hv).1; rw [cellsI_len] at this; exact this
  rw [if_pos this]; simp
theorem info_int_size : (Try.prog.info? 3).map (·.size) = some 1 := by kernel_rfl
set_option maxHeartbeats 4000000 in
theorem i_FlowIn (tA : Option Addr) (tc : Nat) (ps : List (Int × Int)) (vol : Int) (pA : Option Addr) (pc : Nat) (zs : List Int) (H : Nat) (w : World) (hP : PtsAt w H tA ps) (hQ : NumsAt w H pA zs) (hH : H ≤ w.heap.size) (hn : ps.length ≤ 1048576) (hm : zs.length ≤ 1048576) :
    Calls Try.prog 12 #[.agg #[.slice tA ps.length tc, .int .i64 vol, .slice pA zs.length pc]] w (ReachOut w ps (flowVol ps vol zs) (flowZ ps vol zs)) := by
  have HR := Lib.hid (fun (W : World) (hb : Below w.heap.size w W) => i_ReachOk tA tc ps vol pA pc zs H W (hP.below (hb.mono hH)) (hQ.below (hb.mono hH)) (Nat.le_trans hH hb.size) hn hm)
  have HC := Lib.hid (fun (W : World) (hb : Below w.heap.size w W) => i_copy tA tc ps vol pA pc zs H W (hP.below (hb.mono hH)) (hQ.below (hb.mono hH)) (Nat.le_trans hH hb.size) hn hm)
  clear hP hQ
  obtain ⟨hA0, hB0, hW0, hz0⟩ := start2 w 29 #[.slice tA ps.length tc, .int .i64 vol, .slice pA zs.length pc] #[.slice none 0 0, .int .i64 0, .slice none 0 0]
  have HZ := Lib.hid hz0
  have cA0 := hA0.cell
  clear hz0
  have HN := Lib.hid (fun h => flow_no (ps := ps) (vol := vol) (zs := zs) h)
  have HV := Lib.hid (fun h => flow_yes (ps := ps) (vol := vol) (zs := zs) h)
  have HCS := Lib.hid (flow_cases ps vol zs)
  generalize flowVol ps vol zs = vo at *
  generalize flowZ ps vol zs = zo at *
  go_enter Try.func12, Try.ntmps12
  go_wp2_with fail
  refine (HC.out _ hW0).mono ?_; rintro e w1 ⟨A1, c1, A3, c3, rfl, hR1, hS1, hb1⟩
  obtain ⟨hA, hB, hO, hW, O, hs1⟩ := copy_e (cs := #[.slice A1 ps.length c1, .int .i64 vol, .slice A3 zs.length c3]) hA0 hB0 hW0 HZ.out hR1 hS1 hb1
  clear cA0 hA0 hB0 hW0 hR1 hS1 hb1
  rcases HCS.out with ⟨hsb, h0⟩ | ⟨hsb, h0, h⟩ | ⟨hsb, h0, h⟩
  · obtain ⟨rfl, rfl⟩ := HN.out hsb
    have h1 : ((zo.length : Int) == 0) = true := by rw [beq_iff_eq]; omega
    have h2 : (zo.length : Int) ≤ 0 := by omega
    clear HR hsb h0
    have cA := hA.cell
    have cB := hB.cell
    have fB := hB.frozen
    have cO := hO.cell
    go_wp2
    refine bodyPost_ret (v := .agg #[.slice A1 ps.length c1, .int .i64 vo, .slice A3 zo.length c3]) ?_ rfl ⟨A1, c1, A3, c3, rfl, send_end rfl O hW⟩
    have c4 := three_cells hB
    simp [results, Try.results12, go_sem, c4]
  · obtain ⟨rfl, rfl⟩ := HN.out hsb
    have h1 : ((zo.length : Int) == 0) = false := by simp only [beq_eq_false_iff_ne, ne_eq]; omega
    have h2 : (0 : Int) < (zo.length : Int) := by omega
    clear hsb
    have cA := hA.cell
    go_wp2_with fail
    refine (HR.out _ hW).mono ?_; rintro e w3 ⟨rfl, hb3⟩
    replace hB := hB.bel hb3
    replace hO := hO.bel hb3
    replace hW := bel_step hW hb3
    replace O := O.bel hb3
    have cB := hB.cell
    have fB := hB.frozen
    have cO := hO.cell
    clear cA hb3
    go_wp2
    refine bodyPost_ret (v := .agg #[.slice A1 ps.length c1, .int .i64 vo, .slice A3 zo.length c3]) ?_ rfl ⟨A1, c1, A3, c3, rfl, send_end rfl O hW⟩
    have c4 := three_cells hB
    simp [results, Try.results12, go_sem, c4]
  · obtain ⟨rfl, e2⟩ := HV.out hsb
    have HZO := Lib.hid e2
    have HLn := Lib.hid (show zo.length = zs.length by rw [e2]; simp; omega)
    clear e2
    have h1 : ((zs.length : Int) == 0) = false := by simp only [beq_eq_false_iff_ne, ne_eq]; omega
    have h2 : (0 : Int) < (zs.length : Int) := by omega
    clear hsb
    have cA := hA.cell
    go_wp2_with fail
    refine (HR.out _ hW).mono ?_; rintro e w3 ⟨rfl, hb3⟩
    replace hB := hB.bel hb3
    replace hO := hO.bel hb3
    replace hW := bel_step hW hb3
    replace O := O.bel hb3
    clear cA hb3
    obtain ⟨_, v1, v3, _, _⟩ := reach_true h
    have zb := pipeIn_of h 0 (by omega)
    obtain ⟨g, rfl, g1, g2, gc, gf⟩ := O.at_ h0
    have cz := gc 0 h0
    have cO := hO.cell
    have fO := hO.frozen
    -- out.Volume += out.Pipe[0]
    have hO5 := hO.set_ 1 (.int .i64 (vol + zs.getD 0 0))
    have hB5 := hB.far (p := ⟨w1.heap.size, 1, none⟩) (by show _ ≠ w1.heap.size; omega) (.int .i64 (vol + zs.getD 0 0))
    have O5 := O.far (p := ⟨w1.heap.size, 1, none⟩) (Nat.le_refl _) (.int .i64 (vol + zs.getD 0 0))
    have hW5 := hW.setCell (p := ⟨w1.heap.size, 1, none⟩) (by show _ ≤ w1.heap.size; omega) (.int .i64 (vol + zs.getD 0 0))
    clear gc gf HR HC HZ HN HV HCS hA hW
    generalize zs.getD 0 0 = z at *
    go_wp2_with fail
    go_region
    replace hO5 : Blk _ w1.heap.size 29 #[.slice A1 ps.length c1, .int .i64 (vol + z), .slice (some ⟨g, 0, none⟩) zs.length c3] := hO5.drew
    replace hB5 := hB5.drew
    replace O5 := O5.drew
    replace hW5 := hW5.drew
    clear cO fO cz hO hB O
    go_wp2_with fail
    generalize (w3.setCell ⟨w1.heap.size, 1, none⟩ (.int .i64 (vol + z))).drew = W5 at *
    obtain ⟨cur, hcur, k1, k2, k3, k4⟩ := O5.whole
    have hTC := Lib.hid (tail_cells hcur.drew k4)
    have hcl := Lib.hid (show ((cellsI zs).drop 1).length = zs.length - 1 by rw [List.length_drop, cellsI_len])
    have hone := Lib.hid (show ∀ v ∈ (cellsI zs).drop 1, v.oneCell' = true from fun v hv => cellsI_one zs v (List.mem_of_mem_drop hv))
    have HX := Lib.hid (fun (w' : World) (hg : W5.drew.grownBy w' (some g)) (hh : w'.heap[g]? = some (.cells ((cellsI zs).drop 1 ++ cur.toList.drop ((cellsI zs).drop 1).length).toArray 3 (0, 0))) =>
      RO.relaid (ys := zs.drop 1 ++ [zs.getD (zs.length - 1) 0]) (W := W5.drew) O5.drew hg hh (by simp; omega) (by rw [List.length_append, List.length_drop, List.length_drop, cellsI_len]; simp; omega) (shift_take h0 k4 (by simp; omega)))
    have hgc := Lib.hid hcur.drew
    have cO5 := hO5.cell
    unfold maxLen at k2
    clear hcur k4 O5
    by_cases hc1 : c3 = 1
    · subst hc1
      have j3 : (1 : Int) ≤ (zs.length : Int) := by omega
      have j4 : (zs.length : Int) ≤ 1 := by omega
      go_region_law (refine step_copy_row rfl (.tmp 25) (.tmp 28) 23 23 rfl 3 Try.underlying23 info_int_size g zs.length 1 (some ⟨g, 0, none⟩) (zs.length - 1) 0 (by simp [Act.eval, Act.put]) (by simp [Act.eval, Act.put] <;> omega) cur 3 hgc.out ((cellsI zs).drop 1) (by rw [hcl.out]; simp) (fun hp => by rw [hcl.out] at hp; omega) (by rw [hcl.out]; omega) hone.out ?_; intro w6 hg6 hh6)
      all_goals
        have O6 := HX.out w6 hg6 hh6.out
        have hB6 := hB5.drew.grown hg6 (by simp; omega)
        have hO6 := hO5.drew.grown hg6 (by simp; omega)
        have hW6 := hW5.drew.grown hg6 hW5.drew.size (fun k hk => by injection hk with hk; omega)
        obtain ⟨_, e, _, _, gc, gf⟩ := O6.at_ (by simp)
        injection e with e; injection e with e; subst e
        have hj := Lib.hid (show zs.length - 1 = 0 by omega)
        have cz := gc 0 (by simp)
        have fz := gf 0
        have O7 := O6.store (zs.length - 1) 0
        rw [shift_set, ← HZO.out, hj.out] at O7
        have hB7 := hB6.far (p := ⟨g, 0, none⟩) (by show _ ≠ g; omega) (.int .i64 0)
        have hW7 := hW6.setCell (p := ⟨g, 0, none⟩) (by show _ ≤ g; omega) (.int .i64 0)
        have cO := hO6.cell
        have cB := hB6.cell
        have fB := hB6.frozen
        have HR7 := Lib.hid (show OutR w _ ps zo A1 c1 (some ⟨g, 0, none⟩) 1 from send_end (a := .slice A1 ps.length c1) (b := .int .i64 (vol + z)) (c := .slice (some ⟨g, 0, none⟩) zs.length 1) rfl O7 hW7)
        have g0 : (1 : Int) ≤ (zs.length : Int) := by omega
        have g3 : (0 : Int) ≤ (zs.length : Int) - 1 := by omega
        have g4 : (zs.length : Int) - 1 < (zs.length : Int) := by omega
        clear gc gf O6 hB5 hO5 hW5 hg6 hh6 HX hTC hgc hone cO5 hcl O7 hW6
        go_wp2
        refine bodyPost_ret (v := .agg #[.slice A1 ps.length c1, .int .i64 (vol + z), .slice (some ⟨g, 0, none⟩) zs.length 1]) ?_ rfl ⟨A1, c1, some ⟨g, 0, none⟩, 1, by rw [HLn.out], HR7.out⟩
        have c4 := three_cells hB7
        simp [results, Try.results12, go_sem, c4]
    · have j1 : 1 < c3 := by omega
      have j2 : (c3 : Int) ≤ 9223372036854775807 := by omega
      have j3 : (1 : Int) ≤ (zs.length : Int) := by omega
      have j4 : (zs.length : Int) ≤ (c3 : Int) := by omega
      go_region_law (refine step_copy_row rfl (.tmp 25) (.tmp 28) 23 23 rfl 3 Try.underlying23 info_int_size g zs.length c3 (some ⟨g, 1, none⟩) (zs.length - 1) (c3 - 1) (by simp [Act.eval, Act.put]) (by simp [Act.eval, Act.put]) cur 3 hgc.out ((cellsI zs).drop 1) (by rw [hcl.out]; simp) (fun _ => ⟨_, rfl, hTC.out⟩) (by rw [hcl.out]; omega) hone.out ?_; intro w6 hg6 hh6)
      all_goals
        have O6 := HX.out w6 hg6 hh6.out
        have hB6 := hB5.drew.grown hg6 (by simp; omega)
        have hO6 := hO5.drew.grown hg6 (by simp; omega)
        have hW6 := hW5.drew.grown hg6 hW5.drew.size (fun k hk => by injection hk with hk; omega)
        obtain ⟨_, e, _, _, gc, gf⟩ := O6.at_ (by simp)
        injection e with e; injection e with e; subst e
        have cz := gc (zs.length - 1) (by simp)
        have fz := gf (zs.length - 1)
        have O7 := O6.store (zs.length - 1) 0
        rw [shift_set, ← HZO.out] at O7
        have hB7 := hB6.far (p := ⟨g, zs.length - 1, none⟩) (by show _ ≠ g; omega) (.int .i64 0)
        have hW7 := hW6.setCell (p := ⟨g, zs.length - 1, none⟩) (by show _ ≤ g; omega) (.int .i64 0)
        have cO := hO6.cell
        have cB := hB6.cell
        have fB := hB6.frozen
        have HR7 := Lib.hid (show OutR w _ ps zo A1 c1 (some ⟨g, 0, none⟩) c3 from send_end (a := .slice A1 ps.length c1) (b := .int .i64 (vol + z)) (c := .slice (some ⟨g, 0, none⟩) zs.length c3) rfl O7 hW7)
        have g0 : (1 : Int) ≤ (zs.length : Int) := by omega
        have g3 : (0 : Int) ≤ (zs.length : Int) - 1 := by omega
        have g4 : (zs.length : Int) - 1 < (zs.length : Int) := by omega
        clear gc gf O6 hB5 hO5 hW5 hg6 hh6 HX hTC hgc hone cO5 hcl O7 hW6
        go_wp2
        refine bodyPost_ret (v := .agg #[.slice A1 ps.length c1, .int .i64 (vol + z), .slice (some ⟨g, 0, none⟩) zs.length c3]) ?_ rfl ⟨A1, c1, some ⟨g, 0, none⟩, c3, by rw [HLn.out], HR7.out⟩
        have c4 := three_cells hB7
        simp [results, Try.results12, go_sem, c4]

/-- Two appends onto an empty slice, the second of one number. -/
theorem two_appends {W w6 w7 : World} {v1 : Value} {ys : List Value} {n : Nat} (hown6 : w6.ownsRow W.heap.size 3 1 v1 (0 + n) ([] ++ ys)) (hg6 : (W.alloc (.cells #[] 3)).grownBy w6 (some W.heap.size))
    (hg7 : (w6.alloc (.cells #[.int .i64 0] 3)).grownBy w7 v1.ownBlock) : Below W.heap.size W w7 := by
  have h1 : Below W.heap.size W w6 := ((Below.refl _ _).alloc (Nat.le_refl _) _).grown hg6 (by simp) (fun k hk => by injection hk with hk; omega)
  refine (h1.alloc h1.size _).grown hg7 (Nat.le_trans h1.size (by simp)) (fun k hk => (hown6.lt k hk).1)
/-- The pipe after both. -/
theorem flow_row {w7 : World} {B : Nat} {v : Value} {zs zo : List Int} (h0 : 0 < zs.length) (hz : zo = zs.drop 1 ++ [0]) (h : w7.ownsRow B 3 1 v (0 + (zs.length - 1) + 1) ([] ++ (cellsI zs).drop 1 ++ [.int .i64 0])) :
    ∃ A c, v = .slice A zs.length c ∧ Row w7 B w7.heap.size 3 1 A zs.length c (cellsI zo) := by
  rw [show 0 + (zs.length - 1) + 1 = zs.length by omega, List.nil_append, show (cellsI zs).drop 1 ++ [Value.int .i64 0] = cellsI zo by rw [hz, cellsI_append]; simp [cellsI]] at h
  obtain ⟨A, c, rfl⟩ := own_slice h
  exact ⟨A, c, rfl, Row.of_own h⟩
theorem one_new (w : World) (v : Value) : ∀ ad, some (⟨w.heap.size, 0, none⟩ : Addr) = some ad → ∀ j u, [v][j]? = some u → (w.alloc (.cells #[v] 3)).cell? (ad.add j) = some u := by
  intro ad h j u hu
  injection h with h; subst h
  have hj : j = 0 := by
    have := (List.getElem?_eq_some_iff.1 hu).1; simp at this; exact this
  subst hj
  rw [show ∀ p : Addr, p.add 0 = p from fun p => by simp [Addr.add], (Blk.new w 3 #[v]).cell 0]
  exact hu
theorem tail_read {W : World} {H : Nat} {pA : Option Addr} {zs : List Int} {b off : Nat} (h : NumsAt W H pA zs) (e : pA = some ⟨b, off, none⟩) : ∀ ad, some (⟨b, off + 1, none⟩ : Addr) = some ad → ∀ j u, ((cellsI zs).drop 1)[j]? = some u → W.cell? (ad.add j) = some u := by
  intro ad h1 j u hu
  injection h1 with h1; subst h1
  rw [List.getElem?_drop] at hu
  have := nums_cells h _ e (1 + j) u hu
  rw [add_at] at this ⊢
  rw [← this]; congr 2; omega

set_option maxHeartbeats 4000000 in
theorem s_FlowIn (tA : Option Addr) (tc : Nat) (ps : List (Int × Int)) (vol : Int) (pA : Option Addr) (pc : Nat) (zs : List Int) (H : Nat) (w : World) (hP : PtsAt w H tA ps) (hQ : NumsAt w H pA zs) (hH : H ≤ w.heap.size) (hn : ps.length ≤ 1048576) (hm : zs.length ≤ 1048576) (hpc : zs.length ≤ pc) (hpm : pc ≤ 9223372036854775807) :
    Calls Try.prog 10 #[.agg #[.slice tA ps.length tc, .int .i64 vol, .slice pA zs.length pc]] w (ReachOut w ps (flowVol ps vol zs) (flowZ ps vol zs)) := by
  have HR := Lib.hid (fun (W : World) (hb : Below w.heap.size w W) => s_ReachOk tA tc ps vol pA pc zs H W (hP.below (hb.mono hH)) (hQ.below (hb.mono hH)) (Nat.le_trans hH hb.size) hn hm)
  have HC := Lib.hid (fun (W : World) (hb : Below w.heap.size w W) => s_copy tA tc ps vol pA pc zs H W (hP.below (hb.mono hH)) (hQ.below (hb.mono hH)) (Nat.le_trans hH hb.size) hn hm)
  have HQ := Lib.hid (fun (W : World) (hb : Below w.heap.size w W) => hQ.below (hb.mono hH))
  clear hP hQ
  obtain ⟨hA0, hB0, hW0, hz0⟩ := start2 w 29 #[.slice tA ps.length tc, .int .i64 vol, .slice pA zs.length pc] #[.slice none 0 0, .int .i64 0, .slice none 0 0]
  have HZ := Lib.hid hz0
  have cA0 := hA0.cell
  clear hz0
  have HN := Lib.hid (fun h => flow_no (ps := ps) (vol := vol) (zs := zs) h)
  have HV := Lib.hid (fun h => flow_yes (ps := ps) (vol := vol) (zs := zs) h)
  have HCS := Lib.hid (flow_cases ps vol zs)
  obtain ⟨j0, hj, hy0, hy1, hy2⟩ := info_parts info_int
  generalize flowVol ps vol zs = vo at *
  generalize flowZ ps vol zs = zo at *
  go_enter Try.func10, Try.ntmps10
  go_wp2_with fail
  refine (HC.out _ hW0).mono ?_; rintro e w1 ⟨A1, c1, A3, c3, rfl, hR1, hS1, hb1⟩
  obtain ⟨hA, hB, hO, hW, O, hs1⟩ := copy_e (cs := #[.slice A1 ps.length c1, .int .i64 vol, .slice A3 zs.length c3]) hA0 hB0 hW0 HZ.out hR1 hS1 hb1
  clear cA0 hA0 hB0 hW0 hR1 hS1 hb1
  have cA := hA.cell
  go_wp2_with fail
  refine (HR.out _ hW).mono ?_; rintro e w3 ⟨rfl, hb3⟩
  replace hA := hA.bel hb3
  replace hB := hB.bel hb3
  replace hO := hO.bel hb3
  replace hW := bel_step hW hb3
  replace O := O.bel hb3
  clear cA hb3
  rcases HCS.out with ⟨hsb, h0⟩ | ⟨hsb, h0, h⟩ | ⟨hsb, h0, h⟩
  · obtain ⟨rfl, rfl⟩ := HN.out hsb
    have h1 : ((zo.length : Int) == 0) = true := by rw [beq_iff_eq]; omega
    have h2 : (zo.length : Int) ≤ 0 := by omega
    clear HR hsb h0
    have cA := hA.cell
    have cB := hB.cell
    have fB := hB.frozen
    have cO := hO.cell
    rcases bcases (reachOk ps vo zo) with h | h
    all_goals
      go_wp2
      refine bodyPost_ret (v := .agg #[.slice A1 ps.length c1, .int .i64 vo, .slice A3 zo.length c3]) ?_ rfl ⟨A1, c1, A3, c3, rfl, send_end rfl O hW⟩
      have c4 := three_cells hB
      simp [results, Try.results10, go_sem, c4]
  · obtain ⟨rfl, rfl⟩ := HN.out hsb
    clear hsb
    have cB := hB.cell
    have fB := hB.frozen
    have cO := hO.cell
    go_wp2
    refine bodyPost_ret (v := .agg #[.slice A1 ps.length c1, .int .i64 vo, .slice A3 zo.length c3]) ?_ rfl ⟨A1, c1, A3, c3, rfl, send_end rfl O hW⟩
    have c4 := three_cells hB
    simp [results, Try.results10, go_sem, c4]
  · obtain ⟨rfl, e2⟩ := HV.out hsb
    have HZO := Lib.hid e2
    have HLn := Lib.hid (show zo.length = zs.length by rw [e2]; simp; omega)
    have h1 : ((zs.length : Int) == 0) = false := by simp only [beq_eq_false_iff_ne, ne_eq]; omega
    have h2 : (0 : Int) < (zs.length : Int) := by omega
    clear hsb e2
    obtain ⟨_, v1, v3, _, _⟩ := reach_true h
    have zb := pipeIn_of h 0 (by omega)
    obtain ⟨b, off, rfl, hbH, gc⟩ := HQ.out _ hW h0
    have cz := gc 0 h0
    rw [Nat.add_zero] at cz
    have cA := hA.cell
    have cO := hO.cell
    have fO := hO.frozen
    have hO5 := hO.set_ 1 (.int .i64 (vol + zs.getD 0 0))
    have hB5 := hB.far (p := ⟨w1.heap.size, 1, none⟩) (by show _ ≠ w1.heap.size; omega) (.int .i64 (vol + zs.getD 0 0))
    have hA5 := hA.far (p := ⟨w1.heap.size, 1, none⟩) (by show _ ≠ w1.heap.size; omega) (.int .i64 (vol + zs.getD 0 0))
    have O5 := O.far (p := ⟨w1.heap.size, 1, none⟩) (Nat.le_refl _) (.int .i64 (vol + zs.getD 0 0))
    have hW5 := hW.setCell (p := ⟨w1.heap.size, 1, none⟩) (by show _ ≤ w1.heap.size; omega) (.int .i64 (vol + zs.getD 0 0))
    clear gc HR HC HZ HN HV HCS hA hW
    generalize zs.getD 0 0 = z at *
    go_wp2_with fail
    go_region
    replace hO5 : Blk _ w1.heap.size 29 #[.slice A1 ps.length c1, .int .i64 (vol + z), .slice A3 zs.length c3] := hO5.drew
    replace hB5 := hB5.drew
    replace hA5 := hA5.drew
    replace O5 := O5.drew
    replace hW5 := hW5.drew
    clear cO fO cz cA hO hB O
    generalize (w3.setCell ⟨w1.heap.size, 1, none⟩ (.int .i64 (vol + z))).drew = W5 at *
    have hNW := Lib.hid (HQ.out _ (hW5.alloc hW5.size (.cells #[] 3)))
    have hcl := Lib.hid (show ((cellsI zs).drop 1).length = (zs.length - 1) * 1 by rw [List.length_drop, cellsI_len, Nat.mul_one])
    have hone := Lib.hid (show ∀ v ∈ (cellsI zs).drop 1, v.oneCell' = true from fun v hv => cellsI_one zs v (List.mem_of_mem_drop hv))
    have HM := Lib.hid (made_at W5 3 1 rfl (Nat.le_refl _))
    have cA5 := (hA5.alloc (.cells #[] 3)).cell
    have j3 : (1 : Int) ≤ (zs.length : Int) := by omega
    have j4 : (zs.length : Int) ≤ (pc : Int) := by omega
    have j5 : (pc : Int) ≤ 9223372036854775807 := by omega
    have hlt : w1.heap.size < W5.heap.size := hO5.lt
    by_cases hc1 : pc = 1
    · subst hc1
      have HT := Lib.hid (show ∀ ad, some (⟨b, off, none⟩ : Addr) = some ad → ∀ j u, ((cellsI zs).drop 1)[j]? = some u → (W5.alloc (.cells #[] 3)).cell? (ad.add j) = some u from fun ad _ j u hu => by
        have := (List.getElem?_eq_some_iff.1 hu).1; rw [hcl.out] at this; omega)
      go_wp2_with (first | (at_builtin; refine wpList_append_read rfl (.tmp 24) (.tmp 27) 23 rfl W5.heap.size 3 j0 _ 1 8 Try.underlying23 hj hy0 hy1 hy2 rfl (by omega) (.slice (some ⟨W5.heap.size, 0, none⟩) 0 0) 0 [] rfl HM.out (some ⟨b, off, none⟩) (zs.length - 1) 0 ((cellsI zs).drop 1) (by simp [Act.eval] <;> omega) (fun h => by cases h) hcl.out HT.out hone.out (by unfold maxLen; omega) (by omega) (by simp) ?_; intro v6 w6 hown6 hg6; have HG6 := Lib.hid hg6; have HO6 := Lib.hid hown6; clear hg6 hown6 cA5) | (at_builtin; refine wpList_append_read rfl (.tmp 28) (.tmp 29) 23 rfl W5.heap.size 3 j0 _ 1 8 Try.underlying23 hj hy0 hy1 hy2 rfl (by omega) v6 (0 + (zs.length - 1)) ([] ++ (cellsI zs).drop 1) rfl (HO6.out.alloc _) (some ⟨w6.heap.size, 0, none⟩) 1 1 [.int .i64 0] rfl (fun h => by cases h) rfl (one_new w6 (.int .i64 0)) (by simp [Value.oneCell']) (by unfold maxLen; omega) (by omega) (by have := HG6.out.size; simp at this ⊢; omega) ?_; intro v7 w7 hown7 hg7; have hb7 := two_appends HO6.out HG6.out hg7; obtain ⟨A7, c7, rfl, hR7⟩ := flow_row h0 HZO.out hown7; have hO7 := hO5.bel hb7; have hB7 := hB5.bel hb7; have hW7 := bel_step hW5 hb7; have hT7 := (O5.bel hb7).1; have cO7 := hO7.cell; have fO7 := hO7.frozen; have cB7 := hB7.cell; have fB7 := hB7.frozen; have hs7 := hb7.size; clear hg7 hown7 HG6 HO6))
      have hz8 : (w7.setCell ⟨w1.heap.size, 2, none⟩ (.slice A7 zs.length c7)).heap.size = w7.heap.size := by simp [World.setCell]
      have O8 : RO (w7.setCell ⟨w1.heap.size, 2, none⟩ (.slice A7 zs.length c7)) (w.heap.size + 1 + 1) w7.heap.size ps zo A1 c1 A7 c7 := by
        refine ⟨(hT7.same (fun k a b => Below.heap_setCell _ _ _ _ (by show k ≠ w1.heap.size; omega))).mono (Nat.le_refl _) (by omega), ?_, by omega⟩
        rw [HLn.out]
        exact (hR7.same (fun k a b => Below.heap_setCell _ _ _ _ (by show k ≠ w1.heap.size; omega))).mono (by omega) (Nat.le_refl _)
      have hB8 := hB7.far (p := ⟨w1.heap.size, 2, none⟩) (by show _ ≠ w1.heap.size; omega) (.slice A7 zs.length c7)
      have hW8 := hW7.setCell (p := ⟨w1.heap.size, 2, none⟩) (by show _ ≤ w1.heap.size; omega) (.slice A7 zs.length c7)
      refine bodyPost_ret (v := .agg #[.slice A1 ps.length c1, .int .i64 (vol + z), .slice A7 zs.length c7]) ?_ rfl ⟨A1, c1, A7, c7, by rw [HLn.out], send_end rfl O8 hW8⟩
      have c4 := three_cells hB8
      simp [results, Try.results10, go_sem, c4]
    · have j1 : 1 < pc := by omega
      have HT := Lib.hid (tail_read hNW.out rfl)
      go_wp2_with (first | (at_builtin; refine wpList_append_read rfl (.tmp 24) (.tmp 27) 23 rfl W5.heap.size 3 j0 _ 1 8 Try.underlying23 hj hy0 hy1 hy2 rfl (by omega) (.slice (some ⟨W5.heap.size, 0, none⟩) 0 0) 0 [] rfl HM.out (some ⟨b, off + 1, none⟩) (zs.length - 1) (pc - 1) ((cellsI zs).drop 1) rfl (fun h => by cases h) hcl.out HT.out hone.out (by unfold maxLen; omega) (by omega) (by simp) ?_; intro v6 w6 hown6 hg6; have HG6 := Lib.hid hg6; have HO6 := Lib.hid hown6; clear hg6 hown6 cA5) | (at_builtin; refine wpList_append_read rfl (.tmp 28) (.tmp 29) 23 rfl W5.heap.size 3 j0 _ 1 8 Try.underlying23 hj hy0 hy1 hy2 rfl (by omega) v6 (0 + (zs.length - 1)) ([] ++ (cellsI zs).drop 1) rfl (HO6.out.alloc _) (some ⟨w6.heap.size, 0, none⟩) 1 1 [.int .i64 0] rfl (fun h => by cases h) rfl (one_new w6 (.int .i64 0)) (by simp [Value.oneCell']) (by unfold maxLen; omega) (by omega) (by have := HG6.out.size; simp at this ⊢; omega) ?_; intro v7 w7 hown7 hg7; have hb7 := two_appends HO6.out HG6.out hg7; obtain ⟨A7, c7, rfl, hR7⟩ := flow_row h0 HZO.out hown7; have hO7 := hO5.bel hb7; have hB7 := hB5.bel hb7; have hW7 := bel_step hW5 hb7; have hT7 := (O5.bel hb7).1; have cO7 := hO7.cell; have fO7 := hO7.frozen; have cB7 := hB7.cell; have fB7 := hB7.frozen; have hs7 := hb7.size; clear hg7 hown7 HG6 HO6))
      have hz8 : (w7.setCell ⟨w1.heap.size, 2, none⟩ (.slice A7 zs.length c7)).heap.size = w7.heap.size := by simp [World.setCell]
      have O8 : RO (w7.setCell ⟨w1.heap.size, 2, none⟩ (.slice A7 zs.length c7)) (w.heap.size + 1 + 1) w7.heap.size ps zo A1 c1 A7 c7 := by
        refine ⟨(hT7.same (fun k a b => Below.heap_setCell _ _ _ _ (by show k ≠ w1.heap.size; omega))).mono (Nat.le_refl _) (by omega), ?_, by omega⟩
        rw [HLn.out]
        exact (hR7.same (fun k a b => Below.heap_setCell _ _ _ _ (by show k ≠ w1.heap.size; omega))).mono (by omega) (Nat.le_refl _)
      have hB8 := hB7.far (p := ⟨w1.heap.size, 2, none⟩) (by show _ ≠ w1.heap.size; omega) (.slice A7 zs.length c7)
      have hW8 := hW7.setCell (p := ⟨w1.heap.size, 2, none⟩) (by show _ ≤ w1.heap.size; omega) (.slice A7 zs.length c7)
      refine bodyPost_ret (v := .agg #[.slice A1 ps.length c1, .int .i64 (vol + z), .slice A7 zs.length c7]) ?_ rfl ⟨A1, c1, A7, c7, by rw [HLn.out], send_end rfl O8 hW8⟩
      have c4 := three_cells hB8
      simp [results, Try.results10, go_sem, c4]
end Go.Proofs.Ytgbncfjabnaokab
