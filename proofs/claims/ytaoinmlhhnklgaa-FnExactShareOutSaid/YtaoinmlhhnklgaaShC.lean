/- The contract of the reference's ShareOut. -/
import Derived.Test.YtaoinmlhhnklgaaShI
import Derived.Maps.AppendAt
namespace Go.Proofs.Ytaoinmlhhnklgaa
open Go.RowKit Go.Sort

theorem nums_made {w W : World} {g : Nat} (hO : W.ownsRow w.heap.size 3 1 (.slice (some ⟨g, 0, none⟩) 0 0) 0 []) (h : Below w.heap.size w W) : NumsOut w [] (.returned (.slice (some ⟨g, 0, none⟩) 0 0)) W :=
  ⟨_, 0, rfl, Row.of_own hO, h⟩
theorem own_same {W W' : World} {lo n : Nat} {v : Value} {xs : List Value} (h : W.ownsRow lo 3 1 v n xs) (hs : ∀ k, k < W.heap.size → W'.heap[k]? = W.heap[k]?) : W'.ownsRow lo 3 1 v n xs := by
  rcases h with ⟨h1, h2 | ⟨k, cap, cur, hv', hk, hh, r⟩⟩
  · exact ⟨h1, .inl h2⟩
  · have hlt : k < W.heap.size := by
      rcases Nat.lt_or_ge k W.heap.size with h3 | h3
      · exact h3
      · rw [Array.getElem?_eq_none h3] at hh; cases hh
    exact ⟨h1, .inr ⟨k, cap, cur, hv', hk, (hs k hlt).trans hh, r⟩⟩
theorem own_shI {w : World} {base n : Nat} {v : Value} {xs : List Value} (h : w.ownsRow base 3 1 v n xs) : ∃ A c, v = .slice A n c := by
  rcases h.2 with ⟨rfl, rfl⟩ | ⟨g, cap, cur, rfl, _⟩
  · exact ⟨_, _, rfl⟩
  · exact ⟨_, _, rfl⟩
theorem own_drewN {W : World} {lo n : Nat} {v : Value} {xs : List Value} (h : W.ownsRow lo 3 1 v n xs) (d : Nat) : (W.drewN d).ownsRow lo 3 1 v n xs := own_same h (fun _ _ => rfl)
/-- An append onto one of two rows: the other one stays. -/
theorem app_two {w W w' : World} {lo g1 g2 j k c1 c2 : Nat} {xs ys zs : List Value} {v' : Value} {o : Obj} (h1 : W.ownsRow lo 3 1 (.slice (some ⟨g1, 0, none⟩) j c1) j xs) (h2 : W.ownsRow lo 3 1 (.slice (some ⟨g2, 0, none⟩) k c2) k ys) (hne : g1 ≠ g2) (hlo : lo ≤ W.heap.size) (hW : Below lo w W)
    (hown : w'.ownsRow lo 3 1 v' (j + 1) zs) (hg : (W.alloc o).grownBy w' (some g1)) (hb : v'.ownBlock = some g1 ∨ v'.ownBlock = some (W.alloc o).heap.size) :
    ∃ g c, v' = .slice (some ⟨g, 0, none⟩) (j + 1) c ∧ g ≠ g2 ∧ w'.ownsRow lo 3 1 (.slice (some ⟨g2, 0, none⟩) k c2) k ys ∧ Below lo w w' ∧ lo ≤ w'.heap.size := by
  obtain ⟨A, c, rfl⟩ := own_shI hown
  obtain ⟨g, rfl⟩ := own_addr hown (by omega)
  have l2 := h2.lt g2 rfl
  have l1 := h1.lt g1 rfl
  have hsz := hg.size
  simp only [World.size_alloc] at hsz
  refine ⟨g, c, rfl, ?_, own_other (World.ownsRow.alloc h2 o) rfl hg (fun e => hne e.symm), (hW.alloc hlo o).grown hg (by simp; omega) (fun k hk => by injection hk with hk; omega), by omega⟩
  rcases hb with hb | hb
  · simp only [Value.ownBlock, Option.some.injEq] at hb; omega
  · simp only [Value.ownBlock, Option.some.injEq, World.size_alloc] at hb; omega
theorem range_snoc (f : Nat → Int) (j : Nat) : cellsI ((List.range j).map f) ++ [.int .i64 (f j)] = cellsI ((List.range (j + 1)).map f) := by
  rw [List.range_succ, List.map_append, cellsI_append]; rfl
theorem cells_range (f : Nat → Int) {j i : Nat} (h : i < j) : (cellsI ((List.range j).map f))[i]? = some (.int .i64 (f i)) := by simp [cellsI, h]
theorem cells_set (l : List Int) (i : Nat) (v : Int) : (cellsI l).set i (.int .i64 v) = cellsI (l.set i v) := by simp [cellsI]

set_option maxRecDepth 100000 in
set_option maxHeartbeats 8000000 in
theorem s_ShareOut (A : Option Addr) (c : Nat) (ws : List Int) (total : Int) (w : World) (hP : NumsAt w w.heap.size A ws) (hn : ws.length ≤ 1048576) :
    Calls Try.prog 8 #[.int .i64 total, .slice A ws.length c] w (NumsOut w (shareV total ws)) := by
  have HNo := Lib.hid (sh_no (total := total) (ws := ws))
  obtain ⟨n, hnn⟩ : ∃ n, n = ws.length := ⟨_, rfl⟩
  have HL := Lib.hid hnn
  rw [← hnn] at hn HNo ⊢
  have HP := Lib.hid (fun (h : 0 < n) => hP (by omega))
  clear hP hnn
  have hO1 : (w.alloc (.cells #[] 3)).ownsRow w.heap.size 3 1 (.slice (some ⟨w.heap.size, 0, none⟩) 0 0) 0 [] := World.ownsRow_made (e := 3) (size := 1) (base := w.heap.size) w #[] 0 (Nat.le_refl _) (Nat.zero_le _) (by simp)
  have hO2 : ((w.alloc (.cells #[] 3)).alloc (.cells #[] 3)).ownsRow w.heap.size 3 1 (.slice (some ⟨w.heap.size + 1, 0, none⟩) 0 0) 0 [] := by
    have := World.ownsRow_made (e := 3) (size := 1) (base := w.heap.size) (w.alloc (.cells #[] 3)) #[] 0 (by simp) (Nat.zero_le _) (by simp)
    simp only [World.size_alloc] at this; exact this
  replace hO1 := World.ownsRow.alloc hO1 (.cells #[] 3)
  have hW0 : Below w.heap.size w ((w.alloc (.cells #[] 3)).alloc (.cells #[] 3)) := ((Below.refl _ _).alloc (Nat.le_refl _) _).alloc (by simp) _
  go_enter Try.func8, Try.ntmps8
  go_wp2_with fail
  go_loopw [7, 8] (fun v7 v8 wr => ∃ (k : Nat) (L : Int), k ≤ n ∧ v7 = .int .i64 L ∧ v8 = .int .i64 k ∧ ShTo ws k L ∧ (k = 0 ∨ n ≤ 12) ∧ wr.ownsRow w.heap.size 3 1 (.slice (some ⟨w.heap.size, 0, none⟩) 0 0) 0 [] ∧ wr.ownsRow w.heap.size 3 1 (.slice (some ⟨w.heap.size + 1, 0, none⟩) 0 0) 0 [] ∧ Below w.heap.size w wr) (fun _ v8 _ => n - (intOf v8).toNat)
  case atStart => exact ⟨0, 0, by omega, rfl, rfl, ⟨by simp [sumI], fun j hj => by omega⟩, .inl rfl, hO1, hO2, hW0⟩
  case round =>
    obtain ⟨k, L, hk, rfl, rfl, hS, hk12, hO1, hO2, hW⟩ := hrel
    clear hW0
    obtain ⟨l0, l1⟩ := shTo_bd hS (by rw [← HL.out]; exact hk)
    by_cases hlt : k < n
    · obtain ⟨b, off, rfl, hb, hc⟩ := HP.out (by omega)
      have cw := (hW.cell (p := ⟨b, off + k, none⟩) hb).trans (hc k (by rw [← HL.out]; exact hlt))
      have e3 : (k : Int) < (n : Int) := by omega
      clear hc
      rcases bcases (inR (ws.getD k 0) 0 1000000) with g | g
      · by_cases h12 : n ≤ 12
        · have HS := Lib.hid (shTo_step hS (by rw [← HL.out]; exact hlt) g)
          have h12' : (n : Int) ≤ 12 := by omega
          obtain ⟨z0, z1⟩ := inR_true g
          clear hS HNo
          generalize ws.getD k 0 = z at *
          go_wp2_with (go_at_call 16; refine (s_l01In _ _ _ _).mono ?_; rintro e w' ⟨rfl, rfl⟩)
          go_roundw
          case rel => exact ⟨k + 1, L + z, by omega, rfl, by go_num, HS.out, .inr h12, hO1, hO2, hW⟩
          case measure => simp [intOf]; omega
        · have h12' : 12 < (n : Int) := by omega
          have HV := Lib.hid (HNo.out (.inr (.inr (.inl (by omega)))))
          clear hS HNo
          generalize ws.getD k 0 = z at *
          go_wp2_with (go_at_call 16; refine (s_l01In _ _ _ _).mono ?_; rintro e w' ⟨rfl, rfl⟩)
          go_ret
          show NumsOut w (shareV total ws) _ _
          rw [HV.out]
          exact nums_made hO1 hW
      · have HV := Lib.hid (HNo.out (.inr (.inr (.inr (.inl ⟨k, hlt, g⟩)))))
        clear hS HNo
        generalize ws.getD k 0 = z at *
        go_wp2_with (go_at_call 16; refine (s_l01In _ _ _ _).mono ?_; rintro e w' ⟨rfl, rfl⟩)
        go_ret
        show NumsOut w (shareV total ws) _ _
        rw [HV.out]
        exact nums_made hO1 hW
    · obtain rfl : k = n := by omega
      have hE := shTo_end (ws := ws) (by rw [← HL.out]; exact hS)
      by_cases hL0 : L = 0
      · subst hL0
        have HV := Lib.hid (HNo.out (.inr (.inr (.inr (.inr hE.symm)))))
        clear hS hE HNo
        go_wp2
        go_ret
        show NumsOut w (shareV total ws) _ _
        rw [HV.out]
        exact nums_made hO1 hW
      · have hL0' : (L == 0) = false := by simp; exact hL0
        rcases (bcases (inR total 0 1000000000)).symm with h0 | h0
        · have HV := Lib.hid (HNo.out (.inl h0))
          clear hS hE HNo
          go_wp2_with (go_at_call 16; refine (s_l01In _ _ _ _).mono ?_; rintro e w' ⟨rfl, rfl⟩)
          go_ret
          show NumsOut w (shareV total ws) _ _
          rw [HV.out]
          exact nums_made hO1 hW
        · have hk1 : 1 ≤ k := by
            rcases Nat.eq_zero_or_pos k with h | h
            · subst h; exact absurd (by omega) hL0
            · exact h
          have hk12' : k ≤ 12 := by omega
          obtain ⟨t0, t1⟩ := inR_true h0
          have hb1 : shB total ws = true := sh_mk h0 (by rw [← HL.out]; omega) (by rw [← HL.out]; omega) (fun j hj => hS.2 j (by rw [HL.out]; exact hj)) (by rw [← hE]; exact hL0)
          have HV := Lib.hid (sh_yes hb1)
          obtain ⟨lf0, lf1⟩ := left_bd hb1
          have HO := Lib.hid (ord_of (total := total) (ws := ws) (by rw [← HL.out]; omega)).2
          have HQ := Lib.hid (fun (j : Nat) (hj : j < k) => (show 0 ≤ total * ws.getD j 0 ∧ total * ws.getD j 0 ≤ 1000000000000000 ∧ 0 ≤ qF total ws j ∧ qF total ws j ≤ 1000000000000000 ∧ Int.tdiv (total * ws.getD j 0) L = qF total ws j ∧ Int.tmod (total * ws.getD j 0) L = rF total ws j ∧ 0 ≤ rF total ws j by
            obtain ⟨a0, a1, a2, a3, a4, _, _⟩ := quo_facts hb1 (show j < ws.length by rw [← HL.out]; exact hj)
            exact ⟨a0, a1, a2, a3, by rw [hE]; unfold qF; exact Int.tdiv_eq_ediv_of_nonneg a0, by rw [hE]; unfold rF; exact Int.tmod_eq_emod_of_nonneg a0, a4⟩))
          have HLS := Lib.hid (fun (j : Nat) (v : Int) (h : LeftTo_ total ws j v) => leftTo_step h)
          have HLB := Lib.hid (fun (j : Nat) (v : Int) (h : LeftTo_ total ws j v) (hj : j ≤ k) => leftTo_bd hb1 h (by rw [← HL.out]; exact hj))
          have s1 : 0 < L := by omega
          have s2 : ¬ L = 0 := hL0
          have hlen : (k : Int) = (ws.length : Int) := by rw [HL.out]
          rw [← hlen] at lf1
          obtain ⟨b, off, rfl, hb, hc⟩ := HP.out (by omega)
          have HC := Lib.hid (fun (W : World) (hW : Below w.heap.size w W) (j : Nat) (hj : j < k) => (show W.cell? ⟨b, off + j, none⟩ = some (.int .i64 (ws.getD j 0)) from (hW.cell (p := ⟨b, off + j, none⟩) hb).trans (hc j (by rw [← HL.out]; exact hj))))
          obtain ⟨i0, hi, hz0', hz1, hz2⟩ := info_parts info_int
          have hlo := hW.size
          clear hS hE hb1 hL0 hlen hc HP HNo
          go_wp2_with (go_at_call 16; refine (s_l01In _ _ _ _).mono ?_; rintro e w' ⟨rfl, rfl⟩)
          go_loopw [5, 6, 9, 10] (fun v5 v6 v9 v10 wq => ∃ (j : Nat) (Lf : Int) (g1 g2 c1 c2 : Nat), j ≤ k ∧ v5 = .slice (some ⟨g1, 0, none⟩) j c1 ∧ v6 = .slice (some ⟨g2, 0, none⟩) j c2 ∧ v9 = .int .i64 Lf ∧ v10 = .int .i64 j ∧ g1 ≠ g2 ∧ LeftTo_ total ws j Lf ∧ wq.ownsRow w.heap.size 3 1 (.slice (some ⟨g1, 0, none⟩) j c1) j (cellsI ((List.range j).map (qF total ws))) ∧ wq.ownsRow w.heap.size 3 1 (.slice (some ⟨g2, 0, none⟩) j c2) j (cellsI ((List.range j).map (rF total ws))) ∧ Below w.heap.size w wq) (fun _ _ _ v10 _ => k - (intOf v10).toNat)
          case atStart => exact ⟨0, total, w.heap.size, w.heap.size + 1, 0, 0, by omega, rfl, rfl, rfl, rfl, by omega, by simp [LeftTo_, sumI], hO1, hO2, hW⟩
          case round =>
            obtain ⟨j, Lf, g1, g2, c1, c2, hj, rfl, rfl, rfl, rfl, hne, hLf, hO1, hO2, hW⟩ := hrel
            obtain ⟨lb0, lb1⟩ := HLB.out j Lf hLf hj
            have hlo := hW.size
            by_cases hjk : j < k
            · have e3 : (j : Int) < (k : Int) := by omega
              have cw := HC.out _ hW j hjk
              have HCW := Lib.hid (fun (W : World) (hW : Below w.heap.size w W) => HC.out W hW j hjk)
              obtain ⟨a0, a1, a2, a3, a4, a5, a6⟩ := HQ.out j hjk
              have HLN := Lib.hid (HLS.out j Lf hLf)
              have HR1 := Lib.hid (range_snoc (qF total ws) j)
              have HR2 := Lib.hid (range_snoc (rF total ws) j)
              have HCQ := Lib.hid (cells_range (qF total ws) (show j < j + 1 by omega))
              clear hLf HQ HLS HLB HC HO HV
              have ww : IntKind.i64.wrap (total * ws.getD j 0) = total * ws.getD j 0 := IntWalk.i64_in _ (by omega)
              generalize hgq : qF total ws j = q at *
              generalize hgr : rF total ws j = r at *
              generalize ws.getD j 0 = z at *
              have ww2 : IntKind.i64.wrap (Lf - q) = Lf - q := IntWalk.i64_in _ (by omega)
              go_wp2_with (at_builtin; first | (refine wpList_append_own_at _ rfl (.tmp 54) (.tmp 63) 24 rfl w.heap.size 3 i0 _ 1 8 Try.underlying24 hi hz0' hz1 hz2 rfl (by omega) (.slice (some ⟨g1, 0, none⟩) j c1) j (cellsI ((List.range j).map (qF total ws))) rfl (World.ownsRow.alloc hO1 _) _ 1 1 [.int .i64 q] rfl rfl (cell_one_new _ _ _) (by simp [Value.oneCell']) (by unfold maxLen; omega) (by omega) (by simp; omega) ?_; intro v7 w7 hown7 hg7 hnil7 hb7; obtain ⟨g1', c1', rfl, hne7, hO7, hW7, hlo7⟩ := app_two hO1 hO2 hne hlo hW hown7 hg7 hb7; have cw7 := HCW.out _ hW7) | (refine wpList_append_own_at _ rfl (.tmp 65) (.tmp 74) 24 rfl w.heap.size 3 i0 _ 1 8 Try.underlying24 hi hz0' hz1 hz2 rfl (by omega) (.slice (some ⟨g2, 0, none⟩) j c2) j (cellsI ((List.range j).map (rF total ws))) rfl (World.ownsRow.alloc hO7 _) _ 1 1 [.int .i64 r] rfl rfl (cell_one_new _ _ _) (by simp [Value.oneCell']) (by unfold maxLen; omega) (by omega) (by simp; omega) ?_; intro v8 w8 hown8 hg8 hnil8 hb8; obtain ⟨g2', c2', rfl, hne8, hO8, hW8, hlo8⟩ := app_two hO7 hown7 (fun e => hne7 e.symm) hlo7 hW7 hown8 hg8 hb8; have cq : w8.cell? ⟨g1', j, none⟩ = some (.int .i64 q) := (hO8.cellAt j (by omega)).trans (by rw [HR1.out]; exact HCQ.out)))
              rw [HR1.out] at hO8
              rw [HR2.out] at hown8
              clear hown7 hO7 hg7 hg8 hnil7 hnil8 hb7 hb8 hO1 hO2
              go_roundw
              case rel => exact ⟨j + 1, Lf - q, g1', g2', c1', c2', by omega, rfl, rfl, rfl, by go_num, fun e => hne8 e.symm, HLN.out, hO8, hown8, hW8⟩
              case measure => simp [intOf]; omega
            · obtain rfl : j = k := by omega
              have HLf := Lib.hid (show Lf = leftV total ws by unfold leftV; rw [← HL.out]; exact hLf)
              have lfb : 0 ≤ Lf ∧ Lf < (j : Int) := by rw [HLf.out]; exact ⟨lf0, lf1⟩
              have hOr := HO.out
              rw [← HL.out] at hOr
              have HOr := Lib.hid hOr
              have HR0 := Lib.hid (fun (t : Nat) (ht : t < j) (b : Nat) (hb : BestTo (restL j (rF total ws) (oF total ws) t) j b) => best_is hOr ht (fun i hi => (HQ.out i hi).2.2.2.2.2.2) hb)
              have HOL := Lib.hid (fun (t : Nat) (ht : t < j) => (show oF total ws t < j ∧ (outL j (qF total ws) (oF total ws) t).set (oF total ws t) ((outL j (qF total ws) (oF total ws) t).getD (oF total ws t) 0 + 1) = outL j (qF total ws) (oF total ws) (t + 1) ∧ 0 ≤ (outL j (qF total ws) (oF total ws) t).getD (oF total ws t) 0 ∧ (outL j (qF total ws) (oF total ws) t).getD (oF total ws t) 0 ≤ 1000000000000000 ∧ (restL j (rF total ws) (oF total ws) t).set (oF total ws t) (-1) = restL j (rF total ws) (oF total ws) (t + 1) by
                have h1 := HOr.out.lt t ht
                have h2 := HQ.out _ h1
                refine ⟨h1, outL_step HOr.out ht, ?_, ?_, restL_step HOr.out ht⟩
                · rw [outL_at h1, picked_self HOr.out ht]; exact h2.2.2.1
                · rw [outL_at h1, picked_self HOr.out ht]; exact h2.2.2.2.1))
              have HFIN := Lib.hid (show shareV total ws = outL j (qF total ws) (oF total ws) Lf.toNat by rw [HV.out, ← HLf.out, ← HL.out])
              rw [← outL_zero (o := oF total ws)] at hO1
              rw [← restL_zero (o := oF total ws)] at hO2
              clear hOr hLf HQ HLS HLB HC HO HV
              obtain ⟨lf2, lf3⟩ := lfb
              go_wp2_with fail
              go_loopw [9] (fun v9 wq => ∃ t : Nat, (t : Int) ≤ Lf ∧ v9 = .int .i64 (Lf - (t : Int)) ∧ wq.ownsRow w.heap.size 3 1 (.slice (some ⟨g1, 0, none⟩) j c1) j (cellsI (outL j (qF total ws) (oF total ws) t)) ∧ wq.ownsRow w.heap.size 3 1 (.slice (some ⟨g2, 0, none⟩) j c2) j (cellsI (restL j (rF total ws) (oF total ws) t)) ∧ Below w.heap.size w wq) (fun v9 _ => (intOf v9).toNat)
              case atStart => exact ⟨0, by omega, by simp, hO1, hO2, hW⟩
              case round =>
                obtain ⟨t, htl, rfl, hO1, hO2, hW⟩ := hrel
                by_cases hlt : (t : Int) < Lf
                · have ht : t < j := by omega
                  have hbest := HR0.out t ht
                  obtain ⟨o1, o2, o3, o4, o5⟩ := HOL.out t ht
                  have HCR := Lib.hid (fun (i : Nat) (hi : i < j) => (show wr.cell? ⟨g2, i, none⟩ = some (.int .i64 ((restL j (rF total ws) (oF total ws) t).getD i 0)) from (hO2.cellAt i (by omega)).trans (cellsI_at _ _ (by rw [restL_len]; exact hi))))
                  have HBE := Lib.hid hbest
                  have HO1 := Lib.hid hO1
                  have HO2 := Lib.hid hO2
                  have HW := Lib.hid hW
                  have HO2' := Lib.hid o2
                  have HO5' := Lib.hid o5
                  clear hbest o2 o5 hO1 hO2 hW
                  go_wp2_with fail
                  go_loopw [11, 12] (fun v11 v12 wi => ∃ (b i d : Nat), v11 = .int .i64 (b : Int) ∧ v12 = .int .i64 (i : Int) ∧ i ≤ j ∧ BestTo (restL j (rF total ws) (oF total ws) t) i b ∧ wi = wr.drewN d) (fun _ v12 _ => j - (intOf v12).toNat)
                  case atStart => exact ⟨0, 1, 0, rfl, rfl, by omega, best_start _, rfl⟩
                  case round =>
                    obtain ⟨b, i, d, rfl, rfl, hij, hB, rfl⟩ := hrel
                    have hbi := hB.1
                    by_cases hlt2 : i < j
                    · have ci := HCR.out i hlt2
                      have cb := HCR.out b (by omega)
                      have HB1 := Lib.hid (fun h => best_more hB h)
                      have HB2 := Lib.hid (fun h => best_less hB h)
                      have e0 : (0 : Int) ≤ (i : Int) := by omega
                      have e1 : (i : Int) < (j : Int) := by omega
                      have e2 : (0 : Int) ≤ (b : Int) := by omega
                      have e3 : (b : Int) < (j : Int) := by omega
                      clear hB
                      by_cases hgt : (restL j (rF total ws) (oF total ws) t).getD b 0 < (restL j (rF total ws) (oF total ws) t).getD i 0
                      · have HBN := Lib.hid (HB1.out hgt)
                        clear HB1 HB2
                        generalize (restL j (rF total ws) (oF total ws) t).getD b 0 = zb at *
                        generalize (restL j (rF total ws) (oF total ws) t).getD i 0 = zi at *
                        go_wp2_with fail
                        go_quiet (fail)
                        go_wp2
                        go_roundw
                        case rel => exact ⟨i, i + 1, _, rfl, by go_num, by omega, HBN.out, rfl⟩
                        case measure => simp [intOf]; omega
                      · have HBN := Lib.hid (HB2.out (by omega))
                        clear HB1 HB2
                        generalize (restL j (rF total ws) (oF total ws) t).getD b 0 = zb at *
                        generalize (restL j (rF total ws) (oF total ws) t).getD i 0 = zi at *
                        go_wp2_with fail
                        go_quiet (fail)
                        go_wp2
                        go_roundw
                        case rel => exact ⟨b, i + 1, _, rfl, by go_num, by omega, HBN.out, rfl⟩
                        case measure => simp [intOf]; omega
                    · obtain rfl : i = j := by omega
                      obtain rfl := HBE.out b hB
                      have hO1 := HO1.out
                      have hO2 := HO2.out
                      have hW := HW.out
                      have hl1 := hO1.lt g1 rfl
                      have hl2 := hO2.lt g2 rfl
                      have ca := HCR.out (oF total ws t) o1
                      have cz := (hO1.cellAt (oF total ws t) (by omega)).trans (cellsI_at _ _ (by rw [outL_len]; exact o1))
                      have fz := hO1.frozenAt (oF total ws t)
                      have fr := hO2.frozenAt (oF total ws t)
                      have s1 := hO1.stored (oF total ws t) (.int .i64 ((outL i (qF total ws) (oF total ws) t).getD (oF total ws t) 0 + 1))
                      have hO2x := own_other hO2 rfl s1.2 (fun e => hne e.symm)
                      have s2 := hO2x.stored (oF total ws t) (.int .i64 (-1))
                      have hO1x := own_other s1.1 rfl s2.2 hne
                      have hO2y := s2.1
                      have hWx := (hW.setCell (p := ⟨g1, oF total ws t, none⟩) hl1.1 (.int .i64 ((outL i (qF total ws) (oF total ws) t).getD (oF total ws t) 0 + 1))).setCell (p := ⟨g2, oF total ws t, none⟩) hl2.1 (.int .i64 (-1))
                      rw [cells_set, HO2'.out] at hO1x
                      rw [cells_set, HO5'.out] at hO2y
                      have e0 : (0 : Int) ≤ ((oF total ws t : Nat) : Int) := by omega
                      have e1 : ((oF total ws t : Nat) : Int) < (i : Int) := by omega
                      have HX1 := Lib.hid (own_drewN hO1x d)
                      have HX2 := Lib.hid (own_drewN hO2y d)
                      have HXW := Lib.hid (below_drewN hWx d)
                      clear s1 s2 hO1x hO2x hO2y hWx hO1 hO2 hW HBE HCR hB
                      generalize (outL i (qF total ws) (oF total ws) t).getD (oF total ws t) 0 = z at *
                      generalize (restL i (rF total ws) (oF total ws) t).getD (oF total ws t) 0 = zr at *
                      generalize oF total ws t = o at *
                      have ww : IntKind.i64.wrap (z + 1) = z + 1 := IntWalk.i64_in _ (by omega)
                      have wl : IntKind.i64.wrap (Lf - (t : Int) - 1) = Lf - (t : Int) - 1 := IntWalk.i64_in _ (by omega)
                      go_wp2
                      go_roundw
                      case rel => exact ⟨t + 1, by omega, by congr 1; omega, HX1.out, HX2.out, HXW.out⟩
                      case measure => simp [intOf]; omega
                · have hte : t = Lf.toNat := by omega
                  subst hte
                  have HR := Lib.hid (show NumsOut w (shareV total ws) (.returned (.slice (some ⟨g1, 0, none⟩) j c1)) wr by
                    rw [HFIN.out]
                    exact ⟨_, c1, by rw [outL_len], by rw [outL_len]; exact Row.of_own hO1, hW⟩)
                  clear hO1 hO2
                  go_wp2
                  go_ret
                  exact HR.out
end Go.Proofs.Ytaoinmlhhnklgaa
