/- Plain: shares add up; the walk of the law FnShares. -/
import Derived.Test.YtaoinmlhhnklgaaShI
import Derived.Test.YtaoinmlhhnklgaaAt
import Derived.Maps.AppendAt
namespace Go.Proofs.Ytaoinmlhhnklgaa
open Go.RowKit Go.Sort

theorem sumI_set_ {zs : List Int} {j : Nat} (v : Int) (h : j < zs.length) : sumI (zs.set j v) = sumI zs - zs.getD j 0 + v := by
  induction zs generalizing j with
  | nil => simp at h
  | cons z r ih =>
    cases j with
    | zero => simp [sumI]; omega
    | succ j => have := ih (j := j) (by simpa using h); simp [sumI] at *; omega
theorem outL_sum {n : Nat} {q r : Nat → Int} {o : Nat → Nat} (h : OrdO n r o) : ∀ t, t ≤ n → sumI (outL n q o t) = sumI ((List.range n).map q) + t
  | 0, _ => by rw [outL_zero]; simp
  | t + 1, ht => by
    rw [← outL_step h (by omega), sumI_set_ _ (by rw [outL_len]; exact h.lt t (by omega)), outL_sum h t (by omega)]
    omega
theorem range_tail {f : Nat → Int} {s : Nat} : ∀ n, s ≤ n → (∀ t, s ≤ t → t < n → f t = 0) → sumI ((List.range n).map f) = sumI ((List.range s).map f)
  | 0, hs, _ => by rw [show s = 0 by omega]
  | n + 1, hs, h => by
    rcases Nat.lt_or_ge n s with h1 | h1
    · rw [show s = n + 1 by omega]
    · rw [sumI_range_succ, h n h1 (by omega), range_tail n h1 (fun t h2 h3 => h t h2 (by omega))]; omega
section
variable {total : Int} {ws : List Int}
theorem picked_pos (h : shB total ws = true) {k : Nat} (hk : k < ws.length) (hp : picked (oF total ws) (leftV total ws).toNat k = true) : 0 < rF total ws k := by
  obtain ⟨t1, t2, t3, t4, t5⟩ := sh_true h
  have hs := sum_pos t4 t5
  have hO := (ord_of (total := total) (ws := ws) t2).2
  obtain ⟨lf0, lf1⟩ := left_bd h
  obtain ⟨s, hsl, rfl⟩ := picked_iff.1 hp
  have hr := quo_facts h hk
  rcases Int.lt_or_le 0 (rF total ws (oF total ws s)) with h1 | h1
  · exact h1
  · exfalso
    have hz : ∀ t, s ≤ t → t < ws.length → rF total ws (oF total ws t) = 0 := fun t h2 h3 => by
      have h4 := quo_facts h (hO.lt t h3)
      rcases Nat.eq_or_lt_of_le h2 with h5 | h5
      · subst h5; omega
      · have := hO.asc s t h5 h3; omega
    have e1 := range_tail (f := fun t => rF total ws (oF total ws t)) (s := s) ws.length (by omega) hz
    rw [hO.total, ← left_rests h] at e1
    have e2 := (sumI_range_bd (f := fun t => rF total ws (oF total ws t)) (c := sumI ws - 1) (n := s) (fun t ht => by have := quo_facts h (hO.lt t (by omega)); omega)).2
    rw [← e1] at e2
    have e3 : (s : Int) * (sumI ws - 1) ≤ s * sumI ws := Int.mul_le_mul_of_nonneg_left (by omega) (by omega)
    have e4 : ((s : Int) + 1) * sumI ws ≤ leftV total ws * sumI ws := Int.mul_le_mul_of_nonneg_right (by omega) (by omega)
    rw [Int.add_mul, Int.one_mul] at e4
    omega
/-- What the law asks of each share. -/
theorem share_facts (h : shB total ws = true) : (shareV total ws).length = ws.length ∧ sumI (shareV total ws) = total ∧
    ∀ k, k < ws.length → 0 ≤ total * ws.getD k 0 ∧ total * ws.getD k 0 ≤ 1000000000000000 ∧ 0 ≤ (shareV total ws).getD k 0 ∧ (shareV total ws).getD k 0 ≤ 2000000000000000 ∧ (shareV total ws).getD k 0 * sumI ws - total * ws.getD k 0 < sumI ws ∧ -sumI ws < (shareV total ws).getD k 0 * sumI ws - total * ws.getD k 0 := by
  obtain ⟨t1, t2, t3, t4, t5⟩ := sh_true h
  have hs := sum_pos t4 t5
  have hO := (ord_of (total := total) (ws := ws) t2).2
  obtain ⟨lf0, lf1⟩ := left_bd h
  rw [sh_yes h]
  refine ⟨outL_len, ?_, fun k hk => ?_⟩
  · rw [outL_sum hO _ (by omega)]
    have : leftV total ws = total - sumI ((List.range ws.length).map (qF total ws)) := rfl
    omega
  · obtain ⟨a0, a1, a2, a3, a4, a5, a6⟩ := quo_facts h hk
    rw [outL_at hk]
    have em : qF total ws k * sumI ws = sumI ws * qF total ws k := Int.mul_comm _ _
    rcases bcases (picked (oF total ws) (leftV total ws).toNat k) with hp | hp
    · have hpos := picked_pos h hk hp
      rw [if_pos hp, Int.add_mul, Int.one_mul]
      omega
    · rw [if_neg (by rw [hp]; decide)]
      omega
end
theorem l_atS (A : Option Addr) (n c : Nat) (zs : List Int) (i : Int) (k : Nat) (H : Nat) (w : World) (hik : i = (k : Int)) (h : BytesAt w H A n zs) (hi : k ≤ 1000) (hn : n ≤ 1048576) :
    Calls Try.prog 6 #[.slice A n c, .int .i64 i] w fun e w' => e = .returned (.int .i64 (atV zs k)) ∧ w = w' := by
  subst hik; exact l_at A n c zs k H w h hi hn
theorem int_new (W : World) (x : Value) : ∀ j u, [x][j]? = some u → (W.alloc (.cells #[x] 3)).cell? ((⟨W.heap.size, 0, none⟩ : Addr).add j) = some u := by
  intro j u hu
  have hj : j = 0 := by have := (List.getElem?_eq_some_iff.1 hu).1; simpa using this
  subst hj
  rw [show ∀ p : Addr, p.add 0 = p from fun p => by simp [Addr.add], (Blk.new W 3 #[x]).cell 0]
  simpa using hu
theorem own_shp {w : World} {base : Nat} {e : TypeId} {size n : Nat} {v : Value} {xs : List Value} (h : w.ownsRow base e size v n xs) : ∃ A c, v = .slice A n c := by
  rcases h.2 with ⟨rfl, rfl⟩ | ⟨g, cap, cur, rfl, _⟩
  · exact ⟨_, _, rfl⟩
  · exact ⟨_, _, rfl⟩
def SmallW (ws : List Int) : Prop := ∀ j, j < ws.length → 0 ≤ ws.getD j 0 ∧ ws.getD j 0 ≤ 8
theorem small_snoc {ws : List Int} {x : Int} (h : SmallW ws) (h0 : 0 ≤ x) (h1 : x ≤ 8) : SmallW (ws ++ [x]) := by
  intro j hj
  simp only [List.length_append, List.length_cons, List.length_nil] at hj
  rcases Nat.lt_or_ge j ws.length with h2 | h2
  · have := h j h2
    rw [List.getD_eq_getElem?_getD, List.getElem?_append_left h2, ← List.getD_eq_getElem?_getD]; exact this
  · obtain rfl : j = ws.length := by omega
    simp; omega
theorem small_sum {ws : List Int} (h : SmallW ws) (hl : ws.length ≤ 8) : 0 ≤ sumI ws ∧ sumI ws ≤ 64 := by
  have : ∀ k, k ≤ ws.length → 0 ≤ sumI (ws.take k) ∧ sumI (ws.take k) ≤ k * 8 := by
    intro k
    induction k with
    | zero => intro _; simp [sumI]
    | succ k ih =>
      intro hk
      have h1 := ih (by omega)
      have h2 := h k (by omega)
      rw [sumI_take (by omega)]; omega
  have := this ws.length (Nat.le_refl _)
  rw [List.take_length] at this
  omega
theorem sumI_snoc (ws : List Int) (x : Int) : sumI (ws ++ [x]) = sumI ws + x := by rw [sumI_append]; simp [sumI]

set_option maxRecDepth 100000 in
set_option maxHeartbeats 8000000 in
theorem walk_FnShares (A : Option Addr) (n c : Nat) (zs : List Int) (w : World) (hB : BytesAt w w.heap.size A n zs) :
    Calls Try.prog 3 #[.slice A n c] w fun e w' => e = .returned (.bool true) ∧ Below w.heap.size w w' := by
  by_cases hbig : 1048576 < n
  · have hb : decide (1048576 < n) = true := by simpa using hbig
    clear hB
    go_enter Try.func3, Try.ntmps3
    go_wp2_with (go_at_call 5; refine (l_big _ _ _ _).mono ?_; rintro e w' ⟨rfl, rfl⟩)
    go_ret
    exact ⟨rfl, Below.refl _ _⟩
  · have hb : decide (1048576 < n) = false := by simpa using hbig
    have HA := Lib.hid (fun (W : World) (hb : Below w.heap.size w W) (k : Nat) (hk : k ≤ 1000) (i : Int) (hik : i = (k : Int)) => l_atS A n c zs i k w.heap.size W hik (hB.below hb) hk (by omega))
    have HAB := Lib.hid (fun k => atV_bd hB k)
    clear hB
    obtain ⟨i0, hi, hz0, hz1, hz2⟩ := info_parts info_int
    have hown := World.ownsRow_made (e := 3) (size := 1) (base := w.heap.size) w #[] 0 (Nat.le_refl _) (Nat.zero_le _) (by simp)
    have hW0 := (Below.refl w.heap.size w).alloc (Nat.le_refl _) (.cells #[] 3)
    have a0 := HAB.out 0
    go_enter Try.func3, Try.ntmps3
    go_wp2_with fail
    refine (l_big _ _ _ _).mono ?_; rintro e w' ⟨rfl, rfl⟩
    go_wp2_with fail
    clear hb
    go_loopw [3, 4, 5] (fun v3 v4 v5 wr => ∃ (k : Nat) (ws : List Int) (S : Int), v5 = .int .i64 k ∧ v4 = .int .i64 S ∧ Hid (S = sumI ws) ∧ ws.length = k ∧ (k : Int) ≤ atV zs 0 % 8 + 1 ∧ SmallW ws ∧ wr.ownsRow w.heap.size 3 1 v3 k (cellsI ws) ∧ Below w.heap.size w wr) (fun _ _ v5 _ => (9 - intOf v5).toNat)
    case atStart => exact ⟨0, [], 0, rfl, rfl, by simp [Hid, sumI], rfl, by omega, fun j hj => by simp at hj, hown, hW0⟩
    case round =>
      obtain ⟨k, ws, S, rfl, rfl, HS, hwl, hk, hsm, hO, hW⟩ := hrel
      clear hown hW0
      have hss := small_sum hsm (by omega)
      rw [← HS.out] at hss
      go_wp2_with fail
      refine (HA.out _ hW 0 (by omega) _ rfl).mono ?_; rintro e w' ⟨rfl, rfl⟩
      generalize hA0 : atV zs 0 = A0 at *
      by_cases hlt : (k : Int) ≤ A0 % 8
      · have a1 := HAB.out (k + 1)
        go_wp2_with fail
        refine (HA.out _ hW (k + 1) (by omega) _ (by push_cast; rfl)).mono ?_; rintro e w' ⟨rfl, rfl⟩
        generalize hx : atV zs (k + 1) = x at *
        have HX := Lib.hid hx
        clear hx
        have b0 : 0 ≤ x % 9 := by omega
        have b1 : x % 9 ≤ 8 := by omega
        go_wp2_with (at_builtin; refine wpList_append_own _ rfl (.tmp 21) (.tmp 27) 24 rfl w.heap.size 3 i0 _ 1 8 Try.underlying24 hi hz0 hz1 hz2 rfl (by omega) u3 k (cellsI ws) rfl (World.ownsRow.alloc hO _) _ 1 1 [.int .i64 (x % 9)] rfl rfl (int_new _ _) (by simp [Value.oneCell']) (by unfold maxLen; omega) (by omega) (by simp; have := hW.size; omega) ?_; intro v7 w7 hown7 hg7 hnil7)
        have hW7 : Below w.heap.size w w7 := (hW.alloc hW.size (.cells #[.int .i64 (x % 9)] 3)).grown hg7 (by simp; have := hW.size; omega) (fun k hk => (hO.lt k hk).1)
        have hO7 : w7.ownsRow w.heap.size 3 1 v7 (k + 1) (cellsI (ws ++ [x % 9])) := by rw [cellsI_append]; exact hown7
        have hsm7 := small_snoc hsm b0 b1
        clear hown7 hg7 hnil7 hO hW
        go_wp2_with fail
        refine (HA.out _ hW7 (k + 1) (by omega) _ (by push_cast; rfl)).mono ?_; rintro e w' ⟨rfl, rfl⟩
        rw [HX.out]
        have HS2 := Lib.hid (show S + x % 9 = sumI (ws ++ [x % 9]) by rw [sumI_snoc, HS.out])
        go_wp2
        go_roundw
        case rel => exact ⟨k + 1, ws ++ [x % 9], S + x % 9, by go_num, rfl, HS2.out, by simp; omega, by omega, hsm7, hO7, hW7⟩
        case measure => simp [intOf]; omega
      · have hk1 : 1 ≤ k := by omega
        have hk8 : k ≤ 8 := by omega
        have b9 := HAB.out 9
        have b10 := HAB.out 10
        obtain ⟨vA, vc, rfl⟩ := own_shp hO
        go_wp2_with fail
        refine (HA.out _ hW 9 (by omega) _ rfl).mono ?_; rintro e w' ⟨rfl, rfl⟩
        go_wp2_with fail
        refine (HA.out _ hW 10 (by omega) _ rfl).mono ?_; rintro e w' ⟨rfl, rfl⟩
        have tb0 : 0 ≤ atV zs 9 * atV zs 10 := Int.mul_nonneg (by omega) (by omega)
        have tb1 : atV zs 9 * atV zs 10 ≤ 255 * 255 := Int.mul_le_mul (by omega) (by omega) (by omega) (by omega)
        have tw : IntKind.i64.wrap (atV zs 9 * atV zs 10) = atV zs 9 * atV zs 10 := IntWalk.i64_in _ (by omega)
        have hR := Row.of_own hO
        rw [← hwl] at hR
        have hN := hR.nums
        have HSH := Lib.hid (i_ShareOut vA vc ws (atV zs 9 * atV zs 10) _ hN (by omega))
        rw [hwl] at HSH
        clear b9 b10 hR hO
        go_wp2_with fail
        clear tw
        generalize atV zs 9 * atV zs 10 = T at *
        have HSU := Lib.hid (show S ≠ 0 → shB T ws = true from fun h => sh_mk (inR_mk tb0 (by omega)) (by omega) (by omega) (fun j hj => by have := hsm j hj; exact inR_mk this.1 (by omega)) (by rw [← HS.out]; exact h))
        have HSZ := Lib.hid (show S = 0 → shareV T ws = [] from fun h => sh_no (.inr (.inr (.inr (.inr (by rw [← HS.out]; exact h))))))
        have HSF := Lib.hid (fun (h : S ≠ 0) => share_facts (HSU.out h))
        generalize shareV T ws = V at *
        refine HSH.out.mono ?_; rintro e w9 ⟨lA, lc, rfl, hRV, hb9⟩
        have hW9 : Below w.heap.size w w9 := hW.trans (hb9.mono hW.size)
        by_cases hS0 : S = 0
        · have hV := HSZ.out hS0
          subst hV
          have s0 : (S == 0) = true := by simp [hS0]
          clear hS0 HSZ HSF HSU
          go_wp2
          go_ret
          exact ⟨rfl, hW9⟩
        · obtain ⟨v1, v2, v3⟩ := HSF.out hS0
          have s0 : (S == 0) = false := by simp [hS0]
          have HV3 := Lib.hid v3
          have hNV := hRV.nums
          have hN9 := hN.below hb9
          have hVk : V.length = k := by omega
          have HCV := Lib.hid (fun (j : Nat) (hj : j < k) => (show ∃ b off b' off', lA = some ⟨b, off, none⟩ ∧ vA = some ⟨b', off', none⟩ ∧ w9.cell? ⟨b, off + j, none⟩ = some (.int .i64 (V.getD j 0)) ∧ w9.cell? ⟨b', off' + j, none⟩ = some (.int .i64 (ws.getD j 0)) ∧ b < w9.heap.size ∧ b' < w9.heap.size by
            obtain ⟨b, off, e1, hb1, hc1⟩ := hNV (by omega)
            obtain ⟨b', off', e2, hb2, hc2⟩ := hN9 (by omega)
            exact ⟨b, off, b', off', e1, e2, hc1 j (by omega), hc2 j (by omega), hb1, Nat.lt_of_lt_of_le hb2 hb9.size⟩))
          have HG := Lib.hid (fun (j : Nat) (hj : j < k) => (show sumI (V.take (j + 1)) = sumI (V.take j) + V.getD j 0 from sumI_take (by omega)))
          have HT := Lib.hid (show sumI (V.take k) = T by rw [← hVk, List.take_length]; exact v2)
          have HVK := Lib.hid hVk
          have hWk : ws.length = k := hwl
          clear v1 v2 v3 hNV hN9 hRV hN HSF HSU HSZ hsm hS0 hwl
          have HS' := HS
          clear HS
          rw [hVk]
          have HWK := Lib.hid hWk
          clear hVk hWk
          go_wp2_with fail
          go_loopw [8, 9] (fun v8 v9 wq => ∃ (j : Nat) (G : Int), v9 = .int .i64 j ∧ v8 = .int .i64 G ∧ j ≤ k ∧ Hid (G = sumI (V.take j)) ∧ 0 ≤ G ∧ G ≤ j * 2000000000000000 ∧ Below w9.heap.size w9 wq) (fun _ v9 _ => k - (intOf v9).toNat)
          case atStart => exact ⟨0, 0, rfl, rfl, by omega, by simp [Hid, sumI], by omega, by omega, Below.refl _ _⟩
          case round =>
            obtain ⟨j, G, rfl, rfl, hj, HGG, g0, g1, hWq⟩ := hrel
            by_cases hjk : j < k
            · obtain ⟨b, off, b', off', rfl, rfl, d1, d2, hb1, hb2⟩ := HCV.out j hjk
              have c1 := (hWq.cell (p := ⟨b, off + j, none⟩) hb1).trans d1
              have c2 := (hWq.cell (p := ⟨b', off' + j, none⟩) hb2).trans d2
              obtain ⟨f0, f1, f2, f3, f4, f5⟩ := HV3.out j (by have := HWK.out; omega)
              rw [← HS'.out] at f4 f5
              have e3 : (j : Int) < (k : Int) := by omega
              have e0 : (0 : Int) ≤ (j : Int) := by omega
              have HGN := Lib.hid (show G + V.getD j 0 = sumI (V.take (j + 1)) by rw [HG.out j hjk, HGG.out])
              clear d1 d2
              generalize V.getD j 0 = v at *
              generalize ws.getD j 0 = x at *
              have w1 : IntKind.i64.wrap (v * S) = v * S := IntWalk.i64_in _ (by omega)
              have w2 : IntKind.i64.wrap (T * x) = T * x := IntWalk.i64_in _ (by omega)
              have w3 : IntKind.i64.wrap (v * S - T * x) = v * S - T * x := IntWalk.i64_in _ (by omega)
              have w4 : IntKind.i64.wrap (-S) = -S := IntWalk.i64_in _ (by omega)
              have w5 : IntKind.i64.wrap (G + v) = G + v := IntWalk.i64_in _ (by omega)
              go_wp2_with fail
              go_quiet (fail)
              go_wp2
              go_roundw
              case rel => exact ⟨j + 1, G + v, by go_num, rfl, by omega, HGN.out, by omega, by omega, below_drewN_ hWq _⟩
              case measure => simp [intOf]; omega
            · obtain rfl : j = k := by omega
              have hGT : G = T := by rw [HGG.out, HT.out]
              subst hGT
              have hk2 : ((j : Int) == (j : Int)) = true := by simp
              go_wp2
              go_ret
              exact ⟨rfl, hW9.trans (hWq.mono hW9.size)⟩
end Go.Proofs.Ytaoinmlhhnklgaa
