/- Contracts of the functions that copy: slices.Clone (points, numbers), copyReach, l02Copy. -/
import Derived.Test.YtgbncfjabnaokabLawT
import Derived.Laws.AppendOwnNone
import Derived.Deep.RegionWith
import Derived.Lib.SliceRun
namespace Go.Proofs.Ytgbncfjabnaokab
open Go.RowKit

section
variable {P : Program} {w : World}
theorem run_append_nil_src (base : Nat) (t ty e : TypeId) (i : TypeInfo) (size : Nat) (ht : P.underlying t = some (.slice e)) (hi : P.info? e = some i)
    (v : Value) (n : Nat) (xs : List Value) (hown : w.ownsRow base e size v n xs) (c : Nat) : (Builtin.append_ #[t, t] ty #[v, .slice none 0 c]).run P w = .ok v w := by
  rcases hown.2 with ⟨rfl, rfl⟩ | ⟨g, cap, cur, rfl, _, _, hnc, _⟩
  · simp [Builtin.append_, run_underlying ht, sizeOf, typeInfo, hi, Builtin.lenOf, Builtin.firstCells]
  · simp [Builtin.append_, run_underlying ht, sizeOf, typeInfo, hi, Builtin.lenOf, Builtin.firstCells, hnc, storeCells]
/-- append of a source that is read, nil or not. -/
theorem wpList_append_read {ops : Array Oper} {rest : List Oper} {o : Oper} {a : Act} {Q : Exit → Act → World → Prop} (hgd : o.guard = none) (s x : Operand) (t : TypeId)
    (ho : o.op = .call { callee := .builtin .append, args := #[s, x], argTypes := #[t, t] })
    (base : Nat) (e : TypeId) (i : TypeInfo) (z : Value) (size bytes : Nat) (ht : P.underlying t = some (.slice e)) (hi : P.info? e = some i) (hz : i.zero = some z)
    (hsize : i.size = size) (hby : i.bytes = bytes) (hzs : z.cells.size = size) (hsz : 0 < size)
    (v : Value) (n : Nat) (xs : List Value) (hs : a.eval s = v) (hown : w.ownsRow base e size v n xs)
    (A : Option Addr) (m c : Nat) (news : List Value) (hx : a.eval x = .slice A m c) (hA : A = none → m = 0) (hl : news.length = m * size) (hnews : ∀ ad, A = some ad → ∀ j u, news[j]? = some u → w.cell? (ad.add j) = some u) (h1 : ∀ u ∈ news, u.oneCell' = true)
    (h63 : n + m ≤ maxLen) (hbytes : (n + m) * bytes ≤ 140737488355328) (hbase : base ≤ w.heap.size)
    (h : ∀ v' w', w'.ownsRow base e size v' (n + m) (xs ++ news) → w.grownBy w' v.ownBlock → wpList P ops Q rest (a.put o.dst v') w') : wpList P ops Q (o :: rest) a w := by
  rcases A with _ | ad
  · obtain rfl := hA rfl
    have hn : news = [] := List.eq_nil_of_length_eq_zero (by simpa using hl)
    subst hn
    refine wpList_plain hgd fun K hK => ?_
    have hrun := run_append_nil_src (P := P) (w := w) base t o.type e i size ht hi v n xs hown c
    unfold Oper.wp
    simp only [execOp, ho, resolve, invoke, builtin, Sem.run_bind, Sem.run_pure, Result.andThen_ok, List.map_toArray, List.map_cons, List.map_nil, hs, hx, hrun]
    exact hK _ _ (h v w (by simpa using hown) (World.grownBy.refl w _))
  · exact wpList_append_own w hgd s x t ho base e i z size bytes ht hi hz hsize hby hzs hsz v n xs hs hown ad m c news hx hl (hnews ad rfl) h1 h63 hbytes hbase fun v' w' h2 h3 _ => h v' w' h2 h3
end
theorem own_slice {w : World} {base : Nat} {e : TypeId} {size n : Nat} {v : Value} {xs : List Value} (h : w.ownsRow base e size v n xs) : ∃ A c, v = .slice A n c := by
  rcases h.2 with ⟨rfl, rfl⟩ | ⟨g, cap, cur, rfl, _⟩
  · exact ⟨_, _, rfl⟩
  · exact ⟨_, _, rfl⟩
theorem cellsP_one (ps : List (Int × Int)) : ∀ u ∈ cellsP ps, u.oneCell' = true := by
  induction ps with
  | nil => simp [cellsP]
  | cons p r ih => intro u hu; simp only [cellsP, List.mem_cons] at hu; rcases hu with rfl | rfl | hu; rfl; rfl; exact ih u hu
theorem cellsI_one (zs : List Int) : ∀ u ∈ cellsI zs, u.oneCell' = true := by
  intro u hu; simp only [cellsI, List.mem_map] at hu; obtain ⟨z, _, rfl⟩ := hu; rfl
theorem nil_pts {w : World} {H : Nat} {ps : List (Int × Int)} {A : Option Addr} (h : PtsAt w H A ps) (hA : A = none) : ps.length = 0 := by
  rcases Nat.eq_zero_or_pos ps.length with h0 | h0
  · exact h0
  · obtain ⟨b, off, e, _⟩ := h h0; rw [hA] at e; cases e
theorem nil_nums {w : World} {H : Nat} {zs : List Int} {A : Option Addr} (h : NumsAt w H A zs) (hA : A = none) : zs.length = 0 := by
  rcases Nat.eq_zero_or_pos zs.length with h0 | h0
  · exact h0
  · obtain ⟨b, off, e, _⟩ := h h0; rw [hA] at e; cases e
theorem add_at (b off j : Nat) : (⟨b, off, none⟩ : Addr).add j = ⟨b, off + j, none⟩ := by
  unfold Addr.add; split
  · rename_i h; subst h; rfl
  · rfl
theorem pts_cells {w : World} {H : Nat} {ps : List (Int × Int)} {A : Option Addr} (h : PtsAt w H A ps) : ∀ ad, A = some ad → ∀ j u, (cellsP ps)[j]? = some u → w.cell? (ad.add j) = some u := by
  intro ad hA j u hu
  have hj : j < ps.length * 2 := by
    have := (List.getElem?_eq_some_iff.1 hu).1; rw [cellsP_len] at this; exact this
  obtain ⟨b, off, e, _, hc⟩ := h (by omega)
  rw [hA] at e; injection e with e; subst e
  rw [add_at]
  have h1 := hc (j / 2) (by omega)
  have h2 := cellsP_at ps (j / 2) (by omega)
  rcases Nat.mod_two_eq_zero_or_one j with hm | hm
  · have ej : j = j / 2 * 2 := by omega
    rw [ej] at hu ⊢
    rw [h2.1] at hu; rw [← hu]; exact h1.1
  · have ej : j = j / 2 * 2 + 1 := by omega
    rw [ej] at hu ⊢
    rw [h2.2] at hu; rw [← hu]; exact h1.2
theorem nums_cells {w : World} {H : Nat} {zs : List Int} {A : Option Addr} (h : NumsAt w H A zs) : ∀ ad, A = some ad → ∀ j u, (cellsI zs)[j]? = some u → w.cell? (ad.add j) = some u := by
  intro ad hA j u hu
  have hj : j < zs.length := by
    have := (List.getElem?_eq_some_iff.1 hu).1; rw [cellsI_len] at this; exact this
  obtain ⟨b, off, e, _, hc⟩ := h (by omega)
  rw [hA] at e; injection e with e; subst e
  rw [add_at]
  rw [cellsI_at zs j hj] at hu; rw [← hu]; exact hc j hj

/-- The points, copied: what an append onto an empty slice leaves. -/
theorem pts_out {w W w1 : World} {v : Value} {ps : List (Int × Int)} (hB : Below w.heap.size w W) (hown : w1.ownsRow w.heap.size 52 2 v (0 + ps.length) ([] ++ cellsP ps)) {k : Nat} (hg : W.grownBy w1 (some k)) (hk : w.heap.size ≤ k) : PtsOut w ps (.returned v) w1 := by
  simp only [Nat.zero_add, List.nil_append] at hown
  obtain ⟨A, c, rfl⟩ := own_slice hown
  exact ⟨A, c, rfl, Row.of_own hown, hB.grown hg hB.size (fun k' hk' => by injection hk' with hk'; subst hk'; exact hk)⟩

set_option maxHeartbeats 1000000 in
theorem i_CloneP (A : Option Addr) (c : Nat) (ps : List (Int × Int)) (H : Nat) (w : World) (hP : PtsAt w H A ps) (hH : H ≤ w.heap.size) (hn : ps.length ≤ 1048576) :
    Calls Try.prog 55 #[.slice A ps.length c] w (PtsOut w ps) := by
  obtain ⟨i0, hi, hz0, hz1, hz2⟩ := info_parts info_point
  have q : ∀ (w : World) (a : Option Addr) (n c n' c' : Nat), (binOp .eql 27 (.slice a n c) (.slice none n' c')).run Try.prog w = .ok (.bool a.isNone) w := fun w a n c n' c' => Lib.run_eql_slice_nil w _ _ a n c n' c' Try.underlying27
  have hC := Lib.hid (pts_cells (hP.below ((Below.refl H w).alloc hH (.cells #[] 52))))
  have hN := Lib.hid (nil_pts hP)
  have hL := Lib.hid (cellsP_len ps)
  rcases A with _ | ad
  · have hps : ps = [] := List.eq_nil_of_length_eq_zero (hN.out rfl)
    subst hps
    clear hP hC hN hL
    go_enter Try.func55, Try.ntmps55
    go_wp2
    go_ret
    exact ⟨none, 0, rfl, ⟨World.ownsRow_nil _ _ _ _, fun a ha => by cases ha⟩, Below.refl _ _⟩
  · clear hP
    go_enter Try.func55, Try.ntmps55
    go_wp2_with (at_builtin; refine wpList_append_read rfl _ _ 27 rfl w.heap.size 52 i0 _ 2 16 Try.underlying27 hi hz0 hz1 hz2 rfl (by omega) (.slice (some ⟨w.heap.size, 0, none⟩) 0 0) 0 [] rfl (World.ownsRow_made w #[] 0 (Nat.le_refl _) (Nat.zero_le _) (by simp)) (some ad) ps.length c (cellsP ps) rfl (fun h => by cases h) hL.out hC.out (cellsP_one ps) (by unfold maxLen; omega) (by omega) (by simp) ?_; intro v1 w1 hown hg)
    go_wp2
    go_ret
    exact pts_out (W := w.alloc (.cells #[] 52)) ((Below.refl _ _).alloc (Nat.le_refl _) _) hown hg (Nat.le_refl _)
/-- The numbers, copied: what an append onto an empty slice leaves. -/
theorem nums_out {w W w1 : World} {v : Value} {zs : List Int} (hB : Below w.heap.size w W) (hown : w1.ownsRow w.heap.size 3 1 v (0 + zs.length) ([] ++ cellsI zs)) {k : Nat} (hg : W.grownBy w1 (some k)) (hk : w.heap.size ≤ k) : NumsOut w zs (.returned v) w1 := by
  simp only [Nat.zero_add, List.nil_append] at hown
  obtain ⟨A, c, rfl⟩ := own_slice hown
  exact ⟨A, c, rfl, Row.of_own hown, hB.grown hg hB.size (fun k' hk' => by injection hk' with hk'; subst hk'; exact hk)⟩

set_option maxHeartbeats 1000000 in
theorem i_CloneI (A : Option Addr) (c : Nat) (zs : List Int) (H : Nat) (w : World) (hP : NumsAt w H A zs) (hH : H ≤ w.heap.size) (hn : zs.length ≤ 1048576) :
    Calls Try.prog 60 #[.slice A zs.length c] w (NumsOut w zs) := by
  obtain ⟨i0, hi, hz0, hz1, hz2⟩ := info_parts info_int
  have q : ∀ (w : World) (a : Option Addr) (n c n' c' : Nat), (binOp .eql 23 (.slice a n c) (.slice none n' c')).run Try.prog w = .ok (.bool a.isNone) w := fun w a n c n' c' => Lib.run_eql_slice_nil w _ _ a n c n' c' Try.underlying23
  have hC := Lib.hid (nums_cells (hP.below ((Below.refl H w).alloc hH (.cells #[] 3))))
  have hN := Lib.hid (nil_nums hP)
  have hL := Lib.hid (show (cellsI zs).length = zs.length * 1 by rw [cellsI_len, Nat.mul_one])
  rcases A with _ | ad
  · have hzs : zs = [] := List.eq_nil_of_length_eq_zero (hN.out rfl)
    subst hzs
    clear hP hC hN hL
    go_enter Try.func60, Try.ntmps60
    go_wp2
    go_ret
    exact ⟨none, 0, rfl, ⟨World.ownsRow_nil _ _ _ _, fun a ha => by cases ha⟩, Below.refl _ _⟩
  · clear hP
    go_enter Try.func60, Try.ntmps60
    go_wp2_with (at_builtin; refine wpList_append_read rfl _ _ 23 rfl w.heap.size 3 i0 _ 1 8 Try.underlying23 hi hz0 hz1 hz2 rfl (by omega) (.slice (some ⟨w.heap.size, 0, none⟩) 0 0) 0 [] rfl (World.ownsRow_made w #[] 0 (Nat.le_refl _) (Nat.zero_le _) (by simp)) (some ad) zs.length c (cellsI zs) rfl (fun h => by cases h) hL.out hC.out (cellsI_one zs) (by unfold maxLen; omega) (by omega) (by simp) ?_; intro v1 w1 hown hg)
    go_wp2
    go_ret
    exact nums_out (W := w.alloc (.cells #[] 3)) ((Below.refl _ _).alloc (Nat.le_refl _) _) hown hg (Nat.le_refl _)

theorem box_below {B k : Nat} {xs : Array Value} {W w1 : World} (hb : Below W.heap.size W w1) (h : (∀ i, W.cell? ⟨B, i, none⟩ = xs[i]?) ∧ B + 1 + k ≤ W.heap.size) : (∀ i, w1.cell? ⟨B, i, none⟩ = xs[i]?) ∧ B + 1 + k ≤ w1.heap.size :=
  ⟨fun i => (hb.cell (p := ⟨B, i, none⟩) (by have := h.2; show B < _; omega)).trans (h.1 i), Nat.le_trans h.2 hb.size⟩
theorem box_set {B k : Nat} {xs : Array Value} {W : World} (h : (∀ i, W.cell? ⟨B, i, none⟩ = xs[i]?) ∧ B + 1 + k ≤ W.heap.size) {j : Nat} {u : Value} :
    (∀ i, (W.setCell ⟨B + 1, j, none⟩ u).cell? ⟨B, i, none⟩ = xs[i]?) ∧ B + 1 + k ≤ (W.setCell ⟨B + 1, j, none⟩ u).heap.size :=
  ⟨fun i => (World.cell?_setCell_other _ _ _ _ (by simp)).trans (h.1 i), by simpa [World.setCell] using h.2⟩
/-- A reach's three cells are set in a block of the call's own. -/
theorem reach_done {w w9 : World} {g lo : Nat} {a b c : Value} {ps : List (Int × Int)} {zs : List Int} {A1 A3 : Option Addr} {c1 c3 : Nat} (hg : w.heap.size ≤ g) (hlo : g < lo)
    (hRt : Row w9 lo w9.heap.size 52 2 A1 ps.length c1 (cellsP ps)) (hRp : Row w9 lo w9.heap.size 3 1 A3 zs.length c3 (cellsI zs)) (hW9 : Below w.heap.size w w9) :
    Row (((w9.setCell ⟨g, 0, none⟩ a).setCell ⟨g, 1, none⟩ b).setCell ⟨g, 2, none⟩ c) w.heap.size (((w9.setCell ⟨g, 0, none⟩ a).setCell ⟨g, 1, none⟩ b).setCell ⟨g, 2, none⟩ c).heap.size 52 2 A1 ps.length c1 (cellsP ps) ∧
    Row (((w9.setCell ⟨g, 0, none⟩ a).setCell ⟨g, 1, none⟩ b).setCell ⟨g, 2, none⟩ c) w.heap.size (((w9.setCell ⟨g, 0, none⟩ a).setCell ⟨g, 1, none⟩ b).setCell ⟨g, 2, none⟩ c).heap.size 3 1 A3 zs.length c3 (cellsI zs) ∧
    Below w.heap.size w (((w9.setCell ⟨g, 0, none⟩ a).setCell ⟨g, 1, none⟩ b).setCell ⟨g, 2, none⟩ c) := by
  have hsz : (((w9.setCell ⟨g, 0, none⟩ a).setCell ⟨g, 1, none⟩ b).setCell ⟨g, 2, none⟩ c).heap.size = w9.heap.size := by simp [World.setCell]
  have key : ∀ k, lo ≤ k → k < w9.heap.size → (((w9.setCell ⟨g, 0, none⟩ a).setCell ⟨g, 1, none⟩ b).setCell ⟨g, 2, none⟩ c).heap[k]? = w9.heap[k]? := fun k h1 _ =>
    (Below.heap_setCell _ _ _ _ (by show k ≠ g; omega)).trans ((Below.heap_setCell _ _ _ _ (by show k ≠ g; omega)).trans (Below.heap_setCell _ _ _ _ (by show k ≠ g; omega)))
  rw [hsz]
  exact ⟨(hRt.same key).mono (by omega) (Nat.le_refl _), (hRp.same key).mono (by omega) (Nat.le_refl _), ((hW9.setCell hg _).setCell hg _).setCell hg _⟩

set_option maxHeartbeats 2000000 in
theorem i_copyReach (tA : Option Addr) (tc : Nat) (ps : List (Int × Int)) (vol : Int) (pA : Option Addr) (pc : Nat) (zs : List Int) (H : Nat) (w : World) (hP : PtsAt w H tA ps) (hQ : NumsAt w H pA zs) (hH : H ≤ w.heap.size) (hn : ps.length ≤ 1048576) (hm : zs.length ≤ 1048576) :
    Calls Try.prog 39 #[.agg #[.slice tA ps.length tc, .int .i64 vol, .slice pA zs.length pc]] w (ReachOut w ps vol zs) := by
  have HP := Lib.hid (fun (W : World) (hb : Below w.heap.size w W) => i_CloneP tA tc ps H W (hP.below (hb.mono hH)) (Nat.le_trans hH hb.size) hn)
  have HQ := Lib.hid (fun (W : World) (hb : Below w.heap.size w W) => i_CloneI pA pc zs H W (hQ.below (hb.mono hH)) (Nat.le_trans hH hb.size) hm)
  clear hP hQ
  have hA0 := ((Blk.new w 29 #[.slice tA ps.length tc, .int .i64 vol, .slice pA zs.length pc]).alloc (.cells #[.slice none 0 0, .int .i64 0, .slice none 0 0] 29)).drew
  have hB0 := (Blk.new (w.alloc (.cells #[.slice tA ps.length tc, .int .i64 vol, .slice pA zs.length pc] 29)) 29 #[.slice none 0 0, .int .i64 0, .slice none 0 0]).drew
  have hW0 := (((Below.refl w.heap.size w).alloc (Nat.le_refl _) (.cells #[.slice tA ps.length tc, .int .i64 vol, .slice pA zs.length pc] 29)).alloc (by simp) (.cells #[.slice none 0 0, .int .i64 0, .slice none 0 0] 29)).drew
  have hz0 : ((w.alloc (.cells #[.slice tA ps.length tc, .int .i64 vol, .slice pA zs.length pc] 29)).alloc (.cells #[.slice none 0 0, .int .i64 0, .slice none 0 0] 29)).drew.heap.size = w.heap.size + 1 + 1 := by simp [World.drew]
  simp only [World.size_alloc] at hB0
  go_enter Try.func39, Try.ntmps39
  go_wp2_with fail
  generalize ((w.alloc (.cells #[.slice tA ps.length tc, .int .i64 vol, .slice pA zs.length pc] 29)).alloc (.cells #[.slice none 0 0, .int .i64 0, .slice none 0 0] 29)) = W0 at *
  have S0 : (∀ i, W0.drew.cell? ⟨w.heap.size, i, none⟩ = #[Value.slice tA ps.length tc, .int .i64 vol, .slice pA zs.length pc][i]?) ∧ w.heap.size + 1 + 1 ≤ W0.drew.heap.size := ⟨hA0.cell, by omega⟩
  go_region_held3 (fun w' => (∀ i, w'.cell? ⟨w.heap.size, i, none⟩ = #[Value.slice tA ps.length tc, .int .i64 vol, .slice pA zs.length pc][i]?) ∧ w.heap.size + 1 + 1 ≤ w'.heap.size) (first | with_reducible exact S9 | with_reducible exact S3 | with_reducible exact S1 | with_reducible exact S0 | with_reducible exact box_set (box_set (box_set S9))) (first | (go_at_call 60; ((with_reducible refine (HQ.out _ hW1).mono ?_)); rintro e w9 ⟨A3, c3, rfl, hR3, hb9⟩; have S9 := box_below hb9 S1; have hW9 := hW1.trans (hb9.mono hW1.size); have hB9 := hB1.below hb9 hB1.lt; have hRt := (hR1.below hb9 (Nat.le_refl _)).mono (Nat.le_refl _) hb9.size; have hRp := hR3.mono hs1 (Nat.le_refl _); have cB := hB9.cell; have fB := hB9.frozen; clear hb9 hB1 hW1) | (go_at_call 55; ((with_reducible refine (HP.out _ hW3).mono ?_)); rintro e w9 ⟨A1, c1, rfl, hR1, hb9⟩; have S9 := box_below hb9 S3; have hW9 := hW3.trans (hb9.mono hW3.size); have hB9 := hB3.below hb9 hB3.lt; have hRp := (hR3.below hb9 (Nat.le_refl _)).mono (Nat.le_refl _) hb9.size; have hRt := hR1.mono hs3 (Nat.le_refl _); have cB := hB9.cell; have fB := hB9.frozen; clear hb9 hB3 hW3) | (go_at_call 55; ((with_reducible refine (HP.out _ hW0).mono ?_)); rintro e w1 ⟨A1, c1, rfl, hR1, hb1⟩; have S1 := box_below hb1 S0; have hW1 := hW0.trans (hb1.mono hW0.size); have hB1 := hB0.below hb1 hB0.lt; have hs1 := hb1.size; clear hb1) | (go_at_call 60; ((with_reducible refine (HQ.out _ hW0).mono ?_)); rintro e w3 ⟨A3, c3, rfl, hR3, hb3⟩; have S3 := box_below hb3 S0; have hW3 := hW0.trans (hb3.mono hW0.size); have hB3 := hB0.below hb3 hB0.lt; have hs3 := hb3.size; clear hb3))
  all_goals
    go_wp2
    refine bodyPost_ret (v := .agg #[.slice A1 ps.length c1, .int .i64 vol, .slice A3 zs.length c3]) ?_ rfl ⟨A1, c1, A3, c3, rfl, reach_done (lo := W0.drew.heap.size) (by omega) (by omega) hRt hRp hW9⟩
    have c4 := (((hB9.set_ 0 (.slice A1 ps.length c1)).set_ 1 (.int .i64 vol)).set_ 2 (.slice A3 zs.length c3)).cell
    simp [results, Try.results39, go_sem, c4]

theorem made_at (w : World) (e : TypeId) (size : Nat) {base k : Nat} (hk : w.heap.size = k) (hb : base ≤ k) : (w.alloc (.cells #[] e)).ownsRow base e size (.slice (some ⟨k, 0, none⟩) 0 0) 0 [] := by
  subst hk; exact World.ownsRow_made w #[] 0 hb (Nat.zero_le _) (by simp)
/-- The first half of l02Copy. -/
theorem copy_a {w W0 w1 : World} {v : Value} {x0 x1 x2 : Value} {ys : Array Value} {ps : List (Int × Int)} (hA0 : Blk W0 w.heap.size 29 #[x0, x1, x2]) (hB0 : Blk W0 (w.heap.size + 1) 29 ys) (hW0 : Below w.heap.size w W0) (hz : W0.heap.size = w.heap.size + 1 + 1)
    (hown : w1.ownsRow (w.heap.size + 1 + 1) 52 2 v (0 + ps.length) ([] ++ cellsP ps)) (hg : (W0.alloc (.cells #[] 52)).grownBy w1 (some (w.heap.size + 1 + 1))) :
    ∃ A1 c1, v = .slice A1 ps.length c1 ∧ Blk w1 w.heap.size 29 #[x0, x1, x2] ∧ Blk (w1.setCell ⟨w.heap.size, 0, none⟩ v) w.heap.size 29 #[v, x1, x2] ∧ Blk (w1.setCell ⟨w.heap.size, 0, none⟩ v) (w.heap.size + 1) 29 ys ∧ Below w.heap.size w (w1.setCell ⟨w.heap.size, 0, none⟩ v) ∧
      Row (w1.setCell ⟨w.heap.size, 0, none⟩ v) (w.heap.size + 1 + 1) w1.heap.size 52 2 A1 ps.length c1 (cellsP ps) ∧ w.heap.size + 1 + 1 ≤ w1.heap.size ∧ (w1.setCell ⟨w.heap.size, 0, none⟩ v).heap.size = w1.heap.size := by
  have hA1 := (hA0.alloc (.cells #[] 52)).grown hg (by simp; omega)
  have hB1 := (hB0.alloc (.cells #[] 52)).grown hg (by simp)
  have hW1 := (hW0.alloc (by omega) (.cells #[] 52)).grown hg (by simp; omega) (fun k hk => by injection hk with hk; omega)
  simp only [Nat.zero_add, List.nil_append] at hown
  obtain ⟨A1, c1, rfl⟩ := own_slice hown
  have hs1 : w.heap.size + 1 + 1 ≤ w1.heap.size := by have := hg.size; simp [hz] at this; omega
  exact ⟨A1, c1, rfl, hA1, hA1.set_ 0 _, hB1.far (p := ⟨w.heap.size, 0, none⟩) (by show _ ≠ w.heap.size; omega) _, hW1.setCell (p := ⟨w.heap.size, 0, none⟩) (Nat.le_refl _) _,
    (Row.of_own hown).same (fun g h1 h2 => Below.heap_setCell _ _ _ _ (by show _ ≠ w.heap.size; omega)), hs1, by simp [World.setCell]⟩
/-- The second half. -/
theorem copy_b {w W2 w3 : World} {v : Value} {x0 x1 x2 : Value} {ys : Array Value} {A1 : Option Addr} {c1 h1 : Nat} {ps : List (Int × Int)} {zs : List Int} (hA2 : Blk W2 w.heap.size 29 #[x0, x1, x2]) (hB2 : Blk W2 (w.heap.size + 1) 29 ys) (hW2 : Below w.heap.size w W2) (hs : w.heap.size + 1 + 1 ≤ h1) (hz : W2.heap.size = h1)
    (hR2 : Row W2 (w.heap.size + 1 + 1) h1 52 2 A1 ps.length c1 (cellsP ps))
    (hown : w3.ownsRow (w.heap.size + 1 + 1) 3 1 v (0 + zs.length) ([] ++ cellsI zs)) (hg : (W2.alloc (.cells #[] 3)).grownBy w3 (some h1)) :
    ∃ A3 c3, v = .slice A3 zs.length c3 ∧ Blk w3 w.heap.size 29 #[x0, x1, x2] ∧ Blk (w3.setCell ⟨w.heap.size, 2, none⟩ v) w.heap.size 29 #[x0, x1, v] ∧ Blk (w3.setCell ⟨w.heap.size, 2, none⟩ v) (w.heap.size + 1) 29 ys ∧ Below w.heap.size w (w3.setCell ⟨w.heap.size, 2, none⟩ v) ∧
      Row (w3.setCell ⟨w.heap.size, 2, none⟩ v) (w.heap.size + 1 + 1) (w3.setCell ⟨w.heap.size, 2, none⟩ v).heap.size 52 2 A1 ps.length c1 (cellsP ps) ∧ Row (w3.setCell ⟨w.heap.size, 2, none⟩ v) (w.heap.size + 1 + 1) (w3.setCell ⟨w.heap.size, 2, none⟩ v).heap.size 3 1 A3 zs.length c3 (cellsI zs) := by
  have hA1 := (hA2.alloc (.cells #[] 3)).grown hg (by simp; omega)
  have hB1 := (hB2.alloc (.cells #[] 3)).grown hg (by simp; omega)
  have hW1 := (hW2.alloc (by omega) (.cells #[] 3)).grown hg (by simp; omega) (fun k hk => by injection hk with hk; omega)
  simp only [Nat.zero_add, List.nil_append] at hown
  obtain ⟨A3, c3, rfl⟩ := own_slice hown
  have hs1 : h1 ≤ w3.heap.size := by have := hg.size; simp [hz] at this; omega
  have hR3 : Row w3 (w.heap.size + 1 + 1) h1 52 2 A1 ps.length c1 (cellsP ps) := hR2.same (fun g a b => by
    rw [hg.block g (by simp; omega) (by simp; omega)]; exact Below.heap_alloc W2 _ g (by omega))
  have hz3 : (w3.setCell ⟨w.heap.size, 2, none⟩ (.slice A3 zs.length c3)).heap.size = w3.heap.size := by simp [World.setCell]
  refine ⟨A3, c3, rfl, hA1, hA1.set_ 2 _, hB1.far (p := ⟨w.heap.size, 2, none⟩) (by show _ ≠ w.heap.size; omega) _, hW1.setCell (p := ⟨w.heap.size, 2, none⟩) (Nat.le_refl _) _, ?_, ?_⟩
  · rw [hz3]; exact (hR3.same (fun g h1 h2 => Below.heap_setCell _ _ _ _ (by show _ ≠ w.heap.size; omega))).mono (Nat.le_refl _) hs1
  · rw [hz3]; exact (Row.of_own hown).same (fun g h1 h2 => Below.heap_setCell _ _ _ _ (by show _ ≠ w.heap.size; omega))

set_option maxHeartbeats 2000000 in
theorem s_l02Copy (tA : Option Addr) (tc : Nat) (ps : List (Int × Int)) (vol : Int) (pA : Option Addr) (pc : Nat) (zs : List Int) (H : Nat) (w : World) (hP : PtsAt w H tA ps) (hQ : NumsAt w H pA zs) (hH : H ≤ w.heap.size) (hn : ps.length ≤ 1048576) (hm : zs.length ≤ 1048576) :
    Calls Try.prog 35 #[.agg #[.slice tA ps.length tc, .int .i64 vol, .slice pA zs.length pc]] w (ReachOut w ps vol zs) := by
  obtain ⟨i0, hi, hz0, hz1, hz2⟩ := info_parts info_point
  obtain ⟨j0, hj, hy0, hy1, hy2⟩ := info_parts info_int
  have HC := Lib.hid (fun (W : World) (hb : Below w.heap.size w W) => pts_cells (hP.below (hb.mono hH)))
  have HD := Lib.hid (fun (W : World) (hb : Below w.heap.size w W) => nums_cells (hQ.below (hb.mono hH)))
  have hN := Lib.hid (nil_pts hP)
  have hM := Lib.hid (nil_nums hQ)
  have hL := Lib.hid (cellsP_len ps)
  have hK := Lib.hid (show (cellsI zs).length = zs.length * 1 by rw [cellsI_len, Nat.mul_one])
  clear hP hQ
  have hA0 := (Blk.new w 29 #[.slice tA ps.length tc, .int .i64 vol, .slice pA zs.length pc]).alloc (.cells #[.slice none 0 0, .int .i64 0, .slice none 0 0] 29)
  have hB0 := Blk.new (w.alloc (.cells #[.slice tA ps.length tc, .int .i64 vol, .slice pA zs.length pc] 29)) 29 #[.slice none 0 0, .int .i64 0, .slice none 0 0]
  have hW0 := ((Below.refl w.heap.size w).alloc (Nat.le_refl _) (.cells #[.slice tA ps.length tc, .int .i64 vol, .slice pA zs.length pc] 29)).alloc (by simp) (.cells #[.slice none 0 0, .int .i64 0, .slice none 0 0] 29)
  have hz := Lib.hid (show ((w.alloc (.cells #[.slice tA ps.length tc, .int .i64 vol, .slice pA zs.length pc] 29)).alloc (.cells #[.slice none 0 0, .int .i64 0, .slice none 0 0] 29)).heap.size = w.heap.size + 1 + 1 by simp)
  simp only [World.size_alloc] at hB0
  have HO := Lib.hid (made_at _ 52 2 hz.out (Nat.le_refl _))
  have HW := Lib.hid (hW0.alloc (by rw [hz.out]; omega) (.cells #[] 52))
  go_enter Try.func35, Try.ntmps35
  go_wp2_with (first | (at_builtin; refine wpList_append_read rfl (.tmp 3) (.tmp 5) 27 rfl (w.heap.size + 1 + 1) 52 i0 _ 2 16 Try.underlying27 hi hz0 hz1 hz2 rfl (by omega) (.slice (some ⟨w.heap.size + 1 + 1, 0, none⟩) 0 0) 0 [] rfl HO.out tA ps.length tc (cellsP ps) rfl hN.out hL.out (HC.out _ HW.out) (cellsP_one ps) (by unfold maxLen; omega) (by omega) (by simp) ?_; intro v1 w1 hown1 hg1; obtain ⟨A1, c1, rfl, hA1, hA2, hB2, hW2, hR2, hs1, hs2⟩ := copy_a hA0 hB0 hW0 hz.out hown1 hg1; have cA1 := hA1.cell; have fA1 := hA1.frozen; have cX := (hA2.alloc (.cells #[] 3)).cell; have HZ2 := Lib.hid hs2; have HO2 := Lib.hid (made_at _ 3 1 hs2 hs1); have HW2 := Lib.hid (hW2.alloc (by rw [hs2]; omega) (.cells #[] 3)); clear hg1 hown1 hA0 hB0 hW0 hs2) | (at_builtin; refine wpList_append_read rfl (.tmp 8) (.tmp 10) 23 rfl (w.heap.size + 1 + 1) 3 j0 _ 1 8 Try.underlying23 hj hy0 hy1 hy2 rfl (by omega) (.slice (some ⟨w1.heap.size, 0, none⟩) 0 0) 0 [] rfl HO2.out pA zs.length pc (cellsI zs) rfl hM.out hK.out (HD.out _ HW2.out) (cellsI_one zs) (by unfold maxLen; omega) (by omega) (by simp; omega) ?_; intro v3 w3 hown3 hg3; obtain ⟨A3, c3, rfl, hA3, hA4, hB4, hW4, hR4, hS4⟩ := copy_b hA2 hB2 hW2 hs1 HZ2.out hR2 hown3 hg3; have cA3 := hA3.cell; have fA3 := hA3.frozen; have cB4 := hB4.cell; have fB4 := hB4.frozen; clear cA1 fA1 cX hown3 hg3))
  refine bodyPost_ret (v := .agg #[.slice A1 ps.length c1, .int .i64 vol, .slice A3 zs.length c3]) ?_ rfl ⟨A1, c1, A3, c3, rfl, reach_done (lo := w.heap.size + 1 + 1) (by omega) (by omega) hR4 hS4 hW4⟩
  have c4 := (((hB4.set_ 0 (.slice A1 ps.length c1)).set_ 1 (.int .i64 vol)).set_ 2 (.slice A3 zs.length c3)).cell
  simp [results, Try.results35, go_sem, c4]
end Go.Proofs.Ytgbncfjabnaokab
