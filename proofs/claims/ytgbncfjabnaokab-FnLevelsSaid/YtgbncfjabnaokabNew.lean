/- Contracts of NewReach (program and reference). -/
import Derived.Test.YtgbncfjabnaokabSend
import Derived.Laws.MakeOwn
import Derived.Laws.OwnMore
namespace Go.Proofs.Ytgbncfjabnaokab
open Go.RowKit

/-- NewReach. -/
def newB (ps : List (Int × Int)) (level delay : Int) : Bool := inR delay 0 12 && reachOk ps (valueV ps level) (List.replicate delay.toNat 0)
def newP (ps : List (Int × Int)) (level delay : Int) : List (Int × Int) := if newB ps level delay = true then ps else []
def newVol (ps : List (Int × Int)) (level delay : Int) : Int := if newB ps level delay = true then valueV ps level else 0
def newZ (ps : List (Int × Int)) (level delay : Int) : List Int := if newB ps level delay = true then List.replicate delay.toNat 0 else []
theorem new_yes {ps : List (Int × Int)} {level delay : Int} (h : newB ps level delay = true) : newP ps level delay = ps ∧ newVol ps level delay = valueV ps level ∧ newZ ps level delay = List.replicate delay.toNat 0 := by
  unfold newP newVol newZ; rw [h]; simp
theorem new_no {ps : List (Int × Int)} {level delay : Int} (h : newB ps level delay = false) : newP ps level delay = [] ∧ newVol ps level delay = 0 ∧ newZ ps level delay = [] := by
  unfold newP newVol newZ; rw [h]; simp
def NewOut (w : World) (ps : List (Int × Int)) (vol : Int) (zs : List Int) (b : Bool) (e : Ending) (w' : World) : Prop :=
  ∃ tA tc pA pc, e = .returned (.tuple #[.agg #[.slice tA ps.length tc, .int .i64 vol, .slice pA zs.length pc], .bool b]) ∧ OutR w w' ps zs tA tc pA pc
theorem out_nil {w w' : World} (h : Below w.heap.size w w') : OutR w w' [] [] none 0 none 0 :=
  ⟨⟨World.ownsRow_nil _ _ _ _, fun a ha => by cases ha⟩, ⟨World.ownsRow_nil _ _ _ _, fun a ha => by cases ha⟩, h⟩
/-- What 'make([]int, n)' lays. -/
theorem run_make_ints (n : Nat) (hn : n ≤ 1000) : ∃ mc : Array Value, mc.toList = cellsI (List.replicate n 0) ∧ ∀ W : World, (Instr.makeSlice 23 (.int .i64 (n : Int)) (.int .i64 (n : Int))).run Try.prog W = .ok (.slice (some ⟨W.heap.size, 0, none⟩) n n) (W.alloc (.cells mc 3)) := by
  obtain ⟨j0, hj, hy0, hy1, hy2⟩ := info_parts info_int
  refine ⟨madeCells (Value.int .i64 0).cells (n * j0.size), ?_, fun W => ?_⟩
  · rw [hy1, Nat.mul_one]
    simp [madeCells, Value.cells, cellsI]
    apply List.ext_getElem?
    intro i
    simp [List.getElem?_replicate]
    by_cases h : i < n
    · simp [h]
      have : i % 1 = 0 := Nat.mod_one i
      simp [this]
    · simp [h]
  · have := run_make (P := Try.prog) W 23 3 j0 _ Try.underlying23 hj hy0 .i64 .i64 n n (by omega) (Int.le_refl _) (by rw [hy2]; omega) (by omega)
    simpa using this
theorem made_row {W : World} {mc : Array Value} {n lo : Nat} (h : mc.toList = cellsI (List.replicate n 0)) (hn : n ≤ 1000) (hlo : lo ≤ W.heap.size) : Row (W.alloc (.cells mc 3)) lo (W.heap.size + 1) 3 1 (some ⟨W.heap.size, 0, none⟩) n n (cellsI (List.replicate n 0)) := by
  have hs : mc.size = n * 1 := by
    have := congrArg List.length h
    simpa [cellsI_len] using this
  have := World.ownsRow_lit (e := 3) (size := 1) W mc n hlo (by unfold maxLen; omega) hs
  rw [h] at this
  exact ⟨this, fun a ha => by injection ha with ha; subst ha; exact Nat.lt_succ_self _⟩
theorem bel_drew {w W : World} (h : Below w.heap.size w W) : Below w.heap.size w W.drew := h.drew
theorem bel_alloc {w W : World} (h : Below w.heap.size w W) (o : Obj) : Below w.heap.size w (W.alloc o) := h.alloc h.size o

theorem Row.own {w : World} {lo hi : Nat} {e : TypeId} {size n c : Nat} {A : Option Addr} {xs : List Value} (h : Row w lo hi e size A n c xs) : w.ownsRow lo e size (.slice A n c) n xs := h.1
theorem blk_new {W : World} {t : TypeId} {cs : Array Value} {k : Nat} (hk : W.heap.size = k) : Blk (W.alloc (.cells cs t)) k t cs := by subst hk; exact Blk.new W t cs
theorem Blk.three {W : World} {g : Nat} {t : TypeId} {x y z a b c : Value} (h : Blk W g t #[x, y, z]) : Blk (((W.setCell ⟨g, 0, none⟩ a).setCell ⟨g, 1, none⟩ b).setCell ⟨g, 2, none⟩ c) g t #[a, b, c] := ((h.set_ 0 a).set_ 1 b).set_ 2 c
theorem Blk.far3 {W : World} {g k : Nat} {t : TypeId} {cs : Array Value} {a b c : Value} (h : Blk W k t cs) (hk : k < g) : Blk (((W.setCell ⟨g, 0, none⟩ a).setCell ⟨g, 1, none⟩ b).setCell ⟨g, 2, none⟩ c) k t cs :=
  ((h.far (p := ⟨g, 0, none⟩) (by show k ≠ g; omega) _).far (p := ⟨g, 1, none⟩) (by show k ≠ g; omega) _).far (p := ⟨g, 2, none⟩) (by show k ≠ g; omega) _
section
variable {W w' : World} {lo lo' : Nat} {e : TypeId} {size n : Nat} {v : Value} {xs : List Value}
theorem own_bel (h : W.ownsRow lo e size v n xs) (hb : Below W.heap.size W w') : w'.ownsRow lo e size v n xs := by
  obtain ⟨A, c, rfl⟩ := own_slice h
  exact ((Row.of_own h).below hb (Nat.le_refl _)).1
theorem own_drew (h : W.ownsRow lo e size v n xs) : W.drew.ownsRow lo e size v n xs := h
theorem own_mono (h : W.ownsRow lo e size v n xs) (hl : lo' ≤ lo) : W.ownsRow lo' e size v n xs := by
  refine ⟨h.1, ?_⟩
  rcases h.2 with h2 | ⟨g, cap, cur, hv, hg, r⟩
  · exact .inl h2
  · exact .inr ⟨g, cap, cur, hv, by omega, r⟩
theorem own_set {g i : Nat} {t : TypeId} {cs : Array Value} {u : Value} (h : W.ownsRow lo e size v n xs) (hB : Blk W g t cs) (hne : e ≠ t) : (W.setCell ⟨g, i, none⟩ u).ownsRow lo e size v n xs := by
  refine ⟨h.1, ?_⟩
  rcases h.2 with h2 | ⟨k, cap, cur, hv, hg, hh, r⟩
  · exact .inl h2
  · refine .inr ⟨k, cap, cur, hv, hg, ?_, r⟩
    rw [Below.heap_setCell]; exact hh
    rintro rfl
    unfold Blk at hB
    rw [hh] at hB; injection hB with hB; injection hB with _ ht; exact hne ht
theorem own_three {g : Nat} {t : TypeId} {x y z a b c : Value} (h : W.ownsRow lo e size v n xs) (hB : Blk W g t #[x, y, z]) (hne : e ≠ t) : (((W.setCell ⟨g, 0, none⟩ a).setCell ⟨g, 1, none⟩ b).setCell ⟨g, 2, none⟩ c).ownsRow lo e size v n xs :=
  own_set (own_set (own_set h hB hne) (hB.set_ 0 a) hne) ((hB.set_ 0 a).set_ 1 b) hne
theorem made_own {mc : Array Value} {n k : Nat} (h : mc.toList = cellsI (List.replicate n 0)) (hk : W.heap.size = k) (hn : n ≤ 1000) (hlo : lo ≤ k) : (W.alloc (.cells mc 3)).ownsRow lo 3 1 (.slice (some ⟨k, 0, none⟩) n n) n (cellsI (List.replicate n 0)) := by
  subst hk; exact (made_row h hn hlo).1
end
theorem bel_three {w W : World} {g : Nat} {a b c : Value} (h : Below w.heap.size w W) (hg : w.heap.size < g) : Below w.heap.size w (((W.setCell ⟨g, 0, none⟩ a).setCell ⟨g, 1, none⟩ b).setCell ⟨g, 2, none⟩ c) :=
  ((h.setCell (p := ⟨g, 0, none⟩) (by show _ ≤ g; omega) _).setCell (p := ⟨g, 1, none⟩) (by show _ ≤ g; omega) _).setCell (p := ⟨g, 2, none⟩) (by show _ ≤ g; omega) _
/-- What the reach literal leaves. -/
def NewMid (w : World) (ps : List (Int × Int)) (v : Int) (n : Nat) (s8 : Value) (wx : World) : Prop :=
  ∃ (g : Nat) (A1 : Option Addr) (c1 gm : Nat), s8 = .pointer (some ⟨g, 0, none⟩) ∧ w.heap.size < g ∧ Blk wx g 29 #[.slice A1 ps.length c1, .int .i64 v, .slice (some ⟨gm, 0, none⟩) n n] ∧
    (0 < ps.length → wx.ownsRow (w.heap.size + 1) 52 2 (.slice A1 ps.length c1) ps.length (cellsP ps)) ∧ wx.ownsRow (w.heap.size + 1) 3 1 (.slice (some ⟨gm, 0, none⟩) n n) n (cellsI (List.replicate n 0)) ∧
    Blk wx w.heap.size 29 #[.slice none 0 0, .int .i64 0, .slice none 0 0] ∧ Below w.heap.size w wx

/-- append onto an empty slice of no capacity: what was there stays. -/
theorem run_append_new {P : Program} (w : World) (t ty e : TypeId) (i : TypeInfo) (z : Value) (size bytes : Nat) (ht : P.underlying t = some (.slice e)) (hi : P.info? e = some i) (hz : i.zero = some z) (hsize : i.size = size) (hby : i.bytes = bytes) (hzs : z.cells.size = size)
    (b : Addr) (A : Option Addr) (m c : Nat) (news : List Value) (hA : A = none → m = 0) (hl : news.length = m * size) (hnews : ∀ ad, A = some ad → ∀ j u, news[j]? = some u → w.cell? (ad.add j) = some u) (h63 : m ≤ maxLen) (hbytes : m * bytes ≤ 140737488355328) :
    ∃ v' w', (Builtin.append_ #[t, t] ty #[.slice (some b) 0 0, .slice A m c]).run P w = .ok v' w' ∧ (∃ A' c', v' = .slice A' m c') ∧ (0 < m → w'.ownsRow w.heap.size e size v' m news) ∧ Below w.heap.size w w' := by
  subst hsize; subst hby
  rcases Nat.eq_zero_or_pos m with h0 | h0
  · subst h0
    refine ⟨.slice (some b) 0 0, w, ?_, ⟨_, _, rfl⟩, fun h => by omega, Below.refl _ _⟩
    cases A with
    | none => simp [Builtin.append_, run_underlying ht, sizeOf, typeInfo, hi, Builtin.lenOf, Builtin.firstCells, storeCells]
    | some a => simp [Builtin.append_, run_underlying ht, sizeOf, typeInfo, hi, Builtin.lenOf, Builtin.firstCells, storeCells, loadCells, loadCellsFrom]
  · cases A with
    | none => exact absurd (hA rfl) (by omega)
    | some a =>
      have hr := run_append_grow (P := P) w t ty e i z ht hi hz b 0 0 [] (by simp) (by simp) a m c news hl (hnews a rfl) (by omega) (by unfold maxLen at h63; omega) (growslice_fits (by omega) (by simpa using hbytes))
      have hge := grownCap_ge w (0 + m) 0 e
      have hcm := grownCap_le_maxLen w (0 + m) 0 e (by simpa using h63)
      refine ⟨_, _, hr, ⟨_, _, by rw [Nat.zero_add]⟩, fun _ => ⟨hl, .inr ⟨w.heap.size, grownCap w (0 + m) 0 e, _, by rw [Nat.zero_add], Nat.le_refl _, heap_alloc_new w.drew _, by omega, hcm, ?_, ?_⟩⟩, ⟨rfl, rfl, rfl, by simp, fun k hk => Below.heap_alloc w.drew _ k hk⟩⟩
      · simp only [Array.size_append, List.size_toArray, size_zeroCells, hzs, hl, List.length_nil, Nat.zero_add] at hge ⊢
        rw [← Nat.add_mul]; congr 1; omega
      · simp only [Array.toList_append, List.nil_append]
        rw [← hl]; exact List.take_left
theorem step_append_new {P : Program} {ops : Array Oper} {o : Oper} {a : Act} {w : World} {K : Act → World → Prop} {Q : Exit → Act → World → Prop} {E : Prop} (hgd : o.guard = none) (s x : Operand) (t : TypeId)
    (ho : o.op = .call { callee := .builtin .append, args := #[s, x], argTypes := #[t, t] }) (e : TypeId) (i : TypeInfo) (z : Value) (size bytes : Nat) (ht : P.underlying t = some (.slice e)) (hi : P.info? e = some i) (hz : i.zero = some z) (hsize : i.size = size) (hby : i.bytes = bytes) (hzs : z.cells.size = size)
    (b : Addr) (hs : a.eval s = .slice (some b) 0 0) (A : Option Addr) (m c : Nat) (news : List Value) (hx : a.eval x = .slice A m c) (hA : A = none → m = 0) (hl : news.length = m * size) (hnews : ∀ ad, A = some ad → ∀ j u, news[j]? = some u → w.cell? (ad.add j) = some u) (h63 : m ≤ maxLen) (hbytes : m * bytes ≤ 140737488355328)
    (h : ∀ A' c' w', Hid (0 < m → w'.ownsRow w.heap.size e size (.slice A' m c') m news) → Below w.heap.size w w' → K (a.put o.dst (.slice A' m c')) w') :
    if Region.wanted o (yielded ops a.tmps) = true then Oper.wp P o a w K Q else E := by
  have hw : Region.wanted o (yielded ops a.tmps) = true := by simp [Region.wanted, hgd]
  rw [if_pos hw]
  obtain ⟨v', w', hrun, ⟨A', c', rfl⟩, h1, h2⟩ := run_append_new (P := P) w t o.type e i z size bytes ht hi hz hsize hby hzs b A m c news hA hl hnews h63 hbytes
  unfold Oper.wp execOp
  simp only [ho, resolve, invoke, builtin, Sem.run_bind, Sem.run_pure, Result.andThen_ok, List.map_toArray, List.map_cons, List.map_nil, hs, hx, hrun]
  exact h A' c' w' h1 h2

set_option maxHeartbeats 8000000 in
theorem i_NewReach (A : Option Addr) (c : Nat) (ps : List (Int × Int)) (level delay : Int) (H : Nat) (w : World) (hP : PtsAt w H A ps) (hH : H ≤ w.heap.size) (hn : ps.length ≤ 1048576) :
    Calls Try.prog 31 #[.slice A ps.length c, .int .i64 level, .int .i64 delay] w (NewOut w (newP ps level delay) (newVol ps level delay) (newZ ps level delay) (newB ps level delay)) := by
  have HC := Lib.hid (fun (W : World) (hb : Below w.heap.size w W) => i_CloneP A c ps H W (hP.below (hb.mono hH)) (Nat.le_trans hH hb.size) hn)
  have HV := Lib.hid (fun (W : World) (hb : Below w.heap.size w W) => i_ValueAt A c ps level H W (hP.below (hb.mono hH)) (Nat.le_trans hH hb.size) hn)
  clear hP
  obtain ⟨hB0, hW0, hz0⟩ := boxN w 29 #[.slice none 0 0, .int .i64 0, .slice none 0 0]
  have HZ := Lib.hid hz0
  clear hz0
  rcases bcases (inR delay 0 12) with h1 | h1
  · obtain ⟨d0, d1⟩ := inR_true h1
    obtain ⟨n, rfl⟩ : ∃ n : Nat, delay = (n : Int) := ⟨delay.toNat, by omega⟩
    obtain ⟨mc, hmc, mk⟩ := run_make_ints n (by omega)
    have HMC := Lib.hid hmc
    have HY := Lib.hid (fun h => new_yes (ps := ps) (level := level) (delay := (n : Int)) h)
    have HN := Lib.hid (fun h => new_no (ps := ps) (level := level) (delay := (n : Int)) h)
    have HB := Lib.hid (show newB ps level (n : Int) = reachOk ps (valueV ps level) (List.replicate n 0) by unfold newB; rw [h1]; simp)
    have hvn : (List.replicate n (0 : Int)).length ≤ 1048576 := by simp; omega
    have HR := Lib.hid (fun (W : World) (A1 : Option Addr) (c1 gm : Nat) (h : PtsAt W W.heap.size A1 ps) (h2 : NumsAt W W.heap.size (some ⟨gm, 0, none⟩) (List.replicate n 0)) => show Calls Try.prog 26 #[.agg #[.slice A1 ps.length c1, .int .i64 (valueV ps level), .slice (some ⟨gm, 0, none⟩) n n]] W fun e w' => e = .returned (.bool (reachOk ps (valueV ps level) (List.replicate n 0))) ∧ Below W.heap.size W w' by
      have := i_ReachOk A1 c1 ps (valueV ps level) (some ⟨gm, 0, none⟩) n (List.replicate n 0) W.heap.size W h h2 (Nat.le_refl _) hn hvn
      rwa [List.length_replicate] at this)
    clear hmc hvn
    generalize newP ps level (n : Int) = po at *
    generalize newVol ps level (n : Int) = vo at *
    generalize newZ ps level (n : Int) = zo at *
    generalize newB ps level (n : Int) = bo at *
    have ne1 : (52 : TypeId) ≠ 29 := by decide
    have ne2 : (3 : TypeId) ≠ 29 := by decide
    go_enter Try.func31, Try.ntmps31
    go_upto_region 3 with (go_at_call 52; refine (i_inRange _ _ _ _).mono ?_; rintro e w' ⟨rfl, rfl⟩)
    go_cut [8] (fun s8 wx => NewMid w ps (valueV ps level) n s8 wx)
    case first =>
      go_region_held3 (fun _ => True) (trivial) (first | (go_at_call 55; refine (HC.out _ (by repeat (first | (with_reducible exact hW0) | (with_reducible refine bel_drew ?_) | (with_reducible refine bel_step ?_ hb2) | (with_reducible refine bel_alloc ?_ _)))).mono ?_; rintro e w1 ⟨A1, c1, rfl, hR1, hb1⟩; have hO1 := hR1.own; obtain ⟨hc1, hf1⟩ := bcell hb1; have hz1 := hb1.size; simp at hz1; (try (obtain q0 : w.heap.size < w1.heap.size; · omega)); (try (obtain q1 : w.heap.size + 1 < w1.heap.size; · omega)); (try (obtain q2 : w.heap.size + 1 + 1 < w1.heap.size; · omega))) | (go_at_call 56; refine (HV.out _ (by repeat (first | (with_reducible exact hW0) | (with_reducible refine bel_drew ?_) | (with_reducible refine bel_step ?_ hb1) | (with_reducible refine bel_alloc ?_ _)))).mono ?_; rintro e w2 ⟨rfl, hb2⟩; obtain ⟨hc2, hf2⟩ := bcell hb2; have hz2 := hb2.size; (try simp at hz2); (try (obtain q7 : w.heap.size < w2.heap.size; · omega)); (try (obtain q3 : w.heap.size + 1 < w2.heap.size; · omega)); (try (obtain q4 : w.heap.size + 1 + 1 < w2.heap.size; · omega)); (try (obtain q5 : w1.heap.size < w2.heap.size; · omega)); (try (obtain q6 : w1.heap.size + 1 < w2.heap.size; · omega))))
      all_goals
        go_wp2_with fail
        go_meet
        clear hc1 hf1 hc2 hf2
        apply Exists.intro; apply Exists.intro; apply Exists.intro; apply Exists.intro
        refine ⟨rfl, ?_, ?_, ?_, ?_, ?_, ?_⟩
        · first | omega | (simp; omega) | (focus (simp; done))
        · repeat (first | (with_reducible refine Blk.drew ?_) | ((with_reducible refine blk_new ?_); (first | rfl | (focus (simp; done)))) | (with_reducible refine Blk.three (x := .slice none 0 0) (y := .int .i64 0) (z := .slice none 0 0) ?_) | (with_reducible refine Blk.bel ?_ hb1) | (with_reducible refine Blk.bel ?_ hb2) | (with_reducible refine Blk.alloc ?_ _))
        · intro _
          repeat (first | (with_reducible refine own_drew ?_) | (with_reducible refine Blk.drew ?_) | ((with_reducible refine own_mono hO1 ?_); (first | omega | (focus (simp; done)) | (simp; omega) | (focus (simp [World.drew]; done)))) | (with_reducible refine own_three (x := .slice none 0 0) (y := .int .i64 0) (z := .slice none 0 0) ?_ ?_ ne1) | (with_reducible refine own_bel ?_ hb1) | (with_reducible refine own_bel ?_ hb2) | (with_reducible refine World.ownsRow.alloc ?_ _) | ((with_reducible refine blk_new ?_); (first | rfl | (focus (simp; done)))) | (with_reducible refine Blk.bel ?_ hb1) | (with_reducible refine Blk.bel ?_ hb2) | (with_reducible refine Blk.alloc ?_ _))
        · repeat (first | (with_reducible refine own_drew ?_) | (with_reducible refine Blk.drew ?_) | ((with_reducible refine made_own HMC.out ?_ ?_ ?_) <;> (first | rfl | omega | (focus (simp; done)) | (simp; omega))) | (with_reducible refine own_three (x := .slice none 0 0) (y := .int .i64 0) (z := .slice none 0 0) ?_ ?_ ne2) | (with_reducible refine own_bel ?_ hb1) | (with_reducible refine own_bel ?_ hb2) | (with_reducible refine World.ownsRow.alloc ?_ _) | ((with_reducible refine blk_new ?_); (first | rfl | (focus (simp; done)))) | (with_reducible refine Blk.bel ?_ hb1) | (with_reducible refine Blk.bel ?_ hb2) | (with_reducible refine Blk.alloc ?_ _))
        · repeat (first | (with_reducible exact hB0) | (with_reducible refine Blk.drew ?_) | (with_reducible refine Blk.far3 ?_ ?_) | (with_reducible refine Blk.bel ?_ hb1) | (with_reducible refine Blk.bel ?_ hb2) | (with_reducible refine Blk.alloc ?_ _) | omega | (simp; omega) | (focus (simp; done)))
        · repeat (first | (with_reducible exact hW0) | (with_reducible refine bel_drew ?_) | (with_reducible refine bel_three ?_ ?_) | (with_reducible refine bel_step ?_ hb1) | (with_reducible refine bel_step ?_ hb2) | (with_reducible refine bel_alloc ?_ _) | omega | (simp; omega) | (focus (simp; done)))
    case rest =>
      obtain ⟨g, A1, c1, gm, rfl, hg, hX, hT, hM, hB, hW⟩ := hcut
      have hPt : PtsAt _ _ A1 ps := fun h0 => (Row.of_own (hT h0)).pts h0
      have hNt := (Row.of_own (show World.ownsRow _ _ _ _ (.slice (some ⟨gm, 0, none⟩) (List.replicate n (0 : Int)).length n) (List.replicate n (0 : Int)).length _ by rw [List.length_replicate]; exact hM)).nums
      have cX := hX.cell
      clear mk HC HV
      go_wp2_with fail
      refine (HR.out _ A1 c1 gm hPt hNt).mono ?_; rintro e w5 ⟨rfl, hb5⟩
      replace hX := hX.bel hb5
      replace hB := hB.bel hb5
      replace hT := fun h0 => own_bel (hT h0) hb5
      replace hM := own_bel hM hb5
      replace hW := bel_step hW hb5
      have cX5 := hX.cell
      have cB := hB.cell
      have fB := hB.frozen
      clear cX hPt hNt hb5
      rcases bcases (reachOk ps (valueV ps level) (List.replicate n 0)) with hr | hr
      · have hbo : bo = true := by rw [HB.out]; exact hr
        obtain ⟨rfl, rfl, e3⟩ := HY.out hbo
        have HE := Lib.hid (show zo = List.replicate n 0 by rw [e3]; simp)
        have HL := Lib.hid (show zo.length = n by rw [e3]; simp)
        subst hbo
        clear HY HN HB HR e3 HZ
        go_wp2
        refine bodyPost_ret (v := .tuple #[.agg #[.slice A1 po.length c1, .int .i64 (valueV po level), .slice (some ⟨gm, 0, none⟩) n n], .bool true]) ?_ rfl ⟨A1, c1, some ⟨gm, 0, none⟩, n, by rw [HL.out], ?_, ?_, ?_⟩
        · have c4 := three_cells hB
          simp [results, Try.results31, go_sem, c4]
        · exact (Row.of_own (own_three (hT (by have := tab_len (reach_true hr).1; omega)) hB ne1)).mono (by omega) (Nat.le_refl _)
        · rw [HL.out, HE.out]
          exact (Row.of_own (own_three hM hB ne2)).mono (by omega) (Nat.le_refl _)
        · exact ((hW.setCell (Nat.le_refl _) _).setCell (Nat.le_refl _) _).setCell (Nat.le_refl _) _
      · have hbo : bo = false := by rw [HB.out]; exact hr
        obtain ⟨rfl, rfl, rfl⟩ := HN.out hbo
        subst hbo
        clear HY HN HB HR HZ
        go_wp2
        refine bodyPost_ret (v := .tuple #[.agg #[.slice none 0 0, .int .i64 0, .slice none 0 0], .bool false]) ?_ rfl ⟨none, 0, none, 0, rfl, out_nil (((hW.setCell (Nat.le_refl _) _).setCell (Nat.le_refl _) _).setCell (Nat.le_refl _) _)⟩
        have c4 := three_cells hB
        simp [results, Try.results31, go_sem, c4]
  · have HB : newB ps level delay = false := by unfold newB; rw [h1]; rfl
    obtain ⟨e1, e2, e3⟩ := new_no HB
    rw [e1, e2, e3, HB]
    clear e1 e2 e3 HB HC HV
    go_enter Try.func31, Try.ntmps31
    go_wp2_with (go_at_call 52; refine (i_inRange _ _ _ _).mono ?_; rintro e w' ⟨rfl, rfl⟩)
    refine bodyPost_ret (v := .tuple #[.agg #[.slice none 0 0, .int .i64 0, .slice none 0 0], .bool false]) ?_ rfl ⟨none, 0, none, 0, rfl, out_nil hW0⟩
    have c4 := hB0.cell
    simp [results, Try.results31, go_sem, c4]
set_option maxHeartbeats 8000000 in
theorem s_NewReach (A : Option Addr) (c : Nat) (ps : List (Int × Int)) (level delay : Int) (H : Nat) (w : World) (hP : PtsAt w H A ps) (hH : H ≤ w.heap.size) (hn : ps.length ≤ 1048576) :
    Calls Try.prog 66 #[.slice A ps.length c, .int .i64 level, .int .i64 delay] w (NewOut w (newP ps level delay) (newVol ps level delay) (newZ ps level delay) (newB ps level delay)) := by
  have HC := Lib.hid (fun (W : World) (hb : Below w.heap.size w W) => pts_cells (hP.below (hb.mono hH)))
  have hNil := Lib.hid (nil_pts hP)
  have hLen := Lib.hid (cellsP_len ps)
  obtain ⟨i0, hi, hz0', hz1', hz2'⟩ := info_parts info_point
  have HV := Lib.hid (fun (W : World) (hb : Below w.heap.size w W) => s_ValueAt A c ps level H W (hP.below (hb.mono hH)) (Nat.le_trans hH hb.size) hn)
  clear hP
  obtain ⟨hB0, hW0, hz0⟩ := boxN w 29 #[.slice none 0 0, .int .i64 0, .slice none 0 0]
  have HZ := Lib.hid hz0
  clear hz0
  rcases bcases (inR delay 0 12) with h1 | h1
  · obtain ⟨d0, d1⟩ := inR_true h1
    obtain ⟨n, rfl⟩ : ∃ n : Nat, delay = (n : Int) := ⟨delay.toNat, by omega⟩
    obtain ⟨mc, hmc, mk⟩ := run_make_ints n (by omega)
    have HMC := Lib.hid hmc
    have HY := Lib.hid (fun h => new_yes (ps := ps) (level := level) (delay := (n : Int)) h)
    have HN := Lib.hid (fun h => new_no (ps := ps) (level := level) (delay := (n : Int)) h)
    have HB := Lib.hid (show newB ps level (n : Int) = reachOk ps (valueV ps level) (List.replicate n 0) by unfold newB; rw [h1]; simp)
    have hvn : (List.replicate n (0 : Int)).length ≤ 1048576 := by simp; omega
    have HR := Lib.hid (fun (W : World) (A1 : Option Addr) (c1 gm : Nat) (h : PtsAt W W.heap.size A1 ps) (h2 : NumsAt W W.heap.size (some ⟨gm, 0, none⟩) (List.replicate n 0)) => show Calls Try.prog 36 #[.agg #[.slice A1 ps.length c1, .int .i64 (valueV ps level), .slice (some ⟨gm, 0, none⟩) n n]] W fun e w' => e = .returned (.bool (reachOk ps (valueV ps level) (List.replicate n 0))) ∧ Below W.heap.size W w' by
      have := s_ReachOk A1 c1 ps (valueV ps level) (some ⟨gm, 0, none⟩) n (List.replicate n 0) W.heap.size W h h2 (Nat.le_refl _) hn hvn
      rwa [List.length_replicate] at this)
    clear hmc hvn
    generalize newP ps level (n : Int) = po at *
    generalize newVol ps level (n : Int) = vo at *
    generalize newZ ps level (n : Int) = zo at *
    generalize newB ps level (n : Int) = bo at *
    have ne1 : (52 : TypeId) ≠ 29 := by decide
    have ne2 : (3 : TypeId) ≠ 29 := by decide
    go_enter Try.func66, Try.ntmps66
    go_upto_region 3 with (go_at_call 46; refine (s_l01In _ _ _ _).mono ?_; rintro e w' ⟨rfl, rfl⟩)
    go_cut [8] (fun s8 wx => NewMid w ps (valueV ps level) n s8 wx)
    case first =>
      go_region_held3 (fun _ => True) (trivial) (first | (refine step_append_new rfl (.tmp 13) (.tmp 14) 27 rfl 52 i0 _ 2 16 Try.underlying27 hi hz0' hz1' hz2' rfl _ rfl A ps.length c (cellsP ps) rfl hNil.out hLen.out (HC.out _ (by repeat (first | (with_reducible exact hW0) | (with_reducible refine bel_drew ?_) | (with_reducible refine bel_step ?_ hb2) | (with_reducible refine bel_alloc ?_ _)))) (by unfold maxLen; omega) (by omega) ?_; intro A1 c1 w1 hO1 hb1; obtain ⟨hc1, hf1⟩ := bcell hb1; have hz1 := hb1.size; (try simp at hz1); (try (obtain _ : w.heap.size < w1.heap.size; · omega)); (try (obtain _ : w.heap.size + 1 < w1.heap.size; · omega)); (try (obtain _ : w.heap.size + 1 + 1 < w1.heap.size; · omega)); (try (obtain _ : w.heap.size + 1 + 1 + 1 < w1.heap.size; · omega)); (try (obtain _ : w2.heap.size < w1.heap.size; · omega)); (try (obtain _ : w2.heap.size + 1 < w1.heap.size; · omega)); (try (obtain _ : w2.heap.size + 1 + 1 < w1.heap.size; · omega))) | (go_at_call 30; refine (HV.out _ (by repeat (first | (with_reducible exact hW0) | (with_reducible refine bel_drew ?_) | (with_reducible refine bel_step ?_ hb1) | (with_reducible refine bel_alloc ?_ _)))).mono ?_; rintro e w2 ⟨rfl, hb2⟩; obtain ⟨hc2, hf2⟩ := bcell hb2; have hz2 := hb2.size; (try simp at hz2); (try (obtain _ : w.heap.size < w2.heap.size; · omega)); (try (obtain _ : w.heap.size + 1 < w2.heap.size; · omega)); (try (obtain _ : w.heap.size + 1 + 1 < w2.heap.size; · omega)); (try (obtain _ : w.heap.size + 1 + 1 + 1 < w2.heap.size; · omega)); (try (obtain _ : w1.heap.size < w2.heap.size; · omega)); (try (obtain _ : w1.heap.size + 1 < w2.heap.size; · omega)); (try (obtain _ : w1.heap.size + 1 + 1 < w2.heap.size; · omega))))
      all_goals
        go_wp2_with fail
        go_meet
        clear hc1 hf1 hc2 hf2
        apply Exists.intro; apply Exists.intro; apply Exists.intro; apply Exists.intro
        refine ⟨rfl, ?_, ?_, ?_, ?_, ?_, ?_⟩
        · first | omega | (simp; omega) | (focus (simp; done))
        · repeat (first | (with_reducible refine Blk.drew ?_) | ((with_reducible refine blk_new ?_); (first | rfl | (focus (simp; done)))) | (with_reducible refine Blk.three (x := .slice none 0 0) (y := .int .i64 0) (z := .slice none 0 0) ?_) | (with_reducible refine Blk.bel ?_ hb1) | (with_reducible refine Blk.bel ?_ hb2) | (with_reducible refine Blk.alloc ?_ _))
        · intro hp0
          replace hO1 := hO1.out hp0
          repeat (first | (with_reducible refine own_drew ?_) | (with_reducible refine Blk.drew ?_) | ((with_reducible refine own_mono hO1 ?_); (first | omega | (focus (simp; done)) | (simp; omega) | (focus (simp [World.drew]; done)))) | (with_reducible refine own_three (x := .slice none 0 0) (y := .int .i64 0) (z := .slice none 0 0) ?_ ?_ ne1) | (with_reducible refine own_bel ?_ hb1) | (with_reducible refine own_bel ?_ hb2) | (with_reducible refine World.ownsRow.alloc ?_ _) | ((with_reducible refine blk_new ?_); (first | rfl | (focus (simp; done)))) | (with_reducible refine Blk.bel ?_ hb1) | (with_reducible refine Blk.bel ?_ hb2) | (with_reducible refine Blk.alloc ?_ _))
        · repeat (first | (with_reducible refine own_drew ?_) | (with_reducible refine Blk.drew ?_) | ((with_reducible refine made_own HMC.out ?_ ?_ ?_) <;> (first | rfl | omega | (focus (simp; done)) | (simp; omega))) | (with_reducible refine own_three (x := .slice none 0 0) (y := .int .i64 0) (z := .slice none 0 0) ?_ ?_ ne2) | (with_reducible refine own_bel ?_ hb1) | (with_reducible refine own_bel ?_ hb2) | (with_reducible refine World.ownsRow.alloc ?_ _) | ((with_reducible refine blk_new ?_); (first | rfl | (focus (simp; done)))) | (with_reducible refine Blk.bel ?_ hb1) | (with_reducible refine Blk.bel ?_ hb2) | (with_reducible refine Blk.alloc ?_ _))
        · repeat (first | (with_reducible exact hB0) | (with_reducible refine Blk.drew ?_) | (with_reducible refine Blk.far3 ?_ ?_) | (with_reducible refine Blk.bel ?_ hb1) | (with_reducible refine Blk.bel ?_ hb2) | (with_reducible refine Blk.alloc ?_ _) | omega | (simp; omega) | (focus (simp; done)))
        · repeat (first | (with_reducible exact hW0) | (with_reducible refine bel_drew ?_) | (with_reducible refine bel_three ?_ ?_) | (with_reducible refine bel_step ?_ hb1) | (with_reducible refine bel_step ?_ hb2) | (with_reducible refine bel_alloc ?_ _) | omega | (simp; omega) | (focus (simp; done)))
    case rest =>
      obtain ⟨g, A1, c1, gm, rfl, hg, hX, hT, hM, hB, hW⟩ := hcut
      have hPt : PtsAt _ _ A1 ps := fun h0 => (Row.of_own (hT h0)).pts h0
      have hNt := (Row.of_own (show World.ownsRow _ _ _ _ (.slice (some ⟨gm, 0, none⟩) (List.replicate n (0 : Int)).length n) (List.replicate n (0 : Int)).length _ by rw [List.length_replicate]; exact hM)).nums
      have cX := hX.cell
      clear mk HC HV
      go_wp2_with fail
      refine (HR.out _ A1 c1 gm hPt hNt).mono ?_; rintro e w5 ⟨rfl, hb5⟩
      replace hX := hX.bel hb5
      replace hB := hB.bel hb5
      replace hT := fun h0 => own_bel (hT h0) hb5
      replace hM := own_bel hM hb5
      replace hW := bel_step hW hb5
      have cX5 := hX.cell
      have cB := hB.cell
      have fB := hB.frozen
      clear cX hPt hNt hb5
      rcases bcases (reachOk ps (valueV ps level) (List.replicate n 0)) with hr | hr
      · have hbo : bo = true := by rw [HB.out]; exact hr
        obtain ⟨rfl, rfl, e3⟩ := HY.out hbo
        have HE := Lib.hid (show zo = List.replicate n 0 by rw [e3]; simp)
        have HL := Lib.hid (show zo.length = n by rw [e3]; simp)
        subst hbo
        clear HY HN HB HR e3 HZ
        go_wp2
        refine bodyPost_ret (v := .tuple #[.agg #[.slice A1 po.length c1, .int .i64 (valueV po level), .slice (some ⟨gm, 0, none⟩) n n], .bool true]) ?_ rfl ⟨A1, c1, some ⟨gm, 0, none⟩, n, by rw [HL.out], ?_, ?_, ?_⟩
        · have c4 := three_cells hB
          simp [results, Try.results66, go_sem, c4]
        · exact (Row.of_own (own_three (hT (by have := tab_len (reach_true hr).1; omega)) hB ne1)).mono (by omega) (Nat.le_refl _)
        · rw [HL.out, HE.out]
          exact (Row.of_own (own_three hM hB ne2)).mono (by omega) (Nat.le_refl _)
        · exact ((hW.setCell (Nat.le_refl _) _).setCell (Nat.le_refl _) _).setCell (Nat.le_refl _) _
      · have hbo : bo = false := by rw [HB.out]; exact hr
        obtain ⟨rfl, rfl, rfl⟩ := HN.out hbo
        subst hbo
        clear HY HN HB HR HZ
        go_wp2
        refine bodyPost_ret (v := .tuple #[.agg #[.slice none 0 0, .int .i64 0, .slice none 0 0], .bool false]) ?_ rfl ⟨none, 0, none, 0, rfl, out_nil (((hW.setCell (Nat.le_refl _) _).setCell (Nat.le_refl _) _).setCell (Nat.le_refl _) _)⟩
        have c4 := three_cells hB
        simp [results, Try.results66, go_sem, c4]
  · have HB : newB ps level delay = false := by unfold newB; rw [h1]; rfl
    obtain ⟨e1, e2, e3⟩ := new_no HB
    rw [e1, e2, e3, HB]
    clear e1 e2 e3 HB HC HV
    go_enter Try.func66, Try.ntmps66
    go_wp2_with (go_at_call 46; refine (s_l01In _ _ _ _).mono ?_; rintro e w' ⟨rfl, rfl⟩)
    refine bodyPost_ret (v := .tuple #[.agg #[.slice none 0 0, .int .i64 0, .slice none 0 0], .bool false]) ?_ rfl ⟨none, 0, none, 0, rfl, out_nil hW0⟩
    have c4 := hB0.cell
    simp [results, Try.results66, go_sem, c4]
end Go.Proofs.Ytgbncfjabnaokab
