/- Contracts of TakeOff (program and reference). -/
import Derived.Test.YtgbncfjabnaokabMark
import Derived.Test.YtgbncfjabnaokabReL
namespace Go.Proofs.Ytgbncfjabnaokab
open Go.RowKit

theorem i_copy (tA : Option Addr) (tc : Nat) (ps : List (Int × Int)) (vol : Int) (pA : Option Addr) (pc : Nat) (zs : List Int) (H : Nat) (w : World) (hP : PtsAt w H tA ps) (hQ : NumsAt w H pA zs) (hH : H ≤ w.heap.size) (hn : ps.length ≤ 1048576) (hm : zs.length ≤ 1048576) :
    Calls Try.prog 39 #[.agg #[.slice tA ps.length tc, .int .i64 vol, .slice pA zs.length pc]] w (ReachOut w ps vol zs) := i_copyReach tA tc ps vol pA pc zs H w hP hQ hH hn hm
theorem s_copy (tA : Option Addr) (tc : Nat) (ps : List (Int × Int)) (vol : Int) (pA : Option Addr) (pc : Nat) (zs : List Int) (H : Nat) (w : World) (hP : PtsAt w H tA ps) (hQ : NumsAt w H pA zs) (hH : H ≤ w.heap.size) (hn : ps.length ≤ 1048576) (hm : zs.length ≤ 1048576) :
    Calls Try.prog 35 #[.agg #[.slice tA ps.length tc, .int .i64 vol, .slice pA zs.length pc]] w (ReachOut w ps vol zs) := s_l02Copy tA tc ps vol pA pc zs H w hP hQ hH hn hm
/-- A reach's memory in the call's own. -/
def OutR (w w' : World) (ps : List (Int × Int)) (zs : List Int) (tA : Option Addr) (tc : Nat) (pA : Option Addr) (pc : Nat) : Prop :=
  Row w' w.heap.size w'.heap.size 52 2 tA ps.length tc (cellsP ps) ∧ Row w' w.heap.size w'.heap.size 3 1 pA zs.length pc (cellsI zs) ∧ Below w.heap.size w w'
def TakeOut (w : World) (ps : List (Int × Int)) (vol : Int) (zs : List Int) (n : Int) (e : Ending) (w' : World) : Prop :=
  ∃ tA tc pA pc, e = .returned (.tuple #[.agg #[.slice tA ps.length tc, .int .i64 vol, .slice pA zs.length pc], .int .i64 n]) ∧ OutR w w' ps zs tA tc pA pc
/-- TakeOff. -/
def takeV (ps : List (Int × Int)) (vol : Int) (zs : List Int) (amount keep : Int) : Int :=
  if reachOk ps vol zs = true ∧ 0 ≤ amount ∧ 0 ≤ keep then (if vol - keep ≤ 0 then 0 else if amount ≤ vol - keep then amount else vol - keep) else 0
theorem take_no {ps : List (Int × Int)} {vol : Int} {zs : List Int} {amount keep : Int} (h : reachOk ps vol zs = false ∨ amount < 0 ∨ keep < 0) : takeV ps vol zs amount keep = 0 := by
  unfold takeV; rw [if_neg]; rintro ⟨h1, h2, h3⟩
  rcases h with h | h | h
  · rw [h] at h1; cases h1
  · omega
  · omega
theorem take_yes {ps : List (Int × Int)} {vol : Int} {zs : List Int} {amount keep : Int} (h : reachOk ps vol zs = true) (h2 : 0 ≤ amount) (h3 : 0 ≤ keep) : takeV ps vol zs amount keep = max 0 (min amount (vol - keep)) := by
  unfold takeV; rw [if_pos ⟨h, h2, h3⟩]; omega

theorem three_cells {W : World} {g : Nat} {t : TypeId} {x y z : Value} (h : Blk W g t #[x, y, z]) : ∀ (a b c : Value) (i : Nat), (((W.setCell ⟨g, 0, none⟩ a).setCell ⟨g, 1, none⟩ b).setCell ⟨g, 2, none⟩ c).cell? ⟨g, i, none⟩ = #[a, b, c][i]? :=
  fun a b c i => (((h.set_ 0 a).set_ 1 b).set_ 2 c).cell i
/-- After 'out := copy(r)' and a call that changes nothing. -/
theorem copy_c {w W0 w1 w3 : World} {xs ys cs : Array Value} {A1 A3 : Option Addr} {c1 c3 : Nat} {ps : List (Int × Int)} {zs : List Int} (hA0 : Blk W0 w.heap.size 29 xs) (hB0 : Blk W0 (w.heap.size + 1) 29 ys) (hW0 : Below w.heap.size w W0) (hz : W0.heap.size = w.heap.size + 1 + 1)
    (hR1 : Row w1 W0.heap.size w1.heap.size 52 2 A1 ps.length c1 (cellsP ps)) (hS1 : Row w1 W0.heap.size w1.heap.size 3 1 A3 zs.length c3 (cellsI zs)) (hb1 : Below W0.heap.size W0 w1)
    (hb3 : Below (w1.alloc (.cells cs 29)).heap.size (w1.alloc (.cells cs 29)) w3) :
    Blk w3 w.heap.size 29 xs ∧ Blk w3 (w.heap.size + 1) 29 ys ∧ Blk w3 w1.heap.size 29 cs ∧ Below w.heap.size w w3 ∧
      Row w3 (w.heap.size + 1 + 1) w1.heap.size 52 2 A1 ps.length c1 (cellsP ps) ∧ Row w3 (w.heap.size + 1 + 1) w1.heap.size 3 1 A3 zs.length c3 (cellsI zs) ∧ w.heap.size + 1 + 1 ≤ w1.heap.size ∧ w1.heap.size < w3.heap.size := by
  have hs1 := hb1.size
  have hb13 : Below w1.heap.size w1 w3 := ((Below.refl _ _).alloc (Nat.le_refl _) _).trans (hb3.mono (by simp))
  rw [hz] at hR1 hS1
  refine ⟨(hA0.below hb1 hA0.lt).below hb13 (by have := hA0.lt; omega), (hB0.below hb1 hB0.lt).below hb13 (by have := hB0.lt; omega), (Blk.new w1 _ _).below hb3 (by simp), (hW0.trans (hb1.mono hW0.size)).trans (hb13.mono (by omega)), hR1.below hb13 (Nat.le_refl _), hS1.below hb13 (Nat.le_refl _), by omega, by have := hb3.size; simp at this; omega⟩
/-- The start: the argument's box and the result's. -/
theorem start2 (w : World) (t : TypeId) (xs ys : Array Value) : Blk ((w.alloc (.cells xs t)).alloc (.cells ys t)) w.heap.size t xs ∧ Blk ((w.alloc (.cells xs t)).alloc (.cells ys t)) (w.heap.size + 1) t ys ∧ Below w.heap.size w ((w.alloc (.cells xs t)).alloc (.cells ys t)) ∧ ((w.alloc (.cells xs t)).alloc (.cells ys t)).heap.size = w.heap.size + 1 + 1 := by
  have hB0 := Blk.new (w.alloc (.cells xs t)) t ys
  simp only [World.size_alloc] at hB0
  exact ⟨(Blk.new w t xs).alloc _, hB0, ((Below.refl _ _).alloc (Nat.le_refl _) _).alloc (by simp) _, by simp⟩

/-- 'out.Volume = ..', ahead of the result's store. -/
theorem copy_d {w w3 : World} {g h1 : Nat} {ys : Array Value} {x0 x1 x2 u : Value} {A1 A3 : Option Addr} {c1 c3 : Nat} {ps : List (Int × Int)} {zs : List Int} (hB3 : Blk w3 (w.heap.size + 1) 29 ys) (hO3 : Blk w3 g 29 #[x0, x1, x2]) (hW3 : Below w.heap.size w w3)
    (hR3 : Row w3 (w.heap.size + 1 + 1) h1 52 2 A1 ps.length c1 (cellsP ps)) (hS3 : Row w3 (w.heap.size + 1 + 1) h1 3 1 A3 zs.length c3 (cellsI zs)) (hs1 : w.heap.size + 1 + 1 ≤ g) (hg : h1 ≤ g) :
    Blk (w3.setCell ⟨g, 1, none⟩ u) (w.heap.size + 1) 29 ys ∧ Blk (w3.setCell ⟨g, 1, none⟩ u) g 29 #[x0, u, x2] ∧ Below w.heap.size w (w3.setCell ⟨g, 1, none⟩ u) ∧
      Row (w3.setCell ⟨g, 1, none⟩ u) (w.heap.size + 1 + 1) h1 52 2 A1 ps.length c1 (cellsP ps) ∧ Row (w3.setCell ⟨g, 1, none⟩ u) (w.heap.size + 1 + 1) h1 3 1 A3 zs.length c3 (cellsI zs) ∧ (w3.setCell ⟨g, 1, none⟩ u).heap.size = w3.heap.size :=
  ⟨hB3.far (p := ⟨g, 1, none⟩) (by show _ ≠ g; omega) _, hO3.set_ 1 u, hW3.setCell (p := ⟨g, 1, none⟩) (by show _ ≤ g; omega) _,
    hR3.same (fun k a b => Below.heap_setCell _ _ _ _ (by show _ ≠ g; omega)), hS3.same (fun k a b => Below.heap_setCell _ _ _ _ (by show _ ≠ g; omega)), by simp [World.setCell]⟩
theorem take_end {w w9 : World} {lo hi : Nat} {a b c : Value} {ps : List (Int × Int)} {zs : List Int} {A1 A3 : Option Addr} {c1 c3 : Nat} (hlo : lo = w.heap.size + 1 + 1)
    (hRt : Row w9 lo hi 52 2 A1 ps.length c1 (cellsP ps)) (hRp : Row w9 lo hi 3 1 A3 zs.length c3 (cellsI zs)) (hhi : hi ≤ w9.heap.size) (hW9 : Below w.heap.size w w9) :
    OutR w (((w9.setCell ⟨w.heap.size + 1, 0, none⟩ a).setCell ⟨w.heap.size + 1, 1, none⟩ b).setCell ⟨w.heap.size + 1, 2, none⟩ c) ps zs A1 c1 A3 c3 :=
  reach_done (lo := lo) (by omega) (by omega) (hRt.mono (Nat.le_refl _) hhi) (hRp.mono (Nat.le_refl _) hhi) hW9

set_option maxHeartbeats 2000000 in
theorem i_TakeOff (tA : Option Addr) (tc : Nat) (ps : List (Int × Int)) (vol : Int) (pA : Option Addr) (pc : Nat) (zs : List Int) (amount keep : Int) (H : Nat) (w : World) (hP : PtsAt w H tA ps) (hQ : NumsAt w H pA zs) (hH : H ≤ w.heap.size) (hn : ps.length ≤ 1048576) (hm : zs.length ≤ 1048576) (ha : amount ≤ 9223372036854775807) (hk : keep ≤ 9223372036854775807) :
    Calls Try.prog 23 #[.agg #[.slice tA ps.length tc, .int .i64 vol, .slice pA zs.length pc], .int .i64 amount, .int .i64 keep] w (TakeOut w ps (vol - takeV ps vol zs amount keep) zs (takeV ps vol zs amount keep)) := by
  have HR := Lib.hid (fun (W : World) (hb : Below w.heap.size w W) => i_ReachOk tA tc ps vol pA pc zs H W (hP.below (hb.mono hH)) (hQ.below (hb.mono hH)) (Nat.le_trans hH hb.size) hn hm)
  have HC := Lib.hid (fun (W : World) (hb : Below w.heap.size w W) => i_copy tA tc ps vol pA pc zs H W (hP.below (hb.mono hH)) (hQ.below (hb.mono hH)) (Nat.le_trans hH hb.size) hn hm)
  clear hP hQ
  obtain ⟨hA0, hB0, hW0, hz0⟩ := start2 w 29 #[.slice tA ps.length tc, .int .i64 vol, .slice pA zs.length pc] #[.slice none 0 0, .int .i64 0, .slice none 0 0]
  have HZ := Lib.hid hz0
  have cA0 := hA0.cell
  clear hz0
  by_cases hok : reachOk ps vol zs = true ∧ 0 ≤ amount ∧ 0 ≤ keep
  · obtain ⟨h1, h2, h3⟩ := hok
    obtain ⟨_, v1, _, _, v2⟩ := reach_true h1
    have HV := Lib.hid (take_yes h1 (amount := amount) (keep := keep) (by omega) (by omega))
    generalize takeV ps vol zs amount keep = n at *
    have v1a := v1.1
    have v1b := v1.2
    rcases (show (vol - keep < amount ∧ 0 < vol - keep) ∨ (vol - keep < amount ∧ vol - keep ≤ 0) ∨ (amount ≤ vol - keep ∧ 0 < amount) ∨ (amount ≤ vol - keep ∧ amount ≤ 0) by omega) with ⟨q1, q2⟩ | ⟨q1, q2⟩ | ⟨q1, q2⟩ | ⟨q1, q2⟩
    all_goals
      go_enter Try.func23, Try.ntmps23
      go_wp2_with fail
      refine (HC.out _ hW0).mono ?_; rintro e w1 ⟨A1, c1, A3, c3, rfl, hR1, hS1, hb1⟩
      have HB1 := Lib.hid ((hW0.trans (hb1.mono hW0.size)).alloc (Nat.le_trans hW0.size hb1.size) (.cells #[.slice A1 ps.length c1, .int .i64 vol, .slice A3 zs.length c3] 29))
      have cA1 := ((hA0.below hb1 hA0.lt).alloc (.cells #[.slice A1 ps.length c1, .int .i64 vol, .slice A3 zs.length c3] 29)).cell
      clear cA0
      go_wp2_with fail
      refine (HR.out _ HB1.out).mono ?_; rintro e w3 ⟨rfl, hb3⟩
      obtain ⟨hA3, hB3, hO3, hW3, hR3, hS3, hs1, hs3⟩ := copy_c hA0 hB0 hW0 HZ.out hR1 hS1 hb1 hb3
      have cA := hA3.cell
      have cB := hB3.cell
      have fB := hB3.frozen
      have cO := hO3.cell
      have fO := hO3.frozen
      clear cA1 hb3 hb1 hR1 hS1 HB1 hA0 hB0 hW0
      go_wp2
      first
        | (obtain rfl : n = 0; · (have := HV.out; omega))
        | (obtain rfl : n = vol - keep; · (have := HV.out; omega))
        | (obtain rfl : amount = n; · (have := HV.out; omega))
      first
        | (obtain ⟨hB4, hO4, hW4, hR4, hS4, hs4⟩ := copy_d (u := .int .i64 (vol - (vol - keep))) hB3 hO3 hW3 hR3 hS3 hs1 (Nat.le_refl _)
           refine bodyPost_ret (v := .tuple #[.agg #[.slice A1 ps.length c1, .int .i64 (vol - (vol - keep)), .slice A3 zs.length c3], .int .i64 (vol - keep)]) ?_ rfl ⟨A1, c1, A3, c3, rfl, take_end rfl hR4 hS4 (by omega) hW4⟩)
        | (obtain ⟨hB4, hO4, hW4, hR4, hS4, hs4⟩ := copy_d (u := .int .i64 (vol - amount)) hB3 hO3 hW3 hR3 hS3 hs1 (Nat.le_refl _)
           refine bodyPost_ret (v := .tuple #[.agg #[.slice A1 ps.length c1, .int .i64 (vol - amount), .slice A3 zs.length c3], .int .i64 amount]) ?_ rfl ⟨A1, c1, A3, c3, rfl, take_end rfl hR4 hS4 (by omega) hW4⟩)
        | (obtain ⟨hB4, hO4, hW4, hR4, hS4, hs4⟩ := copy_d (u := .int .i64 (vol - 0)) hB3 hO3 hW3 hR3 hS3 hs1 (Nat.le_refl _)
           refine bodyPost_ret (v := .tuple #[.agg #[.slice A1 ps.length c1, .int .i64 (vol - 0), .slice A3 zs.length c3], .int .i64 0]) ?_ rfl ⟨A1, c1, A3, c3, rfl, take_end rfl hR4 hS4 (by omega) hW4⟩)
        | (rw [Int.sub_zero] at *
           obtain ⟨hB4, hO4, hW4, hR4, hS4, hs4⟩ := copy_d (u := .int .i64 vol) hB3 hO3 hW3 hR3 hS3 hs1 (Nat.le_refl _)
           refine bodyPost_ret (v := .tuple #[.agg #[.slice A1 ps.length c1, .int .i64 vol, .slice A3 zs.length c3], .int .i64 0]) ?_ rfl ⟨A1, c1, A3, c3, rfl, take_end rfl hR4 hS4 (by omega) hW4⟩)
      have c4 := three_cells hB4
      simp [results, Try.results23, go_sem, c4]
  · have HV := Lib.hid (take_no (ps := ps) (vol := vol) (zs := zs) (amount := amount) (keep := keep) (by
      rcases bcases (reachOk ps vol zs) with h | h
      · by_cases h2 : amount < 0
        · exact .inr (.inl h2)
        · by_cases h3 : keep < 0
          · exact .inr (.inr h3)
          · exact absurd ⟨h, by omega, by omega⟩ hok
      · exact .inl h))
    have hcs : reachOk ps vol zs = false ∨ (reachOk ps vol zs = true ∧ amount < 0) ∨ (reachOk ps vol zs = true ∧ 0 ≤ amount ∧ keep < 0) := by
      rcases bcases (reachOk ps vol zs) with h | h
      · by_cases h2 : amount < 0
        · exact .inr (.inl ⟨h, h2⟩)
        · by_cases h3 : keep < 0
          · exact .inr (.inr ⟨h, by omega, h3⟩)
          · exact absurd ⟨h, by omega, by omega⟩ hok
      · exact .inl h
    clear hok
    rw [HV.out, Int.sub_zero]
    go_enter Try.func23, Try.ntmps23
    go_wp2_with fail
    refine (HC.out _ hW0).mono ?_; rintro e w1 ⟨A1, c1, A3, c3, rfl, hR1, hS1, hb1⟩
    have HB1 := Lib.hid ((hW0.trans (hb1.mono hW0.size)).alloc (Nat.le_trans hW0.size hb1.size) (.cells #[.slice A1 ps.length c1, .int .i64 vol, .slice A3 zs.length c3] 29))
    have cA1 := ((hA0.below hb1 hA0.lt).alloc (.cells #[.slice A1 ps.length c1, .int .i64 vol, .slice A3 zs.length c3] 29)).cell
    clear cA0
    go_wp2_with fail
    refine (HR.out _ HB1.out).mono ?_; rintro e w3 ⟨rfl, hb3⟩
    obtain ⟨hA3, hB3, hO3, hW3, hR3, hS3, hs1, hs3⟩ := copy_c hA0 hB0 hW0 HZ.out hR1 hS1 hb1 hb3
    have cB := hB3.cell
    have fB := hB3.frozen
    have cO := hO3.cell
    clear cA1 hb3 hb1 hR1 hS1 HB1 hA0 hB0 hW0
    rcases hcs with h | ⟨h, q1⟩ | ⟨h, q1, q2⟩
    all_goals
      go_wp2
      refine bodyPost_ret (v := .tuple #[.agg #[.slice A1 ps.length c1, .int .i64 vol, .slice A3 zs.length c3], .int .i64 0]) ?_ rfl ⟨A1, c1, A3, c3, rfl, take_end rfl hR3 hS3 (by omega) hW3⟩
      have c4 := three_cells hB3
      simp [results, Try.results23, go_sem, c4]

set_option maxHeartbeats 2000000 in
theorem s_TakeOff (tA : Option Addr) (tc : Nat) (ps : List (Int × Int)) (vol : Int) (pA : Option Addr) (pc : Nat) (zs : List Int) (amount keep : Int) (H : Nat) (w : World) (hP : PtsAt w H tA ps) (hQ : NumsAt w H pA zs) (hH : H ≤ w.heap.size) (hn : ps.length ≤ 1048576) (hm : zs.length ≤ 1048576) (ha : amount ≤ 9223372036854775807) (hk : keep ≤ 9223372036854775807) :
    Calls Try.prog 48 #[.agg #[.slice tA ps.length tc, .int .i64 vol, .slice pA zs.length pc], .int .i64 amount, .int .i64 keep] w (TakeOut w ps (vol - takeV ps vol zs amount keep) zs (takeV ps vol zs amount keep)) := by
  have HR := Lib.hid (fun (W : World) (hb : Below w.heap.size w W) => s_ReachOk tA tc ps vol pA pc zs H W (hP.below (hb.mono hH)) (hQ.below (hb.mono hH)) (Nat.le_trans hH hb.size) hn hm)
  have HC := Lib.hid (fun (W : World) (hb : Below w.heap.size w W) => s_copy tA tc ps vol pA pc zs H W (hP.below (hb.mono hH)) (hQ.below (hb.mono hH)) (Nat.le_trans hH hb.size) hn hm)
  clear hP hQ
  obtain ⟨hA0, hB0, hW0, hz0⟩ := start2 w 29 #[.slice tA ps.length tc, .int .i64 vol, .slice pA zs.length pc] #[.slice none 0 0, .int .i64 0, .slice none 0 0]
  have HZ := Lib.hid hz0
  have cA0 := hA0.cell
  clear hz0
  by_cases hok : reachOk ps vol zs = true ∧ 0 ≤ amount ∧ 0 ≤ keep
  · obtain ⟨h1, h2, h3⟩ := hok
    obtain ⟨_, v1, _, _, v2⟩ := reach_true h1
    have HV := Lib.hid (take_yes h1 (amount := amount) (keep := keep) (by omega) (by omega))
    generalize takeV ps vol zs amount keep = n at *
    have v1a := v1.1
    have v1b := v1.2
    rcases (show (vol - keep < amount ∧ 0 < vol - keep) ∨ (vol - keep < amount ∧ vol - keep ≤ 0) ∨ (amount ≤ vol - keep ∧ 0 < amount) ∨ (amount ≤ vol - keep ∧ amount ≤ 0) by omega) with ⟨q1, q2⟩ | ⟨q1, q2⟩ | ⟨q1, q2⟩ | ⟨q1, q2⟩
    all_goals
      go_enter Try.func48, Try.ntmps48
      go_wp2_with fail
      refine (HC.out _ hW0).mono ?_; rintro e w1 ⟨A1, c1, A3, c3, rfl, hR1, hS1, hb1⟩
      have HB1 := Lib.hid ((hW0.trans (hb1.mono hW0.size)).alloc (Nat.le_trans hW0.size hb1.size) (.cells #[.slice A1 ps.length c1, .int .i64 vol, .slice A3 zs.length c3] 29))
      have cA1 := ((hA0.below hb1 hA0.lt).alloc (.cells #[.slice A1 ps.length c1, .int .i64 vol, .slice A3 zs.length c3] 29)).cell
      clear cA0
      go_wp2_with fail
      refine (HR.out _ HB1.out).mono ?_; rintro e w3 ⟨rfl, hb3⟩
      obtain ⟨hA3, hB3, hO3, hW3, hR3, hS3, hs1, hs3⟩ := copy_c hA0 hB0 hW0 HZ.out hR1 hS1 hb1 hb3
      have cA := hA3.cell
      have cB := hB3.cell
      have fB := hB3.frozen
      have cO := hO3.cell
      have fO := hO3.frozen
      clear cA1 hb3 hb1 hR1 hS1 HB1 hA0 hB0 hW0
      go_wp2
      first
        | (obtain rfl : n = 0; · (have := HV.out; omega))
        | (obtain rfl : n = vol - keep; · (have := HV.out; omega))
        | (obtain rfl : amount = n; · (have := HV.out; omega))
      first
        | (obtain ⟨hB4, hO4, hW4, hR4, hS4, hs4⟩ := copy_d (u := .int .i64 (vol - (vol - keep))) hB3 hO3 hW3 hR3 hS3 hs1 (Nat.le_refl _)
           refine bodyPost_ret (v := .tuple #[.agg #[.slice A1 ps.length c1, .int .i64 (vol - (vol - keep)), .slice A3 zs.length c3], .int .i64 (vol - keep)]) ?_ rfl ⟨A1, c1, A3, c3, rfl, take_end rfl hR4 hS4 (by omega) hW4⟩)
        | (obtain ⟨hB4, hO4, hW4, hR4, hS4, hs4⟩ := copy_d (u := .int .i64 (vol - amount)) hB3 hO3 hW3 hR3 hS3 hs1 (Nat.le_refl _)
           refine bodyPost_ret (v := .tuple #[.agg #[.slice A1 ps.length c1, .int .i64 (vol - amount), .slice A3 zs.length c3], .int .i64 amount]) ?_ rfl ⟨A1, c1, A3, c3, rfl, take_end rfl hR4 hS4 (by omega) hW4⟩)
        | (obtain ⟨hB4, hO4, hW4, hR4, hS4, hs4⟩ := copy_d (u := .int .i64 (vol - 0)) hB3 hO3 hW3 hR3 hS3 hs1 (Nat.le_refl _)
           refine bodyPost_ret (v := .tuple #[.agg #[.slice A1 ps.length c1, .int .i64 (vol - 0), .slice A3 zs.length c3], .int .i64 0]) ?_ rfl ⟨A1, c1, A3, c3, rfl, take_end rfl hR4 hS4 (by omega) hW4⟩)
        | (rw [Int.sub_zero] at *
           obtain ⟨hB4, hO4, hW4, hR4, hS4, hs4⟩ := copy_d (u := .int .i64 vol) hB3 hO3 hW3 hR3 hS3 hs1 (Nat.le_refl _)
           refine bodyPost_ret (v := .tuple #[.agg #[.slice A1 ps.length c1, .int .i64 vol, .slice A3 zs.length c3], .int .i64 0]) ?_ rfl ⟨A1, c1, A3, c3, rfl, take_end rfl hR4 hS4 (by omega) hW4⟩)
      have c4 := three_cells hB4
      simp [results, Try.results48, go_sem, c4]
  · have HV := Lib.hid (take_no (ps := ps) (vol := vol) (zs := zs) (amount := amount) (keep := keep) (by
      rcases bcases (reachOk ps vol zs) with h | h
      · by_cases h2 : amount < 0
        · exact .inr (.inl h2)
        · by_cases h3 : keep < 0
          · exact .inr (.inr h3)
          · exact absurd ⟨h, by omega, by omega⟩ hok
      · exact .inl h))
    have hcs : reachOk ps vol zs = false ∨ (reachOk ps vol zs = true ∧ amount < 0) ∨ (reachOk ps vol zs = true ∧ 0 ≤ amount ∧ keep < 0) := by
      rcases bcases (reachOk ps vol zs) with h | h
      · by_cases h2 : amount < 0
        · exact .inr (.inl ⟨h, h2⟩)
        · by_cases h3 : keep < 0
          · exact .inr (.inr ⟨h, by omega, h3⟩)
          · exact absurd ⟨h, by omega, by omega⟩ hok
      · exact .inl h
    clear hok
    rw [HV.out, Int.sub_zero]
    go_enter Try.func48, Try.ntmps48
    go_wp2_with fail
    refine (HC.out _ hW0).mono ?_; rintro e w1 ⟨A1, c1, A3, c3, rfl, hR1, hS1, hb1⟩
    have HB1 := Lib.hid ((hW0.trans (hb1.mono hW0.size)).alloc (Nat.le_trans hW0.size hb1.size) (.cells #[.slice A1 ps.length c1, .int .i64 vol, .slice A3 zs.length c3] 29))
    have cA1 := ((hA0.below hb1 hA0.lt).alloc (.cells #[.slice A1 ps.length c1, .int .i64 vol, .slice A3 zs.length c3] 29)).cell
    clear cA0
    go_wp2_with fail
    refine (HR.out _ HB1.out).mono ?_; rintro e w3 ⟨rfl, hb3⟩
    obtain ⟨hA3, hB3, hO3, hW3, hR3, hS3, hs1, hs3⟩ := copy_c hA0 hB0 hW0 HZ.out hR1 hS1 hb1 hb3
    have cB := hB3.cell
    have fB := hB3.frozen
    have cO := hO3.cell
    clear cA1 hb3 hb1 hR1 hS1 HB1 hA0 hB0 hW0
    rcases hcs with h | ⟨h, q1⟩ | ⟨h, q1, q2⟩
    all_goals
      go_wp2
      refine bodyPost_ret (v := .tuple #[.agg #[.slice A1 ps.length c1, .int .i64 vol, .slice A3 zs.length c3], .int .i64 0]) ?_ rfl ⟨A1, c1, A3, c3, rfl, take_end rfl hR3 hS3 (by omega) hW3⟩
      have c4 := three_cells hB3
      simp [results, Try.results48, go_sem, c4]
end Go.Proofs.Ytgbncfjabnaokab
