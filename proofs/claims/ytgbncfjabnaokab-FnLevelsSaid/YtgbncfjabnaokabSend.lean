/- Contracts of SendTo (program and reference). -/
import Derived.Test.YtgbncfjabnaokabOwn
import Derived.RegionTactic
import Derived.ChangeAlike
namespace Go.Proofs.Ytgbncfjabnaokab
open Go.RowKit

/-- SendTo. -/
def sendB (ps : List (Int × Int)) (vol : Int) (zs : List Int) (amount : Int) : Bool := reachOk ps vol zs && inR amount 0 (spaceV ps vol zs)
def sendVol (ps : List (Int × Int)) (vol : Int) (zs : List Int) (amount : Int) : Int := if sendB ps vol zs amount = true ∧ zs.length = 0 then vol + amount else vol
def sendZ (ps : List (Int × Int)) (vol : Int) (zs : List Int) (amount : Int) : List Int := if sendB ps vol zs amount = true ∧ zs.length ≠ 0 then zs.set (zs.length - 1) (zs.getD (zs.length - 1) 0 + amount) else zs
theorem sendZ_len (ps : List (Int × Int)) (vol : Int) (zs : List Int) (amount : Int) : (sendZ ps vol zs amount).length = zs.length := by unfold sendZ; split <;> simp
theorem send_no {ps : List (Int × Int)} {vol : Int} {zs : List Int} {amount : Int} (h : sendB ps vol zs amount = false) : sendVol ps vol zs amount = vol ∧ sendZ ps vol zs amount = zs := by
  unfold sendVol sendZ; rw [h]; simp
theorem send_vol {ps : List (Int × Int)} {vol : Int} {zs : List Int} {amount : Int} (h : sendB ps vol zs amount = true) (h0 : zs.length = 0) : sendVol ps vol zs amount = vol + amount ∧ sendZ ps vol zs amount = zs := by
  unfold sendVol sendZ; rw [h]; simp [h0]
theorem send_pipe {ps : List (Int × Int)} {vol : Int} {zs : List Int} {amount : Int} (h : sendB ps vol zs amount = true) (h0 : 0 < zs.length) : sendVol ps vol zs amount = vol ∧ sendZ ps vol zs amount = zs.set (zs.length - 1) (zs.getD (zs.length - 1) 0 + amount) := by
  unfold sendVol sendZ; rw [h, if_neg (by omega), if_pos ⟨rfl, by omega⟩]; exact ⟨rfl, rfl⟩
theorem cellsI_set (zs : List Int) (j : Nat) (v : Int) : cellsI (zs.set j v) = (cellsI zs).set j (.int .i64 v) := by simp [cellsI]

/-- After 'out := copy(r)': the boxes and the copy, in words that are kept. -/
theorem copy_e {w W0 w1 : World} {xs ys cs : Array Value} {A1 A3 : Option Addr} {c1 c3 : Nat} {ps : List (Int × Int)} {zs : List Int} (hA0 : Blk W0 w.heap.size 29 xs) (hB0 : Blk W0 (w.heap.size + 1) 29 ys) (hW0 : Below w.heap.size w W0) (hz : W0.heap.size = w.heap.size + 1 + 1)
    (hR1 : Row w1 W0.heap.size w1.heap.size 52 2 A1 ps.length c1 (cellsP ps)) (hS1 : Row w1 W0.heap.size w1.heap.size 3 1 A3 zs.length c3 (cellsI zs)) (hb1 : Below W0.heap.size W0 w1) :
    Blk (w1.alloc (.cells cs 29)) w.heap.size 29 xs ∧ Blk (w1.alloc (.cells cs 29)) (w.heap.size + 1) 29 ys ∧ Blk (w1.alloc (.cells cs 29)) w1.heap.size 29 cs ∧ Below w.heap.size w (w1.alloc (.cells cs 29)) ∧
      RO (w1.alloc (.cells cs 29)) (w.heap.size + 1 + 1) w1.heap.size ps zs A1 c1 A3 c3 ∧ w.heap.size + 1 + 1 ≤ w1.heap.size := by
  have hb13 : Below w1.heap.size w1 (w1.alloc (.cells cs 29)) := (Below.refl _ _).alloc (Nat.le_refl _) _
  have O := (RO.mk_ (lo := w.heap.size + 1 + 1) hR1 hS1 (by omega)).bel hb13
  exact ⟨(hA0.bel hb1).bel hb13, (hB0.bel hb1).bel hb13, Blk.new _ _ _, bel_step (bel_step hW0 hb1) hb13, O, by have := hb1.size; omega⟩
/-- The result's store. -/
theorem send_end {w w9 : World} {lo hi : Nat} {a b c : Value} {ps : List (Int × Int)} {zs : List Int} {A1 A3 : Option Addr} {c1 c3 : Nat} (hlo : w.heap.size + 1 + 1 = lo) (h : RO w9 lo hi ps zs A1 c1 A3 c3) (hW9 : Below w.heap.size w w9) :
    OutR w (((w9.setCell ⟨w.heap.size + 1, 0, none⟩ a).setCell ⟨w.heap.size + 1, 1, none⟩ b).setCell ⟨w.heap.size + 1, 2, none⟩ c) ps zs A1 c1 A3 c3 :=
  reach_done (lo := lo) (by omega) (by omega) (h.1.mono (Nat.le_refl _) h.2.2) (h.2.1.mono (Nat.le_refl _) h.2.2) hW9
theorem RO.far {W : World} {lo hi : Nat} {ps : List (Int × Int)} {zs : List Int} {tA : Option Addr} {tc : Nat} {pA : Option Addr} {pc : Nat} (h : RO W lo hi ps zs tA tc pA pc) {p : Addr} (hp : hi ≤ p.block) (u : Value) : RO (W.setCell p u) lo hi ps zs tA tc pA pc :=
  ⟨h.1.same (fun g _ h2 => Below.heap_setCell _ _ _ _ (by omega)), h.2.1.same (fun g _ h2 => Below.heap_setCell _ _ _ _ (by omega)), by simpa [World.setCell] using h.2.2⟩
/-- One number of the pipe is stored. -/
theorem RO.store {W : World} {lo hi : Nat} {ps : List (Int × Int)} {zs : List Int} {tA : Option Addr} {tc g pc : Nat} (h : RO W lo hi ps zs tA tc (some ⟨g, 0, none⟩) pc) (j : Nat) (v : Int) :
    RO (W.setCell ⟨g, j, none⟩ (.int .i64 v)) lo hi ps (zs.set j v) tA tc (some ⟨g, 0, none⟩) pc := by
  have s := h.2.1.1.stored j (.int .i64 v)
  refine ⟨h.2.1.other h.1 (by decide) (by simpa using s.2), ⟨?_, h.2.1.2⟩, by simpa [World.setCell] using h.2.2⟩
  rw [cellsI_set, List.length_set]; exact s.1
theorem RO.at_ {W : World} {lo hi : Nat} {ps : List (Int × Int)} {zs : List Int} {tA : Option Addr} {tc : Nat} {pA : Option Addr} {pc : Nat} (h : RO W lo hi ps zs tA tc pA pc) (hn : 0 < zs.length) :
    ∃ g, pA = some ⟨g, 0, none⟩ ∧ lo ≤ g ∧ g < hi ∧ (∀ j, j < zs.length → W.cell? ⟨g, j, none⟩ = some (.int .i64 (zs.getD j 0))) ∧ (∀ j, W.frozen? ⟨g, j, none⟩ = false) := by
  obtain ⟨g, e, h1, h2, _, h3, h4⟩ := h.2.1.form hn
  exact ⟨g, e, h1, h2, fun j hj => by rw [h3 j (by omega)]; exact cellsI_at zs j hj, h4⟩

theorem OutR.drew {w w' : World} {ps : List (Int × Int)} {zs : List Int} {tA : Option Addr} {tc : Nat} {pA : Option Addr} {pc : Nat} (h : OutR w w' ps zs tA tc pA pc) : OutR w w'.drew ps zs tA tc pA pc := ⟨h.1, h.2.1, h.2.2.drew⟩
theorem send_cases (ps : List (Int × Int)) (vol : Int) (zs : List Int) (amount : Int) :
    (sendB ps vol zs amount = false ∧ (reachOk ps vol zs = false ∨ (reachOk ps vol zs = true ∧ amount < 0 ∧ inR amount 0 (spaceV ps vol zs) = false) ∨ (reachOk ps vol zs = true ∧ 0 ≤ amount ∧ spaceV ps vol zs < amount ∧ inR amount 0 (spaceV ps vol zs) = false))) ∨
    (sendB ps vol zs amount = true ∧ reachOk ps vol zs = true ∧ 0 ≤ amount ∧ amount ≤ spaceV ps vol zs ∧ inR amount 0 (spaceV ps vol zs) = true) := by
  unfold sendB
  rcases bcases (reachOk ps vol zs) with h | h
  · by_cases h2 : amount < 0
    · have := inR_no (n := amount) (lo := 0) (hi := spaceV ps vol zs) (.inl h2)
      exact .inl ⟨by rw [this]; simp, .inr (.inl ⟨h, h2, this⟩)⟩
    · by_cases h3 : spaceV ps vol zs < amount
      · have := inR_no (n := amount) (lo := 0) (hi := spaceV ps vol zs) (.inr h3)
        exact .inl ⟨by rw [this]; simp, .inr (.inr ⟨h, by omega, h3, this⟩)⟩
      · have := inR_mk (n := amount) (lo := 0) (hi := spaceV ps vol zs) (by omega) (by omega)
        exact .inr ⟨by rw [this, h]; rfl, h, by omega, by omega, this⟩
  · exact .inl ⟨by rw [h]; rfl, .inl h⟩

set_option maxHeartbeats 4000000 in
theorem i_SendTo (tA : Option Addr) (tc : Nat) (ps : List (Int × Int)) (vol : Int) (pA : Option Addr) (pc : Nat) (zs : List Int) (amount : Int) (H : Nat) (w : World) (hP : PtsAt w H tA ps) (hQ : NumsAt w H pA zs) (hH : H ≤ w.heap.size) (hn : ps.length ≤ 1048576) (hm : zs.length ≤ 1048576) :
    Calls Try.prog 17 #[.agg #[.slice tA ps.length tc, .int .i64 vol, .slice pA zs.length pc], .int .i64 amount] w (ReachOut w ps (sendVol ps vol zs amount) (sendZ ps vol zs amount)) := by
  have HR := Lib.hid (fun (W : World) (hb : Below w.heap.size w W) => i_ReachOk tA tc ps vol pA pc zs H W (hP.below (hb.mono hH)) (hQ.below (hb.mono hH)) (Nat.le_trans hH hb.size) hn hm)
  have HI := Lib.hid (fun (W : World) (hb : Below w.heap.size w W) => i_SpaceIn tA tc ps vol pA pc zs H W (hP.below (hb.mono hH)) (hQ.below (hb.mono hH)) (Nat.le_trans hH hb.size) hn hm)
  have HC := Lib.hid (fun (W : World) (hb : Below w.heap.size w W) => i_copy tA tc ps vol pA pc zs H W (hP.below (hb.mono hH)) (hQ.below (hb.mono hH)) (Nat.le_trans hH hb.size) hn hm)
  clear hP hQ
  obtain ⟨hA0, hB0, hW0, hz0⟩ := start2 w 29 #[.slice tA ps.length tc, .int .i64 vol, .slice pA zs.length pc] #[.slice none 0 0, .int .i64 0, .slice none 0 0]
  have HZ := Lib.hid hz0
  have cA0 := hA0.cell
  clear hz0
  have hsp := space_bd (ps := ps) (vol := vol) (zs := zs)
  have HN := Lib.hid (fun h => send_no (ps := ps) (vol := vol) (zs := zs) (amount := amount) h)
  have HV := Lib.hid (fun h h0 => send_vol (ps := ps) (vol := vol) (zs := zs) (amount := amount) h h0)
  have HU := Lib.hid (fun h h0 => send_pipe (ps := ps) (vol := vol) (zs := zs) (amount := amount) h h0)
  have HCS := Lib.hid (send_cases ps vol zs amount)
  generalize sendVol ps vol zs amount = vo at *
  generalize sendZ ps vol zs amount = zo at *
  go_enter Try.func17, Try.ntmps17
  go_wp2_with fail
  refine (HC.out _ hW0).mono ?_; rintro e w1 ⟨A1, c1, A3, c3, rfl, hR1, hS1, hb1⟩
  obtain ⟨hA, hB, hO, hW, O, hs1⟩ := copy_e (cs := #[.slice A1 ps.length c1, .int .i64 vol, .slice A3 zs.length c3]) hA0 hB0 hW0 HZ.out hR1 hS1 hb1
  clear cA0 hA0 hB0 hW0 hR1 hS1 hb1
  have cA := hA.cell
  go_wp2_with fail
  refine (HR.out _ hW).mono ?_; rintro e w3 ⟨rfl, hb3⟩
  replace hA := hA.bel hb3
  replace hB := hB.bel hb3
  replace hO := hO.bel hb3
  replace hW := bel_step hW hb3
  replace O := O.bel hb3
  clear cA hb3
  rcases HCS.out with ⟨hsb, h | ⟨h, q1, q2⟩ | ⟨h, q1, q2, q3⟩⟩ | ⟨hsb, h, q1, q2, q3⟩
  · obtain ⟨rfl, rfl⟩ := HN.out hsb
    clear HI hsb
    have cB := hB.cell
    have fB := hB.frozen
    have cO := hO.cell
    go_wp2
    refine bodyPost_ret (v := .agg #[.slice A1 ps.length c1, .int .i64 vo, .slice A3 zo.length c3]) ?_ rfl ⟨A1, c1, A3, c3, rfl, send_end rfl O hW⟩
    have c4 := three_cells hB
    simp [results, Try.results17, go_sem, c4]
  · obtain ⟨rfl, rfl⟩ := HN.out hsb
    clear HI hsb
    have cB := hB.cell
    have fB := hB.frozen
    have cO := hO.cell
    go_wp2
    refine bodyPost_ret (v := .agg #[.slice A1 ps.length c1, .int .i64 vo, .slice A3 zo.length c3]) ?_ rfl ⟨A1, c1, A3, c3, rfl, send_end rfl O hW⟩
    have c4 := three_cells hB
    simp [results, Try.results17, go_sem, c4]
  · obtain ⟨rfl, rfl⟩ := HN.out hsb
    clear hsb
    have cA := hA.cell
    go_wp2_with fail
    refine (HI.out _ hW).mono ?_; rintro e w4 ⟨rfl, hb4⟩
    replace hB := hB.bel hb4
    replace hO := hO.bel hb4
    replace hW := bel_step hW hb4
    replace O := O.bel hb4
    have cB := hB.cell
    have fB := hB.frozen
    have cO := hO.cell
    clear cA hb4
    go_wp2
    refine bodyPost_ret (v := .agg #[.slice A1 ps.length c1, .int .i64 vo, .slice A3 zo.length c3]) ?_ rfl ⟨A1, c1, A3, c3, rfl, send_end rfl O hW⟩
    have c4 := three_cells hB
    simp [results, Try.results17, go_sem, c4]
  · obtain ⟨_, v1, v3, _, v2⟩ := reach_true h
    have cA := hA.cell
    go_wp2_with fail
    refine (HI.out _ hW).mono ?_; rintro e w4 ⟨rfl, hb4⟩
    replace hB := hB.bel hb4
    replace hO := hO.bel hb4
    replace hW := bel_step hW hb4
    replace O := O.bel hb4
    have cB := hB.cell
    have fB := hB.frozen
    have cO := hO.cell
    have fO := hO.frozen
    clear cA hb4
    by_cases h0 : zs.length = 0
    · obtain ⟨e1, e2⟩ := HV.out hsb h0
      obtain rfl : zo = [] := by rw [e2]; exact List.eq_nil_of_length_eq_zero h0
      obtain rfl := e1
      obtain rfl : zs = [] := List.eq_nil_of_length_eq_zero h0
      clear hsb e2 h0
      have hO5 := hO.set_ 1 (.int .i64 (vol + amount))
      have hB5 := hB.far (p := ⟨w1.heap.size, 1, none⟩) (by show _ ≠ w1.heap.size; omega) (.int .i64 (vol + amount))
      have O5 := O.far (p := ⟨w1.heap.size, 1, none⟩) (Nat.le_refl _) (.int .i64 (vol + amount))
      have hW5 := hW.setCell (p := ⟨w1.heap.size, 1, none⟩) (by show _ ≤ w1.heap.size; omega) (.int .i64 (vol + amount))
      go_wp2
      refine bodyPost_ret (v := .agg #[.slice A1 ps.length c1, .int .i64 (vol + amount), .slice A3 0 c3]) ?_ rfl ⟨A1, c1, A3, c3, rfl, send_end rfl O5 hW5⟩
      have c4 := three_cells hB5
      simp [results, Try.results17, go_sem, c4]
    · obtain ⟨rfl, rfl⟩ := HU.out hsb (by omega)
      obtain ⟨g, rfl, g1, g2, gc, gf⟩ := O.at_ (by omega)
      have cz := gc (zs.length - 1) (by omega)
      have fz := gf (zs.length - 1)
      have O5 := O.store (zs.length - 1) (zs.getD (zs.length - 1) 0 + amount)
      have hB5 := hB.far (p := ⟨g, zs.length - 1, none⟩) (by show _ ≠ g; omega) (.int .i64 (zs.getD (zs.length - 1) 0 + amount))
      have hO5 := hO.far (p := ⟨g, zs.length - 1, none⟩) (by show _ ≠ g; omega) (.int .i64 (zs.getD (zs.length - 1) 0 + amount))
      have hW5 := hW.setCell (p := ⟨g, zs.length - 1, none⟩) (by show _ ≤ g; omega) (.int .i64 (zs.getD (zs.length - 1) 0 + amount))
      have HLn := Lib.hid (show (zs.set (zs.length - 1) (zs.getD (zs.length - 1) 0 + amount)).length = zs.length by simp)
      have zb := pipeIn_of h (zs.length - 1) (by omega)
      have z1 : 1 ≤ zs.length := by omega
      have g0 : (1 : Int) ≤ (zs.length : Int) := by omega
      have g3 : (0 : Int) ≤ (zs.length : Int) - 1 := by omega
      have g4 : (zs.length : Int) - 1 < (zs.length : Int) := by omega
      have HR5 := Lib.hid (show OutR w _ ps (zs.set (zs.length - 1) (zs.getD (zs.length - 1) 0 + amount)) A1 c1 (some ⟨g, 0, none⟩) c3 from send_end (a := .slice A1 ps.length c1) (b := .int .i64 vo) (c := .slice (some ⟨g, 0, none⟩) zs.length c3) rfl O5 hW5)
      clear gc gf hsb h0 O O5 HI HC HR HCS
      generalize hzz : zs.getD (zs.length - 1) 0 = z at *
      clear hzz
      go_wp2
      refine bodyPost_ret (v := .agg #[.slice A1 ps.length c1, .int .i64 vo, .slice (some ⟨g, 0, none⟩) zs.length c3]) ?_ rfl ⟨A1, c1, some ⟨g, 0, none⟩, c3, by rw [HLn.out], HR5.out⟩
      have c4 := three_cells hB5
      simp [results, Try.results17, go_sem, c4]
set_option maxHeartbeats 4000000 in
theorem s_SendTo (tA : Option Addr) (tc : Nat) (ps : List (Int × Int)) (vol : Int) (pA : Option Addr) (pc : Nat) (zs : List Int) (amount : Int) (H : Nat) (w : World) (hP : PtsAt w H tA ps) (hQ : NumsAt w H pA zs) (hH : H ≤ w.heap.size) (hn : ps.length ≤ 1048576) (hm : zs.length ≤ 1048576) :
    Calls Try.prog 16 #[.agg #[.slice tA ps.length tc, .int .i64 vol, .slice pA zs.length pc], .int .i64 amount] w (ReachOut w ps (sendVol ps vol zs amount) (sendZ ps vol zs amount)) := by
  have HR := Lib.hid (fun (W : World) (hb : Below w.heap.size w W) => s_ReachOk tA tc ps vol pA pc zs H W (hP.below (hb.mono hH)) (hQ.below (hb.mono hH)) (Nat.le_trans hH hb.size) hn hm)
  have HI := Lib.hid (fun (W : World) (hb : Below w.heap.size w W) => s_SpaceIn tA tc ps vol pA pc zs H W (hP.below (hb.mono hH)) (hQ.below (hb.mono hH)) (Nat.le_trans hH hb.size) hn hm)
  have HC := Lib.hid (fun (W : World) (hb : Below w.heap.size w W) => s_copy tA tc ps vol pA pc zs H W (hP.below (hb.mono hH)) (hQ.below (hb.mono hH)) (Nat.le_trans hH hb.size) hn hm)
  clear hP hQ
  obtain ⟨hA0, hB0, hW0, hz0⟩ := start2 w 29 #[.slice tA ps.length tc, .int .i64 vol, .slice pA zs.length pc] #[.slice none 0 0, .int .i64 0, .slice none 0 0]
  have HZ := Lib.hid hz0
  have cA0 := hA0.cell
  clear hz0
  have hsp := space_bd (ps := ps) (vol := vol) (zs := zs)
  have HN := Lib.hid (fun h => send_no (ps := ps) (vol := vol) (zs := zs) (amount := amount) h)
  have HV := Lib.hid (fun h h0 => send_vol (ps := ps) (vol := vol) (zs := zs) (amount := amount) h h0)
  have HU := Lib.hid (fun h h0 => send_pipe (ps := ps) (vol := vol) (zs := zs) (amount := amount) h h0)
  have HCS := Lib.hid (send_cases ps vol zs amount)
  generalize sendVol ps vol zs amount = vo at *
  generalize sendZ ps vol zs amount = zo at *
  go_enter Try.func16, Try.ntmps16
  go_wp2_with fail
  refine (HC.out _ hW0).mono ?_; rintro e w1 ⟨A1, c1, A3, c3, rfl, hR1, hS1, hb1⟩
  obtain ⟨hA, hB, hO, hW, O, hs1⟩ := copy_e (cs := #[.slice A1 ps.length c1, .int .i64 vol, .slice A3 zs.length c3]) hA0 hB0 hW0 HZ.out hR1 hS1 hb1
  clear cA0 hA0 hB0 hW0 hR1 hS1 hb1
  have cA := hA.cell
  go_wp2_with fail
  refine (HR.out _ hW).mono ?_; rintro e w3 ⟨rfl, hb3⟩
  replace hA := hA.bel hb3
  replace hB := hB.bel hb3
  replace hO := hO.bel hb3
  replace hW := bel_step hW hb3
  replace O := O.bel hb3
  clear cA hb3
  rcases HCS.out with ⟨hsb, h | ⟨h, q1, q2⟩ | ⟨h, q1, q2, q3⟩⟩ | ⟨hsb, h, q1, q2, q3⟩
  · obtain ⟨rfl, rfl⟩ := HN.out hsb
    clear HI hsb
    have cB := hB.cell
    have fB := hB.frozen
    have cO := hO.cell
    go_wp2_with (go_at_call 46; refine (s_l01In _ _ _ _).mono ?_; rintro e w' ⟨rfl, rfl⟩)
    refine bodyPost_ret (v := .agg #[.slice A1 ps.length c1, .int .i64 vo, .slice A3 zo.length c3]) ?_ rfl ⟨A1, c1, A3, c3, rfl, send_end rfl O hW⟩
    have c4 := three_cells hB
    simp [results, Try.results16, go_sem, c4]
  · obtain ⟨rfl, rfl⟩ := HN.out hsb
    clear hsb
    have cA := hA.cell
    go_wp2_with fail
    refine (HI.out _ hW).mono ?_; rintro e w4 ⟨rfl, hb4⟩
    replace hB := hB.bel hb4
    replace hO := hO.bel hb4
    replace hW := bel_step hW hb4
    replace O := O.bel hb4
    have cB := hB.cell
    have fB := hB.frozen
    have cO := hO.cell
    clear cA hb4
    go_wp2_with (go_at_call 46; refine (s_l01In _ _ _ _).mono ?_; rintro e w' ⟨rfl, rfl⟩)
    refine bodyPost_ret (v := .agg #[.slice A1 ps.length c1, .int .i64 vo, .slice A3 zo.length c3]) ?_ rfl ⟨A1, c1, A3, c3, rfl, send_end rfl O hW⟩
    have c4 := three_cells hB
    simp [results, Try.results16, go_sem, c4]
  · obtain ⟨rfl, rfl⟩ := HN.out hsb
    clear hsb
    have cA := hA.cell
    go_wp2_with fail
    refine (HI.out _ hW).mono ?_; rintro e w4 ⟨rfl, hb4⟩
    replace hB := hB.bel hb4
    replace hO := hO.bel hb4
    replace hW := bel_step hW hb4
    replace O := O.bel hb4
    have cB := hB.cell
    have fB := hB.frozen
    have cO := hO.cell
    clear cA hb4
    go_wp2_with (go_at_call 46; refine (s_l01In _ _ _ _).mono ?_; rintro e w' ⟨rfl, rfl⟩)
    refine bodyPost_ret (v := .agg #[.slice A1 ps.length c1, .int .i64 vo, .slice A3 zo.length c3]) ?_ rfl ⟨A1, c1, A3, c3, rfl, send_end rfl O hW⟩
    have c4 := three_cells hB
    simp [results, Try.results16, go_sem, c4]
  · obtain ⟨_, v1, v3, _, v2⟩ := reach_true h
    have cA := hA.cell
    go_wp2_with fail
    refine (HI.out _ hW).mono ?_; rintro e w4 ⟨rfl, hb4⟩
    replace hB := hB.bel hb4
    replace hO := hO.bel hb4
    replace hW := bel_step hW hb4
    replace O := O.bel hb4
    have cB := hB.cell
    have fB := hB.frozen
    have cO := hO.cell
    have fO := hO.frozen
    clear cA hb4
    by_cases h0 : zs.length = 0
    · obtain ⟨e1, e2⟩ := HV.out hsb h0
      obtain rfl : zo = [] := by rw [e2]; exact List.eq_nil_of_length_eq_zero h0
      obtain rfl := e1
      obtain rfl : zs = [] := List.eq_nil_of_length_eq_zero h0
      clear hsb e2 h0
      have hO5 := hO.set_ 1 (.int .i64 (vol + amount))
      have hB5 := hB.far (p := ⟨w1.heap.size, 1, none⟩) (by show _ ≠ w1.heap.size; omega) (.int .i64 (vol + amount))
      have O5 := O.far (p := ⟨w1.heap.size, 1, none⟩) (Nat.le_refl _) (.int .i64 (vol + amount))
      have hW5 := hW.setCell (p := ⟨w1.heap.size, 1, none⟩) (by show _ ≤ w1.heap.size; omega) (.int .i64 (vol + amount))
      go_wp2_with (go_at_call 46; refine (s_l01In _ _ _ _).mono ?_; rintro e w' ⟨rfl, rfl⟩)
      refine bodyPost_ret (v := .agg #[.slice A1 ps.length c1, .int .i64 (vol + amount), .slice A3 0 c3]) ?_ rfl ⟨A1, c1, A3, c3, rfl, send_end rfl O5 hW5⟩
      have c4 := three_cells hB5
      simp [results, Try.results16, go_sem, c4]
    · obtain ⟨rfl, rfl⟩ := HU.out hsb (by omega)
      obtain ⟨g, rfl, g1, g2, gc, gf⟩ := O.at_ (by omega)
      have cz := gc (zs.length - 1) (by omega)
      have fz := gf (zs.length - 1)
      have O5 := O.store (zs.length - 1) (zs.getD (zs.length - 1) 0 + amount)
      have hB5 := hB.far (p := ⟨g, zs.length - 1, none⟩) (by show _ ≠ g; omega) (.int .i64 (zs.getD (zs.length - 1) 0 + amount))
      have hO5 := hO.far (p := ⟨g, zs.length - 1, none⟩) (by show _ ≠ g; omega) (.int .i64 (zs.getD (zs.length - 1) 0 + amount))
      have hW5 := hW.setCell (p := ⟨g, zs.length - 1, none⟩) (by show _ ≤ g; omega) (.int .i64 (zs.getD (zs.length - 1) 0 + amount))
      have HLn := Lib.hid (show (zs.set (zs.length - 1) (zs.getD (zs.length - 1) 0 + amount)).length = zs.length by simp)
      have zb := pipeIn_of h (zs.length - 1) (by omega)
      have z1 : 1 ≤ zs.length := by omega
      have g0 : (1 : Int) ≤ (zs.length : Int) := by omega
      have g3 : (0 : Int) ≤ (zs.length : Int) - 1 := by omega
      have g4 : (zs.length : Int) - 1 < (zs.length : Int) := by omega
      have HR5 := Lib.hid (show OutR w _ ps (zs.set (zs.length - 1) (zs.getD (zs.length - 1) 0 + amount)) A1 c1 (some ⟨g, 0, none⟩) c3 from send_end (a := .slice A1 ps.length c1) (b := .int .i64 vo) (c := .slice (some ⟨g, 0, none⟩) zs.length c3) rfl O5 hW5)
      clear gc gf hsb h0 O O5 HI HC HR HCS
      generalize hzz : zs.getD (zs.length - 1) 0 = z at *
      clear hzz
      go_wp2_with (go_at_call 46; refine (s_l01In _ _ _ _).mono ?_; rintro e w' ⟨rfl, rfl⟩)
      go_region
      go_wp2
      refine bodyPost_ret (v := .agg #[.slice A1 ps.length c1, .int .i64 vo, .slice (some ⟨g, 0, none⟩) zs.length c3]) ?_ rfl ⟨A1, c1, some ⟨g, 0, none⟩, c3, by rw [HLn.out], OutR.drew HR5.out⟩
      have c4 := three_cells hB5
      simp [results, Try.results16, go_sem, c4]
end Go.Proofs.Ytgbncfjabnaokab
