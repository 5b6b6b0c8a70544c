/- Contracts of OpenFor and SteerWeir (program and reference), and of the laws' eqWeir. -/
import Derived.Test.YtlilnhlkfooihaaWeir2
import Derived.Deep.RegionHeld3
namespace Go.Proofs.Ytlilnhlkfooihaa
open Go.RowKit

/-- The first k' from k on with f k', at most n further on. -/
def openF (f : Int → Bool) : Nat → Int → Int
  | 0, k => k
  | n + 1, k => if f k = true then k else openF f n (k + 1)
def OpenEq (f : Int → Bool) (N : Nat) (k : Int) : Prop := openF f N 0 = openF f (N - k.toNat) k
theorem openEq_start (f : Int → Bool) (N : Nat) : OpenEq f N 0 := rfl
theorem openEq_hit {f : Int → Bool} {N : Nat} {k : Int} (h : OpenEq f N k) (h0 : 0 ≤ k) (hk : k < N) (hf : f k = true) : openF f N 0 = k := by
  unfold OpenEq at h
  obtain ⟨m, hm⟩ : ∃ m, N - k.toNat = m + 1 := ⟨N - k.toNat - 1, by omega⟩
  rw [h, hm]; simp [openF, hf]
theorem openEq_miss {f : Int → Bool} {N : Nat} {k : Int} (h : OpenEq f N k) (h0 : 0 ≤ k) (hk : k < N) (hf : f k = false) : OpenEq f N (k + 1) := by
  unfold OpenEq at h ⊢
  obtain ⟨m, hm⟩ : ∃ m, N - k.toNat = m + 1 := ⟨N - k.toNat - 1, by omega⟩
  rw [h, hm]
  have : N - (k + 1).toNat = m := by omega
  rw [this]; simp [openF, hf]
theorem openEq_end {f : Int → Bool} {N : Nat} {k : Int} (h : OpenEq f N k) (hk : k = N) : openF f N 0 = k := by
  unfold OpenEq at h
  have : N - k.toNat = 0 := by omega
  rw [h, this]; rfl

def flowF (g s c d up dn flow k : Int) : Bool := decide (flow ≤ gateV g k s c d up dn)
/-- OpenFor. -/
def openV (g o s c d up dn flow : Int) : Int :=
  if weirOk g o s c d = true ∧ inR up 0 100000 = true ∧ inR dn 0 100000 = true then openF (flowF g s c d up dn flow) (10 * g).toNat 0 else 0
theorem open_no {g o s c d up dn flow : Int} (h : weirOk g o s c d = false ∨ inR up 0 100000 = false ∨ inR dn 0 100000 = false) : openV g o s c d up dn flow = 0 := by
  unfold openV; rw [if_neg]; rintro ⟨h1, h2, h3⟩; rcases h with h | h | h
  · rw [h] at h1; cases h1
  · rw [h] at h2; cases h2
  · rw [h] at h3; cases h3
theorem open_yes {g o s c d up dn flow : Int} (h1 : weirOk g o s c d = true) (h2 : inR up 0 100000 = true) (h3 : inR dn 0 100000 = true) : openV g o s c d up dn flow = openF (flowF g s c d up dn flow) (10 * g).toNat 0 := by
  unfold openV; rw [if_pos ⟨h1, h2, h3⟩]


set_option maxHeartbeats 400000 in
theorem s_OpenFor (g o s c d up dn flow : Int) (w : World) :
    Calls Try.prog 48 #[.agg #[.int .i64 g, .int .i64 o, .int .i64 s, .int .i64 c, .int .i64 d], .int .i64 up, .int .i64 dn, .int .i64 flow] w fun e w' => e = .returned (.int .i64 (openV g o s c d up dn flow)) ∧ Below w.heap.size w w' := by
  rcases bcases (weirOk g o s c d) with h | h
  · rcases bcases (inR up 0 100000) with h2 | h2
    · rcases bcases (inR dn 0 100000) with h3 | h3
      · obtain ⟨b1, b2, b3, b4, b5⟩ := weirOk_true h
        have HV := Lib.hid (open_yes (flow := flow) h h2 h3)
        go_enter Try.func48, Try.ntmps48
        go_wp2_with (first | (go_at_call 54; refine (s_l03Level _ _).mono ?_; rintro e w' ⟨rfl, rfl⟩) | (go_at_call 29; refine (s_WeirOk _ _ _ _ _ _).mono ?_; rintro e w1 ⟨rfl, hb⟩; have HB := (Blk.new w _ _).below hb (by simp); have HW := ((Below.refl w.heap.size w).alloc (Nat.le_refl _) _).trans (hb.mono (by simp)); have cA := HB.cell; clear hb))
        clear cA
        go_loopw [9] (fun v wr => ∃ k o' : Int, 0 ≤ k ∧ k ≤ 10 * g ∧ v = .int .i64 k ∧ Blk wr w.heap.size 38 #[.int .i64 g, .int .i64 o', .int .i64 s, .int .i64 c, .int .i64 d] ∧ Below w.heap.size w wr ∧ OpenEq (flowF g s c d up dn flow) (10 * g).toNat k) (fun v _ => (10 * g + 1 - intOf v).toNat)
        case atStart => exact ⟨0, o, by omega, by omega, rfl, HB, HW, openEq_start _ _⟩
        case round =>
          obtain ⟨k, o', k0, k1, rfl, hB, hW, hE⟩ := hrel
          have cA := hB.cell
          have fA := hB.frozen
          clear HB HW
          by_cases hk : k < 10 * g
          · rcases bcases (flowF g s c d up dn flow k) with hf | hf
            · have hf' : flow ≤ gateV g k s c d up dn := by simpa [flowF] using hf
              have HE := Lib.hid (openEq_hit hE k0 (by omega) hf)
              clear hf
              go_wp2_with (go_at_call 44; refine (s_GateFlow _ _ _ _ _ _ _ _).mono ?_; rintro e w1 ⟨rfl, hb⟩)
              go_ret
              exact ⟨ret_int (by rw [HV.out, HE.out]), hW.trans (((Below.refl _ _).setCell (Nat.le_refl _) _).trans (hb.mono (by simpa using Nat.le_of_lt hB.lt)))⟩
            · have hf' : gateV g k s c d up dn < flow := by simpa [flowF] using hf
              have HE := openEq_miss hE k0 (by omega) hf
              clear hf
              go_wp2_with (go_at_call 44; refine (s_GateFlow _ _ _ _ _ _ _ _).mono ?_; rintro e w1 ⟨rfl, hb⟩)
              go_roundw
              case rel => exact ⟨k + 1, k, by omega, by omega, rfl, (hB.set_ 1 (.int .i64 k)).below hb (by simpa using hB.lt), hW.trans (((Below.refl _ _).setCell (Nat.le_refl _) _).trans (hb.mono (by simpa using Nat.le_of_lt hB.lt))), HE⟩
              case measure => simp [intOf]; omega
          · have HE := Lib.hid (openEq_end hE (by omega))
            go_wp2
            go_ret
            exact ⟨ret_int (by rw [HV.out, HE.out]), hW⟩
      · have HV := Lib.hid (open_no (g := g) (o := o) (s := s) (c := c) (d := d) (up := up) (flow := flow) (.inr (.inr h3)))
        go_enter Try.func48, Try.ntmps48
        go_wp2_with (first | (go_at_call 54; refine (s_l03Level _ _).mono ?_; rintro e w' ⟨rfl, rfl⟩) | (go_at_call 29; refine (s_WeirOk _ _ _ _ _ _).mono ?_; rintro e w1 ⟨rfl, hb⟩; have HB := (Blk.new w _ _).below hb (by simp); have HW := ((Below.refl w.heap.size w).alloc (Nat.le_refl _) _).trans (hb.mono (by simp)); have cA := HB.cell; clear hb))
        go_ret
        exact ⟨ret_int HV.out.symm, HW⟩
    · have HV := Lib.hid (open_no (g := g) (o := o) (s := s) (c := c) (d := d) (dn := dn) (flow := flow) (.inr (.inl h2)))
      go_enter Try.func48, Try.ntmps48
      go_wp2_with (first | (go_at_call 54; refine (s_l03Level _ _).mono ?_; rintro e w' ⟨rfl, rfl⟩) | (go_at_call 29; refine (s_WeirOk _ _ _ _ _ _).mono ?_; rintro e w1 ⟨rfl, hb⟩; have HB := (Blk.new w _ _).below hb (by simp); have HW := ((Below.refl w.heap.size w).alloc (Nat.le_refl _) _).trans (hb.mono (by simp)); have cA := HB.cell; clear hb))
      go_ret
      exact ⟨ret_int HV.out.symm, HW⟩
  · have HV := Lib.hid (open_no (up := up) (dn := dn) (flow := flow) (.inl h))
    go_enter Try.func48, Try.ntmps48
    go_wp2_with (first | (go_at_call 54; refine (s_l03Level _ _).mono ?_; rintro e w' ⟨rfl, rfl⟩) | (go_at_call 29; refine (s_WeirOk _ _ _ _ _ _).mono ?_; rintro e w1 ⟨rfl, hb⟩; have HB := (Blk.new w _ _).below hb (by simp); have HW := ((Below.refl w.heap.size w).alloc (Nat.le_refl _) _).trans (hb.mono (by simp)); have cA := HB.cell; clear hb))
    go_ret
    exact ⟨ret_int HV.out.symm, HW⟩

def OpenEq' (f : Int → Bool) (N : Nat) (k : Int) : Prop := (k ≤ N → OpenEq f N k) ∧ (N < k → openF f N 0 = N)
theorem openEq'_start (f : Int → Bool) (N : Nat) : OpenEq' f N 0 := ⟨fun _ => rfl, fun h => by omega⟩
theorem openEq'_hit {f : Int → Bool} {N : Nat} {k : Int} (h : OpenEq' f N k) (h0 : 0 ≤ k) (hk : k ≤ N) (hf : f k = true) : openF f N 0 = k := by
  by_cases hlt : k < N
  · exact openEq_hit (h.1 hk) h0 hlt hf
  · exact openEq_end (h.1 hk) (by omega)
theorem openEq'_miss {f : Int → Bool} {N : Nat} {k : Int} (h : OpenEq' f N k) (h0 : 0 ≤ k) (hk : k ≤ N) (hf : f k = false) : OpenEq' f N (k + 1) := by
  by_cases hlt : k < N
  · exact ⟨fun _ => openEq_miss (h.1 hk) h0 hlt hf, fun h => by omega⟩
  · exact ⟨fun h => by omega, fun _ => by rw [openEq_end (h.1 hk) (by omega)]; omega⟩
theorem openEq'_end {f : Int → Bool} {N : Nat} {k : Int} (h : OpenEq' f N k) (hk : N < k) : openF f N 0 = N := h.2 hk

set_option maxHeartbeats 400000 in
theorem i_OpenFor (g o s c d up dn flow : Int) (w : World) :
    Calls Try.prog 47 #[.agg #[.int .i64 g, .int .i64 o, .int .i64 s, .int .i64 c, .int .i64 d], .int .i64 up, .int .i64 dn, .int .i64 flow] w fun e w' => e = .returned (.int .i64 (openV g o s c d up dn flow)) ∧ Below w.heap.size w w' := by
  rcases bcases (weirOk g o s c d) with h | h
  · rcases bcases (inR up 0 100000) with h2 | h2
    · rcases bcases (inR dn 0 100000) with h3 | h3
      · obtain ⟨b1, b2, b3, b4, b5⟩ := weirOk_true h
        have HV := Lib.hid (open_yes (flow := flow) h h2 h3)
        go_enter Try.func47, Try.ntmps47
        go_wp2_with (first | (go_at_call 53; refine (i_inRange _ _ _ _).mono ?_; rintro e w' ⟨rfl, rfl⟩) | (go_at_call 31; refine (i_WeirOk _ _ _ _ _ _).mono ?_; rintro e w1 ⟨rfl, hb⟩; have HB := (Blk.new w _ _).below hb (by simp); have HW := ((Below.refl w.heap.size w).alloc (Nat.le_refl _) _).trans (hb.mono (by simp)); have cA := HB.cell; clear hb))
        clear cA
        go_loopw [10] (fun v wr => ∃ k o' : Int, 0 ≤ k ∧ k ≤ 10 * g + 1 ∧ v = .int .i64 k ∧ Blk wr w.heap.size 38 #[.int .i64 g, .int .i64 o', .int .i64 s, .int .i64 c, .int .i64 d] ∧ Below w.heap.size w wr ∧ OpenEq' (flowF g s c d up dn flow) (10 * g).toNat k) (fun v _ => (10 * g + 1 - intOf v).toNat)
        case atStart => exact ⟨0, o, by omega, by omega, rfl, HB, HW, openEq'_start _ _⟩
        case round =>
          obtain ⟨k, o', k0, k1, rfl, hB, hW, hE⟩ := hrel
          have cA := hB.cell
          have fA := hB.frozen
          clear HB HW
          by_cases hk : k ≤ 10 * g
          · rcases bcases (flowF g s c d up dn flow k) with hf | hf
            · have hf' : flow ≤ gateV g k s c d up dn := by simpa [flowF] using hf
              have HE := Lib.hid (openEq'_hit hE k0 (by omega) hf)
              clear hf
              go_wp2_with (go_at_call 45; refine (i_GateFlow _ _ _ _ _ _ _ _).mono ?_; rintro e w1 ⟨rfl, hb⟩)
              go_ret
              exact ⟨ret_int (by rw [HV.out, HE.out]), hW.trans (((Below.refl _ _).setCell (Nat.le_refl _) _).trans (hb.mono (by simpa using Nat.le_of_lt hB.lt)))⟩
            · have hf' : gateV g k s c d up dn < flow := by simpa [flowF] using hf
              have HE := openEq'_miss hE k0 (by omega) hf
              clear hf
              go_wp2_with (go_at_call 45; refine (i_GateFlow _ _ _ _ _ _ _ _).mono ?_; rintro e w1 ⟨rfl, hb⟩)
              go_roundw
              case rel => exact ⟨k + 1, k, by omega, by omega, rfl, (hB.set_ 1 (.int .i64 k)).below hb (by simpa using hB.lt), hW.trans (((Below.refl _ _).setCell (Nat.le_refl _) _).trans (hb.mono (by simpa using Nat.le_of_lt hB.lt))), HE⟩
              case measure => simp [intOf]; omega
          · have HE := Lib.hid (openEq'_end hE (by omega))
            go_wp2
            go_ret
            exact ⟨ret_int (by rw [HV.out, HE.out]; omega), hW⟩
      · have HV := Lib.hid (open_no (g := g) (o := o) (s := s) (c := c) (d := d) (up := up) (flow := flow) (.inr (.inr h3)))
        go_enter Try.func47, Try.ntmps47
        go_wp2_with (first | (go_at_call 53; refine (i_inRange _ _ _ _).mono ?_; rintro e w' ⟨rfl, rfl⟩) | (go_at_call 31; refine (i_WeirOk _ _ _ _ _ _).mono ?_; rintro e w1 ⟨rfl, hb⟩; have HB := (Blk.new w _ _).below hb (by simp); have HW := ((Below.refl w.heap.size w).alloc (Nat.le_refl _) _).trans (hb.mono (by simp)); have cA := HB.cell; clear hb))
        go_ret
        exact ⟨ret_int HV.out.symm, HW⟩
    · have HV := Lib.hid (open_no (g := g) (o := o) (s := s) (c := c) (d := d) (dn := dn) (flow := flow) (.inr (.inl h2)))
      go_enter Try.func47, Try.ntmps47
      go_wp2_with (first | (go_at_call 53; refine (i_inRange _ _ _ _).mono ?_; rintro e w' ⟨rfl, rfl⟩) | (go_at_call 31; refine (i_WeirOk _ _ _ _ _ _).mono ?_; rintro e w1 ⟨rfl, hb⟩; have HB := (Blk.new w _ _).below hb (by simp); have HW := ((Below.refl w.heap.size w).alloc (Nat.le_refl _) _).trans (hb.mono (by simp)); have cA := HB.cell; clear hb))
      go_ret
      exact ⟨ret_int HV.out.symm, HW⟩
  · have HV := Lib.hid (open_no (up := up) (dn := dn) (flow := flow) (.inl h))
    go_enter Try.func47, Try.ntmps47
    go_wp2_with (first | (go_at_call 53; refine (i_inRange _ _ _ _).mono ?_; rintro e w' ⟨rfl, rfl⟩) | (go_at_call 31; refine (i_WeirOk _ _ _ _ _ _).mono ?_; rintro e w1 ⟨rfl, hb⟩; have HB := (Blk.new w _ _).below hb (by simp); have HW := ((Below.refl w.heap.size w).alloc (Nat.le_refl _) _).trans (hb.mono (by simp)); have cA := HB.cell; clear hb))
    go_ret
    exact ⟨ret_int HV.out.symm, HW⟩

/-- SteerWeir's new opening. -/
def steerV (g o s c d l h f up dn inf : Int) : Int :=
  if weirOk g o s c d = true ∧ ruleOk l h f = true ∧ inR inf 0 1000000000 = true ∧ inR up 0 100000 = true ∧ inR dn 0 100000 = true then
    (if f ≤ up then moveV g o s c d (10 * g) else moveV g o s c d (openV g o s c d up dn (wantV l h f up inf)))
  else o
theorem steer_no {g o s c d l h f up dn inf : Int} (hh : weirOk g o s c d = false ∨ ruleOk l h f = false ∨ inR inf 0 1000000000 = false ∨ inR up 0 100000 = false ∨ inR dn 0 100000 = false) : steerV g o s c d l h f up dn inf = o := by
  unfold steerV; rw [if_neg]; rintro ⟨h1, h2, h3, h4, h5⟩; rcases hh with hh | hh | hh | hh | hh
  · rw [hh] at h1; cases h1
  · rw [hh] at h2; cases h2
  · rw [hh] at h3; cases h3
  · rw [hh] at h4; cases h4
  · rw [hh] at h5; cases h5
theorem steer_flood {g o s c d l h f up dn inf : Int} (h1 : weirOk g o s c d = true) (h2 : ruleOk l h f = true) (h3 : inR inf 0 1000000000 = true) (h4 : inR up 0 100000 = true) (h5 : inR dn 0 100000 = true) (h6 : f ≤ up) :
    steerV g o s c d l h f up dn inf = moveV g o s c d (10 * g) := by unfold steerV; rw [if_pos ⟨h1, h2, h3, h4, h5⟩, if_pos h6]
theorem steer_open {g o s c d l h f up dn inf : Int} (h1 : weirOk g o s c d = true) (h2 : ruleOk l h f = true) (h3 : inR inf 0 1000000000 = true) (h4 : inR up 0 100000 = true) (h5 : inR dn 0 100000 = true) (h6 : up < f) :
    steerV g o s c d l h f up dn inf = moveV g o s c d (openV g o s c d up dn (wantV l h f up inf)) := by unfold steerV; rw [if_pos ⟨h1, h2, h3, h4, h5⟩, if_neg (by omega)]


theorem i_SteerWeir_open (g o s c d l h f up dn inf : Int) (w : World) (h1 : weirOk g o s c d = true) (h2 : ruleOk l h f = true) (h3 : inR inf 0 1000000000 = true) (h4 : inR up 0 100000 = true) (h5 : inR dn 0 100000 = true) (h6 : up < f) :
    Calls Try.prog 50 #[.agg #[.int .i64 g, .int .i64 o, .int .i64 s, .int .i64 c, .int .i64 d], .agg #[.int .i64 l, .int .i64 h, .int .i64 f], .int .i64 up, .int .i64 dn, .int .i64 inf] w fun e w' => e = .returned (.agg #[.int .i64 g, .int .i64 (steerV g o s c d l h f up dn inf), .int .i64 s, .int .i64 c, .int .i64 d]) ∧ Below w.heap.size w w' := by
  have HV := Lib.hid (steer_open h1 h2 h3 h4 h5 h6)
  go_enter Try.func50, Try.ntmps50
  go_wp2_with (first | (go_at_call 53; refine (i_inRange _ _ _ _).mono ?_; rintro e w' ⟨rfl, rfl⟩) | (go_at_call 31; refine (i_WeirOk _ _ _ _ _ _).mono ?_; rintro e w1 ⟨rfl, hb⟩; obtain ⟨hA, hB, hC, hW, hZ⟩ := kept3 hb; clear hb; have cA := hA.cell; have cB := hB.cell; have cC := hC.cell; have fC := hC.frozen) | (go_at_call 26; refine (i_RuleOk _ _ _ _).mono ?_; rintro e w2 ⟨rfl, hb⟩; replace hA := hA.below hb hA.lt; replace hB := hB.below hb hB.lt; replace hC := hC.below hb hC.lt; replace hW := hW.trans (hb.mono (by omega)); replace hZ := Nat.le_trans hZ hb.size; clear hb cA cB cC fC; have cA := hA.cell; have cB := hB.cell; have cC := hC.cell; have fC := hC.frozen))
  clear cC fC
  have S2 : (∀ i, w2.drew.cell? ⟨w.heap.size, i, none⟩ = #[Value.int .i64 g, .int .i64 o, .int .i64 s, .int .i64 c, .int .i64 d][i]?) ∧ (∀ i, w2.drew.cell? ⟨w.heap.size + 1, i, none⟩ = #[Value.int .i64 l, .int .i64 h, .int .i64 f][i]?) ∧ w.heap.size + 3 ≤ w2.drew.heap.size := ⟨cA, cB, hZ⟩
  go_region_held3 (fun w' => (∀ i, w'.cell? ⟨w.heap.size, i, none⟩ = #[Value.int .i64 g, .int .i64 o, .int .i64 s, .int .i64 c, .int .i64 d][i]?) ∧ (∀ i, w'.cell? ⟨w.heap.size + 1, i, none⟩ = #[Value.int .i64 l, .int .i64 h, .int .i64 f][i]?) ∧ w.heap.size + 3 ≤ w'.heap.size) (first | with_reducible exact S6 | with_reducible exact S5 | with_reducible exact S4 | with_reducible exact S2 | with_reducible exact two_set (two_set (two_set (two_set (two_set S6))))) (first | (go_at_call 35; refine (i_WantedFlow _ _ _ _ _ _).mono ?_; rintro e w4 ⟨rfl, hb4⟩; have S4 := two_below hb4 S2) | (go_at_call 47; refine (i_OpenFor _ _ _ _ _ _ _ _ _).mono ?_; rintro e w5 ⟨rfl, hb5⟩; have S5 := two_below hb5 S4) | (go_at_call 42; refine (i_MoveGate _ _ _ _ _ _ _).mono ?_; rintro e w6 ⟨rfl, hb6⟩; have S6 := two_below hb6 S5; have hC4 := hC.drew.below hb4 hC.lt; have hC5 := hC4.below hb5 hC4.lt; have hC6 := hC5.below hb6 hC5.lt; have cC := hC6.cell; have fC := hC6.frozen))
  go_wp2
  refine bodyPost_ret (v := .agg #[.int .i64 g, .int .i64 (steerV g o s c d l h f up dn inf), .int .i64 s, .int .i64 c, .int .i64 d]) (by simp [results, Try.results50, go_sem, cC, HV.out]) rfl ⟨rfl, ?_⟩
  repeat (refine Below.setCell ?_ (by simp; omega) _)
  exact ((hW.drew.trans (hb4.mono (by show _ ≤ w2.heap.size; omega))).trans (hb5.mono (by have := S4.2.2; omega))).trans (hb6.mono (by have := S5.2.2; omega))

theorem i_SteerWeir_flood (g o s c d l h f up dn inf : Int) (w : World) (h1 : weirOk g o s c d = true) (h2 : ruleOk l h f = true) (h3 : inR inf 0 1000000000 = true) (h4 : inR up 0 100000 = true) (h5 : inR dn 0 100000 = true) (h6 : f ≤ up) :
    Calls Try.prog 50 #[.agg #[.int .i64 g, .int .i64 o, .int .i64 s, .int .i64 c, .int .i64 d], .agg #[.int .i64 l, .int .i64 h, .int .i64 f], .int .i64 up, .int .i64 dn, .int .i64 inf] w fun e w' => e = .returned (.agg #[.int .i64 g, .int .i64 (steerV g o s c d l h f up dn inf), .int .i64 s, .int .i64 c, .int .i64 d]) ∧ Below w.heap.size w w' := by
  have HV := Lib.hid (steer_flood h1 h2 h3 h4 h5 h6)
  obtain ⟨b1, b2, b3, b4, b5⟩ := weirOk_true h1
  go_enter Try.func50, Try.ntmps50
  go_wp2_with (first | (go_at_call 53; refine (i_inRange _ _ _ _).mono ?_; rintro e w' ⟨rfl, rfl⟩) | (go_at_call 31; refine (i_WeirOk _ _ _ _ _ _).mono ?_; rintro e w1 ⟨rfl, hb⟩; obtain ⟨hA, hB, hC, hW, hZ⟩ := kept3 hb; clear hb; have cA := hA.cell; have cB := hB.cell; have cC := hC.cell; have fC := hC.frozen) | (go_at_call 26; refine (i_RuleOk _ _ _ _).mono ?_; rintro e w2 ⟨rfl, hb⟩; replace hA := hA.below hb hA.lt; replace hB := hB.below hb hB.lt; replace hC := hC.below hb hC.lt; replace hW := hW.trans (hb.mono (by omega)); replace hZ := Nat.le_trans hZ hb.size; clear hb cA cB cC fC; have cA := hA.cell; have cB := hB.cell; have cC := hC.cell; have fC := hC.frozen) | (go_at_call 42; refine (i_MoveGate _ _ _ _ _ _ _).mono ?_; rintro e w6 ⟨rfl, hb6⟩; clear cA cB cC fC; have hC6 := hC.below hb6 hC.lt; have cC := hC6.cell; have fC := hC6.frozen))
  refine bodyPost_ret (v := .agg #[.int .i64 g, .int .i64 (steerV g o s c d l h f up dn inf), .int .i64 s, .int .i64 c, .int .i64 d]) (by simp [results, Try.results50, go_sem, cC, HV.out]) rfl ⟨rfl, ?_⟩
  repeat (refine Below.setCell ?_ (by simp; omega) _)
  exact hW.trans (hb6.mono (by omega))

theorem i_SteerWeir_no (g o s c d l h f up dn inf : Int) (w : World) (hh : weirOk g o s c d = false ∨ (weirOk g o s c d = true ∧ ruleOk l h f = false) ∨ (weirOk g o s c d = true ∧ ruleOk l h f = true ∧ inR inf 0 1000000000 = false) ∨ (weirOk g o s c d = true ∧ ruleOk l h f = true ∧ inR inf 0 1000000000 = true ∧ inR up 0 100000 = false) ∨ (weirOk g o s c d = true ∧ ruleOk l h f = true ∧ inR inf 0 1000000000 = true ∧ inR up 0 100000 = true ∧ inR dn 0 100000 = false)) :
    Calls Try.prog 50 #[.agg #[.int .i64 g, .int .i64 o, .int .i64 s, .int .i64 c, .int .i64 d], .agg #[.int .i64 l, .int .i64 h, .int .i64 f], .int .i64 up, .int .i64 dn, .int .i64 inf] w fun e w' => e = .returned (.agg #[.int .i64 g, .int .i64 (steerV g o s c d l h f up dn inf), .int .i64 s, .int .i64 c, .int .i64 d]) ∧ Below w.heap.size w w' := by
  have HV := Lib.hid (steer_no (g := g) (o := o) (s := s) (c := c) (d := d) (l := l) (h := h) (f := f) (up := up) (dn := dn) (inf := inf) (by rcases hh with hh | hh | hh | hh | hh <;> simp [hh]))
  rcases hh with h1 | ⟨h1, h2⟩ | ⟨h1, h2, h3⟩ | ⟨h1, h2, h3, h4⟩ | ⟨h1, h2, h3, h4, h5⟩
  all_goals
    go_enter Try.func50, Try.ntmps50
    go_wp2_with (first | (go_at_call 53; refine (i_inRange _ _ _ _).mono ?_; rintro e w' ⟨rfl, rfl⟩) | (go_at_call 31; refine (i_WeirOk _ _ _ _ _ _).mono ?_; rintro e w1 ⟨rfl, hb⟩; obtain ⟨hA, hB, hC, hW, hZ⟩ := kept3 hb; clear hb; have cA := hA.cell; have cB := hB.cell; have cC := hC.cell; have fC := hC.frozen) | (go_at_call 26; refine (i_RuleOk _ _ _ _).mono ?_; rintro e w2 ⟨rfl, hb⟩; replace hA := hA.below hb hA.lt; replace hB := hB.below hb hB.lt; replace hC := hC.below hb hC.lt; replace hW := hW.trans (hb.mono (by omega)); replace hZ := Nat.le_trans hZ hb.size; clear hb cA cB cC fC; have cA := hA.cell; have cB := hB.cell; have cC := hC.cell; have fC := hC.frozen))
    refine bodyPost_ret (v := .agg #[.int .i64 g, .int .i64 (steerV g o s c d l h f up dn inf), .int .i64 s, .int .i64 c, .int .i64 d]) (by simp [results, Try.results50, go_sem, cC, HV.out]) rfl ⟨rfl, ?_⟩
    repeat (refine Below.setCell ?_ (by simp; omega) _)
    exact hW

theorem i_SteerWeir (g o s c d l h f up dn inf : Int) (w : World) :
    Calls Try.prog 50 #[.agg #[.int .i64 g, .int .i64 o, .int .i64 s, .int .i64 c, .int .i64 d], .agg #[.int .i64 l, .int .i64 h, .int .i64 f], .int .i64 up, .int .i64 dn, .int .i64 inf] w fun e w' => e = .returned (.agg #[.int .i64 g, .int .i64 (steerV g o s c d l h f up dn inf), .int .i64 s, .int .i64 c, .int .i64 d]) ∧ Below w.heap.size w w' := by
  rcases bcases (weirOk g o s c d) with h1 | h1
  · rcases bcases (ruleOk l h f) with h2 | h2
    · rcases bcases (inR inf 0 1000000000) with h3 | h3
      · rcases bcases (inR up 0 100000) with h4 | h4
        · rcases bcases (inR dn 0 100000) with h5 | h5
          · rcases Int.lt_or_le up f with h6 | h6
            · exact i_SteerWeir_open g o s c d l h f up dn inf w h1 h2 h3 h4 h5 h6
            · exact i_SteerWeir_flood g o s c d l h f up dn inf w h1 h2 h3 h4 h5 h6
          · exact i_SteerWeir_no g o s c d l h f up dn inf w (.inr (.inr (.inr (.inr ⟨h1, h2, h3, h4, h5⟩))))
        · exact i_SteerWeir_no g o s c d l h f up dn inf w (.inr (.inr (.inr (.inl ⟨h1, h2, h3, h4⟩))))
      · exact i_SteerWeir_no g o s c d l h f up dn inf w (.inr (.inr (.inl ⟨h1, h2, h3⟩)))
    · exact i_SteerWeir_no g o s c d l h f up dn inf w (.inr (.inl ⟨h1, h2⟩))
  · exact i_SteerWeir_no g o s c d l h f up dn inf w (.inl h1)

theorem s_SteerWeir_open (g o s c d l h f up dn inf : Int) (w : World) (h1 : weirOk g o s c d = true) (h2 : ruleOk l h f = true) (h3 : inR inf 0 1000000000 = true) (h4 : inR up 0 100000 = true) (h5 : inR dn 0 100000 = true) (h6 : up < f) :
    Calls Try.prog 51 #[.agg #[.int .i64 g, .int .i64 o, .int .i64 s, .int .i64 c, .int .i64 d], .agg #[.int .i64 l, .int .i64 h, .int .i64 f], .int .i64 up, .int .i64 dn, .int .i64 inf] w fun e w' => e = .returned (.agg #[.int .i64 g, .int .i64 (steerV g o s c d l h f up dn inf), .int .i64 s, .int .i64 c, .int .i64 d]) ∧ Below w.heap.size w w' := by
  have HV := Lib.hid (steer_open h1 h2 h3 h4 h5 h6)
  go_enter Try.func51, Try.ntmps51
  go_wp2_with (first | (go_at_call 54; refine (s_l03Level _ _).mono ?_; rintro e w' ⟨rfl, rfl⟩) | (go_at_call 52; refine (s_l01In _ _ _ _).mono ?_; rintro e w' ⟨rfl, rfl⟩) | (go_at_call 29; refine (s_WeirOk _ _ _ _ _ _).mono ?_; rintro e w1 ⟨rfl, hb⟩; obtain ⟨hA, hB, hC, hW, hZ⟩ := kept3 hb; clear hb; have cA := hA.cell; have cB := hB.cell; have cC := hC.cell; have fC := hC.frozen) | (go_at_call 24; refine (s_RuleOk _ _ _ _).mono ?_; rintro e w2 ⟨rfl, hb⟩; replace hA := hA.below hb hA.lt; replace hB := hB.below hb hB.lt; replace hC := hC.below hb hC.lt; replace hW := hW.trans (hb.mono (by omega)); replace hZ := Nat.le_trans hZ hb.size; clear hb cA cB cC fC; have cA := hA.cell; have cB := hB.cell; have cC := hC.cell; have fC := hC.frozen))
  clear cC fC
  have S2 : (∀ i, w2.drew.cell? ⟨w.heap.size, i, none⟩ = #[Value.int .i64 g, .int .i64 o, .int .i64 s, .int .i64 c, .int .i64 d][i]?) ∧ (∀ i, w2.drew.cell? ⟨w.heap.size + 1, i, none⟩ = #[Value.int .i64 l, .int .i64 h, .int .i64 f][i]?) ∧ w.heap.size + 3 ≤ w2.drew.heap.size := ⟨cA, cB, hZ⟩
  go_region_held3 (fun w' => (∀ i, w'.cell? ⟨w.heap.size, i, none⟩ = #[Value.int .i64 g, .int .i64 o, .int .i64 s, .int .i64 c, .int .i64 d][i]?) ∧ (∀ i, w'.cell? ⟨w.heap.size + 1, i, none⟩ = #[Value.int .i64 l, .int .i64 h, .int .i64 f][i]?) ∧ w.heap.size + 3 ≤ w'.heap.size) (first | with_reducible exact S6 | with_reducible exact S5 | with_reducible exact S4 | with_reducible exact S2 | with_reducible exact two_set (two_set (two_set (two_set (two_set S6))))) (first | (go_at_call 34; refine (s_WantedFlow _ _ _ _ _ _).mono ?_; rintro e w4 ⟨rfl, hb4⟩; have S4 := two_below hb4 S2) | (go_at_call 48; refine (s_OpenFor _ _ _ _ _ _ _ _ _).mono ?_; rintro e w5 ⟨rfl, hb5⟩; have S5 := two_below hb5 S4) | (go_at_call 41; refine (s_MoveGate _ _ _ _ _ _ _).mono ?_; rintro e w6 ⟨rfl, hb6⟩; have S6 := two_below hb6 S5; have hC4 := hC.drew.below hb4 hC.lt; have hC5 := hC4.below hb5 hC4.lt; have hC6 := hC5.below hb6 hC5.lt; have cC := hC6.cell; have fC := hC6.frozen))
  go_wp2
  refine bodyPost_ret (v := .agg #[.int .i64 g, .int .i64 (steerV g o s c d l h f up dn inf), .int .i64 s, .int .i64 c, .int .i64 d]) (by simp [results, Try.results51, go_sem, cC, HV.out]) rfl ⟨rfl, ?_⟩
  repeat (refine Below.setCell ?_ (by simp; omega) _)
  exact ((hW.drew.trans (hb4.mono (by show _ ≤ w2.heap.size; omega))).trans (hb5.mono (by have := S4.2.2; omega))).trans (hb6.mono (by have := S5.2.2; omega))

theorem s_SteerWeir_flood (g o s c d l h f up dn inf : Int) (w : World) (h1 : weirOk g o s c d = true) (h2 : ruleOk l h f = true) (h3 : inR inf 0 1000000000 = true) (h4 : inR up 0 100000 = true) (h5 : inR dn 0 100000 = true) (h6 : f ≤ up) :
    Calls Try.prog 51 #[.agg #[.int .i64 g, .int .i64 o, .int .i64 s, .int .i64 c, .int .i64 d], .agg #[.int .i64 l, .int .i64 h, .int .i64 f], .int .i64 up, .int .i64 dn, .int .i64 inf] w fun e w' => e = .returned (.agg #[.int .i64 g, .int .i64 (steerV g o s c d l h f up dn inf), .int .i64 s, .int .i64 c, .int .i64 d]) ∧ Below w.heap.size w w' := by
  have HV := Lib.hid (steer_flood h1 h2 h3 h4 h5 h6)
  obtain ⟨b1, b2, b3, b4, b5⟩ := weirOk_true h1
  go_enter Try.func51, Try.ntmps51
  go_wp2_with (first | (go_at_call 54; refine (s_l03Level _ _).mono ?_; rintro e w' ⟨rfl, rfl⟩) | (go_at_call 52; refine (s_l01In _ _ _ _).mono ?_; rintro e w' ⟨rfl, rfl⟩) | (go_at_call 29; refine (s_WeirOk _ _ _ _ _ _).mono ?_; rintro e w1 ⟨rfl, hb⟩; obtain ⟨hA, hB, hC, hW, hZ⟩ := kept3 hb; clear hb; have cA := hA.cell; have cB := hB.cell; have cC := hC.cell; have fC := hC.frozen) | (go_at_call 24; refine (s_RuleOk _ _ _ _).mono ?_; rintro e w2 ⟨rfl, hb⟩; replace hA := hA.below hb hA.lt; replace hB := hB.below hb hB.lt; replace hC := hC.below hb hC.lt; replace hW := hW.trans (hb.mono (by omega)); replace hZ := Nat.le_trans hZ hb.size; clear hb cA cB cC fC; have cA := hA.cell; have cB := hB.cell; have cC := hC.cell; have fC := hC.frozen) | (go_at_call 41; refine (s_MoveGate _ _ _ _ _ _ _).mono ?_; rintro e w6 ⟨rfl, hb6⟩; clear cA cB cC fC; have hC6 := hC.below hb6 hC.lt; have cC := hC6.cell; have fC := hC6.frozen))
  refine bodyPost_ret (v := .agg #[.int .i64 g, .int .i64 (steerV g o s c d l h f up dn inf), .int .i64 s, .int .i64 c, .int .i64 d]) (by simp [results, Try.results51, go_sem, cC, HV.out]) rfl ⟨rfl, ?_⟩
  repeat (refine Below.setCell ?_ (by simp; omega) _)
  exact hW.trans (hb6.mono (by omega))

theorem s_SteerWeir_no (g o s c d l h f up dn inf : Int) (w : World) (hh : weirOk g o s c d = false ∨ (weirOk g o s c d = true ∧ ruleOk l h f = false) ∨ (weirOk g o s c d = true ∧ ruleOk l h f = true ∧ inR inf 0 1000000000 = false) ∨ (weirOk g o s c d = true ∧ ruleOk l h f = true ∧ inR inf 0 1000000000 = true ∧ inR up 0 100000 = false) ∨ (weirOk g o s c d = true ∧ ruleOk l h f = true ∧ inR inf 0 1000000000 = true ∧ inR up 0 100000 = true ∧ inR dn 0 100000 = false)) :
    Calls Try.prog 51 #[.agg #[.int .i64 g, .int .i64 o, .int .i64 s, .int .i64 c, .int .i64 d], .agg #[.int .i64 l, .int .i64 h, .int .i64 f], .int .i64 up, .int .i64 dn, .int .i64 inf] w fun e w' => e = .returned (.agg #[.int .i64 g, .int .i64 (steerV g o s c d l h f up dn inf), .int .i64 s, .int .i64 c, .int .i64 d]) ∧ Below w.heap.size w w' := by
  have HV := Lib.hid (steer_no (g := g) (o := o) (s := s) (c := c) (d := d) (l := l) (h := h) (f := f) (up := up) (dn := dn) (inf := inf) (by rcases hh with hh | hh | hh | hh | hh <;> simp [hh]))
  rcases hh with h1 | ⟨h1, h2⟩ | ⟨h1, h2, h3⟩ | ⟨h1, h2, h3, h4⟩ | ⟨h1, h2, h3, h4, h5⟩
  all_goals
    go_enter Try.func51, Try.ntmps51
    go_wp2_with (first | (go_at_call 54; refine (s_l03Level _ _).mono ?_; rintro e w' ⟨rfl, rfl⟩) | (go_at_call 52; refine (s_l01In _ _ _ _).mono ?_; rintro e w' ⟨rfl, rfl⟩) | (go_at_call 29; refine (s_WeirOk _ _ _ _ _ _).mono ?_; rintro e w1 ⟨rfl, hb⟩; obtain ⟨hA, hB, hC, hW, hZ⟩ := kept3 hb; clear hb; have cA := hA.cell; have cB := hB.cell; have cC := hC.cell; have fC := hC.frozen) | (go_at_call 24; refine (s_RuleOk _ _ _ _).mono ?_; rintro e w2 ⟨rfl, hb⟩; replace hA := hA.below hb hA.lt; replace hB := hB.below hb hB.lt; replace hC := hC.below hb hC.lt; replace hW := hW.trans (hb.mono (by omega)); replace hZ := Nat.le_trans hZ hb.size; clear hb cA cB cC fC; have cA := hA.cell; have cB := hB.cell; have cC := hC.cell; have fC := hC.frozen))
    refine bodyPost_ret (v := .agg #[.int .i64 g, .int .i64 (steerV g o s c d l h f up dn inf), .int .i64 s, .int .i64 c, .int .i64 d]) (by simp [results, Try.results51, go_sem, cC, HV.out]) rfl ⟨rfl, ?_⟩
    repeat (refine Below.setCell ?_ (by simp; omega) _)
    exact hW

theorem s_SteerWeir (g o s c d l h f up dn inf : Int) (w : World) :
    Calls Try.prog 51 #[.agg #[.int .i64 g, .int .i64 o, .int .i64 s, .int .i64 c, .int .i64 d], .agg #[.int .i64 l, .int .i64 h, .int .i64 f], .int .i64 up, .int .i64 dn, .int .i64 inf] w fun e w' => e = .returned (.agg #[.int .i64 g, .int .i64 (steerV g o s c d l h f up dn inf), .int .i64 s, .int .i64 c, .int .i64 d]) ∧ Below w.heap.size w w' := by
  rcases bcases (weirOk g o s c d) with h1 | h1
  · rcases bcases (ruleOk l h f) with h2 | h2
    · rcases bcases (inR inf 0 1000000000) with h3 | h3
      · rcases bcases (inR up 0 100000) with h4 | h4
        · rcases bcases (inR dn 0 100000) with h5 | h5
          · rcases Int.lt_or_le up f with h6 | h6
            · exact s_SteerWeir_open g o s c d l h f up dn inf w h1 h2 h3 h4 h5 h6
            · exact s_SteerWeir_flood g o s c d l h f up dn inf w h1 h2 h3 h4 h5 h6
          · exact s_SteerWeir_no g o s c d l h f up dn inf w (.inr (.inr (.inr (.inr ⟨h1, h2, h3, h4, h5⟩))))
        · exact s_SteerWeir_no g o s c d l h f up dn inf w (.inr (.inr (.inr (.inl ⟨h1, h2, h3, h4⟩))))
      · exact s_SteerWeir_no g o s c d l h f up dn inf w (.inr (.inr (.inl ⟨h1, h2, h3⟩)))
    · exact s_SteerWeir_no g o s c d l h f up dn inf w (.inr (.inl ⟨h1, h2⟩))
  · exact s_SteerWeir_no g o s c d l h f up dn inf w (.inl h1)

theorem l_eqWeir (g o s c d : Int) (w : World) :
    Calls Try.prog 43 #[.agg #[.int .i64 g, .int .i64 o, .int .i64 s, .int .i64 c, .int .i64 d], .agg #[.int .i64 g, .int .i64 o, .int .i64 s, .int .i64 c, .int .i64 d]] w fun e w' => e = .returned (.bool true) ∧ Below w.heap.size w w' := by
  go_enter Try.func43, Try.ntmps43
  go_wp2
  go_ret
  exact ⟨rfl, ((Below.refl _ _).alloc (Nat.le_refl _) _).alloc (by simp) _⟩
end Go.Proofs.Ytlilnhlkfooihaa
