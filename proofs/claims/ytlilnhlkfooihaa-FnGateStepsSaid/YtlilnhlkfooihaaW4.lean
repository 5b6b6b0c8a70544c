/- The walk of the law FnGates, and the plain facts behind it. -/
import Derived.Test.YtlilnhlkfooihaaDraw2
import Derived.Test.YtlilnhlkfooihaaWeir3
import Derived.Test.YtlilnhlkfooihaaW3
namespace Go.Proofs.Ytlilnhlkfooihaa
open Go.RowKit

def WeirOut (w : World) (e : Ending) (w' : World) : Prop :=
  ∃ a b s f d : Int, weirD a b s f d ∧ e = .returned (.agg #[.int .i64 a, .int .i64 b, .int .i64 s, .int .i64 f, .int .i64 d]) ∧ Below w.heap.size w w'
theorem bytes_alloc {w : World} {A : Option Addr} {n : Nat} {zs : List Int} (hB : BytesAt w w.heap.size A n zs) (o : Obj) : BytesAt (w.alloc o) w.heap.size A n zs :=
  hB.below (((Below.refl w.heap.size w)).alloc (Nat.le_refl _) o)
set_option maxHeartbeats 400000 in
theorem s_DrawWeir (A : Option Addr) (n c : Nat) (zs : List Int) (w : World) (hB : BytesAt w w.heap.size A n zs) (hn : n ≤ 1048576) :
    Calls Try.prog 46 #[.slice A n c] w (WeirOut w) := by
  have hM := Blk.new w 38 #[.int .i64 0, .int .i64 0, .int .i64 0, .int .i64 0, .int .i64 0]
  go_enter Try.func46, Try.ntmps46
  go_wp2_with fail
  refine (d_New A n c zs w.heap.size _ (bytes_alloc hB _) hn (by simp)).mono ?_; rintro e w0 ⟨rfl, hD0, hW⟩
  have hM0 := hM.below hW hM.lt
  have hW0 := ((Below.refl w.heap.size w).alloc (Nat.le_refl _) _).trans (hW.mono (by simp))
  clear hB hM hW
  go_wp2_with fail
  refine (d_Weir _ _ A n c zs _ (by simpa using hD0)).mono ?_; rintro e w1 ⟨a, b, s, f, d, hd, rfl, hD1, hG1⟩
  have hM1 := hM0.grown hG1 (fun e => by injection e; omega)
  have hW1 := below_grown hW0 hG1 hW0.size (by omega)
  have cM := hM1.cell
  have fM := hM1.frozen
  clear hD0 hM0 hW0 hD1 hG1
  go_wp2
  refine bodyPost_ret (v := .agg #[.int .i64 a, .int .i64 b, .int .i64 s, .int .i64 f, .int .i64 d]) (by simp [results, Try.results46, go_sem, cM]) rfl ⟨_, _, _, _, _, hd, rfl, ?_⟩
  repeat (refine Below.setCell ?_ (by simp) _)
  exact hW1

theorem gate_mono_o {g k s c d up dn : Int} (h1 : weirOk g k s c d = true) (h2 : weirOk g (k + 1) s c d = true) : gateV g k s c d up dn ≤ gateV g (k + 1) s c d up dn := by
  obtain ⟨_, _, _, _, b5⟩ := weirOk_true h1
  unfold gateV
  rw [h1, h2]
  split
  · have hq := isq_nonneg (up - max c dn)
    refine Int.ediv_le_ediv (by omega) ?_
    refine Int.mul_le_mul_of_nonneg_right ?_ hq
    exact Int.mul_le_mul_of_nonneg_right (by omega) (by omega)
  · exact Int.le_refl _
theorem gate_nonneg (g k s c d up dn : Int) : 0 ≤ gateV g k s c d up dn := by
  unfold gateV
  split
  · rename_i h
    obtain ⟨_, b2, _, _, b5⟩ := weirOk_true h.1
    exact Int.ediv_nonneg (Int.mul_nonneg (Int.mul_nonneg (by omega) (by omega)) (isq_nonneg _)) (by omega)
  · exact Int.le_refl _
theorem gate_mono_up {g k s c d up dn : Int} (h1 : weirOk g k s c d = true) (h2 : inR (up + 1) 0 100000 = true) : gateV g k s c d up dn ≤ gateV g k s c d (up + 1) dn := by
  by_cases h : weirOk g k s c d = true ∧ inR up 0 100000 = true ∧ inR dn 0 100000 = true ∧ 0 < up - max c dn
  · obtain ⟨_, b2, _, _, b5⟩ := weirOk_true h1
    unfold gateV
    rw [if_pos h, if_pos ⟨h1, h2, h.2.2.1, by have := h.2.2.2; omega⟩]
    refine Int.ediv_le_ediv (by omega) ?_
    refine Int.mul_le_mul_of_nonneg_left (isq_mono (by have := h.2.2.2; omega) (by omega)) (Int.mul_nonneg (by omega) (by omega))
  · have h0 : gateV g k s c d up dn = 0 := by unfold gateV; rw [if_neg h]
    rw [h0]; exact gate_nonneg _ _ _ _ _ _ _

theorem openF_spec (f : Int → Bool) : ∀ (n : Nat) (k : Int), k ≤ openF f n k ∧ openF f n k ≤ k + n ∧ (∀ j, k ≤ j → j < openF f n k → f j = false) ∧ (openF f n k < k + n → f (openF f n k) = true)
  | 0, k => by simp only [openF]; exact ⟨by omega, by omega, fun j h1 h2 => by omega, fun h => by omega⟩
  | n + 1, k => by
    simp only [openF]
    by_cases hf : f k = true
    · rw [if_pos hf]; exact ⟨by omega, by omega, fun j h1 h2 => by omega, fun _ => hf⟩
    · rw [if_neg hf]
      obtain ⟨a1, a2, a3, a4⟩ := openF_spec f n (k + 1)
      refine ⟨by omega, by omega, fun j h1 h2 => ?_, fun h => a4 (by omega)⟩
      by_cases hj : j = k
      · subst hj; simpa using hf
      · exact a3 j (by omega) h2
theorem open_facts {g o s c d up dn flow : Int} (h : weirOk g o s c d = true) (h2 : inR up 0 100000 = true) (h3 : inR dn 0 100000 = true) :
    0 ≤ openV g o s c d up dn flow ∧ openV g o s c d up dn flow ≤ 10 * g ∧ (∀ j, 0 ≤ j → j < openV g o s c d up dn flow → gateV g j s c d up dn < flow) ∧ (openV g o s c d up dn flow < 10 * g → flow ≤ gateV g (openV g o s c d up dn flow) s c d up dn) := by
  obtain ⟨b1, _, _, _, _⟩ := weirOk_true h
  rw [open_yes h h2 h3]
  obtain ⟨a1, a2, a3, a4⟩ := openF_spec (flowF g s c d up dn flow) (10 * g).toNat 0
  refine ⟨a1, by omega, fun j h1 h2 => ?_, fun h => ?_⟩
  · have := a3 j h1 h2; simpa [flowF] using this
  · have := a4 (by omega); simpa [flowF] using this
theorem weirD_at {g o s c d k : Int} (h : weirD g o s c d) (h0 : 0 ≤ k) (h1 : k ≤ 10 * g) : weirOk g k s c d = true := weirD_ok (by unfold weirD at *; omega)
/-- What the last round left. -/
def LastLe (g s c d up dn k L : Int) : Prop := k ≤ 10 * g → L ≤ gateV g k s c d up dn

set_option maxHeartbeats 2000000 in
theorem walk_FnGates (A : Option Addr) (n c : Nat) (zs : List Int) (w : World) (hB : BytesAt w w.heap.size A n zs) :
    Calls Try.prog 16 #[.slice A n c] w fun e w' => e = .returned (.bool true) ∧ Below w.heap.size w w' := by
  by_cases hbig : 1048576 < n
  · have hb : decide (1048576 < n) = true := by simpa using hbig
    clear hB
    go_enter Try.func16, Try.ntmps16
    go_wp2_with (go_at_call 38; refine (l_big _ _ _ _).mono ?_; rintro e w' ⟨rfl, rfl⟩)
    go_ret
    exact ⟨rfl, Below.refl _ _⟩
  · have hb : decide (1048576 < n) = false := by simpa using hbig
    have a0 := atV_bd hB 0
    have a1 := atV_bd hB 1
    have a2 := atV_bd hB 2
    have a3 := atV_bd hB 3
    have f0 : 0 ≤ atV zs 2 * atV zs 3 := Int.mul_nonneg (by omega) (by omega)
    have f1 : atV zs 2 * atV zs 3 ≤ 255 * 255 := Int.mul_le_mul (by omega) (by omega) (by omega) (by omega)
    go_enter Try.func16, Try.ntmps16
    go_wp2_with fail
    refine (l_big _ _ _ _).mono ?_; rintro e w' ⟨rfl, rfl⟩
    go_wp2_with fail
    refine (s_DrawWeir A n c zs _ hB (by omega)).mono ?_; rintro e w1 ⟨g, o, s, f, d, hd, rfl, hW⟩
    have HB := Lib.hid ((hB.below hW).below (((Below.refl w.heap.size w1)).alloc hW.size (.cells #[.int .i64 g, .int .i64 o, .int .i64 s, .int .i64 f, .int .i64 d] 38)))
    clear hB hb
    go_wp2_with fail
    refine (l_atI A n c zs 0 0 w.heap.size _ rfl HB.out (by omega) (by omega)).mono ?_; rintro e w' ⟨rfl, rfl⟩
    go_wp2_with fail
    refine (l_atI A n c zs 1 1 w.heap.size _ rfl HB.out (by omega) (by omega)).mono ?_; rintro e w' ⟨rfl, rfl⟩
    go_wp2_with fail
    refine (l_atI A n c zs 2 2 w.heap.size _ rfl HB.out (by omega) (by omega)).mono ?_; rintro e w' ⟨rfl, rfl⟩
    go_wp2_with fail
    refine (l_atI A n c zs 3 3 w.heap.size _ rfl HB.out (by omega) (by omega)).mono ?_; rintro e w' ⟨rfl, rfl⟩
    go_wp2_with fail
    refine (i_OpenFor _ _ _ _ _ _ _ _ _).mono ?_; rintro e w2 ⟨rfl, hb2⟩
    have hok := weirD_ok hd
    have hup : inR (atV zs 0) 0 100000 = true := inR_mk (by omega) (by omega)
    have hup1 : inR (atV zs 0 + 1) 0 100000 = true := inR_mk (by omega) (by omega)
    have hdn : inR (atV zs 1) 0 100000 = true := inR_mk (by omega) (by omega)
    obtain ⟨n1, n2, n3, n4⟩ := open_facts (flow := atV zs 2 * atV zs 3) hok hup hdn
    have HM := (Blk.new w1 38 #[.int .i64 g, .int .i64 o, .int .i64 s, .int .i64 f, .int .i64 d]).below hb2 (by simp)
    have HW := (hW.alloc hW.size _).trans (hb2.mono (by have := hW.size; simp; omega))
    have hgb : 1 ≤ g ∧ g ≤ 4 := by unfold weirD at hd; omega
    have Hd := Lib.hid hd
    have hwl := hW.size
    clear HB hb2 hd hW
    generalize openV g o s f d (atV zs 0) (atV zs 1) (atV zs 2 * atV zs 3) = N at *
    generalize atV zs 2 * atV zs 3 = flow at *
    generalize atV zs 0 = up at *
    generalize atV zs 1 = dn at *
    clear a2 a3
    have N3 := Lib.hid n3
    have N4 := Lib.hid n4
    clear n3 n4
    go_wp2_with fail
    go_loopw [8, 9] (fun v8 v9 wr => ∃ k L : Int, 0 ≤ k ∧ k ≤ 10 * g + 1 ∧ v8 = .int .i64 L ∧ v9 = .int .i64 k ∧ LastLe g s f d up dn k L ∧ Blk wr w1.heap.size 38 #[.int .i64 g, .int .i64 o, .int .i64 s, .int .i64 f, .int .i64 d] ∧ Below w.heap.size w wr) (fun _ v9 _ => (10 * g + 1 - intOf v9).toNat)
    case atStart => exact ⟨0, -1, by omega, by omega, rfl, rfl, fun _ => by have := gate_nonneg g 0 s f d up dn; omega, HM, HW⟩
    case round =>
      obtain ⟨k, L, k0, k1, rfl, rfl, hL, hM, hW⟩ := hrel
      have cA := hM.cell
      have lA := hM.lt
      clear HM HW
      by_cases hk : k ≤ 10 * g
      · have q1 := hL hk
        have hokk := weirD_at Hd.out k0 hk
        have q2 := gate_mono_up (dn := dn) hokk hup1
        have q5 : k < 10 * g → gateV g k s f d up dn ≤ gateV g (k + 1) s f d up dn := fun h => gate_mono_o hokk (weirD_at Hd.out (by omega) (by omega))
        have Q5 := Lib.hid q5
        clear q5 hL hok
        rcases (show k < N ∨ (k = N ∧ N < 10 * g) ∨ (k = N ∧ 10 * g ≤ N) ∨ N < k from by omega) with hc | ⟨hc, hc'⟩ | ⟨hc, hc'⟩ | hc
        · have q3 := N3.out k k0 hc
          go_wp2_with fail
          refine (i_GateFlow _ _ _ _ _ _ _ _).mono ?_; rintro e w3 ⟨rfl, hb3⟩
          have hX := (Blk.new wr 38 #[.int .i64 g, .int .i64 k, .int .i64 s, .int .i64 f, .int .i64 d]).below hb3 (by simp)
          have hM3 := (hM.alloc _).below hb3 (hM.alloc _).lt
          have hW3 := (hW.alloc hW.size _).trans (hb3.mono (by have := hW.size; simp; omega))
          clear cA hb3
          have cX := hX.cell
          have cM := hM3.cell
          go_wp2_with fail
          refine (i_GateFlow _ _ _ _ _ _ _ _).mono ?_; rintro e w4 ⟨rfl, hb4⟩
          have hM4 := hM3.below hb4 hM3.lt
          have hW4 := hW3.trans (hb4.mono hW3.size)
          clear cX cM hb4 hM3 hW3 hX
          have cM := hM4.cell
          go_wp2
          go_roundw
          case rel => exact ⟨k + 1, _, by omega, by omega, rfl, rfl, fun h => Q5.out (by omega), hM4, hW4⟩
          case measure => simp [intOf]; omega
        · have q4 : flow ≤ gateV g k s f d up dn := by rw [hc]; exact N4.out hc'
          have e1 : k ≤ N := by omega
          have e2 : N ≤ k := by omega
          have e3 : (k == N) = true := by simp [hc]
          clear hc
          go_wp2_with fail
          refine (i_GateFlow _ _ _ _ _ _ _ _).mono ?_; rintro e w3 ⟨rfl, hb3⟩
          have hX := (Blk.new wr 38 #[.int .i64 g, .int .i64 k, .int .i64 s, .int .i64 f, .int .i64 d]).below hb3 (by simp)
          have hM3 := (hM.alloc _).below hb3 (hM.alloc _).lt
          have hW3 := (hW.alloc hW.size _).trans (hb3.mono (by have := hW.size; simp; omega))
          clear cA hb3
          have cX := hX.cell
          have cM := hM3.cell
          go_wp2_with fail
          refine (i_GateFlow _ _ _ _ _ _ _ _).mono ?_; rintro e w4 ⟨rfl, hb4⟩
          have hM4 := hM3.below hb4 hM3.lt
          have hW4 := hW3.trans (hb4.mono hW3.size)
          clear cX cM hb4 hM3 hW3 hX
          have cM := hM4.cell
          go_wp2
          go_roundw
          case rel => exact ⟨k + 1, _, by omega, by omega, rfl, rfl, fun h => Q5.out (by omega), hM4, hW4⟩
          case measure => simp [intOf]; omega
        · have e1 : k ≤ N := by omega
          have e2 : N ≤ k := by omega
          have e3 : (k == N) = true := by simp [hc]
          clear hc
          rcases Int.lt_or_le (gateV g k s f d up dn) flow with q4 | q4
          all_goals
            go_wp2_with fail
            refine (i_GateFlow _ _ _ _ _ _ _ _).mono ?_; rintro e w3 ⟨rfl, hb3⟩
            have hX := (Blk.new wr 38 #[.int .i64 g, .int .i64 k, .int .i64 s, .int .i64 f, .int .i64 d]).below hb3 (by simp)
            have hM3 := (hM.alloc _).below hb3 (hM.alloc _).lt
            have hW3 := (hW.alloc hW.size _).trans (hb3.mono (by have := hW.size; simp; omega))
            clear cA hb3
            have cX := hX.cell
            have cM := hM3.cell
            go_wp2_with fail
            refine (i_GateFlow _ _ _ _ _ _ _ _).mono ?_; rintro e w4 ⟨rfl, hb4⟩
            have hM4 := hM3.below hb4 hM3.lt
            have hW4 := hW3.trans (hb4.mono hW3.size)
            clear cX cM hb4 hM3 hW3 hX
            have cM := hM4.cell
            go_wp2
            go_roundw
            case rel => exact ⟨k + 1, _, by omega, by omega, rfl, rfl, fun h => Q5.out (by omega), hM4, hW4⟩
            case measure => simp [intOf]; omega
        · have e3 : (k == N) = false := by simp; omega
          go_wp2_with fail
          refine (i_GateFlow _ _ _ _ _ _ _ _).mono ?_; rintro e w3 ⟨rfl, hb3⟩
          have hX := (Blk.new wr 38 #[.int .i64 g, .int .i64 k, .int .i64 s, .int .i64 f, .int .i64 d]).below hb3 (by simp)
          have hM3 := (hM.alloc _).below hb3 (hM.alloc _).lt
          have hW3 := (hW.alloc hW.size _).trans (hb3.mono (by have := hW.size; simp; omega))
          clear cA hb3
          have cX := hX.cell
          have cM := hM3.cell
          go_wp2_with fail
          refine (i_GateFlow _ _ _ _ _ _ _ _).mono ?_; rintro e w4 ⟨rfl, hb4⟩
          have hM4 := hM3.below hb4 hM3.lt
          have hW4 := hW3.trans (hb4.mono hW3.size)
          clear cX cM hb4 hM3 hW3 hX
          have cM := hM4.cell
          go_wp2
          go_roundw
          case rel => exact ⟨k + 1, _, by omega, by omega, rfl, rfl, fun h => Q5.out (by omega), hM4, hW4⟩
          case measure => simp [intOf]; omega
      · clear hL
        go_wp2_with (go_at_call 31; refine (i_WeirOk _ _ _ _ _ _).mono ?_; rintro e w5 ⟨rfl, hb5⟩; have hM5 := hM.below hb5 hM.lt; have hW5 := hW.trans (hb5.mono hW.size); clear cA; have cA := hM5.cell)
        go_ret
        exact ⟨rfl, hW5⟩
end Go.Proofs.Ytlilnhlkfooihaa
