/- Contracts of ValueAt and PlaceOf (program and reference). -/
import Derived.Test.YtgbncfjabnaokabTabC
import Derived.RegionTactic
import Derived.BigRegion
namespace Go.Proofs.Ytgbncfjabnaokab
open Go.RowKit

theorem ret_ib {a b : Int} {p q : Bool} (h : a = b) (h' : p = q) : Ending.returned (.tuple #[.int .i64 a, .bool p]) = .returned (.tuple #[.int .i64 b, .bool q]) := by rw [h, h']
/-- The search for a segment has come to k. -/
def SegTo (ps : List (Int × Int)) (x : Int) (k : Nat) : Prop := ∀ j, j < k → px ps (j + 1) ≤ x
theorem segTo_succ {ps : List (Int × Int)} {x : Int} {k : Nat} (h : SegTo ps x k) (h' : px ps (k + 1) ≤ x) : SegTo ps x (k + 1) := fun j hj => by
  rcases Nat.lt_or_ge j k with h1 | h1
  · exact h j h1
  · rw [show j = k by omega]; exact h'
/-- The arithmetic of one segment. -/
theorem seg_arith {ps : List (Int × Int)} {x : Int} {k : Nat} (h : tableOk ps = true) (hk : k + 1 < ps.length) (h1 : px ps k ≤ x) (h2 : x < px ps (k + 1)) :
    0 ≤ x - px ps k ∧ x - px ps k ≤ 1000000000 ∧ 0 ≤ py ps (k + 1) - py ps k ∧ py ps (k + 1) - py ps k ≤ 1000000000 ∧ 0 < px ps (k + 1) - px ps k ∧ px ps (k + 1) - px ps k ≤ 1000000000 ∧
    0 ≤ (x - px ps k) * (py ps (k + 1) - py ps k) ∧ (x - px ps k) * (py ps (k + 1) - py ps k) ≤ 1000000000000000000 ∧
    0 ≤ (x - px ps k) * (py ps (k + 1) - py ps k) / (px ps (k + 1) - px ps k) ∧ (x - px ps k) * (py ps (k + 1) - py ps k) / (px ps (k + 1) - px ps k) ≤ 1000000000 := by
  obtain ⟨s1, s2⟩ := tab_step h hk
  have x1 := tab_x h (j := k) (by omega)
  have x2 := tab_x h hk
  have y1 := tab_y h (j := k) (by omega)
  have y2 := tab_y h hk
  have b := lin_bd h hk h1 (by omega)
  unfold linV at b
  have a1 : 0 ≤ (x - px ps k) * (py ps (k + 1) - py ps k) := Int.mul_nonneg (by omega) (by omega)
  have a2 : (x - px ps k) * (py ps (k + 1) - py ps k) ≤ 1000000000 * 1000000000 := Int.mul_le_mul (by omega) (by omega) (by omega) (by omega)
  omega

theorem four_alloc {W : World} {b o1 o2 o3 o4 : Nat} {v1 v2 v3 v4 : Value} {o : Obj} (h : W.cell? ⟨b, o1, none⟩ = some v1 ∧ W.cell? ⟨b, o2, none⟩ = some v2 ∧ W.cell? ⟨b, o3, none⟩ = some v3 ∧ W.cell? ⟨b, o4, none⟩ = some v4 ∧ b < W.heap.size) :
    (W.alloc o).cell? ⟨b, o1, none⟩ = some v1 ∧ (W.alloc o).cell? ⟨b, o2, none⟩ = some v2 ∧ (W.alloc o).cell? ⟨b, o3, none⟩ = some v3 ∧ (W.alloc o).cell? ⟨b, o4, none⟩ = some v4 ∧ b < (W.alloc o).heap.size := by
  obtain ⟨h1, h2, h3, h4, hb⟩ := h
  have e : ∀ j, (W.alloc o).cell? ⟨b, j, none⟩ = W.cell? ⟨b, j, none⟩ := fun j => World.cell?_alloc_lt _ _ _ hb
  exact ⟨(e _).trans h1, (e _).trans h2, (e _).trans h3, (e _).trans h4, by simp; omega⟩

theorem blk_pair (W : World) (t : TypeId) (cs ds : Array Value) : Blk ((W.alloc (.cells cs t)).alloc (.cells ds t)).drew W.heap.size t cs ∧ Blk ((W.alloc (.cells cs t)).alloc (.cells ds t)).drew (W.heap.size + 1) t ds := by
  have h2 := Blk.new (W.alloc (.cells cs t)) t ds
  simp only [World.size_alloc] at h2
  exact ⟨((Blk.new W t cs).alloc _).drew, h2.drew⟩
theorem bel_two {w W : World} {o o' : Obj} (hW : Below w.heap.size w W) : Below w.heap.size w ((W.alloc o).alloc o').drew :=
  ((hW.alloc hW.size o).alloc (by have := hW.size; simp; omega) o').drew

set_option maxHeartbeats 4000000 in
theorem i_ValueAt (A : Option Addr) (c : Nat) (ps : List (Int × Int)) (x : Int) (H : Nat) (w : World) (hP : PtsAt w H A ps) (hH : H ≤ w.heap.size) (hn : ps.length ≤ 1048576) :
    Calls Try.prog 56 #[.slice A ps.length c, .int .i64 x] w fun e w' => e = .returned (.int .i64 (valueV ps x)) ∧ Below w.heap.size w w' := by
  have HT := Lib.hid (fun (W : World) (h : PtsAt W H A ps) (h' : H ≤ W.heap.size) => i_TableOk A c ps H W h h' hn)
  rcases bcases (tableOk ps) with ht | ht
  · have hl := tab_len ht
    obtain ⟨b, off, rfl, hb, hc⟩ := hP (by omega)
    have HP := Lib.hid hP
    have HC := Lib.hid hc
    have Ht := Lib.hid ht
    have HL2 := Lib.hid (fun (h1 : x ≤ px ps 0) => value_low ht h1)
    have HH := Lib.hid (fun (h1 : px ps 0 < x) (h2 : px ps (ps.length - 1) ≤ x) => value_high ht h1 h2)
    have HM := Lib.hid (fun (h1 : px ps 0 < x) (h2 : x < px ps (ps.length - 1)) => value_mid ht h1 h2)
    obtain ⟨n, hnn⟩ : ∃ n, n = ps.length := ⟨_, rfl⟩
    rw [← hnn] at hl ⊢
    have HL := Lib.hid hnn
    clear hP hc hn hnn
    have e0 : (2 : Int) ≤ (n : Int) := by omega
    have e1 : (n : Int) ≤ 20 := by omega
    go_enter Try.func56, Try.ntmps56
    go_wp2_with fail
    rw [HL.out]
    refine (HT.out _ HP.out hH).mono ?_; rintro e w1 ⟨rfl, hb1⟩
    rw [← HL.out]
    obtain ⟨c0x, c0y⟩ := HC.out 0 (by rw [← HL.out]; omega)
    obtain ⟨clx, cly⟩ := HC.out (n - 1) (by rw [← HL.out]; omega)
    have hbw : b < w1.heap.size := by have := hb1.size; omega
    have d0x := (hb1.cell (p := ⟨b, off + 0 * 2, none⟩) (by show b < _; omega)).trans c0x
    have d0y := (hb1.cell (p := ⟨b, off + 0 * 2 + 1, none⟩) (by show b < _; omega)).trans c0y
    have dlx := (hb1.cell (p := ⟨b, off + (n - 1) * 2, none⟩) (by show b < _; omega)).trans clx
    have dly := (hb1.cell (p := ⟨b, off + (n - 1) * 2 + 1, none⟩) (by show b < _; omega)).trans cly
    rw [Nat.zero_mul, Nat.add_zero] at d0x d0y
    clear c0x c0y clx cly
    have HX := Lib.hid (fun k (hk : k < n) => (hb1.cell (p := ⟨b, off + k * 2, none⟩) (by show b < _; omega)).trans (HC.out k (by rw [← HL.out]; exact hk)).1)
    have HYc := Lib.hid (fun k (hk : k < n) => (hb1.cell (p := ⟨b, off + k * 2 + 1, none⟩) (by show b < _; omega)).trans (HC.out k (by rw [← HL.out]; exact hk)).2)
    have ht : tableOk ps = true := Ht.out
    have g1 : (0 : Int) ≤ (n : Int) - 1 := by omega
    have g2 : (n : Int) - 1 < (n : Int) := by omega
    by_cases hx0 : x ≤ px ps 0
    · have HV := Lib.hid (HL2.out hx0)
      go_wp2
      go_ret
      exact ⟨ret_int HV.out.symm, hb1.alloc hb1.size _⟩
    · by_cases hxl : px ps (n - 1) ≤ x
      · have HV := Lib.hid (HH.out (by omega) (by rw [← HL.out]; exact hxl))
        go_wp2
        go_ret
        exact ⟨ret_int (by rw [HV.out, ← HL.out]), hb1.alloc hb1.size _⟩
      · have HV := Lib.hid (HM.out (by omega) (by rw [← HL.out]; omega))
        clear ht
        go_wp2_with fail
        go_loop [6] (fun v6 => ∃ k : Nat, k + 1 < n ∧ v6 = .int .i64 k ∧ SegTo ps x k) (fun v6 => n - (intOf v6).toNat)
        case atStart => exact ⟨0, by omega, rfl, fun j hj => by omega⟩
        case round =>
          obtain ⟨k, hk, rfl, hS⟩ := hrel
          have dkx := HX.out (k + 1) hk
          have k1 : (k : Int) + 1 < (n : Int) := by omega
          by_cases hc : px ps (k + 1) ≤ x
          · have HS := Lib.hid (segTo_succ hS hc)
            have hk2 : k + 1 + 1 < n := by
              rcases Nat.lt_or_ge (k + 1 + 1) n with h | h
              · exact h
              · exfalso; rw [show n - 1 = k + 1 by omega] at hxl; omega
            go_wp2
            go_round
            case rel => exact ⟨k + 1, hk2, by go_num, HS.out⟩
            case measure => simp [intOf]; omega
          · have hseg : segOf ps x = k := seg_eq (by rw [← HL.out]; exact hk) hS (by omega)
            have hxk : px ps k ≤ x := by
              rcases Nat.eq_zero_or_pos k with h0 | h0
              · rw [h0]; omega
              · have := hS (k - 1) (by omega); rw [show k - 1 + 1 = k by omega] at this; exact this
            obtain ⟨q1, q2, q3, q4, q5, q6, q7, q8, q9, q10⟩ := seg_arith Ht.out (k := k) (x := x) (by rw [← HL.out]; exact hk) hxk (by omega)
            have y1 := tab_y Ht.out (j := k) (by rw [← HL.out]; omega)
            have x1 := tab_x Ht.out (j := k) (by rw [← HL.out]; omega)
            have HV2 := Lib.hid (show valueV ps x = py ps k + (x - px ps k) * (py ps (k + 1) - py ps k) / (px ps (k + 1) - px ps k) by rw [HV.out, hseg]; rfl)
            have ckx := HX.out k (by omega)
            have cky := HYc.out k (by omega)
            have dky := HYc.out (k + 1) hk
            have k0 : (k : Int) < (n : Int) := by omega
            clear hS hseg d0x d0y dlx dly
            go_upto_region 11 with (fail)
            have hW1 : Below w.heap.size w (w1.alloc (.cells #[.int .i64 (px ps (n - 1)), .int .i64 (py ps (n - 1))] 52)) := hb1.alloc hb1.size _
            have S0 := four_alloc (o := .cells #[.int .i64 (px ps (n - 1)), .int .i64 (py ps (n - 1))] 52) ⟨ckx, cky, dkx, dky, hbw⟩
            clear ckx cky dkx dky hbw hb1 HX HYc
            generalize w1.alloc (.cells #[.int .i64 (px ps (n - 1)), .int .i64 (py ps (n - 1))] 52) = W1 at *
            have S1 : W1.drew.cell? ⟨b, off + k * 2, none⟩ = some (.int .i64 (px ps k)) ∧ W1.drew.cell? ⟨b, off + k * 2 + 1, none⟩ = some (.int .i64 (py ps k)) ∧ W1.drew.cell? ⟨b, off + (k + 1) * 2, none⟩ = some (.int .i64 (px ps (k + 1))) ∧ W1.drew.cell? ⟨b, off + (k + 1) * 2 + 1, none⟩ = some (.int .i64 (py ps (k + 1))) ∧ b < W1.drew.heap.size := S0
            go_cut [7, 8] (fun s7 s8 wx => ∃ g g' : Nat, s7 = .pointer (some ⟨g, 0, none⟩) ∧ s8 = .pointer (some ⟨g', 0, none⟩) ∧ Blk wx g 52 #[.int .i64 (px ps k), .int .i64 (py ps k)] ∧ Blk wx g' 52 #[.int .i64 (px ps (k + 1)), .int .i64 (py ps (k + 1))] ∧ Below w.heap.size w wx)
            case first =>
              have z1 : (0 : Int) ≤ (k : Int) := by omega
              have z2 : (0 : Int) ≤ (k : Int) + 1 := by omega
              have z3 : ((k : Int) + 1).toNat = k + 1 := by omega
              have z4 : IntKind.i64.wrap ((k : Int) + 1) = (k : Int) + 1 := IntWalk.i64_in _ (by omega)
              go_region_held3 (fun w' => w'.cell? ⟨b, off + k * 2, none⟩ = some (.int .i64 (px ps k)) ∧ w'.cell? ⟨b, off + k * 2 + 1, none⟩ = some (.int .i64 (py ps k)) ∧ w'.cell? ⟨b, off + (k + 1) * 2, none⟩ = some (.int .i64 (px ps (k + 1))) ∧ w'.cell? ⟨b, off + (k + 1) * 2 + 1, none⟩ = some (.int .i64 (py ps (k + 1))) ∧ b < w'.heap.size) (first | with_reducible exact S1 | exact four_alloc S0 | exact four_alloc (four_alloc S0)) (fail)
              all_goals go_wp2_with fail
              all_goals go_meet
              all_goals first | with_reducible exact ⟨_, _, rfl, rfl, (blk_pair _ _ _ _).1, (blk_pair _ _ _ _).2, bel_two hW1⟩ | with_reducible exact ⟨_, _, rfl, rfl, (blk_pair _ _ _ _).2, (blk_pair _ _ _ _).1, bel_two hW1⟩
            case rest =>
              obtain ⟨g, g', rfl, rfl, hG, hG', hWx⟩ := hcut
              have cG := hG.cell
              have cG' := hG'.cell
              go_wp2_with fail
              go_quiet (fail)
              go_wp2
              go_ret
              exact ⟨ret_int HV2.out.symm, below_drewN hWx _⟩
  · have HV := Lib.hid (value_no (x := x) ht)
    have HP := Lib.hid hP
    clear hP
    go_enter Try.func56, Try.ntmps56
    go_wp2_with (go_at_call 51; refine (HT.out _ HP.out hH).mono ?_; rintro e w1 ⟨rfl, hb1⟩)
    go_ret
    exact ⟨ret_int HV.out.symm, hb1⟩

set_option maxHeartbeats 4000000 in
theorem s_ValueAt (A : Option Addr) (c : Nat) (ps : List (Int × Int)) (x : Int) (H : Nat) (w : World) (hP : PtsAt w H A ps) (hH : H ≤ w.heap.size) (hn : ps.length ≤ 1048576) :
    Calls Try.prog 30 #[.slice A ps.length c, .int .i64 x] w fun e w' => e = .returned (.int .i64 (valueV ps x)) ∧ Below w.heap.size w w' := by
  have HT := Lib.hid (fun (W : World) (h : PtsAt W H A ps) (h' : H ≤ W.heap.size) => s_TableOk A c ps H W h h' hn)
  rcases bcases (tableOk ps) with ht | ht
  · have hl := tab_len ht
    obtain ⟨b, off, rfl, hb, hc⟩ := hP (by omega)
    have HP := Lib.hid hP
    have HC := Lib.hid hc
    have Ht := Lib.hid ht
    have HL2 := Lib.hid (fun (h1 : x ≤ px ps 0) => value_low ht h1)
    have HH := Lib.hid (fun (h1 : px ps 0 < x) (h2 : px ps (ps.length - 1) ≤ x) => value_high ht h1 h2)
    have HM := Lib.hid (fun (h1 : px ps 0 < x) (h2 : x < px ps (ps.length - 1)) => value_mid ht h1 h2)
    obtain ⟨n, hnn⟩ : ∃ n, n = ps.length := ⟨_, rfl⟩
    rw [← hnn] at hl ⊢
    have HL := Lib.hid hnn
    clear hP hc hn hnn
    have e0 : (2 : Int) ≤ (n : Int) := by omega
    have e1 : (n : Int) ≤ 20 := by omega
    go_enter Try.func30, Try.ntmps30
    go_wp2_with fail
    rw [HL.out]
    refine (HT.out _ HP.out hH).mono ?_; rintro e w1 ⟨rfl, hb1⟩
    rw [← HL.out]
    obtain ⟨c0x, c0y⟩ := HC.out 0 (by rw [← HL.out]; omega)
    obtain ⟨clx, cly⟩ := HC.out (n - 1) (by rw [← HL.out]; omega)
    have hbw : b < w1.heap.size := by have := hb1.size; omega
    have d0x := (hb1.cell (p := ⟨b, off + 0 * 2, none⟩) (by show b < _; omega)).trans c0x
    have d0y := (hb1.cell (p := ⟨b, off + 0 * 2 + 1, none⟩) (by show b < _; omega)).trans c0y
    have dlx := (hb1.cell (p := ⟨b, off + (n - 1) * 2, none⟩) (by show b < _; omega)).trans clx
    have dly := (hb1.cell (p := ⟨b, off + (n - 1) * 2 + 1, none⟩) (by show b < _; omega)).trans cly
    rw [Nat.zero_mul, Nat.add_zero] at d0x d0y
    clear c0x c0y clx cly
    have HX := Lib.hid (fun k (hk : k < n) => (hb1.cell (p := ⟨b, off + k * 2, none⟩) (by show b < _; omega)).trans (HC.out k (by rw [← HL.out]; exact hk)).1)
    have HYc := Lib.hid (fun k (hk : k < n) => (hb1.cell (p := ⟨b, off + k * 2 + 1, none⟩) (by show b < _; omega)).trans (HC.out k (by rw [← HL.out]; exact hk)).2)
    have ht : tableOk ps = true := Ht.out
    have g1 : (0 : Int) ≤ (n : Int) - 1 := by omega
    have g2 : (n : Int) - 1 < (n : Int) := by omega
    by_cases hx0 : x ≤ px ps 0
    · have HV := Lib.hid (HL2.out hx0)
      go_wp2
      go_ret
      exact ⟨ret_int HV.out.symm, hb1⟩
    · by_cases hxl : px ps (n - 1) ≤ x
      · have HV := Lib.hid (HH.out (by omega) (by rw [← HL.out]; exact hxl))
        go_wp2
        go_ret
        exact ⟨ret_int (by rw [HV.out, ← HL.out]), hb1⟩
      · have HV := Lib.hid (HM.out (by omega) (by rw [← HL.out]; omega))
        clear ht
        go_wp2_with fail
        go_loop [6] (fun v6 => ∃ k : Nat, k + 1 < n ∧ v6 = .int .i64 k ∧ SegTo ps x k) (fun v6 => n - (intOf v6).toNat)
        case atStart => exact ⟨0, by omega, rfl, fun j hj => by omega⟩
        case round =>
          obtain ⟨k, hk, rfl, hS⟩ := hrel
          have dkx := HX.out (k + 1) hk
          have k1 : (k : Int) + 1 < (n : Int) := by omega
          by_cases hc : px ps (k + 1) ≤ x
          · have HS := Lib.hid (segTo_succ hS hc)
            have hk2 : k + 1 + 1 < n := by
              rcases Nat.lt_or_ge (k + 1 + 1) n with h | h
              · exact h
              · exfalso; rw [show n - 1 = k + 1 by omega] at hxl; omega
            go_wp2
            go_round
            case rel => exact ⟨k + 1, hk2, by go_num, HS.out⟩
            case measure => simp [intOf]; omega
          · have hseg : segOf ps x = k := seg_eq (by rw [← HL.out]; exact hk) hS (by omega)
            have hxk : px ps k ≤ x := by
              rcases Nat.eq_zero_or_pos k with h0 | h0
              · rw [h0]; omega
              · have := hS (k - 1) (by omega); rw [show k - 1 + 1 = k by omega] at this; exact this
            obtain ⟨q1, q2, q3, q4, q5, q6, q7, q8, q9, q10⟩ := seg_arith Ht.out (k := k) (x := x) (by rw [← HL.out]; exact hk) hxk (by omega)
            have y1 := tab_y Ht.out (j := k) (by rw [← HL.out]; omega)
            have x1 := tab_x Ht.out (j := k) (by rw [← HL.out]; omega)
            have HV2 := Lib.hid (show valueV ps x = py ps k + (x - px ps k) * (py ps (k + 1) - py ps k) / (px ps (k + 1) - px ps k) by rw [HV.out, hseg]; rfl)
            have ckx := HX.out k (by omega)
            have cky := HYc.out k (by omega)
            have dky := HYc.out (k + 1) hk
            have k0 : (k : Int) < (n : Int) := by omega
            clear hS hseg d0x d0y dlx dly
            go_wp2
            go_quiet (fail)
            go_wp2
            go_ret
            exact ⟨ret_int HV2.out.symm, below_drewN ((hb1.alloc hb1.size _).alloc (by have := hb1.size; simp; omega) _) _⟩
  · have HV := Lib.hid (value_no (x := x) ht)
    have HP := Lib.hid hP
    clear hP
    go_enter Try.func30, Try.ntmps30
    go_wp2_with (go_at_call 54; refine (HT.out _ HP.out hH).mono ?_; rintro e w1 ⟨rfl, hb1⟩)
    go_ret
    exact ⟨ret_int HV.out.symm, hb1⟩

/-- The search for a place has come to l from below and to h from above. -/
def LowUp (ps : List (Int × Int)) (y l h : Int) : Prop := (px ps 0 < l → valueV ps (l - 1) < y) ∧ y ≤ valueV ps h

set_option maxHeartbeats 4000000 in
theorem i_PlaceOf (A : Option Addr) (c : Nat) (ps : List (Int × Int)) (y : Int) (H : Nat) (w : World) (hP : PtsAt w H A ps) (hH : H ≤ w.heap.size) (hn : ps.length ≤ 1048576) :
    Calls Try.prog 53 #[.slice A ps.length c, .int .i64 y] w fun e w' => e = .returned (.tuple #[.int .i64 (placeV ps y), .bool (placeB ps y)]) ∧ Below w.heap.size w w' := by
  have HT := Lib.hid (fun (W : World) (h : PtsAt W H A ps) (h' : H ≤ W.heap.size) => i_TableOk A c ps H W h h' hn)
  have HA := Lib.hid (fun (z : Int) (W : World) (h : PtsAt W H A ps) (h' : H ≤ W.heap.size) => i_ValueAt A c ps z H W h h' hn)
  rcases bcases (tableOk ps) with ht | ht
  · have hl := tab_len ht
    obtain ⟨b, off, rfl, hb, hc⟩ := hP (by omega)
    have HP := Lib.hid hP
    have HC := Lib.hid hc
    have Ht := Lib.hid ht
    have bx0 := tab_x ht (j := 0) (by omega)
    have bxl := tab_x ht (j := ps.length - 1) (by omega)
    have bxx := tab_xmono ht (i := 0) (j := ps.length - 1) (by omega) (by omega)
    obtain ⟨n, hnn⟩ : ∃ n, n = ps.length := ⟨_, rfl⟩
    rw [← hnn] at hl bxl bxx ⊢
    have HL := Lib.hid hnn
    clear hP hc hn hnn
    have e0 : (2 : Int) ≤ (n : Int) := by omega
    have e1 : (n : Int) ≤ 20 := by omega
    go_enter Try.func53, Try.ntmps53
    go_wp2_with fail
    rw [HL.out]
    refine (HT.out _ HP.out hH).mono ?_; rintro e w1 ⟨rfl, hb1⟩
    rw [← HL.out]
    obtain ⟨c0x, c0y⟩ := HC.out 0 (by rw [← HL.out]; omega)
    obtain ⟨clx, cly⟩ := HC.out (n - 1) (by rw [← HL.out]; omega)
    have d0x := (hb1.cell (p := ⟨b, off + 0 * 2, none⟩) (by show b < _; omega)).trans c0x
    have dlx := (hb1.cell (p := ⟨b, off + (n - 1) * 2, none⟩) (by show b < _; omega)).trans clx
    have dly := (hb1.cell (p := ⟨b, off + (n - 1) * 2 + 1, none⟩) (by show b < _; omega)).trans cly
    rw [Nat.zero_mul, Nat.add_zero] at d0x
    clear c0x c0y clx cly
    have ht : tableOk ps = true := Ht.out
    have g1 : (0 : Int) ≤ (n : Int) - 1 := by omega
    have g2 : (n : Int) - 1 < (n : Int) := by omega
    by_cases hy : py ps (n - 1) < y
    · have HV := Lib.hid (place_no (ps := ps) (y := y) (.inr (by rw [← HL.out]; exact hy)))
      go_wp2
      go_ret2
      exact ⟨ret_ib HV.out.2.symm HV.out.1.symm, hb1⟩
    · have hy' : y ≤ py ps (n - 1) := by omega
      have HB := Lib.hid (place_yes Ht.out (by rw [← HL.out]; exact hy'))
      have HV := Lib.hid (fun (p : Int) (h1 : px ps 0 ≤ p) (h2 : p ≤ px ps (n - 1)) (h3 : px ps 0 < p → valueV ps (p - 1) < y) (h4 : y ≤ valueV ps p) => place_eq Ht.out (by rw [← HL.out]; exact hy') h1 (by rw [← HL.out]; exact h2) h3 h4)
      have HE := Lib.hid (show y ≤ valueV ps (px ps (n - 1)) by rw [value_point Ht.out (by rw [← HL.out]; omega)]; exact hy')
      have z4 : IntKind.i64.wrap ((n : Int) - 1) = (n : Int) - 1 := IntWalk.i64_in _ (by omega)
      have z5 : ((n : Int) - 1).toNat = n - 1 := by omega
      go_wp2_with fail
      go_quiet (fail)
      clear z4 z5 ht d0x dlx dly
      go_wp2_with fail
      go_loopw [6, 7] (fun v6 v7 wr => ∃ l h : Int, px ps 0 ≤ l ∧ l ≤ h ∧ h ≤ px ps (n - 1) ∧ v6 = .int .i64 l ∧ v7 = .int .i64 h ∧ Below w.heap.size w wr ∧ LowUp ps y l h) (fun v6 v7 _ => (intOf v7 - intOf v6).toNat)
      case atStart => exact ⟨_, _, Int.le_refl _, bxx, Int.le_refl _, rfl, rfl, below_drewN hb1 _, fun h => by omega, HE.out⟩
      case round =>
        obtain ⟨l, h, l0, lh, h1, rfl, rfl, hW, hS⟩ := hrel
        by_cases hlt : l < h
        · go_wp2_with fail
          rw [HL.out]
          refine (HA.out _ _ (HP.out.below (hW.mono hH)) (Nat.le_trans hH hW.size)).mono ?_; rintro e w2 ⟨rfl, hb2⟩
          rw [← HL.out]
          have hW2 := hW.trans (hb2.mono hW.size)
          by_cases hv : y ≤ valueV ps ((l + h) / 2)
          · have HS := Lib.hid (show LowUp ps y l ((l + h) / 2) from ⟨hS.1, hv⟩)
            clear hb2
            go_wp2
            go_roundw
            case rel => exact ⟨l, (l + h) / 2, by omega, by omega, by omega, rfl, rfl, hW2, HS.out⟩
            case measure => simp [intOf]; omega
          · have HS := Lib.hid (show LowUp ps y ((l + h) / 2 + 1) h from ⟨fun _ => by rw [show (l + h) / 2 + 1 - 1 = (l + h) / 2 by omega]; omega, hS.2⟩)
            clear hb2
            go_wp2
            go_roundw
            case rel => exact ⟨(l + h) / 2 + 1, h, by omega, by omega, by omega, rfl, rfl, hW2, HS.out⟩
            case measure => simp [intOf]; omega
        · have HF := Lib.hid (HV.out l l0 (by omega) hS.1 (by rw [show l = h by omega]; exact hS.2))
          go_wp2
          go_ret2
          exact ⟨ret_ib HF.out.symm HB.out.symm, hW⟩
  · have HV := Lib.hid (place_no (y := y) (.inl ht))
    have HP := Lib.hid hP
    clear hP
    go_enter Try.func53, Try.ntmps53
    go_wp2_with (go_at_call 51; refine (HT.out _ HP.out hH).mono ?_; rintro e w1 ⟨rfl, hb1⟩)
    go_ret2
    exact ⟨ret_ib HV.out.2.symm HV.out.1.symm, hb1⟩

end Go.Proofs.Ytgbncfjabnaokab
