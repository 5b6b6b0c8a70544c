/- The laws' helpers on strings; the walk of the law FnExactSplitFields. -/
import Derived.Test.YtgiacjfnbbbafaaSpS
import Derived.Deep.RegionHeld3
import Derived.RegionTactic
import Derived.Deep.QuietTactic
import Derived.BigQuiet
namespace Go.Proofs.Ytgiacjfnbbbafaa
open Go.RowKit

/-- A slice that reads as the values xs and lies below block H. -/
def ValsAt (w : World) (H : Nat) (A : Option Addr) (xs : List Value) : Prop := 0 < xs.length → ∃ b off, A = some ⟨b, off, none⟩ ∧ b < H ∧ ∀ j u, xs[j]? = some u → w.cell? ⟨b, off + j, none⟩ = some u
theorem ValsAt.below {w w' : World} {H : Nat} {A : Option Addr} {xs : List Value} (h : ValsAt w H A xs) (hb : Below H w w') : ValsAt w' H A xs := fun hn => by
  obtain ⟨b, off, e, hl, hc⟩ := h hn
  exact ⟨b, off, e, hl, fun j u hu => (hb.cell (p := ⟨b, off + j, none⟩) hl).trans (hc j u hu)⟩
theorem vals_own {w : World} {lo n c : Nat} {A : Option Addr} {xs : List Value} (h : w.ownsRow lo 9 1 (.slice A n c) n xs) : ValsAt w w.heap.size A xs := fun hn => by
  have hl := h.1
  rcases h.2 with ⟨_, h0⟩ | ⟨g, cap, cur, hv, hg, hh, _⟩
  · omega
  · simp only [Value.slice.injEq, true_and] at hv
    obtain ⟨rfl, rfl⟩ := hv
    refine ⟨g, 0, rfl, (h.lt g rfl).2, fun j u hu => ?_⟩
    have hj : j < xs.length := (List.getElem?_eq_some_iff.1 hu).1
    rw [Nat.zero_add, h.cellAt j (by omega)]; exact hu
theorem own_keep {w w' : World} {lo n : Nat} {v : Value} {xs : List Value} (h : w.ownsRow lo 9 1 v n xs) (hb : Below w.heap.size w w') : w'.ownsRow lo 9 1 v n xs := by
  rcases h with ⟨h1, h2 | ⟨g, cap, cur, hv, hg, hh, r⟩⟩
  · exact ⟨h1, .inl h2⟩
  · refine ⟨h1, .inr ⟨g, cap, cur, hv, hg, ?_, r⟩⟩
    have hlt : g < w.heap.size := by
      rcases Nat.lt_or_ge g w.heap.size with h3 | h3
      · exact h3
      · rw [Array.getElem?_eq_none h3] at hh; cases hh
    exact (hb.block g hlt).trans hh
theorem cellsS_at (fs : List (List UInt8)) (j : Nat) (h : j < fs.length) : (cellsS fs)[j]? = some (.string (strOf (fs.getD j []))) := by simp [cellsS, h]
def markT (i : Nat) : ByteArray := strOf (109 :: Lib.decDigits (1 + i))
def cellsM (n : Nat) : List Value := (List.range n).map (fun i => .string (markT i))
theorem cellsM_len (n : Nat) : (cellsM n).length = n := by simp [cellsM]
theorem cellsM_at (n j : Nat) (h : j < n) : (cellsM n)[j]? = some (.string (markT j)) := by simp [cellsM, h]

set_option maxHeartbeats 2000000 in
theorem l_eqStringS (A B : Option Addr) (c d : Nat) (fs : List (List UInt8)) (w : World) (hP : ValsAt w w.heap.size A (cellsS fs)) (hQ : ValsAt w w.heap.size B (cellsS fs)) (hn : fs.length ≤ 1048576) :
    Calls Try.prog 15 #[.slice A fs.length c, .slice B fs.length d] w fun e w' => e = .returned (.bool true) ∧ Below w.heap.size w w' := by
  have HP := Lib.hid (fun (i : Nat) (hi : i < fs.length) => (show ∃ b off b' off' x, A = some ⟨b, off, none⟩ ∧ B = some ⟨b', off', none⟩ ∧ b < w.heap.size ∧ b' < w.heap.size ∧ w.cell? ⟨b, off + i, none⟩ = some (.string x) ∧ w.cell? ⟨b', off' + i, none⟩ = some (.string x) by
    obtain ⟨b, off, e, hb, hc⟩ := hP (by rw [cellsS_len]; omega)
    obtain ⟨b', off', e', hb', hc'⟩ := hQ (by rw [cellsS_len]; omega)
    exact ⟨b, off, b', off', _, e, e', hb, hb', hc i _ (cellsS_at fs i hi), hc' i _ (cellsS_at fs i hi)⟩))
  clear hP hQ
  generalize fs.length = n at *
  go_enter Try.func15, Try.ntmps15
  go_wp2
  go_loopw [5] (fun v5 wr => ∃ k : Nat, k ≤ n ∧ v5 = .int .i64 k ∧ Below w.heap.size w wr) (fun v5 _ => n - (intOf v5).toNat)
  case atStart => exact ⟨0, by omega, rfl, Below.refl _ _⟩
  case round =>
    obtain ⟨k, hk, rfl, hW⟩ := hrel
    by_cases hlt : k < n
    · obtain ⟨b, off, b', off', x, rfl, rfl, hb, hb', hc, hc'⟩ := HP.out k hlt
      have c1 := (hW.cell (p := ⟨b, off + k, none⟩) (by show b < _; omega)).trans hc
      have c2 := (hW.cell (p := ⟨b', off' + k, none⟩) (by show b' < _; omega)).trans hc'
      have e0 : (0 : Int) ≤ (k : Int) := by omega
      have e3 : (k : Int) < (n : Int) := by omega
      clear hc hc'
      go_wp2_with fail
      go_quiet (fail)
      go_wp2
      go_roundw
      case rel => exact ⟨k + 1, by omega, by go_num, below_drewN hW _⟩
      case measure => simp [intOf]; omega
    · go_wp2
      go_ret
      exact ⟨rfl, hW⟩

set_option maxHeartbeats 2000000 in
theorem l_markText (m0 : Nat) (w : World) (h0 : 0 < m0) (h1 : m0 ≤ 1000000) :
    Calls Try.prog 22 #[.int .i64 (m0 : Int)] w fun e w' => e = .returned (.string (strOf (109 :: Lib.decDigits m0))) ∧ Below w.heap.size w w' := by
  have g0 : (0 : Int) < (m0 : Int) := by omega
  have g1 : decide (0 < m0) = true := by simpa using h0
  have HE := Lib.hid (fun (l : List UInt8) (h : Fmt m0 0 l) => fmt_end h h0)
  go_enter Try.func22, Try.ntmps22
  go_wp2_with fail
  go_loopw [0, 3] (fun v0 v3 wr => ∃ (m : Nat) (l : List UInt8), m ≤ m0 ∧ v0 = .int .i64 (m : Int) ∧ v3 = .string ⟨l.toArray⟩ ∧ l.length + m ≤ 1000000 ∧ Fmt m0 m l ∧ Below w.heap.size w wr) (fun v0 _ _ => (intOf v0).toNat)
  case atStart => exact ⟨m0, [], Nat.le_refl _, rfl, rfl, by simpa using h1, by simp [Fmt], Below.refl _ _⟩
  case round =>
    obtain ⟨m, l, hm, rfl, rfl, hl, hF, hW⟩ := hrel
    by_cases hz : m = 0
    · subst hz
      have HX := Lib.hid (HE.out l hF)
      have had := ba_add Try.prog wr 109 l (by omega)
      clear hF
      go_wp2
      go_ret
      exact ⟨ret_str (by rw [HX.out]; rfl), hW⟩
    · have z1 : decide (0 < m) = true := by simp; omega
      have z2 : (0 : Int) < (m : Int) := by omega
      have z3 : (0 : Int) ≤ (m : Int) % 10 := by omega
      have z4 : (m : Int) % 10 < 10 := by omega
      have HS := Lib.hid (fmt_step hF (by omega))
      have hu := u8_digit (k := m % 10) (Nat.mod_lt _ (by omega))
      have hcv := conv_one wr (UInt8.ofNat (48 + m % 10))
      rw [hu] at hcv
      have hcast : ((m % 10 : Nat) : Int) = (m : Int) % 10 := by omega
      rw [hcast] at hcv
      have had := ba_add Try.prog (wr.alloc (.cells #[.int .u8 (48 + (m : Int) % 10)] 5)) (UInt8.ofNat (48 + m % 10)) l (by omega)
      clear hF hu hcast
      go_wp2
      go_roundw
      case rel => exact ⟨m / 10, UInt8.ofNat (48 + m % 10) :: l, by omega, by go_num, by rw [ba_cons, show UInt8.ofNat (48 + m % 10) = 48 + UInt8.ofNat (m % 10) from by simp], by simp; omega, HS.out, hW.alloc hW.size _⟩
      case measure => simp [intOf]; omega

def UpM (n i : Nat) (ys : List Value) : Prop := ∀ j, j < i → ys[j]? = (cellsM n)[j]?
theorem upM_end {n : Nat} {ys : List Value} (h : UpM n n ys) (hl : ys.length = n) : ys = cellsM n := by
  apply List.ext_getElem?
  intro j
  rcases Nat.lt_or_ge j n with hj | hj
  · exact h j hj
  · rw [List.getElem?_eq_none (by omega), List.getElem?_eq_none (by rw [cellsM_len]; omega)]
theorem upM_step {n i : Nat} {ys : List Value} (h : UpM n i ys) (hi : i < n) (hl : ys.length = n) : UpM n (i + 1) (ys.set i (.string (markT i))) := by
  intro j hj
  simp only [List.getElem?_set]
  by_cases h1 : i = j
  · subst h1; rw [if_pos rfl, if_pos (by omega), cellsM_at n i hi]
  · rw [if_neg h1]; exact h j (by omega)
theorem grown_of {w W w' : World} {row : Option Nat} (h : w.grownBy W row) (hb : Below W.heap.size W w') : w.grownBy w' row :=
  h.trans ⟨hb.os, hb.tape, hb.output, hb.size, fun i hi _ => hb.block i hi⟩
theorem l_markT (i : Nat) (k : Int) (w : World) (hk : k = 1 + (i : Int)) (hi : i ≤ 1000) :
    Calls Try.prog 22 #[.int .i64 k] w fun e w' => e = .returned (.string (markT i)) ∧ Below w.heap.size w w' := by
  have e : k = ((1 + i : Nat) : Int) := by omega
  rw [e]
  exact l_markText (1 + i) w (by omega) (by omega)
theorem own_ad {w : World} {base n c : Nat} {A : Option Addr} {xs : List Value} (h : w.ownsRow base 9 1 (.slice A n c) n xs) (hn : 0 < n) : ∃ g, A = some ⟨g, 0, none⟩ := by
  rcases h.2 with ⟨_, h0⟩ | ⟨g, cap, cur, hv, _⟩
  · omega
  · injection hv with hA; exact ⟨g, hA⟩

set_option maxHeartbeats 2000000 in
theorem l_markStringS (A : Option Addr) (n c : Nat) (xs : List Value) (lo : Nat) (w : World) (hR : w.ownsRow lo 9 1 (.slice A n c) n xs) (hn : n ≤ 24) :
    Calls Try.prog 16 #[.slice A n c, .int .i64 1] w fun e w' => e = .returned (.int .i64 (1 + (n : Int))) ∧ w'.ownsRow lo 9 1 (.slice A n c) n (cellsM n) ∧ w.grownBy w' (A.map (·.block)) := by
  go_enter Try.func16, Try.ntmps16
  go_wp2
  go_loopw [1, 5] (fun v1 v5 wr => ∃ (i : Nat) (ys : List Value), i ≤ n ∧ v1 = .int .i64 (1 + (i : Int)) ∧ v5 = .int .i64 i ∧ UpM n i ys ∧ wr.ownsRow lo 9 1 (.slice A n c) n ys ∧ w.grownBy wr (A.map (·.block))) (fun _ v5 _ => n - (intOf v5).toNat)
  case atStart => exact ⟨0, xs, by omega, by simp, rfl, fun j hj => by omega, hR, World.grownBy.refl _ _⟩
  case round =>
    obtain ⟨i, ys, hin, rfl, rfl, hU, hO, hG⟩ := hrel
    have hyl := hO.1
    rw [Nat.mul_one] at hyl
    clear hR
    by_cases hlt : i < n
    · obtain ⟨g, rfl⟩ := own_ad hO (by omega)
      have e3 : (i : Int) < (n : Int) := by omega
      have HU := Lib.hid (upM_step hU hlt hyl)
      clear hU
      go_wp2_with fail
      refine (l_markT i _ _ rfl (by omega)).mono ?_; rintro e w2 ⟨rfl, hb2⟩
      have hO2 := own_keep hO hb2
      have hG2 := grown_of hG hb2
      have f1 := hO2.frozenAt i
      obtain ⟨u1, hu1⟩ : ∃ u, w2.cell? ⟨g, i, none⟩ = some u := by
        rw [hO2.cellAt i (by omega)]; exact ⟨_, List.getElem?_eq_getElem (by omega)⟩
      have s1 := hO2.stored i (.string (markT i))
      have hO3 := s1.1
      have hG3 := hG2.trans s1.2
      clear hO hG hyl s1 hO2 hG2 hb2
      go_wp2
      go_roundw
      case rel => exact ⟨i + 1, _, by omega, by go_num, by go_num, HU.out, hO3, hG3⟩
      case measure => simp [intOf]; omega
    · obtain rfl : i = n := by omega
      have HX := Lib.hid (upM_end hU hyl)
      clear hU hyl
      go_wp2
      go_ret
      exact ⟨rfl, by rw [← HX.out]; exact hO, hG⟩

theorem one_below {W w1 : World} {b o : Nat} {x : Value} (hb : Below W.heap.size W w1) (h : W.cell? ⟨b, o, none⟩ = some x ∧ b < W.heap.size) : w1.cell? ⟨b, o, none⟩ = some x ∧ b < w1.heap.size :=
  ⟨(hb.cell (p := ⟨b, o, none⟩) h.2).trans h.1, Nat.lt_of_lt_of_le h.2 hb.size⟩
set_option maxHeartbeats 2000000 in
theorem l_heldStringS (A : Option Addr) (n c : Nat) (w : World) (hP : ValsAt w w.heap.size A (cellsM n)) (hn : n ≤ 24) :
    Calls Try.prog 17 #[.slice A n c, .int .i64 1] w fun e w' => e = .returned (.int .i64 (1 + (n : Int))) ∧ Below w.heap.size w w' := by
  have HP := Lib.hid (fun (i : Nat) (hi : i < n) => (show ∃ b off, A = some ⟨b, off, none⟩ ∧ b < w.heap.size ∧ w.cell? ⟨b, off + i, none⟩ = some (.string (markT i)) by
    obtain ⟨b, off, e, hb, hc⟩ := hP (by rw [cellsM_len]; omega)
    exact ⟨b, off, e, hb, hc i _ (cellsM_at n i hi)⟩))
  clear hP
  go_enter Try.func17, Try.ntmps17
  go_wp2
  go_loopw [1, 5] (fun v1 v5 wr => ∃ i : Nat, i ≤ n ∧ v1 = .int .i64 (1 + (i : Int)) ∧ v5 = .int .i64 i ∧ Below w.heap.size w wr) (fun _ v5 _ => n - (intOf v5).toNat)
  case atStart => exact ⟨0, by omega, by simp, rfl, Below.refl _ _⟩
  case round =>
    obtain ⟨i, hin, rfl, rfl, hW⟩ := hrel
    by_cases hlt : i < n
    · obtain ⟨b, off, rfl, hb, c1⟩ := HP.out i hlt
      have e0 : (0 : Int) ≤ (i : Int) := by omega
      have e3 : (i : Int) < (n : Int) := by omega
      have S8 : wr.drew.cell? ⟨b, off + i, none⟩ = some (.string (markT i)) ∧ b < wr.drew.heap.size := ⟨(hW.cell (p := ⟨b, off + i, none⟩) hb).trans c1, Nat.lt_of_lt_of_le hb hW.size⟩
      clear c1
      go_wp2_with fail
      go_region_held3 (fun w' => w'.cell? ⟨b, off + i, none⟩ = some (.string (markT i)) ∧ b < w'.heap.size) (first | with_reducible exact S8) (first | (go_at_call 22; refine (l_markT i _ _ rfl (by omega)).mono ?_; rintro e w2 ⟨rfl, hb2⟩; replace S8 := one_below hb2 S8))
      all_goals
        have hW2 := hW.drew.trans (hb2.mono hW.size)
        go_wp2
        go_roundw
        case rel => exact ⟨i + 1, by omega, by go_num, by go_num, hW2⟩
        case measure => simp [intOf]; omega
    · obtain rfl : i = n := by omega
      go_wp2
      go_ret
      exact ⟨rfl, hW⟩

theorem bel_st {w W w' : World} (h : Below w.heap.size w W) (hb : Below W.heap.size W w') : Below w.heap.size w w' := h.trans (hb.mono h.size)
theorem vals_st {w w' : World} {A : Option Addr} {xs : List Value} (h : ValsAt w w.heap.size A xs) (hb : Below w.heap.size w w') : ValsAt w' w'.heap.size A xs := fun hn => by
  obtain ⟨b, off, e, hl, hc⟩ := (h.below hb) hn
  exact ⟨b, off, e, Nat.lt_of_lt_of_le hl hb.size, hc⟩
/-- A block made later is marked: what lies below stays. -/
theorem below_mark {w1 w' : World} {lo n c : Nat} {A : Option Addr} {xs : List Value} (hO : w1.ownsRow lo 9 1 (.slice A n c) n xs) (hg : w1.grownBy w' (A.map (·.block))) (hlo : lo ≤ w1.heap.size) : Below lo w1 w' :=
  ⟨hg.os, hg.tape, hg.output, hg.size, fun k hk => hg.block k (Nat.lt_of_lt_of_le hk hlo) (fun e => by
    cases A with
    | none => cases e
    | some a => have := (hO.lt a.block rfl).1; simp at e; omega)⟩
set_option maxHeartbeats 4000000 in
theorem walk_FnExactSplitFields (s : ByteArray) (hs : s.size ≤ 9223372036854775807) (w : World) :
    Calls Try.prog 6 #[.string s] w fun e w' => e = .returned (.bool true) ∧ Below w.heap.size w w' := by
  by_cases hbig : 1048576 < s.size
  · have g1 : (1048576 : Int) < (s.size : Int) := by omega
    go_enter Try.func6, Try.ntmps6
    go_wp2
    go_ret
    exact ⟨rfl, Below.refl _ _⟩
  · have g1 : (s.size : Int) ≤ 1048576 := by omega
    have HS := Lib.hid (fun W => s_SplitFields s W hs)
    have HI := Lib.hid (fun W => i_SplitFields s W hs)
    have hfl := splitF_len s.data.toList
    generalize splitF s.data.toList = fs at *
    generalize splitB s.data.toList = b at *
    go_enter Try.func6, Try.ntmps6
    go_wp2_with fail
    refine (HS.out _).mono ?_; rintro e w1 ⟨A1, c1, rfl, hO1, hb1⟩
    have hV1 := vals_own hO1
    have hW := hb1
    have hs01 := hb1.size
    clear hO1 hb1
    go_wp2_with fail
    refine (HI.out _).mono ?_; rintro e w2 ⟨A2, c2, rfl, hO2, hb2⟩
    replace hV1 := hV1.below hb2
    have hlo := hb2.size
    replace hW := bel_st hW hb2
    clear hb2
    go_wp2_with fail
    refine (l_eqStringS A2 A1 c2 c1 fs _ (vals_own hO2) (fun hn => by obtain ⟨b', off, e, hl, hc⟩ := hV1 hn; exact ⟨b', off, e, Nat.lt_of_lt_of_le hl hlo, hc⟩) (by omega)).mono ?_; rintro e w3 ⟨rfl, hb3⟩
    replace hV1 := hV1.below (hb3.mono hlo)
    replace hO2 := own_keep hO2 hb3
    replace hlo := Nat.le_trans hlo hb3.size
    replace hW := bel_st hW hb3
    clear hb3
    go_wp2_with fail
    refine (l_markStringS A2 fs.length c2 _ w1.heap.size _ hO2 hfl).mono ?_; rintro e w4 ⟨rfl, hO4, hg4⟩
    have hb4 := below_mark hO2 hg4 hlo
    replace hV1 := hV1.below hb4
    have hs14 := Nat.le_trans hlo hg4.size
    replace hW : Below w.heap.size w w4 := hW.trans (hb4.mono hs01)
    have hV4 := vals_own hO4
    clear hO2 hO4 hg4 hb4
    go_wp2_with fail
    refine (l_heldStringS A2 fs.length c2 _ hV4 hfl).mono ?_; rintro e w5 ⟨rfl, hb5⟩
    replace hV1 := hV1.below (hb5.mono hs14)
    replace hV4 := vals_st hV4 hb5
    replace hs14 := Nat.le_trans hs14 hb5.size
    replace hW := bel_st hW hb5
    clear hb5
    go_wp2_with fail
    refine (HI.out _).mono ?_; rintro e w6 ⟨A6, c6, rfl, hO6, hb6⟩
    replace hV1 := hV1.below (hb6.mono hs14)
    replace hV4 := vals_st hV4 hb6
    replace hs14 := Nat.le_trans hs14 hb6.size
    replace hW := bel_st hW hb6
    clear hb6
    go_wp2_with fail
    refine (l_eqStringS A6 A1 c6 c1 fs _ (vals_own hO6) (fun hn => by obtain ⟨b', off, e, hl, hc⟩ := hV1 hn; exact ⟨b', off, e, Nat.lt_of_lt_of_le hl hs14, hc⟩) (by omega)).mono ?_; rintro e w7 ⟨rfl, hb7⟩
    replace hV4 := vals_st hV4 hb7
    replace hW := bel_st hW hb7
    clear hb7 hO6 hV1
    go_wp2_with fail
    refine (l_heldStringS A2 fs.length c2 _ hV4 hfl).mono ?_; rintro e w8 ⟨rfl, hb8⟩
    replace hW := bel_st hW hb8
    go_wp2
    go_ret
    exact ⟨rfl, hW⟩
end Go.Proofs.Ytgiacjfnbbbafaa
