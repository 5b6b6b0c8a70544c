/- Contracts of the laws' marks: markPointS, heldPointS, markIntS, heldIntS, markReach, heldReach. -/
import Derived.Test.YtgbncfjabnaokabClone
namespace Go.Proofs.Ytgbncfjabnaokab
open Go.RowKit

/-- The marks from k on. -/
def markP (k : Int) (n : Nat) : List (Int × Int) := (List.range n).map fun (j : Nat) => (k + 2 * (j : Int), k + 2 * (j : Int) + 1)
def markI (k : Int) (n : Nat) : List Int := (List.range n).map fun (j : Nat) => k + (j : Int)
theorem markP_len (k : Int) (n : Nat) : (markP k n).length = n := by simp [markP]
theorem markI_len (k : Int) (n : Nat) : (markI k n).length = n := by simp [markI]
theorem markP_x {k : Int} {n j : Nat} (h : j < n) : px (markP k n) j = k + 2 * (j : Int) := by simp [px, markP, h]
theorem markP_y {k : Int} {n j : Nat} (h : j < n) : py (markP k n) j = k + 2 * (j : Int) + 1 := by simp [py, markP, h]
theorem markI_at {k : Int} {n j : Nat} (h : j < n) : (markI k n).getD j 0 = k + (j : Int) := by simp [markI, h]

/-- Nothing has turned but blocks from lo on and below hi, and what is new. -/
structure Upto (lo hi : Nat) (w w' : World) : Prop where
  os : w'.os = w.os
  tape : w'.tape = w.tape
  output : w'.output = w.output
  size : w.heap.size ≤ w'.heap.size
  block : ∀ g, g < w.heap.size → (g < lo ∨ hi ≤ g) → w'.heap[g]? = w.heap[g]?
section
variable {lo hi : Nat} {w w' w1 : World}
theorem Upto.of_below (h : Below w.heap.size w w') : Upto lo hi w w' := ⟨h.os, h.tape, h.output, h.size, fun g hg _ => h.block g hg⟩
theorem Upto.of_grown {A : Option Addr} (h : w.grownBy w' (A.map (·.block))) (hA : ∀ a, A = some a → lo ≤ a.block ∧ a.block < hi) : Upto lo hi w w' :=
  ⟨h.os, h.tape, h.output, h.size, fun g hg hd => h.block g hg (fun e => by
    cases A with
    | none => simp at e
    | some a => simp at e; have := hA a rfl; omega)⟩
theorem Upto.trans (h : Upto lo hi w w') (h' : Upto lo hi w' w1) : Upto lo hi w w1 :=
  ⟨h'.os.trans h.os, h'.tape.trans h.tape, h'.output.trans h.output, Nat.le_trans h.size h'.size, fun g hg hd => (h'.block g (Nat.lt_of_lt_of_le hg h.size) hd).trans (h.block g hg hd)⟩
theorem Upto.below {B : Nat} (h : Upto lo hi w w') (hB : B ≤ lo) (hs : B ≤ w.heap.size) : Below B w w' := ⟨h.os, h.tape, h.output, h.size, fun g hg => h.block g (by omega) (.inl (by omega))⟩
theorem Blk.upto {g : Nat} {t : TypeId} {cs : Array Value} (h : Blk w g t cs) (hu : Upto lo hi w w') (hg : g < lo ∨ hi ≤ g) : Blk w' g t cs := (hu.block g h.lt hg).trans h
theorem Row.upto {lo' hi' : Nat} {e : TypeId} {size n c : Nat} {A : Option Addr} {xs : List Value} (h : Row w lo' hi' e size A n c xs) (hu : Upto lo hi w w') (hd : hi' ≤ lo ∨ hi ≤ lo') (hs : hi' ≤ w.heap.size) : Row w' lo' hi' e size A n c xs :=
  h.same fun g h1 h2 => hu.block g (by omega) (by omega)
end
theorem own_addr {w : World} {base : Nat} {e : TypeId} {size n c : Nat} {A : Option Addr} {xs : List Value} (h : w.ownsRow base e size (.slice A n c) n xs) (hn : 0 < n) : ∃ g, A = some ⟨g, 0, none⟩ := by
  rcases h.2 with ⟨_, h0⟩ | ⟨g, cap, cur, hv, _⟩
  · omega
  · injection hv with hA; exact ⟨g, hA⟩
/-- A row in other memory than a row of another element type. -/
theorem Row.other {w w' : World} {lo hi : Nat} {e : TypeId} {size n c : Nat} {A : Option Addr} {xs : List Value} {lo' hi' : Nat} {e' : TypeId} {size' n' c' : Nat} {A' : Option Addr} {xs' : List Value}
    (h : Row w lo hi e size A n c xs) (h' : Row w lo' hi' e' size' A' n' c' xs') (hne : e ≠ e') (hg : w.grownBy w' (A.map (·.block))) : Row w' lo' hi' e' size' A' n' c' xs' := by
  obtain ⟨⟨a1, a2⟩, a3⟩ := h'
  refine ⟨⟨a1, ?_⟩, a3⟩
  rcases a2 with a2 | ⟨g, cap, cur, hv, hg', hh, r⟩
  · exact .inl a2
  · refine .inr ⟨g, cap, cur, hv, hg', ?_, r⟩
    have hlt : g < w.heap.size := by
      rcases Nat.lt_or_ge g w.heap.size with h1 | h1
      · exact h1
      · rw [Array.getElem?_eq_none h1] at hh; cases hh
    rw [hg.block g hlt ?_]; exact hh
    intro e1
    rcases h.1.2 with ⟨hv2, _⟩ | ⟨g2, cap2, cur2, hv2, _, hh2, _⟩
    · injection hv2 with hA; subst hA; simp at e1
    · injection hv2 with hA; subst hA; simp at e1; subst e1
      rw [hh2] at hh; injection hh with hh; injection hh with _ ht; exact hne ht

set_option maxHeartbeats 1000000 in
theorem l_markPointS (A : Option Addr) (n c : Nat) (k : Int) (xs : List Value) (lo hi : Nat) (w : World) (hR : Row w lo hi 52 2 A n c xs) (hn : n ≤ 1048576) (hk : 0 ≤ k) (hk' : k ≤ 9000000) :
    Calls Try.prog 42 #[.slice A n c, .int .i64 k] w fun e w' => e = .returned (.int .i64 (k + 2 * (n : Int))) ∧ Row w' lo hi 52 2 A n c (cellsP (markP k n)) ∧ w.grownBy w' (A.map (·.block)) := by
  have HE := Lib.hid (fun (xs : List Value) (h : UpTo (markP k n) (markP k n).length xs) (hl : xs.length = (markP k n).length * 2) => upTo_end h hl)
  have HS := Lib.hid (fun (xs : List Value) (i : Nat) (h : UpTo (markP k n) i xs) (hi : i < n) (hl : xs.length = n * 2) => show UpTo (markP k n) (i + 1) ((xs.set (i * 2) (.int .i64 (k + 2 * (i : Int)))).set (i * 2 + 1) (.int .i64 (k + 2 * (i : Int) + 1))) by
    have := upTo_step h (by rw [markP_len]; exact hi) (by rw [markP_len]; exact hl)
    rwa [markP_x hi, markP_y hi] at this)
  have HL := Lib.hid (markP_len k n)
  have hhi := hR.2
  go_enter Try.func42, Try.ntmps42
  go_wp2
  go_loopw [1, 5] (fun v1 v5 wr => ∃ (i : Nat) (ys : List Value), i ≤ n ∧ v1 = .int .i64 (k + 2 * (i : Int)) ∧ v5 = .int .i64 i ∧ UpTo (markP k n) i ys ∧ wr.ownsRow lo 52 2 (.slice A n c) n ys ∧ w.grownBy wr (A.map (·.block))) (fun _ v5 _ => n - (intOf v5).toNat)
  case atStart => exact ⟨0, xs, by omega, by simp, rfl, fun j hj => by omega, hR.1, World.grownBy.refl _ _⟩
  case round =>
    obtain ⟨i, ys, hin, rfl, rfl, hU, hO, hG⟩ := hrel
    have hyl := hO.1
    clear hR
    by_cases hlt : i < n
    · obtain ⟨g, rfl⟩ := own_addr hO (by omega)
      have e3 : (i : Int) < (n : Int) := by omega
      have HU := Lib.hid (HS.out ys i hU hlt hyl)
      have f1 := hO.frozenAt (i * 2)
      have f2 := hO.frozenAt (i * 2 + 1)
      obtain ⟨u1, hu1⟩ : ∃ u, wr.cell? ⟨g, i * 2, none⟩ = some u := by
        rw [hO.cellAt (i * 2) (by omega)]; exact ⟨_, List.getElem?_eq_getElem (by omega)⟩
      obtain ⟨u2, hu2⟩ : ∃ u, wr.cell? ⟨g, i * 2 + 1, none⟩ = some u := by
        rw [hO.cellAt (i * 2 + 1) (by omega)]; exact ⟨_, List.getElem?_eq_getElem (by omega)⟩
      have s1 := hO.stored (i * 2) (.int .i64 (k + 2 * (i : Int)))
      have s2 := s1.1.stored (i * 2 + 1) (.int .i64 (k + 2 * (i : Int) + 1))
      have hO3 := s2.1
      have hG3 := (hG.trans s1.2).trans s2.2
      clear hO hG hU hyl s1 s2
      go_wp2
      go_roundw
      case rel => exact ⟨i + 1, _, by omega, by go_num, by go_num, HU.out, hO3, hG3⟩
      case measure => simp [intOf]; omega
    · obtain rfl : i = n := by omega
      have hys := HE.out ys (by rw [HL.out]; exact hU) (by rw [HL.out]; exact hyl)
      have HX := Lib.hid hys
      clear hU hys hyl
      go_wp2
      go_ret
      exact ⟨rfl, ⟨by rw [← HX.out]; exact hO, hhi⟩, hG⟩

set_option maxHeartbeats 1000000 in
theorem l_markIntS (A : Option Addr) (n c : Nat) (k : Int) (xs : List Value) (lo hi : Nat) (w : World) (hR : Row w lo hi 3 1 A n c xs) (hn : n ≤ 1048576) (hk : 0 ≤ k) (hk' : k ≤ 9000000) :
    Calls Try.prog 43 #[.slice A n c, .int .i64 k] w fun e w' => e = .returned (.int .i64 (k + (n : Int))) ∧ Row w' lo hi 3 1 A n c (cellsI (markI k n)) ∧ w.grownBy w' (A.map (·.block)) := by
  have HE := Lib.hid (fun (xs : List Value) (h : UpToI (markI k n) (markI k n).length xs) (hl : xs.length = (markI k n).length) => upToI_end h hl)
  have HS := Lib.hid (fun (xs : List Value) (i : Nat) (h : UpToI (markI k n) i xs) (hi : i < n) (hl : xs.length = n) => show UpToI (markI k n) (i + 1) (xs.set i (.int .i64 (k + (i : Int)))) by
    have := upToI_step h (by rw [markI_len]; exact hi) (by rw [markI_len]; exact hl)
    rwa [markI_at hi] at this)
  have HL := Lib.hid (markI_len k n)
  have hhi := hR.2
  go_enter Try.func43, Try.ntmps43
  go_wp2
  go_loopw [1, 5] (fun v1 v5 wr => ∃ (i : Nat) (ys : List Value), i ≤ n ∧ v1 = .int .i64 (k + (i : Int)) ∧ v5 = .int .i64 i ∧ UpToI (markI k n) i ys ∧ wr.ownsRow lo 3 1 (.slice A n c) n ys ∧ w.grownBy wr (A.map (·.block))) (fun _ v5 _ => n - (intOf v5).toNat)
  case atStart => exact ⟨0, xs, by omega, by simp, rfl, fun j hj => by omega, hR.1, World.grownBy.refl _ _⟩
  case round =>
    obtain ⟨i, ys, hin, rfl, rfl, hU, hO, hG⟩ := hrel
    have hyl := hO.1
    rw [Nat.mul_one] at hyl
    clear hR
    by_cases hlt : i < n
    · obtain ⟨g, rfl⟩ := own_addr hO (by omega)
      have e3 : (i : Int) < (n : Int) := by omega
      have HU := Lib.hid (HS.out ys i hU hlt hyl)
      have f1 := hO.frozenAt i
      obtain ⟨u1, hu1⟩ : ∃ u, wr.cell? ⟨g, i, none⟩ = some u := by
        rw [hO.cellAt i (by omega)]; exact ⟨_, List.getElem?_eq_getElem (by omega)⟩
      have s1 := hO.stored i (.int .i64 (k + (i : Int)))
      have hO3 := s1.1
      have hG3 := hG.trans s1.2
      clear hO hG hU hyl s1
      go_wp2
      go_roundw
      case rel => exact ⟨i + 1, _, by omega, by go_num, by go_num, HU.out, hO3, hG3⟩
      case measure => simp [intOf]; omega
    · obtain rfl : i = n := by omega
      have hys := HE.out ys (by rw [HL.out]; exact hU) (by rw [HL.out]; exact hyl)
      have HX := Lib.hid hys
      clear hU hys hyl
      go_wp2
      go_ret
      exact ⟨rfl, ⟨by rw [← HX.out]; exact hO, hhi⟩, hG⟩

set_option maxHeartbeats 1000000 in
theorem l_heldPointS (A : Option Addr) (n c : Nat) (k : Int) (H : Nat) (w : World) (hP : PtsAt w H A (markP k n)) (hn : n ≤ 1048576) (hk : 0 ≤ k) (hk' : k ≤ 9000000) :
    Calls Try.prog 44 #[.slice A n c, .int .i64 k] w fun e w' => e = .returned (.int .i64 (k + 2 * (n : Int))) ∧ w = w' := by
  have HP := Lib.hid (show ∀ i, i < n → ∃ b off, A = some ⟨b, off, none⟩ ∧ w.cell? ⟨b, off + i * 2, none⟩ = some (.int .i64 (k + 2 * (i : Int))) ∧ w.cell? ⟨b, off + i * 2 + 1, none⟩ = some (.int .i64 (k + 2 * (i : Int) + 1)) from fun i hi => by
    obtain ⟨b, off, e, _, hc⟩ := hP (by rw [markP_len]; omega)
    have := hc i (by rw [markP_len]; exact hi)
    rw [markP_x hi, markP_y hi] at this
    exact ⟨b, off, e, this⟩)
  clear hP
  go_enter Try.func44, Try.ntmps44
  go_wp2
  go_loop [1, 5] (fun v1 v5 => ∃ i : Nat, i ≤ n ∧ v1 = .int .i64 (k + 2 * (i : Int)) ∧ v5 = .int .i64 i) (fun _ v5 => n - (intOf v5).toNat)
  case atStart => exact ⟨0, by omega, by simp, rfl⟩
  case round =>
    obtain ⟨i, hin, rfl, rfl⟩ := hrel
    by_cases hlt : i < n
    · obtain ⟨b, off, rfl, c1, c2⟩ := HP.out i hlt
      have e3 : (i : Int) < (n : Int) := by omega
      go_wp2
      go_round
      case rel => exact ⟨i + 1, by omega, by go_num, by go_num⟩
      case measure => simp [intOf]; omega
    · obtain rfl : i = n := by omega
      go_wp2
      go_ret
      exact ⟨rfl, rfl⟩

set_option maxHeartbeats 1000000 in
theorem l_heldIntS (A : Option Addr) (n c : Nat) (k : Int) (H : Nat) (w : World) (hP : NumsAt w H A (markI k n)) (hn : n ≤ 1048576) (hk : 0 ≤ k) (hk' : k ≤ 9000000) :
    Calls Try.prog 45 #[.slice A n c, .int .i64 k] w fun e w' => e = .returned (.int .i64 (k + (n : Int))) ∧ w = w' := by
  have HP := Lib.hid (show ∀ i, i < n → ∃ b off, A = some ⟨b, off, none⟩ ∧ w.cell? ⟨b, off + i, none⟩ = some (.int .i64 (k + (i : Int))) from fun i hi => by
    obtain ⟨b, off, e, _, hc⟩ := hP (by rw [markI_len]; omega)
    have := hc i (by rw [markI_len]; exact hi)
    rw [markI_at hi] at this
    exact ⟨b, off, e, this⟩)
  clear hP
  go_enter Try.func45, Try.ntmps45
  go_wp2
  go_loop [1, 5] (fun v1 v5 => ∃ i : Nat, i ≤ n ∧ v1 = .int .i64 (k + (i : Int)) ∧ v5 = .int .i64 i) (fun _ v5 => n - (intOf v5).toNat)
  case atStart => exact ⟨0, by omega, by simp, rfl⟩
  case round =>
    obtain ⟨i, hin, rfl, rfl⟩ := hrel
    by_cases hlt : i < n
    · obtain ⟨b, off, rfl, c1⟩ := HP.out i hlt
      have e3 : (i : Int) < (n : Int) := by omega
      go_wp2
      go_round
      case rel => exact ⟨i + 1, by omega, by go_num, by go_num⟩
      case measure => simp [intOf]; omega
    · obtain rfl : i = n := by omega
      go_wp2
      go_ret
      exact ⟨rfl, rfl⟩

/-- What a mark of a reach leaves. -/
def Marked (tA : Option Addr) (n tc : Nat) (pA : Option Addr) (m pc : Nat) (k : Int) (lo hi : Nat) (w w' : World) : Prop :=
  Row w' lo hi 52 2 tA n tc (cellsP (markP k n)) ∧ Row w' lo hi 3 1 pA m pc (cellsI (markI (k + 2 * (n : Int)) m)) ∧ Upto lo hi w w'
theorem row_in {w : World} {lo hi : Nat} {e : TypeId} {size n c : Nat} {A : Option Addr} {xs : List Value} (h : Row w lo hi e size A n c xs) : ∀ a, A = some a → lo ≤ a.block ∧ a.block < hi := by
  intro a ha
  subst ha
  refine ⟨?_, h.2 a rfl⟩
  rcases h.1.2 with ⟨hv, _⟩ | ⟨g, cap, cur, hv, hg, _⟩
  · injection hv with hA; cases hA
  · injection hv with hA; injection hA with hA; subst hA; exact hg

set_option maxHeartbeats 1000000 in
theorem l_markReach (tA : Option Addr) (n tc : Nat) (vol : Int) (pA : Option Addr) (m pc : Nat) (k : Int) (xs ys : List Value) (lo hi : Nat) (w : World) (hR : Row w lo hi 52 2 tA n tc xs) (hS : Row w lo hi 3 1 pA m pc ys) (hhi : hi ≤ w.heap.size) (hn : n ≤ 1048576) (hm : m ≤ 1048576) (hk : 0 ≤ k) (hk' : k ≤ 4000000) :
    Calls Try.prog 14 #[.agg #[.slice tA n tc, .int .i64 vol, .slice pA m pc], .int .i64 k] w fun e w' => e = .returned (.int .i64 (k + 2 * (n : Int) + (m : Int))) ∧ Marked tA n tc pA m pc k lo hi w w' := by
  have HR0 := hR.same (w' := w.alloc (.cells #[.slice tA n tc, .int .i64 vol, .slice pA m pc] 29)) (fun g h1 h2 => Below.heap_alloc w _ g (by omega))
  have HS0 := hS.same (w' := w.alloc (.cells #[.slice tA n tc, .int .i64 vol, .slice pA m pc] 29)) (fun g h1 h2 => Below.heap_alloc w _ g (by omega))
  have hB0 := Blk.new w 29 #[.slice tA n tc, .int .i64 vol, .slice pA m pc]
  have hU0 : Upto lo hi w (w.alloc (.cells #[.slice tA n tc, .int .i64 vol, .slice pA m pc] 29)) := Upto.of_below ((Below.refl _ _).alloc (Nat.le_refl _) _)
  have HR1 := Lib.hid HR0
  have HS1 := Lib.hid HS0
  clear hR hS HR0 HS0
  go_enter Try.func14, Try.ntmps14
  go_wp2_with fail
  generalize w.alloc (.cells #[.slice tA n tc, .int .i64 vol, .slice pA m pc] 29) = W0 at *
  refine (l_markPointS tA n tc k xs lo hi _ HR1.out hn hk (by omega)).mono ?_; rintro e w1 ⟨rfl, hR1, hg1⟩
  have hU1 := Upto.of_grown hg1 (row_in HR1.out)
  have hB1 := hB0.upto hU1 (.inr hhi)
  have hS1 := HR1.out.other HS1.out (by decide) hg1
  have HUa := hU0.trans hU1
  have cB := hB1.cell
  clear hg1 hU1 hB0 HR1 HS1
  go_wp2_with fail
  refine (l_markIntS pA m pc (k + 2 * (n : Int)) ys lo hi _ hS1 hm (by omega) (by omega)).mono ?_; rintro e w2 ⟨rfl, hS2, hg2⟩
  have hR2 := hS1.other hR1 (by decide) hg2
  have hU2 := HUa.trans (Upto.of_grown hg2 (row_in hS1))
  clear cB hg2 hS1 hR1 HUa
  go_wp2
  go_ret
  exact ⟨rfl, hR2, hS2, hU2⟩

set_option maxHeartbeats 1000000 in
theorem l_heldReach (tA : Option Addr) (n tc : Nat) (vol : Int) (pA : Option Addr) (m pc : Nat) (k : Int) (H : Nat) (w : World) (hP : PtsAt w H tA (markP k n)) (hQ : NumsAt w H pA (markI (k + 2 * (n : Int)) m)) (hH : H ≤ w.heap.size) (hn : n ≤ 1048576) (hm : m ≤ 1048576) (hk : 0 ≤ k) (hk' : k ≤ 4000000) :
    Calls Try.prog 15 #[.agg #[.slice tA n tc, .int .i64 vol, .slice pA m pc], .int .i64 k] w fun e w' => e = .returned (.int .i64 (k + 2 * (n : Int) + (m : Int))) ∧ Below w.heap.size w w' := by
  have HP := Lib.hid (hP.below ((Below.refl H w).alloc hH (.cells #[.slice tA n tc, .int .i64 vol, .slice pA m pc] 29)))
  have HQ := Lib.hid (hQ.below ((Below.refl H w).alloc hH (.cells #[.slice tA n tc, .int .i64 vol, .slice pA m pc] 29)))
  clear hP hQ
  go_enter Try.func15, Try.ntmps15
  go_wp2_with (first | (go_at_call 44; refine (l_heldPointS tA n tc k H _ HP.out hn hk (by omega)).mono ?_; rintro e w' ⟨rfl, rfl⟩) | (go_at_call 45; refine (l_heldIntS pA m pc _ H _ HQ.out hm (by omega) (by omega)).mono ?_; rintro e w' ⟨rfl, rfl⟩))
  go_ret
  exact ⟨rfl, (Below.refl _ _).alloc (Nat.le_refl _) _⟩
end Go.Proofs.Ytgbncfjabnaokab
