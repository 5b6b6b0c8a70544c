/- Draws of numbers, weirs and rules: l01Number, DrawClamp, l03Weir, DrawWeir, l03Rule, DrawRule. -/
import Derived.Test.YtlnmpdkbkkmhiaaDr
import Derived.Test.YtlnmpdkbkkmhiaaWeir
namespace Go.Proofs.Ytlnmpdkbkkmhiaa
open Go.RowKit


def Any3 (w : World) (e : Ending) (w' : World) : Prop := ∃ a b c : Int, e = .returned (.tuple #[.int .i64 a, .int .i64 b, .int .i64 c]) ∧ Below w.heap.size w w'

/-- A drawn weir. -/
def weirD (g o s c d : Int) : Prop := 1 ≤ g ∧ g ≤ 4 ∧ 0 ≤ o ∧ o ≤ 10 * g ∧ 1 ≤ s ∧ s ≤ 12 ∧ 0 ≤ c ∧ c ≤ 119 ∧ 1 ≤ d ∧ d ≤ 60
theorem weirD_ok {g o s c d : Int} (h : weirD g o s c d) : weirOk g o s c d = true := by
  unfold weirD at h
  simp only [weirOk, Bool.and_eq_true]
  exact ⟨⟨⟨⟨inR_mk (by omega) (by omega), inR_mk (by omega) (by omega)⟩, inR_mk (by omega) (by omega)⟩, inR_mk (by omega) (by omega)⟩, inR_mk (by omega) (by omega)⟩
def WeirPost (w : World) (gc H : Nat) (A : Option Addr) (n c : Nat) (zs : List Int) (e : Ending) (w' : World) : Prop :=
  ∃ a b s f d : Int, weirD a b s f d ∧ e = .returned (.agg #[.int .i64 a, .int .i64 b, .int .i64 s, .int .i64 f, .int .i64 d]) ∧ Dr w' gc H A n c zs ∧ w.grownBy w' (some gc)

set_option maxHeartbeats 400000 in
theorem d_Weir (g H : Nat) (A : Option Addr) (n c : Nat) (zs : List Int) (w : World) (hD : Dr w g H A n c zs) :
    Calls Try.prog 22 #[.pointer (some ⟨g, 0, none⟩)] w (WeirPost w g H A n c zs) := by
  have hgl := hD.lt
  have hgH := hD.le
  have hM := Blk.new w 27 #[.int .i64 0, .int .i64 0, .int .i64 0, .int .i64 0, .int .i64 0]
  go_enter Try.func22, Try.ntmps22
  go_wp2_with fail
  refine (d_Below _ _ A n c zs 4 _ (hD.alloc _) (by omega) (by omega)).mono ?_; rintro e w1 ⟨x1, p1, q1, rfl, hD1, hG1⟩
  go_wp2_with fail
  refine (d_Below _ _ A n c zs _ _ hD1 (by omega) (by omega)).mono ?_; rintro e w2 ⟨x2, p2, q2, rfl, hD2, hG2⟩
  go_wp2_with fail
  refine (d_Below _ _ A n c zs 12 _ hD2 (by omega) (by omega)).mono ?_; rintro e w3 ⟨x3, p3, q3, rfl, hD3, hG3⟩
  go_wp2_with fail
  refine (d_Below _ _ A n c zs 120 _ hD3 (by omega) (by omega)).mono ?_; rintro e w4 ⟨x4, p4, q4, rfl, hD4, hG4⟩
  go_wp2_with fail
  refine (d_Below _ _ A n c zs 60 _ hD4 (by omega) (by omega)).mono ?_; rintro e w5 ⟨x5, p5, q5, rfl, hD5, hG5⟩
  have hG := (((hG1.trans hG2).trans hG3).trans hG4).trans hG5
  have hM5 := hM.grown hG (fun e => by injection e; omega)
  have cM := hM5.cell
  have fM := hM5.frozen
  clear hG1 hG2 hG3 hG4 hG5 hD1 hD2 hD3 hD4 hM
  go_wp2
  refine bodyPost_ret (v := .agg #[.int .i64 (1 + x1), .int .i64 x2, .int .i64 (1 + x3), .int .i64 x4, .int .i64 (1 + x5)]) (by simp [results, Try.results22, go_sem, cM]) rfl ⟨_, _, _, _, _, ?_, rfl, ?_, ?_⟩
  · unfold weirD; omega
  · exact ((((hD5.set_ (p := ⟨w.heap.size, 0, none⟩) (by show H ≤ w.heap.size; omega) (by show w.heap.size ≠ g; omega) _).set_ (p := ⟨w.heap.size, 1, none⟩) (by show H ≤ w.heap.size; omega) (by show w.heap.size ≠ g; omega) _).set_ (p := ⟨w.heap.size, 2, none⟩) (by show H ≤ w.heap.size; omega) (by show w.heap.size ≠ g; omega) _).set_ (p := ⟨w.heap.size, 3, none⟩) (by show H ≤ w.heap.size; omega) (by show w.heap.size ≠ g; omega) _).set_ (p := ⟨w.heap.size, 4, none⟩) (by show H ≤ w.heap.size; omega) (by show w.heap.size ≠ g; omega) _
  · have hG0 := grown_alloc_trans hG
    exact only_setCell (only_setCell (only_setCell (only_setCell (only_setCell hG0 (p := ⟨w.heap.size, 0, none⟩) (.inr (Nat.le_refl _)) _) (p := ⟨w.heap.size, 1, none⟩) (.inr (Nat.le_refl _)) _) (p := ⟨w.heap.size, 2, none⟩) (.inr (Nat.le_refl _)) _) (p := ⟨w.heap.size, 3, none⟩) (.inr (Nat.le_refl _)) _) (p := ⟨w.heap.size, 4, none⟩) (.inr (Nat.le_refl _)) _

def ruleD (l h f : Int) : Prop := 0 ≤ l ∧ l ≤ 99 ∧ l + 1 ≤ h ∧ h ≤ l + 60 ∧ h ≤ f ∧ f ≤ h + 59
theorem ruleD_ok {l h f : Int} (hh : ruleD l h f) : ruleOk l h f = true := by
  unfold ruleD at hh
  simp only [ruleOk, Bool.and_eq_true, decide_eq_true_eq]
  exact ⟨⟨⟨⟨inR_mk (by omega) (by omega), inR_mk (by omega) (by omega)⟩, inR_mk (by omega) (by omega)⟩, by omega⟩, by omega⟩
def RulePost (w : World) (gc H : Nat) (A : Option Addr) (n c : Nat) (zs : List Int) (e : Ending) (w' : World) : Prop :=
  ∃ a b s : Int, ruleD a b s ∧ e = .returned (.agg #[.int .i64 a, .int .i64 b, .int .i64 s]) ∧ Dr w' gc H A n c zs ∧ w.grownBy w' (some gc)
end Go.Proofs.Ytlnmpdkbkkmhiaa
