/- PassOn, for its law: helpers. -/
import Derived.Test.YtlnmpdkbkkmhiaaPassS
import Derived.OpenShut
namespace Go.Proofs.Ytlnmpdkbkkmhiaa
open Go.RowKit

theorem bel_three' {w W : World} {g : Nat} {a b c : Value} (h : Below w.heap.size w W) (hg : w.heap.size ≤ g) : Below w.heap.size w (((W.setCell ⟨g, 0, none⟩ a).setCell ⟨g, 1, none⟩ b).setCell ⟨g, 2, none⟩ c) :=
  ((h.setCell (p := ⟨g, 0, none⟩) hg _).setCell (p := ⟨g, 1, none⟩) hg _).setCell (p := ⟨g, 2, none⟩) hg _
/-- Two reaches and a number, in boxes made after the world 'w'. -/
def Two (w : World) (pf : List (Int × Int)) (vf : Int) (zf : List Int) (pt : List (Int × Int)) (vt : Int) (zt : List Int) (n : Int) (s10 s11 s12 : Value) (W : World) : Prop :=
  ∃ (g1 g2 : Nat) (tA : Option Addr) (tc : Nat) (pA : Option Addr) (pc : Nat) (tB : Option Addr) (td : Nat) (pB : Option Addr) (pd lo1 hi1 lo2 hi2 : Nat), s10 = .pointer (some ⟨g1, 0, none⟩) ∧ s11 = .pointer (some ⟨g2, 0, none⟩) ∧ s12 = .int .i64 n ∧
    w.heap.size ≤ g1 ∧ w.heap.size ≤ g2 ∧ Blk W g1 32 #[.slice tA pf.length tc, .int .i64 vf, .slice pA zf.length pc] ∧ Blk W g2 32 #[.slice tB pt.length td, .int .i64 vt, .slice pB zt.length pd] ∧
    RO W lo1 hi1 pf zf tA tc pA pc ∧ RO W lo2 hi2 pt zt tB td pB pd ∧ (hi1 ≤ lo2 ∨ hi2 ≤ lo1) ∧ w.heap.size ≤ lo1 ∧ w.heap.size ≤ lo2 ∧ Below w.heap.size w W
theorem FnExactPassOn_both (pf : List (Int × Int)) (vf : Int) (zf : List Int) (pt : List (Int × Int)) (vt : Int) (zt : List Int) (a0 a1 : Int) (h0 : (Lit.int .i64 a0).wf = true) (h1 : (Lit.int .i64 a1).wf = true) (hnf : pf.length ≤ 1048576) (hmf : zf.length ≤ 1048576) (hnt : pt.length ≤ 1048576) (hmt : zt.length ≤ 1048576) :
    ∃ (vo : Int) (vp : Int) (zp : List Int) (no : Int), zp.length ≤ 1048576 ∧
      (∀ (W : World) (lo hi lo' hi' : Nat) (tA : Option Addr) (tc : Nat) (pA : Option Addr) (pc : Nat) (tB : Option Addr) (td : Nat) (pB : Option Addr) (pd : Nat), RO W lo hi pf zf tA tc pA pc → RO W lo' hi' pt zt tB td pB pd → Calls Try.prog 38 #[.agg #[.slice tA pf.length tc, .int .i64 vf, .slice pA zf.length pc], .agg #[.slice tB pt.length td, .int .i64 vt, .slice pB zt.length pd], .int .i64 a0, .int .i64 a1] W (PassOut W pf vo zf pt vp zp no)) ∧
      (∀ (W : World) (lo hi lo' hi' : Nat) (tA : Option Addr) (tc : Nat) (pA : Option Addr) (pc : Nat) (tB : Option Addr) (td : Nat) (pB : Option Addr) (pd : Nat), RO W lo hi pf zf tA tc pA pc → RO W lo' hi' pt zt tB td pB pd → Calls Try.prog 27 #[.agg #[.slice tA pf.length tc, .int .i64 vf, .slice pA zf.length pc], .agg #[.slice tB pt.length td, .int .i64 vt, .slice pB zt.length pd], .int .i64 a0, .int .i64 a1] W (PassOut W pf vo zf pt vp zp no)) :=
  ⟨vf - passN pf vf zf pt vt zt a0 a1, passVol pf vf zf pt vt zt a0 a1, passZ pf vf zf pt vt zt a0 a1, passN pf vf zf pt vt zt a0 a1, by rw [passZ_len]; exact hmt,
    fun W _ _ _ _ tA tc pA pc tB td pB pd h h' => s_PassOn tA tc pf vf pA pc zf tB td pt vt pB pd zt a0 a1 W.heap.size W h.pts h.nums h'.pts h'.nums (Nat.le_refl _) hnf hmf hnt hmt (bounds_i64 h0).2 (bounds_i64 h1).2,
    fun W _ _ _ _ tA tc pA pc tB td pB pd h h' => i_PassOn tA tc pf vf pA pc zf tB td pt vt pB pd zt a0 a1 W.heap.size W h.pts h.nums h'.pts h'.nums (Nat.le_refl _) hnf hmf hnt hmt (bounds_i64 h0).2 (bounds_i64 h1).2⟩
theorem szR_two (n m n' m' : Nat) : szR 1048576 n m = -1 ∨ (0 ≤ szR 1048576 n m ∧ szR 1048576 n m ≤ 1048576 ∧ n ≤ 1048576 ∧ m ≤ 1048576 ∧ (szR (szR 1048576 n m) n' m' = -1 ∨ (0 ≤ szR (szR 1048576 n m) n' m' ∧ n' ≤ 1048576 ∧ m' ≤ 1048576))) := by
  have key : ∀ l : Int, 0 ≤ l → l ≤ 1048576 → ∀ n m : Nat, szR l n m = -1 ∨ (0 ≤ szR l n m ∧ szR l n m ≤ 1048576 ∧ n ≤ 1048576 ∧ m ≤ 1048576) := by
    intro l h0 h1 n m
    rcases szV_or l n with h | h
    · exact .inl (by unfold szR; rw [if_pos (by omega)])
    · have e : szR l n m = szV (szV l n) m := by unfold szR; rw [if_neg (by omega)]
      obtain ⟨h3, h2⟩ := szV_le h h1
      rw [e]
      rcases szV_or (szV l n) m with h4 | h4
      · exact .inl h4
      · obtain ⟨h5, h6⟩ := szV_le h4 h3
        exact .inr ⟨h4, h5, by omega, by omega⟩
  rcases key 1048576 (by omega) (by omega) n m with h | ⟨h1, h2, h3, h4⟩
  · exact .inl h
  · refine .inr ⟨h1, h2, h3, h4, ?_⟩
    rcases key _ h1 h2 n' m' with h | ⟨k1, k2, k3, k4⟩
    · exact .inl h
    · exact .inr ⟨k1, k3, k4⟩
section
variable {g g' : Nat} {xs ys : Array Value} {W0 W w1 : World}
theorem sx_below (hb : Below W.heap.size W w1) (h : (∀ i, W.cell? ⟨g, i, none⟩ = xs[i]?) ∧ (∀ i, W.cell? ⟨g', i, none⟩ = ys[i]?) ∧ g < W.heap.size ∧ g' < W.heap.size ∧ Below W0.heap.size W0 W) :
    (∀ i, w1.cell? ⟨g, i, none⟩ = xs[i]?) ∧ (∀ i, w1.cell? ⟨g', i, none⟩ = ys[i]?) ∧ g < w1.heap.size ∧ g' < w1.heap.size ∧ Below W0.heap.size W0 w1 := by
  have := boxes_below hb ⟨h.1, h.2.1, h.2.2.1, h.2.2.2.1⟩
  exact ⟨this.1, this.2.1, this.2.2.1, this.2.2.2, bel_step h.2.2.2.2 hb⟩
theorem sx_alloc (h : (∀ i, W.cell? ⟨g, i, none⟩ = xs[i]?) ∧ (∀ i, W.cell? ⟨g', i, none⟩ = ys[i]?) ∧ g < W.heap.size ∧ g' < W.heap.size ∧ Below W0.heap.size W0 W) (o : Obj) :
    (∀ i, (W.alloc o).cell? ⟨g, i, none⟩ = xs[i]?) ∧ (∀ i, (W.alloc o).cell? ⟨g', i, none⟩ = ys[i]?) ∧ g < (W.alloc o).heap.size ∧ g' < (W.alloc o).heap.size ∧ Below W0.heap.size W0 (W.alloc o) := sx_below ((Below.refl _ _).alloc (Nat.le_refl _) o) h
theorem sx_drew (h : (∀ i, W.cell? ⟨g, i, none⟩ = xs[i]?) ∧ (∀ i, W.cell? ⟨g', i, none⟩ = ys[i]?) ∧ g < W.heap.size ∧ g' < W.heap.size ∧ Below W0.heap.size W0 W) :
    (∀ i, W.drew.cell? ⟨g, i, none⟩ = xs[i]?) ∧ (∀ i, W.drew.cell? ⟨g', i, none⟩ = ys[i]?) ∧ g < W.drew.heap.size ∧ g' < W.drew.heap.size ∧ Below W0.heap.size W0 W.drew := ⟨h.1, h.2.1, h.2.2.1, h.2.2.2.1, h.2.2.2.2.drew⟩
theorem sx_bel {w : World} (hW : Below w.heap.size w W0) (h : (∀ i, W.cell? ⟨g, i, none⟩ = xs[i]?) ∧ (∀ i, W.cell? ⟨g', i, none⟩ = ys[i]?) ∧ g < W.heap.size ∧ g' < W.heap.size ∧ Below W0.heap.size W0 W) : Below w.heap.size w W := bel_step hW h.2.2.2.2
theorem sx_three {k : Nat} {a b c : Value} (h : (∀ i, W.cell? ⟨g, i, none⟩ = xs[i]?) ∧ (∀ i, W.cell? ⟨g', i, none⟩ = ys[i]?) ∧ g < W.heap.size ∧ g' < W.heap.size ∧ Below W0.heap.size W0 W) (hk : g < k) (hk' : g' < k) (hk0 : W0.heap.size ≤ k) :
    (∀ i, (((W.setCell ⟨k, 0, none⟩ a).setCell ⟨k, 1, none⟩ b).setCell ⟨k, 2, none⟩ c).cell? ⟨g, i, none⟩ = xs[i]?) ∧ (∀ i, (((W.setCell ⟨k, 0, none⟩ a).setCell ⟨k, 1, none⟩ b).setCell ⟨k, 2, none⟩ c).cell? ⟨g', i, none⟩ = ys[i]?) ∧ g < (((W.setCell ⟨k, 0, none⟩ a).setCell ⟨k, 1, none⟩ b).setCell ⟨k, 2, none⟩ c).heap.size ∧ g' < (((W.setCell ⟨k, 0, none⟩ a).setCell ⟨k, 1, none⟩ b).setCell ⟨k, 2, none⟩ c).heap.size ∧ Below W0.heap.size W0 (((W.setCell ⟨k, 0, none⟩ a).setCell ⟨k, 1, none⟩ b).setCell ⟨k, 2, none⟩ c) := by
  have := boxes_three (a := a) (b := b) (c := c) ⟨h.1, h.2.1, h.2.2.1, h.2.2.2.1⟩ (by omega : g ≠ k) (by omega : g' ≠ k)
  exact ⟨this.1, this.2.1, this.2.2.1, this.2.2.2, ((h.2.2.2.2.setCell (p := ⟨k, 0, none⟩) hk0 _).setCell (p := ⟨k, 1, none⟩) hk0 _).setCell (p := ⟨k, 2, none⟩) hk0 _⟩
end
/-- As RO, wherever. -/
def RX (W : World) (ps : List (Int × Int)) (zs : List Int) (tA : Option Addr) (tc : Nat) (pA : Option Addr) (pc : Nat) : Prop := ∃ lo hi, RO W lo hi ps zs tA tc pA pc
section
variable {W w' : World} {lo hi : Nat} {ps : List (Int × Int)} {zs : List Int} {tA : Option Addr} {tc : Nat} {pA : Option Addr} {pc : Nat}
theorem RO.rx (h : RO W lo hi ps zs tA tc pA pc) : RX W ps zs tA tc pA pc := ⟨_, _, h⟩
theorem RX.drew (h : RX W ps zs tA tc pA pc) : RX W.drew ps zs tA tc pA pc := by obtain ⟨_, _, h⟩ := h; exact ⟨_, _, h.drew_⟩
theorem RX.alloc (h : RX W ps zs tA tc pA pc) (o : Obj) : RX (W.alloc o) ps zs tA tc pA pc := by obtain ⟨_, _, h⟩ := h; exact ⟨_, _, h.alloc_ o⟩
theorem RX.bel (h : RX W ps zs tA tc pA pc) (hb : Below W.heap.size W w') : RX w' ps zs tA tc pA pc := by obtain ⟨_, _, h⟩ := h; exact ⟨_, _, h.bel hb⟩
end
theorem rx_call {F : FuncId} {args : Option Addr → Nat → Option Addr → Nat → Option Addr → Nat → Option Addr → Nat → Array Value} {post : World → Ending → World → Prop} {pf : List (Int × Int)} {zf : List Int} {pt : List (Int × Int)} {zt : List Int}
    (h : ∀ (W : World) (lo hi lo' hi' : Nat) (tA : Option Addr) (tc : Nat) (pA : Option Addr) (pc : Nat) (tB : Option Addr) (td : Nat) (pB : Option Addr) (pd : Nat), RO W lo hi pf zf tA tc pA pc → RO W lo' hi' pt zt tB td pB pd → Calls Try.prog F (args tA tc pA pc tB td pB pd) W (post W)) :
    ∀ (W : World) (tA : Option Addr) (tc : Nat) (pA : Option Addr) (pc : Nat) (tB : Option Addr) (td : Nat) (pB : Option Addr) (pd : Nat), RX W pf zf tA tc pA pc → RX W pt zt tB td pB pd → Calls Try.prog F (args tA tc pA pc tB td pB pd) W (post W) :=
  fun W tA tc pA pc tB td pB pd ⟨_, _, h1⟩ ⟨_, _, h2⟩ => h W _ _ _ _ tA tc pA pc tB td pB pd h1 h2
section
variable {V w1 : World} {Z : Array Value} {t : TypeId} {o o' : Obj}
theorem nb1 (hb : Below (V.alloc (.cells Z t)).heap.size (V.alloc (.cells Z t)) w1) : Blk w1 V.heap.size t Z := (Blk.new V t Z).bel hb
theorem nb1d (hb : Below (V.alloc (.cells Z t)).drew.heap.size (V.alloc (.cells Z t)).drew w1) : Blk w1 V.heap.size t Z := (Blk.new V t Z).drew.bel hb
theorem nb2 (hb : Below ((V.alloc (.cells Z t)).alloc o).heap.size ((V.alloc (.cells Z t)).alloc o) w1) : Blk w1 V.heap.size t Z := ((Blk.new V t Z).alloc o).bel hb
theorem nb2d (hb : Below ((V.alloc (.cells Z t)).alloc o).drew.heap.size ((V.alloc (.cells Z t)).alloc o).drew w1) : Blk w1 V.heap.size t Z := ((Blk.new V t Z).alloc o).drew.bel hb
theorem Blk.st1 {g : Nat} (h : Blk V g t Z) (hb : Below (V.alloc o).heap.size (V.alloc o) w1) : Blk w1 g t Z := (h.alloc o).bel hb
theorem Blk.st2 {g : Nat} (h : Blk V g t Z) (hb : Below ((V.alloc o).alloc o').heap.size ((V.alloc o).alloc o') w1) : Blk w1 g t Z := ((h.alloc o).alloc o').bel hb
end
end Go.Proofs.Ytlnmpdkbkkmhiaa
