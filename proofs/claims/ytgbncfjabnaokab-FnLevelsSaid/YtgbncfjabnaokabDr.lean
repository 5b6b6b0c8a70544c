/- The cursor and the code that it reads, kept over calls; l01Number. -/
import Derived.Test.YtgbncfjabnaokabDraw
namespace Go.Proofs.Ytgbncfjabnaokab
open Go.RowKit

/-- The cursor and the code that it reads. -/
def Dr (w : World) (g H : Nat) (A : Option Addr) (n c : Nat) (zs : List Int) : Prop := CurAt w g A n c ∧ BytesAt w H A n zs ∧ H ≤ g ∧ n ≤ 1048576
section
variable {w w' : World} {g H n c : Nat} {A : Option Addr} {zs : List Int}
theorem Dr.lt (h : Dr w g H A n c zs) : g < w.heap.size := h.1.lt
theorem Dr.le (h : Dr w g H A n c zs) : H ≤ g := h.2.2.1
theorem Dr.of (h : Dr w g H A n c zs) (hC : CurAt w' g A n c) (hG : w.grownBy w' (some g)) : Dr w' g H A n c zs :=
  ⟨hC, h.2.1.grown hG h.le (by have := h.lt; have := h.le; omega), h.2.2⟩
theorem Dr.grown {row : Option Nat} (h : Dr w g H A n c zs) (hG : w.grownBy w' row) (hr : ∀ k, row = some k → w.heap.size ≤ k ∨ (H ≤ k ∧ k ≠ g)) : Dr w' g H A n c zs := by
  obtain ⟨⟨i, x, hi, hB⟩, hb, hle, hn⟩ := h
  have hlt := hB.lt
  refine ⟨⟨i, x, hi, hB.grown hG (fun e => by have := hr g e.symm; omega)⟩, hb.keep fun p hp => World.cell?_of_block (hG.block p.block (by omega) (fun e => by have := hr _ e.symm; omega)), hle, hn⟩
theorem Dr.alloc (h : Dr w g H A n c zs) (o : Obj) : Dr (w.alloc o) g H A n c zs := h.grown (World.grownBy_alloc w o none) (fun k hk => by cases hk)
theorem Dr.below (h : Dr w g H A n c zs) (hb : Below w.heap.size w w') : Dr w' g H A n c zs := h.grown (row := none) ⟨hb.os, hb.tape, hb.output, hb.size, fun i hi _ => hb.block i hi⟩ (fun k hk => by cases hk)
theorem Dr.set_ (h : Dr w g H A n c zs) {p : Addr} (hp : H ≤ p.block) (hne : p.block ≠ g) (u : Value) : Dr (w.setCell p u) g H A n c zs :=
  h.grown (only_setCell (World.grownBy.refl w (some p.block)) (.inl rfl) u) (fun k hk => by injection hk with hk; subst hk; exact .inr ⟨hp, hne⟩)
end

def DPost (lo hi : Int) (w : World) (g H : Nat) (A : Option Addr) (n c : Nat) (zs : List Int) (e : Ending) (w' : World) : Prop :=
  ∃ v : Int, lo ≤ v ∧ v ≤ hi ∧ e = .returned (.int .i64 v) ∧ Dr w' g H A n c zs ∧ w.grownBy w' (some g)
theorem d_Below (g H : Nat) (A : Option Addr) (n c : Nat) (zs : List Int) (m : Int) (w : World) (hD : Dr w g H A n c zs) (hm : 1 ≤ m) (hm2 : m ≤ 4000000000) :
    Calls Try.prog 62 #[.pointer (some ⟨g, 0, none⟩), .int .i64 m] w (DPost 0 (m - 1) w g H A n c zs) :=
  (s_l01Below A n c zs g H m w hm hm2 hD.le hD.1 hD.2.1 hD.2.2.2).mono fun _ _ ⟨v, h1, h2, h3, h4, h5⟩ => ⟨v, h1, h2, h3, hD.of h4 h5, h5⟩
def DOnce (w : World) (g H : Nat) (A : Option Addr) (n c : Nat) (zs : List Int) (e : Ending) (w' : World) : Prop :=
  ∃ b : Bool, e = .returned (.bool b) ∧ Dr w' g H A n c zs ∧ w.grownBy w' (some g)
theorem d_Once (g H : Nat) (A : Option Addr) (n c : Nat) (zs : List Int) (m : Int) (w : World) (hD : Dr w g H A n c zs) (hm : 1 ≤ m) (hm2 : m ≤ 4000000000) :
    Calls Try.prog 67 #[.pointer (some ⟨g, 0, none⟩), .int .i64 m] w (DOnce w g H A n c zs) :=
  (s_l01Once A n c zs g H m w hm hm2 hD.le hD.1 hD.2.1 hD.2.2.2).mono fun _ _ ⟨b, h3, h4, h5⟩ => ⟨b, h3, hD.of h4 h5, h5⟩
def DPick (ks : List Int) (w : World) (g H : Nat) (A : Option Addr) (n c : Nat) (zs : List Int) (e : Ending) (w' : World) : Prop :=
  ∃ v : Int, v ∈ ks ∧ e = .returned (.int .i64 v) ∧ Dr w' g H A n c zs ∧ w.grownBy w' (some g)
theorem d_Pick (g H : Nat) (A : Option Addr) (n c : Nat) (zs : List Int) (L : Option Addr) (m mc : Nat) (ks : List Int) (w : World) (hD : Dr w g H A n c zs) (hL : IntsAt w g L ks) (hm : ks.length = m) (h0 : 0 < m) (h1 : m ≤ 200) :
    Calls Try.prog 64 #[.pointer (some ⟨g, 0, none⟩), .slice L m mc] w (DPick ks w g H A n c zs) :=
  (s_l01PickInt A n c zs g H L m mc ks w hL hm h0 h1 hD.le hD.1 hD.2.1 hD.2.2.2).mono fun _ _ ⟨v, h2, h3, h4, h5⟩ => ⟨v, h2, h3, hD.of h4 h5, h5⟩
theorem ints_new (w : World) (g : Nat) (t : TypeId) (ks : List Int) (hg : g < w.heap.size) : IntsAt (w.alloc (.cells ((ks.map (Value.int .i64)).toArray) t)) g (some ⟨w.heap.size, 0, none⟩) ks := by
  have h := Blk.new w t ((ks.map (Value.int .i64)).toArray)
  refine ⟨w.heap.size, 0, rfl, by omega, by simp, fun j hj => ?_⟩
  rw [h.cell]
  simp [hj]
theorem grown_alloc_trans {w w' : World} {o : Obj} {g : Nat} (h : (w.alloc o).grownBy w' (some g)) : w.grownBy w' (some g) := (World.grownBy_alloc w o (some g)).trans h

/-- Any number. -/
def DAny (w : World) (g H : Nat) (A : Option Addr) (n c : Nat) (zs : List Int) (e : Ending) (w' : World) : Prop :=
  ∃ v : Int, e = .returned (.int .i64 v) ∧ Dr w' g H A n c zs ∧ w.grownBy w' (some g)
theorem d_New (A : Option Addr) (n c : Nat) (zs : List Int) (H : Nat) (w : World) (hB : BytesAt w H A n zs) (hn : n ≤ 1048576) (hH : H ≤ w.heap.size) :
    Calls Try.prog 50 #[.slice A n c] w fun e w' => e = .returned (.pointer (some ⟨w.heap.size, 0, none⟩)) ∧ Dr w' w.heap.size H A n c zs ∧ Below w.heap.size w w' :=
  (s_l01New A n c zs H w hB hn).mono fun _ _ ⟨h1, h2, h3⟩ => ⟨h1, ⟨h2, hB.below (h3.mono hH), hH, hn⟩, h3⟩
theorem below_grown {B : Nat} {a w w' : World} {g : Nat} (h : Below B a w) (hg : w.grownBy w' (some g)) (hB : B ≤ w.heap.size) (hr : B ≤ g) : Below B a w' :=
  h.grown hg hB (fun k hk => by injection hk with hk; omega)
end Go.Proofs.Ytgbncfjabnaokab
