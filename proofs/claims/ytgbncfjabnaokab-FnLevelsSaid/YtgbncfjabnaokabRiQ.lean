/- Rows of reaches of the call's own: words for memory. -/
import Derived.Test.YtgbncfjabnaokabRiP
namespace Go.Proofs.Ytgbncfjabnaokab
open Go.RowKit

theorem info_reach : (Try.prog.info? 29).map (fun i => (i.zero, i.size, i.bytes)) = some (some (.agg #[.slice none 0 0, .int .i64 0, .slice none 0 0]), 3, 56) := by kernel_rfl
/-- The row's cells up to k. -/
def Fill (ds : List Rc) (ad : Nat → Ad) (k : Nat) (xs : List Value) : Prop :=
  ∀ j, j < k → xs[j * 3]? = some (.slice (ad j).tA (rcAt ds j).ps.length (ad j).tc) ∧ xs[j * 3 + 1]? = some (.int .i64 (rcAt ds j).vol) ∧ xs[j * 3 + 2]? = some (.slice (ad j).pA (rcAt ds j).zs.length (ad j).pc)
def adSet (ad : Nat → Ad) (k : Nat) (a : Ad) : Nat → Ad := fun j => if j = k then a else ad j
theorem adSet_eq (ad : Nat → Ad) (k : Nat) (a : Ad) : adSet ad k a k = a := by simp [adSet]
theorem adSet_ne {ad : Nat → Ad} {k j : Nat} (a : Ad) (h : j < k) : adSet ad k a j = ad j := by unfold adSet; rw [if_neg (by omega)]
theorem fill_step {ds : List Rc} {ad : Nat → Ad} {k : Nat} {xs : List Value} {ps : List (Int × Int)} {vol : Int} {zs : List Int} {tA pA : Option Addr} {tc pc : Nat} (h : Fill ds ad k xs) (hl : k * 3 + 3 ≤ xs.length) (hr : rcAt ds k = ⟨ps, vol, zs⟩) :
    Fill ds (adSet ad k ⟨tA, tc, pA, pc⟩) (k + 1) (((xs.set (k * 3) (.slice tA ps.length tc)).set (k * 3 + 1) (.int .i64 vol)).set (k * 3 + 2) (.slice pA zs.length pc)) := by
  intro j hj
  rcases Nat.lt_or_ge j k with h1 | h1
  · obtain ⟨a, b, c⟩ := h j h1
    rw [adSet_ne _ h1]
    refine ⟨?_, ?_, ?_⟩
    · rw [List.getElem?_set_ne (by omega), List.getElem?_set_ne (by omega), List.getElem?_set_ne (by omega)]; exact a
    · rw [List.getElem?_set_ne (by omega), List.getElem?_set_ne (by omega), List.getElem?_set_ne (by omega)]; exact b
    · rw [List.getElem?_set_ne (by omega), List.getElem?_set_ne (by omega), List.getElem?_set_ne (by omega)]; exact c
  · obtain rfl : j = k := by omega
    rw [adSet_eq, hr]
    refine ⟨?_, ?_, ?_⟩
    · rw [List.getElem?_set_ne (by omega), List.getElem?_set_ne (by omega), List.getElem?_set_self (by omega)]
    · rw [List.getElem?_set_ne (by omega), List.getElem?_set_self (by simp; omega)]
    · rw [List.getElem?_set_self (by simp; omega)]
/-- A reach's rows, all of them from lo on. -/
def RQ (W : World) (lo : Nat) (r : Rc) (a : Ad) : Prop :=
  Row W lo W.heap.size 52 2 a.tA r.ps.length a.tc (cellsP r.ps) ∧ Row W lo W.heap.size 3 1 a.pA r.zs.length a.pc (cellsI r.zs)
section
variable {W w' : World} {lo : Nat} {r : Rc} {a : Ad}
theorem RQ.bel (h : RQ W lo r a) (hb : Below W.heap.size W w') : RQ w' lo r a :=
  ⟨(h.1.below hb (Nat.le_refl _)).mono (Nat.le_refl _) hb.size, (h.2.below hb (Nat.le_refl _)).mono (Nat.le_refl _) hb.size⟩
theorem RQ.three {g i j k : Nat} {x y z : Value} (h : RQ W lo r a) (hg : g < lo) : RQ (((W.setCell ⟨g, i, none⟩ x).setCell ⟨g, j, none⟩ y).setCell ⟨g, k, none⟩ z) lo r a := by
  have key : ∀ q, lo ≤ q → q < W.heap.size → (((W.setCell ⟨g, i, none⟩ x).setCell ⟨g, j, none⟩ y).setCell ⟨g, k, none⟩ z).heap[q]? = W.heap[q]? := fun q h1 _ =>
    (Below.heap_setCell _ _ _ _ (by show q ≠ g; omega)).trans ((Below.heap_setCell _ _ _ _ (by show q ≠ g; omega)).trans (Below.heap_setCell _ _ _ _ (by show q ≠ g; omega)))
  have hs : (((W.setCell ⟨g, i, none⟩ x).setCell ⟨g, j, none⟩ y).setCell ⟨g, k, none⟩ z).heap.size = W.heap.size := by simp [World.setCell]
  unfold RQ
  rw [hs]
  exact ⟨h.1.same key, h.2.same key⟩
end
def RowsTo (W : World) (lo : Nat) (ds : List Rc) (ad : Nat → Ad) (k : Nat) : Prop := ∀ j, j < k → RQ W lo (rcAt ds j) (ad j)
theorem rowsTo_step {W : World} {lo k : Nat} {ds : List Rc} {ad : Nat → Ad} {a : Ad} (h : RowsTo W lo ds ad k) (h' : RQ W lo (rcAt ds k) a) : RowsTo W lo ds (adSet ad k a) (k + 1) := fun j hj => by
  rcases Nat.lt_or_ge j k with h1 | h1
  · rw [adSet_ne _ h1]; exact h j h1
  · rw [show j = k by omega, adSet_eq]; exact h'
/-- A list of reaches in memory of the call's own. -/
def RsOut (w : World) (ds : List Rc) (e : Ending) (w' : World) : Prop := ∃ A c, e = .returned (.slice A ds.length c) ∧ RsAt w' w'.heap.size A ds ∧ Below w.heap.size w w'
theorem rs_done {W : World} {lo g c : Nat} {ds : List Rc} {ad : Nat → Ad} {xs : List Value} (hO : W.ownsRow lo 29 3 (.slice (some ⟨g, 0, none⟩) ds.length c) ds.length xs) (hF : Fill ds ad ds.length xs) (hT : RowsTo W (g + 1) ds ad ds.length) (hg : g < W.heap.size) : RsAt W W.heap.size (some ⟨g, 0, none⟩) ds := fun _ => by
  refine ⟨g, 0, ad, rfl, hg, fun j hj => ?_⟩
  obtain ⟨a, b, c⟩ := hF j hj
  obtain ⟨r1, r2⟩ := hT j hj
  rw [Nat.zero_add, hO.cellAt _ (by omega), hO.cellAt _ (by omega), hO.cellAt _ (by omega)]
  exact ⟨a, b, c, r1.pts, r2.nums⟩

end Go.Proofs.Ytgbncfjabnaokab
