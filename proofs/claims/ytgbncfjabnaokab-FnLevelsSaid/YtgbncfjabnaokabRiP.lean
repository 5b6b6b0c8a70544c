/- Lists of reaches: what RiverOk and RiverTotal compute; how such a list lies in memory. -/
import Derived.Test.YtgbncfjabnaokabReT
import Derived.Test.YtgbncfjabnaokabPts
namespace Go.Proofs.Ytgbncfjabnaokab
open Go.RowKit

structure Rc where
  ps : List (Int × Int)
  vol : Int
  zs : List Int
structure Ad where
  tA : Option Addr
  tc : Nat
  pA : Option Addr
  pc : Nat
def rcAt (ds : List Rc) (j : Nat) : Rc := ds.getD j ⟨[], 0, []⟩
def Rc.ok (r : Rc) : Bool := reachOk r.ps r.vol r.zs
def Rc.sum (r : Rc) : Int := r.vol + sumI r.zs
def sumR : List Rc → Int
  | [] => 0
  | r :: t => r.sum + sumR t
theorem sumR_append (a b : List Rc) : sumR (a ++ b) = sumR a + sumR b := by
  induction a with
  | nil => simp [sumR]
  | cons z r ih => simp [sumR, ih]; omega
theorem sumR_take {ds : List Rc} {k : Nat} (hk : k < ds.length) : sumR (ds.take (k + 1)) = sumR (ds.take k) + (rcAt ds k).sum := by
  rw [List.take_succ_eq_append_getElem hk, sumR_append]
  simp [sumR, rcAt, hk]
theorem ok_sum {r : Rc} (h : r.ok = true) : 0 ≤ r.sum ∧ r.sum ≤ 1000000000 := by
  obtain ⟨_, h2, _, h4, h5⟩ := reach_true h
  have := sum_nonneg h4
  unfold Rc.sum; omega
def OkTo (ds : List Rc) (k : Nat) : Prop := ∀ j, j < k → (rcAt ds j).ok = true
theorem okTo_step {ds : List Rc} {k : Nat} (h : OkTo ds k) (hk : (rcAt ds k).ok = true) : OkTo ds (k + 1) := fun j hj => by
  rcases Nat.lt_or_ge j k with h1 | h1
  · exact h j h1
  · rw [show j = k by omega]; exact hk
theorem okTo_sum {ds : List Rc} : ∀ {k : Nat}, k ≤ ds.length → OkTo ds k → 0 ≤ sumR (ds.take k) ∧ sumR (ds.take k) ≤ k * 1000000000
  | 0, _, _ => by simp [sumR]
  | k + 1, hk, h => by
    have h1 := okTo_sum (k := k) (by omega) (fun j hj => h j (by omega))
    have h2 := ok_sum (h k (by omega))
    rw [sumR_take (by omega)]
    omega
/-- RiverOk. -/
def riverOk (ds : List Rc) : Bool := decide (1 ≤ ds.length) && decide (ds.length ≤ 6) && ds.all Rc.ok && decide (sumR ds ≤ 1000000000)
def riverTotal (ds : List Rc) : Int := if riverOk ds = true then sumR ds else 0
theorem all_ok_iff {ds : List Rc} : ds.all Rc.ok = true ↔ OkTo ds ds.length := by
  rw [List.all_eq_true]
  constructor
  · intro h j hj
    have := h (ds[j]) (List.getElem_mem hj)
    simpa [rcAt, hj] using this
  · intro h z hz
    obtain ⟨j, hj, rfl⟩ := List.getElem_of_mem hz
    have := h j hj
    simpa [rcAt, hj] using this
theorem river_true {ds : List Rc} (h : riverOk ds = true) : 1 ≤ ds.length ∧ ds.length ≤ 6 ∧ OkTo ds ds.length ∧ sumR ds ≤ 1000000000 := by
  simp only [riverOk, Bool.and_eq_true, decide_eq_true_eq] at h
  exact ⟨h.1.1.1, h.1.1.2, all_ok_iff.1 h.1.2, h.2⟩
theorem river_len {ds : List Rc} (h : ds.length < 1 ∨ 6 < ds.length) : riverOk ds = false := by
  cases hr : riverOk ds
  · rfl
  · have := river_true hr; omega
theorem river_bad {ds : List Rc} {k : Nat} (hk : k < ds.length) (h : (rcAt ds k).ok = false) : riverOk ds = false := by
  cases hr : riverOk ds
  · rfl
  · have := (river_true hr).2.2.1 k hk; rw [h] at this; cases this
theorem river_end {ds : List Rc} (h1 : 1 ≤ ds.length) (h2 : ds.length ≤ 6) (h : OkTo ds ds.length) : riverOk ds = decide (sumR ds ≤ 1000000000) := by
  have := all_ok_iff.2 h
  unfold riverOk
  rw [this]; simp [h1, h2]
/-- The sum up to k. -/
def RSum (ds : List Rc) (k : Nat) (L : Int) : Prop := L = sumR (ds.take k) ∧ OkTo ds k
theorem rsum_step {ds : List Rc} {k : Nat} {L : Int} (h : RSum ds k L) (hk : k < ds.length) (ho : (rcAt ds k).ok = true) : RSum ds (k + 1) (L + (rcAt ds k).sum) :=
  ⟨by rw [sumR_take hk, h.1], okTo_step h.2 ho⟩
theorem rsum_bd {ds : List Rc} {k : Nat} {L : Int} (h : RSum ds k L) (hk : k ≤ ds.length) : 0 ≤ L ∧ L ≤ k * 1000000000 := by
  rw [h.1]; exact okTo_sum hk h.2
theorem rsum_end {ds : List Rc} {L : Int} (h : RSum ds ds.length L) (h1 : 1 ≤ ds.length) (h2 : ds.length ≤ 6) : riverOk ds = decide (L ≤ 1000000000) := by
  rw [river_end h1 h2 h.2, h.1, List.take_length]
theorem rsum_all {ds : List Rc} {L : Int} (h : RSum ds ds.length L) : L = sumR ds := by rw [h.1, List.take_length]
/-- The same, cut off at one above the most. -/
def CSum (ds : List Rc) (k : Nat) (L : Int) : Prop := L = (if sumR (ds.take k) ≤ 1000000001 then sumR (ds.take k) else 1000000001) ∧ OkTo ds k
theorem csum_step {ds : List Rc} {k : Nat} {L : Int} (h : CSum ds k L) (hk : k < ds.length) (ho : (rcAt ds k).ok = true) : CSum ds (k + 1) (if L + (rcAt ds k).sum ≤ 1000000001 then L + (rcAt ds k).sum else 1000000001) := by
  refine ⟨?_, okTo_step h.2 ho⟩
  rw [sumR_take hk, h.1]
  have := ok_sum ho
  generalize sumR (ds.take k) = a at *
  generalize (rcAt ds k).sum = b at *
  by_cases h1 : a ≤ 1000000001
  · rw [if_pos h1]
  · rw [if_neg h1]; split <;> split <;> omega
theorem csum_bd {ds : List Rc} {k : Nat} {L : Int} (h : CSum ds k L) (hk : k ≤ ds.length) : 0 ≤ L ∧ L ≤ 1000000001 := by
  have := okTo_sum hk h.2
  rw [h.1]; split <;> omega
theorem csum_end {ds : List Rc} {L : Int} (h : CSum ds ds.length L) : riverOk ds = (inR ds.length 1 6 && decide (L ≤ 1000000000)) := by
  have h2 := all_ok_iff.2 h.2
  have h1 := h.1
  rw [List.take_length] at h1
  unfold riverOk inR
  rw [h2, h1]
  have e1 : decide (1 ≤ ds.length) = decide ((1 : Int) ≤ (ds.length : Int)) := by congr 1; simp; omega
  have e2 : decide (ds.length ≤ 6) = decide ((ds.length : Int) ≤ (6 : Int)) := by congr 1; simp; omega
  rw [e1, e2, Bool.and_true]
  congr 1
  split <;> (apply decide_eq_decide.2; omega)
theorem total_of_ok {r : Rc} (h : r.ok = true) : totalV r.ps r.vol r.zs = r.sum := total_yes h

theorem Blk.bl {w w' : World} {g : Nat} {t : TypeId} {cs : Array Value} (h : Blk w g t cs) (hb : Below w.heap.size w w') : Blk w' g t cs := h.below hb h.lt
theorem bl_step {w W w' : World} (h : Below w.heap.size w W) (hb : Below W.heap.size W w') : Below w.heap.size w w' := h.trans (hb.mono h.size)
/-- A list of reaches in memory, from (b, off) on; all of it lies below block H. -/
def RsIn (w : World) (H b off : Nat) (ad : Nat → Ad) (ds : List Rc) : Prop :=
  b < H ∧ ∀ j, j < ds.length → w.cell? ⟨b, off + j * 3, none⟩ = some (.slice (ad j).tA (rcAt ds j).ps.length (ad j).tc) ∧ w.cell? ⟨b, off + j * 3 + 1, none⟩ = some (.int .i64 (rcAt ds j).vol) ∧ w.cell? ⟨b, off + j * 3 + 2, none⟩ = some (.slice (ad j).pA (rcAt ds j).zs.length (ad j).pc) ∧ PtsAt w H (ad j).tA (rcAt ds j).ps ∧ NumsAt w H (ad j).pA (rcAt ds j).zs
def RsAt (w : World) (H : Nat) (A : Option Addr) (ds : List Rc) : Prop := 0 < ds.length → ∃ b off ad, A = some ⟨b, off, none⟩ ∧ RsIn w H b off ad ds
def RsLen (ds : List Rc) (m : Nat) : Prop := ∀ j, j < ds.length → (rcAt ds j).ps.length ≤ m ∧ (rcAt ds j).zs.length ≤ m
section
variable {w w' : World} {H H' b off : Nat} {ad : Nat → Ad} {ds : List Rc} {A : Option Addr}
theorem RsIn.below (h : RsIn w H b off ad ds) (hb : Below H w w') : RsIn w' H b off ad ds :=
  ⟨h.1, fun j hj => by
    obtain ⟨h1, h2, h3, h4, h5⟩ := h.2 j hj
    exact ⟨(hb.cell (p := ⟨b, off + j * 3, none⟩) h.1).trans h1, (hb.cell (p := ⟨b, off + j * 3 + 1, none⟩) h.1).trans h2, (hb.cell (p := ⟨b, off + j * 3 + 2, none⟩) h.1).trans h3, h4.below hb, h5.below hb⟩⟩
theorem RsIn.mono (h : RsIn w H b off ad ds) (hH : H ≤ H') : RsIn w H' b off ad ds :=
  ⟨Nat.lt_of_lt_of_le h.1 hH, fun j hj => by
    obtain ⟨h1, h2, h3, h4, h5⟩ := h.2 j hj
    exact ⟨h1, h2, h3, h4.mono hH, h5.mono hH⟩⟩
theorem RsAt.below (h : RsAt w H A ds) (hb : Below H w w') : RsAt w' H A ds := fun hn => by
  obtain ⟨b, off, ad, e, h⟩ := h hn; exact ⟨b, off, ad, e, h.below hb⟩
theorem RsAt.mono (h : RsAt w H A ds) (hH : H ≤ H') : RsAt w H' A ds := fun hn => by
  obtain ⟨b, off, ad, e, h⟩ := h hn; exact ⟨b, off, ad, e, h.mono hH⟩
end
end Go.Proofs.Ytgbncfjabnaokab
