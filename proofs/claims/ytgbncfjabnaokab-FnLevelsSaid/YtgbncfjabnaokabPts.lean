/- Words for slices in memory: points (two cells each) and numbers, to be read (PtsAt, NumsAt) or owned (Row). -/
import Derived.Test.YtgbncfjabnaokabMem
import Derived.Test.YtgbncfjabnaokabTab
import Derived.Maps.AppendAt
namespace Go.Proofs.Ytgbncfjabnaokab
open Go.RowKit

/-- A slice that reads as the points ps and lies below block H. -/
def PtsAt (w : World) (H : Nat) (A : Option Addr) (ps : List (Int × Int)) : Prop :=
  0 < ps.length → ∃ b off, A = some ⟨b, off, none⟩ ∧ b < H ∧ ∀ j, j < ps.length → w.cell? ⟨b, off + j * 2, none⟩ = some (.int .i64 (px ps j)) ∧ w.cell? ⟨b, off + j * 2 + 1, none⟩ = some (.int .i64 (py ps j))
/-- A slice that reads as the numbers zs and lies below block H. -/
def NumsAt (w : World) (H : Nat) (A : Option Addr) (zs : List Int) : Prop :=
  0 < zs.length → ∃ b off, A = some ⟨b, off, none⟩ ∧ b < H ∧ ∀ j, j < zs.length → w.cell? ⟨b, off + j, none⟩ = some (.int .i64 (zs.getD j 0))
section
variable {w w' : World} {H H' : Nat} {A : Option Addr}
theorem PtsAt.keep {ps : List (Int × Int)} (h : PtsAt w H A ps) (hk : ∀ p : Addr, p.block < H → w'.cell? p = w.cell? p) : PtsAt w' H A ps := fun hn => by
  obtain ⟨b, off, e, hb, hc⟩ := h hn
  exact ⟨b, off, e, hb, fun j hj => ⟨(hk ⟨b, off + j * 2, none⟩ hb).trans (hc j hj).1, (hk ⟨b, off + j * 2 + 1, none⟩ hb).trans (hc j hj).2⟩⟩
theorem PtsAt.below {ps : List (Int × Int)} (h : PtsAt w H A ps) (hb : Below H w w') : PtsAt w' H A ps := h.keep fun _ hp => hb.cell hp
theorem PtsAt.mono {ps : List (Int × Int)} (h : PtsAt w H A ps) (hH : H ≤ H') : PtsAt w H' A ps := fun hn => by
  obtain ⟨b, off, e, hb, hc⟩ := h hn; exact ⟨b, off, e, by omega, hc⟩
theorem NumsAt.keep {zs : List Int} (h : NumsAt w H A zs) (hk : ∀ p : Addr, p.block < H → w'.cell? p = w.cell? p) : NumsAt w' H A zs := fun hn => by
  obtain ⟨b, off, e, hb, hc⟩ := h hn
  exact ⟨b, off, e, hb, fun j hj => (hk ⟨b, off + j, none⟩ hb).trans (hc j hj)⟩
theorem NumsAt.below {zs : List Int} (h : NumsAt w H A zs) (hb : Below H w w') : NumsAt w' H A zs := h.keep fun _ hp => hb.cell hp
theorem NumsAt.mono {zs : List Int} (h : NumsAt w H A zs) (hH : H ≤ H') : NumsAt w H' A zs := fun hn => by
  obtain ⟨b, off, e, hb, hc⟩ := h hn; exact ⟨b, off, e, by omega, hc⟩
end

/-- The cells of points and of numbers. -/
def cellsP : List (Int × Int) → List Value
  | [] => []
  | p :: r => .int .i64 p.1 :: .int .i64 p.2 :: cellsP r
def cellsI (zs : List Int) : List Value := zs.map (Value.int .i64)
theorem cellsP_len (ps : List (Int × Int)) : (cellsP ps).length = ps.length * 2 := by
  induction ps with
  | nil => rfl
  | cons p r ih => simp only [cellsP, List.length_cons, ih]; omega
theorem cellsI_len (zs : List Int) : (cellsI zs).length = zs.length := by simp [cellsI]
theorem cellsP_at (ps : List (Int × Int)) (j : Nat) (h : j < ps.length) : (cellsP ps)[j * 2]? = some (.int .i64 (px ps j)) ∧ (cellsP ps)[j * 2 + 1]? = some (.int .i64 (py ps j)) := by
  induction ps generalizing j with
  | nil => simp at h
  | cons p r ih =>
    cases j with
    | zero => simp [cellsP, px, py]
    | succ j =>
      have := ih j (by simpa using h)
      rw [show (j + 1) * 2 = j * 2 + 1 + 1 by omega]
      simpa [cellsP, px, py] using this
theorem cellsI_at (zs : List Int) (j : Nat) (h : j < zs.length) : (cellsI zs)[j]? = some (.int .i64 (zs.getD j 0)) := by
  simp [cellsI, h]
theorem cellsP_append (ps qs : List (Int × Int)) : cellsP (ps ++ qs) = cellsP ps ++ cellsP qs := by
  induction ps with
  | nil => rfl
  | cons p r ih => simp [cellsP, ih]
theorem cellsI_append (zs ys : List Int) : cellsI (zs ++ ys) = cellsI zs ++ cellsI ys := by simp [cellsI]

/-- A row of the call's own: as 'ownsRow', in a block from lo on and below hi. -/
def Row (w : World) (lo hi : Nat) (e : TypeId) (size : Nat) (A : Option Addr) (n c : Nat) (xs : List Value) : Prop :=
  w.ownsRow lo e size (.slice A n c) n xs ∧ (∀ a, A = some a → a.block < hi)
section
variable {w w' : World} {lo hi : Nat} {e : TypeId} {size n c : Nat} {A : Option Addr} {xs : List Value}
theorem Row.same (h : Row w lo hi e size A n c xs) (hs : ∀ g, lo ≤ g → g < hi → w'.heap[g]? = w.heap[g]?) : Row w' lo hi e size A n c xs := by
  obtain ⟨⟨h1, h2⟩, h3⟩ := h
  refine ⟨⟨h1, ?_⟩, h3⟩
  rcases h2 with h2 | ⟨g, cap, cur, hv, hg, hh, r⟩
  · exact .inl h2
  · refine .inr ⟨g, cap, cur, hv, hg, ?_, r⟩
    have : g < hi := by
      injection hv with hA; exact h3 ⟨g, 0, none⟩ hA
    rw [hs g hg this]; exact hh
theorem Row.below (h : Row w lo hi e size A n c xs) {B : Nat} (hb : Below B w w') (hB : hi ≤ B) : Row w' lo hi e size A n c xs := h.same fun g _ h2 => hb.block g (by omega)
theorem Row.mono (h : Row w lo hi e size A n c xs) {lo' hi' : Nat} (h1 : lo' ≤ lo) (h2 : hi ≤ hi') : Row w lo' hi' e size A n c xs := by
  obtain ⟨⟨a1, a2⟩, a3⟩ := h
  refine ⟨⟨a1, ?_⟩, fun a ha => by have := a3 a ha; omega⟩
  rcases a2 with a2 | ⟨g, cap, cur, hv, hg, r⟩
  · exact .inl a2
  · exact .inr ⟨g, cap, cur, hv, by omega, r⟩
theorem Row.of_own (h : w.ownsRow lo e size (.slice A n c) n xs) : Row w lo w.heap.size e size A n c xs := by
  refine ⟨h, fun a ha => ?_⟩
  subst ha
  exact (h.lt a.block rfl).2
/-- The row's block, if there is an element. -/
theorem Row.form (h : Row w lo hi e size A n c xs) (hn : 0 < n) : ∃ g, A = some ⟨g, 0, none⟩ ∧ lo ≤ g ∧ g < hi ∧ g < w.heap.size ∧ (∀ j, j < n * size → w.cell? ⟨g, j, none⟩ = xs[j]?) ∧ (∀ j, w.frozen? ⟨g, j, none⟩ = false) := by
  obtain ⟨h1, h2⟩ := h
  rcases h1.2 with ⟨_, h0⟩ | ⟨g, cap, cur, hv, hg, hh, _⟩
  · omega
  · simp only [Value.slice.injEq, true_and] at hv
    obtain ⟨rfl, rfl⟩ := hv
    exact ⟨g, rfl, hg, h2 _ rfl, (h1.lt g rfl).2, h1.cellAt, h1.frozenAt⟩
end
theorem Row.pts {w : World} {lo hi c : Nat} {e : TypeId} {A : Option Addr} {ps : List (Int × Int)} (h : Row w lo hi e 2 A ps.length c (cellsP ps)) : PtsAt w hi A ps := fun hn => by
  obtain ⟨g, rfl, _, h1, _, h2, _⟩ := h.form hn
  refine ⟨g, 0, rfl, h1, fun j hj => ?_⟩
  have := cellsP_at ps j hj
  rw [Nat.zero_add, h2 _ (by omega), h2 _ (by omega)]
  exact this
theorem Row.nums {w : World} {lo hi c : Nat} {e : TypeId} {A : Option Addr} {zs : List Int} (h : Row w lo hi e 1 A zs.length c (cellsI zs)) : NumsAt w hi A zs := fun hn => by
  obtain ⟨g, rfl, _, h1, _, h2, _⟩ := h.form hn
  refine ⟨g, 0, rfl, h1, fun j hj => ?_⟩
  rw [Nat.zero_add, h2 _ (by omega)]
  exact cellsI_at zs j hj
end Go.Proofs.Ytgbncfjabnaokab
