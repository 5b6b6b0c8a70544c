/- Contracts of SendTo (program and reference). -/
import Derived.Test.YtgbncfjabnaokaaOwn
import Derived.RegionTactic
import Derived.ChangeAlike
namespace Go.Proofs.Ytgbncfjabnaokaa
open Go.RowKit

/-- SendTo. -/
def sendB (ps : List (Int × Int)) (vol : Int) (zs : List Int) (amount : Int) : Bool := reachOk ps vol zs && inR amount 0 (spaceV ps vol zs)
def sendVol (ps : List (Int × Int)) (vol : Int) (zs : List Int) (amount : Int) : Int := if sendB ps vol zs amount = true ∧ zs.length = 0 then vol + amount else vol
def sendZ (ps : List (Int × Int)) (vol : Int) (zs : List Int) (amount : Int) : List Int := if sendB ps vol zs amount = true ∧ zs.length ≠ 0 then zs.set (zs.length - 1) (zs.getD (zs.length - 1) 0 + amount) else zs
theorem sendZ_len (ps : List (Int × Int)) (vol : Int) (zs : List Int) (amount : Int) : (sendZ ps vol zs amount).length = zs.length := by unfold sendZ; split <;> simp
theorem send_no {ps : List (Int × Int)} {vol : Int} {zs : List Int} {amount : Int} (h : sendB ps vol zs amount = false) : sendVol ps vol zs amount = vol ∧ sendZ ps vol zs amount = zs := by
  unfold sendVol sendZ; rw [h]; simp
theorem send_vol {ps : List (Int × Int)} {vol : Int} {zs : List Int} {amount : Int} (h : sendB ps vol zs amount = true) (h0 : zs.length = 0) : sendVol ps vol zs amount = vol + amount ∧ sendZ ps vol zs amount = zs := by
  unfold sendVol sendZ; rw [h]; simp [h0]
theorem send_pipe {ps : List (Int × Int)} {vol : Int} {zs : List Int} {amount : Int} (h : sendB ps vol zs amount = true) (h0 : 0 < zs.length) : sendVol ps vol zs amount = vol ∧ sendZ ps vol zs amount = zs.set (zs.length - 1) (zs.getD (zs.length - 1) 0 + amount) := by
  unfold sendVol sendZ; rw [h, if_neg (by omega), if_pos ⟨rfl, by omega⟩]; exact ⟨rfl, rfl⟩
theorem cellsI_set (zs : List Int) (j : Nat) (v : Int) : cellsI (zs.set j v) = (cellsI zs).set j (.int .i64 v) := by simp [cellsI]

/-- After 'out := copy(r)': the boxes and the copy, in words that are kept. -/
theorem copy_e {w W0 w1 : World} {xs ys cs : Array Value} {A1 A3 : Option Addr} {c1 c3 : Nat} {ps : List (Int × Int)} {zs : List Int} (hA0 : Blk W0 w.heap.size 30 xs) (hB0 : Blk W0 (w.heap.size + 1) 30 ys) (hW0 : Below w.heap.size w W0) (hz : W0.heap.size = w.heap.size + 1 + 1)
    (hR1 : Row w1 W0.heap.size w1.heap.size 61 2 A1 ps.length c1 (cellsP ps)) (hS1 : Row w1 W0.heap.size w1.heap.size 3 1 A3 zs.length c3 (cellsI zs)) (hb1 : Below W0.heap.size W0 w1) :
    Blk (w1.alloc (.cells cs 30)) w.heap.size 30 xs ∧ Blk (w1.alloc (.cells cs 30)) (w.heap.size + 1) 30 ys ∧ Blk (w1.alloc (.cells cs 30)) w1.heap.size 30 cs ∧ Below w.heap.size w (w1.alloc (.cells cs 30)) ∧
      RO (w1.alloc (.cells cs 30)) (w.heap.size + 1 + 1) w1.heap.size ps zs A1 c1 A3 c3 ∧ w.heap.size + 1 + 1 ≤ w1.heap.size := by
  have hb13 : Below w1.heap.size w1 (w1.alloc (.cells cs 30)) := (Below.refl _ _).alloc (Nat.le_refl _) _
  have O := (RO.mk_ (lo := w.heap.size + 1 + 1) hR1 hS1 (by omega)).bel hb13
  exact ⟨(hA0.bel hb1).bel hb13, (hB0.bel hb1).bel hb13, Blk.new _ _ _, bel_step (bel_step hW0 hb1) hb13, O, by have := hb1.size; omega⟩
/-- The result's store. -/
theorem send_end {w w9 : World} {lo hi : Nat} {a b c : Value} {ps : List (Int × Int)} {zs : List Int} {A1 A3 : Option Addr} {c1 c3 : Nat} (hlo : w.heap.size + 1 + 1 = lo) (h : RO w9 lo hi ps zs A1 c1 A3 c3) (hW9 : Below w.heap.size w w9) :
    OutR w (((w9.setCell ⟨w.heap.size + 1, 0, none⟩ a).setCell ⟨w.heap.size + 1, 1, none⟩ b).setCell ⟨w.heap.size + 1, 2, none⟩ c) ps zs A1 c1 A3 c3 :=
  reach_done (lo := lo) (by omega) (by omega) (h.1.mono (Nat.le_refl _) h.2.2) (h.2.1.mono (Nat.le_refl _) h.2.2) hW9
theorem RO.far {W : World} {lo hi : Nat} {ps : List (Int × Int)} {zs : List Int} {tA : Option Addr} {tc : Nat} {pA : Option Addr} {pc : Nat} (h : RO W lo hi ps zs tA tc pA pc) {p : Addr} (hp : hi ≤ p.block) (u : Value) : RO (W.setCell p u) lo hi ps zs tA tc pA pc :=
  ⟨h.1.same (fun g _ h2 => Below.heap_setCell _ _ _ _ (by omega)), h.2.1.same (fun g _ h2 => Below.heap_setCell _ _ _ _ (by omega)), by simpa [World.setCell] using h.2.2⟩
/-- One number of the pipe is stored. -/
theorem RO.store {W : World} {lo hi : Nat} {ps : List (Int × Int)} {zs : List Int} {tA : Option Addr} {tc g pc : Nat} (h : RO W lo hi ps zs tA tc (some ⟨g, 0, none⟩) pc) (j : Nat) (v : Int) :
    RO (W.setCell ⟨g, j, none⟩ (.int .i64 v)) lo hi ps (zs.set j v) tA tc (some ⟨g, 0, none⟩) pc := by
  have s := h.2.1.1.stored j (.int .i64 v)
  refine ⟨h.2.1.other h.1 (by decide) (by simpa using s.2), ⟨?_, h.2.1.2⟩, by simpa [World.setCell] using h.2.2⟩
  rw [cellsI_set, List.length_set]; exact s.1
theorem RO.at_ {W : World} {lo hi : Nat} {ps : List (Int × Int)} {zs : List Int} {tA : Option Addr} {tc : Nat} {pA : Option Addr} {pc : Nat} (h : RO W lo hi ps zs tA tc pA pc) (hn : 0 < zs.length) :
    ∃ g, pA = some ⟨g, 0, none⟩ ∧ lo ≤ g ∧ g < hi ∧ (∀ j, j < zs.length → W.cell? ⟨g, j, none⟩ = some (.int .i64 (zs.getD j 0))) ∧ (∀ j, W.frozen? ⟨g, j, none⟩ = false) := by
  obtain ⟨g, e, h1, h2, _, h3, h4⟩ := h.2.1.form hn
  exact ⟨g, e, h1, h2, fun j hj => by rw [h3 j (by omega)]; exact cellsI_at zs j hj, h4⟩

theorem OutR.drew {w w' : World} {ps : List (Int × Int)} {zs : List Int} {tA : Option Addr} {tc : Nat} {pA : Option Addr} {pc : Nat} (h : OutR w w' ps zs tA tc pA pc) : OutR w w'.drew ps zs tA tc pA pc := ⟨h.1, h.2.1, h.2.2.drew⟩
theorem send_cases (ps : List (Int × Int)) (vol : Int) (zs : List Int) (amount : Int) :
    (sendB ps vol zs amount = false ∧ (reachOk ps vol zs = false ∨ (reachOk ps vol zs = true ∧ amount < 0 ∧ inR amount 0 (spaceV ps vol zs) = false) ∨ (reachOk ps vol zs = true ∧ 0 ≤ amount ∧ spaceV ps vol zs < amount ∧ inR amount 0 (spaceV ps vol zs) = false))) ∨
    (sendB ps vol zs amount = true ∧ reachOk ps vol zs = true ∧ 0 ≤ amount ∧ amount ≤ spaceV ps vol zs ∧ inR amount 0 (spaceV ps vol zs) = true) := by
  unfold sendB
  rcases bcases (reachOk ps vol zs) with h | h
  · by_cases h2 : amount < 0
    · have := inR_no (n := amount) (lo := 0) (hi := spaceV ps vol zs) (.inl h2)
      exact .inl ⟨by rw [this]; simp, .inr (.inl ⟨h, h2, this⟩)⟩
    · by_cases h3 : spaceV ps vol zs < amount
      · have := inR_no (n := amount) (lo := 0) (hi := spaceV ps vol zs) (.inr h3)
        exact .inl ⟨by rw [this]; simp, .inr (.inr ⟨h, by omega, h3, this⟩)⟩
      · have := inR_mk (n := amount) (lo := 0) (hi := spaceV ps vol zs) (by omega) (by omega)
        exact .inr ⟨by rw [this, h]; rfl, h, by omega, by omega, this⟩
  · exact .inl ⟨by rw [h]; rfl, .inl h⟩

end Go.Proofs.Ytgbncfjabnaokaa
