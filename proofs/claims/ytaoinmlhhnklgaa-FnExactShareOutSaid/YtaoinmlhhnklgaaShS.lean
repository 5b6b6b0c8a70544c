/- The closure of ShareOut and the library's sort that calls it. -/
import Derived.Test.YtaoinmlhhnklgaaShQ
import Derived.Test.YtaoinmlhhnklgaaSort
import Derived.Test.YtaoinmlhhnklgaaArith
import Derived.Test.YtaoinmlhhnklgaaMem
import Derived.RegionTactic
import Derived.Deep.QuietTactic
import Derived.BigQuiet
namespace Go.Proofs.Ytaoinmlhhnklgaa
open Go.RowKit Go.Sort Go.Shelf

def encF (m : Nat) : Fin (m + 1) → Value := fun i => .int .i64 (i.val : Int)
def cbF (B : Nat) : Array Value := #[.pointer (some ⟨B, 0, none⟩), .pointer (some ⟨B + 1, 0, none⟩), .pointer (some ⟨B + 2, 0, none⟩)]
theorem one_encF (m : Nat) : OneCell (encF m) := fun _ => rfl
theorem cell_sort {α : Type} [Inhabited α] (enc : α → Value) (w : World) (blk off m : Nat) (dk : Array α) (os : Array Obj) {p : Addr} (h1 : p.block ≠ blk) (h2 : p.block < w.heap.size) : (sortWorld enc w blk off m dk os).cell? p = w.cell? p := by
  unfold sortWorld
  rw [cell?_grow _ _ _ (by rw [size_putRow]; exact h2), cell?_putRow_other _ _ _ _ _ _ (.inl h1)]
  rfl
/-- The closure's cells: the total, the weights, the sum. -/
structure ShCells (W : World) (B : Nat) (total : Int) (b off n c : Nat) (ws : List Int) : Prop where
  c0 : W.cell? ⟨B, 0, none⟩ = some (.int .i64 total)
  c1 : W.cell? ⟨B + 1, 0, none⟩ = some (.slice (some ⟨b, off, none⟩) n c)
  c2 : W.cell? ⟨B + 2, 0, none⟩ = some (.int .i64 (sumI ws))
  cw : ∀ j, j < n → W.cell? ⟨b, off + j, none⟩ = some (.int .i64 (ws.getD j 0))
set_option maxHeartbeats 4000000 in
theorem i_less {total : Int} {ws : List Int} (h : shB total ws = true) (B b off c : Nat) (x y : Nat) (hx : x < ws.length) (hy : y < ws.length) (W : World) (hC : ShCells W B total b off ws.length c ws) :
    Calls Try.prog 15 #[.int .i64 (x : Int), .int .i64 (y : Int), .pointer (some ⟨B, 0, none⟩), .pointer (some ⟨B + 1, 0, none⟩), .pointer (some ⟨B + 2, 0, none⟩)] W fun e w' => e = .returned (.int .i64 (rF total ws y - rF total ws x)) ∧ ∃ q, w' = W.drewN q := by
  obtain ⟨c0, c1, c2, cw⟩ := hC
  have cx := cw x hx
  have cy := cw y hy
  obtain ⟨a0, a1, -, -, a4, a5, -⟩ := quo_facts h hx
  obtain ⟨b0, b1, -, -, b4, b5, -⟩ := quo_facts h hy
  obtain ⟨t1, _, t3, t4, t5⟩ := sh_true h
  have hs := sum_pos t4 t5
  have hsb := sum_bd ws.length (Nat.le_refl _) t4
  rw [List.take_length] at hsb
  have ex : Int.tmod (total * ws.getD x 0) (sumI ws) = rF total ws x := by unfold rF; exact Int.tmod_eq_emod_of_nonneg a0
  have ey : Int.tmod (total * ws.getD y 0) (sumI ws) = rF total ws y := by unfold rF; exact Int.tmod_eq_emod_of_nonneg b0
  have hS : sumI ws ≤ 12000000 := by omega
  clear hsb t4 cw h
  generalize rF total ws x = rx at *
  generalize rF total ws y = ry at *
  generalize ws.getD x 0 = wx at *
  generalize ws.getD y 0 = wy at *
  generalize sumI ws = S at *
  generalize ws.length = n at *
  have ww1 : IntKind.i64.wrap (total * wx) = total * wx := IntWalk.i64_in _ (by omega)
  have ww2 : IntKind.i64.wrap (total * wy) = total * wy := IntWalk.i64_in _ (by omega)
  have ww3 : IntKind.i64.wrap (ry - rx) = ry - rx := IntWalk.i64_in _ (by omega)
  have s0 : (S == 0) = false := by simp; omega
  have s1 : ¬ S = 0 := by omega
  have x0 : (0 : Int) ≤ (x : Int) := by omega
  have y0 : (0 : Int) ≤ (y : Int) := by omega
  have x1 : (x : Int) < (n : Int) := by omega
  have y1 : (y : Int) < (n : Int) := by omega
  go_enter Try.func15, Try.ntmps15
  go_wp2_with fail
  go_quiet (fail)
  go_wp2
  go_ret
  exact ⟨rfl, _, rfl⟩
theorem cmp_reads {total : Int} {ws : List Int} (h : shB total ws = true) {m : Nat} (hm : ws.length = m + 1) (B b off c blk : Nat) (W : World) (hC : ShCells W B total b off ws.length c ws) (hB : B + 2 < W.heap.size) (hb : b < W.heap.size) (n0 : B ≠ blk) (n1 : B + 1 ≠ blk) (n2 : B + 2 ≠ blk) (n3 : b ≠ blk) :
    CmpReads Try.prog 15 (cbF B) (encF m) (fun x y => rF total ws y.val - rF total ws x.val) blk 0 (m + 1) W := by
  intro mm os dk _ x y
  have cs : ∀ p : Addr, p.block ≠ blk → p.block < W.heap.size → (sortWorld (encF m) W blk 0 mm dk os).cell? p = W.cell? p := fun p h1 h2 => cell_sort _ _ _ _ _ _ _ h1 h2
  exact i_less h B b off c x.val y.val (by omega) (by omega) _ ⟨(cs ⟨B, 0, none⟩ n0 (by show B < _; omega)).trans hC.c0, (cs ⟨B + 1, 0, none⟩ n1 (by show B + 1 < _; omega)).trans hC.c1, (cs ⟨B + 2, 0, none⟩ n2 hB).trans hC.c2, fun j hj => (cs ⟨b, off + j, none⟩ n3 hb).trans (hC.cw j hj)⟩
def SortOut (W : World) (m blk : Nat) (r : Nat → Int) (e : Ending) (w' : World) : Prop := e = .returned (.tuple #[]) ∧ ∃ q, w' = (putRow (encF m) W blk 0 (sortO r m)).drewN q
theorem i_insSort {total : Int} {ws : List Int} (h : shB total ws = true) {m : Nat} (hm : ws.length = m + 1) (B b off c blk cap : Nat) (W : World) (hC : ShCells W B total b off ws.length c ws) (hB : B + 2 < W.heap.size) (hb : b < W.heap.size) (n0 : B ≠ blk) (n1 : B + 1 ≠ blk) (n2 : B + 2 ≠ blk) (n3 : b ≠ blk)
    (hH : Holds (encF m) W blk 0 (ident m)) :
    Calls Try.prog 18 #[.slice (some ⟨blk, 0, none⟩) (m + 1) cap, .int .i64 0, .int .i64 (m + 1 : Nat), .func (.func 15) #[] (cbF B)] W (SortOut W m blk (rF total ws)) := by
  have hs : (ident m).size = m + 1 := by simp [ident]
  have hr := cmp_reads h hm B b off c blk W hC hB hb n0 n1 n2 n3
  have := Try.insertionSortCmpFunc_one (encF m) (one_encF m) (fun x y => rF total ws y.val - rF total ws x.val) 15 (cbF B) blk 0 cap 0 (m + 1) (ident m) W (fun args w => by rfl) (by rw [hs]; exact hr) hH (Nat.zero_le _) (by rw [hs]; exact Nat.le_refl _) (by rw [hs]; have := (sh_true h).2.2.1; omega)
  rw [hs] at this
  exact this

set_option maxHeartbeats 1000000 in
theorem i_stable {W : World} {blk cap : Nat} {n : Nat} {f : Value} {post : Ending → World → Prop} (hn : n ≤ 12) (h : Calls Try.prog 18 #[.slice (some ⟨blk, 0, none⟩) n cap, .int .i64 0, .int .i64 n, f] W post) (hp : ∀ e w', post e w' → e = .returned (.tuple #[])) :
    Calls Try.prog 17 #[.slice (some ⟨blk, 0, none⟩) n cap, .int .i64 n, f] W post := by
  have H := Lib.hid h
  have HP := Lib.hid hp
  clear h hp
  have g1 : (n : Int) < 20 := by omega
  have g2 : decide (n < 20) = true := by simp; omega
  have g3 : decide (20 ≤ n) = false := by simp; omega
  go_enter Try.func17, Try.ntmps17
  go_wp2_with fail
  go_loopw [7, 8] (fun v7 v8 wr => v7 = .int .i64 0 ∧ v8 = .int .i64 20 ∧ W = wr) (fun _ _ _ => 0)
  case atStart => exact ⟨rfl, rfl, rfl⟩
  case round =>
    obtain ⟨rfl, rfl, rfl⟩ := hrel
    go_wp2_with fail
    refine H.out.mono ?_; rintro e w1 hpo
    obtain rfl := HP.out e w1 hpo
    have HO := Lib.hid hpo
    clear hpo
    go_wp2_with fail
    go_loopw [6] (fun v6 wr => v6 = .int .i64 20 ∧ w1 = wr) (fun _ _ => 0)
    case atStart => exact ⟨rfl, rfl⟩
    case round =>
      obtain ⟨rfl, rfl⟩ := hrel
      go_wp2
      first | (go_end0; exact HO.out) | (go_ret; exact HO.out)
set_option maxHeartbeats 1000000 in
theorem i_sortStable {W : World} {blk cap : Nat} {n : Nat} {f : Value} {post : Ending → World → Prop} (hn : n ≤ 12) (h : Calls Try.prog 18 #[.slice (some ⟨blk, 0, none⟩) n cap, .int .i64 0, .int .i64 n, f] W post) (hp : ∀ e w', post e w' → e = .returned (.tuple #[])) :
    Calls Try.prog 14 #[.slice (some ⟨blk, 0, none⟩) n cap, f] W post := by
  have H := Lib.hid (i_stable hn h hp)
  have HP := Lib.hid hp
  clear h hp
  go_enter Try.func14, Try.ntmps14
  go_wp2_with fail
  refine H.out.mono ?_; rintro e w1 hpo
  obtain rfl := HP.out e w1 hpo
  have HO := Lib.hid hpo
  clear hpo
  go_wp2
  first | (go_end0; exact HO.out) | (go_ret; exact HO.out)
end Go.Proofs.Ytaoinmlhhnklgaa
