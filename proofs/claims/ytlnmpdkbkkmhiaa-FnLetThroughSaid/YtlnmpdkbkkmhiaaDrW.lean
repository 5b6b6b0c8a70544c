/- A drawn weir: contract of DrawWeir. -/
import Derived.Test.YtlnmpdkbkkmhiaaDraw2
namespace Go.Proofs.Ytlnmpdkbkkmhiaa
open Go.RowKit

def WeirOut (w : World) (e : Ending) (w' : World) : Prop :=
  ∃ a b s f d : Int, weirD a b s f d ∧ e = .returned (.agg #[.int .i64 a, .int .i64 b, .int .i64 s, .int .i64 f, .int .i64 d]) ∧ Below w.heap.size w w'
theorem bytes_alloc {w : World} {A : Option Addr} {n : Nat} {zs : List Int} (hB : BytesAt w w.heap.size A n zs) (o : Obj) : BytesAt (w.alloc o) w.heap.size A n zs :=
  hB.below (((Below.refl w.heap.size w)).alloc (Nat.le_refl _) o)
set_option maxHeartbeats 400000 in
theorem s_DrawWeir (A : Option Addr) (n c : Nat) (zs : List Int) (w : World) (hB : BytesAt w w.heap.size A n zs) (hn : n ≤ 1048576) :
    Calls Try.prog 7 #[.slice A n c] w (WeirOut w) := by
  have hM := Blk.new w 27 #[.int .i64 0, .int .i64 0, .int .i64 0, .int .i64 0, .int .i64 0]
  go_enter Try.func7, Try.ntmps7
  go_wp2_with fail
  refine (d_New A n c zs w.heap.size _ (bytes_alloc hB _) hn (by simp)).mono ?_; rintro e w0 ⟨rfl, hD0, hW⟩
  have hM0 := hM.below hW hM.lt
  have hW0 := ((Below.refl w.heap.size w).alloc (Nat.le_refl _) _).trans (hW.mono (by simp))
  clear hB hM hW
  go_wp2_with fail
  refine (d_Weir _ _ A n c zs _ (by simpa using hD0)).mono ?_; rintro e w1 ⟨a, b, s, f, d, hd, rfl, hD1, hG1⟩
  have hM1 := hM0.grown hG1 (fun e => by injection e; omega)
  have hW1 := below_grown hW0 hG1 hW0.size (by omega)
  have cM := hM1.cell
  have fM := hM1.frozen
  clear hD0 hM0 hW0 hD1 hG1
  go_wp2
  refine bodyPost_ret (v := .agg #[.int .i64 a, .int .i64 b, .int .i64 s, .int .i64 f, .int .i64 d]) (by simp [results, Try.results7, go_sem, cM]) rfl ⟨_, _, _, _, _, hd, rfl, ?_⟩
  repeat (refine Below.setCell ?_ (by simp) _)
  exact hW1
end Go.Proofs.Ytlnmpdkbkkmhiaa
