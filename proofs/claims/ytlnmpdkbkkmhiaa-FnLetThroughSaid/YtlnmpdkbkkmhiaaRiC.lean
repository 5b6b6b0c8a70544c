/- Contracts of RiverOk and RiverTotal (program and reference). -/
import Derived.Test.YtlnmpdkbkkmhiaaRiP
namespace Go.Proofs.Ytlnmpdkbkkmhiaa
open Go.RowKit

theorem rs_get {w W : World} {H : Nat} {A : Option Addr} {ds : List Rc} {m k : Nat} (hR : RsAt w H A ds) (hH : H ≤ w.heap.size) (hL : RsLen ds m) (hW : Below w.heap.size w W) (hk : k < ds.length) :
    ∃ (b off : Nat) (tA : Option Addr) (tc : Nat) (ps : List (Int × Int)) (vol : Int) (pA : Option Addr) (pc : Nat) (zs : List Int), A = some ⟨b, off, none⟩ ∧ b < W.heap.size ∧ rcAt ds k = ⟨ps, vol, zs⟩ ∧ ps.length ≤ m ∧ zs.length ≤ m ∧ PtsAt W W.heap.size tA ps ∧ NumsAt W W.heap.size pA zs ∧
      W.cell? ⟨b, off + k * 3, none⟩ = some (.slice tA ps.length tc) ∧ W.cell? ⟨b, off + k * 3 + 1, none⟩ = some (.int .i64 vol) ∧ W.cell? ⟨b, off + k * 3 + 2, none⟩ = some (.slice pA zs.length pc) := by
  obtain ⟨b, off, ad, e, hI⟩ := hR (by omega)
  have hI' := hI.below (hW.mono hH)
  obtain ⟨h1, h2, h3, h4, h5⟩ := hI'.2 k hk
  have hb := hI.1
  have hs := hW.size
  obtain ⟨l1, l2⟩ := hL k hk
  exact ⟨b, off, (ad k).tA, (ad k).tc, (rcAt ds k).ps, (rcAt ds k).vol, (ad k).pA, (ad k).pc, (rcAt ds k).zs, e, by omega, rfl, l1, l2, h4.mono (by omega), h5.mono (by omega), h1, h2, h3⟩

theorem rtotal_yes {ds : List Rc} (h : riverOk ds = true) : riverTotal ds = sumR ds := by unfold riverTotal; rw [if_pos h]
theorem rtotal_no {ds : List Rc} (h : riverOk ds = false) : riverTotal ds = 0 := by unfold riverTotal; rw [h]; rfl
end Go.Proofs.Ytlnmpdkbkkmhiaa
