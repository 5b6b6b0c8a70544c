/- Plain: what is encoded is decoded back. -/
import Derived.Test.YtcnnnhlbnpollaaDoorDec
namespace Go.Proofs.YtcnnnhlbnpollaaDoor
open Go.RowKit

theorem hexDig_val {x : Nat} (h : x < 16) : hexVal (hexDig x) = (x : Int) := by
  have : ∀ y : Fin 16, hexVal (hexDig y.val) = (y.val : Int) := by decide
  exact this ⟨x, h⟩
theorem hexEnc_cons (c : UInt8) (l : List UInt8) : hexEnc (c :: l) = hexDig (c.toNat / 16) :: hexDig (c.toNat % 16) :: hexEnc l := by simp [hexEnc]
theorem dec_enc : ∀ (l : List UInt8), decOk (hexEnc l) = true ∧ decL (hexEnc l) = l
  | [] => by simp [hexEnc, decOk, decL]
  | c :: l => by
    obtain ⟨h1, h2⟩ := dec_enc l
    have hc := UInt8.toNat_lt c
    have e1 := hexDig_val (x := c.toNat / 16) (by omega)
    have e2 := hexDig_val (x := c.toNat % 16) (by omega)
    rw [hexEnc_cons]
    unfold decOk decL
    rw [e1, e2, h1, h2]
    refine ⟨by simp; omega, ?_⟩
    have : UInt8.ofNat (16 * ((c.toNat / 16 : Nat) : Int) + ((c.toNat % 16 : Nat) : Int)).toNat = c := by
      rw [show (16 * ((c.toNat / 16 : Nat) : Int) + ((c.toNat % 16 : Nat) : Int)).toNat = c.toNat by omega]
      exact UInt8.ofNat_toNat
    rw [this]
end Go.Proofs.YtcnnnhlbnpollaaDoor
