/- The draws' cursor: contracts of big, at, l01New, l01Byte, l01Below, l01Once, l01PickInt. What is drawn is known by its range alone. -/
import Derived.Test.YtaoinmlhhnklgaaArith
import Derived.Test.YtaoinmlhhnklgaaMem
import Derived.Maps.AppendAt
import Derived.Deep.QuietTactic
import Derived.BigQuiet
namespace Go.Proofs.Ytaoinmlhhnklgaa
open Go.RowKit

/-- A slice of n bytes zs below block H. -/
def BytesAt (w : World) (H : Nat) (A : Option Addr) (n : Nat) (zs : List Int) : Prop :=
  zs.length = n ∧ (∀ j, 0 ≤ zs.getD j 0 ∧ zs.getD j 0 ≤ 255) ∧ (0 < n → ∃ b off, A = some ⟨b, off, none⟩ ∧ b < H ∧ ∀ j, j < n → w.cell? ⟨b, off + j, none⟩ = some (.int .u8 (zs.getD j 0)))
theorem BytesAt.keep {w w' : World} {H : Nat} {A : Option Addr} {n : Nat} {zs : List Int} (h : BytesAt w H A n zs) (hk : ∀ p : Addr, p.block < H → w'.cell? p = w.cell? p) : BytesAt w' H A n zs :=
  ⟨h.1, h.2.1, fun hn => by
    obtain ⟨b, off, e, hb, hc⟩ := h.2.2 hn
    exact ⟨b, off, e, hb, fun j hj => (hk ⟨b, off + j, none⟩ hb).trans (hc j hj)⟩⟩
theorem BytesAt.below {w w' : World} {H : Nat} {A : Option Addr} {n : Nat} {zs : List Int} (h : BytesAt w H A n zs) (hb : Below H w w') : BytesAt w' H A n zs := h.keep fun _ hp => hb.cell hp

theorem l_big (A : Option Addr) (n c : Nat) (w : World) :
    Calls Try.prog 5 #[.slice A n c] w fun e w' => e = .returned (.bool (decide (1048576 < n))) ∧ w = w' := by
  go_enter Try.func5, Try.ntmps5
  go_wp2
  go_ret
  exact ⟨ret_bool (by simp; omega), rfl⟩

/-- at: a byte of the code. -/
def atV (zs : List Int) (i : Nat) : Int := if zs.length = 0 then 0 else zs.getD ((i * 5 + 1) % zs.length) 0
theorem atV_bd {w : World} {H : Nat} {A : Option Addr} {n : Nat} {zs : List Int} (h : BytesAt w H A n zs) (i : Nat) : 0 ≤ atV zs i ∧ atV zs i ≤ 255 := by
  unfold atV; split
  · omega
  · exact h.2.1 _
theorem l_at (A : Option Addr) (n c : Nat) (zs : List Int) (i : Nat) (H : Nat) (w : World) (h : BytesAt w H A n zs) (hi : i ≤ 1000) (hn : n ≤ 1048576) :
    Calls Try.prog 6 #[.slice A n c, .int .i64 i] w fun e w' => e = .returned (.int .i64 (atV zs i)) ∧ w = w' := by
  obtain ⟨hl, hbd, hc⟩ := h
  rcases Nat.eq_zero_or_pos n with h0 | h0
  · subst h0
    have HV := Lib.hid (show atV zs i = 0 by unfold atV; rw [if_pos hl])
    go_enter Try.func6, Try.ntmps6
    go_wp2
    go_ret
    exact ⟨ret_int HV.out.symm, rfl⟩
  · obtain ⟨b, off, rfl, hb, hcell⟩ := hc h0
    have hm : (i * 5 + 1) % n < n := Nat.mod_lt _ h0
    have HV := Lib.hid (show atV zs i = zs.getD ((i * 5 + 1) % n) 0 by unfold atV; rw [hl, if_neg (by omega)])
    have hce := hcell _ hm
    have hne : ((n : Int) == 0) = false := by simp; omega
    have hb2 := hbd ((i * 5 + 1) % n)
    have e1 : ((i : Int) * 5 + 1) % (n : Int) = (((i * 5 + 1) % n : Nat) : Int) := by push_cast; rfl
    clear hcell hc hl hbd
    generalize zs.getD ((i * 5 + 1) % n) 0 = z at *
    generalize (i * 5 + 1) % n = k at *
    have e2 : (0 : Int) ≤ (k : Int) := by omega
    have e3 : (k : Int) < (n : Int) := by omega
    go_enter Try.func6, Try.ntmps6
    go_wp2
    go_ret
    exact ⟨ret_int HV.out.symm, rfl⟩

end Go.Proofs.Ytaoinmlhhnklgaa
