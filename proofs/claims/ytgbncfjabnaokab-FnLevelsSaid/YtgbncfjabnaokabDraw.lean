/- The draws' cursor: contracts of big, at, l01New, l01Byte, l01Below, l01Once, l01PickInt. What is drawn is known by its range alone. -/
import Derived.Test.YtgbncfjabnaokabArith
import Derived.Test.YtgbncfjabnaokabMem
import Derived.Maps.AppendAt
import Derived.Deep.QuietTactic
import Derived.BigQuiet
namespace Go.Proofs.Ytgbncfjabnaokab
open Go.RowKit

/-- A slice of n bytes zs below block H. -/
def BytesAt (w : World) (H : Nat) (A : Option Addr) (n : Nat) (zs : List Int) : Prop :=
  zs.length = n ∧ (∀ j, 0 ≤ zs.getD j 0 ∧ zs.getD j 0 ≤ 255) ∧ (0 < n → ∃ b off, A = some ⟨b, off, none⟩ ∧ b < H ∧ ∀ j, j < n → w.cell? ⟨b, off + j, none⟩ = some (.int .u8 (zs.getD j 0)))
theorem BytesAt.keep {w w' : World} {H : Nat} {A : Option Addr} {n : Nat} {zs : List Int} (h : BytesAt w H A n zs) (hk : ∀ p : Addr, p.block < H → w'.cell? p = w.cell? p) : BytesAt w' H A n zs :=
  ⟨h.1, h.2.1, fun hn => by
    obtain ⟨b, off, e, hb, hc⟩ := h.2.2 hn
    exact ⟨b, off, e, hb, fun j hj => (hk ⟨b, off + j, none⟩ hb).trans (hc j hj)⟩⟩
theorem BytesAt.below {w w' : World} {H : Nat} {A : Option Addr} {n : Nat} {zs : List Int} (h : BytesAt w H A n zs) (hb : Below H w w') : BytesAt w' H A n zs := h.keep fun _ hp => hb.cell hp

theorem l_big (A : Option Addr) (n c : Nat) (w : World) :
    Calls Try.prog 20 #[.slice A n c] w fun e w' => e = .returned (.bool (decide (1048576 < n))) ∧ w = w' := by
  go_enter Try.func20, Try.ntmps20
  go_wp2
  go_ret
  exact ⟨ret_bool (by simp; omega), rfl⟩

/-- at: a byte of the code. -/
def atV (zs : List Int) (i : Nat) : Int := if zs.length = 0 then 0 else zs.getD ((i * 5 + 1) % zs.length) 0
theorem atV_bd {w : World} {H : Nat} {A : Option Addr} {n : Nat} {zs : List Int} (h : BytesAt w H A n zs) (i : Nat) : 0 ≤ atV zs i ∧ atV zs i ≤ 255 := by
  unfold atV; split
  · omega
  · exact h.2.1 _
theorem l_at (A : Option Addr) (n c : Nat) (zs : List Int) (i : Nat) (H : Nat) (w : World) (h : BytesAt w H A n zs) (hi : i ≤ 1000) (hn : n ≤ 1048576) :
    Calls Try.prog 22 #[.slice A n c, .int .i64 i] w fun e w' => e = .returned (.int .i64 (atV zs i)) ∧ w = w' := by
  obtain ⟨hl, hbd, hc⟩ := h
  rcases Nat.eq_zero_or_pos n with h0 | h0
  · subst h0
    have HV := Lib.hid (show atV zs i = 0 by unfold atV; rw [if_pos hl])
    go_enter Try.func22, Try.ntmps22
    go_wp2
    go_ret
    exact ⟨ret_int HV.out.symm, rfl⟩
  · obtain ⟨b, off, rfl, hb, hcell⟩ := hc h0
    have hm : (i * 5 + 1) % n < n := Nat.mod_lt _ h0
    have HV := Lib.hid (show atV zs i = zs.getD ((i * 5 + 1) % n) 0 by unfold atV; rw [hl, if_neg (by omega)])
    have hce := hcell _ hm
    have hne : ((n : Int) == 0) = false := by simp; omega
    have hb2 := hbd ((i * 5 + 1) % n)
    have e1 : ((i : Int) * 5 + 1) % (n : Int) = (((i * 5 + 1) % n : Nat) : Int) := by push_cast; rfl
    clear hcell hc hl hbd
    generalize zs.getD ((i * 5 + 1) % n) 0 = z at *
    generalize (i * 5 + 1) % n = k at *
    have e2 : (0 : Int) ≤ (k : Int) := by omega
    have e3 : (k : Int) < (n : Int) := by omega
    go_enter Try.func22, Try.ntmps22
    go_wp2
    go_ret
    exact ⟨ret_int HV.out.symm, rfl⟩

theorem and255 (x : Int) : 0 ≤ bits .and .i64 x 255 ∧ bits .and .i64 x 255 ≤ 255 := by
  show 0 ≤ IntKind.i64.wrap ((BitVec.ofInt 64 x &&& BitVec.ofInt 64 255).toNat : Int) ∧ IntKind.i64.wrap ((BitVec.ofInt 64 x &&& BitVec.ofInt 64 255).toNat : Int) ≤ 255
  have h2 : (BitVec.ofInt 64 255).toNat = 255 := by decide
  have h : (BitVec.ofInt 64 x &&& BitVec.ofInt 64 255).toNat ≤ 255 := by
    rw [BitVec.toNat_and, h2]; exact Nat.and_le_right
  rw [IntKind.wrap_i64]
  omega

/-- The cursor: block g holds the code, a place in it, a number. -/
def CurAt (w : World) (g : Nat) (A : Option Addr) (n c : Nat) : Prop := ∃ (i : Nat) (h : Int), i ≤ n ∧ Blk w g 78 #[.slice A n c, .int .i64 i, .int .i64 h]
theorem CurAt.lt {w : World} {g : Nat} {A : Option Addr} {n c : Nat} (h : CurAt w g A n c) : g < w.heap.size := by obtain ⟨i, h, _, hB⟩ := h; exact hB.lt
theorem CurAt.below {w w' : World} {B g : Nat} {A : Option Addr} {n c : Nat} (h : CurAt w g A n c) (hb : Below B w w') (hg : g < B) : CurAt w' g A n c := by
  obtain ⟨i, h, hi, hB⟩ := h; exact ⟨i, h, hi, hB.below hb hg⟩

def NewPost (w : World) (A : Option Addr) (n c : Nat) (e : Ending) (w' : World) : Prop :=
  e = .returned (.pointer (some ⟨w.heap.size, 0, none⟩)) ∧ CurAt w' w.heap.size A n c ∧ Below w.heap.size w w'
theorem s_l01New (A : Option Addr) (n c : Nat) (zs : List Int) (H : Nat) (w : World) (hB : BytesAt w H A n zs) (hn : n ≤ 1048576) :
    Calls Try.prog 50 #[.slice A n c] w (NewPost w A n c) := by
  obtain ⟨hl, hbd, hc⟩ := hB
  go_enter Try.func50, Try.ntmps50
  go_wp2
  go_loop [3, 4] (fun h i => ∃ (k : Nat) (x : Int), k ≤ n ∧ i = .int .i64 k ∧ h = .int .i64 x) (fun _ i => n - (intOf i).toNat)
  case atStart => exact ⟨0, _, by omega, rfl, rfl⟩
  case round =>
    obtain ⟨k, x, hk, rfl, rfl⟩ := hrel
    by_cases hlt : k < n
    · by_cases h4 : (k : Int) < 4000
      · obtain ⟨b, off, rfl, hb, hcell⟩ := hc (by omega)
        have hce := hcell k hlt
        have hb2 := hbd k
        clear hcell hc hbd
        generalize zs.getD k 0 = z at *
        have e3 : (k : Int) < (n : Int) := by omega
        go_wp2
        go_round
        case rel => exact ⟨k + 1, _, by omega, by go_num, rfl⟩
        case measure => simp [intOf]; omega
      · clear hc hbd
        go_wp2
        go_ret
        exact ⟨rfl, ⟨0, x, by omega, Blk.new _ _ _⟩, (Below.refl _ _).alloc (Nat.le_refl _) _⟩
    · clear hc hbd
      go_wp2
      go_ret
      exact ⟨rfl, ⟨0, x, by omega, Blk.new _ _ _⟩, (Below.refl _ _).alloc (Nat.le_refl _) _⟩

theorem only_drewN {a w : World} {row : Option Nat} (h : a.grownBy w row) (n : Nat) : a.grownBy (w.drewN n) row := ⟨h.os, h.tape, h.output, h.size, h.block⟩
theorem only_setCell {a w : World} {g : Nat} (h : a.grownBy w (some g)) {p : Addr} (hp : p.block = g ∨ a.heap.size ≤ p.block) (u : Value) : a.grownBy (w.setCell p u) (some g) :=
  ⟨h.os, h.tape, h.output, by simpa [World.setCell] using h.size, fun i hi hne => (Below.heap_setCell w p u i (by
    rintro rfl
    rcases hp with hp | hp
    · exact hne (by rw [hp])
    · omega)).trans (h.block i hi hne)⟩

/-- A number in a range is returned; the cursor has moved on; nothing else has changed. -/
def BytePost (lo hi : Int) (w : World) (g : Nat) (A : Option Addr) (n c : Nat) (e : Ending) (w' : World) : Prop :=
  ∃ v : Int, lo ≤ v ∧ v ≤ hi ∧ e = .returned (.int .i64 v) ∧ CurAt w' g A n c ∧ w.grownBy w' (some g)

theorem cur_blk {w w' : World} {g : Nat} {A : Option Addr} {n c : Nat} (i : Nat) (x : Int) (hi : i ≤ n) (h : Blk w' g 78 #[.slice A n c, .int .i64 i, .int .i64 x]) (hG : w.grownBy w' (some g)) : CurAt w' g A n c ∧ w.grownBy w' (some g) := ⟨⟨i, x, hi, h⟩, hG⟩
theorem only_set1 {w : World} {g j : Nat} {u : Value} : w.grownBy (w.setCell ⟨g, j, none⟩ u) (some g) := only_setCell (World.grownBy.refl w (some g)) (.inl rfl) u
theorem cur_move {w : World} {g i n c : Nat} {A : Option Addr} {h : Int} (hK : Blk w g 78 #[.slice A n c, .int .i64 i, .int .i64 h]) (hi : i < n) (x : Int) (k : Nat) :
    CurAt (((w.setCell ⟨g, 2, none⟩ (.int .i64 x)).drewN k).setCell ⟨g, 1, none⟩ (.int .i64 ((i : Int) + 1))) g A n c ∧ w.grownBy (((w.setCell ⟨g, 2, none⟩ (.int .i64 x)).drewN k).setCell ⟨g, 1, none⟩ (.int .i64 ((i : Int) + 1))) (some g) := by
  have h1 : w.grownBy ((w.setCell ⟨g, 2, none⟩ (.int .i64 x)).drewN k) (some g) := only_drewN only_set1 k
  have h2 : Blk ((w.setCell ⟨g, 2, none⟩ (.int .i64 x)).drewN k) g 78 #[.slice A n c, .int .i64 i, .int .i64 x] := by
    have := (hK.set_ 2 (.int .i64 x)).drewN k
    simpa using this
  generalize (w.setCell ⟨g, 2, none⟩ (.int .i64 x)).drewN k = w2 at *
  have h3 := h2.set_ 1 (.int .i64 ((i : Int) + 1))
  refine cur_blk (i + 1) x (by omega) ?_ (h1.trans only_set1)
  simpa using h3
theorem cur_stay {w : World} {g i n c : Nat} {A : Option Addr} {h : Int} (hK : Blk w g 78 #[.slice A n c, .int .i64 i, .int .i64 h]) (hi : i ≤ n) (x : Int) (k l : Nat) :
    CurAt (((w.setCell ⟨g, 2, none⟩ (.int .i64 x)).drewN k).drewN l) g A n c ∧ w.grownBy (((w.setCell ⟨g, 2, none⟩ (.int .i64 x)).drewN k).drewN l) (some g) := by
  have h1 : w.grownBy (((w.setCell ⟨g, 2, none⟩ (.int .i64 x)).drewN k).drewN l) (some g) := only_drewN (only_drewN only_set1 k) l
  refine cur_blk i x hi ?_ h1
  have := ((hK.set_ 2 (.int .i64 x)).drewN k).drewN l
  simpa using this

theorem s_l01Byte (A : Option Addr) (n c : Nat) (zs : List Int) (g H : Nat) (w : World) (hg : H ≤ g) (hC : CurAt w g A n c) (hB : BytesAt w H A n zs) (hn : n ≤ 1048576) :
    Calls Try.prog 65 #[.pointer (some ⟨g, 0, none⟩)] w (BytePost 0 255 w g A n c) := by
  obtain ⟨i, h, hi, hK⟩ := hC
  obtain ⟨hl, hbd, hc⟩ := hB
  have cA := hK.cell
  have fA := hK.frozen
  by_cases hlt : i < n
  · obtain ⟨b, off, rfl, hb, hcell⟩ := hc (by omega)
    have hce := hcell i hlt
    have hb2 := hbd i
    have hne : ¬ b = g := by omega
    have hne' : ¬ g = b := by omega
    clear hcell hc hbd hl
    generalize zs.getD i 0 = z at *
    have e3 : (i : Int) < (n : Int) := by omega
    go_enter Try.func65, Try.ntmps65
    go_wp2
    go_quiet (fail)
    go_wp2
    go_quiet (fail)
    go_wp2
    go_quiet (fail)
    go_wp2
    go_ret
    exact ⟨_, (and255 _).1, (and255 _).2, rfl, cur_move hK hlt _ _⟩
  · have e3 : (n : Int) ≤ (i : Int) := by omega
    clear hc hbd hl
    go_enter Try.func65, Try.ntmps65
    go_wp2
    go_quiet (fail)
    go_wp2
    go_quiet (fail)
    go_wp2
    go_ret
    exact ⟨_, (and255 _).1, (and255 _).2, rfl, cur_stay hK hi _ _ _⟩

theorem BytesAt.grown {w w' : World} {H g : Nat} {A : Option Addr} {n : Nat} {zs : List Int} (h : BytesAt w H A n zs) (hg : w.grownBy w' (some g)) (h1 : H ≤ g) (h2 : H ≤ w.heap.size) : BytesAt w' H A n zs :=
  h.keep fun p hp => World.cell?_of_block (hg.block p.block (by omega) (fun e => by injection e; omega))

theorem s_l01Below (A : Option Addr) (n c : Nat) (zs : List Int) (g H : Nat) (m : Int) (w : World) (hm : 1 ≤ m) (hm2 : m ≤ 4000000000) (hg : H ≤ g) (hC : CurAt w g A n c) (hB : BytesAt w H A n zs) (hn : n ≤ 1048576) :
    Calls Try.prog 62 #[.pointer (some ⟨g, 0, none⟩), .int .i64 m] w (BytePost 0 (m - 1) w g A n c) := by
  by_cases h256 : m ≤ 256
  · go_enter Try.func62, Try.ntmps62
    go_wp2_with fail
    refine (s_l01Byte A n c zs g H _ hg hC hB hn).mono ?_; rintro e w1 ⟨v, v0, v1, rfl, hC1, hG1⟩
    have q0 : 0 ≤ v % m := Int.emod_nonneg _ (by omega)
    have q1 : v % m < m := Int.emod_lt_of_pos _ (by omega)
    clear hC hB
    go_wp2
    go_ret
    exact ⟨v % m, q0, by omega, rfl, hC1, hG1⟩
  · go_enter Try.func62, Try.ntmps62
    go_wp2_with fail
    refine (s_l01Byte A n c zs g H _ hg hC hB hn).mono ?_; rintro e w1 ⟨x, x0, x1, rfl, hC1, hG1⟩
    have hB1 := hB.grown hG1 hg (by have := hC.lt; omega)
    go_wp2_with fail
    refine (s_l01Byte A n c zs g H _ hg hC1 hB1 hn).mono ?_; rintro e w2 ⟨y, y0, y1, rfl, hC2, hG2⟩
    have hB2 := hB1.grown hG2 hg (by have := hC1.lt; omega)
    go_wp2_with fail
    refine (s_l01Byte A n c zs g H _ hg hC2 hB2 hn).mono ?_; rintro e w3 ⟨z, z0, z1, rfl, hC3, hG3⟩
    have hB3 := hB2.grown hG3 hg (by have := hC2.lt; omega)
    go_wp2_with fail
    refine (s_l01Byte A n c zs g H _ hg hC3 hB3 hn).mono ?_; rintro e w4 ⟨u, u0, u1, rfl, hC4, hG4⟩
    have q0 : 0 ≤ (x * 16777216 + y * 65536 + z * 256 + u) % m := Int.emod_nonneg _ (by omega)
    have q1 : (x * 16777216 + y * 65536 + z * 256 + u) % m < m := Int.emod_lt_of_pos _ (by omega)
    have hG := ((hG1.trans hG2).trans hG3).trans hG4
    clear hC hB hC1 hB1 hC2 hB2 hC3 hB3 hG1 hG2 hG3 hG4
    go_wp2
    go_ret
    exact ⟨_, q0, by omega, rfl, hC4, hG⟩

def OncePost (w : World) (g : Nat) (A : Option Addr) (n c : Nat) (e : Ending) (w' : World) : Prop :=
  ∃ b : Bool, e = .returned (.bool b) ∧ CurAt w' g A n c ∧ w.grownBy w' (some g)
theorem s_l01Once (A : Option Addr) (n c : Nat) (zs : List Int) (g H : Nat) (m : Int) (w : World) (hm : 1 ≤ m) (hm2 : m ≤ 4000000000) (hg : H ≤ g) (hC : CurAt w g A n c) (hB : BytesAt w H A n zs) (hn : n ≤ 1048576) :
    Calls Try.prog 67 #[.pointer (some ⟨g, 0, none⟩), .int .i64 m] w (OncePost w g A n c) := by
  go_enter Try.func67, Try.ntmps67
  go_wp2_with fail
  refine (s_l01Below A n c zs g H _ _ hm hm2 hg hC hB hn).mono ?_; rintro e w1 ⟨v, v0, v1, rfl, hC1, hG1⟩
  clear hC hB
  go_wp2
  go_ret
  exact ⟨_, rfl, hC1, hG1⟩

/-- A slice of integers, known by its cells, and not the cursor's block. -/
def IntsAt (w : World) (g : Nat) (A : Option Addr) (zs : List Int) : Prop :=
  ∃ b off, A = some ⟨b, off, none⟩ ∧ b ≠ g ∧ b < w.heap.size ∧ ∀ j, j < zs.length → w.cell? ⟨b, off + j, none⟩ = some (.int .i64 (zs.getD j 0))
def PickPost (zs : List Int) (w : World) (g : Nat) (A : Option Addr) (n c : Nat) (e : Ending) (w' : World) : Prop :=
  ∃ v : Int, v ∈ zs ∧ e = .returned (.int .i64 v) ∧ CurAt w' g A n c ∧ w.grownBy w' (some g)
theorem s_l01PickInt (A : Option Addr) (n c : Nat) (zs : List Int) (g H : Nat) (L : Option Addr) (m mc : Nat) (ks : List Int) (w : World) (hL : IntsAt w g L ks) (hm : ks.length = m) (h0 : 0 < m) (h1 : m ≤ 200) (hg : H ≤ g) (hC : CurAt w g A n c) (hB : BytesAt w H A n zs) (hn : n ≤ 1048576) :
    Calls Try.prog 64 #[.pointer (some ⟨g, 0, none⟩), .slice L m mc] w (PickPost ks w g A n c) := by
  obtain ⟨b, off, rfl, hne, hlt, hcell⟩ := hL
  go_enter Try.func64, Try.ntmps64
  go_wp2_with fail
  refine (s_l01Below A n c zs g H _ _ (by omega) (by omega) hg hC hB hn).mono ?_; rintro e w1 ⟨v, v0, v1, rfl, hC1, hG1⟩
  obtain ⟨k, rfl⟩ := Int.eq_ofNat_of_zero_le v0
  have hk : k < ks.length := by omega
  have hce := (World.cell?_of_block (hG1.block b hlt (fun e => hne (by injection e)))).trans (hcell k hk)
  have hin : ks.getD k 0 ∈ ks := by rw [List.getD_eq_getElem?_getD, List.getElem?_eq_getElem hk]; exact List.getElem_mem hk
  have e3 : (k : Int) < (m : Int) := by omega
  clear hcell hC hB
  generalize ks.getD k 0 = z at *
  go_wp2
  go_ret
  exact ⟨z, hin, rfl, hC1, hG1⟩
end Go.Proofs.Ytgbncfjabnaokab
