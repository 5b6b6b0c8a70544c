/- Contracts of the draws of tables: l01Table, DrawTable. -/
import Derived.Test.YtgbncfjabnaokabDr
import Derived.Test.YtgbncfjabnaokabTabP
import Derived.Test.YtgbncfjabnaokabPts
namespace Go.Proofs.Ytgbncfjabnaokab
open Go.RowKit

theorem info_ptD : (Try.prog.info? 52).map (fun i => (i.zero, i.size, i.bytes)) = some (some (.agg #[.int .i64 0, .int .i64 0]), 2, 16) := by kernel_rfl
theorem grown_mix {w W w' : World} {g : Nat} {row : Option Nat} (h : w.grownBy W (some g)) (hg : W.grownBy w' row) (hr : ∀ k, row = some k → w.heap.size ≤ k) : w.grownBy w' (some g) :=
  ⟨hg.os.trans h.os, hg.tape.trans h.tape, hg.output.trans h.output, Nat.le_trans h.size hg.size, fun i hi hne => (hg.block i (Nat.lt_of_lt_of_le hi h.size) (fun e => by have := hr i e.symm; omega)).trans (h.block i hi hne)⟩
theorem own_shape {w : World} {base : Nat} {e : TypeId} {size n : Nat} {v : Value} {xs : List Value} (h : w.ownsRow base e size v n xs) : ∃ A c, v = .slice A n c := by
  rcases h.2 with ⟨rfl, rfl⟩ | ⟨g, cap, cur, rfl, _⟩
  · exact ⟨_, _, rfl⟩
  · exact ⟨_, _, rfl⟩
theorem own_grown {W w' : World} {lo g : Nat} {e : TypeId} {size n : Nat} {v : Value} {xs : List Value} (h : W.ownsRow lo e size v n xs) (hg : W.grownBy w' (some g)) (hl : g < lo) : w'.ownsRow lo e size v n xs := by
  obtain ⟨A, c, rfl⟩ := own_shape h
  exact ((Row.of_own h).same fun k h1 h2 => hg.block k h2 (fun e => by injection e; omega)).1
theorem pt_new (W : World) (x y : Value) : ∀ j u, [x, y][j]? = some u → (W.alloc (.cells #[x, y] 52)).cell? ((⟨W.heap.size, 0, none⟩ : Addr).add j) = some u := by
  intro j u hu
  have hj : j < 2 := by have := (List.getElem?_eq_some_iff.1 hu).1; simpa using this
  have : ((⟨W.heap.size, 0, none⟩ : Addr).add j) = ⟨W.heap.size, j, none⟩ := by
    unfold Addr.add; split
    · rename_i h; subst h; rfl
    · simp
  rw [this, (Blk.new W 52 #[x, y]).cell j]
  simpa using hu
def TabOut (w : World) (g H : Nat) (A : Option Addr) (n c : Nat) (zs : List Int) (e : Ending) (w' : World) : Prop :=
  ∃ (tA : Option Addr) (tc : Nat) (ps : List (Int × Int)), e = .returned (.slice tA ps.length tc) ∧ TabD ps ∧ Row w' w.heap.size w'.heap.size 52 2 tA ps.length tc (cellsP ps) ∧ Dr w' g H A n c zs ∧ w.grownBy w' (some g)
theorem tab_row {w7 : World} {B : Nat} {v : Value} {ps : List (Int × Int)} {x y : Int} (h : w7.ownsRow B 52 2 v (ps.length + 1) (cellsP ps ++ [.int .i64 x, .int .i64 y])) : w7.ownsRow B 52 2 v (ps ++ [(x, y)]).length (cellsP (ps ++ [(x, y)])) := by
  rw [cellsP_append, List.length_append]; exact h
theorem pick_bd {v : Int} {ks : List Int} (h : v ∈ ks) {m : Int} (hb : ∀ k ∈ ks, 0 ≤ k ∧ k ≤ m) : 0 ≤ v ∧ v ≤ m := hb v h

set_option maxHeartbeats 4000000 in
theorem d_Table (g H : Nat) (A : Option Addr) (n c : Nat) (zs : List Int) (w : World) (hD : Dr w g H A n c zs) :
    Calls Try.prog 57 #[.pointer (some ⟨g, 0, none⟩)] w (TabOut w g H A n c zs) := by
  have hgl := hD.lt
  have hgH := hD.le
  obtain ⟨i0, hi, hz0, hz1, hz2⟩ := info_parts info_ptD
  have hown := World.ownsRow_made (e := 52) (size := 2) (base := w.heap.size) w #[] 0 (Nat.le_refl _) (Nat.zero_le _) (by simp)
  go_enter Try.func57, Try.ntmps57
  go_wp2_with fail
  refine (d_Below g H A n c zs 50 _ (hD.alloc _) (by omega) (by omega)).mono ?_; rintro e w1 ⟨x0, x1, x2, rfl, hD1, hG1⟩
  have HO1 := own_grown hown hG1 hgl
  have HG1 := grown_alloc_trans hG1
  clear hown hG1 hD
  go_wp2_with fail
  refine (d_Below g H A n c zs 100 _ hD1 (by omega) (by omega)).mono ?_; rintro e w2 ⟨y0, y1, y2, rfl, hD2, hG2⟩
  have HO2 := own_grown HO1 hG2 hgl
  have HG2 := HG1.trans hG2
  clear HO1 HG1 hG2 hD1
  go_wp2_with fail
  refine (d_Below g H A n c zs 4 _ hD2 (by omega) (by omega)).mono ?_; rintro e w3 ⟨k0, k1, k2, rfl, hD3, hG3⟩
  have HO3 := Lib.hid (own_grown HO2 hG3 hgl)
  have HG3 := Lib.hid (HG2.trans hG3)
  clear HO2 HG2 hG3 hD2
  obtain ⟨kn, hkn⟩ : ∃ kn : Nat, 2 + k0 = (kn : Int) := ⟨(2 + k0).toNat, by omega⟩
  have HK := Lib.hid hkn
  have hk1 : 2 ≤ kn := by omega
  have hk2 : kn ≤ 5 := by omega
  have HT := Lib.hid (tabTo_nil x1 (by omega : x0 ≤ 49) y1 (by omega : y0 ≤ 99))
  clear hkn
  go_wp2_with fail
  go_loopw [3, 4, 5, 6] (fun v3 v4 v5 v6 wr => ∃ (ps : List (Int × Int)) (x y : Int) (k : Nat), v4 = .int .i64 x ∧ v5 = .int .i64 y ∧ v6 = .int .i64 k ∧ 2 ≤ ps.length + k ∧ ps.length + k ≤ 5 ∧ TabTo ps x y ∧ wr.ownsRow w.heap.size 52 2 v3 ps.length (cellsP ps) ∧ Dr wr g H A n c zs ∧ w.grownBy wr (some g)) (fun _ _ _ v6 _ => (intOf v6).toNat)
  case atStart => exact ⟨[], x0, y0, kn, rfl, rfl, by rw [HK.out], by simp; omega, by simp; omega, HT.out, HO3.out, hD3, HG3.out⟩
  case round =>
    obtain ⟨ps, x, y, k, rfl, rfl, rfl, hl1, hl2, hT, hO, hD, hG⟩ := hrel
    clear HO3 HG3 HT HK hD3
    have hx := hT.2
    have hx0 : 0 ≤ x := hx.1
    have hx1 : x ≤ 700 := by have := hx.2.1; omega
    have hy0 : 0 ≤ y := hx.2.2.1
    have hy1 : y ≤ 7000 := by have := hx.2.2.2.1; omega
    have HTT := Lib.hid hT
    have hwl := hG.size
    clear hx hT
    by_cases hk : 0 < k
    · have e1 : (0 : Int) < (k : Int) := by omega
      have hb : decide (0 < k) = true := by simpa using hk
      go_wp2_with (at_builtin; refine wpList_append_own _ rfl (.tmp 19) (.tmp 23) 27 rfl w.heap.size 52 i0 _ 2 16 Try.underlying27 hi hz0 hz1 hz2 rfl (by omega) u3 ps.length (cellsP ps) rfl (World.ownsRow.alloc hO _) _ 1 1 [.int .i64 x, .int .i64 y] rfl rfl (pt_new _ _ _) (by simp [Value.oneCell']) (by unfold maxLen; omega) (by omega) (by simp; omega) ?_; intro v7 w7 hown7 hg7 hnil7)
      have hO7 := tab_row hown7
      have hD7 := (hD.alloc (.cells #[.int .i64 x, .int .i64 y] 52)).grown hg7 (fun k hk => by have := (hO.lt k hk).1; exact .inr ⟨by omega, by omega⟩)
      have hG7 := grown_mix (hG.trans (World.grownBy_alloc wr (.cells #[.int .i64 x, .int .i64 y] 52) (some g))) hg7 (fun k hk => (hO.lt k hk).1)
      clear hown7 hg7 hnil7 hO hD hG
      go_wp2_with fail
      refine (d_Pick g H A n c zs _ _ _ [0, 3, 20, 100] _ (hD7.alloc _) (ints_new _ _ _ _ hD7.lt) rfl (by simp) (by simp)).mono ?_; rintro e w8 ⟨a, ha, rfl, hD8, hG8⟩
      obtain ⟨a0, a1⟩ : 0 ≤ a ∧ a ≤ 100 := by simp at ha; omega
      have hO8 := own_grown (World.ownsRow.alloc hO7 _) hG8 hgl
      have hG8' := hG7.trans (grown_alloc_trans hG8)
      clear ha hG8 hG7 hO7 hD7
      go_wp2_with fail
      refine (d_Pick g H A n c zs _ _ _ [0, 1, 50, 1000] _ (hD8.alloc _) (ints_new _ _ _ _ hD8.lt) rfl (by simp) (by simp)).mono ?_; rintro e w9 ⟨b, hb', rfl, hD9, hG9⟩
      obtain ⟨b0, b1⟩ : 0 ≤ b ∧ b ≤ 1000 := by simp at hb'; omega
      have hO9 := own_grown (World.ownsRow.alloc hO8 _) hG9 hgl
      have hG9' := hG8'.trans (grown_alloc_trans hG9)
      have HT9 := Lib.hid (tabTo_snoc HTT.out (by omega) a0 a1 b0 b1)
      have hl9 : (ps ++ [(x, y)]).length = ps.length + 1 := by simp
      have HL := Lib.hid hl9
      clear hb' hG9 hG8' hO8 hD8 hl9
      go_wp2
      go_roundw
      case rel => exact ⟨_, _, _, k - 1, rfl, rfl, by rw [show ((k - 1 : Nat) : Int) = (k : Int) - 1 by omega], by rw [HL.out]; omega, by rw [HL.out]; omega, HT9.out, hO9, hD9, hG9'⟩
      case measure => simp [intOf]; omega
    · obtain rfl : k = 0 := by omega
      obtain ⟨tA, tc, rfl⟩ := own_shape hO
      have hR := Row.of_own hO
      have hE := Lib.hid (tabTo_end HTT.out (by omega) (by omega))
      clear hO
      go_wp2
      go_ret
      exact ⟨tA, tc, ps, rfl, hE.out, hR, hD, hG⟩

def DrawTabOut (w : World) (e : Ending) (w' : World) : Prop :=
  ∃ (tA : Option Addr) (tc : Nat) (ps : List (Int × Int)), e = .returned (.slice tA ps.length tc) ∧ TabD ps ∧ PtsAt w' w'.heap.size tA ps ∧ Below w.heap.size w w'
set_option maxHeartbeats 400000 in
theorem s_DrawTable (A : Option Addr) (n c : Nat) (zs : List Int) (w : World) (hB : BytesAt w w.heap.size A n zs) (hn : n ≤ 1048576) :
    Calls Try.prog 32 #[.slice A n c] w (DrawTabOut w) := by
  go_enter Try.func32, Try.ntmps32
  go_wp2_with fail
  refine (d_New A n c zs w.heap.size _ hB hn (Nat.le_refl _)).mono ?_; rintro e w0 ⟨rfl, hD0, hW⟩
  clear hB
  go_wp2_with fail
  refine (d_Table _ _ A n c zs _ hD0).mono ?_; rintro e w1 ⟨tA, tc, ps, rfl, hT, hR, hD1, hG1⟩
  have hW1 := below_grown hW hG1 hW.size (Nat.le_refl _)
  have hP := hR.pts
  clear hD0 hD1 hG1 hR
  go_wp2
  go_ret
  exact ⟨tA, tc, ps, rfl, hT, hP, hW1⟩
end Go.Proofs.Ytgbncfjabnaokab
