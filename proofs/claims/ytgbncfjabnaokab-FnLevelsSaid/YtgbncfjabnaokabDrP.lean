/- Drawn reaches, as the laws read them. -/
import Derived.Test.YtgbncfjabnaokabRcR
import Derived.Test.YtgbncfjabnaokabRiC
namespace Go.Proofs.Ytgbncfjabnaokab
open Go.RowKit

theorem l_atK (A : Option Addr) (n c : Nat) (zs : List Int) (i : Int) (k : Nat) (H : Nat) (w : World) (hik : i = (k : Int)) (h : BytesAt w H A n zs) (hi : k ≤ 1000) (hn : n ≤ 1048576) :
    Calls Try.prog 22 #[.slice A n c, .int .i64 i] w fun e w' => e = .returned (.int .i64 (atV zs k)) ∧ w = w' := by
  subst hik; exact l_at A n c zs k H w h hi hn
/-- One drawn reach: what is read of it in every later world. -/
structure OneD (w1 : World) (tA : Option Addr) (ps : List (Int × Int)) (vol : Int) (pA : Option Addr) (zs : List Int) (s : Int) : Prop where
  ok : reachOk ps vol zs = true
  tab : TabD ps
  sum : vol + sumI zs = s
  vol0 : 0 ≤ vol
  vols : vol ≤ s
  s7 : s ≤ 7000
  z3 : zs.length ≤ 3
  pts : ∀ W, Below w1.heap.size w1 W → PtsAt W W.heap.size tA ps
  nums : ∀ W, Below w1.heap.size w1 W → NumsAt W W.heap.size pA zs
theorem one_drawn {w1 : World} {A : Option Addr} {ds : List Rc} {k : Nat} (hv : RvD ds) (hR : RsAt w1 w1.heap.size A ds) (hk : k < ds.length) :
    ∃ (b off : Nat) (tA : Option Addr) (tc : Nat) (ps : List (Int × Int)) (vol : Int) (pA : Option Addr) (pc : Nat) (zs : List Int) (s : Int), A = some ⟨b, off, none⟩ ∧ b < w1.heap.size ∧ rcAt ds k = ⟨ps, vol, zs⟩ ∧ OneD w1 tA ps vol pA zs s ∧
      ∀ W, Below w1.heap.size w1 W → W.cell? ⟨b, off + k * 3, none⟩ = some (.slice tA ps.length tc) ∧ W.cell? ⟨b, off + k * 3 + 1, none⟩ = some (.int .i64 vol) ∧ W.cell? ⟨b, off + k * 3 + 2, none⟩ = some (.slice pA zs.length pc) ∧ b < W.heap.size := by
  obtain ⟨b, off, ad, e, hI⟩ := hR (by omega)
  obtain ⟨h1, h2, h3, h4, h5⟩ := hI.2 k hk
  have hb := hI.1
  obtain ⟨r1, r2, r3, r4⟩ := hv k hk
  have hs := sum_nonneg (reach_true r1).2.2.2.1
  refine ⟨b, off, (ad k).tA, (ad k).tc, (rcAt ds k).ps, (rcAt ds k).vol, (ad k).pA, (ad k).pc, (rcAt ds k).zs, (rcAt ds k).vol + sumI (rcAt ds k).zs, e, hb, rfl, ⟨r1, r2, rfl, (reach_true r1).2.1.1, by omega, r3, r4, fun W hW => (h4.below hW).mono hW.size, fun W hW => (h5.below hW).mono hW.size⟩, fun W hW => ⟨(hW.cell (p := ⟨b, off + k * 3, none⟩) hb).trans h1, (hW.cell (p := ⟨b, off + k * 3 + 1, none⟩) hb).trans h2, (hW.cell (p := ⟨b, off + k * 3 + 2, none⟩) hb).trans h3, Nat.lt_of_lt_of_le hb hW.size⟩⟩
section
variable {w1 W : World} {tA : Option Addr} {ps : List (Int × Int)} {vol : Int} {pA : Option Addr} {zs : List Int} {s : Int}
theorem OneD.pl (D : OneD w1 tA ps vol pA zs s) : ps.length ≤ 1048576 := by have := D.tab.2.1; omega
theorem OneD.zl (D : OneD w1 tA ps vol pA zs s) : zs.length ≤ 1048576 := by have := D.z3; omega
theorem OneD.total (D : OneD w1 tA ps vol pA zs s) (tc pc : Nat) (hb : Below w1.heap.size w1 W) :
    Calls Try.prog 24 #[.agg #[.slice tA ps.length tc, .int .i64 vol, .slice pA zs.length pc]] W fun e w' => e = .returned (.int .i64 s) ∧ Below W.heap.size W w' := by
  have h := i_TotalOf tA tc ps vol pA pc zs W.heap.size W (D.pts W hb) (D.nums W hb) (Nat.le_refl _) D.pl D.zl
  rw [total_yes D.ok, D.sum] at h; exact h
theorem OneD.space (D : OneD w1 tA ps vol pA zs s) (tc pc : Nat) (hb : Below w1.heap.size w1 W) :
    Calls Try.prog 25 #[.agg #[.slice tA ps.length tc, .int .i64 vol, .slice pA zs.length pc]] W fun e w' => e = .returned (.int .i64 (1000000000 - s)) ∧ Below W.heap.size W w' := by
  have h := i_SpaceIn tA tc ps vol pA pc zs W.heap.size W (D.pts W hb) (D.nums W hb) (Nat.le_refl _) D.pl D.zl
  rw [space_yes D.ok, D.sum] at h; exact h
theorem ro_total {lo hi tc pc : Nat} (O : RO W lo hi ps zs tA tc pA pc) (h : reachOk ps vol zs = true) (hs : vol + sumI zs = s) (hn : ps.length ≤ 1048576) (hm : zs.length ≤ 1048576) :
    Calls Try.prog 24 #[.agg #[.slice tA ps.length tc, .int .i64 vol, .slice pA zs.length pc]] W fun e w' => e = .returned (.int .i64 s) ∧ Below W.heap.size W w' := by
  have h' := i_TotalOf tA tc ps vol pA pc zs W.heap.size W O.pts O.nums (Nat.le_refl _) hn hm
  rw [total_yes h, hs] at h'; exact h'
theorem ro_space {lo hi tc pc : Nat} (O : RO W lo hi ps zs tA tc pA pc) (h : reachOk ps vol zs = true) (hs : vol + sumI zs = s) (hn : ps.length ≤ 1048576) (hm : zs.length ≤ 1048576) :
    Calls Try.prog 25 #[.agg #[.slice tA ps.length tc, .int .i64 vol, .slice pA zs.length pc]] W fun e w' => e = .returned (.int .i64 (1000000000 - s)) ∧ Below W.heap.size W w' := by
  have h' := i_SpaceIn tA tc ps vol pA pc zs W.heap.size W O.pts O.nums (Nat.le_refl _) hn hm
  rw [space_yes h, hs] at h'; exact h'
end
/-- What PassOn between two drawn reaches gives. -/
structure PassD (pa : List (Int × Int)) (va : Int) (za : List Int) (sa : Int) (pb : List (Int × Int)) (zb : List Int) (sb amount keep n vy : Int) (zy : List Int) : Prop where
  n0 : 0 ≤ n
  na : n ≤ amount
  nv : n ≤ va
  kept : n = 0 ∨ keep ≤ va - n
  all : n = amount ∨ va - n ≤ keep
  okx : reachOk pa (va - n) za = true
  sx : va - n + sumI za = sa - n
  oky : reachOk pb vy zy = true
  sy : vy + sumI zy = sb + n
  zy : zy.length ≤ 1048576
theorem pass_drawn {w1 : World} {tA : Option Addr} {pa : List (Int × Int)} {va : Int} {pA : Option Addr} {za : List Int} {sa : Int} {tB : Option Addr} {pb : List (Int × Int)} {vb : Int} {pB : Option Addr} {zb : List Int} {sb : Int} (D : OneD w1 tA pa va pA za sa) (D' : OneD w1 tB pb vb pB zb sb) (amount keep : Int) (h0 : 0 ≤ amount) (h1 : amount ≤ 900000000) (h2 : 0 ≤ keep) (_h3 : keep ≤ 900000000) :
    ∃ (n vy : Int) (zy : List Int), PassD pa va za sa pb zb sb amount keep n vy zy ∧ passN pa va za pb vb zb amount keep = n ∧ passVol pa va za pb vb zb amount keep = vy ∧ passZ pa va za pb vb zb amount keep = zy ∧ takeV pa va za amount keep = n := by
  obtain ⟨n, e, n0, n1, n2, n3, n4, n5, n6, n7⟩ := passOn_ok D.ok D'.ok h0 h2
  have hsp := space_yes D'.ok
  have hs := D'.sum
  have h7 := D'.s7
  have hn := n7 (by omega)
  obtain ⟨m, em, m0, m1, m2, m3, m4, m5⟩ := take_ok D.ok h0 h2
  have hsa := D.sum
  exact ⟨n, _, _, ⟨n0, n1, n2, n3, by have := take_yes D.ok h0 h2; rw [← hn] at this; omega, n4, by omega, n5, by omega, by rw [passZ_len]; exact D'.zl⟩, e, rfl, rfl, hn.symm⟩
section
variable {w1 W : World} {tA : Option Addr} {pa : List (Int × Int)} {va : Int} {pA : Option Addr} {za : List Int} {sa : Int} {tB : Option Addr} {pb : List (Int × Int)} {vb : Int} {pB : Option Addr} {zb : List Int} {sb : Int}
theorem OneD.passOn (D : OneD w1 tA pa va pA za sa) (D' : OneD w1 tB pb vb pB zb sb) (tc pc td pd : Nat) {amount keep n vy : Int} {zy : List Int} (ha : amount ≤ 9223372036854775807) (hk : keep ≤ 9223372036854775807) (e1 : passN pa va za pb vb zb amount keep = n) (e2 : passVol pa va za pb vb zb amount keep = vy) (e3 : passZ pa va za pb vb zb amount keep = zy) (hb : Below w1.heap.size w1 W) :
    Calls Try.prog 19 #[.agg #[.slice tA pa.length tc, .int .i64 va, .slice pA za.length pc], .agg #[.slice tB pb.length td, .int .i64 vb, .slice pB zb.length pd], .int .i64 amount, .int .i64 keep] W (PassOut W pa (va - n) za pb vy zy n) := by
  have h := i_PassOn tA tc pa va pA pc za tB td pb vb pB pd zb amount keep W.heap.size W (D.pts W hb) (D.nums W hb) (D'.pts W hb) (D'.nums W hb) (Nat.le_refl _) D.pl D.zl D'.pl D'.zl ha hk
  rw [e1, e2, e3] at h; exact h
theorem OneD.takeOff (D : OneD w1 tA pa va pA za sa) (tc pc : Nat) {amount keep n : Int} (ha : amount ≤ 9223372036854775807) (hk : keep ≤ 9223372036854775807) (e1 : takeV pa va za amount keep = n) (hb : Below w1.heap.size w1 W) :
    Calls Try.prog 23 #[.agg #[.slice tA pa.length tc, .int .i64 va, .slice pA za.length pc], .int .i64 amount, .int .i64 keep] W (TakeOut W pa (va - n) za n) := by
  have h := i_TakeOff tA tc pa va pA pc za amount keep W.heap.size W (D.pts W hb) (D.nums W hb) (Nat.le_refl _) D.pl D.zl ha hk
  rw [e1] at h; exact h
end
theorem five_below {W0 W W' : World} {g1 g2 g3 g4 g5 : Nat} {x1 x2 x3 x4 x5 : Array Value} (hb : Below W.heap.size W W') (h : (∀ i, W.cell? ⟨g1, i, none⟩ = x1[i]?) ∧ (∀ i, W.cell? ⟨g2, i, none⟩ = x2[i]?) ∧ (∀ i, W.cell? ⟨g3, i, none⟩ = x3[i]?) ∧ (∀ i, W.cell? ⟨g4, i, none⟩ = x4[i]?) ∧ (∀ i, W.cell? ⟨g5, i, none⟩ = x5[i]?) ∧ (g1 < W0.heap.size ∧ g2 < W0.heap.size ∧ g3 < W0.heap.size ∧ g4 < W0.heap.size ∧ g5 < W0.heap.size) ∧ Below W0.heap.size W0 W) :
    (∀ i, W'.cell? ⟨g1, i, none⟩ = x1[i]?) ∧ (∀ i, W'.cell? ⟨g2, i, none⟩ = x2[i]?) ∧ (∀ i, W'.cell? ⟨g3, i, none⟩ = x3[i]?) ∧ (∀ i, W'.cell? ⟨g4, i, none⟩ = x4[i]?) ∧ (∀ i, W'.cell? ⟨g5, i, none⟩ = x5[i]?) ∧ (g1 < W0.heap.size ∧ g2 < W0.heap.size ∧ g3 < W0.heap.size ∧ g4 < W0.heap.size ∧ g5 < W0.heap.size) ∧ Below W0.heap.size W0 W' := by
  obtain ⟨h1, h2, h3, h4, h5, h6, h7⟩ := h
  obtain ⟨l1, l2, l3, l4, l5⟩ := h6
  have hs := h7.size
  exact ⟨fun i => (hb.cell (p := ⟨g1, i, none⟩) (by show g1 < _; omega)).trans (h1 i), fun i => (hb.cell (p := ⟨g2, i, none⟩) (by show g2 < _; omega)).trans (h2 i), fun i => (hb.cell (p := ⟨g3, i, none⟩) (by show g3 < _; omega)).trans (h3 i), fun i => (hb.cell (p := ⟨g4, i, none⟩) (by show g4 < _; omega)).trans (h4 i), fun i => (hb.cell (p := ⟨g5, i, none⟩) (by show g5 < _; omega)).trans (h5 i), ⟨l1, l2, l3, l4, l5⟩, bel_step h7 hb⟩
end Go.Proofs.Ytgbncfjabnaokab
