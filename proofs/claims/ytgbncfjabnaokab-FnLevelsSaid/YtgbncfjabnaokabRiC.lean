/- Contracts of RiverOk and RiverTotal (program and reference). -/
import Derived.Test.YtgbncfjabnaokabRiP
namespace Go.Proofs.Ytgbncfjabnaokab
open Go.RowKit

theorem rs_get {w W : World} {H : Nat} {A : Option Addr} {ds : List Rc} {m k : Nat} (hR : RsAt w H A ds) (hH : H ≤ w.heap.size) (hL : RsLen ds m) (hW : Below w.heap.size w W) (hk : k < ds.length) :
    ∃ (b off : Nat) (tA : Option Addr) (tc : Nat) (ps : List (Int × Int)) (vol : Int) (pA : Option Addr) (pc : Nat) (zs : List Int), A = some ⟨b, off, none⟩ ∧ b < W.heap.size ∧ rcAt ds k = ⟨ps, vol, zs⟩ ∧ ps.length ≤ m ∧ zs.length ≤ m ∧ PtsAt W W.heap.size tA ps ∧ NumsAt W W.heap.size pA zs ∧
      W.cell? ⟨b, off + k * 3, none⟩ = some (.slice tA ps.length tc) ∧ W.cell? ⟨b, off + k * 3 + 1, none⟩ = some (.int .i64 vol) ∧ W.cell? ⟨b, off + k * 3 + 2, none⟩ = some (.slice pA zs.length pc) := by
  obtain ⟨b, off, ad, e, hI⟩ := hR (by omega)
  have hI' := hI.below (hW.mono hH)
  obtain ⟨h1, h2, h3, h4, h5⟩ := hI'.2 k hk
  have hb := hI.1
  have hs := hW.size
  obtain ⟨l1, l2⟩ := hL k hk
  exact ⟨b, off, (ad k).tA, (ad k).tc, (rcAt ds k).ps, (rcAt ds k).vol, (ad k).pA, (ad k).pc, (rcAt ds k).zs, e, by omega, rfl, l1, l2, h4.mono (by omega), h5.mono (by omega), h1, h2, h3⟩

set_option maxHeartbeats 2000000 in
theorem i_RiverOk (A : Option Addr) (c : Nat) (ds : List Rc) (H : Nat) (w : World) (hR : RsAt w H A ds) (hH : H ≤ w.heap.size) (hL : RsLen ds 1048576) :
    Calls Try.prog 28 #[.slice A ds.length c] w fun e w' => e = .returned (.bool (riverOk ds)) ∧ Below w.heap.size w w' := by
  have HR := Lib.hid (fun (W : World) (hW : Below w.heap.size w W) (k : Nat) (hk : k < ds.length) => rs_get hR hH hL hW hk)
  have HL := Lib.hid (river_len (ds := ds))
  have HB := Lib.hid (fun (k : Nat) (hk : k < ds.length) (h : (rcAt ds k).ok = false) => river_bad hk h)
  have HS := Lib.hid (fun (k : Nat) (L : Int) (h : RSum ds k L) (hk : k < ds.length) (h' : (rcAt ds k).ok = true) => rsum_step h hk h')
  have HD := Lib.hid (fun (k : Nat) (L : Int) (h : RSum ds k L) (hk : k ≤ ds.length) => rsum_bd h hk)
  have HE := Lib.hid (fun (L : Int) (h : RSum ds ds.length L) (h1 : 1 ≤ ds.length) (h2 : ds.length ≤ 6) => rsum_end h h1 h2)
  clear hR hL
  generalize ds.length = n at *
  by_cases h1 : n < 1 ∨ 6 < n
  · have HV := Lib.hid (HL.out h1)
    have hc : (n : Int) < 1 ∨ (1 ≤ (n : Int) ∧ 6 < (n : Int)) := by omega
    clear HR HB HS HD HE HL h1
    rcases hc with h1 | ⟨h1, h2⟩
    all_goals
      go_enter Try.func28, Try.ntmps28
      go_wp2
      go_ret
      exact ⟨ret_bool HV.out.symm, Below.refl _ _⟩
  · have g1 : 1 ≤ n := by omega
    have g2 : n ≤ 6 := by omega
    have g3 : (1 : Int) ≤ (n : Int) := by omega
    have g4 : (n : Int) ≤ 6 := by omega
    clear HL h1
    go_enter Try.func28, Try.ntmps28
    go_wp2_with fail
    go_loopw [3, 16] (fun v3 v16 wr => ∃ (k : Nat) (L : Int), k ≤ n ∧ v3 = .int .i64 L ∧ v16 = .int .i64 k ∧ RSum ds k L ∧ Below w.heap.size w wr) (fun _ v16 _ => n - (intOf v16).toNat)
    case atStart => exact ⟨0, 0, by omega, rfl, rfl, ⟨by simp [sumR], fun j hj => by omega⟩, Below.refl _ _⟩
    case round =>
      obtain ⟨k, L, hk, rfl, rfl, hS, hW⟩ := hrel
      obtain ⟨l0, l1⟩ := HD.out k L hS hk
      by_cases hlt : k < n
      · have e3 : (k : Int) < (n : Int) := by omega
        obtain ⟨b, off, tA, tc, ps, vol, pA, pc, zs, rfl, hb, hrc, lp, lz, hP, hQ, c0, c1, c2⟩ := HR.out _ hW k hlt
        have hB := Blk.new wr 29 #[.slice tA ps.length tc, .int .i64 vol, .slice pA zs.length pc]
        have hba : Below wr.heap.size wr (wr.alloc (.cells #[.slice tA ps.length tc, .int .i64 vol, .slice pA zs.length pc] 29)) := (Below.refl _ _).alloc (Nat.le_refl _) _
        have cA := hB.cell
        have HC := Lib.hid (fun (W : World) (hb : Below wr.heap.size wr W) => i_ReachOk tA tc ps vol pA pc zs wr.heap.size W (hP.below hb) (hQ.below hb) hb.size lp lz)
        have HT := Lib.hid (fun (W : World) (hb : Below wr.heap.size wr W) => i_TotalOf tA tc ps vol pA pc zs wr.heap.size W (hP.below hb) (hQ.below hb) hb.size lp lz)
        have HRC := Lib.hid hrc
        have HSS := Lib.hid hS
        clear hP hQ hrc hS
        go_wp2_with fail
        refine (HC.out _ hba).mono ?_; rintro e w1 ⟨rfl, hb1⟩
        have hB1 := hB.bl hb1
        have hb1' := bl_step hba hb1
        have cB := hB1.cell
        clear cA hb1 hba
        rcases bcases (reachOk ps vol zs) with ho | ho
        · have HOK := Lib.hid (show (rcAt ds k).ok = true by rw [HRC.out]; exact ho)
          have HTV := Lib.hid (total_yes ho)
          have hbd := ok_sum HOK.out
          rw [HRC.out] at hbd
          have hbd' : 0 ≤ vol + sumI zs ∧ vol + sumI zs ≤ 1000000000 := hbd
          clear hbd
          go_wp2_with fail
          refine (HT.out _ hb1').mono ?_; rintro e w2 ⟨rfl, hb2⟩
          have hb2' := bl_step hb1' hb2
          have HN := Lib.hid (HS.out k L HSS.out hlt HOK.out)
          rw [HTV.out]
          clear cB hb2
          have HNV := Lib.hid (show L + (rcAt ds k).sum = L + (vol + sumI zs) by rw [HRC.out]; rfl)
          generalize vol + sumI zs = t at *
          go_wp2
          go_roundw
          case rel => exact ⟨k + 1, L + t, by omega, rfl, by go_num, by rw [← HNV.out]; exact HN.out, bl_step hW hb2'⟩
          case measure => simp [intOf]; omega
        · have HV := Lib.hid (HB.out k hlt (show (rcAt ds k).ok = false by rw [HRC.out]; exact ho))
          go_wp2
          go_ret
          exact ⟨ret_bool HV.out.symm, bl_step hW hb1'⟩
      · obtain rfl : k = n := by omega
        have HV := Lib.hid (HE.out L hS g1 g2)
        clear hS
        go_wp2
        go_ret
        exact ⟨ret_bool HV.out.symm, hW⟩

theorem rtotal_yes {ds : List Rc} (h : riverOk ds = true) : riverTotal ds = sumR ds := by unfold riverTotal; rw [if_pos h]
theorem rtotal_no {ds : List Rc} (h : riverOk ds = false) : riverTotal ds = 0 := by unfold riverTotal; rw [h]; rfl
set_option maxHeartbeats 2000000 in
theorem i_RiverTotal (A : Option Addr) (c : Nat) (ds : List Rc) (H : Nat) (w : World) (hR : RsAt w H A ds) (hH : H ≤ w.heap.size) (hL : RsLen ds 1048576) :
    Calls Try.prog 27 #[.slice A ds.length c] w fun e w' => e = .returned (.int .i64 (riverTotal ds)) ∧ Below w.heap.size w w' := by
  have HR := Lib.hid (fun (W : World) (hW : Below w.heap.size w W) (k : Nat) (hk : k < ds.length) => rs_get hR hH hL hW hk)
  have HO := Lib.hid (i_RiverOk A c ds H w hR hH hL)
  have HS := Lib.hid (fun (k : Nat) (L : Int) (h : RSum ds k L) (hk : k < ds.length) (h' : (rcAt ds k).ok = true) => rsum_step h hk h')
  have HD := Lib.hid (fun (k : Nat) (L : Int) (h : RSum ds k L) (hk : k ≤ ds.length) => rsum_bd h hk)
  have HE := Lib.hid (fun (L : Int) (h : RSum ds ds.length L) => rsum_all h)
  have HY := Lib.hid (rtotal_yes (ds := ds))
  have HNo := Lib.hid (rtotal_no (ds := ds))
  have HT := Lib.hid (river_true (ds := ds))
  clear hR hL
  generalize ds.length = n at *
  rcases bcases (riverOk ds) with ho | ho
  · obtain ⟨g1, g2, g3, _⟩ := HT.out ho
    have HA := Lib.hid g3
    have HV := Lib.hid (HY.out ho)
    clear g3
    go_enter Try.func27, Try.ntmps27
    go_wp2_with fail
    refine HO.out.mono ?_; rintro e w0 ⟨rfl, hb0⟩
    go_wp2_with fail
    go_loopw [3, 11] (fun v3 v16 wr => ∃ (k : Nat) (L : Int), k ≤ n ∧ v3 = .int .i64 L ∧ v16 = .int .i64 k ∧ RSum ds k L ∧ Below w.heap.size w wr) (fun _ v16 _ => n - (intOf v16).toNat)
    case atStart => exact ⟨0, 0, by omega, rfl, rfl, ⟨by simp [sumR], fun j hj => by omega⟩, hb0⟩
    case round =>
      obtain ⟨k, L, hk, rfl, rfl, hS, hW⟩ := hrel
      obtain ⟨l0, l1⟩ := HD.out k L hS hk
      clear hb0
      by_cases hlt : k < n
      · have e3 : (k : Int) < (n : Int) := by omega
        obtain ⟨b, off, tA, tc, ps, vol, pA, pc, zs, rfl, hb, hrc, lp, lz, hP, hQ, c0, c1, c2⟩ := HR.out _ hW k hlt
        have hB := Blk.new wr 29 #[.slice tA ps.length tc, .int .i64 vol, .slice pA zs.length pc]
        have hba : Below wr.heap.size wr (wr.alloc (.cells #[.slice tA ps.length tc, .int .i64 vol, .slice pA zs.length pc] 29)) := (Below.refl _ _).alloc (Nat.le_refl _) _
        have cA := hB.cell
        have HC := Lib.hid (fun (W : World) (hb : Below wr.heap.size wr W) => i_TotalOf tA tc ps vol pA pc zs wr.heap.size W (hP.below hb) (hQ.below hb) hb.size lp lz)
        have HOK := HA.out k hlt
        have HN := Lib.hid (HS.out k L hS hlt HOK)
        have hbd := ok_sum HOK
        rw [hrc] at hbd HOK
        have hbd' : 0 ≤ vol + sumI zs ∧ vol + sumI zs ≤ 1000000000 := hbd
        have HTV := Lib.hid (total_yes (ps := ps) (vol := vol) (zs := zs) HOK)
        have HNV := Lib.hid (show L + (rcAt ds k).sum = L + (vol + sumI zs) by rw [hrc]; rfl)
        clear hP hQ hrc hS hbd HOK
        go_wp2_with fail
        refine (HC.out _ hba).mono ?_; rintro e w1 ⟨rfl, hb1⟩
        have hb1' := bl_step hba hb1
        rw [HTV.out]
        clear cA hb1 hba
        generalize vol + sumI zs = t at *
        go_wp2
        go_roundw
        case rel => exact ⟨k + 1, L + t, by omega, rfl, by go_num, by rw [← HNV.out]; exact HN.out, bl_step hW hb1'⟩
        case measure => simp [intOf]; omega
      · obtain rfl : k = n := by omega
        have HX := Lib.hid (HE.out L hS)
        clear hS
        go_wp2
        go_ret
        exact ⟨ret_int (HX.out.trans HV.out.symm), hW⟩
  · have HV := Lib.hid (HNo.out ho)
    go_enter Try.func27, Try.ntmps27
    go_wp2_with fail
    refine HO.out.mono ?_; rintro e w0 ⟨rfl, hb0⟩
    go_wp2
    go_ret
    exact ⟨ret_int HV.out.symm, hb0⟩

end Go.Proofs.Ytgbncfjabnaokab
