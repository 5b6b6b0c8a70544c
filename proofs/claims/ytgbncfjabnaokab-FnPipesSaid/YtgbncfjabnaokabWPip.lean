/- The walk of the law FnPipes. -/
import Derived.Test.YtgbncfjabnaokabDrP
import Derived.Test.YtgbncfjabnaokabPassB
namespace Go.Proofs.Ytgbncfjabnaokab
open Go.RowKit

theorem sumR_first {ds : List Rc} (h : 0 < ds.length) (ho : OkTo ds ds.length) : (rcAt ds 0).sum ≤ sumR ds := by
  cases ds with
  | nil => simp at h
  | cons r t =>
    have hr : ∀ (l : List Rc), OkTo l l.length → 0 ≤ sumR l := fun l hl => by
      have := okTo_sum (Nat.le_refl _) hl
      rw [List.take_length] at this; exact this.1
    have ht : OkTo t t.length := fun j hj => by
      have := ho (j + 1) (by simp; omega)
      simpa [rcAt] using this
    have := hr t ht
    have e : rcAt (r :: t) 0 = r := by simp [rcAt]
    rw [e]; simp only [sumR]; omega
theorem river_drawn {ds : List Rc} (h2 : 2 ≤ ds.length) (h4 : ds.length ≤ 4) (hv : RvD ds) : riverOk ds = true ∧ (rcAt ds 0).sum ≤ riverTotal ds := by
  have ho : OkTo ds ds.length := fun j hj => (hv j hj).1
  have hb : ∀ k, k ≤ ds.length → sumR (ds.take k) ≤ k * 7000 := by
    intro k
    induction k with
    | zero => intro _; simp [sumR]
    | succ k ih =>
      intro hk
      have h1 := ih (by omega)
      have h3 := (hv k (by omega)).2.2.1
      rw [sumR_take (by omega)]
      unfold Rc.sum
      omega
  have hs := hb ds.length (Nat.le_refl _)
  rw [List.take_length] at hs
  have hr : riverOk ds = true := by rw [river_end (by omega) (by omega) ho]; simp; omega
  refine ⟨hr, ?_⟩
  unfold riverTotal
  rw [if_pos hr]
  exact sumR_first (by omega) ho
theorem rep_sum (n : Nat) : sumI (List.replicate n 0) = 0 := by
  induction n with
  | zero => rfl
  | succ n ih => simp [List.replicate_succ, sumI, ih]
theorem rep_at {n j : Nat} : (List.replicate n (0 : Int)).getD j 0 = 0 := by
  rcases Nat.lt_or_ge j n with h | h
  · simp [h]
  · rw [List.getD_eq_getElem?_getD, List.getElem?_eq_none (by simpa using h)]; rfl
/-- The reach after k flows. -/
structure PipD (ps : List (Int × Int)) (zs' : List Int) (T : Int) (k : Nat) (vol : Int) (zk : List Int) : Prop where
  is : zk = zs'.drop k ++ List.replicate k 0
  ok : reachOk ps vol zk = true
  sum : vol + sumI zk = T
theorem pip_step {ps : List (Int × Int)} {zs' : List Int} {T : Int} {k : Nat} {vol : Int} {zk : List Int} (h : PipD ps zs' T k vol zk) (hk : k < zs'.length) : PipD ps zs' T (k + 1) (flowVol ps vol zk) (flowZ ps vol zk) := by
  obtain ⟨e, ho, hs⟩ := h
  obtain ⟨f1, f2⟩ := flow_ok ho
  refine ⟨?_, f1, by omega⟩
  subst e
  exact flow_round hk ho
theorem pip_end {ps : List (Int × Int)} {zs' : List Int} {T : Int} {vol : Int} {zk : List Int} (h : PipD ps zs' T zs'.length vol zk) : vol = T ∧ ∀ j, zk.getD j 0 = 0 := by
  obtain ⟨e, ho, hs⟩ := h
  rw [List.drop_length, List.nil_append] at e
  subst e
  rw [rep_sum] at hs
  exact ⟨by omega, fun j => rep_at⟩

set_option maxRecDepth 100000 in
set_option maxHeartbeats 8000000 in
theorem walk_FnPipes (A : Option Addr) (n c : Nat) (zs : List Int) (w : World) (hB : BytesAt w w.heap.size A n zs) :
    Calls Try.prog 7 #[.slice A n c] w fun e w' => e = .returned (.bool true) ∧ Below w.heap.size w w' := by
  by_cases hbig : 1048576 < n
  · have hb : decide (1048576 < n) = true := by simpa using hbig
    clear hB
    go_enter Try.func7, Try.ntmps7
    go_wp2_with (go_at_call 20; refine (l_big _ _ _ _).mono ?_; rintro e w' ⟨rfl, rfl⟩)
    go_ret
    exact ⟨rfl, Below.refl _ _⟩
  · have hb : decide (1048576 < n) = false := by simpa using hbig
    go_enter Try.func7, Try.ntmps7
    go_wp2_with fail
    refine (l_big _ _ _ _).mono ?_; rintro e w' ⟨rfl, rfl⟩
    go_wp2_with fail
    refine (s_DrawReaches A n c zs _ hB (by omega)).mono ?_; rintro e w1 ⟨lA, lc, ds, rfl, l2, l4, hv, hR, hW0⟩
    clear hB hb
    obtain ⟨bb, off, tA, tc, pa, va, pA, pc, za, sa, rfl, hbl, hrc, D, hc⟩ := one_drawn hv hR (show 0 < ds.length by omega)
    obtain ⟨hro, hrt⟩ := river_drawn l2 l4 hv
    rw [hrc] at hrt
    have hsa : va + sumI za = sa := D.sum
    have hrt' : sa ≤ riverTotal ds := by have : va + sumI za ≤ riverTotal ds := hrt; omega
    have hlen : RsLen ds 1048576 := fun j hj => by
      have h1 := (hv j hj).2.1.2.1; have h2 := (hv j hj).2.2.2; omega
    have HRT := Lib.hid (fun (W : World) (hb : Below w1.heap.size w1 W) => i_RiverTotal (some ⟨bb, off, none⟩) lc ds w1.heap.size W (hR.below hb) hb.size hlen)
    have HRO0 := Lib.hid (fun (W : World) (hb : Below w1.heap.size w1 W) => i_RiverOk (some ⟨bb, off, none⟩) lc ds w1.heap.size W (hR.below hb) hb.size hlen)
    have HRO := Lib.hid (fun (W : World) (hb : Below w1.heap.size w1 W) => show Calls Try.prog 28 #[.slice (some ⟨bb, off, none⟩) ds.length lc] W fun e w' => e = .returned (.bool true) ∧ Below W.heap.size W w' by have := HRO0.out W hb; rw [hro] at this; exact this)
    have HTa := Lib.hid (fun (W : World) (hb : Below w1.heap.size w1 W) => D.total tc pc (W := W) hb)
    have hs7 := D.s7
    have hvs := D.vols
    have hv0 := D.vol0
    obtain ⟨s1, s2⟩ := send_ok (a := 700) D.ok (by omega) (by omega)
    have HSe := Lib.hid (fun (W : World) (hb : Below w1.heap.size w1 W) => i_SendTo tA tc pa va pA pc za 700 W.heap.size W (D.pts W hb) (D.nums W hb) (Nat.le_refl _) D.pl D.zl)
    have hzl := sendZ_len pa va za 700
    have hz3 := D.z3
    have hpl := D.pl
    have HP0 := Lib.hid (show PipD pa (sendZ pa va za 700) (sa + 700) 0 (sendVol pa va za 700) (sendZ pa va za 700) from ⟨by simp, s1, by omega⟩)
    have g0 : (0 : Int) < (ds.length : Int) := by omega
    rw [Nat.zero_mul, Nat.add_zero] at hc
    obtain ⟨c0, c1, c2, hl⟩ := hc w1 (Below.refl _ _)
    generalize riverTotal ds = RT at *
    clear hv hR D hc hro HRO0 hrt hsa hlen s1 s2 hrc
    generalize ds.length = len at *
    generalize hzn : sendZ pa va za 700 = zn at *
    generalize sendVol pa va za 700 = vn at *
    clear hzn
    have hW : Below w1.heap.size w1 w1 := Below.refl _ _
    obtain ⟨hX, hbb, _⟩ := boxN w1 29 #[.slice tA pa.length tc, .int .i64 va, .slice pA za.length pc]
    replace hW := bel_step hW hbb
    clear hbb
    have cX := hX.cell
    go_wp2_with fail
    refine (HTa.out _ hW).mono ?_; rintro e w2 ⟨rfl, hb2⟩
    replace hX := hX.bel hb2
    replace hW := bel_step hW hb2
    clear hb2 cX c0 c1 c2
    have cX := hX.cell
    go_wp2_with fail
    refine (HSe.out _ hW).mono ?_; rintro e w3 ⟨t3, c3, p3, q3, rfl, hR3, hS3, hb3⟩
    have hws := hW.size
    replace hX := hX.bel hb3
    replace hW := bel_step hW hb3
    have hO3 := RO.mk_ (lo := w1.heap.size) hR3 hS3 hws
    clear hb3 cX hR3 hS3
    have cX := hX.cell
    have fX := hX.frozen
    have hX4 := hX.three (a := .slice t3 pa.length c3) (b := .int .i64 vn) (c := .slice p3 za.length q3)
    have hO4 := hO3.box3 (a := .slice t3 pa.length c3) (b := .int .i64 vn) (c := .slice p3 za.length q3) hX
    have hW4 := bel_three' (a := .slice t3 pa.length c3) (b := .int .i64 vn) (c := .slice p3 za.length q3) hW (Nat.le_refl _)
    clear hX hO3 hW
    go_wp2_with fail
    go_loopw [7] (fun v7 wr => ∃ (k : Nat) (vol : Int) (zk : List Int) (tx : Option Addr) (cx : Nat) (px : Option Addr) (dx lo hi : Nat), v7 = .int .i64 k ∧ k ≤ za.length ∧ Hid (PipD pa zn (sa + 700) k vol zk) ∧ zk.length = za.length ∧ Blk wr w1.heap.size 29 #[.slice tx pa.length cx, .int .i64 vol, .slice px za.length dx] ∧ RO wr lo hi pa zk tx cx px dx ∧ Below w1.heap.size w1 wr) (fun v7 _ => za.length - (intOf v7).toNat)
    case atStart => exact ⟨0, vn, zn, t3, c3, p3, q3, _, _, rfl, by omega, HP0.out, hzl, hX4, hO4, hW4⟩
    case round =>
      obtain ⟨k, vol, zk, tx, cx, px, dx, lo, hi, rfl, hk, HP, hkl, hX, hO, hW⟩ := hrel
      clear hX4 hO4 hW4 cX fX HP0
      have cX := hX.cell
      have fX := hX.frozen
      by_cases hlt : k < za.length
      · have e3 : (k : Int) < (za.length : Int) := by omega
        have HP1 := Lib.hid (pip_step HP.out (by omega))
        have hfl := flowZ_len pa vol zk
        have HF := Lib.hid (i_FlowIn tx cx pa vol px dx zk wr.heap.size wr hO.pts hO.nums (Nat.le_refl _) hpl (by omega))
        rw [hkl] at HF
        generalize flowVol pa vol zk = vf at *
        generalize hzf : flowZ pa vol zk = zf at *
        clear hzf
        go_wp2_with fail
        refine HF.out.mono ?_; rintro e w5 ⟨t5, c5, p5, q5, rfl, hR5, hS5, hb5⟩
        replace hX := hX.bel hb5
        have hW5 := bel_step hW hb5
        have hO5 := RO.mk_ (lo := w1.heap.size) hR5 hS5 hW.size
        clear hb5 hR5 hS5 cX fX hO HP HF hW
        have cX := hX.cell
        have fX := hX.frozen
        have hX6 := hX.three (a := .slice t5 pa.length c5) (b := .int .i64 vf) (c := .slice p5 za.length q5)
        have hO6 := hO5.box3 (a := .slice t5 pa.length c5) (b := .int .i64 vf) (c := .slice p5 za.length q5) hX
        have hW6 := bel_three' (a := .slice t5 pa.length c5) (b := .int .i64 vf) (c := .slice p5 za.length q5) hW5 (Nat.le_refl _)
        clear hX hO5 hW5
        have hfz : zf.length = za.length := by omega
        have HT6 := Lib.hid (ro_total hO6 HP1.out.ok HP1.out.sum hpl (by omega))
        rw [hfz] at HT6
        go_wp2_with fail
        refine HT6.out.mono ?_; rintro e w7 ⟨rfl, hb7⟩
        replace hX6 := hX6.bel hb7
        replace hO6 := hO6.bel hb7
        replace hW6 := bel_step hW6 hb7
        clear hb7 cX fX
        have cX := hX6.cell
        have ht : (sa + 700 != sa + 700) = false := by simp
        go_wp2_with fail
        have HK := Lib.hid (i_ReachOk t5 c5 pa vf p5 q5 zf w7.heap.size w7 hO6.pts hO6.nums (Nat.le_refl _) hpl (by omega))
        rw [HP1.out.ok, hfz] at HK
        refine HK.out.mono ?_; rintro e w8 ⟨rfl, hb8⟩
        replace hX6 := hX6.bel hb8
        replace hO6 := hO6.bel hb8
        replace hW6 := bel_step hW6 hb8
        clear hb8 cX
        go_wp2
        go_roundw
        case rel => exact ⟨k + 1, vf, zf, t5, c5, p5, q5, _, _, by go_num, by omega, HP1.out, by omega, hX6, hO6, hW6⟩
        case measure => simp [intOf]; omega
      · obtain rfl : k = za.length := by omega
        have HE := Lib.hid (pip_end (by rw [hzl]; exact HP.out : PipD pa zn (sa + 700) zn.length vol zk))
        obtain ⟨hve, hz0⟩ := HE.out
        have HZ := Lib.hid hz0
        clear hz0 HP HE
        subst hve
        go_wp2_with fail
        go_loopw [8, 9] (fun v8 v9 wr => ∃ j : Nat, v8 = .int .i64 0 ∧ v9 = .int .i64 j ∧ j ≤ za.length ∧ Blk wr w1.heap.size 29 #[.slice tx pa.length cx, .int .i64 (sa + 700), .slice px za.length dx] ∧ RO wr lo hi pa zk tx cx px dx ∧ Below w1.heap.size w1 wr) (fun _ v9 _ => za.length - (intOf v9).toNat)
        case atStart => exact ⟨0, rfl, rfl, by omega, hX, hO, hW⟩
        case round =>
          obtain ⟨j, rfl, rfl, hj, hX, hO, hW⟩ := hrel
          clear cX fX
          have cX := hX.cell
          by_cases hlt : j < za.length
          · have e3 : (j : Int) < (za.length : Int) := by omega
            obtain ⟨g, rfl, _, _, hcz, _⟩ := hO.at_ (by omega)
            have cz := hcz j (by omega)
            rw [HZ.out j] at cz
            clear hcz
            go_wp2
            go_roundw
            case rel => exact ⟨j + 1, rfl, by go_num, by omega, hX, hO, hW⟩
            case measure => simp [intOf]; omega
          · obtain rfl : j = za.length := by omega
            have ht : (sa + 700 == sa + 700) = true := by simp
            go_wp2_with fail
            refine (HRT.out _ hW).mono ?_; rintro e w9 ⟨rfl, hb9⟩
            replace hW := bel_step hW hb9
            go_wp2_with fail
            refine (HRO.out _ hW).mono ?_; rintro e w10 ⟨rfl, hb10⟩
            go_wp2
            go_ret
            exact ⟨rfl, hW0.trans ((bel_step hW hb10).mono hW0.size)⟩
end Go.Proofs.Ytgbncfjabnaokab
