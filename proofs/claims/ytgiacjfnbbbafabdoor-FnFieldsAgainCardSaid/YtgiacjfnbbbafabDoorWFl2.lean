/- The walk of the law FnFieldsAgain. -/
import Derived.Test.YtgiacjfnbbbafabDoorWFld
namespace Go.Proofs.YtgiacjfnbbbafabDoor
open Go.RowKit

theorem itoa_m3 : (⟨(Lib.itoa (-3)).toArray⟩ : ByteArray) = ⟨#[45, 51]⟩ := by
  have : Lib.itoa (-3) = [45, 51] := by
    unfold Lib.itoa
    rw [if_pos (by omega)]
    congr 1
    exact Lib.decDigits_one (by decide)
  rw [this]
theorem field_le {l : List UInt8} {f : List UInt8} (h : f ∈ splitF l) : f.length ≤ 600 := by
  rcases bcases (splitB l) with hb | hb
  · have hl := (split_true hb).1
    rw [splitF_true hb] at h
    have key : ∀ (l cur : List UInt8), ∀ f ∈ splitL l cur, f.length ≤ l.length + cur.length := by
      intro l
      induction l with
      | nil => intro cur f hf; unfold splitL at hf; split at hf; simp at hf; simp at hf; subst hf; simp
      | cons c r ih =>
        intro cur f hf
        unfold splitL at hf
        split at hf
        · split at hf
          · have := ih [] f hf; simp at this ⊢; omega
          · rcases List.mem_cons.1 hf with hf | hf
            · subst hf; simp
            · have := ih [] f hf; simp at this ⊢; omega
        · have := ih (cur ++ [c]) f hf; simp at this ⊢; omega
    have := key l [] f h
    simp at this; omega
  · unfold splitF at h; rw [hb] at h; simp at h
/-- The fields up to i, joined. -/
def JoinTo (fs : List (List UInt8)) (i : Nat) (s : ByteArray) : Prop := s = ⟨(joinL (fs.take i)).toArray⟩
theorem join_step {fs : List (List UInt8)} {i : Nat} {s : ByteArray} (h : JoinTo fs i s) (hi : i < fs.length) : JoinTo fs (i + 1) (s ++ strOf (fs.getD i []) ++ ⟨#[32]⟩) := by
  unfold JoinTo at *
  subst h
  rw [List.take_succ_eq_append_getElem hi, joinL_snoc]
  have e : fs.getD i [] = fs[i] := by simp [hi]
  rw [e]
  unfold strOf
  rw [ByteArray.mk_append_mk (joinL (fs.take i)) fs[i], ByteArray.mk_append_mk (joinL (fs.take i) ++ fs[i]) [32]]
  simp
theorem join_size {fs : List (List UInt8)} {i : Nat} {s : ByteArray} (h : JoinTo fs i s) (hf : ∀ f ∈ fs, f.length ≤ 600) : i ≤ fs.length → s.size ≤ 601 * i := by
  intro hi
  unfold JoinTo at h
  subst h
  have : ∀ k, k ≤ fs.length → (joinL (fs.take k)).length ≤ 601 * k := by
    intro k
    induction k with
    | zero => intro _; simp [joinL]
    | succ k ih =>
      intro hk
      have := ih (by omega)
      rw [List.take_succ_eq_append_getElem (by omega), joinL_snoc]
      have := hf _ (List.getElem_mem (show k < fs.length by omega))
      simp; omega
  simpa [ByteArray.size] using this i hi
theorem join_end {fs : List (List UInt8)} {s : ByteArray} (h : JoinTo fs fs.length s) : s.data.toList = joinL fs := by
  unfold JoinTo at h; subst h; simp
set_option maxHeartbeats 4000000 in
theorem walk_FnFieldsAgain (A : Option Addr) (n c : Nat) (zs : List Int) (w : World) (hB : BytesAt w w.heap.size A n zs) (hT : Tab10 w) :
    Calls Tryd.prog 4 #[.slice A n c] w fun e w' => e = .returned (.bool true) ∧ Below w.heap.size w w' := by
  by_cases hbig : 1048576 < n
  · have hb : decide (1048576 < n) = true := by simpa using hbig
    clear hB hT
    go_enter Tryd.func4, Tryd.ntmps4
    go_wp2_with (go_at_call 5; refine (l_big _ _ _ _).mono ?_; rintro e w' ⟨rfl, rfl⟩)
    go_ret
    exact ⟨rfl, Below.refl _ _⟩
  · have hb : decide (1048576 < n) = false := by simpa using hbig
    have HF := Lib.hid (fun (W : World) (hb : Below w.heap.size w W) => i_FormatInt (-3) W (by omega) (by omega) (hT.below hb))
    rw [itoa_m3] at HF
    clear hT
    go_enter Tryd.func4, Tryd.ntmps4
    go_wp2_with fail
    refine (l_big _ _ _ _).mono ?_; rintro e w' ⟨rfl, rfl⟩
    go_wp2_with fail
    refine (s_DrawSplitFields A n c zs _ hB (by omega)).mono ?_; rintro e w1 ⟨s, hs, rfl, hW⟩
    clear hB hb
    have HI := Lib.hid (i_SplitFields s w1 (by omega))
    have HS := Lib.hid (fun W => s_SplitFields s W (by omega))
    have hfl := splitF_len s.data.toList
    have HLE := Lib.hid (fun f hf => field_le (l := s.data.toList) (f := f) hf)
    have HAG := Lib.hid (fun h hs => split_again (l := s.data.toList) h hs)
    have HNO := Lib.hid (show splitB s.data.toList = false → splitF s.data.toList = [] from fun h => by unfold splitF; rw [h]; rfl)
    generalize splitF s.data.toList = fs at *
    generalize splitB s.data.toList = b at *
    go_wp2_with fail
    refine HI.out.mono ?_; rintro e w2 ⟨A2, c2, rfl, hO2, hb2⟩
    have hV2 := vals_own hO2
    have hW2 : Below w.heap.size w w2 := hW.trans (hb2.mono hW.size)
    clear hO2 hb2 hW
    go_wp2_with fail
    refine (HS.out _).mono ?_; rintro e w3 ⟨A3, c3, rfl, _, hb3⟩
    have hV3 : ValsAt w3 w3.heap.size A2 (cellsS fs) := fun hn => by
      obtain ⟨b', off, e, hl, hc⟩ := (hV2.below hb3) hn
      exact ⟨b', off, e, Nat.lt_of_lt_of_le hl hb3.size, hc⟩
    have hW3 : Below w.heap.size w w3 := hW2.trans (hb3.mono hW2.size)
    clear hV2 hW2 hb3
    cases b
    · obtain rfl := HNO.out rfl
      clear HAG HLE HNO hV3
      go_wp2_with fail
      refine (HF.out _ hW3).mono ?_; rintro e w4 ⟨rfl, hb4⟩
      go_wp2
      go_ret
      exact ⟨rfl, hW3.trans (hb4.mono hW3.size)⟩
    · clear HNO HF
      have HC := Lib.hid (fun (i : Nat) (hi : i < fs.length) => (show ∃ b off x, A2 = some ⟨b, off, none⟩ ∧ w3.cell? ⟨b, off + i, none⟩ = some (.string x) ∧ x.size ≤ 600 ∧ Hid (x = strOf (fs.getD i [])) by
        obtain ⟨b', off, e, hl, hc⟩ := hV3 (by rw [cellsS_len]; omega)
        refine ⟨b', off, _, e, hc i _ (cellsS_at fs i hi), ?_, rfl⟩
        have := HLE.out _ (List.getElem_mem hi)
        have e : fs.getD i [] = fs[i] := by simp [hi]
        rw [e]; simpa [strOf, ByteArray.size] using this))
      have HJ0 := Lib.hid (show JoinTo fs 0 ⟨#[]⟩ by simp [JoinTo, joinL])
      have HJS := Lib.hid (fun (i : Nat) (s : ByteArray) (h : JoinTo fs i s) (hi : i < fs.length) => join_step h hi)
      have HJZ := Lib.hid (fun (i : Nat) (s : ByteArray) (h : JoinTo fs i s) (hi : i ≤ fs.length) => join_size h HLE.out hi)
      have HJE := Lib.hid (fun (s : ByteArray) (h : JoinTo fs fs.length s) => join_end h)
      have HSM := Lib.hid (fun (B : Option Addr) (d : Nat) (W : World) (h1 : ValsAt W W.heap.size A2 (cellsS fs)) (h2 : ValsAt W W.heap.size B (cellsS fs)) => l_sameTexts A2 B c2 d fs W h1 h2 (by omega))
      have HV3 := Lib.hid hV3
      clear hV3
      generalize hlen : fs.length = m at *
      go_wp2_with fail
      go_loop [8, 9] (fun v8 v9 => ∃ (i : Nat) (t : ByteArray), v9 = .int .i64 i ∧ i ≤ m ∧ v8 = .string t ∧ JoinTo fs i t) (fun _ v9 => m - (intOf v9).toNat)
      case atStart => exact ⟨0, ⟨#[]⟩, rfl, by omega, rfl, HJ0.out⟩
      case round =>
        obtain ⟨i, t, rfl, hi, rfl, hJ⟩ := hrel
        have hz := HJZ.out i t hJ hi
        by_cases hlt : i < m
        · obtain ⟨b', off, x, rfl, c1, hf, HX⟩ := HC.out i hlt
          have e3 : (i : Int) < (m : Int) := by omega
          have HJ := Lib.hid (show JoinTo fs (i + 1) (t ++ x ++ ⟨#[32]⟩) by rw [HX.out]; exact HJS.out i t hJ hlt)
          have had := ba_sum Tryd.prog t x (by omega)
          have hsz := ba_size t x
          have had2 := ba_sum Tryd.prog (t ++ x) ⟨#[32]⟩ (by have h1 : (⟨#[32]⟩ : ByteArray).size = 1 := rfl; omega)
          clear hJ hsz
          go_wp2
          go_round
          case rel => exact ⟨i + 1, _, by go_num, by omega, rfl, HJ.out⟩
          case measure => simp [intOf]; omega
        · obtain rfl : i = m := by omega
          have hte := HJE.out t hJ
          have HI2 := Lib.hid (i_SplitFields t w3 (by omega))
          have htl : t.size = (joinL fs).length := by rw [← hte]; exact (Array.length_toList).symm
          have HAG2 := Lib.hid (fun (h : t.size ≤ 600) => HAG.out (by trivial) (by omega))
          rw [hte] at HI2
          clear hJ hte htl
          by_cases h6 : 600 < t.size
          · have e6 : (600 : Int) < (t.size : Int) := by omega
            go_wp2_with fail
            refine HI2.out.mono ?_; rintro e w4 ⟨A4, c4, rfl, _, hb4⟩
            go_wp2
            go_ret
            exact ⟨rfl, hW3.trans (hb4.mono hW3.size)⟩
          · have e6 : (t.size : Int) ≤ 600 := by omega
            obtain ⟨a1, a2⟩ := HAG2.out (by omega)
            rw [a1, a2] at HI2
            clear a1 a2
            go_wp2_with fail
            refine HI2.out.mono ?_; rintro e w4 ⟨A4, c4, rfl, hO4, hb4⟩
            have hV4 := vals_own hO4
            have hV5 : ValsAt w4 w4.heap.size A2 (cellsS fs) := fun hn => by
              obtain ⟨b', off, e, hl, hc⟩ := (HV3.out.below hb4) hn
              exact ⟨b', off, e, Nat.lt_of_lt_of_le hl hb4.size, hc⟩
            have HSM2 := Lib.hid (HSM.out A4 c4 w4 hV5 hV4)
            rw [hlen]
            clear hO4 hV4 hV5
            go_wp2_with fail
            refine HSM2.out.mono ?_; rintro e w5 ⟨rfl, hb5⟩
            have hW4 : Below w.heap.size w w4 := hW3.trans (hb4.mono hW3.size)
            go_wp2
            go_ret
            exact ⟨rfl, hW4.trans (hb5.mono hW4.size)⟩
end Go.Proofs.YtgiacjfnbbbafabDoor
