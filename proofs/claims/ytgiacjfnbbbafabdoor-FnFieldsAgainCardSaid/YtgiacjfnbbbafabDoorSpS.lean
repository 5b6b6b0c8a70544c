/- Contract of the reference's SplitFields. -/
import Derived.Test.YtgiacjfnbbbafabDoorSpC
namespace Go.Proofs.YtgiacjfnbbbafabDoor
open Go.RowKit

theorem made_nil (w W : World) (h : Below w.heap.size w W) : SRow w (W.alloc (.cells #[] 9)) (some ⟨W.heap.size, 0, none⟩) 0 [] :=
  ⟨World.ownsRow_made (e := 9) (size := 1) (base := w.heap.size) W #[] 0 h.size (Nat.zero_le _) (by simp), h.alloc h.size _⟩
/-- The fields up to k, in the reference's loop: behind the last round all of them. -/
def SpAt (l : List UInt8) (n k b : Nat) (fs : List (List UInt8)) : Prop := (k ≤ n ∧ SpTo l k b fs) ∨ (k = n + 1 ∧ splitL l [] = fs ∧ l.all okByte = true)

set_option maxHeartbeats 4000000 in
theorem s_SplitFields (s : ByteArray) (w : World) (hs : s.size ≤ 9223372036854775807) :
    Calls Tryd.prog 12 #[.string s] w (SplitOut w (splitF s.data.toList) (splitB s.data.toList)) := by
  obtain ⟨i0, hi, hz0, hz1, hz2⟩ := info_parts info_str
  have HN := Lib.hid (fun (h : 600 < s.size ∨ (∃ (k : Nat) (h : k < s.data.toList.length), okByte s.data.toList[k] = false) ∨ 24 < (splitL s.data.toList []).length) => split_no (l := s.data.toList) (h.imp (fun a => by rw [bl_len]; exact a) id))
  have HY := Lib.hid (fun (h : s.size ≤ 600) => split_yes (l := s.data.toList) (by rw [bl_len]; exact h))
  have hM := made_nil w w (Below.refl _ _)
  by_cases hbig : 600 < s.size
  · obtain ⟨e1, e2⟩ := HN.out (.inl hbig)
    rw [e1, e2]
    have g1 : (600 : Int) < (s.size : Int) := by omega
    clear HN HY e1 e2
    go_enter Tryd.func12, Tryd.ntmps12
    go_wp2
    go_ret2
    exact ⟨_, 0, rfl, hM⟩
  · have g1 : (s.size : Int) ≤ 600 := by omega
    obtain ⟨hM1, hM2⟩ := hM
    go_enter Tryd.func12, Tryd.ntmps12
    go_wp2_with fail
    go_loopw [4, 5, 6] (fun v4 v5 v6 wr => ∃ (k b : Nat) (fs : List (List UInt8)), v6 = .int .i64 k ∧ k ≤ s.size + 1 ∧ fs.length ≤ k ∧ SpAt s.data.toList s.size k b fs ∧ v5 = .int .i64 b ∧ wr.ownsRow w.heap.size 9 1 v4 fs.length (cellsS fs) ∧ Below w.heap.size w wr) (fun _ _ v6 _ => s.size + 1 - (intOf v6).toNat)
    case atStart => exact ⟨0, 0, [], rfl, by omega, by simp, .inl ⟨Nat.zero_le _, spTo_start _⟩, rfl, hM1, hM2⟩
    case round =>
      obtain ⟨k, b, fs, rfl, hk, hfl, hSA, rfl, hO, hW⟩ := hrel
      clear hM1 hM2
      rcases hSA with ⟨hkn, hS⟩ | ⟨rfl, h1, h2⟩
      · have hbk' := hS.1
        have e2 : (k : Int) ≤ (s.size : Int) := by omega
        by_cases hlt : k < s.size
        · have e3 : (k : Int) < (s.size : Int) := by omega
          have hlt' : k < s.data.toList.length := by rw [bl_len]; exact hlt
          rcases bcases (okByte s[k]) with ho | ho
          · have ho' : okByte (s.data.toList[k]'hlt') = true := ho
            have hbd : 32 ≤ s[k].toNat ∧ s[k].toNat ≤ 126 := by simpa [okByte] using ho
            have c1 : (32 : Int) ≤ (s[k].toNat : Int) := by omega
            have c2 : (s[k].toNat : Int) ≤ 126 := by omega
            by_cases hc : s[k] = 32
            · have hc' : s.data.toList[k]'hlt' = 32 := hc
              have c3 : ((s[k].toNat : Int) == 32) = true := by rw [hc]; rfl
              have c4 : ((s[k].toNat : Int) != 32) = false := by rw [hc]; rfl
              clear hbd ho
              by_cases hbk : b < k
              · have HS := Lib.hid (spTo_field hS hbk hlt' hc')
                have HX := Lib.hid (extract_is s b k)
                have d1 : (0 : Int) ≤ (b : Int) := by omega
                have d2 : (b : Int) < (k : Int) := by omega
                have d4 : (b : Int) ≤ (k : Int) := by omega
                clear hS ho' hc hc'
                go_wp2_with (at_builtin; refine wpList_append_own _ rfl (.tmp 48) (.tmp 53) 28 rfl w.heap.size 9 i0 _ 1 16 Tryd.underlying28 hi hz0 hz1 hz2 rfl (by omega) u4 fs.length (cellsS fs) rfl (World.ownsRow.alloc hO _) _ 1 1 [.string (s.extract b k)] rfl rfl (str_new _ _) (by simp [Value.oneCell']) (by unfold maxLen; omega) (by omega) (by simp; have := hW.size; omega) ?_; intro v7 w7 hown7 hg7 hnil7)
                rw [HX.out] at hown7
                have hO7 := snoc_row hown7
                have hW7 := below_app hW hO hW.size hg7
                have HL := Lib.hid (show (fs ++ [(s.data.toList.drop b).take (k - b)]).length = fs.length + 1 by simp)
                clear hown7 hg7 hnil7 hO hW
                go_wp2
                go_roundw
                case rel => exact ⟨k + 1, k + 1, _, by go_num, by omega, by rw [HL.out]; omega, .inl ⟨by omega, HS.out⟩, by go_num, hO7, hW7⟩
                case measure => first | (simp [intOf]; done) | (simp [intOf]; omega)
              · obtain rfl : b = k := by omega
                have HS := Lib.hid (spTo_gap hS hlt' hc')
                clear hS ho' hc hc'
                go_wp2
                go_roundw
                case rel => exact ⟨b + 1, b + 1, fs, by go_num, by omega, by omega, .inl ⟨by omega, HS.out⟩, by go_num, hO, hW⟩
                case measure => first | (simp [intOf]; done) | (simp [intOf]; omega)
            · have hc' : s.data.toList[k]'hlt' ≠ 32 := hc
              have hn : ¬ (s[k].toNat : Int) = 32 := fun h => hc (UInt8.toNat_inj.1 (by simpa using (by omega : s[k].toNat = 32)))
              have c3 : ((s[k].toNat : Int) == 32) = false := by simp only [beq_eq_false_iff_ne, ne_eq]; exact hn
              have c4 : ((s[k].toNat : Int) != 32) = true := by simp only [bne_iff_ne, ne_eq]; exact hn
              have HS := Lib.hid (spTo_byte hS hlt' hc' ho')
              clear hbd ho hS hc hc' ho' hn
              go_wp2
              go_roundw
              case rel => exact ⟨k + 1, b, fs, by go_num, by omega, by omega, .inl ⟨by omega, HS.out⟩, rfl, hO, hW⟩
              case measure => first | (simp [intOf]; done) | (simp [intOf]; omega)
          · obtain ⟨e1, e2'⟩ := HN.out (.inr (.inl ⟨k, hlt', ho⟩))
            have E1 := Lib.hid e1
            have E2 := Lib.hid e2'
            have hc : (s[k].toNat : Int) < 32 ∨ (32 ≤ (s[k].toNat : Int) ∧ 126 < (s[k].toNat : Int)) := by
              simp only [okByte, Bool.and_eq_false_iff, decide_eq_false_iff_not] at ho; omega
            have HM := Lib.hid (made_nil w wr hW)
            clear hS ho e1 e2' hO
            rcases hc with hc | ⟨hc, hc'⟩
            all_goals
              go_wp2
              go_ret2
              show SplitOut w (splitF s.data.toList) (splitB s.data.toList) _ _
              rw [E1.out, E2.out]
              exact ⟨_, 0, rfl, HM.out⟩
        · obtain rfl : k = s.size := by omega
          obtain ⟨h1, h2⟩ := sp_end s hS
          have H2 := Lib.hid h2
          clear h2
          by_cases hbk : b < s.size
          · rw [if_pos hbk] at h1
            have H1 := Lib.hid h1
            have HX := Lib.hid (extract_end s b)
            have d1 : (0 : Int) ≤ (b : Int) := by omega
            have d2 : (b : Int) < (s.size : Int) := by omega
            have d4 : (b : Int) ≤ (s.size : Int) := by omega
            clear hS h1
            go_wp2_with (at_builtin; refine wpList_append_own _ rfl (.tmp 48) (.tmp 53) 28 rfl w.heap.size 9 i0 _ 1 16 Tryd.underlying28 hi hz0 hz1 hz2 rfl (by omega) u4 fs.length (cellsS fs) rfl (World.ownsRow.alloc hO _) _ 1 1 [.string (s.extract b s.size)] rfl rfl (str_new _ _) (by simp [Value.oneCell']) (by unfold maxLen; omega) (by omega) (by simp; have := hW.size; omega) ?_; intro v7 w7 hown7 hg7 hnil7)
            rw [HX.out] at hown7
            have hO7 := snoc_row hown7
            have hW7 := below_app hW hO hW.size hg7
            have HL := Lib.hid (show (fs ++ [s.data.toList.drop b]).length = fs.length + 1 by simp)
            clear hown7 hg7 hnil7 hO hW
            go_wp2
            go_roundw
            case rel => exact ⟨s.size + 1, s.size + 1, _, by go_num, by omega, by rw [HL.out]; omega, .inr ⟨rfl, H1.out, H2.out⟩, by go_num, hO7, hW7⟩
            case measure => first | (simp [intOf]; done) | (simp [intOf]; omega)
          · rw [if_neg hbk] at h1
            have H1 := Lib.hid h1
            obtain rfl : b = s.size := by omega
            clear hS h1
            go_wp2
            go_roundw
            case rel => exact ⟨s.size + 1, s.size + 1, fs, by go_num, by omega, by omega, .inr ⟨rfl, H1.out, H2.out⟩, by go_num, hO, hW⟩
            case measure => first | (simp [intOf]; done) | (simp [intOf]; omega)
      · have e2 : (s.size : Int) < (s.size : Int) + 1 := by omega
        obtain ⟨A4, c4, rfl⟩ := own_sh hO
        by_cases h24 : 24 < fs.length
        · obtain ⟨e1, e2'⟩ := HN.out (.inr (.inr (by rw [h1]; exact h24)))
          have E1 := Lib.hid e1
          have E2 := Lib.hid e2'
          have g2 : (24 : Int) < (fs.length : Int) := by omega
          have HM := Lib.hid (made_nil w wr hW)
          clear h1 h2 e1 e2' hO
          go_wp2
          go_ret2
          show SplitOut w (splitF s.data.toList) (splitB s.data.toList) _ _
          rw [E1.out, E2.out]
          exact ⟨_, 0, rfl, HM.out⟩
        · obtain ⟨e1, e2'⟩ := HY.out (by omega) h2 (by rw [h1]; omega)
          rw [h1] at e2'
          have E1 := Lib.hid e1
          have E2 := Lib.hid e2'
          have g2 : (fs.length : Int) ≤ 24 := by omega
          clear h1 h2 e1 e2'
          go_wp2
          go_ret2
          show SplitOut w (splitF s.data.toList) (splitB s.data.toList) _ _
          rw [E1.out, E2.out]
          exact ⟨A4, c4, rfl, hO, hW⟩
end Go.Proofs.YtgiacjfnbbbafabDoor
