/- Contracts of SplitFields (program and reference). -/
import Derived.Test.YtgiacjfnbbbafabDoorSpP
import Derived.Test.YtgiacjfnbbbafabDoorTxt
import Derived.Maps.AppendAt
namespace Go.Proofs.YtgiacjfnbbbafabDoor
open Go.RowKit

def strOf (f : List UInt8) : ByteArray := ⟨f.toArray⟩
def cellsS (fs : List (List UInt8)) : List Value := fs.map (fun f => .string (strOf f))
theorem cellsS_len (fs : List (List UInt8)) : (cellsS fs).length = fs.length := by simp [cellsS]
theorem cellsS_snoc (fs : List (List UInt8)) (f : List UInt8) : cellsS (fs ++ [f]) = cellsS fs ++ [.string (strOf f)] := by simp [cellsS]
theorem extract_is (s : ByteArray) (b k : Nat) : s.extract b k = strOf ((s.data.toList.drop b).take (k - b)) := by
  unfold strOf
  apply ByteArray.ext
  rw [ByteArray.data_extract]
  apply Array.ext'
  rw [Array.toList_extract]
theorem extract_end (s : ByteArray) (b : Nat) : s.extract b s.size = strOf (s.data.toList.drop b) := by
  rw [extract_is, List.take_of_length_le]
  rw [List.length_drop, Array.length_toList]
  exact Nat.le_refl _
theorem bl_at (s : ByteArray) (k : Nat) (h : k < s.size) : s.data.toList[k]'(by simpa using h) = s[k] := rfl
theorem bl_len (s : ByteArray) : s.data.toList.length = s.size := Array.length_toList
theorem info_str : (Tryd.prog.info? 9).map (fun i => (i.zero, i.size, i.bytes)) = some (some (.string ⟨#[]⟩), 1, 16) := by kernel_rfl
theorem str_new (W : World) (x : Value) : ∀ j u, [x][j]? = some u → (W.alloc (.cells #[x] 9)).cell? ((⟨W.heap.size, 0, none⟩ : Addr).add j) = some u := by
  intro j u hu
  have hj : j = 0 := by have := (List.getElem?_eq_some_iff.1 hu).1; simpa using this
  subst hj
  rw [show ∀ p : Addr, p.add 0 = p from fun p => by simp [Addr.add], (Blk.new W 9 #[x]).cell 0]
  simpa using hu
theorem own_sh {w : World} {base : Nat} {e : TypeId} {size n : Nat} {v : Value} {xs : List Value} (h : w.ownsRow base e size v n xs) : ∃ A c, v = .slice A n c := by
  rcases h.2 with ⟨rfl, rfl⟩ | ⟨g, cap, cur, rfl, _⟩
  · exact ⟨_, _, rfl⟩
  · exact ⟨_, _, rfl⟩
theorem sp_end (s : ByteArray) {b : Nat} {fs : List (List UInt8)} (h : SpTo s.data.toList s.size b fs) : splitL s.data.toList [] = (if b < s.size then fs ++ [s.data.toList.drop b] else fs) ∧ s.data.toList.all okByte = true := by
  rw [← bl_len] at h
  have := spTo_end h
  rw [bl_len] at this; exact this
/-- A row of strings of the call's own. -/
def SRow (w w' : World) (A : Option Addr) (c : Nat) (fs : List (List UInt8)) : Prop := w'.ownsRow w.heap.size 9 1 (.slice A fs.length c) fs.length (cellsS fs) ∧ Below w.heap.size w w'
def SplitOut (w : World) (fs : List (List UInt8)) (b : Bool) (e : Ending) (w' : World) : Prop := ∃ A c, e = .returned (.tuple #[.slice A fs.length c, .bool b]) ∧ SRow w w' A c fs
theorem srow_nil {w w' : World} (h : Below w.heap.size w w') : SRow w w' none 0 [] := ⟨World.ownsRow_nil _ _ _ _, h⟩
theorem snoc_row {w : World} {base : Nat} {v : Value} {fs : List (List UInt8)} {f : List UInt8} (h : w.ownsRow base 9 1 v (fs.length + 1) (cellsS fs ++ [.string (strOf f)])) : w.ownsRow base 9 1 v (fs ++ [f]).length (cellsS (fs ++ [f])) := by
  rw [cellsS_snoc, List.length_append]; exact h
theorem below_app {W W1 w' : World} {B : Nat} {v : Value} {n : Nat} {xs : List Value} {o : Obj} (h : Below B W W1) (hO : W1.ownsRow B 9 1 v n xs) (hB : B ≤ W1.heap.size) (hg : (W1.alloc o).grownBy w' v.ownBlock) : Below B W w' :=
  (h.alloc hB o).grown hg (by simp; omega) (fun k hk => (hO.lt k hk).1)

set_option maxHeartbeats 4000000 in
theorem i_SplitFields (s : ByteArray) (w : World) (hs : s.size ≤ 9223372036854775807) :
    Calls Tryd.prog 11 #[.string s] w (SplitOut w (splitF s.data.toList) (splitB s.data.toList)) := by
  obtain ⟨i0, hi, hz0, hz1, hz2⟩ := info_parts info_str
  have HN := Lib.hid (fun (h : 600 < s.size ∨ (∃ (k : Nat) (h : k < s.data.toList.length), okByte s.data.toList[k] = false) ∨ 24 < (splitL s.data.toList []).length) => split_no (l := s.data.toList) (h.imp (fun a => by rw [bl_len]; exact a) id))
  have HY := Lib.hid (fun (h : s.size ≤ 600) => split_yes (l := s.data.toList) (by rw [bl_len]; exact h))
  by_cases hbig : 600 < s.size
  · obtain ⟨e1, e2⟩ := HN.out (.inl hbig)
    rw [e1, e2]
    have g1 : (600 : Int) < (s.size : Int) := by omega
    clear HN HY e1 e2
    go_enter Tryd.func11, Tryd.ntmps11
    go_wp2
    go_ret2
    exact ⟨none, 0, rfl, srow_nil (Below.refl _ _)⟩
  · have g1 : (s.size : Int) ≤ 600 := by omega
    go_enter Tryd.func11, Tryd.ntmps11
    go_wp2_with fail
    go_loopw [4, 5, 6] (fun v4 v5 v6 wr => ∃ (k b : Nat) (fs : List (List UInt8)), v6 = .int .i64 k ∧ k ≤ s.size ∧ fs.length ≤ k ∧ SpTo s.data.toList k b fs ∧ ((b = k ∧ v5 = .int .i64 (-1)) ∨ (b < k ∧ v5 = .int .i64 b)) ∧ wr.ownsRow w.heap.size 9 1 v4 fs.length (cellsS fs) ∧ Below w.heap.size w wr) (fun _ _ v6 _ => s.size - (intOf v6).toNat)
    case atStart => exact ⟨0, 0, [], rfl, by omega, by simp, spTo_start _, .inl ⟨rfl, rfl⟩, World.ownsRow_nil _ _ _ _, Below.refl _ _⟩
    case round =>
      obtain ⟨k, b, fs, rfl, hk, hfl, hS, hv, hO, hW⟩ := hrel
      by_cases hlt : k < s.size
      · have e3 : (k : Int) < (s.size : Int) := by omega
        have hlt' : k < s.data.toList.length := by rw [bl_len]; exact hlt
        rcases bcases (okByte s[k]) with ho | ho
        · have ho' : okByte (s.data.toList[k]'hlt') = true := ho
          have hbd : 32 ≤ s[k].toNat ∧ s[k].toNat ≤ 126 := by simpa [okByte] using ho
          have c1 : (32 : Int) ≤ (s[k].toNat : Int) := by omega
          have c2 : (s[k].toNat : Int) ≤ 126 := by omega
          by_cases hc : s[k] = 32
          · have hc' : s.data.toList[k]'hlt' = 32 := hc
            have c3 : ((s[k].toNat : Int) == 32) = true := by rw [hc]; rfl
            have c4 : ((s[k].toNat : Int) != 32) = false := by rw [hc]; rfl
            clear hbd ho
            rcases hv with ⟨rfl, rfl⟩ | ⟨hbk, rfl⟩
            · have HS := Lib.hid (spTo_gap hS hlt' hc')
              clear hS ho' hc hc'
              go_wp2
              go_roundw
              case rel => exact ⟨b + 1, b + 1, fs, by go_num, by omega, by omega, HS.out, .inl ⟨rfl, rfl⟩, hO, hW⟩
              case measure => simp [intOf]; omega
            · have HS := Lib.hid (spTo_field hS hbk hlt' hc')
              have HX := Lib.hid (extract_is s b k)
              have d1 : (0 : Int) ≤ (b : Int) := by omega
              have d2 : (b : Int) ≤ (k : Int) := by omega
              have d3 : (k : Int) ≤ (s.size : Int) := by omega
              clear hS ho' hc hc'
              go_wp2_with (at_builtin; refine wpList_append_own _ rfl (.tmp 39) (.tmp 44) 28 rfl w.heap.size 9 i0 _ 1 16 Tryd.underlying28 hi hz0 hz1 hz2 rfl (by omega) u4 fs.length (cellsS fs) rfl (World.ownsRow.alloc hO _) _ 1 1 [.string (s.extract b k)] rfl rfl (str_new _ _) (by simp [Value.oneCell']) (by unfold maxLen; omega) (by omega) (by simp; have := hW.size; omega) ?_; intro v7 w7 hown7 hg7 hnil7)
              rw [HX.out] at hown7
              have hO7 := snoc_row hown7
              have hW7 := below_app hW hO hW.size hg7
              have HL := Lib.hid (show (fs ++ [(s.data.toList.drop b).take (k - b)]).length = fs.length + 1 by simp)
              clear hown7 hg7 hnil7 hO hW
              go_wp2
              go_roundw
              case rel => exact ⟨k + 1, k + 1, _, by go_num, by omega, by rw [HL.out]; omega, HS.out, .inl ⟨rfl, rfl⟩, hO7, hW7⟩
              case measure => simp [intOf]; omega
          · have hc' : s.data.toList[k]'hlt' ≠ 32 := hc
            have hn : ¬ (s[k].toNat : Int) = 32 := fun h => hc (UInt8.toNat_inj.1 (by simpa using (by omega : s[k].toNat = 32)))
            have c3 : ((s[k].toNat : Int) == 32) = false := by simp only [beq_eq_false_iff_ne, ne_eq]; exact hn
            have c4 : ((s[k].toNat : Int) != 32) = true := by simp only [bne_iff_ne, ne_eq]; exact hn
            have HS := Lib.hid (spTo_byte hS hlt' hc' ho')
            clear hbd ho hS hc hc' ho' hn
            rcases hv with ⟨rfl, rfl⟩ | ⟨hbk, rfl⟩
            · go_wp2
              go_roundw
              case rel => exact ⟨b + 1, b, fs, by go_num, by omega, by omega, HS.out, .inr ⟨by omega, rfl⟩, hO, hW⟩
              case measure => simp [intOf]; omega
            · go_wp2
              go_roundw
              case rel => exact ⟨k + 1, b, fs, by go_num, by omega, by omega, HS.out, .inr ⟨by omega, rfl⟩, hO, hW⟩
              case measure => simp [intOf]; omega
        · obtain ⟨e1, e2⟩ := HN.out (.inr (.inl ⟨k, hlt', ho⟩))
          have E1 := Lib.hid e1
          have E2 := Lib.hid e2
          have hc : (s[k].toNat : Int) < 32 ∨ (32 ≤ (s[k].toNat : Int) ∧ 126 < (s[k].toNat : Int)) := by
            simp only [okByte, Bool.and_eq_false_iff, decide_eq_false_iff_not] at ho; omega
          clear hS ho e1 e2 hO hv
          rcases hc with hc | ⟨hc, hc'⟩
          all_goals
            go_wp2
            go_ret2
            show SplitOut w (splitF s.data.toList) (splitB s.data.toList) _ _
            rw [E1.out, E2.out]
            exact ⟨none, 0, rfl, srow_nil hW⟩
      · obtain rfl : k = s.size := by omega
        obtain ⟨h1, h2⟩ := sp_end s hS
        rcases hv with ⟨rfl, rfl⟩ | ⟨hbk, rfl⟩
        · rw [if_neg (by omega)] at h1
          by_cases h24 : 24 < fs.length
          · obtain ⟨e1, e2⟩ := HN.out (.inr (.inr (by rw [h1]; exact h24)))
            have E1 := Lib.hid e1
            have E2 := Lib.hid e2
            obtain ⟨A4, c4, rfl⟩ := own_sh hO
            have g2 : (24 : Int) < (fs.length : Int) := by omega
            clear hS h1 h2 e1 e2 hO
            go_wp2
            go_ret2
            show SplitOut w (splitF s.data.toList) (splitB s.data.toList) _ _
            rw [E1.out, E2.out]
            exact ⟨none, 0, rfl, srow_nil hW⟩
          · obtain ⟨e1, e2⟩ := HY.out (by omega) h2 (by rw [h1]; omega)
            rw [h1] at e2
            have E1 := Lib.hid e1
            have E2 := Lib.hid e2
            obtain ⟨A4, c4, rfl⟩ := own_sh hO
            have g2 : (fs.length : Int) ≤ 24 := by omega
            clear hS h1 h2 e1 e2
            go_wp2
            go_ret2
            show SplitOut w (splitF s.data.toList) (splitB s.data.toList) _ _
            rw [E1.out, E2.out]
            exact ⟨A4, c4, rfl, hO, hW⟩
        · rw [if_pos hbk] at h1
          have HX := Lib.hid (extract_end s b)
          have d1 : (0 : Int) ≤ (b : Int) := by omega
          have d2 : (b : Int) ≤ (s.size : Int) := by omega
          have HLL := Lib.hid (show (fs ++ [s.data.toList.drop b]).length = fs.length + 1 by simp)
          have H1 := Lib.hid h1
          have H2 := Lib.hid h2
          clear hS h1 h2
          by_cases h24 : 24 < fs.length + 1
          · obtain ⟨e1, e2⟩ := HN.out (.inr (.inr (by rw [H1.out, HLL.out]; exact h24)))
            have E1 := Lib.hid e1
            have E2 := Lib.hid e2
            have g2 : (24 : Int) < (fs.length : Int) + 1 := by omega
            clear e1 e2
            go_wp2_with (at_builtin; refine wpList_append_own _ rfl (.tmp 48) (.tmp 52) 28 rfl w.heap.size 9 i0 _ 1 16 Tryd.underlying28 hi hz0 hz1 hz2 rfl (by omega) u4 fs.length (cellsS fs) rfl (World.ownsRow.alloc hO _) _ 1 1 [.string (s.extract b s.size)] rfl rfl (str_new _ _) (by simp [Value.oneCell']) (by unfold maxLen; omega) (by omega) (by simp; have := hW.size; omega) ?_; intro v7 w7 hown7 hg7 hnil7; obtain ⟨A7, c7, rfl⟩ := own_sh hown7)
            rw [HX.out] at hown7
            have hO7 := snoc_row hown7
            have hW7 := below_app hW hO hW.size hg7
            clear hown7 hg7 hnil7 hO hW
            go_wp2
            go_ret2
            show SplitOut w (splitF s.data.toList) (splitB s.data.toList) _ _
            rw [E1.out, E2.out]
            exact ⟨none, 0, rfl, srow_nil hW7⟩
          · obtain ⟨e1, e2⟩ := HY.out (by omega) H2.out (by rw [H1.out, HLL.out]; omega)
            rw [H1.out] at e2
            have E1 := Lib.hid e1
            have E2 := Lib.hid e2
            have g2 : (fs.length : Int) + 1 ≤ 24 := by omega
            clear e1 e2
            go_wp2_with (at_builtin; refine wpList_append_own _ rfl (.tmp 48) (.tmp 52) 28 rfl w.heap.size 9 i0 _ 1 16 Tryd.underlying28 hi hz0 hz1 hz2 rfl (by omega) u4 fs.length (cellsS fs) rfl (World.ownsRow.alloc hO _) _ 1 1 [.string (s.extract b s.size)] rfl rfl (str_new _ _) (by simp [Value.oneCell']) (by unfold maxLen; omega) (by omega) (by simp; have := hW.size; omega) ?_; intro v7 w7 hown7 hg7 hnil7; obtain ⟨A7, c7, rfl⟩ := own_sh hown7)
            rw [HX.out] at hown7
            have hO7 := snoc_row hown7
            have hW7 := below_app hW hO hW.size hg7
            clear hown7 hg7 hnil7 hO hW
            go_wp2
            go_ret2
            have HR := Lib.hid (show SplitOut w (fs ++ [s.data.toList.drop b]) true (.returned (.tuple #[.slice A7 (fs.length + 1) c7, .bool true])) w7 from ⟨A7, c7, by rw [HLL.out], by rw [HLL.out] at hO7 ⊢; exact hO7, hW7⟩)
            clear hO7
            show SplitOut w (splitF s.data.toList) (splitB s.data.toList) _ _
            rw [E1.out, E2.out]
            exact HR.out
end Go.Proofs.YtgiacjfnbbbafabDoor
