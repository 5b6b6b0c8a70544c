/- The walk of the law FnExactShareOut. -/
import Derived.Test.YtaoinmlhhnklgaaShC
namespace Go.Proofs.Ytaoinmlhhnklgaa
open Go.RowKit Go.Sort

theorem row_apart {W W' : World} {lo hi lo' hi' : Nat} {e e' : TypeId} {s s' n c m d : Nat} {A B : Option Addr} {xs ys : List Value} (h : Row W lo hi e s A n c xs) (hB : Row W lo' hi' e' s' B m d ys) (hg : W.grownBy W' (B.map (·.block))) (hd : hi ≤ lo' ∨ hi' ≤ lo) (hs : hi ≤ W.heap.size) : Row W' lo hi e s A n c xs :=
  h.same fun g h1 h2 => hg.block g (by omega) (fun e => by
    cases B with
    | none => cases e
    | some b => have l1 := (hB.1.lt b.block rfl).1; have l2 := hB.2 b rfl; simp at e; omega)
theorem mark_bel {w W W' : World} {lo hi : Nat} {e : TypeId} {s m d : Nat} {B : Option Addr} {ys : List Value} (h : Below w.heap.size w W) (hB : Row W lo hi e s B m d ys) (hg : W.grownBy W' (B.map (·.block))) (hlo : w.heap.size ≤ lo) : Below w.heap.size w W' :=
  h.grown hg h.size (fun k hk => by
    cases B with
    | none => cases hk
    | some b => have l1 := (hB.1.lt b.block rfl).1; simp at hk; omega)
theorem share_len (total : Int) (ws : List Int) : (shareV total ws).length ≤ 12 := by
  rcases bcases (shB total ws) with h | h
  · rw [sh_yes h, outL_len]; exact (sh_true h).2.2.1
  · unfold shareV; rw [h]; simp
theorem nums_row {w : World} {lo hi n c : Nat} {A : Option Addr} {zs : List Int} (h : Row w lo hi 3 1 A n c (cellsI zs)) (hn : n = zs.length) (hh : hi ≤ w.heap.size) : NumsAt w w.heap.size A zs := by
  subst hn; exact h.nums.mono hh
set_option maxHeartbeats 8000000 in
set_option maxRecDepth 100000 in
theorem walk_FnExactShareOut (total : Int) (A : Option Addr) (c : Nat) (ws : List Int) (_hw : (Lit.int .i64 total).wf = true) (w : World) (hP : NumsAt w w.heap.size A ws) (hl : ws.length ≤ 9223372036854775807) :
    Calls Try.prog 4 #[.int .i64 total, .slice A ws.length c] w fun e w' => e = .returned (.bool true) ∧ Below w.heap.size w w' := by
  by_cases hbig : 1048576 < ws.length
  · have g1 : (1048576 : Int) < (ws.length : Int) := by omega
    clear hP
    generalize ws.length = n at *
    go_enter Try.func4, Try.ntmps4
    go_wp2
    go_ret
    exact ⟨rfl, Below.refl _ _⟩
  · have g1 : (ws.length : Int) ≤ 1048576 := by omega
    have HT := Lib.hid (fun (W : World) (hb : Below w.heap.size w W) => l_toIntS A c ws w.heap.size W (hP.below hb) hb.size (by omega))
    have HS := Lib.hid (fun (W : World) (lo hi : Nat) (B : Option Addr) (d : Nat) (h : Row W lo hi 3 1 B ws.length d (cellsI ws)) (hh : hi ≤ W.heap.size) => s_ShareOut B d ws total W (nums_row h rfl hh) (by omega))
    have HI := Lib.hid (fun (W : World) (lo hi : Nat) (B : Option Addr) (d : Nat) (h : Row W lo hi 3 1 B ws.length d (cellsI ws)) (hh : hi ≤ W.heap.size) => i_ShareOut B d ws total W (nums_row h rfl hh) (by omega))
    have HEV := Lib.hid (fun (W : World) (lo hi lo' hi' : Nat) (B B' : Option Addr) (d d' : Nat) (h : Row W lo hi 3 1 B (shareV total ws).length d (cellsI (shareV total ws))) (h' : Row W lo' hi' 3 1 B' (shareV total ws).length d' (cellsI (shareV total ws))) (hh : hi ≤ W.heap.size) (hh' : hi' ≤ W.heap.size) => l_eqIntS B B' d d' (shareV total ws) W.heap.size W (nums_row h rfl hh) (nums_row h' rfl hh') (Nat.le_refl _) (by have := share_len total ws; omega))
    have HEW := Lib.hid (fun (W : World) (lo hi lo' hi' : Nat) (B B' : Option Addr) (d d' : Nat) (h : Row W lo hi 3 1 B ws.length d (cellsI ws)) (h' : Row W lo' hi' 3 1 B' ws.length d' (cellsI ws)) (hh : hi ≤ W.heap.size) (hh' : hi' ≤ W.heap.size) => l_eqIntS B B' d d' ws W.heap.size W (nums_row h rfl hh) (nums_row h' rfl hh') (Nat.le_refl _) (by omega))
    have HM := Lib.hid (fun (W : World) (lo hi : Nat) (B : Option Addr) (d : Nat) (h : Row W lo hi 3 1 B ws.length d (cellsI ws)) => l_markIntS B ws.length d 1 (cellsI ws) lo hi W h (by omega) (by omega) (by omega))
    have hvl := share_len total ws
    have HMV := Lib.hid (fun (W : World) (lo hi : Nat) (B : Option Addr) (d : Nat) (h : Row W lo hi 3 1 B (shareV total ws).length d (cellsI (shareV total ws))) => l_markIntS B (shareV total ws).length d 1 (cellsI (shareV total ws)) lo hi W h (by omega) (by omega) (by omega))
    have HHV := Lib.hid (fun (W : World) (lo hi : Nat) (B : Option Addr) (d : Nat) (h : Row W lo hi 3 1 B (shareV total ws).length d (cellsI (markI 1 (shareV total ws).length))) (hh : hi ≤ W.heap.size) => l_heldIntS B (shareV total ws).length d 1 W.heap.size W (nums_row h (markI_len _ _).symm hh) (by omega) (by omega) (by omega))
    have hW : Below w.heap.size w w := Below.refl _ _
    clear hP hbig
    generalize hvg : shareV total ws = V at *
    clear hvg
    go_enter Try.func4, Try.ntmps4
    go_wp2_with fail
    refine (HT.out _ hW).mono ?_; rintro e w1 ⟨A1, c1, rfl, R1, hb1⟩
    replace hW : Below w.heap.size w w1 := hb1
    have s1 := hb1.size
    clear hb1
    go_wp2_with fail
    refine (HS.out _ _ _ _ _ R1 (Nat.le_refl _)).mono ?_; rintro e w2 ⟨A2, c2, rfl, R2, hb2⟩
    replace hW := bl_st hW hb2
    have s2 := hb2.size
    clear hb2 R1
    go_wp2_with fail
    refine (HT.out _ hW).mono ?_; rintro e w3 ⟨A3, c3, rfl, R3, hb3⟩
    replace hW := bl_st hW hb3
    replace R2 := R2.below hb3 (Nat.le_refl _)
    have s3 := hb3.size
    clear hb3
    go_wp2_with fail
    refine (HI.out _ _ _ _ _ R3 (Nat.le_refl _)).mono ?_; rintro e w4 ⟨A4, c4, rfl, R4, hb4⟩
    replace hW := bl_st hW hb4
    replace R2 := R2.below hb4 (by omega)
    replace R3 := R3.below hb4 (by omega)
    have s4 := hb4.size
    clear hb4
    go_wp2_with fail
    refine (HEV.out _ _ _ _ _ _ _ _ _ R4 R2 (by omega) (by omega)).mono ?_; rintro e w5 ⟨rfl, hb5⟩
    replace hW := bl_st hW hb5
    replace R2 := R2.below hb5 (by omega)
    replace R3 := R3.below hb5 (by omega)
    replace R4 := R4.below hb5 (by omega)
    have s5 := hb5.size
    clear hb5
    go_wp2_with fail
    refine (HT.out _ hW).mono ?_; rintro e w6 ⟨A6, c6, rfl, R6, hb6⟩
    replace hW := bl_st hW hb6
    replace R2 := R2.below hb6 (by omega)
    replace R3 := R3.below hb6 (by omega)
    replace R4 := R4.below hb6 (by omega)
    have s6 := hb6.size
    clear hb6
    go_wp2_with fail
    refine (HEW.out _ _ _ _ _ _ _ _ _ R3 R6 (by omega) (by omega)).mono ?_; rintro e w7 ⟨rfl, hb7⟩
    replace hW := bl_st hW hb7
    replace R2 := R2.below hb7 (by omega)
    replace R3 := R3.below hb7 (by omega)
    replace R4 := R4.below hb7 (by omega)
    have s7 := hb7.size
    clear hb7 R6
    go_wp2_with fail
    refine (HM.out _ _ _ _ _ R3).mono ?_; rintro e w8 ⟨rfl, _, hg8⟩
    have s8 := hg8.size
    replace hW := mark_bel hW R3 hg8 (by omega)
    replace R2 := row_apart R2 R3 hg8 (.inl (Nat.le_refl _)) (by omega)
    replace R4 := row_apart R4 R3 hg8 (.inr (Nat.le_refl _)) (by omega)
    clear hg8 R3
    go_wp2_with fail
    refine (HEV.out _ _ _ _ _ _ _ _ _ R4 R2 (by omega) (by omega)).mono ?_; rintro e w9 ⟨rfl, hb9⟩
    replace hW := bl_st hW hb9
    replace R2 := R2.below hb9 (by omega)
    replace R4 := R4.below hb9 (by omega)
    have s9 := hb9.size
    clear hb9
    go_wp2_with fail
    refine (HMV.out _ _ _ _ _ R4).mono ?_; rintro e w10 ⟨rfl, M4, hg10⟩
    have s10 := hg10.size
    replace hW := mark_bel hW R4 hg10 (by omega)
    replace R2 := row_apart R2 R4 hg10 (.inl (by omega)) (by omega)
    clear hg10 R4
    go_wp2_with fail
    refine (HHV.out _ _ _ _ _ M4 (by omega)).mono ?_; rintro e w11 ⟨rfl, rfl⟩
    go_wp2_with fail
    refine (HT.out _ hW).mono ?_; rintro e w12 ⟨A12, c12, rfl, R12, hb12⟩
    replace hW := bl_st hW hb12
    replace R2 := R2.below hb12 (by omega)
    replace M4 := M4.below hb12 (by omega)
    have s12 := hb12.size
    clear hb12
    go_wp2_with fail
    refine (HI.out _ _ _ _ _ R12 (Nat.le_refl _)).mono ?_; rintro e w13 ⟨A13, c13, rfl, R13, hb13⟩
    replace hW := bl_st hW hb13
    replace R2 := R2.below hb13 (by omega)
    replace M4 := M4.below hb13 (by omega)
    have s13 := hb13.size
    clear hb13 R12
    go_wp2_with fail
    refine (HEV.out _ _ _ _ _ _ _ _ _ R13 R2 (by omega) (by omega)).mono ?_; rintro e w14 ⟨rfl, hb14⟩
    replace hW := bl_st hW hb14
    replace M4 := M4.below hb14 (by omega)
    have s14 := hb14.size
    clear hb14 R13 R2
    go_wp2_with fail
    refine (HHV.out _ _ _ _ _ M4 (by omega)).mono ?_; rintro e w15 ⟨rfl, rfl⟩
    go_wp2
    go_ret
    exact ⟨rfl, hW⟩
end Go.Proofs.Ytaoinmlhhnklgaa
