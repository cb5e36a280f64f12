/-
  The walks of the scalar laws of the first seat, out of the contracts.
-/
import Derived.Test.YtkhiffenaiakhaaScalB
set_option linter.unusedVariables false
namespace Go.Proofs.Ytkhiffenaiakhaa
open Go.RowKit

theorem toBorder_any (u d : Int) (W : World) : Calls Try.prog 16 #[.agg #[.int .i64 u, .int .i64 d]] W fun e w' => e = .returned (.agg #[.int .i64 u, .int .i64 d]) ∧ Below W.heap.size W w' := by
  go_enter Try.func16, Try.ntmps16
  go_wp2
  exact bodyPost_ret (v := .agg #[.int .i64 u, .int .i64 d]) (by simp [results, Try.results16, go_sem]) rfl ⟨rfl, by (repeat (first | exact Below.refl _ _ | assumption | (refine Below.drew ?_) | (refine below_drewN ?_ _) | (refine Below.alloc ?_ (by first | exact Nat.le_refl _ | (simp; done) | (simp; omega) | omega) _) | (refine Below.setCell ?_ (by first | exact Nat.le_refl _ | (simp; done) | (simp; omega) | omega) _) | (refine Below.trans ?_ (Below.mono (by assumption) (by first | exact Nat.le_refl _ | (simp; done) | (simp; omega) | omega)))))⟩

theorem walk_FnExactBorderOk (a0_0 a0_1 : Int) (W : World) (hw0_0 : (Lit.int .i64 a0_0).wf = true) (hw0_1 : (Lit.int .i64 a0_1).wf = true) :
    Calls Try.prog 3 #[.agg #[.int .i64 a0_0, .int .i64 a0_1]] W fun e w' => e = .returned (.bool true) ∧ Below W.heap.size W w' := by
  clear hw0_0 hw0_1
  go_enter Try.func3, Try.ntmps3
  go_wp2_with (first | (go_at_call 16; refine (toBorder_any _ _ _ ).mono ?_; rintro e w1 ⟨rfl, hb1⟩; obtain ⟨hc1, hf1⟩ := bcell hb1; have hz1 := hb1.size; try simp at hz1; try have hy1_W_0 : W.heap.size < w1.heap.size := by omega; try have hy1_W_1 : W.heap.size + 1 < w1.heap.size := by omega; try have hy1_W_2 : W.heap.size + 2 < w1.heap.size := by omega) | (go_at_call 15; refine (borderOkS_any _ _ _ ).mono ?_; rintro e w2 ⟨rfl, hb2⟩; obtain ⟨hc2, hf2⟩ := bcell hb2; have hz2 := hb2.size; try simp at hz2; try have hy2_W_0 : W.heap.size < w2.heap.size := by omega; try have hy2_W_1 : W.heap.size + 1 < w2.heap.size := by omega; try have hy2_W_2 : W.heap.size + 2 < w2.heap.size := by omega; try have hy2_w1_0 : w1.heap.size < w2.heap.size := by omega; try have hy2_w1_1 : w1.heap.size + 1 < w2.heap.size := by omega; try have hy2_w1_2 : w1.heap.size + 2 < w2.heap.size := by omega) | (go_at_call 17; refine (borderOkI_any _ _ _ ).mono ?_; rintro e w3 ⟨rfl, hb3⟩; obtain ⟨hc3, hf3⟩ := bcell hb3; have hz3 := hb3.size; try simp at hz3; try have hy3_W_0 : W.heap.size < w3.heap.size := by omega; try have hy3_W_1 : W.heap.size + 1 < w3.heap.size := by omega; try have hy3_W_2 : W.heap.size + 2 < w3.heap.size := by omega; try have hy3_w1_0 : w1.heap.size < w3.heap.size := by omega; try have hy3_w1_1 : w1.heap.size + 1 < w3.heap.size := by omega; try have hy3_w1_2 : w1.heap.size + 2 < w3.heap.size := by omega; try have hy3_w2_0 : w2.heap.size < w3.heap.size := by omega; try have hy3_w2_1 : w2.heap.size + 1 < w3.heap.size := by omega; try have hy3_w2_2 : w2.heap.size + 2 < w3.heap.size := by omega))
  go_ret
  exact ⟨rfl, by (repeat (first | exact Below.refl _ _ | assumption | (refine Below.drew ?_) | (refine below_drewN ?_ _) | (refine Below.alloc ?_ (by first | exact Nat.le_refl _ | (simp; done) | (simp; omega) | omega) _) | (refine Below.setCell ?_ (by first | exact Nat.le_refl _ | (simp; done) | (simp; omega) | omega) _) | (refine Below.trans ?_ (Below.mono (by assumption) (by first | exact Nat.le_refl _ | (simp; done) | (simp; omega) | omega)))))⟩

theorem walk_FnExactCutSize (a0 : Int) (W : World) (hw0 : (Lit.int .i64 a0).wf = true) :
    Calls Try.prog 4 #[.int .i64 a0] W fun e w' => e = .returned (.bool true) ∧ Below W.heap.size W w' := by
  clear hw0
  go_enter Try.func4, Try.ntmps4
  go_wp2_with (first | (go_at_call 18; refine (cutSizeS_any _ _).mono ?_; rintro e w' ⟨rfl, rfl⟩) | (go_at_call 19; refine (cutSizeI_any _ _).mono ?_; rintro e w' ⟨rfl, rfl⟩))
  go_ret
  exact ⟨rfl, by (repeat (first | exact Below.refl _ _ | assumption | (refine Below.drew ?_) | (refine below_drewN ?_ _) | (refine Below.alloc ?_ (by first | exact Nat.le_refl _ | (simp; done) | (simp; omega) | omega) _) | (refine Below.setCell ?_ (by first | exact Nat.le_refl _ | (simp; done) | (simp; omega) | omega) _) | (refine Below.trans ?_ (Below.mono (by assumption) (by first | exact Nat.le_refl _ | (simp; done) | (simp; omega) | omega)))))⟩

theorem walk_FnExactDriftOf (a0 a1 : Int) (W : World) (hw0 : (Lit.int .i64 a0).wf = true) (hw1 : (Lit.int .i64 a1).wf = true) :
    Calls Try.prog 5 #[.int .i64 a0, .int .i64 a1] W fun e w' => e = .returned (.bool true) ∧ Below W.heap.size W w' := by
  clear hw0 hw1
  go_enter Try.func5, Try.ntmps5
  go_wp2_with (first | (go_at_call 20; refine (driftOfS_any _ _ _).mono ?_; rintro e w' ⟨rfl, rfl⟩) | (go_at_call 21; refine (driftOfI_any _ _ _).mono ?_; rintro e w' ⟨rfl, rfl⟩))
  go_ret
  exact ⟨rfl, by (repeat (first | exact Below.refl _ _ | assumption | (refine Below.drew ?_) | (refine below_drewN ?_ _) | (refine Below.alloc ?_ (by first | exact Nat.le_refl _ | (simp; done) | (simp; omega) | omega) _) | (refine Below.setCell ?_ (by first | exact Nat.le_refl _ | (simp; done) | (simp; omega) | omega) _) | (refine Below.trans ?_ (Below.mono (by assumption) (by first | exact Nat.le_refl _ | (simp; done) | (simp; omega) | omega)))))⟩

theorem walk_FnExactFinishedSize (a0 : Int) (W : World) (hw0 : (Lit.int .i64 a0).wf = true) :
    Calls Try.prog 6 #[.int .i64 a0] W fun e w' => e = .returned (.bool true) ∧ Below W.heap.size W w' := by
  clear hw0
  go_enter Try.func6, Try.ntmps6
  go_wp2_with (first | (go_at_call 22; refine (finishedSizeS_any _ _).mono ?_; rintro e w' ⟨rfl, rfl⟩) | (go_at_call 23; refine (finishedSizeI_any _ _).mono ?_; rintro e w' ⟨rfl, rfl⟩))
  go_ret
  exact ⟨rfl, by (repeat (first | exact Below.refl _ _ | assumption | (refine Below.drew ?_) | (refine below_drewN ?_ _) | (refine Below.alloc ?_ (by first | exact Nat.le_refl _ | (simp; done) | (simp; omega) | omega) _) | (refine Below.setCell ?_ (by first | exact Nat.le_refl _ | (simp; done) | (simp; omega) | omega) _) | (refine Below.trans ?_ (Below.mono (by assumption) (by first | exact Nat.le_refl _ | (simp; done) | (simp; omega) | omega)))))⟩

theorem walk_FnExactTriangleSide (a0 : Int) (W : World) (hw0 : (Lit.int .i64 a0).wf = true) :
    Calls Try.prog 8 #[.int .i64 a0] W fun e w' => e = .returned (.bool true) ∧ Below W.heap.size W w' := by
  clear hw0
  go_enter Try.func8, Try.ntmps8
  go_wp2_with (first | (go_at_call 26; refine (triangleSideS_any _ _).mono ?_; rintro e w' ⟨rfl, rfl⟩) | (go_at_call 27; refine (triangleSideI_any _ _).mono ?_; rintro e w' ⟨rfl, rfl⟩))
  go_ret
  exact ⟨rfl, by (repeat (first | exact Below.refl _ _ | assumption | (refine Below.drew ?_) | (refine below_drewN ?_ _) | (refine Below.alloc ?_ (by first | exact Nat.le_refl _ | (simp; done) | (simp; omega) | omega) _) | (refine Below.setCell ?_ (by first | exact Nat.le_refl _ | (simp; done) | (simp; omega) | omega) _) | (refine Below.trans ?_ (Below.mono (by assumption) (by first | exact Nat.le_refl _ | (simp; done) | (simp; omega) | omega)))))⟩

theorem walk_FnExactMayTurn (a0 a1 : Int) (W : World) (hw0 : (Lit.int .i64 a0).wf = true) (hw1 : (Lit.int .i64 a1).wf = true) :
    Calls Try.prog 7 #[.int .i64 a0, .int .i64 a1] W fun e w' => e = .returned (.bool true) ∧ Below W.heap.size W w' := by
  clear hw0 hw1
  go_enter Try.func7, Try.ntmps7
  go_wp2_with (first | (go_at_call 24; refine (mayTurnS_any _ _ _ ).mono ?_; rintro e w1 ⟨rfl, hb1⟩; obtain ⟨hc1, hf1⟩ := bcell hb1; have hz1 := hb1.size; try simp at hz1; try have hy1_W_0 : W.heap.size < w1.heap.size := by omega; try have hy1_W_1 : W.heap.size + 1 < w1.heap.size := by omega; try have hy1_W_2 : W.heap.size + 2 < w1.heap.size := by omega) | (go_at_call 25; refine (mayTurnI_any _ _ _ ).mono ?_; rintro e w2 ⟨rfl, hb2⟩; obtain ⟨hc2, hf2⟩ := bcell hb2; have hz2 := hb2.size; try simp at hz2; try have hy2_W_0 : W.heap.size < w2.heap.size := by omega; try have hy2_W_1 : W.heap.size + 1 < w2.heap.size := by omega; try have hy2_W_2 : W.heap.size + 2 < w2.heap.size := by omega; try have hy2_w1_0 : w1.heap.size < w2.heap.size := by omega; try have hy2_w1_1 : w1.heap.size + 1 < w2.heap.size := by omega; try have hy2_w1_2 : w1.heap.size + 2 < w2.heap.size := by omega))
  go_ret
  exact ⟨rfl, by (repeat (first | exact Below.refl _ _ | assumption | (refine Below.drew ?_) | (refine below_drewN ?_ _) | (refine Below.alloc ?_ (by first | exact Nat.le_refl _ | (simp; done) | (simp; omega) | omega) _) | (refine Below.setCell ?_ (by first | exact Nat.le_refl _ | (simp; done) | (simp; omega) | omega) _) | (refine Below.trans ?_ (Below.mono (by assumption) (by first | exact Nat.le_refl _ | (simp; done) | (simp; omega) | omega)))))⟩

theorem walk_FnExactFitsBorder (a0_0 a0_1 a1 a2 : Int) (W : World) (hw0_0 : (Lit.int .i64 a0_0).wf = true) (hw0_1 : (Lit.int .i64 a0_1).wf = true) (hw1 : (Lit.int .i64 a1).wf = true) (hw2 : (Lit.int .i64 a2).wf = true) :
    Calls Try.prog 10 #[.agg #[.int .i64 a0_0, .int .i64 a0_1], .int .i64 a1, .int .i64 a2] W fun e w' => e = .returned (.bool true) ∧ Below W.heap.size W w' := by
  clear hw0_0 hw0_1 hw1 hw2
  go_enter Try.func10, Try.ntmps10
  go_wp2_with (first | (go_at_call 16; refine (toBorder_any _ _ _ ).mono ?_; rintro e w1 ⟨rfl, hb1⟩; obtain ⟨hc1, hf1⟩ := bcell hb1; have hz1 := hb1.size; try simp at hz1; try have hy1_W_0 : W.heap.size < w1.heap.size := by omega; try have hy1_W_1 : W.heap.size + 1 < w1.heap.size := by omega; try have hy1_W_2 : W.heap.size + 2 < w1.heap.size := by omega) | (go_at_call 41; refine (fitsBorderS_any _ _ _ _ _ ).mono ?_; rintro e w2 ⟨rfl, hb2⟩; obtain ⟨hc2, hf2⟩ := bcell hb2; have hz2 := hb2.size; try simp at hz2; try have hy2_W_0 : W.heap.size < w2.heap.size := by omega; try have hy2_W_1 : W.heap.size + 1 < w2.heap.size := by omega; try have hy2_W_2 : W.heap.size + 2 < w2.heap.size := by omega; try have hy2_w1_0 : w1.heap.size < w2.heap.size := by omega; try have hy2_w1_1 : w1.heap.size + 1 < w2.heap.size := by omega; try have hy2_w1_2 : w1.heap.size + 2 < w2.heap.size := by omega) | (go_at_call 42; refine (fitsBorderI_any _ _ _ _ _ ).mono ?_; rintro e w3 ⟨rfl, hb3⟩; obtain ⟨hc3, hf3⟩ := bcell hb3; have hz3 := hb3.size; try simp at hz3; try have hy3_W_0 : W.heap.size < w3.heap.size := by omega; try have hy3_W_1 : W.heap.size + 1 < w3.heap.size := by omega; try have hy3_W_2 : W.heap.size + 2 < w3.heap.size := by omega; try have hy3_w1_0 : w1.heap.size < w3.heap.size := by omega; try have hy3_w1_1 : w1.heap.size + 1 < w3.heap.size := by omega; try have hy3_w1_2 : w1.heap.size + 2 < w3.heap.size := by omega; try have hy3_w2_0 : w2.heap.size < w3.heap.size := by omega; try have hy3_w2_1 : w2.heap.size + 1 < w3.heap.size := by omega; try have hy3_w2_2 : w2.heap.size + 2 < w3.heap.size := by omega))
  go_ret
  exact ⟨rfl, by (repeat (first | exact Below.refl _ _ | assumption | (refine Below.drew ?_) | (refine below_drewN ?_ _) | (refine Below.alloc ?_ (by first | exact Nat.le_refl _ | (simp; done) | (simp; omega) | omega) _) | (refine Below.setCell ?_ (by first | exact Nat.le_refl _ | (simp; done) | (simp; omega) | omega) _) | (refine Below.trans ?_ (Below.mono (by assumption) (by first | exact Nat.le_refl _ | (simp; done) | (simp; omega) | omega)))))⟩

theorem walk_FnExactOuterSize (a0_0 a0_1 a1 a2 : Int) (W : World) (hw0_0 : (Lit.int .i64 a0_0).wf = true) (hw0_1 : (Lit.int .i64 a0_1).wf = true) (hw1 : (Lit.int .i64 a1).wf = true) (hw2 : (Lit.int .i64 a2).wf = true) :
    Calls Try.prog 11 #[.agg #[.int .i64 a0_0, .int .i64 a0_1], .int .i64 a1, .int .i64 a2] W fun e w' => e = .returned (.bool true) ∧ Below W.heap.size W w' := by
  clear hw0_0 hw0_1 hw1 hw2
  go_enter Try.func11, Try.ntmps11
  go_wp2_with (first | (go_at_call 16; refine (toBorder_any _ _ _ ).mono ?_; rintro e w1 ⟨rfl, hb1⟩; obtain ⟨hc1, hf1⟩ := bcell hb1; have hz1 := hb1.size; try simp at hz1; try have hy1_W_0 : W.heap.size < w1.heap.size := by omega; try have hy1_W_1 : W.heap.size + 1 < w1.heap.size := by omega; try have hy1_W_2 : W.heap.size + 2 < w1.heap.size := by omega) | (go_at_call 43; refine (outerS_any _ _ _ _ _ ).mono ?_; rintro e w2 ⟨rfl, hb2⟩; obtain ⟨hc2, hf2⟩ := bcell hb2; have hz2 := hb2.size; try simp at hz2; try have hy2_W_0 : W.heap.size < w2.heap.size := by omega; try have hy2_W_1 : W.heap.size + 1 < w2.heap.size := by omega; try have hy2_W_2 : W.heap.size + 2 < w2.heap.size := by omega; try have hy2_w1_0 : w1.heap.size < w2.heap.size := by omega; try have hy2_w1_1 : w1.heap.size + 1 < w2.heap.size := by omega; try have hy2_w1_2 : w1.heap.size + 2 < w2.heap.size := by omega) | (go_at_call 44; refine (outerI_any _ _ _ _ _ ).mono ?_; rintro e w3 ⟨rfl, hb3⟩; obtain ⟨hc3, hf3⟩ := bcell hb3; have hz3 := hb3.size; try simp at hz3; try have hy3_W_0 : W.heap.size < w3.heap.size := by omega; try have hy3_W_1 : W.heap.size + 1 < w3.heap.size := by omega; try have hy3_W_2 : W.heap.size + 2 < w3.heap.size := by omega; try have hy3_w1_0 : w1.heap.size < w3.heap.size := by omega; try have hy3_w1_1 : w1.heap.size + 1 < w3.heap.size := by omega; try have hy3_w1_2 : w1.heap.size + 2 < w3.heap.size := by omega; try have hy3_w2_0 : w2.heap.size < w3.heap.size := by omega; try have hy3_w2_1 : w2.heap.size + 1 < w3.heap.size := by omega; try have hy3_w2_2 : w2.heap.size + 2 < w3.heap.size := by omega))
  go_ret
  exact ⟨rfl, by (repeat (first | exact Below.refl _ _ | assumption | (refine Below.drew ?_) | (refine below_drewN ?_ _) | (refine Below.alloc ?_ (by first | exact Nat.le_refl _ | (simp; done) | (simp; omega) | omega) _) | (refine Below.setCell ?_ (by first | exact Nat.le_refl _ | (simp; done) | (simp; omega) | omega) _) | (refine Below.trans ?_ (Below.mono (by assumption) (by first | exact Nat.le_refl _ | (simp; done) | (simp; omega) | omega)))))⟩

theorem walk_FnExactSpacerFor (a0_0 a0_1 a1 a2 : Int) (W : World) (hw0_0 : (Lit.int .i64 a0_0).wf = true) (hw0_1 : (Lit.int .i64 a0_1).wf = true) (hw1 : (Lit.int .i64 a1).wf = true) (hw2 : (Lit.int .i64 a2).wf = true) :
    Calls Try.prog 12 #[.agg #[.int .i64 a0_0, .int .i64 a0_1], .int .i64 a1, .int .i64 a2] W fun e w' => e = .returned (.bool true) ∧ Below W.heap.size W w' := by
  clear hw0_0 hw0_1 hw1 hw2
  go_enter Try.func12, Try.ntmps12
  go_wp2_with (first | (go_at_call 16; refine (toBorder_any _ _ _ ).mono ?_; rintro e w1 ⟨rfl, hb1⟩; obtain ⟨hc1, hf1⟩ := bcell hb1; have hz1 := hb1.size; try simp at hz1; try have hy1_W_0 : W.heap.size < w1.heap.size := by omega; try have hy1_W_1 : W.heap.size + 1 < w1.heap.size := by omega; try have hy1_W_2 : W.heap.size + 2 < w1.heap.size := by omega) | (go_at_call 45; refine (spacerS_any _ _ _ _ _ ).mono ?_; rintro e w2 ⟨rfl, hb2⟩; obtain ⟨hc2, hf2⟩ := bcell hb2; have hz2 := hb2.size; try simp at hz2; try have hy2_W_0 : W.heap.size < w2.heap.size := by omega; try have hy2_W_1 : W.heap.size + 1 < w2.heap.size := by omega; try have hy2_W_2 : W.heap.size + 2 < w2.heap.size := by omega; try have hy2_w1_0 : w1.heap.size < w2.heap.size := by omega; try have hy2_w1_1 : w1.heap.size + 1 < w2.heap.size := by omega; try have hy2_w1_2 : w1.heap.size + 2 < w2.heap.size := by omega) | (go_at_call 46; refine (spacerI_any _ _ _ _ _ ).mono ?_; rintro e w3 ⟨rfl, hb3⟩; obtain ⟨hc3, hf3⟩ := bcell hb3; have hz3 := hb3.size; try simp at hz3; try have hy3_W_0 : W.heap.size < w3.heap.size := by omega; try have hy3_W_1 : W.heap.size + 1 < w3.heap.size := by omega; try have hy3_W_2 : W.heap.size + 2 < w3.heap.size := by omega; try have hy3_w1_0 : w1.heap.size < w3.heap.size := by omega; try have hy3_w1_1 : w1.heap.size + 1 < w3.heap.size := by omega; try have hy3_w1_2 : w1.heap.size + 2 < w3.heap.size := by omega; try have hy3_w2_0 : w2.heap.size < w3.heap.size := by omega; try have hy3_w2_1 : w2.heap.size + 1 < w3.heap.size := by omega; try have hy3_w2_2 : w2.heap.size + 2 < w3.heap.size := by omega))
  go_ret
  exact ⟨rfl, by (repeat (first | exact Below.refl _ _ | assumption | (refine Below.drew ?_) | (refine below_drewN ?_ _) | (refine Below.alloc ?_ (by first | exact Nat.le_refl _ | (simp; done) | (simp; omega) | omega) _) | (refine Below.setCell ?_ (by first | exact Nat.le_refl _ | (simp; done) | (simp; omega) | omega) _) | (refine Below.trans ?_ (Below.mono (by assumption) (by first | exact Nat.le_refl _ | (simp; done) | (simp; omega) | omega)))))⟩

theorem walk_FnExactBestUnit (a0 a1 a2 a3 : Int) (W : World) (hw0 : (Lit.int .i64 a0).wf = true) (hw1 : (Lit.int .i64 a1).wf = true) (hw2 : (Lit.int .i64 a2).wf = true) (hw3 : (Lit.int .i64 a3).wf = true) :
    Calls Try.prog 13 #[.int .i64 a0, .int .i64 a1, .int .i64 a2, .int .i64 a3] W fun e w' => e = .returned (.bool true) ∧ Below W.heap.size W w' := by
  clear hw0 hw1 hw2 hw3
  go_enter Try.func13, Try.ntmps13
  go_wp2_with (first | (go_at_call 47; refine (bestUnitS_any _ _ _ _ _).mono ?_; rintro e w' ⟨rfl, rfl⟩) | (go_at_call 48; refine (bestUnitI_any _ _ _ _ _).mono ?_; rintro e w' ⟨rfl, rfl⟩))
  go_ret
  exact ⟨rfl, by (repeat (first | exact Below.refl _ _ | assumption | (refine Below.drew ?_) | (refine below_drewN ?_ _) | (refine Below.alloc ?_ (by first | exact Nat.le_refl _ | (simp; done) | (simp; omega) | omega) _) | (refine Below.setCell ?_ (by first | exact Nat.le_refl _ | (simp; done) | (simp; omega) | omega) _) | (refine Below.trans ?_ (Below.mono (by assumption) (by first | exact Nat.le_refl _ | (simp; done) | (simp; omega) | omega)))))⟩

theorem walk_FnExactUnitsAround (a0_0 a0_1 a1 a2 : Int) (W : World) (hw0_0 : (Lit.int .i64 a0_0).wf = true) (hw0_1 : (Lit.int .i64 a0_1).wf = true) (hw1 : (Lit.int .i64 a1).wf = true) (hw2 : (Lit.int .i64 a2).wf = true) :
    Calls Try.prog 14 #[.agg #[.int .i64 a0_0, .int .i64 a0_1], .int .i64 a1, .int .i64 a2] W fun e w' => e = .returned (.bool true) ∧ Below W.heap.size W w' := by
  clear hw0_0 hw0_1 hw1 hw2
  go_enter Try.func14, Try.ntmps14
  go_wp2_with (first | (go_at_call 16; refine (toBorder_any _ _ _ ).mono ?_; rintro e w1 ⟨rfl, hb1⟩; obtain ⟨hc1, hf1⟩ := bcell hb1; have hz1 := hb1.size; try simp at hz1; try have hy1_W_0 : W.heap.size < w1.heap.size := by omega; try have hy1_W_1 : W.heap.size + 1 < w1.heap.size := by omega; try have hy1_W_2 : W.heap.size + 2 < w1.heap.size := by omega) | (go_at_call 49; refine (unitsAroundS_any _ _ _ _ _ ).mono ?_; rintro e w2 ⟨rfl, hb2⟩; obtain ⟨hc2, hf2⟩ := bcell hb2; have hz2 := hb2.size; try simp at hz2; try have hy2_W_0 : W.heap.size < w2.heap.size := by omega; try have hy2_W_1 : W.heap.size + 1 < w2.heap.size := by omega; try have hy2_W_2 : W.heap.size + 2 < w2.heap.size := by omega; try have hy2_w1_0 : w1.heap.size < w2.heap.size := by omega; try have hy2_w1_1 : w1.heap.size + 1 < w2.heap.size := by omega; try have hy2_w1_2 : w1.heap.size + 2 < w2.heap.size := by omega) | (go_at_call 50; refine (unitsAroundI_any _ _ _ _ _ ).mono ?_; rintro e w3 ⟨rfl, hb3⟩; obtain ⟨hc3, hf3⟩ := bcell hb3; have hz3 := hb3.size; try simp at hz3; try have hy3_W_0 : W.heap.size < w3.heap.size := by omega; try have hy3_W_1 : W.heap.size + 1 < w3.heap.size := by omega; try have hy3_W_2 : W.heap.size + 2 < w3.heap.size := by omega; try have hy3_w1_0 : w1.heap.size < w3.heap.size := by omega; try have hy3_w1_1 : w1.heap.size + 1 < w3.heap.size := by omega; try have hy3_w1_2 : w1.heap.size + 2 < w3.heap.size := by omega; try have hy3_w2_0 : w2.heap.size < w3.heap.size := by omega; try have hy3_w2_1 : w2.heap.size + 1 < w3.heap.size := by omega; try have hy3_w2_2 : w2.heap.size + 2 < w3.heap.size := by omega))
  go_ret
  exact ⟨rfl, by (repeat (first | exact Below.refl _ _ | assumption | (refine Below.drew ?_) | (refine below_drewN ?_ _) | (refine Below.alloc ?_ (by first | exact Nat.le_refl _ | (simp; done) | (simp; omega) | omega) _) | (refine Below.setCell ?_ (by first | exact Nat.le_refl _ | (simp; done) | (simp; omega) | omega) _) | (refine Below.trans ?_ (Below.mono (by assumption) (by first | exact Nat.le_refl _ | (simp; done) | (simp; omega) | omega)))))⟩

end Go.Proofs.Ytkhiffenaiakhaa
