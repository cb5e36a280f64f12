/-
  Contracts of the scalar functions of the first seat: each returns what the plain function of the same name says.
-/
import Derived.Test.YtkhiffenaiakhaaRows
import Derived.Test.YtkhiffenaiakhaaBase
import Derived.Test.YtkhiffenaiakhaaPlainA
set_option linter.unusedVariables false
namespace Go.Proofs.Ytkhiffenaiakhaa
open Go.RowKit

theorem within_any (n a b : Int) (w : World) : Calls Try.prog 52 #[.int .i64 n, .int .i64 a, .int .i64 b] w fun e w' => e = .returned (.bool (within n a b)) ∧ w = w' := by
  go_enter Try.func52, Try.ntmps52
  go_wp2
  all_goals
    go_ret
    exact ⟨ret_b (by simp [within] <;> omega), rfl⟩
theorem l01In_any (n a b : Int) (w : World) : Calls Try.prog 51 #[.int .i64 n, .int .i64 a, .int .i64 b] w fun e w' => e = .returned (.bool (within n a b)) ∧ w = w' := by
  go_enter Try.func51, Try.ntmps51
  go_wp2
  all_goals
    go_ret
    exact ⟨ret_b (by simp [within] <;> omega), rfl⟩

theorem cutSizeI_any (f : Int) (w : World) : Calls Try.prog 19 #[.int .i64 f] w fun e w' => e = .returned (.int .i64 (cutSize f)) ∧ w = w' := by
  by_cases h : within f 1 1000 = true
  · have hb := within_iff.1 h
    go_enter Try.func19, Try.ntmps19
    go_wp2_with (go_at_call 52; refine (within_any _ _ _ _).mono ?_; rintro e w' ⟨rfl, rfl⟩)
    go_ret
    exact ⟨ret_i (by simp [cutSize, h]), rfl⟩
  · go_enter Try.func19, Try.ntmps19
    go_wp2_with (go_at_call 52; refine (within_any _ _ _ _).mono ?_; rintro e w' ⟨rfl, rfl⟩)
    go_ret
    exact ⟨ret_i (by simp [cutSize, h]), rfl⟩

theorem finishedSizeI_any (f : Int) (w : World) : Calls Try.prog 23 #[.int .i64 f] w fun e w' => e = .returned (.int .i64 (finishedSize f)) ∧ w = w' := by
  by_cases h : within f 5 1004 = true
  · have hb := within_iff.1 h
    go_enter Try.func23, Try.ntmps23
    go_wp2_with (go_at_call 52; refine (within_any _ _ _ _).mono ?_; rintro e w' ⟨rfl, rfl⟩)
    go_ret
    exact ⟨ret_i (by simp [finishedSize, h]), rfl⟩
  · go_enter Try.func23, Try.ntmps23
    go_wp2_with (go_at_call 52; refine (within_any _ _ _ _).mono ?_; rintro e w' ⟨rfl, rfl⟩)
    go_ret
    exact ⟨ret_i (by simp [finishedSize, h]), rfl⟩

theorem triangleSideI_any (f : Int) (w : World) : Calls Try.prog 27 #[.int .i64 f] w fun e w' => e = .returned (.int .i64 (triangleSide f)) ∧ w = w' := by
  by_cases h : within f 1 1000 = true
  · have hb := within_iff.1 h
    go_enter Try.func27, Try.ntmps27
    go_wp2_with (go_at_call 52; refine (within_any _ _ _ _).mono ?_; rintro e w' ⟨rfl, rfl⟩)
    go_ret
    exact ⟨ret_i (by simp [triangleSide, h]), rfl⟩
  · go_enter Try.func27, Try.ntmps27
    go_wp2_with (go_at_call 52; refine (within_any _ _ _ _).mono ?_; rintro e w' ⟨rfl, rfl⟩)
    go_ret
    exact ⟨ret_i (by simp [triangleSide, h]), rfl⟩

theorem driftOfI_any (p o : Int) (w : World) : Calls Try.prog 21 #[.int .i64 p, .int .i64 o] w fun e w' => e = .returned (.int .i64 (driftOf p o)) ∧ w = w' := by
  by_cases h : within p 1 100 = true
  · have hb := within_iff.1 h
    by_cases h2 : within o (-4) 4 = true
    · have hb2 := within_iff.1 h2
      have hm := drift_bd hb.1 hb.2 hb2.1 hb2.2
      go_enter Try.func21, Try.ntmps21
      go_wp2_with (go_at_call 52; refine (within_any _ _ _ _).mono ?_; rintro e w' ⟨rfl, rfl⟩)
      go_ret
      exact ⟨ret_i (by simp [driftOf, h, h2]), rfl⟩
    · go_enter Try.func21, Try.ntmps21
      go_wp2_with (go_at_call 52; refine (within_any _ _ _ _).mono ?_; rintro e w' ⟨rfl, rfl⟩)
      go_ret
      exact ⟨ret_i (by simp [driftOf, h2]), rfl⟩
  · go_enter Try.func21, Try.ntmps21
    go_wp2_with (go_at_call 52; refine (within_any _ _ _ _).mono ?_; rintro e w' ⟨rfl, rfl⟩)
    go_ret
    exact ⟨ret_i (by simp [driftOf, h]), rfl⟩

theorem borderOkI_any (u d : Int) (W : World) : Calls Try.prog 17 #[.agg #[.int .i64 u, .int .i64 d]] W fun e w' => e = .returned (.bool (borderOk u d)) ∧ Below W.heap.size W w' := by
  go_enter Try.func17, Try.ntmps17
  go_wp2_with (go_at_call 52; refine (within_any _ _ _ _).mono ?_; rintro e w' ⟨rfl, rfl⟩)
  all_goals
    go_ret
    exact ⟨ret_b (by simp [borderOk, *]), by (repeat (first | exact Below.refl _ _ | assumption | (refine Below.drew ?_) | (refine below_drewN ?_ _) | (refine Below.alloc ?_ (by first | exact Nat.le_refl _ | (simp; done) | (simp; omega) | omega) _) | (refine Below.setCell ?_ (by first | exact Nat.le_refl _ | (simp; done) | (simp; omega) | omega) _) | (refine Below.trans ?_ (Below.mono (by assumption) (by first | exact Nat.le_refl _ | (simp; done) | (simp; omega) | omega)))))⟩

theorem areSidesI_any (a b : Int) (w : World) : Calls Try.prog 61 #[.int .i64 a, .int .i64 b] w fun e w' => e = .returned (.bool (areSides a b)) ∧ w = w' := by
  go_enter Try.func61, Try.ntmps61
  go_wp2_with (go_at_call 52; refine (within_any _ _ _ _).mono ?_; rintro e w' ⟨rfl, rfl⟩)
  all_goals
    go_ret
    exact ⟨ret_b (by simp [areSides, *]), rfl⟩

theorem fitsBorderI_any (u d a b : Int) (W : World) : Calls Try.prog 42 #[.agg #[.int .i64 u, .int .i64 d], .int .i64 a, .int .i64 b] W fun e w' => e = .returned (.bool (fitsBorder u d a b)) ∧ Below W.heap.size W w' := by
  by_cases h1 : borderOk u d = true
  · have hu := borderOk_bd h1
    by_cases h2 : areSides a b = true
    · have hs := areSides_bd h2
      go_enter Try.func42, Try.ntmps42
      go_wp2_with (first | (go_at_call 17; refine (borderOkI_any _ _ _ ).mono ?_; rintro e w1 ⟨rfl, hb1⟩; obtain ⟨hc1, hf1⟩ := bcell hb1; have hz1 := hb1.size) | (go_at_call 61; refine (areSidesI_any _ _ _).mono ?_; rintro e w' ⟨rfl, rfl⟩))
      all_goals
        go_ret
        exact ⟨ret_b (by simp [fitsBorder, *]), by (repeat (first | exact Below.refl _ _ | assumption | (refine Below.drew ?_) | (refine below_drewN ?_ _) | (refine Below.alloc ?_ (by first | exact Nat.le_refl _ | (simp; done) | (simp; omega) | omega) _) | (refine Below.setCell ?_ (by first | exact Nat.le_refl _ | (simp; done) | (simp; omega) | omega) _) | (refine Below.trans ?_ (Below.mono (by assumption) (by first | exact Nat.le_refl _ | (simp; done) | (simp; omega) | omega)))))⟩
    · go_enter Try.func42, Try.ntmps42
      go_wp2_with (first | (go_at_call 17; refine (borderOkI_any _ _ _ ).mono ?_; rintro e w1 ⟨rfl, hb1⟩; obtain ⟨hc1, hf1⟩ := bcell hb1; have hz1 := hb1.size) | (go_at_call 61; refine (areSidesI_any _ _ _).mono ?_; rintro e w' ⟨rfl, rfl⟩))
      go_ret
      exact ⟨ret_b (by simp [fitsBorder, *]), by (repeat (first | exact Below.refl _ _ | assumption | (refine Below.drew ?_) | (refine below_drewN ?_ _) | (refine Below.alloc ?_ (by first | exact Nat.le_refl _ | (simp; done) | (simp; omega) | omega) _) | (refine Below.setCell ?_ (by first | exact Nat.le_refl _ | (simp; done) | (simp; omega) | omega) _) | (refine Below.trans ?_ (Below.mono (by assumption) (by first | exact Nat.le_refl _ | (simp; done) | (simp; omega) | omega)))))⟩
  · go_enter Try.func42, Try.ntmps42
    go_wp2_with (first | (go_at_call 17; refine (borderOkI_any _ _ _ ).mono ?_; rintro e w1 ⟨rfl, hb1⟩; obtain ⟨hc1, hf1⟩ := bcell hb1; have hz1 := hb1.size) | (go_at_call 61; refine (areSidesI_any _ _ _).mono ?_; rintro e w' ⟨rfl, rfl⟩))
    go_ret
    exact ⟨ret_b (by simp [fitsBorder, *]), by (repeat (first | exact Below.refl _ _ | assumption | (refine Below.drew ?_) | (refine below_drewN ?_ _) | (refine Below.alloc ?_ (by first | exact Nat.le_refl _ | (simp; done) | (simp; omega) | omega) _) | (refine Below.setCell ?_ (by first | exact Nat.le_refl _ | (simp; done) | (simp; omega) | omega) _) | (refine Below.trans ?_ (Below.mono (by assumption) (by first | exact Nat.le_refl _ | (simp; done) | (simp; omega) | omega)))))⟩

theorem unitsAroundI_any (u d a b : Int) (W : World) : Calls Try.prog 50 #[.agg #[.int .i64 u, .int .i64 d], .int .i64 a, .int .i64 b] W fun e w' => e = .returned (.int .i64 (unitsAround u d a b)) ∧ Below W.heap.size W w' := by
  by_cases h1 : fitsBorder u d a b = true
  · have hu := fits_bd h1
    go_enter Try.func50, Try.ntmps50
    go_wp2_with (go_at_call 42; refine (fitsBorderI_any _ _ _ _ _ ).mono ?_; rintro e w1 ⟨rfl, hb1⟩; obtain ⟨hc1, hf1⟩ := bcell hb1; have hz1 := hb1.size)
    go_quiet (fail)
    go_wp2
    go_ret
    exact ⟨ret_i (by simp [unitsAround, *]), by (repeat (first | exact Below.refl _ _ | assumption | (refine Below.drew ?_) | (refine below_drewN ?_ _) | (refine Below.alloc ?_ (by first | exact Nat.le_refl _ | (simp; done) | (simp; omega) | omega) _) | (refine Below.setCell ?_ (by first | exact Nat.le_refl _ | (simp; done) | (simp; omega) | omega) _) | (refine Below.trans ?_ (Below.mono (by assumption) (by first | exact Nat.le_refl _ | (simp; done) | (simp; omega) | omega)))))⟩
  · go_enter Try.func50, Try.ntmps50
    go_wp2_with (go_at_call 42; refine (fitsBorderI_any _ _ _ _ _ ).mono ?_; rintro e w1 ⟨rfl, hb1⟩; obtain ⟨hc1, hf1⟩ := bcell hb1; have hz1 := hb1.size)
    go_ret
    exact ⟨ret_i (by simp [unitsAround, *]), by (repeat (first | exact Below.refl _ _ | assumption | (refine Below.drew ?_) | (refine below_drewN ?_ _) | (refine Below.alloc ?_ (by first | exact Nat.le_refl _ | (simp; done) | (simp; omega) | omega) _) | (refine Below.setCell ?_ (by first | exact Nat.le_refl _ | (simp; done) | (simp; omega) | omega) _) | (refine Below.trans ?_ (Below.mono (by assumption) (by first | exact Nat.le_refl _ | (simp; done) | (simp; omega) | omega)))))⟩

theorem cutSizeS_any (f : Int) (w : World) : Calls Try.prog 18 #[.int .i64 f] w fun e w' => e = .returned (.int .i64 (cutSize f)) ∧ w = w' := by
  by_cases h : within f 1 1000 = true
  · have hb := within_iff.1 h
    go_enter Try.func18, Try.ntmps18
    go_wp2_with (go_at_call 51; refine (l01In_any _ _ _ _).mono ?_; rintro e w' ⟨rfl, rfl⟩)
    go_ret
    exact ⟨ret_i (by simp [cutSize, h]), rfl⟩
  · go_enter Try.func18, Try.ntmps18
    go_wp2_with (go_at_call 51; refine (l01In_any _ _ _ _).mono ?_; rintro e w' ⟨rfl, rfl⟩)
    go_ret
    exact ⟨ret_i (by simp [cutSize, h]), rfl⟩

theorem finishedSizeS_any (f : Int) (w : World) : Calls Try.prog 22 #[.int .i64 f] w fun e w' => e = .returned (.int .i64 (finishedSize f)) ∧ w = w' := by
  by_cases h : within f 5 1004 = true
  · have hb := within_iff.1 h
    go_enter Try.func22, Try.ntmps22
    go_wp2_with (go_at_call 51; refine (l01In_any _ _ _ _).mono ?_; rintro e w' ⟨rfl, rfl⟩)
    go_ret
    exact ⟨ret_i (by simp [finishedSize, h]), rfl⟩
  · go_enter Try.func22, Try.ntmps22
    go_wp2_with (go_at_call 51; refine (l01In_any _ _ _ _).mono ?_; rintro e w' ⟨rfl, rfl⟩)
    go_ret
    exact ⟨ret_i (by simp [finishedSize, h]), rfl⟩

theorem triangleSideS_any (f : Int) (w : World) : Calls Try.prog 26 #[.int .i64 f] w fun e w' => e = .returned (.int .i64 (triangleSide f)) ∧ w = w' := by
  by_cases h : within f 1 1000 = true
  · have hb := within_iff.1 h
    go_enter Try.func26, Try.ntmps26
    go_wp2_with (go_at_call 51; refine (l01In_any _ _ _ _).mono ?_; rintro e w' ⟨rfl, rfl⟩)
    go_ret
    exact ⟨ret_i (by simp [triangleSide, h]), rfl⟩
  · go_enter Try.func26, Try.ntmps26
    go_wp2_with (go_at_call 51; refine (l01In_any _ _ _ _).mono ?_; rintro e w' ⟨rfl, rfl⟩)
    go_ret
    exact ⟨ret_i (by simp [triangleSide, h]), rfl⟩

theorem driftOfS_any (p o : Int) (w : World) : Calls Try.prog 20 #[.int .i64 p, .int .i64 o] w fun e w' => e = .returned (.int .i64 (driftOf p o)) ∧ w = w' := by
  by_cases h : within p 1 100 = true
  · have hb := within_iff.1 h
    by_cases h2 : within o (-4) 4 = true
    · have hb2 := within_iff.1 h2
      have hm := drift_bd hb.1 hb.2 hb2.1 hb2.2
      go_enter Try.func20, Try.ntmps20
      go_wp2_with (go_at_call 51; refine (l01In_any _ _ _ _).mono ?_; rintro e w' ⟨rfl, rfl⟩)
      go_ret
      exact ⟨ret_i (by simp [driftOf, h, h2]), rfl⟩
    · go_enter Try.func20, Try.ntmps20
      go_wp2_with (go_at_call 51; refine (l01In_any _ _ _ _).mono ?_; rintro e w' ⟨rfl, rfl⟩)
      go_ret
      exact ⟨ret_i (by simp [driftOf, h2]), rfl⟩
  · go_enter Try.func20, Try.ntmps20
    go_wp2_with (go_at_call 51; refine (l01In_any _ _ _ _).mono ?_; rintro e w' ⟨rfl, rfl⟩)
    go_ret
    exact ⟨ret_i (by simp [driftOf, h]), rfl⟩

theorem borderOkS_any (u d : Int) (W : World) : Calls Try.prog 15 #[.agg #[.int .i64 u, .int .i64 d]] W fun e w' => e = .returned (.bool (borderOk u d)) ∧ Below W.heap.size W w' := by
  go_enter Try.func15, Try.ntmps15
  go_wp2_with (go_at_call 51; refine (l01In_any _ _ _ _).mono ?_; rintro e w' ⟨rfl, rfl⟩)
  all_goals
    go_ret
    exact ⟨ret_b (by simp [borderOk, *]), by (repeat (first | exact Below.refl _ _ | assumption | (refine Below.drew ?_) | (refine below_drewN ?_ _) | (refine Below.alloc ?_ (by first | exact Nat.le_refl _ | (simp; done) | (simp; omega) | omega) _) | (refine Below.setCell ?_ (by first | exact Nat.le_refl _ | (simp; done) | (simp; omega) | omega) _) | (refine Below.trans ?_ (Below.mono (by assumption) (by first | exact Nat.le_refl _ | (simp; done) | (simp; omega) | omega)))))⟩

theorem areSidesS_any (a b : Int) (w : World) : Calls Try.prog 60 #[.int .i64 a, .int .i64 b] w fun e w' => e = .returned (.bool (areSides a b)) ∧ w = w' := by
  go_enter Try.func60, Try.ntmps60
  go_wp2_with (go_at_call 51; refine (l01In_any _ _ _ _).mono ?_; rintro e w' ⟨rfl, rfl⟩)
  all_goals
    go_ret
    exact ⟨ret_b (by simp [areSides, *]), rfl⟩

theorem fitsBorderS_any (u d a b : Int) (W : World) : Calls Try.prog 41 #[.agg #[.int .i64 u, .int .i64 d], .int .i64 a, .int .i64 b] W fun e w' => e = .returned (.bool (fitsBorder u d a b)) ∧ Below W.heap.size W w' := by
  by_cases h1 : borderOk u d = true
  · have hu := borderOk_bd h1
    by_cases h2 : areSides a b = true
    · have hs := areSides_bd h2
      go_enter Try.func41, Try.ntmps41
      go_wp2_with (first | (go_at_call 15; refine (borderOkS_any _ _ _ ).mono ?_; rintro e w1 ⟨rfl, hb1⟩; obtain ⟨hc1, hf1⟩ := bcell hb1; have hz1 := hb1.size) | (go_at_call 60; refine (areSidesS_any _ _ _).mono ?_; rintro e w' ⟨rfl, rfl⟩))
      all_goals
        go_ret
        exact ⟨ret_b (by simp [fitsBorder, *]), by (repeat (first | exact Below.refl _ _ | assumption | (refine Below.drew ?_) | (refine below_drewN ?_ _) | (refine Below.alloc ?_ (by first | exact Nat.le_refl _ | (simp; done) | (simp; omega) | omega) _) | (refine Below.setCell ?_ (by first | exact Nat.le_refl _ | (simp; done) | (simp; omega) | omega) _) | (refine Below.trans ?_ (Below.mono (by assumption) (by first | exact Nat.le_refl _ | (simp; done) | (simp; omega) | omega)))))⟩
    · go_enter Try.func41, Try.ntmps41
      go_wp2_with (first | (go_at_call 15; refine (borderOkS_any _ _ _ ).mono ?_; rintro e w1 ⟨rfl, hb1⟩; obtain ⟨hc1, hf1⟩ := bcell hb1; have hz1 := hb1.size) | (go_at_call 60; refine (areSidesS_any _ _ _).mono ?_; rintro e w' ⟨rfl, rfl⟩))
      go_ret
      exact ⟨ret_b (by simp [fitsBorder, *]), by (repeat (first | exact Below.refl _ _ | assumption | (refine Below.drew ?_) | (refine below_drewN ?_ _) | (refine Below.alloc ?_ (by first | exact Nat.le_refl _ | (simp; done) | (simp; omega) | omega) _) | (refine Below.setCell ?_ (by first | exact Nat.le_refl _ | (simp; done) | (simp; omega) | omega) _) | (refine Below.trans ?_ (Below.mono (by assumption) (by first | exact Nat.le_refl _ | (simp; done) | (simp; omega) | omega)))))⟩
  · go_enter Try.func41, Try.ntmps41
    go_wp2_with (first | (go_at_call 15; refine (borderOkS_any _ _ _ ).mono ?_; rintro e w1 ⟨rfl, hb1⟩; obtain ⟨hc1, hf1⟩ := bcell hb1; have hz1 := hb1.size) | (go_at_call 60; refine (areSidesS_any _ _ _).mono ?_; rintro e w' ⟨rfl, rfl⟩))
    go_ret
    exact ⟨ret_b (by simp [fitsBorder, *]), by (repeat (first | exact Below.refl _ _ | assumption | (refine Below.drew ?_) | (refine below_drewN ?_ _) | (refine Below.alloc ?_ (by first | exact Nat.le_refl _ | (simp; done) | (simp; omega) | omega) _) | (refine Below.setCell ?_ (by first | exact Nat.le_refl _ | (simp; done) | (simp; omega) | omega) _) | (refine Below.trans ?_ (Below.mono (by assumption) (by first | exact Nat.le_refl _ | (simp; done) | (simp; omega) | omega)))))⟩

theorem unitsAroundS_any (u d a b : Int) (W : World) : Calls Try.prog 49 #[.agg #[.int .i64 u, .int .i64 d], .int .i64 a, .int .i64 b] W fun e w' => e = .returned (.int .i64 (unitsAround u d a b)) ∧ Below W.heap.size W w' := by
  by_cases h1 : fitsBorder u d a b = true
  · have hu := fits_bd h1
    go_enter Try.func49, Try.ntmps49
    go_wp2_with (go_at_call 41; refine (fitsBorderS_any _ _ _ _ _ ).mono ?_; rintro e w1 ⟨rfl, hb1⟩; obtain ⟨hc1, hf1⟩ := bcell hb1; have hz1 := hb1.size)
    go_quiet (fail)
    go_wp2
    go_ret
    exact ⟨ret_i (by simp [unitsAround, *]), by (repeat (first | exact Below.refl _ _ | assumption | (refine Below.drew ?_) | (refine below_drewN ?_ _) | (refine Below.alloc ?_ (by first | exact Nat.le_refl _ | (simp; done) | (simp; omega) | omega) _) | (refine Below.setCell ?_ (by first | exact Nat.le_refl _ | (simp; done) | (simp; omega) | omega) _) | (refine Below.trans ?_ (Below.mono (by assumption) (by first | exact Nat.le_refl _ | (simp; done) | (simp; omega) | omega)))))⟩
  · go_enter Try.func49, Try.ntmps49
    go_wp2_with (go_at_call 41; refine (fitsBorderS_any _ _ _ _ _ ).mono ?_; rintro e w1 ⟨rfl, hb1⟩; obtain ⟨hc1, hf1⟩ := bcell hb1; have hz1 := hb1.size)
    go_ret
    exact ⟨ret_i (by simp [unitsAround, *]), by (repeat (first | exact Below.refl _ _ | assumption | (refine Below.drew ?_) | (refine below_drewN ?_ _) | (refine Below.alloc ?_ (by first | exact Nat.le_refl _ | (simp; done) | (simp; omega) | omega) _) | (refine Below.setCell ?_ (by first | exact Nat.le_refl _ | (simp; done) | (simp; omega) | omega) _) | (refine Below.trans ?_ (Below.mono (by assumption) (by first | exact Nat.le_refl _ | (simp; done) | (simp; omega) | omega)))))⟩

end Go.Proofs.Ytkhiffenaiakhaa
