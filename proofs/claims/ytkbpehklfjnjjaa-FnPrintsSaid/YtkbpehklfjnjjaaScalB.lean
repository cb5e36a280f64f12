/-
  Contracts of the scalar functions of the first seat, second part: BestUnit, OuterSize, SpacerFor, MayTurn.
-/
import Derived.Test.YtkbpehklfjnjjaaScalA
set_option linter.unusedVariables false
namespace Go.Proofs.Ytkbpehklfjnjjaa
open Go.RowKit

theorem mayTurnI_any (k q : Int) (W : World) : Calls Try.prog 27 #[.int .i64 k, .int .i64 q] W fun e w' => e = .returned (.bool (mayTurn k q)) ∧ Below W.heap.size W w' := by
  by_cases h1 : within k 0 2 = true
  · have hb := within_iff.1 h1
    by_cases h2 : within q (-100) 100 = true
    · have hb2 := within_iff.1 h2
      have hk : k = 0 ∨ k = 1 ∨ k = 2 := by omega
      have hX : mayTurn k q = (k == 0 || k == 1 && q % 2 == 0 || k == 2 && q % 4 == 0) := by simp [mayTurn, h1, h2]
      rcases hk with rfl | rfl | rfl
      all_goals
        have HX := Lib.hid hX
        clear hX
        go_enter Try.func27, Try.ntmps27
        go_wp2_with (go_at_call 48; refine (within_any _ _ _ _).mono ?_; rintro e w' ⟨rfl, rfl⟩)
      all_goals
        go_ret
        refine ⟨ret_b ?_, by (repeat (first | exact Below.refl _ _ | assumption | (refine Below.drew ?_) | (refine below_drewN ?_ _) | (refine Below.alloc ?_ (by first | exact Nat.le_refl _ | (simp; done) | (simp; omega) | omega) _) | (refine Below.setCell ?_ (by first | exact Nat.le_refl _ | (simp; done) | (simp; omega) | omega) _) | (refine Below.trans ?_ (Below.mono (by assumption) (by first | exact Nat.le_refl _ | (simp; done) | (simp; omega) | omega)))))⟩
        rw [HX.out]
        clear HX
        try simp only [tmod_beq]
        try simp only [tmod_zero] at *
        first | rfl | (simp; done) | (rw [Bool.eq_iff_iff]; simp; done) | (rw [Bool.eq_iff_iff]; simp; omega)
    · go_enter Try.func27, Try.ntmps27
      go_wp2_with (go_at_call 48; refine (within_any _ _ _ _).mono ?_; rintro e w' ⟨rfl, rfl⟩)
      go_ret
      exact ⟨ret_b (by simp [mayTurn, *]), by (repeat (first | exact Below.refl _ _ | assumption | (refine Below.drew ?_) | (refine below_drewN ?_ _) | (refine Below.alloc ?_ (by first | exact Nat.le_refl _ | (simp; done) | (simp; omega) | omega) _) | (refine Below.setCell ?_ (by first | exact Nat.le_refl _ | (simp; done) | (simp; omega) | omega) _) | (refine Below.trans ?_ (Below.mono (by assumption) (by first | exact Nat.le_refl _ | (simp; done) | (simp; omega) | omega)))))⟩
  · go_enter Try.func27, Try.ntmps27
    go_wp2_with (go_at_call 48; refine (within_any _ _ _ _).mono ?_; rintro e w' ⟨rfl, rfl⟩)
    go_ret
    exact ⟨ret_b (by simp [mayTurn, *]), by (repeat (first | exact Below.refl _ _ | assumption | (refine Below.drew ?_) | (refine below_drewN ?_ _) | (refine Below.alloc ?_ (by first | exact Nat.le_refl _ | (simp; done) | (simp; omega) | omega) _) | (refine Below.setCell ?_ (by first | exact Nat.le_refl _ | (simp; done) | (simp; omega) | omega) _) | (refine Below.trans ?_ (Below.mono (by assumption) (by first | exact Nat.le_refl _ | (simp; done) | (simp; omega) | omega)))))⟩

theorem mayTurnS_any (k q : Int) (W : World) : Calls Try.prog 45 #[.int .i64 k, .int .i64 q] W fun e w' => e = .returned (.bool (mayTurn k q)) ∧ Below W.heap.size W w' := by
  by_cases h1 : within k 0 2 = true
  · have hb := within_iff.1 h1
    by_cases h2 : within q (-100) 100 = true
    · have hb2 := within_iff.1 h2
      have hk : k = 0 ∨ k = 1 ∨ k = 2 := by omega
      have hX : mayTurn k q = (k == 0 || k == 1 && q % 2 == 0 || k == 2 && q % 4 == 0) := by simp [mayTurn, h1, h2]
      rcases hk with rfl | rfl | rfl
      all_goals
        have HX := Lib.hid hX
        clear hX
        go_enter Try.func45, Try.ntmps45
        go_wp2_with (go_at_call 44; refine (l01In_any _ _ _ _).mono ?_; rintro e w' ⟨rfl, rfl⟩)
      all_goals
        go_ret
        refine ⟨ret_b ?_, by (repeat (first | exact Below.refl _ _ | assumption | (refine Below.drew ?_) | (refine below_drewN ?_ _) | (refine Below.alloc ?_ (by first | exact Nat.le_refl _ | (simp; done) | (simp; omega) | omega) _) | (refine Below.setCell ?_ (by first | exact Nat.le_refl _ | (simp; done) | (simp; omega) | omega) _) | (refine Below.trans ?_ (Below.mono (by assumption) (by first | exact Nat.le_refl _ | (simp; done) | (simp; omega) | omega)))))⟩
        rw [HX.out]
        clear HX
        try simp only [tmod_beq]
        try simp only [tmod_zero] at *
        first | rfl | (simp; done) | (rw [Bool.eq_iff_iff]; simp; done) | (rw [Bool.eq_iff_iff]; simp; omega)
    · go_enter Try.func45, Try.ntmps45
      go_wp2_with (go_at_call 44; refine (l01In_any _ _ _ _).mono ?_; rintro e w' ⟨rfl, rfl⟩)
      go_ret
      exact ⟨ret_b (by simp [mayTurn, *]), by (repeat (first | exact Below.refl _ _ | assumption | (refine Below.drew ?_) | (refine below_drewN ?_ _) | (refine Below.alloc ?_ (by first | exact Nat.le_refl _ | (simp; done) | (simp; omega) | omega) _) | (refine Below.setCell ?_ (by first | exact Nat.le_refl _ | (simp; done) | (simp; omega) | omega) _) | (refine Below.trans ?_ (Below.mono (by assumption) (by first | exact Nat.le_refl _ | (simp; done) | (simp; omega) | omega)))))⟩
  · go_enter Try.func45, Try.ntmps45
    go_wp2_with (go_at_call 44; refine (l01In_any _ _ _ _).mono ?_; rintro e w' ⟨rfl, rfl⟩)
    go_ret
    exact ⟨ret_b (by simp [mayTurn, *]), by (repeat (first | exact Below.refl _ _ | assumption | (refine Below.drew ?_) | (refine below_drewN ?_ _) | (refine Below.alloc ?_ (by first | exact Nat.le_refl _ | (simp; done) | (simp; omega) | omega) _) | (refine Below.setCell ?_ (by first | exact Nat.le_refl _ | (simp; done) | (simp; omega) | omega) _) | (refine Below.trans ?_ (Below.mono (by assumption) (by first | exact Nat.le_refl _ | (simp; done) | (simp; omega) | omega)))))⟩

end Go.Proofs.Ytkbpehklfjnjjaa
