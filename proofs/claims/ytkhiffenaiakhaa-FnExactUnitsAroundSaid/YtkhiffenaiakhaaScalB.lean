/-
  Contracts of the scalar functions of the first seat, second part: BestUnit, OuterSize, SpacerFor, MayTurn.
-/
import Derived.Test.YtkhiffenaiakhaaScalA
set_option linter.unusedVariables false
namespace Go.Proofs.Ytkhiffenaiakhaa
open Go.RowKit

theorem outerI_any (u d a b : Int) (W : World) : Calls Try.prog 44 #[.agg #[.int .i64 u, .int .i64 d], .int .i64 a, .int .i64 b] W fun e w' => e = .returned (.tuple #[.int .i64 (outer1 u d a b), .int .i64 (outer2 u d a b)]) ∧ Below W.heap.size W w' := by
  by_cases h1 : borderOk u d = true
  · have hu := borderOk_bd h1
    by_cases h2 : areSides a b = true
    · have hs := areSides_bd h2
      go_enter Try.func44, Try.ntmps44
      go_wp2_with (first | (go_at_call 17; refine (borderOkI_any _ _ _ ).mono ?_; rintro e w1 ⟨rfl, hb1⟩; obtain ⟨hc1, hf1⟩ := bcell hb1; have hz1 := hb1.size) | (go_at_call 61; refine (areSidesI_any _ _ _).mono ?_; rintro e w' ⟨rfl, rfl⟩))
      go_quiet (fail)
      go_wp2
      go_ret2
      exact ⟨ret_ii (by simp [outer1, *]) (by simp [outer2, *]), by (repeat (first | exact Below.refl _ _ | assumption | (refine Below.drew ?_) | (refine below_drewN ?_ _) | (refine Below.alloc ?_ (by first | exact Nat.le_refl _ | (simp; done) | (simp; omega) | omega) _) | (refine Below.setCell ?_ (by first | exact Nat.le_refl _ | (simp; done) | (simp; omega) | omega) _) | (refine Below.trans ?_ (Below.mono (by assumption) (by first | exact Nat.le_refl _ | (simp; done) | (simp; omega) | omega)))))⟩
    · go_enter Try.func44, Try.ntmps44
      go_wp2_with (first | (go_at_call 17; refine (borderOkI_any _ _ _ ).mono ?_; rintro e w1 ⟨rfl, hb1⟩; obtain ⟨hc1, hf1⟩ := bcell hb1; have hz1 := hb1.size) | (go_at_call 61; refine (areSidesI_any _ _ _).mono ?_; rintro e w' ⟨rfl, rfl⟩))
      go_ret2
      exact ⟨ret_ii (by simp [outer1, *]) (by simp [outer2, *]), by (repeat (first | exact Below.refl _ _ | assumption | (refine Below.drew ?_) | (refine below_drewN ?_ _) | (refine Below.alloc ?_ (by first | exact Nat.le_refl _ | (simp; done) | (simp; omega) | omega) _) | (refine Below.setCell ?_ (by first | exact Nat.le_refl _ | (simp; done) | (simp; omega) | omega) _) | (refine Below.trans ?_ (Below.mono (by assumption) (by first | exact Nat.le_refl _ | (simp; done) | (simp; omega) | omega)))))⟩
  · go_enter Try.func44, Try.ntmps44
    go_wp2_with (first | (go_at_call 17; refine (borderOkI_any _ _ _ ).mono ?_; rintro e w1 ⟨rfl, hb1⟩; obtain ⟨hc1, hf1⟩ := bcell hb1; have hz1 := hb1.size) | (go_at_call 61; refine (areSidesI_any _ _ _).mono ?_; rintro e w' ⟨rfl, rfl⟩))
    go_ret2
    exact ⟨ret_ii (by simp [outer1, *]) (by simp [outer2, *]), by (repeat (first | exact Below.refl _ _ | assumption | (refine Below.drew ?_) | (refine below_drewN ?_ _) | (refine Below.alloc ?_ (by first | exact Nat.le_refl _ | (simp; done) | (simp; omega) | omega) _) | (refine Below.setCell ?_ (by first | exact Nat.le_refl _ | (simp; done) | (simp; omega) | omega) _) | (refine Below.trans ?_ (Below.mono (by assumption) (by first | exact Nat.le_refl _ | (simp; done) | (simp; omega) | omega)))))⟩

theorem up_any (a b : Int) (w : World) (h1 : 1 ≤ a) (h2 : a ≤ 4000) (h3 : 1 ≤ b) (h4 : b ≤ 4000) : Calls Try.prog 62 #[.int .i64 a, .int .i64 b] w fun e w' => e = .returned (.int .i64 ((a + b - 1) / b)) ∧ w' = w := by
  go_enter Try.func62, Try.ntmps62
  go_wp2
  go_ret
  exact ⟨rfl, rfl⟩

theorem spacerI_any (u d a b : Int) (W : World) : Calls Try.prog 46 #[.agg #[.int .i64 u, .int .i64 d], .int .i64 a, .int .i64 b] W fun e w' => e = .returned (.tuple #[.int .i64 (spacer1 u d a b), .int .i64 (spacer2 u d a b)]) ∧ Below W.heap.size W w' := by
  by_cases h1 : borderOk u d = true
  · have hu := borderOk_bd h1
    by_cases h2 : areSides a b = true
    · have hs := areSides_bd h2
      have hm1 := up_mul_bd hu.1.1 hs.1.1
      have hm2 := up_mul_bd hu.1.1 hs.2.1
      have hv1 := up_bd hu.1.1 hs.1.1
      have hv2 := up_bd hu.1.1 hs.2.1
      go_enter Try.func46, Try.ntmps46
      go_wp2_with (first | (go_at_call 17; refine (borderOkI_any _ _ _ ).mono ?_; rintro e w1 ⟨rfl, hb1⟩; obtain ⟨hc1, hf1⟩ := bcell hb1; have hz1 := hb1.size) | (go_at_call 61; refine (areSidesI_any _ _ _).mono ?_; rintro e w' ⟨rfl, rfl⟩))
      go_quiet ((go_at_call 62; exact Calls.quiet_of_same (up_any _ _ _ (by omega) (by omega) (by omega) (by omega))))
      go_wp2
      go_ret2
      exact ⟨ret_ii (by simp [spacer1, *]) (by simp [spacer2, *]), by (repeat (first | exact Below.refl _ _ | assumption | (refine Below.drew ?_) | (refine below_drewN ?_ _) | (refine Below.alloc ?_ (by first | exact Nat.le_refl _ | (simp; done) | (simp; omega) | omega) _) | (refine Below.setCell ?_ (by first | exact Nat.le_refl _ | (simp; done) | (simp; omega) | omega) _) | (refine Below.trans ?_ (Below.mono (by assumption) (by first | exact Nat.le_refl _ | (simp; done) | (simp; omega) | omega)))))⟩
    · go_enter Try.func46, Try.ntmps46
      go_wp2_with (first | (go_at_call 17; refine (borderOkI_any _ _ _ ).mono ?_; rintro e w1 ⟨rfl, hb1⟩; obtain ⟨hc1, hf1⟩ := bcell hb1; have hz1 := hb1.size) | (go_at_call 61; refine (areSidesI_any _ _ _).mono ?_; rintro e w' ⟨rfl, rfl⟩))
      go_ret2
      exact ⟨ret_ii (by simp [spacer1, *]) (by simp [spacer2, *]), by (repeat (first | exact Below.refl _ _ | assumption | (refine Below.drew ?_) | (refine below_drewN ?_ _) | (refine Below.alloc ?_ (by first | exact Nat.le_refl _ | (simp; done) | (simp; omega) | omega) _) | (refine Below.setCell ?_ (by first | exact Nat.le_refl _ | (simp; done) | (simp; omega) | omega) _) | (refine Below.trans ?_ (Below.mono (by assumption) (by first | exact Nat.le_refl _ | (simp; done) | (simp; omega) | omega)))))⟩
  · go_enter Try.func46, Try.ntmps46
    go_wp2_with (first | (go_at_call 17; refine (borderOkI_any _ _ _ ).mono ?_; rintro e w1 ⟨rfl, hb1⟩; obtain ⟨hc1, hf1⟩ := bcell hb1; have hz1 := hb1.size) | (go_at_call 61; refine (areSidesI_any _ _ _).mono ?_; rintro e w' ⟨rfl, rfl⟩))
    go_ret2
    exact ⟨ret_ii (by simp [spacer1, *]) (by simp [spacer2, *]), by (repeat (first | exact Below.refl _ _ | assumption | (refine Below.drew ?_) | (refine below_drewN ?_ _) | (refine Below.alloc ?_ (by first | exact Nat.le_refl _ | (simp; done) | (simp; omega) | omega) _) | (refine Below.setCell ?_ (by first | exact Nat.le_refl _ | (simp; done) | (simp; omega) | omega) _) | (refine Below.trans ?_ (Below.mono (by assumption) (by first | exact Nat.le_refl _ | (simp; done) | (simp; omega) | omega)))))⟩

theorem bestUnitI_any (w h lo hi : Int) (W : World) : Calls Try.prog 48 #[.int .i64 w, .int .i64 h, .int .i64 lo, .int .i64 hi] W fun e w' => e = .returned (.int .i64 (bestUnit w h lo hi)) ∧ W = w' := by
  by_cases h1 : areSides w h = true
  · have hs := areSides_bd h1
    by_cases h2 : within lo 1 200 = true
    · have hb2 := within_iff.1 h2
      by_cases h3 : within hi 1 200 = true
      · have hb3 := within_iff.1 h3
        have hR : bestFrom w h lo (hi.toNat + 1) hi = bestUnit w h lo hi := by simp [bestUnit, h1, h2, h3]
        generalize bestUnit w h lo hi = R at *
        have HR := Lib.hid hR
        clear hR
        go_enter Try.func48, Try.ntmps48
        go_wp2_with (first | (go_at_call 52; refine (within_any _ _ _ _).mono ?_; rintro e w' ⟨rfl, rfl⟩) | (go_at_call 61; refine (areSidesI_any _ _ _).mono ?_; rintro e w' ⟨rfl, rfl⟩))
        go_loop [9] (fun u => ∃ x : Int, 0 ≤ x ∧ x ≤ 200 ∧ u = .int .i64 x ∧ Hid (bestFrom w h lo (x.toNat + 1) x = R)) (fun u => (intOf u).toNat)
        case atStart => exact ⟨hi, by omega, by omega, rfl, HR⟩
        case round =>
          obtain ⟨x, hx0, hx1, rfl, hR⟩ := hrel
          by_cases hlo : lo ≤ x
          · by_cases hd : (w % x == 0) = true
            · by_cases hd2 : (h % x == 0) = true
              · go_wp2
                go_ret
                exact ⟨ret_i (best_hit hlo hd hd2 hR.out), rfl⟩
              · go_wp2
                go_round
                case rel => exact ⟨x - 1, by omega, by omega, rfl, best_next hb2.1 hlo (by simp only [hd2]; simp) hR.out⟩
                case measure => simp [intOf]; omega
            · go_wp2
              go_round
              case rel => exact ⟨x - 1, by omega, by omega, rfl, best_next hb2.1 hlo (by simp only [hd]; simp) hR.out⟩
              case measure => simp [intOf]; omega
          · go_wp2
            go_ret
            exact ⟨ret_i (best_end (by omega) hR.out), rfl⟩
      · go_enter Try.func48, Try.ntmps48
        go_wp2_with (first | (go_at_call 52; refine (within_any _ _ _ _).mono ?_; rintro e w' ⟨rfl, rfl⟩) | (go_at_call 61; refine (areSidesI_any _ _ _).mono ?_; rintro e w' ⟨rfl, rfl⟩))
        go_ret
        exact ⟨ret_i (by simp [bestUnit, *]), rfl⟩
    · go_enter Try.func48, Try.ntmps48
      go_wp2_with (first | (go_at_call 52; refine (within_any _ _ _ _).mono ?_; rintro e w' ⟨rfl, rfl⟩) | (go_at_call 61; refine (areSidesI_any _ _ _).mono ?_; rintro e w' ⟨rfl, rfl⟩))
      go_ret
      exact ⟨ret_i (by simp [bestUnit, *]), rfl⟩
  · go_enter Try.func48, Try.ntmps48
    go_wp2_with (first | (go_at_call 52; refine (within_any _ _ _ _).mono ?_; rintro e w' ⟨rfl, rfl⟩) | (go_at_call 61; refine (areSidesI_any _ _ _).mono ?_; rintro e w' ⟨rfl, rfl⟩))
    go_ret
    exact ⟨ret_i (by simp [bestUnit, *]), rfl⟩

theorem mayTurnI_any (k q : Int) (W : World) : Calls Try.prog 25 #[.int .i64 k, .int .i64 q] W fun e w' => e = .returned (.bool (mayTurn k q)) ∧ Below W.heap.size W w' := by
  by_cases h1 : within k 0 2 = true
  · have hb := within_iff.1 h1
    by_cases h2 : within q (-100) 100 = true
    · have hb2 := within_iff.1 h2
      have hk : k = 0 ∨ k = 1 ∨ k = 2 := by omega
      have hX : mayTurn k q = (k == 0 || k == 1 && q % 2 == 0 || k == 2 && q % 4 == 0) := by simp [mayTurn, h1, h2]
      rcases hk with rfl | rfl | rfl
      all_goals
        have HX := Lib.hid hX
        clear hX
        go_enter Try.func25, Try.ntmps25
        go_wp2_with (go_at_call 52; refine (within_any _ _ _ _).mono ?_; rintro e w' ⟨rfl, rfl⟩)
      all_goals
        go_ret
        refine ⟨ret_b ?_, by (repeat (first | exact Below.refl _ _ | assumption | (refine Below.drew ?_) | (refine below_drewN ?_ _) | (refine Below.alloc ?_ (by first | exact Nat.le_refl _ | (simp; done) | (simp; omega) | omega) _) | (refine Below.setCell ?_ (by first | exact Nat.le_refl _ | (simp; done) | (simp; omega) | omega) _) | (refine Below.trans ?_ (Below.mono (by assumption) (by first | exact Nat.le_refl _ | (simp; done) | (simp; omega) | omega)))))⟩
        rw [HX.out]
        clear HX
        try simp only [tmod_beq]
        try simp only [tmod_zero] at *
        first | rfl | (simp; done) | (rw [Bool.eq_iff_iff]; simp; done) | (rw [Bool.eq_iff_iff]; simp; omega)
    · go_enter Try.func25, Try.ntmps25
      go_wp2_with (go_at_call 52; refine (within_any _ _ _ _).mono ?_; rintro e w' ⟨rfl, rfl⟩)
      go_ret
      exact ⟨ret_b (by simp [mayTurn, *]), by (repeat (first | exact Below.refl _ _ | assumption | (refine Below.drew ?_) | (refine below_drewN ?_ _) | (refine Below.alloc ?_ (by first | exact Nat.le_refl _ | (simp; done) | (simp; omega) | omega) _) | (refine Below.setCell ?_ (by first | exact Nat.le_refl _ | (simp; done) | (simp; omega) | omega) _) | (refine Below.trans ?_ (Below.mono (by assumption) (by first | exact Nat.le_refl _ | (simp; done) | (simp; omega) | omega)))))⟩
  · go_enter Try.func25, Try.ntmps25
    go_wp2_with (go_at_call 52; refine (within_any _ _ _ _).mono ?_; rintro e w' ⟨rfl, rfl⟩)
    go_ret
    exact ⟨ret_b (by simp [mayTurn, *]), by (repeat (first | exact Below.refl _ _ | assumption | (refine Below.drew ?_) | (refine below_drewN ?_ _) | (refine Below.alloc ?_ (by first | exact Nat.le_refl _ | (simp; done) | (simp; omega) | omega) _) | (refine Below.setCell ?_ (by first | exact Nat.le_refl _ | (simp; done) | (simp; omega) | omega) _) | (refine Below.trans ?_ (Below.mono (by assumption) (by first | exact Nat.le_refl _ | (simp; done) | (simp; omega) | omega)))))⟩

theorem outerS_any (u d a b : Int) (W : World) : Calls Try.prog 43 #[.agg #[.int .i64 u, .int .i64 d], .int .i64 a, .int .i64 b] W fun e w' => e = .returned (.tuple #[.int .i64 (outer1 u d a b), .int .i64 (outer2 u d a b)]) ∧ Below W.heap.size W w' := by
  by_cases h1 : borderOk u d = true
  · have hu := borderOk_bd h1
    by_cases h2 : areSides a b = true
    · have hs := areSides_bd h2
      go_enter Try.func43, Try.ntmps43
      go_wp2_with (first | (go_at_call 15; refine (borderOkS_any _ _ _ ).mono ?_; rintro e w1 ⟨rfl, hb1⟩; obtain ⟨hc1, hf1⟩ := bcell hb1; have hz1 := hb1.size) | (go_at_call 60; refine (areSidesS_any _ _ _).mono ?_; rintro e w' ⟨rfl, rfl⟩))
      go_quiet (fail)
      go_wp2
      go_ret2
      exact ⟨ret_ii (by simp [outer1, *]) (by simp [outer2, *]), by (repeat (first | exact Below.refl _ _ | assumption | (refine Below.drew ?_) | (refine below_drewN ?_ _) | (refine Below.alloc ?_ (by first | exact Nat.le_refl _ | (simp; done) | (simp; omega) | omega) _) | (refine Below.setCell ?_ (by first | exact Nat.le_refl _ | (simp; done) | (simp; omega) | omega) _) | (refine Below.trans ?_ (Below.mono (by assumption) (by first | exact Nat.le_refl _ | (simp; done) | (simp; omega) | omega)))))⟩
    · go_enter Try.func43, Try.ntmps43
      go_wp2_with (first | (go_at_call 15; refine (borderOkS_any _ _ _ ).mono ?_; rintro e w1 ⟨rfl, hb1⟩; obtain ⟨hc1, hf1⟩ := bcell hb1; have hz1 := hb1.size) | (go_at_call 60; refine (areSidesS_any _ _ _).mono ?_; rintro e w' ⟨rfl, rfl⟩))
      go_ret2
      exact ⟨ret_ii (by simp [outer1, *]) (by simp [outer2, *]), by (repeat (first | exact Below.refl _ _ | assumption | (refine Below.drew ?_) | (refine below_drewN ?_ _) | (refine Below.alloc ?_ (by first | exact Nat.le_refl _ | (simp; done) | (simp; omega) | omega) _) | (refine Below.setCell ?_ (by first | exact Nat.le_refl _ | (simp; done) | (simp; omega) | omega) _) | (refine Below.trans ?_ (Below.mono (by assumption) (by first | exact Nat.le_refl _ | (simp; done) | (simp; omega) | omega)))))⟩
  · go_enter Try.func43, Try.ntmps43
    go_wp2_with (first | (go_at_call 15; refine (borderOkS_any _ _ _ ).mono ?_; rintro e w1 ⟨rfl, hb1⟩; obtain ⟨hc1, hf1⟩ := bcell hb1; have hz1 := hb1.size) | (go_at_call 60; refine (areSidesS_any _ _ _).mono ?_; rintro e w' ⟨rfl, rfl⟩))
    go_ret2
    exact ⟨ret_ii (by simp [outer1, *]) (by simp [outer2, *]), by (repeat (first | exact Below.refl _ _ | assumption | (refine Below.drew ?_) | (refine below_drewN ?_ _) | (refine Below.alloc ?_ (by first | exact Nat.le_refl _ | (simp; done) | (simp; omega) | omega) _) | (refine Below.setCell ?_ (by first | exact Nat.le_refl _ | (simp; done) | (simp; omega) | omega) _) | (refine Below.trans ?_ (Below.mono (by assumption) (by first | exact Nat.le_refl _ | (simp; done) | (simp; omega) | omega)))))⟩

theorem spacerS_any (u d a b : Int) (W : World) : Calls Try.prog 45 #[.agg #[.int .i64 u, .int .i64 d], .int .i64 a, .int .i64 b] W fun e w' => e = .returned (.tuple #[.int .i64 (spacer1 u d a b), .int .i64 (spacer2 u d a b)]) ∧ Below W.heap.size W w' := by
  by_cases h1 : borderOk u d = true
  · have hu := borderOk_bd h1
    by_cases h2 : areSides a b = true
    · have hs := areSides_bd h2
      have hm1 := mod_bd (w := a) hu.1.1
      have hm2 := mod_bd (w := b) hu.1.1
      go_enter Try.func45, Try.ntmps45
      go_wp2_with (first | (go_at_call 15; refine (borderOkS_any _ _ _ ).mono ?_; rintro e w1 ⟨rfl, hb1⟩; obtain ⟨hc1, hf1⟩ := bcell hb1; have hz1 := hb1.size) | (go_at_call 60; refine (areSidesS_any _ _ _).mono ?_; rintro e w' ⟨rfl, rfl⟩))
      go_quiet (fail)
      go_wp2
      go_ret2
      exact ⟨ret_ii (by rw [spacer_eq hu.1.1 hs.1.1]; simp [spacer1, spacer, *]) (by rw [spacer_eq hu.1.1 hs.2.1]; simp [spacer2, spacer, *]), by (repeat (first | exact Below.refl _ _ | assumption | (refine Below.drew ?_) | (refine below_drewN ?_ _) | (refine Below.alloc ?_ (by first | exact Nat.le_refl _ | (simp; done) | (simp; omega) | omega) _) | (refine Below.setCell ?_ (by first | exact Nat.le_refl _ | (simp; done) | (simp; omega) | omega) _) | (refine Below.trans ?_ (Below.mono (by assumption) (by first | exact Nat.le_refl _ | (simp; done) | (simp; omega) | omega)))))⟩
    · go_enter Try.func45, Try.ntmps45
      go_wp2_with (first | (go_at_call 15; refine (borderOkS_any _ _ _ ).mono ?_; rintro e w1 ⟨rfl, hb1⟩; obtain ⟨hc1, hf1⟩ := bcell hb1; have hz1 := hb1.size) | (go_at_call 60; refine (areSidesS_any _ _ _).mono ?_; rintro e w' ⟨rfl, rfl⟩))
      go_ret2
      exact ⟨ret_ii (by simp [spacer1, *]) (by simp [spacer2, *]), by (repeat (first | exact Below.refl _ _ | assumption | (refine Below.drew ?_) | (refine below_drewN ?_ _) | (refine Below.alloc ?_ (by first | exact Nat.le_refl _ | (simp; done) | (simp; omega) | omega) _) | (refine Below.setCell ?_ (by first | exact Nat.le_refl _ | (simp; done) | (simp; omega) | omega) _) | (refine Below.trans ?_ (Below.mono (by assumption) (by first | exact Nat.le_refl _ | (simp; done) | (simp; omega) | omega)))))⟩
  · go_enter Try.func45, Try.ntmps45
    go_wp2_with (first | (go_at_call 15; refine (borderOkS_any _ _ _ ).mono ?_; rintro e w1 ⟨rfl, hb1⟩; obtain ⟨hc1, hf1⟩ := bcell hb1; have hz1 := hb1.size) | (go_at_call 60; refine (areSidesS_any _ _ _).mono ?_; rintro e w' ⟨rfl, rfl⟩))
    go_ret2
    exact ⟨ret_ii (by simp [spacer1, *]) (by simp [spacer2, *]), by (repeat (first | exact Below.refl _ _ | assumption | (refine Below.drew ?_) | (refine below_drewN ?_ _) | (refine Below.alloc ?_ (by first | exact Nat.le_refl _ | (simp; done) | (simp; omega) | omega) _) | (refine Below.setCell ?_ (by first | exact Nat.le_refl _ | (simp; done) | (simp; omega) | omega) _) | (refine Below.trans ?_ (Below.mono (by assumption) (by first | exact Nat.le_refl _ | (simp; done) | (simp; omega) | omega)))))⟩

theorem bestUnitS_any (w h lo hi : Int) (W : World) : Calls Try.prog 47 #[.int .i64 w, .int .i64 h, .int .i64 lo, .int .i64 hi] W fun e w' => e = .returned (.int .i64 (bestUnit w h lo hi)) ∧ W = w' := by
  by_cases h1 : areSides w h = true
  · have hs := areSides_bd h1
    by_cases h2 : within lo 1 200 = true
    · have hb2 := within_iff.1 h2
      by_cases h3 : within hi 1 200 = true
      · have hb3 := within_iff.1 h3
        have hR : bestFrom w h lo (hi.toNat + 1) hi = bestUnit w h lo hi := by simp [bestUnit, h1, h2, h3]
        generalize bestUnit w h lo hi = R at *
        have HR := Lib.hid hR
        clear hR
        go_enter Try.func47, Try.ntmps47
        go_wp2_with (first | (go_at_call 51; refine (l01In_any _ _ _ _).mono ?_; rintro e w' ⟨rfl, rfl⟩) | (go_at_call 60; refine (areSidesS_any _ _ _).mono ?_; rintro e w' ⟨rfl, rfl⟩))
        go_loop [9] (fun u => ∃ x : Int, 0 ≤ x ∧ x ≤ 200 ∧ u = .int .i64 x ∧ Hid (bestFrom w h lo (x.toNat + 1) x = R)) (fun u => (intOf u).toNat)
        case atStart => exact ⟨hi, by omega, by omega, rfl, HR⟩
        case round =>
          obtain ⟨x, hx0, hx1, rfl, hR⟩ := hrel
          by_cases hlo : lo ≤ x
          · by_cases hd : (w % x == 0) = true
            · by_cases hd2 : (h % x == 0) = true
              · go_wp2
                go_ret
                exact ⟨ret_i (best_hit hlo hd hd2 hR.out), rfl⟩
              · go_wp2
                go_round
                case rel => exact ⟨x - 1, by omega, by omega, rfl, best_next hb2.1 hlo (by simp only [hd2]; simp) hR.out⟩
                case measure => simp [intOf]; omega
            · go_wp2
              go_round
              case rel => exact ⟨x - 1, by omega, by omega, rfl, best_next hb2.1 hlo (by simp only [hd]; simp) hR.out⟩
              case measure => simp [intOf]; omega
          · go_wp2
            go_ret
            exact ⟨ret_i (best_end (by omega) hR.out), rfl⟩
      · go_enter Try.func47, Try.ntmps47
        go_wp2_with (first | (go_at_call 51; refine (l01In_any _ _ _ _).mono ?_; rintro e w' ⟨rfl, rfl⟩) | (go_at_call 60; refine (areSidesS_any _ _ _).mono ?_; rintro e w' ⟨rfl, rfl⟩))
        go_ret
        exact ⟨ret_i (by simp [bestUnit, *]), rfl⟩
    · go_enter Try.func47, Try.ntmps47
      go_wp2_with (first | (go_at_call 51; refine (l01In_any _ _ _ _).mono ?_; rintro e w' ⟨rfl, rfl⟩) | (go_at_call 60; refine (areSidesS_any _ _ _).mono ?_; rintro e w' ⟨rfl, rfl⟩))
      go_ret
      exact ⟨ret_i (by simp [bestUnit, *]), rfl⟩
  · go_enter Try.func47, Try.ntmps47
    go_wp2_with (first | (go_at_call 51; refine (l01In_any _ _ _ _).mono ?_; rintro e w' ⟨rfl, rfl⟩) | (go_at_call 60; refine (areSidesS_any _ _ _).mono ?_; rintro e w' ⟨rfl, rfl⟩))
    go_ret
    exact ⟨ret_i (by simp [bestUnit, *]), rfl⟩

theorem mayTurnS_any (k q : Int) (W : World) : Calls Try.prog 24 #[.int .i64 k, .int .i64 q] W fun e w' => e = .returned (.bool (mayTurn k q)) ∧ Below W.heap.size W w' := by
  by_cases h1 : within k 0 2 = true
  · have hb := within_iff.1 h1
    by_cases h2 : within q (-100) 100 = true
    · have hb2 := within_iff.1 h2
      have hk : k = 0 ∨ k = 1 ∨ k = 2 := by omega
      have hX : mayTurn k q = (k == 0 || k == 1 && q % 2 == 0 || k == 2 && q % 4 == 0) := by simp [mayTurn, h1, h2]
      rcases hk with rfl | rfl | rfl
      all_goals
        have HX := Lib.hid hX
        clear hX
        go_enter Try.func24, Try.ntmps24
        go_wp2_with (go_at_call 51; refine (l01In_any _ _ _ _).mono ?_; rintro e w' ⟨rfl, rfl⟩)
      all_goals
        go_ret
        refine ⟨ret_b ?_, by (repeat (first | exact Below.refl _ _ | assumption | (refine Below.drew ?_) | (refine below_drewN ?_ _) | (refine Below.alloc ?_ (by first | exact Nat.le_refl _ | (simp; done) | (simp; omega) | omega) _) | (refine Below.setCell ?_ (by first | exact Nat.le_refl _ | (simp; done) | (simp; omega) | omega) _) | (refine Below.trans ?_ (Below.mono (by assumption) (by first | exact Nat.le_refl _ | (simp; done) | (simp; omega) | omega)))))⟩
        rw [HX.out]
        clear HX
        try simp only [tmod_beq]
        try simp only [tmod_zero] at *
        first | rfl | (simp; done) | (rw [Bool.eq_iff_iff]; simp; done) | (rw [Bool.eq_iff_iff]; simp; omega)
    · go_enter Try.func24, Try.ntmps24
      go_wp2_with (go_at_call 51; refine (l01In_any _ _ _ _).mono ?_; rintro e w' ⟨rfl, rfl⟩)
      go_ret
      exact ⟨ret_b (by simp [mayTurn, *]), by (repeat (first | exact Below.refl _ _ | assumption | (refine Below.drew ?_) | (refine below_drewN ?_ _) | (refine Below.alloc ?_ (by first | exact Nat.le_refl _ | (simp; done) | (simp; omega) | omega) _) | (refine Below.setCell ?_ (by first | exact Nat.le_refl _ | (simp; done) | (simp; omega) | omega) _) | (refine Below.trans ?_ (Below.mono (by assumption) (by first | exact Nat.le_refl _ | (simp; done) | (simp; omega) | omega)))))⟩
  · go_enter Try.func24, Try.ntmps24
    go_wp2_with (go_at_call 51; refine (l01In_any _ _ _ _).mono ?_; rintro e w' ⟨rfl, rfl⟩)
    go_ret
    exact ⟨ret_b (by simp [mayTurn, *]), by (repeat (first | exact Below.refl _ _ | assumption | (refine Below.drew ?_) | (refine below_drewN ?_ _) | (refine Below.alloc ?_ (by first | exact Nat.le_refl _ | (simp; done) | (simp; omega) | omega) _) | (refine Below.setCell ?_ (by first | exact Nat.le_refl _ | (simp; done) | (simp; omega) | omega) _) | (refine Below.trans ?_ (Below.mono (by assumption) (by first | exact Nat.le_refl _ | (simp; done) | (simp; omega) | omega)))))⟩

end Go.Proofs.Ytkhiffenaiakhaa
