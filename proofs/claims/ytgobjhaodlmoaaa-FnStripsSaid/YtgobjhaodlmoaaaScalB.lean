/-
  Contracts of the scalar functions of the first seat, second part: BestUnit, OuterSize, SpacerFor, MayTurn.
-/
import Derived.Test.YtgobjhaodlmoaaaScalA
set_option linter.unusedVariables false
namespace Go.Proofs.Ytgobjhaodlmoaaa
open Go.RowKit

theorem outerI_any (u d a b : Int) (W : World) : Calls Try.prog 41 #[.agg #[.int .i64 u, .int .i64 d], .int .i64 a, .int .i64 b] W fun e w' => e = .returned (.tuple #[.int .i64 (outer1 u d a b), .int .i64 (outer2 u d a b)]) ∧ Below W.heap.size W w' := by
  by_cases h1 : borderOk u d = true
  · have hu := borderOk_bd h1
    by_cases h2 : areSides a b = true
    · have hs := areSides_bd h2
      go_enter Try.func41, Try.ntmps41
      go_wp2_with (first | (go_at_call 43; refine (borderOkI_any _ _ _ ).mono ?_; rintro e w1 ⟨rfl, hb1⟩; obtain ⟨hc1, hf1⟩ := bcell hb1; have hz1 := hb1.size; (try simp at hz1); (try (have hy1_W_0 : W.heap.size < w1.heap.size := (by omega))); (try (have hy1_W_1 : W.heap.size + 1 < w1.heap.size := (by omega))); (try (have hy1_W_2 : W.heap.size + 2 < w1.heap.size := (by omega))); (try (have hy1_wr_0 : wr.heap.size < w1.heap.size := (by omega))); (try (have hy1_wr_1 : wr.heap.size + 1 < w1.heap.size := (by omega))); (try (have hy1_wr_2 : wr.heap.size + 2 < w1.heap.size := (by omega))); (try (have hyb1 : b < w1.heap.size := (by omega)))) | (go_at_call 60; refine (areSidesI_any _ _ _).mono ?_; rintro e w' ⟨rfl, rfl⟩))
      go_quiet (fail)
      go_wp2
      go_ret2
      exact ⟨ret_ii (by simp [outer1, *]) (by simp [outer2, *]), by (repeat (first | exact Below.refl _ _ | assumption | (refine Below.drew ?_) | (refine below_drewN ?_ _) | (refine Below.alloc ?_ (by first | exact Nat.le_refl _ | (simp; done) | (simp; omega) | omega) _) | (refine Below.setCell ?_ (by first | exact Nat.le_refl _ | (simp; done) | (simp; omega) | omega) _) | (refine Below.trans ?_ (Below.mono (by assumption) (by first | exact Nat.le_refl _ | (simp; done) | (simp; omega) | omega)))))⟩
    · go_enter Try.func41, Try.ntmps41
      go_wp2_with (first | (go_at_call 43; refine (borderOkI_any _ _ _ ).mono ?_; rintro e w1 ⟨rfl, hb1⟩; obtain ⟨hc1, hf1⟩ := bcell hb1; have hz1 := hb1.size; (try simp at hz1); (try (have hy1_W_0 : W.heap.size < w1.heap.size := (by omega))); (try (have hy1_W_1 : W.heap.size + 1 < w1.heap.size := (by omega))); (try (have hy1_W_2 : W.heap.size + 2 < w1.heap.size := (by omega))); (try (have hy1_wr_0 : wr.heap.size < w1.heap.size := (by omega))); (try (have hy1_wr_1 : wr.heap.size + 1 < w1.heap.size := (by omega))); (try (have hy1_wr_2 : wr.heap.size + 2 < w1.heap.size := (by omega))); (try (have hyb1 : b < w1.heap.size := (by omega)))) | (go_at_call 60; refine (areSidesI_any _ _ _).mono ?_; rintro e w' ⟨rfl, rfl⟩))
      go_ret2
      exact ⟨ret_ii (by simp [outer1, *]) (by simp [outer2, *]), by (repeat (first | exact Below.refl _ _ | assumption | (refine Below.drew ?_) | (refine below_drewN ?_ _) | (refine Below.alloc ?_ (by first | exact Nat.le_refl _ | (simp; done) | (simp; omega) | omega) _) | (refine Below.setCell ?_ (by first | exact Nat.le_refl _ | (simp; done) | (simp; omega) | omega) _) | (refine Below.trans ?_ (Below.mono (by assumption) (by first | exact Nat.le_refl _ | (simp; done) | (simp; omega) | omega)))))⟩
  · go_enter Try.func41, Try.ntmps41
    go_wp2_with (first | (go_at_call 43; refine (borderOkI_any _ _ _ ).mono ?_; rintro e w1 ⟨rfl, hb1⟩; obtain ⟨hc1, hf1⟩ := bcell hb1; have hz1 := hb1.size; (try simp at hz1); (try (have hy1_W_0 : W.heap.size < w1.heap.size := (by omega))); (try (have hy1_W_1 : W.heap.size + 1 < w1.heap.size := (by omega))); (try (have hy1_W_2 : W.heap.size + 2 < w1.heap.size := (by omega))); (try (have hy1_wr_0 : wr.heap.size < w1.heap.size := (by omega))); (try (have hy1_wr_1 : wr.heap.size + 1 < w1.heap.size := (by omega))); (try (have hy1_wr_2 : wr.heap.size + 2 < w1.heap.size := (by omega))); (try (have hyb1 : b < w1.heap.size := (by omega)))) | (go_at_call 60; refine (areSidesI_any _ _ _).mono ?_; rintro e w' ⟨rfl, rfl⟩))
    go_ret2
    exact ⟨ret_ii (by simp [outer1, *]) (by simp [outer2, *]), by (repeat (first | exact Below.refl _ _ | assumption | (refine Below.drew ?_) | (refine below_drewN ?_ _) | (refine Below.alloc ?_ (by first | exact Nat.le_refl _ | (simp; done) | (simp; omega) | omega) _) | (refine Below.setCell ?_ (by first | exact Nat.le_refl _ | (simp; done) | (simp; omega) | omega) _) | (refine Below.trans ?_ (Below.mono (by assumption) (by first | exact Nat.le_refl _ | (simp; done) | (simp; omega) | omega)))))⟩

theorem up_any (a b : Int) (w : World) (h1 : 1 ≤ a) (h2 : a ≤ 4000) (h3 : 1 ≤ b) (h4 : b ≤ 4000) : Calls Try.prog 51 #[.int .i64 a, .int .i64 b] w fun e w' => e = .returned (.int .i64 ((a + b - 1) / b)) ∧ w' = w := by
  go_enter Try.func51, Try.ntmps51
  go_wp2
  go_ret
  exact ⟨rfl, rfl⟩

theorem spacerI_any (u d a b : Int) (W : World) : Calls Try.prog 38 #[.agg #[.int .i64 u, .int .i64 d], .int .i64 a, .int .i64 b] W fun e w' => e = .returned (.tuple #[.int .i64 (spacer1 u d a b), .int .i64 (spacer2 u d a b)]) ∧ Below W.heap.size W w' := by
  by_cases h1 : borderOk u d = true
  · have hu := borderOk_bd h1
    by_cases h2 : areSides a b = true
    · have hs := areSides_bd h2
      have hm1 := up_mul_bd hu.1.1 hs.1.1
      have hm2 := up_mul_bd hu.1.1 hs.2.1
      have hv1 := up_bd hu.1.1 hs.1.1
      have hv2 := up_bd hu.1.1 hs.2.1
      go_enter Try.func38, Try.ntmps38
      go_wp2_with (first | (go_at_call 43; refine (borderOkI_any _ _ _ ).mono ?_; rintro e w1 ⟨rfl, hb1⟩; obtain ⟨hc1, hf1⟩ := bcell hb1; have hz1 := hb1.size; (try simp at hz1); (try (have hy1_W_0 : W.heap.size < w1.heap.size := (by omega))); (try (have hy1_W_1 : W.heap.size + 1 < w1.heap.size := (by omega))); (try (have hy1_W_2 : W.heap.size + 2 < w1.heap.size := (by omega))); (try (have hy1_wr_0 : wr.heap.size < w1.heap.size := (by omega))); (try (have hy1_wr_1 : wr.heap.size + 1 < w1.heap.size := (by omega))); (try (have hy1_wr_2 : wr.heap.size + 2 < w1.heap.size := (by omega))); (try (have hyb1 : b < w1.heap.size := (by omega)))) | (go_at_call 60; refine (areSidesI_any _ _ _).mono ?_; rintro e w' ⟨rfl, rfl⟩))
      go_quiet ((go_at_call 51; exact Calls.quiet_of_same (up_any _ _ _ (by omega) (by omega) (by omega) (by omega))))
      go_wp2
      go_ret2
      exact ⟨ret_ii (by simp [spacer1, *]) (by simp [spacer2, *]), by (repeat (first | exact Below.refl _ _ | assumption | (refine Below.drew ?_) | (refine below_drewN ?_ _) | (refine Below.alloc ?_ (by first | exact Nat.le_refl _ | (simp; done) | (simp; omega) | omega) _) | (refine Below.setCell ?_ (by first | exact Nat.le_refl _ | (simp; done) | (simp; omega) | omega) _) | (refine Below.trans ?_ (Below.mono (by assumption) (by first | exact Nat.le_refl _ | (simp; done) | (simp; omega) | omega)))))⟩
    · go_enter Try.func38, Try.ntmps38
      go_wp2_with (first | (go_at_call 43; refine (borderOkI_any _ _ _ ).mono ?_; rintro e w1 ⟨rfl, hb1⟩; obtain ⟨hc1, hf1⟩ := bcell hb1; have hz1 := hb1.size; (try simp at hz1); (try (have hy1_W_0 : W.heap.size < w1.heap.size := (by omega))); (try (have hy1_W_1 : W.heap.size + 1 < w1.heap.size := (by omega))); (try (have hy1_W_2 : W.heap.size + 2 < w1.heap.size := (by omega))); (try (have hy1_wr_0 : wr.heap.size < w1.heap.size := (by omega))); (try (have hy1_wr_1 : wr.heap.size + 1 < w1.heap.size := (by omega))); (try (have hy1_wr_2 : wr.heap.size + 2 < w1.heap.size := (by omega))); (try (have hyb1 : b < w1.heap.size := (by omega)))) | (go_at_call 60; refine (areSidesI_any _ _ _).mono ?_; rintro e w' ⟨rfl, rfl⟩))
      go_ret2
      exact ⟨ret_ii (by simp [spacer1, *]) (by simp [spacer2, *]), by (repeat (first | exact Below.refl _ _ | assumption | (refine Below.drew ?_) | (refine below_drewN ?_ _) | (refine Below.alloc ?_ (by first | exact Nat.le_refl _ | (simp; done) | (simp; omega) | omega) _) | (refine Below.setCell ?_ (by first | exact Nat.le_refl _ | (simp; done) | (simp; omega) | omega) _) | (refine Below.trans ?_ (Below.mono (by assumption) (by first | exact Nat.le_refl _ | (simp; done) | (simp; omega) | omega)))))⟩
  · go_enter Try.func38, Try.ntmps38
    go_wp2_with (first | (go_at_call 43; refine (borderOkI_any _ _ _ ).mono ?_; rintro e w1 ⟨rfl, hb1⟩; obtain ⟨hc1, hf1⟩ := bcell hb1; have hz1 := hb1.size; (try simp at hz1); (try (have hy1_W_0 : W.heap.size < w1.heap.size := (by omega))); (try (have hy1_W_1 : W.heap.size + 1 < w1.heap.size := (by omega))); (try (have hy1_W_2 : W.heap.size + 2 < w1.heap.size := (by omega))); (try (have hy1_wr_0 : wr.heap.size < w1.heap.size := (by omega))); (try (have hy1_wr_1 : wr.heap.size + 1 < w1.heap.size := (by omega))); (try (have hy1_wr_2 : wr.heap.size + 2 < w1.heap.size := (by omega))); (try (have hyb1 : b < w1.heap.size := (by omega)))) | (go_at_call 60; refine (areSidesI_any _ _ _).mono ?_; rintro e w' ⟨rfl, rfl⟩))
    go_ret2
    exact ⟨ret_ii (by simp [spacer1, *]) (by simp [spacer2, *]), by (repeat (first | exact Below.refl _ _ | assumption | (refine Below.drew ?_) | (refine below_drewN ?_ _) | (refine Below.alloc ?_ (by first | exact Nat.le_refl _ | (simp; done) | (simp; omega) | omega) _) | (refine Below.setCell ?_ (by first | exact Nat.le_refl _ | (simp; done) | (simp; omega) | omega) _) | (refine Below.trans ?_ (Below.mono (by assumption) (by first | exact Nat.le_refl _ | (simp; done) | (simp; omega) | omega)))))⟩

theorem bestUnitI_any (w h lo hi : Int) (W : World) : Calls Try.prog 42 #[.int .i64 w, .int .i64 h, .int .i64 lo, .int .i64 hi] W fun e w' => e = .returned (.int .i64 (bestUnit w h lo hi)) ∧ W = w' := by
  by_cases h1 : areSides w h = true
  · have hs := areSides_bd h1
    by_cases h2 : within lo 1 200 = true
    · have hb2 := within_iff.1 h2
      by_cases h3 : within hi 1 200 = true
      · have hb3 := within_iff.1 h3
        have hR : bestFrom w h lo (hi.toNat + 1) hi = bestUnit w h lo hi := by simp [bestUnit, h1, h2, h3]
        generalize bestUnit w h lo hi = R at *
        have HR := Lib.hid hR
        clear hR
        go_enter Try.func42, Try.ntmps42
        go_wp2_with (first | (go_at_call 50; refine (within_any _ _ _ _).mono ?_; rintro e w' ⟨rfl, rfl⟩) | (go_at_call 60; refine (areSidesI_any _ _ _).mono ?_; rintro e w' ⟨rfl, rfl⟩))
        go_loop [9] (fun u => ∃ x : Int, 0 ≤ x ∧ x ≤ 200 ∧ u = .int .i64 x ∧ Hid (bestFrom w h lo (x.toNat + 1) x = R)) (fun u => (intOf u).toNat)
        case atStart => exact ⟨hi, by omega, by omega, rfl, HR⟩
        case round =>
          obtain ⟨x, hx0, hx1, rfl, hR⟩ := hrel
          by_cases hlo : lo ≤ x
          · by_cases hd : (w % x == 0) = true
            · by_cases hd2 : (h % x == 0) = true
              · go_wp2
                go_ret
                exact ⟨ret_i (best_hit hlo hd hd2 hR.out), rfl⟩
              · go_wp2
                go_round
                case rel => exact ⟨x - 1, by omega, by omega, rfl, best_next hb2.1 hlo (by simp only [hd2]; simp) hR.out⟩
                case measure => simp [intOf]; omega
            · go_wp2
              go_round
              case rel => exact ⟨x - 1, by omega, by omega, rfl, best_next hb2.1 hlo (by simp only [hd]; simp) hR.out⟩
              case measure => simp [intOf]; omega
          · go_wp2
            go_ret
            exact ⟨ret_i (best_end (by omega) hR.out), rfl⟩
      · go_enter Try.func42, Try.ntmps42
        go_wp2_with (first | (go_at_call 50; refine (within_any _ _ _ _).mono ?_; rintro e w' ⟨rfl, rfl⟩) | (go_at_call 60; refine (areSidesI_any _ _ _).mono ?_; rintro e w' ⟨rfl, rfl⟩))
        go_ret
        exact ⟨ret_i (by simp [bestUnit, *]), rfl⟩
    · go_enter Try.func42, Try.ntmps42
      go_wp2_with (first | (go_at_call 50; refine (within_any _ _ _ _).mono ?_; rintro e w' ⟨rfl, rfl⟩) | (go_at_call 60; refine (areSidesI_any _ _ _).mono ?_; rintro e w' ⟨rfl, rfl⟩))
      go_ret
      exact ⟨ret_i (by simp [bestUnit, *]), rfl⟩
  · go_enter Try.func42, Try.ntmps42
    go_wp2_with (first | (go_at_call 50; refine (within_any _ _ _ _).mono ?_; rintro e w' ⟨rfl, rfl⟩) | (go_at_call 60; refine (areSidesI_any _ _ _).mono ?_; rintro e w' ⟨rfl, rfl⟩))
    go_ret
    exact ⟨ret_i (by simp [bestUnit, *]), rfl⟩

theorem toBorder_any (u d : Int) (W : World) : Calls Try.prog 35 #[.agg #[.int .i64 u, .int .i64 d]] W fun e w' => e = .returned (.agg #[.int .i64 u, .int .i64 d]) ∧ Below W.heap.size W w' := by
  go_enter Try.func35, Try.ntmps35
  go_wp2
  exact bodyPost_ret (v := .agg #[.int .i64 u, .int .i64 d]) (by simp [results, Try.results35, go_sem]) rfl ⟨rfl, by (repeat (first | exact Below.refl _ _ | assumption | (refine Below.drew ?_) | (refine below_drewN ?_ _) | (refine Below.alloc ?_ (by first | exact Nat.le_refl _ | (simp; done) | (simp; omega) | omega) _) | (refine Below.setCell ?_ (by first | exact Nat.le_refl _ | (simp; done) | (simp; omega) | omega) _) | (refine Below.trans ?_ (Below.mono (by assumption) (by first | exact Nat.le_refl _ | (simp; done) | (simp; omega) | omega)))))⟩

end Go.Proofs.Ytgobjhaodlmoaaa
