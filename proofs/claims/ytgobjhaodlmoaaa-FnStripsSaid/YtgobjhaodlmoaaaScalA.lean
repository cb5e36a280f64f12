/-
  Contracts of the scalar functions of the first seat: each returns what the plain function of the same name says.
-/
import Derived.Test.YtgobjhaodlmoaaaRows
import Derived.Test.YtgobjhaodlmoaaaBase
import Derived.Test.YtgobjhaodlmoaaaPlainA
set_option linter.unusedVariables false
namespace Go.Proofs.Ytgobjhaodlmoaaa
open Go.RowKit

theorem within_any (n a b : Int) (w : World) : Calls Try.prog 50 #[.int .i64 n, .int .i64 a, .int .i64 b] w fun e w' => e = .returned (.bool (within n a b)) ∧ w = w' := by
  go_enter Try.func50, Try.ntmps50
  go_wp2
  all_goals
    go_ret
    exact ⟨ret_b (by simp [within] <;> omega), rfl⟩
theorem l01In_any (n a b : Int) (w : World) : Calls Try.prog 49 #[.int .i64 n, .int .i64 a, .int .i64 b] w fun e w' => e = .returned (.bool (within n a b)) ∧ w = w' := by
  go_enter Try.func49, Try.ntmps49
  go_wp2
  all_goals
    go_ret
    exact ⟨ret_b (by simp [within] <;> omega), rfl⟩

theorem within_q (n a b : Int) (w : World) : Calls Try.prog 50 #[.int .i64 n, .int .i64 a, .int .i64 b] w fun e w' => e = .returned (.bool (within n a b)) ∧ w' = w := (within_any n a b w).mono fun _ _ h => ⟨h.1, h.2.symm⟩
theorem l01In_q (n a b : Int) (w : World) : Calls Try.prog 49 #[.int .i64 n, .int .i64 a, .int .i64 b] w fun e w' => e = .returned (.bool (within n a b)) ∧ w' = w := (l01In_any n a b w).mono fun _ _ h => ⟨h.1, h.2.symm⟩

theorem borderOkI_any (u d : Int) (W : World) : Calls Try.prog 43 #[.agg #[.int .i64 u, .int .i64 d]] W fun e w' => e = .returned (.bool (borderOk u d)) ∧ Below W.heap.size W w' := by
  go_enter Try.func43, Try.ntmps43
  go_wp2_with (go_at_call 50; refine (within_any _ _ _ _).mono ?_; rintro e w' ⟨rfl, rfl⟩)
  all_goals
    go_ret
    exact ⟨ret_b (by simp [borderOk, *]), by (repeat (first | exact Below.refl _ _ | assumption | (refine Below.drew ?_) | (refine below_drewN ?_ _) | (refine Below.alloc ?_ (by first | exact Nat.le_refl _ | (simp; done) | (simp; omega) | omega) _) | (refine Below.setCell ?_ (by first | exact Nat.le_refl _ | (simp; done) | (simp; omega) | omega) _) | (refine Below.trans ?_ (Below.mono (by assumption) (by first | exact Nat.le_refl _ | (simp; done) | (simp; omega) | omega)))))⟩

theorem areSidesI_any (a b : Int) (w : World) : Calls Try.prog 60 #[.int .i64 a, .int .i64 b] w fun e w' => e = .returned (.bool (areSides a b)) ∧ w = w' := by
  go_enter Try.func60, Try.ntmps60
  go_wp2_with (go_at_call 50; refine (within_any _ _ _ _).mono ?_; rintro e w' ⟨rfl, rfl⟩)
  all_goals
    go_ret
    exact ⟨ret_b (by simp [areSides, *]), rfl⟩

theorem fitsBorderI_any (u d a b : Int) (W : World) : Calls Try.prog 40 #[.agg #[.int .i64 u, .int .i64 d], .int .i64 a, .int .i64 b] W fun e w' => e = .returned (.bool (fitsBorder u d a b)) ∧ Below W.heap.size W w' := by
  by_cases h1 : borderOk u d = true
  · have hu := borderOk_bd h1
    by_cases h2 : areSides a b = true
    · have hs := areSides_bd h2
      go_enter Try.func40, Try.ntmps40
      go_wp2_with (first | (go_at_call 43; refine (borderOkI_any _ _ _ ).mono ?_; rintro e w1 ⟨rfl, hb1⟩; obtain ⟨hc1, hf1⟩ := bcell hb1; have hz1 := hb1.size; (try simp at hz1); (try (have hy1_W_0 : W.heap.size < w1.heap.size := (by omega))); (try (have hy1_W_1 : W.heap.size + 1 < w1.heap.size := (by omega))); (try (have hy1_W_2 : W.heap.size + 2 < w1.heap.size := (by omega))); (try (have hy1_wr_0 : wr.heap.size < w1.heap.size := (by omega))); (try (have hy1_wr_1 : wr.heap.size + 1 < w1.heap.size := (by omega))); (try (have hy1_wr_2 : wr.heap.size + 2 < w1.heap.size := (by omega))); (try (have hyb1 : b < w1.heap.size := (by omega)))) | (go_at_call 60; refine (areSidesI_any _ _ _).mono ?_; rintro e w' ⟨rfl, rfl⟩))
      all_goals
        go_ret
        exact ⟨ret_b (by simp [fitsBorder, *]), by (repeat (first | exact Below.refl _ _ | assumption | (refine Below.drew ?_) | (refine below_drewN ?_ _) | (refine Below.alloc ?_ (by first | exact Nat.le_refl _ | (simp; done) | (simp; omega) | omega) _) | (refine Below.setCell ?_ (by first | exact Nat.le_refl _ | (simp; done) | (simp; omega) | omega) _) | (refine Below.trans ?_ (Below.mono (by assumption) (by first | exact Nat.le_refl _ | (simp; done) | (simp; omega) | omega)))))⟩
    · go_enter Try.func40, Try.ntmps40
      go_wp2_with (first | (go_at_call 43; refine (borderOkI_any _ _ _ ).mono ?_; rintro e w1 ⟨rfl, hb1⟩; obtain ⟨hc1, hf1⟩ := bcell hb1; have hz1 := hb1.size; (try simp at hz1); (try (have hy1_W_0 : W.heap.size < w1.heap.size := (by omega))); (try (have hy1_W_1 : W.heap.size + 1 < w1.heap.size := (by omega))); (try (have hy1_W_2 : W.heap.size + 2 < w1.heap.size := (by omega))); (try (have hy1_wr_0 : wr.heap.size < w1.heap.size := (by omega))); (try (have hy1_wr_1 : wr.heap.size + 1 < w1.heap.size := (by omega))); (try (have hy1_wr_2 : wr.heap.size + 2 < w1.heap.size := (by omega))); (try (have hyb1 : b < w1.heap.size := (by omega)))) | (go_at_call 60; refine (areSidesI_any _ _ _).mono ?_; rintro e w' ⟨rfl, rfl⟩))
      go_ret
      exact ⟨ret_b (by simp [fitsBorder, *]), by (repeat (first | exact Below.refl _ _ | assumption | (refine Below.drew ?_) | (refine below_drewN ?_ _) | (refine Below.alloc ?_ (by first | exact Nat.le_refl _ | (simp; done) | (simp; omega) | omega) _) | (refine Below.setCell ?_ (by first | exact Nat.le_refl _ | (simp; done) | (simp; omega) | omega) _) | (refine Below.trans ?_ (Below.mono (by assumption) (by first | exact Nat.le_refl _ | (simp; done) | (simp; omega) | omega)))))⟩
  · go_enter Try.func40, Try.ntmps40
    go_wp2_with (first | (go_at_call 43; refine (borderOkI_any _ _ _ ).mono ?_; rintro e w1 ⟨rfl, hb1⟩; obtain ⟨hc1, hf1⟩ := bcell hb1; have hz1 := hb1.size; (try simp at hz1); (try (have hy1_W_0 : W.heap.size < w1.heap.size := (by omega))); (try (have hy1_W_1 : W.heap.size + 1 < w1.heap.size := (by omega))); (try (have hy1_W_2 : W.heap.size + 2 < w1.heap.size := (by omega))); (try (have hy1_wr_0 : wr.heap.size < w1.heap.size := (by omega))); (try (have hy1_wr_1 : wr.heap.size + 1 < w1.heap.size := (by omega))); (try (have hy1_wr_2 : wr.heap.size + 2 < w1.heap.size := (by omega))); (try (have hyb1 : b < w1.heap.size := (by omega)))) | (go_at_call 60; refine (areSidesI_any _ _ _).mono ?_; rintro e w' ⟨rfl, rfl⟩))
    go_ret
    exact ⟨ret_b (by simp [fitsBorder, *]), by (repeat (first | exact Below.refl _ _ | assumption | (refine Below.drew ?_) | (refine below_drewN ?_ _) | (refine Below.alloc ?_ (by first | exact Nat.le_refl _ | (simp; done) | (simp; omega) | omega) _) | (refine Below.setCell ?_ (by first | exact Nat.le_refl _ | (simp; done) | (simp; omega) | omega) _) | (refine Below.trans ?_ (Below.mono (by assumption) (by first | exact Nat.le_refl _ | (simp; done) | (simp; omega) | omega)))))⟩

theorem unitsAroundI_any (u d a b : Int) (W : World) : Calls Try.prog 39 #[.agg #[.int .i64 u, .int .i64 d], .int .i64 a, .int .i64 b] W fun e w' => e = .returned (.int .i64 (unitsAround u d a b)) ∧ Below W.heap.size W w' := by
  by_cases h1 : fitsBorder u d a b = true
  · have hu := fits_bd h1
    go_enter Try.func39, Try.ntmps39
    go_wp2_with (go_at_call 40; refine (fitsBorderI_any _ _ _ _ _ ).mono ?_; rintro e w1 ⟨rfl, hb1⟩; obtain ⟨hc1, hf1⟩ := bcell hb1; have hz1 := hb1.size; (try simp at hz1); (try (have hy1_W_0 : W.heap.size < w1.heap.size := (by omega))); (try (have hy1_W_1 : W.heap.size + 1 < w1.heap.size := (by omega))); (try (have hy1_W_2 : W.heap.size + 2 < w1.heap.size := (by omega))); (try (have hy1_wr_0 : wr.heap.size < w1.heap.size := (by omega))); (try (have hy1_wr_1 : wr.heap.size + 1 < w1.heap.size := (by omega))); (try (have hy1_wr_2 : wr.heap.size + 2 < w1.heap.size := (by omega))); (try (have hyb1 : b < w1.heap.size := (by omega))))
    go_quiet (fail)
    go_wp2
    go_ret
    exact ⟨ret_i (by simp [unitsAround, *]), by (repeat (first | exact Below.refl _ _ | assumption | (refine Below.drew ?_) | (refine below_drewN ?_ _) | (refine Below.alloc ?_ (by first | exact Nat.le_refl _ | (simp; done) | (simp; omega) | omega) _) | (refine Below.setCell ?_ (by first | exact Nat.le_refl _ | (simp; done) | (simp; omega) | omega) _) | (refine Below.trans ?_ (Below.mono (by assumption) (by first | exact Nat.le_refl _ | (simp; done) | (simp; omega) | omega)))))⟩
  · go_enter Try.func39, Try.ntmps39
    go_wp2_with (go_at_call 40; refine (fitsBorderI_any _ _ _ _ _ ).mono ?_; rintro e w1 ⟨rfl, hb1⟩; obtain ⟨hc1, hf1⟩ := bcell hb1; have hz1 := hb1.size; (try simp at hz1); (try (have hy1_W_0 : W.heap.size < w1.heap.size := (by omega))); (try (have hy1_W_1 : W.heap.size + 1 < w1.heap.size := (by omega))); (try (have hy1_W_2 : W.heap.size + 2 < w1.heap.size := (by omega))); (try (have hy1_wr_0 : wr.heap.size < w1.heap.size := (by omega))); (try (have hy1_wr_1 : wr.heap.size + 1 < w1.heap.size := (by omega))); (try (have hy1_wr_2 : wr.heap.size + 2 < w1.heap.size := (by omega))); (try (have hyb1 : b < w1.heap.size := (by omega))))
    go_ret
    exact ⟨ret_i (by simp [unitsAround, *]), by (repeat (first | exact Below.refl _ _ | assumption | (refine Below.drew ?_) | (refine below_drewN ?_ _) | (refine Below.alloc ?_ (by first | exact Nat.le_refl _ | (simp; done) | (simp; omega) | omega) _) | (refine Below.setCell ?_ (by first | exact Nat.le_refl _ | (simp; done) | (simp; omega) | omega) _) | (refine Below.trans ?_ (Below.mono (by assumption) (by first | exact Nat.le_refl _ | (simp; done) | (simp; omega) | omega)))))⟩

theorem borderOkS_any (u d : Int) (W : World) : Calls Try.prog 65 #[.agg #[.int .i64 u, .int .i64 d]] W fun e w' => e = .returned (.bool (borderOk u d)) ∧ Below W.heap.size W w' := by
  go_enter Try.func65, Try.ntmps65
  go_wp2_with (go_at_call 49; refine (l01In_any _ _ _ _).mono ?_; rintro e w' ⟨rfl, rfl⟩)
  all_goals
    go_ret
    exact ⟨ret_b (by simp [borderOk, *]), by (repeat (first | exact Below.refl _ _ | assumption | (refine Below.drew ?_) | (refine below_drewN ?_ _) | (refine Below.alloc ?_ (by first | exact Nat.le_refl _ | (simp; done) | (simp; omega) | omega) _) | (refine Below.setCell ?_ (by first | exact Nat.le_refl _ | (simp; done) | (simp; omega) | omega) _) | (refine Below.trans ?_ (Below.mono (by assumption) (by first | exact Nat.le_refl _ | (simp; done) | (simp; omega) | omega)))))⟩

theorem areSidesS_any (a b : Int) (w : World) : Calls Try.prog 66 #[.int .i64 a, .int .i64 b] w fun e w' => e = .returned (.bool (areSides a b)) ∧ w = w' := by
  go_enter Try.func66, Try.ntmps66
  go_wp2_with (go_at_call 49; refine (l01In_any _ _ _ _).mono ?_; rintro e w' ⟨rfl, rfl⟩)
  all_goals
    go_ret
    exact ⟨ret_b (by simp [areSides, *]), rfl⟩

theorem fitsBorderS_any (u d a b : Int) (W : World) : Calls Try.prog 57 #[.agg #[.int .i64 u, .int .i64 d], .int .i64 a, .int .i64 b] W fun e w' => e = .returned (.bool (fitsBorder u d a b)) ∧ Below W.heap.size W w' := by
  by_cases h1 : borderOk u d = true
  · have hu := borderOk_bd h1
    by_cases h2 : areSides a b = true
    · have hs := areSides_bd h2
      go_enter Try.func57, Try.ntmps57
      go_wp2_with (first | (go_at_call 65; refine (borderOkS_any _ _ _ ).mono ?_; rintro e w1 ⟨rfl, hb1⟩; obtain ⟨hc1, hf1⟩ := bcell hb1; have hz1 := hb1.size; (try simp at hz1); (try (have hy1_W_0 : W.heap.size < w1.heap.size := (by omega))); (try (have hy1_W_1 : W.heap.size + 1 < w1.heap.size := (by omega))); (try (have hy1_W_2 : W.heap.size + 2 < w1.heap.size := (by omega))); (try (have hy1_wr_0 : wr.heap.size < w1.heap.size := (by omega))); (try (have hy1_wr_1 : wr.heap.size + 1 < w1.heap.size := (by omega))); (try (have hy1_wr_2 : wr.heap.size + 2 < w1.heap.size := (by omega))); (try (have hyb1 : b < w1.heap.size := (by omega)))) | (go_at_call 66; refine (areSidesS_any _ _ _).mono ?_; rintro e w' ⟨rfl, rfl⟩))
      all_goals
        go_ret
        exact ⟨ret_b (by simp [fitsBorder, *]), by (repeat (first | exact Below.refl _ _ | assumption | (refine Below.drew ?_) | (refine below_drewN ?_ _) | (refine Below.alloc ?_ (by first | exact Nat.le_refl _ | (simp; done) | (simp; omega) | omega) _) | (refine Below.setCell ?_ (by first | exact Nat.le_refl _ | (simp; done) | (simp; omega) | omega) _) | (refine Below.trans ?_ (Below.mono (by assumption) (by first | exact Nat.le_refl _ | (simp; done) | (simp; omega) | omega)))))⟩
    · go_enter Try.func57, Try.ntmps57
      go_wp2_with (first | (go_at_call 65; refine (borderOkS_any _ _ _ ).mono ?_; rintro e w1 ⟨rfl, hb1⟩; obtain ⟨hc1, hf1⟩ := bcell hb1; have hz1 := hb1.size; (try simp at hz1); (try (have hy1_W_0 : W.heap.size < w1.heap.size := (by omega))); (try (have hy1_W_1 : W.heap.size + 1 < w1.heap.size := (by omega))); (try (have hy1_W_2 : W.heap.size + 2 < w1.heap.size := (by omega))); (try (have hy1_wr_0 : wr.heap.size < w1.heap.size := (by omega))); (try (have hy1_wr_1 : wr.heap.size + 1 < w1.heap.size := (by omega))); (try (have hy1_wr_2 : wr.heap.size + 2 < w1.heap.size := (by omega))); (try (have hyb1 : b < w1.heap.size := (by omega)))) | (go_at_call 66; refine (areSidesS_any _ _ _).mono ?_; rintro e w' ⟨rfl, rfl⟩))
      go_ret
      exact ⟨ret_b (by simp [fitsBorder, *]), by (repeat (first | exact Below.refl _ _ | assumption | (refine Below.drew ?_) | (refine below_drewN ?_ _) | (refine Below.alloc ?_ (by first | exact Nat.le_refl _ | (simp; done) | (simp; omega) | omega) _) | (refine Below.setCell ?_ (by first | exact Nat.le_refl _ | (simp; done) | (simp; omega) | omega) _) | (refine Below.trans ?_ (Below.mono (by assumption) (by first | exact Nat.le_refl _ | (simp; done) | (simp; omega) | omega)))))⟩
  · go_enter Try.func57, Try.ntmps57
    go_wp2_with (first | (go_at_call 65; refine (borderOkS_any _ _ _ ).mono ?_; rintro e w1 ⟨rfl, hb1⟩; obtain ⟨hc1, hf1⟩ := bcell hb1; have hz1 := hb1.size; (try simp at hz1); (try (have hy1_W_0 : W.heap.size < w1.heap.size := (by omega))); (try (have hy1_W_1 : W.heap.size + 1 < w1.heap.size := (by omega))); (try (have hy1_W_2 : W.heap.size + 2 < w1.heap.size := (by omega))); (try (have hy1_wr_0 : wr.heap.size < w1.heap.size := (by omega))); (try (have hy1_wr_1 : wr.heap.size + 1 < w1.heap.size := (by omega))); (try (have hy1_wr_2 : wr.heap.size + 2 < w1.heap.size := (by omega))); (try (have hyb1 : b < w1.heap.size := (by omega)))) | (go_at_call 66; refine (areSidesS_any _ _ _).mono ?_; rintro e w' ⟨rfl, rfl⟩))
    go_ret
    exact ⟨ret_b (by simp [fitsBorder, *]), by (repeat (first | exact Below.refl _ _ | assumption | (refine Below.drew ?_) | (refine below_drewN ?_ _) | (refine Below.alloc ?_ (by first | exact Nat.le_refl _ | (simp; done) | (simp; omega) | omega) _) | (refine Below.setCell ?_ (by first | exact Nat.le_refl _ | (simp; done) | (simp; omega) | omega) _) | (refine Below.trans ?_ (Below.mono (by assumption) (by first | exact Nat.le_refl _ | (simp; done) | (simp; omega) | omega)))))⟩

theorem unitsAroundS_any (u d a b : Int) (W : World) : Calls Try.prog 58 #[.agg #[.int .i64 u, .int .i64 d], .int .i64 a, .int .i64 b] W fun e w' => e = .returned (.int .i64 (unitsAround u d a b)) ∧ Below W.heap.size W w' := by
  by_cases h1 : fitsBorder u d a b = true
  · have hu := fits_bd h1
    go_enter Try.func58, Try.ntmps58
    go_wp2_with (go_at_call 57; refine (fitsBorderS_any _ _ _ _ _ ).mono ?_; rintro e w1 ⟨rfl, hb1⟩; obtain ⟨hc1, hf1⟩ := bcell hb1; have hz1 := hb1.size; (try simp at hz1); (try (have hy1_W_0 : W.heap.size < w1.heap.size := (by omega))); (try (have hy1_W_1 : W.heap.size + 1 < w1.heap.size := (by omega))); (try (have hy1_W_2 : W.heap.size + 2 < w1.heap.size := (by omega))); (try (have hy1_wr_0 : wr.heap.size < w1.heap.size := (by omega))); (try (have hy1_wr_1 : wr.heap.size + 1 < w1.heap.size := (by omega))); (try (have hy1_wr_2 : wr.heap.size + 2 < w1.heap.size := (by omega))); (try (have hyb1 : b < w1.heap.size := (by omega))))
    go_quiet (fail)
    go_wp2
    go_ret
    exact ⟨ret_i (by simp [unitsAround, *]), by (repeat (first | exact Below.refl _ _ | assumption | (refine Below.drew ?_) | (refine below_drewN ?_ _) | (refine Below.alloc ?_ (by first | exact Nat.le_refl _ | (simp; done) | (simp; omega) | omega) _) | (refine Below.setCell ?_ (by first | exact Nat.le_refl _ | (simp; done) | (simp; omega) | omega) _) | (refine Below.trans ?_ (Below.mono (by assumption) (by first | exact Nat.le_refl _ | (simp; done) | (simp; omega) | omega)))))⟩
  · go_enter Try.func58, Try.ntmps58
    go_wp2_with (go_at_call 57; refine (fitsBorderS_any _ _ _ _ _ ).mono ?_; rintro e w1 ⟨rfl, hb1⟩; obtain ⟨hc1, hf1⟩ := bcell hb1; have hz1 := hb1.size; (try simp at hz1); (try (have hy1_W_0 : W.heap.size < w1.heap.size := (by omega))); (try (have hy1_W_1 : W.heap.size + 1 < w1.heap.size := (by omega))); (try (have hy1_W_2 : W.heap.size + 2 < w1.heap.size := (by omega))); (try (have hy1_wr_0 : wr.heap.size < w1.heap.size := (by omega))); (try (have hy1_wr_1 : wr.heap.size + 1 < w1.heap.size := (by omega))); (try (have hy1_wr_2 : wr.heap.size + 2 < w1.heap.size := (by omega))); (try (have hyb1 : b < w1.heap.size := (by omega))))
    go_ret
    exact ⟨ret_i (by simp [unitsAround, *]), by (repeat (first | exact Below.refl _ _ | assumption | (refine Below.drew ?_) | (refine below_drewN ?_ _) | (refine Below.alloc ?_ (by first | exact Nat.le_refl _ | (simp; done) | (simp; omega) | omega) _) | (refine Below.setCell ?_ (by first | exact Nat.le_refl _ | (simp; done) | (simp; omega) | omega) _) | (refine Below.trans ?_ (Below.mono (by assumption) (by first | exact Nat.le_refl _ | (simp; done) | (simp; omega) | omega)))))⟩

end Go.Proofs.Ytgobjhaodlmoaaa
