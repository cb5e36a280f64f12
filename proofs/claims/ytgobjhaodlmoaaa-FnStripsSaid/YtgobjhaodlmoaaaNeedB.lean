/-
  Contracts over needs: strips and their lengths.
-/
import Derived.Test.YtgobjhaodlmoaaaNeedA
import Derived.Test.YtgobjhaodlmoaaaScalB
set_option linter.unusedVariables false
namespace Go.Proofs.Ytgobjhaodlmoaaa
open Go.RowKit

theorem exchanged_any (x y z : Int) (W : World) : Calls Try.prog 53 #[.agg #[.int .i64 x, .int .i64 y, .int .i64 z]] W fun e w' => e = .returned (.agg #[.int .i64 y, .int .i64 x, .int .i64 z]) ∧ Below W.heap.size W w' := by
  go_enter Try.func53, Try.ntmps53
  go_wp2
  exact bodyPost_ret (v := .agg #[.int .i64 y, .int .i64 x, .int .i64 z]) (by simp [results, Try.results53, go_sem]) rfl ⟨rfl, by (repeat (first | exact Below.refl _ _ | assumption | (refine Below.drew ?_) | (refine below_drewN ?_ _) | (refine Below.alloc ?_ (by first | exact Nat.le_refl _ | (simp; done) | (simp; omega) | omega) _) | (refine Below.setCell ?_ (by first | exact Nat.le_refl _ | (simp; done) | (simp; omega) | omega) _) | (refine Below.trans ?_ (Below.mono (by assumption) (by first | exact Nat.le_refl _ | (simp; done) | (simp; omega) | omega)))))⟩

theorem l15Turn_any (x y z : Int) (W : World) : Calls Try.prog 52 #[.agg #[.int .i64 x, .int .i64 y, .int .i64 z]] W fun e w' => e = .returned (.agg #[.int .i64 y, .int .i64 x, .int .i64 z]) ∧ Below W.heap.size W w' := by
  go_enter Try.func52, Try.ntmps52
  go_wp2
  exact bodyPost_ret (v := .agg #[.int .i64 y, .int .i64 x, .int .i64 z]) (by simp [results, Try.results52, go_sem]) rfl ⟨rfl, by (repeat (first | exact Below.refl _ _ | assumption | (refine Below.drew ?_) | (refine below_drewN ?_ _) | (refine Below.alloc ?_ (by first | exact Nat.le_refl _ | (simp; done) | (simp; omega) | omega) _) | (refine Below.setCell ?_ (by first | exact Nat.le_refl _ | (simp; done) | (simp; omega) | omega) _) | (refine Below.trans ?_ (Below.mono (by assumption) (by first | exact Nat.le_refl _ | (simp; done) | (simp; omega) | omega)))))⟩

theorem rd_need1 (w : World) (g : Nat) (hg : g = w.heap.size) (x : Need) (T : TypeId) : Rd (w.alloc (.cells #[.int .i64 x.W, .int .i64 x.H, .int .i64 x.Count] T)) (some ⟨g, 0, none⟩) 1 3 [x] needC := by
  subst hg
  refine ⟨rfl, fun _ => ⟨w.heap.size, 0, rfl, by simp, fun i y j u h1 h2 => ?_⟩⟩
  rw [cell_of_row _ _ _ _ _ _ (heap_alloc_new w _)]
  cases i with
  | zero =>
    simp at h1
    subst h1
    simpa [needC] using h2
  | succ i => simp at h1

theorem stripCountI_any (x y z : Int) (m : Int) (W : World) : Calls Try.prog 15 #[.agg #[.int .i64 x, .int .i64 y, .int .i64 z], .int .i64 m] W fun e w' => e = .returned (.int .i64 (stripCount ⟨x, y, z⟩ m)) ∧ Below W.heap.size W w' := by
  have hone : needsOk [⟨x, y, z⟩] = needOk ⟨x, y, z⟩ := by simp [needsOk]
  by_cases h1 : needOk ⟨x, y, z⟩ = true
  · have hb := needOk_bd h1
    rw [h1] at hone
    simp only at hb
    by_cases h2 : within m 1 1000 = true
    · have hb2 := within_iff.1 h2
      by_cases h3 : x ≤ m
      · have he := each_bd hb.1.1 h3
        have hce := ceil_bd hb.2.2.1 he.1
        go_enter Try.func15, Try.ntmps15
        go_wp2_with (first | (go_at_call 21; refine (needsOkI_any _ _ _ [⟨x, y, z⟩] _ (rd_need1 _ _ (by simp) ⟨x, y, z⟩ _) (by omega)).mono ?_; rintro e w1 ⟨rfl, hb1⟩; obtain ⟨hc1, hf1⟩ := bcell hb1; have hz1 := hb1.size; simp at hz1; (try (have hy1_W_0 : W.heap.size < w1.heap.size := (by omega))); (try (have hy1_W_1 : W.heap.size + 1 < w1.heap.size := (by omega))); (try (have hy1_W_2 : W.heap.size + 2 < w1.heap.size := (by omega))); (try (have hy1_wr_0 : wr.heap.size < w1.heap.size := (by omega))); (try (have hy1_wr_1 : wr.heap.size + 1 < w1.heap.size := (by omega))); (try (have hy1_wr_2 : wr.heap.size + 2 < w1.heap.size := (by omega))); (try (have hyb1 : b < w1.heap.size := (by omega)))) | (go_at_call 50; refine (within_any _ _ _ _).mono ?_; rintro e w' ⟨rfl, rfl⟩))
        go_quiet ((go_at_call 51; exact Calls.quiet_of_same (up_any _ _ _ (by omega) (by omega) (by omega) (by omega))))
        go_wp2
        go_ret
        exact ⟨ret_i (by simp [stripCount, *]), by (repeat (first | exact Below.refl _ _ | assumption | (refine Below.drew ?_) | (refine below_drewN ?_ _) | (refine Below.alloc ?_ (by first | exact Nat.le_refl _ | (simp; done) | (simp; omega) | omega) _) | (refine Below.setCell ?_ (by first | exact Nat.le_refl _ | (simp; done) | (simp; omega) | omega) _) | (refine Below.trans ?_ (Below.mono (by assumption) (by first | exact Nat.le_refl _ | (simp; done) | (simp; omega) | omega)))))⟩
      · go_enter Try.func15, Try.ntmps15
        go_wp2_with (first | (go_at_call 21; refine (needsOkI_any _ _ _ [⟨x, y, z⟩] _ (rd_need1 _ _ (by simp) ⟨x, y, z⟩ _) (by omega)).mono ?_; rintro e w1 ⟨rfl, hb1⟩; obtain ⟨hc1, hf1⟩ := bcell hb1; have hz1 := hb1.size; simp at hz1; (try (have hy1_W_0 : W.heap.size < w1.heap.size := (by omega))); (try (have hy1_W_1 : W.heap.size + 1 < w1.heap.size := (by omega))); (try (have hy1_W_2 : W.heap.size + 2 < w1.heap.size := (by omega))); (try (have hy1_wr_0 : wr.heap.size < w1.heap.size := (by omega))); (try (have hy1_wr_1 : wr.heap.size + 1 < w1.heap.size := (by omega))); (try (have hy1_wr_2 : wr.heap.size + 2 < w1.heap.size := (by omega))); (try (have hyb1 : b < w1.heap.size := (by omega)))) | (go_at_call 50; refine (within_any _ _ _ _).mono ?_; rintro e w' ⟨rfl, rfl⟩))
        go_ret
        exact ⟨ret_i (by unfold stripCount; rw [if_neg (by simp only; omega)]), by (repeat (first | exact Below.refl _ _ | assumption | (refine Below.drew ?_) | (refine below_drewN ?_ _) | (refine Below.alloc ?_ (by first | exact Nat.le_refl _ | (simp; done) | (simp; omega) | omega) _) | (refine Below.setCell ?_ (by first | exact Nat.le_refl _ | (simp; done) | (simp; omega) | omega) _) | (refine Below.trans ?_ (Below.mono (by assumption) (by first | exact Nat.le_refl _ | (simp; done) | (simp; omega) | omega)))))⟩
    · go_enter Try.func15, Try.ntmps15
      go_wp2_with (first | (go_at_call 21; refine (needsOkI_any _ _ _ [⟨x, y, z⟩] _ (rd_need1 _ _ (by simp) ⟨x, y, z⟩ _) (by omega)).mono ?_; rintro e w1 ⟨rfl, hb1⟩; obtain ⟨hc1, hf1⟩ := bcell hb1; have hz1 := hb1.size; simp at hz1; (try (have hy1_W_0 : W.heap.size < w1.heap.size := (by omega))); (try (have hy1_W_1 : W.heap.size + 1 < w1.heap.size := (by omega))); (try (have hy1_W_2 : W.heap.size + 2 < w1.heap.size := (by omega))); (try (have hy1_wr_0 : wr.heap.size < w1.heap.size := (by omega))); (try (have hy1_wr_1 : wr.heap.size + 1 < w1.heap.size := (by omega))); (try (have hy1_wr_2 : wr.heap.size + 2 < w1.heap.size := (by omega))); (try (have hyb1 : b < w1.heap.size := (by omega)))) | (go_at_call 50; refine (within_any _ _ _ _).mono ?_; rintro e w' ⟨rfl, rfl⟩))
      go_ret
      exact ⟨ret_i (by simp [stripCount, *]), by (repeat (first | exact Below.refl _ _ | assumption | (refine Below.drew ?_) | (refine below_drewN ?_ _) | (refine Below.alloc ?_ (by first | exact Nat.le_refl _ | (simp; done) | (simp; omega) | omega) _) | (refine Below.setCell ?_ (by first | exact Nat.le_refl _ | (simp; done) | (simp; omega) | omega) _) | (refine Below.trans ?_ (Below.mono (by assumption) (by first | exact Nat.le_refl _ | (simp; done) | (simp; omega) | omega)))))⟩
  · have h1' : needOk ⟨x, y, z⟩ = false := by simpa using h1
    rw [h1'] at hone
    go_enter Try.func15, Try.ntmps15
    go_wp2_with (first | (go_at_call 21; refine (needsOkI_any _ _ _ [⟨x, y, z⟩] _ (rd_need1 _ _ (by simp) ⟨x, y, z⟩ _) (by omega)).mono ?_; rintro e w1 ⟨rfl, hb1⟩; obtain ⟨hc1, hf1⟩ := bcell hb1; have hz1 := hb1.size; simp at hz1; (try (have hy1_W_0 : W.heap.size < w1.heap.size := (by omega))); (try (have hy1_W_1 : W.heap.size + 1 < w1.heap.size := (by omega))); (try (have hy1_W_2 : W.heap.size + 2 < w1.heap.size := (by omega))); (try (have hy1_wr_0 : wr.heap.size < w1.heap.size := (by omega))); (try (have hy1_wr_1 : wr.heap.size + 1 < w1.heap.size := (by omega))); (try (have hy1_wr_2 : wr.heap.size + 2 < w1.heap.size := (by omega))); (try (have hyb1 : b < w1.heap.size := (by omega)))) | (go_at_call 50; refine (within_any _ _ _ _).mono ?_; rintro e w' ⟨rfl, rfl⟩))
    go_ret
    exact ⟨ret_i (by simp [stripCount, *]), by (repeat (first | exact Below.refl _ _ | assumption | (refine Below.drew ?_) | (refine below_drewN ?_ _) | (refine Below.alloc ?_ (by first | exact Nat.le_refl _ | (simp; done) | (simp; omega) | omega) _) | (refine Below.setCell ?_ (by first | exact Nat.le_refl _ | (simp; done) | (simp; omega) | omega) _) | (refine Below.trans ?_ (Below.mono (by assumption) (by first | exact Nat.le_refl _ | (simp; done) | (simp; omega) | omega)))))⟩

theorem stripCountS_any (x y z : Int) (m : Int) (W : World) : Calls Try.prog 13 #[.agg #[.int .i64 x, .int .i64 y, .int .i64 z], .int .i64 m] W fun e w' => e = .returned (.int .i64 (stripCount ⟨x, y, z⟩ m)) ∧ Below W.heap.size W w' := by
  have hone : needsOk [⟨x, y, z⟩] = needOk ⟨x, y, z⟩ := by simp [needsOk]
  by_cases h1 : needOk ⟨x, y, z⟩ = true
  · have hb := needOk_bd h1
    rw [h1] at hone
    simp only at hb
    by_cases h2 : within m 1 1000 = true
    · have hb2 := within_iff.1 h2
      by_cases h3 : x ≤ m
      · have he := each_bd hb.1.1 h3
        have hce := ceil_bd hb.2.2.1 he.1
        go_enter Try.func13, Try.ntmps13
        go_wp2_with (first | (go_at_call 48; refine (l15Ok_any _ _ _ _ ).mono ?_; rintro e w1 ⟨rfl, hb1⟩; obtain ⟨hc1, hf1⟩ := bcell hb1; have hz1 := hb1.size; (try simp at hz1); (try (have hy1_W_0 : W.heap.size < w1.heap.size := (by omega))); (try (have hy1_W_1 : W.heap.size + 1 < w1.heap.size := (by omega))); (try (have hy1_W_2 : W.heap.size + 2 < w1.heap.size := (by omega))); (try (have hy1_wr_0 : wr.heap.size < w1.heap.size := (by omega))); (try (have hy1_wr_1 : wr.heap.size + 1 < w1.heap.size := (by omega))); (try (have hy1_wr_2 : wr.heap.size + 2 < w1.heap.size := (by omega))); (try (have hyb1 : b < w1.heap.size := (by omega)))) | (go_at_call 49; refine (l01In_any _ _ _ _).mono ?_; rintro e w' ⟨rfl, rfl⟩))
        go_ret
        exact ⟨ret_i (by simp [stripCount, *]), by (repeat (first | exact Below.refl _ _ | assumption | (refine Below.drew ?_) | (refine below_drewN ?_ _) | (refine Below.alloc ?_ (by first | exact Nat.le_refl _ | (simp; done) | (simp; omega) | omega) _) | (refine Below.setCell ?_ (by first | exact Nat.le_refl _ | (simp; done) | (simp; omega) | omega) _) | (refine Below.trans ?_ (Below.mono (by assumption) (by first | exact Nat.le_refl _ | (simp; done) | (simp; omega) | omega)))))⟩
      · go_enter Try.func13, Try.ntmps13
        go_wp2_with (first | (go_at_call 48; refine (l15Ok_any _ _ _ _ ).mono ?_; rintro e w1 ⟨rfl, hb1⟩; obtain ⟨hc1, hf1⟩ := bcell hb1; have hz1 := hb1.size; (try simp at hz1); (try (have hy1_W_0 : W.heap.size < w1.heap.size := (by omega))); (try (have hy1_W_1 : W.heap.size + 1 < w1.heap.size := (by omega))); (try (have hy1_W_2 : W.heap.size + 2 < w1.heap.size := (by omega))); (try (have hy1_wr_0 : wr.heap.size < w1.heap.size := (by omega))); (try (have hy1_wr_1 : wr.heap.size + 1 < w1.heap.size := (by omega))); (try (have hy1_wr_2 : wr.heap.size + 2 < w1.heap.size := (by omega))); (try (have hyb1 : b < w1.heap.size := (by omega)))) | (go_at_call 49; refine (l01In_any _ _ _ _).mono ?_; rintro e w' ⟨rfl, rfl⟩))
        go_ret
        exact ⟨ret_i (by unfold stripCount; rw [if_neg (by simp only; omega)]), by (repeat (first | exact Below.refl _ _ | assumption | (refine Below.drew ?_) | (refine below_drewN ?_ _) | (refine Below.alloc ?_ (by first | exact Nat.le_refl _ | (simp; done) | (simp; omega) | omega) _) | (refine Below.setCell ?_ (by first | exact Nat.le_refl _ | (simp; done) | (simp; omega) | omega) _) | (refine Below.trans ?_ (Below.mono (by assumption) (by first | exact Nat.le_refl _ | (simp; done) | (simp; omega) | omega)))))⟩
    · go_enter Try.func13, Try.ntmps13
      go_wp2_with (first | (go_at_call 48; refine (l15Ok_any _ _ _ _ ).mono ?_; rintro e w1 ⟨rfl, hb1⟩; obtain ⟨hc1, hf1⟩ := bcell hb1; have hz1 := hb1.size; (try simp at hz1); (try (have hy1_W_0 : W.heap.size < w1.heap.size := (by omega))); (try (have hy1_W_1 : W.heap.size + 1 < w1.heap.size := (by omega))); (try (have hy1_W_2 : W.heap.size + 2 < w1.heap.size := (by omega))); (try (have hy1_wr_0 : wr.heap.size < w1.heap.size := (by omega))); (try (have hy1_wr_1 : wr.heap.size + 1 < w1.heap.size := (by omega))); (try (have hy1_wr_2 : wr.heap.size + 2 < w1.heap.size := (by omega))); (try (have hyb1 : b < w1.heap.size := (by omega)))) | (go_at_call 49; refine (l01In_any _ _ _ _).mono ?_; rintro e w' ⟨rfl, rfl⟩))
      go_ret
      exact ⟨ret_i (by simp [stripCount, *]), by (repeat (first | exact Below.refl _ _ | assumption | (refine Below.drew ?_) | (refine below_drewN ?_ _) | (refine Below.alloc ?_ (by first | exact Nat.le_refl _ | (simp; done) | (simp; omega) | omega) _) | (refine Below.setCell ?_ (by first | exact Nat.le_refl _ | (simp; done) | (simp; omega) | omega) _) | (refine Below.trans ?_ (Below.mono (by assumption) (by first | exact Nat.le_refl _ | (simp; done) | (simp; omega) | omega)))))⟩
  · have h1' : needOk ⟨x, y, z⟩ = false := by simpa using h1
    rw [h1'] at hone
    go_enter Try.func13, Try.ntmps13
    go_wp2_with (first | (go_at_call 48; refine (l15Ok_any _ _ _ _ ).mono ?_; rintro e w1 ⟨rfl, hb1⟩; obtain ⟨hc1, hf1⟩ := bcell hb1; have hz1 := hb1.size; (try simp at hz1); (try (have hy1_W_0 : W.heap.size < w1.heap.size := (by omega))); (try (have hy1_W_1 : W.heap.size + 1 < w1.heap.size := (by omega))); (try (have hy1_W_2 : W.heap.size + 2 < w1.heap.size := (by omega))); (try (have hy1_wr_0 : wr.heap.size < w1.heap.size := (by omega))); (try (have hy1_wr_1 : wr.heap.size + 1 < w1.heap.size := (by omega))); (try (have hy1_wr_2 : wr.heap.size + 2 < w1.heap.size := (by omega))); (try (have hyb1 : b < w1.heap.size := (by omega)))) | (go_at_call 49; refine (l01In_any _ _ _ _).mono ?_; rintro e w' ⟨rfl, rfl⟩))
    go_ret
    exact ⟨ret_i (by simp [stripCount, *]), by (repeat (first | exact Below.refl _ _ | assumption | (refine Below.drew ?_) | (refine below_drewN ?_ _) | (refine Below.alloc ?_ (by first | exact Nat.le_refl _ | (simp; done) | (simp; omega) | omega) _) | (refine Below.setCell ?_ (by first | exact Nat.le_refl _ | (simp; done) | (simp; omega) | omega) _) | (refine Below.trans ?_ (Below.mono (by assumption) (by first | exact Nat.le_refl _ | (simp; done) | (simp; omega) | omega)))))⟩

theorem better_no {x y z m : Int} (h : stripCount ⟨x, y, z⟩ m = -1) : false = betterWay ⟨x, y, z⟩ m := by simp [betterWay, h]
theorem better_one {x y z m : Int} (h : 1 ≤ stripCount ⟨x, y, z⟩ m) (h2 : stripCount ⟨y, x, z⟩ m = -1) : true = betterWay ⟨x, y, z⟩ m := by
  have h3 : (stripCount ⟨x, y, z⟩ m != -1) = true := by rw [bne_iff_ne]; omega
  simp only [betterWay, turned, h3, h2]
  rfl
theorem better_two {x y z m : Int} (h : 1 ≤ stripCount ⟨x, y, z⟩ m) (h2 : 1 ≤ stripCount ⟨y, x, z⟩ m) : decide (stripCount ⟨x, y, z⟩ m * y ≤ stripCount ⟨y, x, z⟩ m * x) = betterWay ⟨x, y, z⟩ m := by
  have h3 : (stripCount ⟨x, y, z⟩ m != -1) = true := by rw [bne_iff_ne]; omega
  have h4 : (stripCount ⟨y, x, z⟩ m == -1) = false := by rw [beq_eq_false_iff_ne]; omega
  simp only [betterWay, turned, h3, h4, Bool.true_and, Bool.false_or]
  exact decide_eq_decide.2 Iff.rfl
theorem better_def (x y z m : Int) : (stripCount ⟨x, y, z⟩ m != -1 && (stripCount ⟨y, x, z⟩ m == -1 || decide (stripCount ⟨x, y, z⟩ m * y ≤ stripCount ⟨y, x, z⟩ m * x))) = betterWay ⟨x, y, z⟩ m := rfl
theorem better_lt {x y z m : Int} (h : 1 ≤ stripCount ⟨x, y, z⟩ m) (h2 : 1 ≤ stripCount ⟨y, x, z⟩ m) : (decide (stripCount ⟨y, x, z⟩ m < 0) || decide (stripCount ⟨x, y, z⟩ m * y ≤ stripCount ⟨y, x, z⟩ m * x)) = betterWay ⟨x, y, z⟩ m := by
  rw [← better_two h h2, decide_eq_false (by omega), Bool.false_or]
theorem better_ne {x y z m : Int} (h2 : stripCount ⟨y, x, z⟩ m = -1) : (stripCount ⟨x, y, z⟩ m != -1) = betterWay ⟨x, y, z⟩ m := by
  simp only [betterWay, turned, h2]
  simp
theorem better_cases (x y z m : Int) : stripCount ⟨x, y, z⟩ m = -1 ∨ (1 ≤ stripCount ⟨x, y, z⟩ m ∧ stripCount ⟨x, y, z⟩ m ≤ 200 ∧ stripCount ⟨y, x, z⟩ m = -1) ∨
    (1 ≤ stripCount ⟨x, y, z⟩ m ∧ stripCount ⟨x, y, z⟩ m ≤ 200 ∧ 1 ≤ stripCount ⟨y, x, z⟩ m ∧ stripCount ⟨y, x, z⟩ m ≤ 200 ∧ 0 ≤ stripCount ⟨x, y, z⟩ m * y ∧ stripCount ⟨x, y, z⟩ m * y ≤ 80000 ∧ 0 ≤ stripCount ⟨y, x, z⟩ m * x ∧ stripCount ⟨y, x, z⟩ m * x ≤ 80000) := by
  rcases strip_bd ⟨x, y, z⟩ m with ha | ⟨hok, ha1, ha2⟩
  · exact .inl ha
  · rcases strip_bd ⟨y, x, z⟩ m with hb | ⟨hok2, hb1, hb2⟩
    · exact .inr (.inl ⟨ha1, ha2, hb⟩)
    · have hbd := needOk_bd hok
      simp only at hbd
      have hp1 := mul_bd (a := stripCount ⟨x, y, z⟩ m) (b := y) (by omega) ha2 (by omega) hbd.2.1.2
      have hp2 := mul_bd (a := stripCount ⟨y, x, z⟩ m) (b := x) (by omega) hb2 (by omega) hbd.1.2
      exact .inr (.inr ⟨ha1, ha2, hb1, hb2, hp1.1, hp1.2, hp2.1, hp2.2⟩)

theorem betterWayI_any (x y z : Int) (m : Int) (W : World) : Calls Try.prog 17 #[.agg #[.int .i64 x, .int .i64 y, .int .i64 z], .int .i64 m] W fun e w' => e = .returned (.bool (betterWay ⟨x, y, z⟩ m)) ∧ Below W.heap.size W w' := by
  rcases better_cases x y z m with ha | ⟨ha1, ha2, hb⟩ | ⟨ha1, ha2, hq1, hq2, hp1, hp2, hp3, hp4⟩
  all_goals
    go_enter Try.func17, Try.ntmps17
    go_wp2_with fail
    go_region_held3 (fun v => v.cell? ⟨W.heap.size, 0, none⟩ = some (.int .i64 x) ∧ v.cell? ⟨W.heap.size, 1, none⟩ = some (.int .i64 y) ∧ v.cell? ⟨W.heap.size, 2, none⟩ = some (.int .i64 z) ∧ Below W.heap.size W v)
      (first | (go_split_ands; refine ⟨?_, ?_, ?_, ?_⟩ <;> first | (exact keepcell (by assumption) (by assumption)) | (exact Below.trans (by assumption) (Below.mono (by assumption) (Below.size (by assumption)))) | (go_keep) | ((repeat (first | exact Below.refl _ _ | assumption | (refine Below.drew ?_) | (refine below_drewN ?_ _) | (refine Below.alloc ?_ (by first | exact Nat.le_refl _ | (simp; done) | (simp; omega) | omega) _) | (refine Below.setCell ?_ (by first | exact Nat.le_refl _ | (simp; done) | (simp; omega) | omega) _) | (refine Below.trans ?_ (Below.mono (by assumption) (by first | exact Nat.le_refl _ | (simp; done) | (simp; omega) | omega))))))))
      (first
        | (go_at_call 15; refine (stripCountI_any _ _ _ _ _).mono ?_; rintro e v ⟨rfl, hbv⟩)
        | (go_at_call 53; refine (exchanged_any _ _ _ _).mono ?_; rintro e v ⟨rfl, hbv⟩))
  all_goals go_split_ands
  all_goals go_wp2
  all_goals go_ret
  all_goals first
    | exact ⟨ret_b (better_def x y z m), by first | assumption | (repeat (first | exact Below.refl _ _ | assumption | (refine Below.drew ?_) | (refine below_drewN ?_ _) | (refine Below.alloc ?_ (by first | exact Nat.le_refl _ | (simp; done) | (simp; omega) | omega) _) | (refine Below.setCell ?_ (by first | exact Nat.le_refl _ | (simp; done) | (simp; omega) | omega) _) | (refine Below.trans ?_ (Below.mono (by assumption) (by first | exact Nat.le_refl _ | (simp; done) | (simp; omega) | omega)))))⟩
    | exact ⟨ret_b (better_no ha), by first | assumption | (repeat (first | exact Below.refl _ _ | assumption | (refine Below.drew ?_) | (refine below_drewN ?_ _) | (refine Below.alloc ?_ (by first | exact Nat.le_refl _ | (simp; done) | (simp; omega) | omega) _) | (refine Below.setCell ?_ (by first | exact Nat.le_refl _ | (simp; done) | (simp; omega) | omega) _) | (refine Below.trans ?_ (Below.mono (by assumption) (by first | exact Nat.le_refl _ | (simp; done) | (simp; omega) | omega)))))⟩
    | exact ⟨ret_b (better_one ha1 hb), by first | assumption | (repeat (first | exact Below.refl _ _ | assumption | (refine Below.drew ?_) | (refine below_drewN ?_ _) | (refine Below.alloc ?_ (by first | exact Nat.le_refl _ | (simp; done) | (simp; omega) | omega) _) | (refine Below.setCell ?_ (by first | exact Nat.le_refl _ | (simp; done) | (simp; omega) | omega) _) | (refine Below.trans ?_ (Below.mono (by assumption) (by first | exact Nat.le_refl _ | (simp; done) | (simp; omega) | omega)))))⟩
    | exact ⟨ret_b (better_lt ha1 hq1), by first | assumption | (repeat (first | exact Below.refl _ _ | assumption | (refine Below.drew ?_) | (refine below_drewN ?_ _) | (refine Below.alloc ?_ (by first | exact Nat.le_refl _ | (simp; done) | (simp; omega) | omega) _) | (refine Below.setCell ?_ (by first | exact Nat.le_refl _ | (simp; done) | (simp; omega) | omega) _) | (refine Below.trans ?_ (Below.mono (by assumption) (by first | exact Nat.le_refl _ | (simp; done) | (simp; omega) | omega)))))⟩
    | exact ⟨ret_b (better_two ha1 hq1), by first | assumption | (repeat (first | exact Below.refl _ _ | assumption | (refine Below.drew ?_) | (refine below_drewN ?_ _) | (refine Below.alloc ?_ (by first | exact Nat.le_refl _ | (simp; done) | (simp; omega) | omega) _) | (refine Below.setCell ?_ (by first | exact Nat.le_refl _ | (simp; done) | (simp; omega) | omega) _) | (refine Below.trans ?_ (Below.mono (by assumption) (by first | exact Nat.le_refl _ | (simp; done) | (simp; omega) | omega)))))⟩
    | exact ⟨ret_b (better_ne hb), by first | assumption | (repeat (first | exact Below.refl _ _ | assumption | (refine Below.drew ?_) | (refine below_drewN ?_ _) | (refine Below.alloc ?_ (by first | exact Nat.le_refl _ | (simp; done) | (simp; omega) | omega) _) | (refine Below.setCell ?_ (by first | exact Nat.le_refl _ | (simp; done) | (simp; omega) | omega) _) | (refine Below.trans ?_ (Below.mono (by assumption) (by first | exact Nat.le_refl _ | (simp; done) | (simp; omega) | omega)))))⟩

theorem betterWayS_any (x y z : Int) (m : Int) (W : World) : Calls Try.prog 16 #[.agg #[.int .i64 x, .int .i64 y, .int .i64 z], .int .i64 m] W fun e w' => e = .returned (.bool (betterWay ⟨x, y, z⟩ m)) ∧ Below W.heap.size W w' := by
  rcases better_cases x y z m with ha | ⟨ha1, ha2, hb⟩ | ⟨ha1, ha2, hq1, hq2, hp1, hp2, hp3, hp4⟩
  all_goals
    go_enter Try.func16, Try.ntmps16
    go_wp2_with fail
    refine (stripCountS_any _ _ _ _ _).mono ?_
    rintro e w1 ⟨rfl, hb1⟩
    obtain ⟨hc1, hf1⟩ := bcell hb1
    have hz1 := hb1.size
    simp at hz1
    have hy1 : W.heap.size < w1.heap.size := by omega
    go_wp2_with fail
    refine (l15Turn_any _ _ _ _).mono ?_
    rintro e w2 ⟨rfl, hb2⟩
    obtain ⟨hc2, hf2⟩ := bcell hb2
    have hz2 := hb2.size
    have hy2 : W.heap.size < w2.heap.size := by omega
    go_wp2_with fail
    refine (stripCountS_any _ _ _ _ _).mono ?_
    rintro e w3 ⟨rfl, hb3⟩
    obtain ⟨hc3, hf3⟩ := bcell hb3
    have hz3 := hb3.size
    have hy3 : W.heap.size < w3.heap.size := by omega
  all_goals go_wp2
  all_goals go_ret
  all_goals first
    | exact ⟨ret_b (better_def x y z m), by first | assumption | (repeat (first | exact Below.refl _ _ | assumption | (refine Below.drew ?_) | (refine below_drewN ?_ _) | (refine Below.alloc ?_ (by first | exact Nat.le_refl _ | (simp; done) | (simp; omega) | omega) _) | (refine Below.setCell ?_ (by first | exact Nat.le_refl _ | (simp; done) | (simp; omega) | omega) _) | (refine Below.trans ?_ (Below.mono (by assumption) (by first | exact Nat.le_refl _ | (simp; done) | (simp; omega) | omega)))))⟩
    | exact ⟨ret_b (better_no ha), by first | assumption | (repeat (first | exact Below.refl _ _ | assumption | (refine Below.drew ?_) | (refine below_drewN ?_ _) | (refine Below.alloc ?_ (by first | exact Nat.le_refl _ | (simp; done) | (simp; omega) | omega) _) | (refine Below.setCell ?_ (by first | exact Nat.le_refl _ | (simp; done) | (simp; omega) | omega) _) | (refine Below.trans ?_ (Below.mono (by assumption) (by first | exact Nat.le_refl _ | (simp; done) | (simp; omega) | omega)))))⟩
    | exact ⟨ret_b (better_one ha1 hb), by first | assumption | (repeat (first | exact Below.refl _ _ | assumption | (refine Below.drew ?_) | (refine below_drewN ?_ _) | (refine Below.alloc ?_ (by first | exact Nat.le_refl _ | (simp; done) | (simp; omega) | omega) _) | (refine Below.setCell ?_ (by first | exact Nat.le_refl _ | (simp; done) | (simp; omega) | omega) _) | (refine Below.trans ?_ (Below.mono (by assumption) (by first | exact Nat.le_refl _ | (simp; done) | (simp; omega) | omega)))))⟩
    | exact ⟨ret_b (better_lt ha1 hq1), by first | assumption | (repeat (first | exact Below.refl _ _ | assumption | (refine Below.drew ?_) | (refine below_drewN ?_ _) | (refine Below.alloc ?_ (by first | exact Nat.le_refl _ | (simp; done) | (simp; omega) | omega) _) | (refine Below.setCell ?_ (by first | exact Nat.le_refl _ | (simp; done) | (simp; omega) | omega) _) | (refine Below.trans ?_ (Below.mono (by assumption) (by first | exact Nat.le_refl _ | (simp; done) | (simp; omega) | omega)))))⟩
    | exact ⟨ret_b (better_two ha1 hq1), by first | assumption | (repeat (first | exact Below.refl _ _ | assumption | (refine Below.drew ?_) | (refine below_drewN ?_ _) | (refine Below.alloc ?_ (by first | exact Nat.le_refl _ | (simp; done) | (simp; omega) | omega) _) | (refine Below.setCell ?_ (by first | exact Nat.le_refl _ | (simp; done) | (simp; omega) | omega) _) | (refine Below.trans ?_ (Below.mono (by assumption) (by first | exact Nat.le_refl _ | (simp; done) | (simp; omega) | omega)))))⟩

end Go.Proofs.Ytgobjhaodlmoaaa
