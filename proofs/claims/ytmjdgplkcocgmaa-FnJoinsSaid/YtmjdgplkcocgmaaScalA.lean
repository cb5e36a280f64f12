/-
  Contracts of the scalar functions of the first seat: each returns what the plain function of the same name says.
-/
import Derived.Test.YtmjdgplkcocgmaaRows
import Derived.Test.YtmjdgplkcocgmaaZWords
import Derived.Test.YtmjdgplkcocgmaaZPlain
set_option linter.unusedVariables false
namespace Go.Proofs.Ytmjdgplkcocgmaa
open Go.RowKit

theorem within_any (n a b : Int) (w : World) : Calls Try.prog 74 #[.int .i64 n, .int .i64 a, .int .i64 b] w fun e w' => e = .returned (.bool (within n a b)) ∧ w = w' := by
  go_enter Try.func74, Try.ntmps74
  go_wp2
  all_goals
    go_ret
    exact ⟨ret_b (by simp [within] <;> omega), rfl⟩
theorem l01In_any (n a b : Int) (w : World) : Calls Try.prog 70 #[.int .i64 n, .int .i64 a, .int .i64 b] w fun e w' => e = .returned (.bool (within n a b)) ∧ w = w' := by
  go_enter Try.func70, Try.ntmps70
  go_wp2
  all_goals
    go_ret
    exact ⟨ret_b (by simp [within] <;> omega), rfl⟩

theorem within_q (n a b : Int) (w : World) : Calls Try.prog 74 #[.int .i64 n, .int .i64 a, .int .i64 b] w fun e w' => e = .returned (.bool (within n a b)) ∧ w' = w := (within_any n a b w).mono fun _ _ h => ⟨h.1, h.2.symm⟩
theorem l01In_q (n a b : Int) (w : World) : Calls Try.prog 70 #[.int .i64 n, .int .i64 a, .int .i64 b] w fun e w' => e = .returned (.bool (within n a b)) ∧ w' = w := (l01In_any n a b w).mono fun _ _ h => ⟨h.1, h.2.symm⟩

theorem cutSizeI_any (f : Int) (w : World) : Calls Try.prog 28 #[.int .i64 f] w fun e w' => e = .returned (.int .i64 (cutSize f)) ∧ w = w' := by
  by_cases h : within f 1 1000 = true
  · have hb := within_iff.1 h
    go_enter Try.func28, Try.ntmps28
    go_wp2_with (go_at_call 74; refine (within_any _ _ _ _).mono ?_; rintro e w' ⟨rfl, rfl⟩)
    go_ret
    exact ⟨ret_i (by simp [cutSize, h]), rfl⟩
  · go_enter Try.func28, Try.ntmps28
    go_wp2_with (go_at_call 74; refine (within_any _ _ _ _).mono ?_; rintro e w' ⟨rfl, rfl⟩)
    go_ret
    exact ⟨ret_i (by simp [cutSize, h]), rfl⟩

theorem finishedSizeI_any (f : Int) (w : World) : Calls Try.prog 30 #[.int .i64 f] w fun e w' => e = .returned (.int .i64 (finishedSize f)) ∧ w = w' := by
  by_cases h : within f 5 1004 = true
  · have hb := within_iff.1 h
    go_enter Try.func30, Try.ntmps30
    go_wp2_with (go_at_call 74; refine (within_any _ _ _ _).mono ?_; rintro e w' ⟨rfl, rfl⟩)
    go_ret
    exact ⟨ret_i (by simp [finishedSize, h]), rfl⟩
  · go_enter Try.func30, Try.ntmps30
    go_wp2_with (go_at_call 74; refine (within_any _ _ _ _).mono ?_; rintro e w' ⟨rfl, rfl⟩)
    go_ret
    exact ⟨ret_i (by simp [finishedSize, h]), rfl⟩

theorem triangleSideI_any (f : Int) (w : World) : Calls Try.prog 31 #[.int .i64 f] w fun e w' => e = .returned (.int .i64 (triangleSide f)) ∧ w = w' := by
  by_cases h : within f 1 1000 = true
  · have hb := within_iff.1 h
    go_enter Try.func31, Try.ntmps31
    go_wp2_with (go_at_call 74; refine (within_any _ _ _ _).mono ?_; rintro e w' ⟨rfl, rfl⟩)
    go_ret
    exact ⟨ret_i (by simp [triangleSide, h]), rfl⟩
  · go_enter Try.func31, Try.ntmps31
    go_wp2_with (go_at_call 74; refine (within_any _ _ _ _).mono ?_; rintro e w' ⟨rfl, rfl⟩)
    go_ret
    exact ⟨ret_i (by simp [triangleSide, h]), rfl⟩

theorem driftOfI_any (p o : Int) (w : World) : Calls Try.prog 32 #[.int .i64 p, .int .i64 o] w fun e w' => e = .returned (.int .i64 (driftOf p o)) ∧ w = w' := by
  by_cases h : within p 1 100 = true
  · have hb := within_iff.1 h
    by_cases h2 : within o (-4) 4 = true
    · have hb2 := within_iff.1 h2
      have hm := drift_bd hb.1 hb.2 hb2.1 hb2.2
      go_enter Try.func32, Try.ntmps32
      go_wp2_with (go_at_call 74; refine (within_any _ _ _ _).mono ?_; rintro e w' ⟨rfl, rfl⟩)
      go_ret
      exact ⟨ret_i (by simp [driftOf, h, h2]), rfl⟩
    · go_enter Try.func32, Try.ntmps32
      go_wp2_with (go_at_call 74; refine (within_any _ _ _ _).mono ?_; rintro e w' ⟨rfl, rfl⟩)
      go_ret
      exact ⟨ret_i (by simp [driftOf, h2]), rfl⟩
  · go_enter Try.func32, Try.ntmps32
    go_wp2_with (go_at_call 74; refine (within_any _ _ _ _).mono ?_; rintro e w' ⟨rfl, rfl⟩)
    go_ret
    exact ⟨ret_i (by simp [driftOf, h]), rfl⟩

theorem cutSizeS_any (f : Int) (w : World) : Calls Try.prog 71 #[.int .i64 f] w fun e w' => e = .returned (.int .i64 (cutSize f)) ∧ w = w' := by
  by_cases h : within f 1 1000 = true
  · have hb := within_iff.1 h
    go_enter Try.func71, Try.ntmps71
    go_wp2_with (go_at_call 70; refine (l01In_any _ _ _ _).mono ?_; rintro e w' ⟨rfl, rfl⟩)
    go_ret
    exact ⟨ret_i (by simp [cutSize, h]), rfl⟩
  · go_enter Try.func71, Try.ntmps71
    go_wp2_with (go_at_call 70; refine (l01In_any _ _ _ _).mono ?_; rintro e w' ⟨rfl, rfl⟩)
    go_ret
    exact ⟨ret_i (by simp [cutSize, h]), rfl⟩

end Go.Proofs.Ytmjdgplkcocgmaa
