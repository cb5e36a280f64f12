/-
  Contracts of the scalar functions of the first seat: each returns what the plain function of the same name says.
-/
import Derived.Test.YtkbpehklfjnjjaaRows
import Derived.Test.YtkbpehklfjnjjaaBase
import Derived.Test.YtkbpehklfjnjjaaPlainA
set_option linter.unusedVariables false
namespace Go.Proofs.Ytkbpehklfjnjjaa
open Go.RowKit

theorem within_any (n a b : Int) (w : World) : Calls Try.prog 48 #[.int .i64 n, .int .i64 a, .int .i64 b] w fun e w' => e = .returned (.bool (within n a b)) ∧ w = w' := by
  go_enter Try.func48, Try.ntmps48
  go_wp2
  all_goals
    go_ret
    exact ⟨ret_b (by simp [within] <;> omega), rfl⟩
theorem l01In_any (n a b : Int) (w : World) : Calls Try.prog 44 #[.int .i64 n, .int .i64 a, .int .i64 b] w fun e w' => e = .returned (.bool (within n a b)) ∧ w = w' := by
  go_enter Try.func44, Try.ntmps44
  go_wp2
  all_goals
    go_ret
    exact ⟨ret_b (by simp [within] <;> omega), rfl⟩

theorem within_q (n a b : Int) (w : World) : Calls Try.prog 48 #[.int .i64 n, .int .i64 a, .int .i64 b] w fun e w' => e = .returned (.bool (within n a b)) ∧ w' = w := (within_any n a b w).mono fun _ _ h => ⟨h.1, h.2.symm⟩
theorem l01In_q (n a b : Int) (w : World) : Calls Try.prog 44 #[.int .i64 n, .int .i64 a, .int .i64 b] w fun e w' => e = .returned (.bool (within n a b)) ∧ w' = w := (l01In_any n a b w).mono fun _ _ h => ⟨h.1, h.2.symm⟩

end Go.Proofs.Ytkbpehklfjnjjaa
