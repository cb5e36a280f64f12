/-
  Contracts of the scalar functions of the first seat: each returns what the plain function of the same name says.
-/
import Derived.Test.YtjgjdchnjiaclaaRows
import Derived.Test.YtjgjdchnjiaclaaBase
import Derived.Test.YtjgjdchnjiaclaaPlainA
set_option linter.unusedVariables false
namespace Go.Proofs.Ytjgjdchnjiaclaa
open Go.RowKit

theorem within_any (n a b : Int) (w : World) : Calls Try.prog 51 #[.int .i64 n, .int .i64 a, .int .i64 b] w fun e w' => e = .returned (.bool (within n a b)) ∧ w = w' := by
  go_enter Try.func51, Try.ntmps51
  go_wp2
  all_goals
    go_ret
    exact ⟨ret_b (by simp [within] <;> omega), rfl⟩
theorem l01In_any (n a b : Int) (w : World) : Calls Try.prog 49 #[.int .i64 n, .int .i64 a, .int .i64 b] w fun e w' => e = .returned (.bool (within n a b)) ∧ w = w' := by
  go_enter Try.func49, Try.ntmps49
  go_wp2
  all_goals
    go_ret
    exact ⟨ret_b (by simp [within] <;> omega), rfl⟩

theorem within_q (n a b : Int) (w : World) : Calls Try.prog 51 #[.int .i64 n, .int .i64 a, .int .i64 b] w fun e w' => e = .returned (.bool (within n a b)) ∧ w' = w := (within_any n a b w).mono fun _ _ h => ⟨h.1, h.2.symm⟩
theorem l01In_q (n a b : Int) (w : World) : Calls Try.prog 49 #[.int .i64 n, .int .i64 a, .int .i64 b] w fun e w' => e = .returned (.bool (within n a b)) ∧ w' = w := (l01In_any n a b w).mono fun _ _ h => ⟨h.1, h.2.symm⟩

end Go.Proofs.Ytjgjdchnjiaclaa
