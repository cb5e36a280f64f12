/-
  A slice of slices of booleans that the call itself builds.
-/
import Derived.Test.YtjgjdchnjiaclaaAccSSG
import Derived.Test.YtjgjdchnjiaclaaFlatBool
set_option linter.unusedVariables false
namespace Go.Proofs.Ytjgjdchnjiaclaa
open Go.RowKit

theorem infoBools : (Try.prog.info? 37).map (fun i => (i.zero, i.size, i.bytes)) = some (some (.slice none 0 0), 1, 24) := by kernel_rfl
theorem infoBool : (Try.prog.info? 4).map (fun i => (i.zero, i.size, i.bytes)) = some (some (.bool false), 1, 1) := by kernel_rfl

end Go.Proofs.Ytjgjdchnjiaclaa
