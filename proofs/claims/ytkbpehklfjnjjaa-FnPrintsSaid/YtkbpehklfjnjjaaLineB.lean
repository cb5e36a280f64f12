/-
  Contracts over lines: how many end at each point; the odd points.
-/
import Derived.Test.YtkbpehklfjnjjaaLineA
import Derived.Test.YtkbpehklfjnjjaaFlatInt
import Derived.Test.YtkbpehklfjnjjaaAcc
set_option linter.unusedVariables false
namespace Go.Proofs.Ytkbpehklfjnjjaa
open Go.RowKit

theorem infoInt : (Try.prog.info? 3).map (fun i => (i.zero, i.size, i.bytes)) = some (some (.int .i64 0), 1, 8) := by kernel_rfl

end Go.Proofs.Ytkbpehklfjnjjaa
