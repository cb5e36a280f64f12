/-
  Contracts over lines: which are valid.
-/
import Derived.Test.YtkbpehklfjnjjaaPlainL
import Derived.Test.YtkbpehklfjnjjaaScalA
import Derived.Test.YtkbpehklfjnjjaaFlatLine
set_option linter.unusedVariables false
namespace Go.Proofs.Ytkbpehklfjnjjaa
open Go.RowKit

end Go.Proofs.Ytkbpehklfjnjjaa
