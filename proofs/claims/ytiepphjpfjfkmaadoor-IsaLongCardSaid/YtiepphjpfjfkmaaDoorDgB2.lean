/- The reference of ch. 02: digit and number. -/
import Derived.Test.YtiepphjpfjfkmaaDoorDgB
set_option linter.unusedVariables false
set_option linter.unusedSimpArgs false
namespace Go.Proofs.Sat
open Go Go.RowKit
end Go.Proofs.Sat
