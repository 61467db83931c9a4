/- Walks of the reference's Uses and Defines. -/
import Derived.Test.YtiepphjpfjfkmaaGreatDoorLvR
import Derived.Test.YtiepphjpfjfkmaaGreatDoorIsaT
set_option linter.unusedVariables false
set_option linter.unusedSimpArgs false
namespace Go.Proofs.Sat
open Go Go.RowKit
end Go.Proofs.Sat
