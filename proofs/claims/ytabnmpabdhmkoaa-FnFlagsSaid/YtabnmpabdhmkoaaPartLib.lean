/- The loop that parts a slice into the marks of one half and the other half. No program in sight. -/
import Derived.Test.YtabnmpabdhmkoaaOwF
set_option linter.unusedSectionVars false
set_option linter.unusedVariables false
set_option linter.unusedSimpArgs false
namespace Go.Proofs.Ytabnmpabdhmkoaa.M6
open Go Go.Proofs.Ytabnmpabdhmkoaa.Ow
end Go.Proofs.Ytabnmpabdhmkoaa.M6
