/- slices.Grow of the nil slice of bytes, by the library's contract. -/
import Derived.Test.YtailcbngagacaabGreatOwF
import Derived.Shelf.Spec.SlicesGrow
set_option linter.unusedSectionVars false
set_option linter.unusedVariables false
set_option linter.unusedSimpArgs false
namespace Go.Proofs.YtailcbngagacaabGreat.Zk
open Go Go.Proofs.YtailcbngagacaabGreat.Ow
end Go.Proofs.YtailcbngagacaabGreat.Zk
