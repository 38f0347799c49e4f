/- Loops that copy, compare, measure, mark and read marks. No program in sight. -/
import Derived.Test.YtgppmpedglhhfaaGreatDoorOwG
set_option linter.unusedVariables false
set_option linter.unusedSimpArgs false
namespace Go.Proofs.YtgppmpedglhhfaaGreatDoor.nM
open Go Ow
def big:Nat:=1048576
end Go.Proofs.YtgppmpedglhhfaaGreatDoor.nM
