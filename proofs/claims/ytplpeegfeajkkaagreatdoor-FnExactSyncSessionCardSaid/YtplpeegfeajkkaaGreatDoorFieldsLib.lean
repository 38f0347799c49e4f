/- strings.FieldsFunc, as a function that is known by its contract. -/
import Derived.Test.YtplpeegfeajkkaaGreatDoorLoopLib
import Derived.Shelf.Strings.FieldsFuncGrows
import Derived.Lib.SpaceUEq
import Derived.Lib.MapLaws
import Derived.Lib.DecodeN
set_option linter.unusedVariables false
set_option linter.unusedSimpArgs false
namespace Go.Proofs.YtplpeegfeajkkaaGreatDoor.Ye
open Go Ow Go.RowKit
section
variable [Fr]{P:Program}{W:World}
end
theorem yw(B:ByteArray):(bytesOf B).length=B.size:=by
 unfold bytesOf
 rw[nP]
 rfl
end Go.Proofs.YtplpeegfeajkkaaGreatDoor.Ye
