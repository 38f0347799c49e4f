/- strings.FieldsFunc, as a function that is known by its contract. -/
import Derived.Test.YtgppmpedglhhfaaGreatDoorLoopLib
import Derived.Shelf.Strings.FieldsFuncGrows
import Derived.Lib.SpaceUEq
import Derived.Lib.MapLaws
import Derived.Lib.DecodeN
set_option linter.unusedVariables false
set_option linter.unusedSimpArgs false
namespace Go.Proofs.YtgppmpedglhhfaaGreatDoor.qX
open Go Ow Go.RowKit
section
variable [Fr]{P:Program}{W:World}
end
def iA(s:List Int):ByteArray:=⟨(s.map λn=>UInt8.ofNat n.toNat).toArray⟩
theorem yM(B:ByteArray):iA (bytesOf B)=B:=by
 unfold iA bytesOf
 obtain⟨d⟩:=B
 congr 1
 apply qV
 show(List.map _ (List.map _ d.toList))=d.toList
 rw[C9]
 conv=>rhs;rw[<-List.map_id d.toList]
 refine List.map_congr_left λx _=>?_
 show UInt8.ofNat ((x.toNat:Int)).toNat=x
 rw[kJ]
 exact UInt8.ofNat_toNat
theorem qF(B:ByteArray):(bytesOf B).length=B.size:=by
 unfold bytesOf
 rw[oz]
 rfl
end Go.Proofs.YtgppmpedglhhfaaGreatDoor.qX
