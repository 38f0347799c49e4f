/- strings.FieldsFunc, as a function that is known by its contract. -/
import Derived.Test.YtgppmpedglhhfaaGreatDoorLoopLib
import Derived.Shelf.Strings.FieldsFuncGrows
import Derived.Lib.SpaceUEq
import Derived.Lib.MapLaws
import Derived.Lib.DecodeN
set_option linter.unusedVariables false
set_option linter.unusedSimpArgs false
namespace Go.Proofs.YtgppmpedglhhfaaGreatDoor.r_
open Go Ow Go.RowKit
section
variable [Fr]{P:Program}{W:World}
end
def iM(s:List Int):ByteArray:=⟨(s.map λn=>UInt8.ofNat n.toNat).toArray⟩
theorem Al(B:ByteArray):iM (bytesOf B)=B:=by
 unfold iM bytesOf
 obtain⟨d⟩:=B
 congr 1
 apply rW
 show(List.map _ (List.map _ d.toList))=d.toList
 rw[Gn]
 conv=>rhs;rw[<-List.map_id d.toList]
 refine List.map_congr_left λx _=>?_
 show UInt8.ofNat ((x.toNat:Int)).toNat=x
 rw[iw]
 exact UInt8.ofNat_toNat
theorem rD(B:ByteArray):(bytesOf B).length=B.size:=by
 unfold bytesOf
 rw[oq]
 rfl
end Go.Proofs.YtgppmpedglhhfaaGreatDoor.r_
