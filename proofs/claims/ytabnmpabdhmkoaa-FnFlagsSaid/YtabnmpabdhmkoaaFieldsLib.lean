/- strings.FieldsFunc, as a function that is known by its contract. -/
import Derived.Test.YtabnmpabdhmkoaaOwF
import Derived.Shelf.Strings.FieldsFuncGrows
import Derived.Lib.SpaceUEq
import Derived.Lib.MapLaws
import Derived.Lib.DecodeN
set_option linter.unusedSectionVars false
set_option linter.unusedVariables false
set_option linter.unusedSimpArgs false
namespace Go.Proofs.Ytabnmpabdhmkoaa.Bi
open Go Go.Proofs.Ytabnmpabdhmkoaa.Ow Go.RowKit
section
variable [Fr] {P:Program} {W:World}
end
def yZ (s:List Int):ByteArray:=⟨(s.map fun n=>UInt8.ofNat n.toNat).toArray⟩
theorem y5 (B:ByteArray):yZ (bytesOf B)=B:=by
 unfold yZ bytesOf
 obtain ⟨d⟩:=B
 congr 1
 apply Array.ext'
 show (List.map _ (List.map _ d.toList))=d.toList
 rw [List.map_map]
 conv=>rhs; rw [←List.map_id d.toList]
 refine List.map_congr_left fun x _=>?_
 show UInt8.ofNat ((x.toNat:Int)).toNat=x
 rw [abC]
 exact UInt8.ofNat_toNat
theorem iR (B:ByteArray):(bytesOf B).length=B.size:=by
 unfold bytesOf
 rw [List.length_map]
 rfl
end Go.Proofs.Ytabnmpabdhmkoaa.Bi
