/- Numbers of one to four digits. No program in sight. -/
import Derived.Test.YtplpeegfeajkkaaGreatDoorLaidLib
set_option linter.unusedVariables false
set_option linter.unusedSimpArgs false
namespace Go.Proofs.YtplpeegfeajkkaaGreatDoor.YJ
open Go Ow aI Ye
def u8(s:List Int):List UInt8:=s.map λn=>UInt8.ofNat n.toNat
def ints(l:List UInt8):List Int:=l.map λb=>(b.toNat:Int)
theorem aeG{d:Nat}(h:d<10):(UInt8.ofNat (48+d)).toNat=48+d:=by
 rw[UInt8.toNat_ofNat']
 omega
theorem apx(v:Nat):Lib.itoa v=Lib.decDigits v:=by
 unfold Lib.itoa
 rw[aC (by omega)]
 rfl
end Go.Proofs.YtplpeegfeajkkaaGreatDoor.YJ
