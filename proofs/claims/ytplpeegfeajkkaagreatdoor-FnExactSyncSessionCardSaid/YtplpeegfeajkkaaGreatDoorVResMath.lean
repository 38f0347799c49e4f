/- Results of vaults. -/
import Derived.Test.YtplpeegfeajkkaaGreatDoorMarkMath
namespace Go.Proofs.YtplpeegfeajkkaaGreatDoor.D_
open Go Ow nE nQ oI nS tK w9
abbrev VR:=Int×List Int×l_×Unit
def IK(c:Int):VR:=(c,[],(false,[],[],(0,[],()),()),())
structure LV(v:l_):Prop where
 s1:v.2.1.length<=big
 s2:v.2.2.1.length<=big
 st:iK v.2.2.2.1
theorem LV.of{v:l_}(h:yc v):LV v:=⟨h.s1,h.s2,h.st⟩
def LR(r:VR):Prop:=r.2.1.length<=big/\LV r.2.2.1
theorem aj6(c:Int):LR (IK c):=⟨by simp[IK,big],by simp[IK,big],by simp[IK,big],by simp[IK,big],λb hb=>absurd hb (x9)⟩
end Go.Proofs.YtplpeegfeajkkaaGreatDoor.D_
