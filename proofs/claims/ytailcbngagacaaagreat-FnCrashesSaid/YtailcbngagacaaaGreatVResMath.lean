/- Results of vaults. -/
import Derived.Test.YtailcbngagacaaaGreatVaultMath
namespace Go.Proofs.YtailcbngagacaaaGreat.BI
open Go Ow nJ oh pO ng uA zo
abbrev VR:=Int×List Int×jh×Unit
def qy (c:Int):VR:=(c,[],(false,[],[],(0,[],()),()),())
structure LV (v:jh):Prop where
 s1:v.2.1.length<=big
 s2:v.2.2.1.length<=big
 st:gU v.2.2.2.1
theorem LV.of {v:jh} (h:qQ v):LV v:=⟨h.s1,h.s2,h.st⟩
def LR (r:VR):Prop:=r.2.1.length<=big/\LV r.2.2.1
theorem Xd (c:Int):LR (qy c):=⟨by simp [qy,big],by simp [qy,big],by simp [qy,big],by simp [qy,big],fun b hb=>absurd hb (wR)⟩
end Go.Proofs.YtailcbngagacaaaGreat.BI
