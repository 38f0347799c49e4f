/- Results of vaults. -/
import Derived.Test.YtailcbngagacaaaGreatVaultMath
namespace Go.Proofs.YtailcbngagacaaaGreat.vg
open Go Ow JO kF iw gU kK qz
abbrev VR:=Int×List Int×wZ×Unit
def vW (c:Int):VR:=(c,[],(false,[],[],(0,[],()),()),())
structure LV (v:wZ):Prop where
 s1:v.2.1.length<=big
 s2:v.2.2.1.length<=big
 st:wW v.2.2.2.1
theorem LV.of {v:wZ} (h:IC v):LV v:=⟨h.s1,h.s2,h.st⟩
def LR (r:VR):Prop:=r.2.1.length<=big/\LV r.2.2.1
theorem JJ (c:Int):LR (vW c):=⟨by simp [vW,big],by simp [vW,big],by simp [vW,big],by simp [vW,big],fun b hb=>absurd hb (aot)⟩
end Go.Proofs.YtailcbngagacaaaGreat.vg
