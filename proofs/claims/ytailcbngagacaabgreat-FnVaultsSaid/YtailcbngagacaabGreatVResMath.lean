/- Results of vaults. -/
import Derived.Test.YtailcbngagacaabGreatVaultMath
namespace Go.Proofs.YtailcbngagacaabGreat.BA
open Go Ow ni nM oQ mP uu zu
abbrev VR:=Int×List Int×iq×Unit
def oW (c:Int):VR:=(c,[],(false,[],[],(0,[],()),()),())
structure LV (v:iq):Prop where
 s1:v.2.1.length<=big
 s2:v.2.2.1.length<=big
 st:gW v.2.2.2.1
theorem LV.of {v:iq} (h:pQ v):LV v:=⟨h.s1,h.s2,h.st⟩
end Go.Proofs.YtailcbngagacaabGreat.BA
