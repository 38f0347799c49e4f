/- Results of vaults: equalities and marks, of the whole results. -/
import Derived.Test.YtailcbngagacaabGreatOwF
import Derived.Test.YtailcbngagacaabGreatLoopLib
import Derived.Test.YtailcbngagacaabGreatStoreMath
import Derived.Test.YtailcbngagacaabGreatOpsMath
import Derived.Test.YtailcbngagacaabGreatCodecMath
import Derived.Test.YtailcbngagacaabGreatVaultMath
import Derived.Test.YtailcbngagacaabGreatMarkMath
import Derived.Test.YtailcbngagacaabGreatVResMath
import Derived.Test.YtailcbngagacaabGreatDoF
set_option linter.unusedSectionVars false
set_option linter.unusedVariables false
set_option linter.unusedSimpArgs false
namespace Go.Proofs.YtailcbngagacaabGreat.uw
open Go Go.Proofs.YtailcbngagacaabGreat.Ow Go.Proofs.YtailcbngagacaabGreat.Nr Go.Proofs.YtailcbngagacaabGreat.jO Go.Proofs.YtailcbngagacaabGreat.gp Go.Proofs.YtailcbngagacaabGreat.jc Go.Proofs.YtailcbngagacaabGreat.jV Go.Proofs.YtailcbngagacaabGreat.qG Go.Proofs.YtailcbngagacaabGreat.DY
theorem afV {n:Nat} {r:VR} (h:LR r) (hn:big<n):fV n r r=some (true,()):=by
 unfold fV lu
 simp [PT h.1 hn,BO h.2.s1 hn,BO h.2.s2 hn,TQ h.2.st hn]
def mR (n:Nat) (r:VR):VR:=(r.1,mI 1 r.2.1.length,mV n (1+(r.2.1.length:Int)) r.2.2.1,())
theorem aaD {n:Nat} {r:VR} (h:LR r) (hn:big<n):iZ n r 1=some (kV (1+(r.2.1.length:Int)) r.2.2.1,mR n r,()):=by
 have h2:=h.1
 unfold big at h2
 unfold iZ
 rw [KD h.1 hn (by omega) (by omega)]
 simp only [anY]
 rw [MV h.2 hn (by omega) (by omega)]
 rfl
theorem aam {n:Nat} {r:VR} (h:LR r) (hn:big<n):gG n (mR n r) 1=some (kV (1+(r.2.1.length:Int)) r.2.2.1,()):=by
 have h2:=h.1
 unfold big at h2
 unfold gG
 have e1:j6 n (mR n r).2.1 1=some (1+(r.2.1.length:Int),()):=Sn h.1 hn (by omega) (by omega)
 have e2:lD n (mR n r).2.2.1 (1+(r.2.1.length:Int))=some (kV (1+(r.2.1.length:Int)) r.2.2.1,()):=Vu h.2 hn (by omega) (by omega)
 have n1:¬(1+(r.2.1.length:Int)<0):=by omega
 have n2:¬(kV (1+(r.2.1.length:Int)) r.2.2.1<0):=by have:=Ku h.2 (k:=1+(r.2.1.length:Int)) (by omega) (by omega); omega
 simp only [e1,e2,anY,n1,n2,decide_false,an0,if_false]
theorem adO {r:VR} (h:LR r):¬kV (1+(r.2.1.length:Int)) r.2.2.1<0:=by
 have h2:=h.1
 unfold big at h2
 have:=Ku h.2 (k:=1+(r.2.1.length:Int)) (by omega) (by omega)
 omega
end Go.Proofs.YtailcbngagacaabGreat.uw
