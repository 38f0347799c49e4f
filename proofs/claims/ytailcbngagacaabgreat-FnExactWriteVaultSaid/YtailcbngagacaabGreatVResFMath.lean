/- Results of vaults: equalities and marks, of the whole results. -/
import Derived.Test.YtailcbngagacaabGreatOwF
import Derived.Test.YtailcbngagacaabGreatLoopLib
import Derived.Test.YtailcbngagacaabGreatStoreMath
import Derived.Test.YtailcbngagacaabGreatOpsMath
import Derived.Test.YtailcbngagacaabGreatCodecMath
import Derived.Test.YtailcbngagacaabGreatVaultMath
import Derived.Test.YtailcbngagacaabGreatMarkMath
import Derived.Test.YtailcbngagacaabGreatVResMath
import Derived.Test.YtailcbngagacaabGreatWriteF
set_option linter.unusedSectionVars false
set_option linter.unusedVariables false
set_option linter.unusedSimpArgs false
namespace Go.Proofs.YtailcbngagacaabGreat.vL
open Go Go.Proofs.YtailcbngagacaabGreat.Ow Go.Proofs.YtailcbngagacaabGreat.oC Go.Proofs.YtailcbngagacaabGreat.kN Go.Proofs.YtailcbngagacaabGreat.gV Go.Proofs.YtailcbngagacaabGreat.jI Go.Proofs.YtailcbngagacaabGreat.kR Go.Proofs.YtailcbngagacaabGreat.sK Go.Proofs.YtailcbngagacaabGreat.DJ
theorem afh {n:Nat} {r:VR} (h:LR r) (hn:big<n):fQ n r r=some (true,()):=by
 unfold fQ kY
 simp [Pv h.1 hn,BF h.2.s1 hn,BF h.2.s2 hn,Tw h.2.st hn]
def mR (n:Nat) (r:VR):VR:=(r.1,mI 1 r.2.1.length,mV n (1+(r.2.1.length:Int)) r.2.2.1,())
theorem aah {n:Nat} {r:VR} (h:LR r) (hn:big<n):iU n r 1=some (kV (1+(r.2.1.length:Int)) r.2.2.1,mR n r,()):=by
 have h2:=h.1
 unfold big at h2
 unfold iU
 rw [Kn h.1 hn (by omega) (by omega)]
 simp only [ani]
 rw [MJ h.2 hn (by omega) (by omega)]
 rfl
theorem ZX {n:Nat} {r:VR} (h:LR r) (hn:big<n):gD n (mR n r) 1=some (kV (1+(r.2.1.length:Int)) r.2.2.1,()):=by
 have h2:=h.1
 unfold big at h2
 unfold gD
 have e1:jW n (mR n r).2.1 1=some (1+(r.2.1.length:Int),()):=R3 h.1 hn (by omega) (by omega)
 have e2:lq n (mR n r).2.2.1 (1+(r.2.1.length:Int))=some (kV (1+(r.2.1.length:Int)) r.2.2.1,()):=U9 h.2 hn (by omega) (by omega)
 have n1:¬(1+(r.2.1.length:Int)<0):=by omega
 have n2:¬(kV (1+(r.2.1.length:Int)) r.2.2.1<0):=by have:=Kh h.2 (k:=1+(r.2.1.length:Int)) (by omega) (by omega); omega
 simp only [e1,e2,ani,n1,n2,decide_false,ank,if_false]
theorem adk {r:VR} (h:LR r):¬kV (1+(r.2.1.length:Int)) r.2.2.1<0:=by
 have h2:=h.1
 unfold big at h2
 have:=Kh h.2 (k:=1+(r.2.1.length:Int)) (by omega) (by omega)
 omega
end Go.Proofs.YtailcbngagacaabGreat.vL
