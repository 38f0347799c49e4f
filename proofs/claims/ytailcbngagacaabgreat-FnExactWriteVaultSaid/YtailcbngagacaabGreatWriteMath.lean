/- 'FnExactWriteVault': what it comes to. -/
import Derived.Test.YtailcbngagacaabGreatOwF
import Derived.Test.YtailcbngagacaabGreatLoopLib
import Derived.Test.YtailcbngagacaabGreatStoreMath
import Derived.Test.YtailcbngagacaabGreatOpsMath
import Derived.Test.YtailcbngagacaabGreatCodecMath
import Derived.Test.YtailcbngagacaabGreatVaultMath
import Derived.Test.YtailcbngagacaabGreatVResMath
import Derived.Test.YtailcbngagacaabGreatVResFMath
import Derived.Test.YtailcbngagacaabGreatUpMath
import Derived.Test.YtailcbngagacaabGreatWritMath
import Derived.Test.YtailcbngagacaabGreatOpArgMath
import Derived.Test.YtailcbngagacaabGreatWriteF
set_option linter.unusedSectionVars false
set_option linter.unusedVariables false
set_option linter.unusedSimpArgs false
namespace Go.Proofs.YtailcbngagacaabGreat.L6
open Go Go.Proofs.YtailcbngagacaabGreat.Ow Go.Proofs.YtailcbngagacaabGreat.oC Go.Proofs.YtailcbngagacaabGreat.kN Go.Proofs.YtailcbngagacaabGreat.gV Go.Proofs.YtailcbngagacaabGreat.jI Go.Proofs.YtailcbngagacaabGreat.kR Go.Proofs.YtailcbngagacaabGreat.sK Go.Proofs.YtailcbngagacaabGreat.vL Go.Proofs.YtailcbngagacaabGreat.Q4 Go.Proofs.YtailcbngagacaabGreat.Ja Go.Proofs.YtailcbngagacaabGreat.LY
theorem main {n:Nat} {v:Fz} {o:OpC} (h:Wv v) (ho:okO o) (hd:p9 o.2.2.2.2.2.2.2.1) (hn:big<n):∃r:VR,nM n v o=some (r,())∧jV n v o=some (r,())∧LR r:=by
 obtain ⟨c,e1,e2,hc⟩:=adp h hn
 have q3:∀c,j6 n c=some (Jl c,()):=fun _=>rfl
 unfold nM jV
 simp only [e1,e2,q3,ani]
 by_cases c0:c=0
 ·obtain ⟨r,w1,w2,w3,_⟩:=Ja.written h (hc c0) ho hd hn
  simp only [decide_eq_true c0,anK,ank,if_false,w1,w2,ani]
  exact ⟨r,rfl,rfl,w3⟩
 ·simp only [decide_eq_false c0,anV,if_true]
  exact ⟨Jl c,rfl,rfl,Nk _⟩
theorem law {v:Fz} {o:OpC} (hv:lV v) (ho:lO o):j5 1048577 v o=some (true,()):=by
 have hn:big<1048577:=by unfold big; omega
 unfold j5
 obtain ⟨r1,a1,a2⟩:=YT hv hn
 rw [a1]
 simp only [ani]
 by_cases c1:r1<0
 ·simp only [c1,decide_true,if_true]
 ·have a2:=a2.resolve_left c1
  have hV:=a2.2
  obtain ⟨r2,b1,b2⟩:=akP (n:=1048577) ho (k:=r1) (by omega) a2.1
  simp only [c1,decide_false,ank,if_false,b1,ani]
  by_cases c2:r2<0
  ·simp only [c2,decide_true,if_true]
  ·have hO:=b2.resolve_left c2
   obtain ⟨r,e1,e2,hR⟩:=main hV hO ho.2.2.2.2 hn
   have m0:=MJ (n:=1048577) (k:=1) (LV.of hV) hn (by omega) (by omega)
   have m1:=age (LV.of hV)
   obtain ⟨x,y,m2,m3⟩:=ac9 (n:=1048577) (k:=kV 1 v) hO hn m1.1 m1.2
   have m4:¬x<0:=by omega
   simp only [c2,decide_false,ank,if_false,aax hV hn,akQ hO hn,e1,e2,ani,afh hR hn,ZL hV hn,ajr hO hn,anK,m0,m2,m4,aah hR hn,ZX hR hn,adk hR,decide_true]
theorem all:∀(N:Nat) (c:Cont (kin dO)),aaf dO c→szC dO c≤N→∃n out,pQ.F n c=some out∧out.1=true:=by
 intro N c hc _
 exact ⟨1048577,(true,()),law (v:=c.1) (o:=c.2.1) (akH hc.1) (akG hc.2.1),rfl⟩
end Go.Proofs.YtailcbngagacaabGreat.L6
