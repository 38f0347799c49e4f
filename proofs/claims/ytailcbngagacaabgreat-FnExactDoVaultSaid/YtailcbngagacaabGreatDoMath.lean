/- 'FnExactDoVault': what it comes to. -/
import Derived.Test.YtailcbngagacaabGreatOwF
import Derived.Test.YtailcbngagacaabGreatLoopLib
import Derived.Test.YtailcbngagacaabGreatStoreMath
import Derived.Test.YtailcbngagacaabGreatOpsMath
import Derived.Test.YtailcbngagacaabGreatCodecMath
import Derived.Test.YtailcbngagacaabGreatVaultMath
import Derived.Test.YtailcbngagacaabGreatVResMath
import Derived.Test.YtailcbngagacaabGreatVResFMath
import Derived.Test.YtailcbngagacaabGreatUpMath
import Derived.Test.YtailcbngagacaabGreatWritMath
import Derived.Test.YtailcbngagacaabGreatOpArgMath
import Derived.Test.YtailcbngagacaabGreatFlushLibMath
import Derived.Test.YtailcbngagacaabGreatDoF
set_option linter.unusedSectionVars false
set_option linter.unusedVariables false
set_option linter.unusedSimpArgs false
namespace Go.Proofs.YtailcbngagacaabGreat.WA
open Go Go.Proofs.YtailcbngagacaabGreat.Ow Go.Proofs.YtailcbngagacaabGreat.Nr Go.Proofs.YtailcbngagacaabGreat.jO Go.Proofs.YtailcbngagacaabGreat.gp Go.Proofs.YtailcbngagacaabGreat.jc Go.Proofs.YtailcbngagacaabGreat.jV Go.Proofs.YtailcbngagacaabGreat.qG Go.Proofs.YtailcbngagacaabGreat.uw Go.Proofs.YtailcbngagacaabGreat.NF Go.Proofs.YtailcbngagacaabGreat.Jk Go.Proofs.YtailcbngagacaabGreat.Mj
theorem main {n:Nat} {v:CQ} {o:OpC} (h:WU v) (ho:okO o) (hd:qc o.2.2.2.2.2.2.2.1) (hn:big<n):∃r:VR,rC n v o=some (r,())∧nZ n v o=some (r,())∧LR r:=by
 obtain ⟨c,e1,e2,hc⟩:=adU h hn
 have q3:∀c,kC n c=some (Jv c,()):=fun _=>rfl
 unfold rC nZ y8
 simp only [e1,e2,q3,anY]
 by_cases c0:c=0
 ·obtain ⟨r,w1,w2,w3,w4⟩:=Jk.written h (hc c0) ho hd hn
  simp only [decide_eq_true c0,aoo,an0,if_false,w1,w2,anY]
  by_cases c1:r.1=0
  ·obtain ⟨u1,_,u3⟩:=w4 c1
   simp only [decide_eq_true c1,aoo,an0,if_false,if_true]
   rw [pg.flush w3.2 u1 hn,pg.aad w3.2 hn]
   refine ⟨(0,r.2.1,pg.J6 r.2.2.1,()),rfl, ?_,w3.1, ?_, ?_,w3.2.st⟩
   ·simp only [anY,c1]
   ·simp only [pg.J6,an5]; unfold big; omega
   ·simp [pg.J6]
  ·simp only [decide_eq_false c1,aoz,an0,if_false,if_true]
   exact ⟨r,rfl,rfl,w3⟩
 ·simp only [decide_eq_false c0,aoz,if_true]
  exact ⟨Jv c,rfl,rfl,NA _⟩
theorem law {v:CQ} {o:OpC} (hv:lV v) (ho:lO o):nH 1048577 v o=some (true,()):=by
 have hn:big<1048577:=by unfold big; omega
 unfold nH
 obtain ⟨r1,a1,a2⟩:=Zf hv hn
 rw [a1]
 simp only [anY]
 by_cases c1:r1<0
 ·simp only [c1,decide_true,if_true]
 ·have a2:=a2.resolve_left c1
  have hV:=a2.2
  obtain ⟨r2,b1,b2⟩:=alu (n:=1048577) ho (k:=r1) (by omega) a2.1
  simp only [c1,decide_false,an0,if_false,b1,anY]
  by_cases c2:r2<0
  ·simp only [c2,decide_true,if_true]
  ·have hO:=b2.resolve_left c2
   obtain ⟨r,e1,e2,hR⟩:=main hV hO ho.2.2.2.2 hn
   have m0:=MV (n:=1048577) (k:=1) (LV.of hV) hn (by omega) (by omega)
   have m1:=agX (LV.of hV)
   obtain ⟨x,y,m2,m3⟩:=adF (n:=1048577) (k:=kV 1 v) hO hn m1.1 m1.2
   have m4:¬x<0:=by omega
   simp only [c2,decide_false,an0,if_false,aaT hV hn,alv hO hn,e1,e2,anY,afV hR hn,aaa hV hn,aj4 hO hn,aoo,m0,m2,m4,aaD hR hn,aam hR hn,adO hR,decide_true]
theorem all:∀(N:Nat) (c:Cont (kin fA)),aaB fA c→szC fA c≤N→∃n out,sK.F n c=some out∧out.1=true:=by
 intro N c hc _
 exact ⟨1048577,(true,()),law (v:=c.1) (o:=c.2.1) (alk hc.1) (alj hc.2.1),rfl⟩
end Go.Proofs.YtailcbngagacaabGreat.WA
