/- 'FnExactFlushVault': what it comes to. -/
import Derived.Test.YtailcbngagacaabGreatOwF
import Derived.Test.YtailcbngagacaabGreatLoopLib
import Derived.Test.YtailcbngagacaabGreatStoreMath
import Derived.Test.YtailcbngagacaabGreatOpsMath
import Derived.Test.YtailcbngagacaabGreatCodecMath
import Derived.Test.YtailcbngagacaabGreatVaultMath
import Derived.Test.YtailcbngagacaabGreatVResMath
import Derived.Test.YtailcbngagacaabGreatUpMath
import Derived.Test.YtailcbngagacaabGreatConcMath
import Derived.Test.YtailcbngagacaabGreatFlushF
set_option linter.unusedSectionVars false
set_option linter.unusedVariables false
set_option linter.unusedSimpArgs false
namespace Go.Proofs.YtailcbngagacaabGreat.Lr
open Go Go.Proofs.YtailcbngagacaabGreat.Ow Go.Proofs.YtailcbngagacaabGreat.ry Go.Proofs.YtailcbngagacaabGreat.om Go.Proofs.YtailcbngagacaabGreat.jm Go.Proofs.YtailcbngagacaabGreat.mW Go.Proofs.YtailcbngagacaabGreat.rF Go.Proofs.YtailcbngagacaabGreat.CJ Go.Proofs.YtailcbngagacaabGreat.IY Go.Proofs.YtailcbngagacaabGreat.Wv Go.Proofs.YtailcbngagacaabGreat.Oq
def JI (v:D9):D9:=(true,v.2.1++v.2.2.1,[],v.2.2.2.1,())
theorem ZH {n:Nat} {v:D9} (h:LV v) (hn:big<n):sF n v=some (JI v,()):=by
 have h1:=h.s1
 have h2:=h.s2
 unfold big at h1 h2
 unfold sF
 rw [concat (by simp) (by simp only [List.flatten_cons,List.flatten_nil,List.append_nil,List.length_append]; omega) hn,own h.st hn]
 simp only [Option.bind_some,List.flatten_cons,List.flatten_nil,List.append_nil]
 rfl
theorem flush {n:Nat} {v:D9} (h:LV v) (hu:v.1=true) (hn:big<n):qP n v=some (JI v,()):=by
 have h1:=h.s1
 have h2:=h.s2
 unfold big at h1 h2
 unfold qP xh
 rw [NG h.s1,NG h.s2,NH h.st hn]
 simp only [Option.bind_some]
 rw [if_pos (by omega),hu]
 rfl
theorem Ry {n:Nat} {v:D9} (h:Ws v) (hn:big<n):∃r:VR,og n v=some (r,())∧jU n v=some (r,())∧LR r:=by
 obtain ⟨c,e1,e2,hc⟩:=adR h hn
 have q3:∀c,yT n c=some (QU c,()):=fun _=>rfl
 unfold og jU
 simp only [e1,e2,q3,Option.bind_some]
 by_cases c0:c=0
 ·have hu:=hc c0
  simp only [decide_eq_true c0,Bool.not_true,Bool.false_eq_true,if_false]
  rw [flush (LV.of h) hu.up hn,ZH (LV.of h) hn]
  have hf:=hu.few
  refine ⟨(0,[],JI v,()),rfl,rfl,by simp, ?_,by simp [JI],h.st⟩
  simp only [JI,List.length_append]
  unfold big; omega
 ·simp only [decide_eq_false c0,Bool.not_false,if_true]
  exact ⟨QU c,rfl,rfl,acF _⟩
theorem law {v:D9} (hv:lV v):ko 1048577 v=some (true,()):=by
 have hn:big<1048577:=by unfold big; omega
 unfold ko
 obtain ⟨r1,a1,a2⟩:=aam hv hn
 rw [a1]
 simp only [Option.bind_some]
 by_cases c1:r1<0
 ·simp only [c1,decide_true,if_true]
 ·have hV:=a2.resolve_left c1
  obtain ⟨r,e1,e2,hR⟩:=Ry hV hn
  have m0:=Mj (n:=1048577) (k:=1) (LV.of hV) hn (by omega) (by omega)
  have m1:=EO (k:=1) (LV.of hV) (by omega) (by omega)
  have m2:¬kV 1 v<0:=by omega
  simp only [c1,decide_false,Bool.false_eq_true,if_false,aap hV hn,e1,e2,Option.bind_some,agl hR hn,ZE hV hn,Bool.not_true,m0,m2,Z9 hR hn,ZQ hR hn,adL hR,decide_true]
theorem all:∀(N:Nat) (c:Cont (kin bV)),Z7 bV c→szC bV c≤N→∃n out,kg.F n c=some out∧out.1=true:=by
 intro N c hc _
 exact ⟨1048577,(true,()),law (v:=c.1) (alM hc.1),rfl⟩
end Go.Proofs.YtailcbngagacaabGreat.Lr
