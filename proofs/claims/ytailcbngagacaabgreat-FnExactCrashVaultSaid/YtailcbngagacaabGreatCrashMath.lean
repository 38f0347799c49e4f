/- 'FnExactCrashVault': what it comes to. -/
import Derived.Test.YtailcbngagacaabGreatOwF
import Derived.Test.YtailcbngagacaabGreatLoopLib
import Derived.Test.YtailcbngagacaabGreatStoreMath
import Derived.Test.YtailcbngagacaabGreatOpsMath
import Derived.Test.YtailcbngagacaabGreatCodecMath
import Derived.Test.YtailcbngagacaabGreatVaultMath
import Derived.Test.YtailcbngagacaabGreatVResMath
import Derived.Test.YtailcbngagacaabGreatUpMath
import Derived.Test.YtailcbngagacaabGreatConcMath
import Derived.Test.YtailcbngagacaabGreatCrashF
set_option linter.unusedSectionVars false
set_option linter.unusedVariables false
set_option linter.unusedSimpArgs false
namespace Go.Proofs.YtailcbngagacaabGreat.Ll
open Go Go.Proofs.YtailcbngagacaabGreat.Ow Go.Proofs.YtailcbngagacaabGreat.rq Go.Proofs.YtailcbngagacaabGreat.om Go.Proofs.YtailcbngagacaabGreat.jl Go.Proofs.YtailcbngagacaabGreat.mQ Go.Proofs.YtailcbngagacaabGreat.rE Go.Proofs.YtailcbngagacaabGreat.CB Go.Proofs.YtailcbngagacaabGreat.IW Go.Proofs.YtailcbngagacaabGreat.Wn Go.Proofs.YtailcbngagacaabGreat.Ol
theorem Q7 {n:Nat} {v:Gw} {k:Int} (h:Wj v) (hn:big<n):∃r:VR,og n v k=some (r,())∧jT n v k=some (r,())∧LR r:=by
 obtain ⟨c,e1,e2,hc⟩:=adG h hn
 have q3:∀c,uT n c=some (OL c,()):=fun _=>rfl
 have h1:=h.s1
 have h2:=h.s2
 unfold big at h1 h2
 unfold og jT bN
 simp only [e1,e2,q3,Option.bind_some,rU,Ga]
 by_cases c0:c=0
 ·have hu:=hc c0
  have hf:=hu.few
  simp only [decide_eq_true c0,Bool.not_true,Bool.false_eq_true,if_false]
  by_cases hk:0≤k∧k≤(v.2.2.1.length:Int)
  ·have hl:(v.2.1++v.2.2.1.take k.toNat).length≤8000:=by rw [List.length_append,List.length_take]; omega
   simp only [decide_eq_true hk,Bool.not_true,Bool.false_eq_true,if_false,if_pos hk]
   rw [RI h.s1,concat (by simp) (by simp only [List.flatten_cons,List.flatten_nil,List.append_nil]; omega) hn]
   simp only [Option.bind_some,List.flatten_cons,List.flatten_nil,List.append_nil]
   rw [if_pos (by rw [List.length_append] at hl; omega)]
   refine ⟨(0,[],(false,v.2.1++v.2.2.1.take k.toNat,[],(0,[],()),()),()),rfl,rfl,by simp, ?_,by simp,by simp [big],fun b hb=>absurd hb (List.not_mem_nil)⟩
   show (v.2.1++v.2.2.1.take k.toNat).length≤big
   unfold big; omega
  ·simp only [decide_eq_false hk,Bool.not_false,if_true]
   exact ⟨OL 3,rfl,rfl,Wh _⟩
 ·simp only [decide_eq_false c0,Bool.not_false,if_true]
  exact ⟨OL c,rfl,rfl,Wh _⟩
theorem law {v:Gw} {k:Int} (hv:lV v):kg 1048577 v k=some (true,()):=by
 have hn:big<1048577:=by unfold big; omega
 unfold kg
 obtain ⟨r1,a1,a2⟩:=aae hv hn
 rw [a1]
 simp only [Option.bind_some]
 by_cases c1:r1<0
 ·simp only [c1,decide_true,if_true]
 ·have hV:=a2.resolve_left c1
  obtain ⟨r,e1,e2,hR⟩:=Q7 (k:=k) hV hn
  have m0:=Mg (n:=1048577) (k:=1) (LV.of hV) hn (by omega) (by omega)
  have m1:=EK (k:=1) (LV.of hV) (by omega) (by omega)
  have m2:¬kV 1 v<0:=by omega
  simp only [c1,decide_false,Bool.false_eq_true,if_false,aah hV hn,e1,e2,Option.bind_some,af4 hR hn,Zw hV hn,Bool.not_true,m0,m2,ZY hR hn,ZI hR hn,adA hR,decide_true]
theorem all:∀(N:Nat) (c:Cont (kin bW)),ZW bW c→szC bW c≤N→∃n out,j6.F n c=some out∧out.1=true:=by
 intro N c hc _
 exact ⟨1048577,(true,()),law (v:=c.1) (k:=c.2.1) (alu hc.1),rfl⟩
end Go.Proofs.YtailcbngagacaabGreat.Ll
