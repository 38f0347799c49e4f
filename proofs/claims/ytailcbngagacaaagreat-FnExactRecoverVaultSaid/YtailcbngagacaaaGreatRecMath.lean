/- 'FnExactRecoverVault': what it comes to. -/
import Derived.Test.YtailcbngagacaaaGreatOwF
import Derived.Test.YtailcbngagacaaaGreatLoopLib
import Derived.Test.YtailcbngagacaaaGreatPackLib
import Derived.Test.YtailcbngagacaaaGreatStoreMath
import Derived.Test.YtailcbngagacaaaGreatOpsMath
import Derived.Test.YtailcbngagacaaaGreatCodecMath
import Derived.Test.YtailcbngagacaaaGreatJourMath
import Derived.Test.YtailcbngagacaaaGreatVaultMath
import Derived.Test.YtailcbngagacaaaGreatVResMath
import Derived.Test.YtailcbngagacaaaGreatRecF
set_option linter.unusedSectionVars false
set_option linter.unusedVariables false
set_option linter.unusedSimpArgs false
namespace Go.Proofs.YtailcbngagacaaaGreat.Sn
open Go Go.Proofs.YtailcbngagacaaaGreat.Ow Go.Proofs.YtailcbngagacaaaGreat.FD Go.Proofs.YtailcbngagacaaaGreat.qM Go.Proofs.YtailcbngagacaaaGreat.zU Go.Proofs.YtailcbngagacaaaGreat.lN Go.Proofs.YtailcbngagacaaaGreat.og Go.Proofs.YtailcbngagacaaaGreat.tY Go.Proofs.YtailcbngagacaaaGreat.Iz Go.Proofs.YtailcbngagacaaaGreat.FH Go.Proofs.YtailcbngagacaaaGreat.Oi
theorem recover {n:Nat} {v:IM} (h:Y3 v) (hn:big<n):∃r:VR,kK n v=some (r,())∧iK n v=some (r,())∧LR r:=by
 obtain ⟨c,e1,e2,_⟩:=R7 h hn
 obtain ⟨r,a1,a2,a3,_⟩:=OA SB.1 SB.2 (fun o ho=>(XE h.b1 o ho).1) hn
 have hle:=(BO v.2.1).2.1
 have q1:pQ n=some (eS,()):=rfl
 have q2:nD n=some (eS,()):=rfl
 have q3:∀c,qA n c=some (MV c,()):=fun _=>rfl
 unfold kK iK
 simp only [e1,e2,q1,q2,q3,F3 h.b1 h.s1 hn,F4 h.b1 h.s1 hn,a1,a2,Option.bind_some]
 have hk:(v.2.1.take (jP v.2.1).2).length≤big:=by rw [List.length_take]; have:=h.s1; omega
 by_cases c0:c=0
 ·simp only [decide_eq_true c0,Bool.not_true,Bool.false_eq_true,if_false]
  cases v.1 with
  | true=>exact ⟨MV 9,rfl,rfl,Qo _⟩
  | false=>
   simp only [Bool.false_eq_true,if_false]
   by_cases c1:r.1=0
   ·simp only [decide_eq_true c1,Bool.not_true,Bool.false_eq_true,if_false]
    rw [if_pos ⟨by omega,by omega⟩,if_pos ⟨by omega,by omega⟩,Int.toNat_natCast,Rp hk,clone hk]
    exact ⟨(0,[],(true,v.2.1.take (jP v.2.1).2,[],r.2.2.1,()),()),rfl,rfl,by simp,hk,by simp,a3.2⟩
   ·simp only [decide_eq_false c1,Bool.not_false,if_true]
    exact ⟨MV r.1,rfl,rfl,Qo _⟩
 ·simp only [decide_eq_false c0,Bool.not_false,if_true]
  exact ⟨MV c,rfl,rfl,Qo _⟩
theorem law {v:IM} (hv:lV v):jq 1048577 v=some (true,()):=by
 have hn:big<1048577:=by unfold big; omega
 unfold jq
 obtain ⟨r1,a1,a2⟩:=Z4 hv hn
 rw [a1]
 simp only [Option.bind_some]
 by_cases c1:r1<0
 ·simp only [c1,decide_true,if_true]
 ·have hV:=a2.resolve_left c1
  obtain ⟨r,e1,e2,hR⟩:=recover hV hn
  have m0:=LX (n:=1048577) (k:=1) (LV.of hV) hn (by omega) (by omega)
  have m1:=EA (k:=1) (LV.of hV) (by omega) (by omega)
  have m2:¬kV 1 v<0:=by omega
  simp only [c1,decide_false,Bool.false_eq_true,if_false,Z7 hV hn,e1,e2,Option.bind_some,afC hR hn,Zl hV hn,Bool.not_true,m0,m2,ZN hR hn,Zx hR hn,adf hR,decide_true]
theorem all:∀(N:Nat) (c:Cont (kin bM)),ZL bM c→szC bM c≤N→∃n out,jo.F n c=some out∧out.1=true:=by
 intro N c hc _
 exact ⟨1048577,(true,()),law (v:=c.1) (akU hc.1),rfl⟩
end Go.Proofs.YtailcbngagacaaaGreat.Sn
