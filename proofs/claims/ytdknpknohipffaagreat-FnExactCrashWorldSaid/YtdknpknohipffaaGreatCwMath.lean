/- 'FnExactCrashWorld': what it comes to. -/
import Derived.Test.YtdknpknohipffaaGreatOwF
import Derived.Test.YtdknpknohipffaaGreatLoopLib
import Derived.Test.YtdknpknohipffaaGreatStoreMath
import Derived.Test.YtdknpknohipffaaGreatOpsMath
import Derived.Test.YtdknpknohipffaaGreatCodecMath
import Derived.Test.YtdknpknohipffaaGreatVaultMath
import Derived.Test.YtdknpknohipffaaGreatVResMath
import Derived.Test.YtdknpknohipffaaGreatWfLibMath
import Derived.Test.YtdknpknohipffaaGreatWMarkMath
import Derived.Test.YtdknpknohipffaaGreatCrashLibMath
import Derived.Test.YtdknpknohipffaaGreatCwF
set_option linter.unusedSectionVars false
set_option linter.unusedVariables false
set_option linter.unusedSimpArgs false
namespace Go.Proofs.YtdknpknohipffaaGreat.X0
open Go Go.Proofs.YtdknpknohipffaaGreat.Ow Go.Proofs.YtdknpknohipffaaGreat.Qq Go.Proofs.YtdknpknohipffaaGreat.kG Go.Proofs.YtdknpknohipffaaGreat.gK Go.Proofs.YtdknpknohipffaaGreat.jO Go.Proofs.YtdknpknohipffaaGreat.lD Go.Proofs.YtdknpknohipffaaGreat.tC Go.Proofs.YtdknpknohipffaaGreat.zf Go.Proofs.YtdknpknohipffaaGreat.Hq Go.Proofs.YtdknpknohipffaaGreat.NG Go.Proofs.YtdknpknohipffaaGreat.EL
theorem few {n:Nat} {w:M9} {c:Int} (h:OKW w) (hn:big<n) (e:fF n w=some (c,())) (c0:c=0):w.2.1.length≤3:=by
 obtain ⟨d,_,g2,_⟩:=EG h.v hn
 by_cases hl:w.2.1.length≤3
 ·exact hl
 ·exfalso
  unfold fF at e
  rw [g2] at e
  simp only [ape] at e
  by_cases d0:d=0
  ·simp only [d0,decide_true,apF,apg,if_false] at e
   rw [if_neg (by rw [decide_eq_true_eq]; omega),if_pos (by rw [decide_eq_true_eq]; omega)] at e
   simp only [apd,apo,and_true] at e
   omega
  ·simp only [d0,decide_false,apQ,if_true,apd,apo,and_true] at e
   exact d0 (e.trans c0)
abbrev sN:Qr:=([],0,[],1,())
theorem fresh {n:Nat} {k:Nat} (hk:k≤8) (hn:big<n):vI n (k:Int)=some (List.replicate k sN,()):=by
 have hn':1048576<n:=hn
 unfold vI
 refine (aM (fun i=>((k:Int),(i:Int),List.replicate i sN,())) (fun _=>none) (some (List.replicate k sN,())) (m:=k) rfl (by omega) ?_ ?_).trans (bG (fun _ _ _=>rfl))
 ·intro L i hi _
  simp only [apE,hi,decide_true,if_true,aN hi (by omega),List.length_replicate,apy]
  rw [if_pos (by omega), ←List.replicate_succ']
 ·intro L _
  simp
theorem main {n:Nat} {w:M9} {k:Int} (h:OKW w) (hn:big<n):∃r:WR,oD n w k=some (r,())∧ku n w k=some (r,())∧LWR r:=by
 have hn':1048576<n:=hn
 obtain ⟨c,e1,e2⟩:=U0 h hn
 obtain ⟨r,f1,f2,f3⟩:=TP (k:=k) h.v hn
 have q3:∀c,uw n c=some (Yz c,()):=fun _=>rfl
 unfold oD ku
 simp only [e1,e2,f1,f2,q3,ape]
 by_cases c0:c=0
 ·have hl:=few h hn e2 c0
  simp only [decide_eq_true c0,apF,apg,if_false]
  by_cases c1:r.1=0
  ·simp only [decide_eq_true c1,apF,apg,if_false]
   rw [fresh (by omega) hn]
   simp only [ape]
   refine ⟨(0,[],(r.2.2.1,List.replicate w.2.1.length sN,()),()), ?_,rfl,rfl,f3.2, ?_,fun s hs=>?_⟩
   ·refine (aM (fun i=>((i:Int),w,(0,[],((false,[],[],(0,[],()),()),[],()),()),(r.2.2.1,List.replicate i sN,()),())) (fun _=>none) (some ((0,[],(r.2.2.1,List.replicate w.2.1.length sN,()),()),())) (m:=w.2.1.length) rfl (by omega) ?_ ?_).trans (bG (fun _ _ _=>rfl))
    ·intro L i hi _
     simp only [apE,hi,decide_true,if_true,aN hi (by omega),List.length_replicate,apy]
     rw [if_pos (by omega), ←List.replicate_succ']
    ·intro L _
     simp
   ·simp only [List.length_replicate]; unfold big; omega
   ·rw [(List.mem_replicate.1 hs).2]
    exact ⟨by simp,by simp⟩
  ·simp only [decide_eq_false c1,apQ,if_true]
   exact ⟨Yz r.1,rfl,rfl,U7 _⟩
 ·simp only [decide_eq_false c0,apQ,if_true]
  exact ⟨Yz c,rfl,rfl,U7 _⟩
theorem law {w:M9} {k:Int} (hw:lW w):kJ 1048577 w k=some (true,()):=by
 have hn:big<1048577:=by unfold big; omega
 unfold kJ
 obtain ⟨r1,a1,a2⟩:=ab6 hw hn
 rw [a1]
 simp only [ape]
 by_cases c1:r1<0
 ·simp only [c1,decide_true,if_true]
 ·have hV:=a2.resolve_left c1
  obtain ⟨r,e1,e2,hR⟩:=main (k:=k) hV hn
  have m0:=Oj (n:=1048577) (LW.of hV) hn
  have m2:=PT (LW.of hV)
  simp only [c1,decide_false,apg,if_false,acd hV hn,e1,e2,ape,ad8 hR hn,abv hV hn,apF,m0,m2,Z0 hR hn,Zb hR hn,PT hR.2,decide_true]
theorem all:∀(N:Nat) (c:Cont (kin dO)),abS dO c→szC dO c≤N→∃n out,qy.F n c=some out∧out.1=true:=by
 intro N c hc _
 exact ⟨1048577,(true,()),law (w:=c.1) (k:=c.2.1) (amG hc.1),rfl⟩
end Go.Proofs.YtdknpknohipffaaGreat.X0
