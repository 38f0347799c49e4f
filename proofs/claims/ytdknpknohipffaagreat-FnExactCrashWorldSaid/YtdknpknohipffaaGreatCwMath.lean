/- 'FnExactCrashWorld': what it comes to. -/
import Derived.Test.YtdknpknohipffaaGreatOwF
import Derived.Test.YtdknpknohipffaaGreatLoopLib
import Derived.Test.YtdknpknohipffaaGreatStoreMath
import Derived.Test.YtdknpknohipffaaGreatOpsMath
import Derived.Test.YtdknpknohipffaaGreatCodecMath
import Derived.Test.YtdknpknohipffaaGreatVaultMath
import Derived.Test.YtdknpknohipffaaGreatVResMath
import Derived.Test.YtdknpknohipffaaGreatWfLibMath
import Derived.Test.YtdknpknohipffaaGreatWMarkMath
import Derived.Test.YtdknpknohipffaaGreatCrashLibMath
import Derived.Test.YtdknpknohipffaaGreatCwF
set_option linter.unusedSectionVars false
set_option linter.unusedVariables false
set_option linter.unusedSimpArgs false
namespace Go.Proofs.YtdknpknohipffaaGreat.Y3
open Go Go.Proofs.YtdknpknohipffaaGreat.Ow Go.Proofs.YtdknpknohipffaaGreat.RG Go.Proofs.YtdknpknohipffaaGreat.kN Go.Proofs.YtdknpknohipffaaGreat.gL Go.Proofs.YtdknpknohipffaaGreat.jV Go.Proofs.YtdknpknohipffaaGreat.lZ Go.Proofs.YtdknpknohipffaaGreat.wz Go.Proofs.YtdknpknohipffaaGreat.BO Go.Proofs.YtdknpknohipffaaGreat.JA Go.Proofs.YtdknpknohipffaaGreat.OY Go.Proofs.YtdknpknohipffaaGreat.G6
theorem few {n:Nat} {w:Ou} {c:Int} (h:OKW w) (hn:big<n) (e:fF n w=some (c,())) (c0:c=0):w.2.1.length≤3:=by
 obtain ⟨d,_,g2,_⟩:=GV h.v hn
 by_cases hl:w.2.1.length≤3
 ·exact hl
 ·exfalso
  unfold fF at e
  rw [g2] at e
  simp only [Option.bind_some] at e
  by_cases d0:d=0
  ·simp only [d0,decide_true,Bool.not_true,Bool.false_eq_true,if_false] at e
   rw [if_neg (by rw [decide_eq_true_eq]; omega),if_pos (by rw [decide_eq_true_eq]; omega)] at e
   simp only [Option.some.injEq,Prod.mk.injEq,and_true] at e
   omega
  ·simp only [d0,decide_false,Bool.not_false,if_true,Option.some.injEq,Prod.mk.injEq,and_true] at e
   exact d0 (e.trans c0)
abbrev sN:RH:=([],0,[],1,())
theorem fresh {n:Nat} {k:Nat} (hk:k≤8) (hn:big<n):yx n (k:Int)=some (List.replicate k sN,()):=by
 have hn':1048576<n:=hn
 unfold yx
 refine (aM (fun i=>((k:Int),(i:Int),List.replicate i sN,())) (fun _=>none) (some (List.replicate k sN,())) (m:=k) rfl (by omega) ?_ ?_).trans (bG (fun _ _ _=>rfl))
 ·intro L i hi _
  simp only [Int.ofNat_lt,hi,decide_true,if_true,aN hi (by omega),List.length_replicate,List.length_singleton]
  rw [if_pos (by omega), ←List.replicate_succ']
 ·intro L _
  simp
theorem main {n:Nat} {w:Ou} {k:Int} (h:OKW w) (hn:big<n):∃r:WR,pF n w k=some (r,())∧kH n w k=some (r,())∧LWR r:=by
 have hn':1048576<n:=hn
 obtain ⟨c,e1,e2⟩:=V6 h hn
 obtain ⟨r,f1,f2,f3⟩:=U3 (k:=k) h.v hn
 have q3:∀c,wW n c=some (ZV c,()):=fun _=>rfl
 unfold pF kH
 simp only [e1,e2,f1,f2,q3,Option.bind_some]
 by_cases c0:c=0
 ·have hl:=few h hn e2 c0
  simp only [decide_eq_true c0,Bool.not_true,Bool.false_eq_true,if_false]
  by_cases c1:r.1=0
  ·simp only [decide_eq_true c1,Bool.not_true,Bool.false_eq_true,if_false]
   rw [fresh (by omega) hn]
   simp only [Option.bind_some]
   refine ⟨(0,[],(r.2.2.1,List.replicate w.2.1.length sN,()),()), ?_,rfl,rfl,f3.2, ?_,fun s hs=>?_⟩
   ·refine (aM (fun i=>((i:Int),w,(0,[],((false,[],[],(0,[],()),()),[],()),()),(r.2.2.1,List.replicate i sN,()),())) (fun _=>none) (some ((0,[],(r.2.2.1,List.replicate w.2.1.length sN,()),()),())) (m:=w.2.1.length) rfl (by omega) ?_ ?_).trans (bG (fun _ _ _=>rfl))
    ·intro L i hi _
     simp only [Int.ofNat_lt,hi,decide_true,if_true,aN hi (by omega),List.length_replicate,List.length_singleton]
     rw [if_pos (by omega), ←List.replicate_succ']
    ·intro L _
     simp
   ·simp only [List.length_replicate]; unfold big; omega
   ·rw [(List.mem_replicate.1 hs).2]
    exact ⟨by simp,by simp⟩
  ·simp only [decide_eq_false c1,Bool.not_false,if_true]
   exact ⟨ZV r.1,rfl,rfl,Wl _⟩
 ·simp only [decide_eq_false c0,Bool.not_false,if_true]
  exact ⟨ZV c,rfl,rfl,Wl _⟩
theorem law {w:Ou} {k:Int} (hw:lW w):lq 1048577 w k=some (true,()):=by
 have hn:big<1048577:=by unfold big; omega
 unfold lq
 obtain ⟨r1,a1,a2⟩:=adE hw hn
 rw [a1]
 simp only [Option.bind_some]
 by_cases c1:r1<0
 ·simp only [c1,decide_true,if_true]
 ·have hV:=a2.resolve_left c1
  obtain ⟨r,e1,e2,hR⟩:=main (k:=k) hV hn
  have m0:=Pz (n:=1048577) (LW.of hV) hn
  have m2:=Q3 (LW.of hV)
  simp only [c1,decide_false,Bool.false_eq_true,if_false,adI hV hn,e1,e2,Option.bind_some,af5 hR hn,ac1 hV hn,Bool.not_true,m0,m2,abo hR hn,aaA hR hn,Q3 hR.2,decide_true]
theorem all:∀(N:Nat) (c:Cont (kin bW)),adq bW c→szC bW c≤N→∃n out,kZ.F n c=some out∧out.1=true:=by
 intro N c hc _
 exact ⟨1048577,(true,()),law (w:=c.1) (k:=c.2.1) (aph hc.1),rfl⟩
end Go.Proofs.YtdknpknohipffaaGreat.Y3
