/- 'FnExactRecoverWorld': what it comes to. -/
import Derived.Test.YtdknpknohipffaaGreatOwF
import Derived.Test.YtdknpknohipffaaGreatLoopLib
import Derived.Test.YtdknpknohipffaaGreatStoreMath
import Derived.Test.YtdknpknohipffaaGreatOpsMath
import Derived.Test.YtdknpknohipffaaGreatCodecMath
import Derived.Test.YtdknpknohipffaaGreatVaultMath
import Derived.Test.YtdknpknohipffaaGreatVResMath
import Derived.Test.YtdknpknohipffaaGreatWfLibMath
import Derived.Test.YtdknpknohipffaaGreatWMarkMath
import Derived.Test.YtdknpknohipffaaGreatRecLibMath
import Derived.Test.YtdknpknohipffaaGreatRwF
set_option linter.unusedSectionVars false
set_option linter.unusedVariables false
set_option linter.unusedSimpArgs false
namespace Go.Proofs.YtdknpknohipffaaGreat.Zy
open Go Go.Proofs.YtdknpknohipffaaGreat.Ow Go.Proofs.YtdknpknohipffaaGreat.Uf Go.Proofs.YtdknpknohipffaaGreat.nW Go.Proofs.YtdknpknohipffaaGreat.iI Go.Proofs.YtdknpknohipffaaGreat.kR Go.Proofs.YtdknpknohipffaaGreat.oQ Go.Proofs.YtdknpknohipffaaGreat.yG Go.Proofs.YtdknpknohipffaaGreat.Et Go.Proofs.YtdknpknohipffaaGreat.Ju Go.Proofs.YtdknpknohipffaaGreat.OX Go.Proofs.YtdknpknohipffaaGreat.L6
theorem acP {n:Nat} {bs:List Int} (h:bs.length≤big):gB n bs=some (bs,()):=by
 unfold big at h
 unfold gB
 have hc:(([]:List Int).length+bs.length) * 8≤140737488355328:=by simp; omega
 simp only [if_pos hc]
 cases bs with
 | nil=>exact (if_pos (show ([]:List Int).isEmpty=true from rfl)).trans (R5 (ks:=[.sl 2 (.int .i64)]) (some (([]:List Int),())))
 | cons b bs=>rfl
abbrev zV:K8:=(false,[],[],(0,[],()),())
theorem ao4 {n:Nat} {l:List Ry} (hl:l.length≤big) (h:∀s∈l,KU s) (hn:big<n):qR n (zV,l,())=some ((zV,l,()),()):=by
 have hl':l.length≤1048576:=hl
 have hn':1048576<n:=hn
 have hz:Cy (0,[],()):=⟨by simp [big],fun b hb=>absurd hb (List.not_mem_nil)⟩
 unfold qR vZ
 rw [clone (bs:=[]) (by simp [big]),own hz hn]
 simp only [Option.bind_some]
 refine (aO (fun i=>(l,(l.length:Int),(i:Int),(zV,[],()),(zV,l.take i,()),())) (fun _=>none) (some ((zV,l,()),())) (m:=l.length) (by simp) (by omega) ?_ ?_).trans (bJ (fun _ _ _=>rfl))
 ·intro L i hi _
  have ht:l.take (i+1)=l.take i++[l[i]]:=by simp
  have hlt:(l.take i).length≤i:=by simp; omega
  simp only [Int.ofNat_lt,hi,decide_true,if_true,aG hi,dU hi,aN hi (by omega),acP (h _ (List.getElem_mem hi)).2,Option.bind_some,List.length_singleton,ht]
  rw [if_pos (by omega)]
 ·intro L _
  simp
theorem ajE {n:Nat} {w:Ou} (h:OKW w) (hn:big<n):∃v,uR n w=some ((v,w.2.1,()),()):=by
 have hl':w.2.1.length≤1048576:=h.l
 have hn':1048576<n:=hn
 unfold uR y7
 rw [Nq h.v.s1,Nq h.v.s2,QV h.v.st hn]
 simp only [Option.bind_some]
 refine ⟨w.1, ?_⟩
 refine (aO (fun i=>((i:Int),w,(zV,[],()),(w.1,w.2.1.take i,()),())) (fun _=>none) (some ((w.1,w.2.1,()),())) (m:=w.2.1.length) (by simp) (by omega) ?_ ?_).trans (bJ (fun _ _ _=>rfl))
 ·intro L i hi _
  have ht:w.2.1.take (i+1)=w.2.1.take i++[w.2.1[i]]:=by simp
  have hlt:(w.2.1.take i).length≤i:=by simp; omega
  have hs:(w.2.1[i]).2.2.1.length≤1048576:=(h.s _ (List.getElem_mem hi)).2
  simp only [Int.ofNat_lt,hi,decide_true,if_true,aG hi,dU hi,aN hi (by omega),List.length_singleton,List.length_nil,List.nil_append,ht]
  rw [if_pos (by omega),if_pos (by omega)]
 ·intro L _
  simp
theorem main {n:Nat} {w:Ou} (h:OKW w) (hn:big<n):∃r:WR,l9 n w=some (r,())∧iW n w=some (r,())∧LWR r:=by
 obtain ⟨c,e1,e2⟩:=VT h hn
 obtain ⟨r,f1,f2,f3⟩:=recover h.v hn
 obtain ⟨v,g1⟩:=ajE h hn
 have g2:=ao4 h.l h.s hn
 have q3:∀c,wW n c=some (ZN c,()):=fun _=>rfl
 unfold l9 iW
 simp only [e1,e2,f1,f2,g1,g2,q3,Option.bind_some]
 by_cases c0:c=0
 ·simp only [decide_eq_true c0,Bool.not_true,Bool.false_eq_true,if_false]
  by_cases c1:r.1=0
  ·simp only [decide_eq_true c1,Bool.not_true,Bool.false_eq_true,if_false]
   exact ⟨(0,[],(r.2.2.1,w.2.1,()),()),rfl,rfl,rfl,f3.2,h.l,h.s⟩
  ·simp only [decide_eq_false c1,Bool.not_false,if_true]
   exact ⟨ZN r.1,rfl,rfl,V6 _⟩
 ·simp only [decide_eq_false c0,Bool.not_false,if_true]
  exact ⟨ZN c,rfl,rfl,V6 _⟩
theorem law {w:Ou} (hw:lW w):jN 1048577 w=some (true,()):=by
 have hn:big<1048577:=by unfold big; omega
 unfold jN
 obtain ⟨r1,a1,a2⟩:=adA hw hn
 rw [a1]
 simp only [Option.bind_some]
 by_cases c1:r1<0
 ·simp only [c1,decide_true,if_true]
 ·have hV:=a2.resolve_left c1
  obtain ⟨r,e1,e2,hR⟩:=main hV hn
  have m0:=Pv (n:=1048577) (LW.of hV) hn
  have m2:=QU (LW.of hV)
  simp only [c1,decide_false,Bool.false_eq_true,if_false,adE hV hn,e1,e2,Option.bind_some,afW hR hn,acX hV hn,Bool.not_true,m0,m2,abh hR hn,aat hR hn,QU hR.2,decide_true]
theorem all:∀(N:Nat) (c:Cont (kin bN)),adm bN c→szC bN c≤N→∃n out,jM.F n c=some out∧out.1=true:=by
 intro N c hc _
 exact ⟨1048577,(true,()),law (w:=c.1) (ao0 hc.1),rfl⟩
end Go.Proofs.YtdknpknohipffaaGreat.Zy
