/- Copies of worlds. -/
import Derived.Test.YtplpeegfeajkkaaGreatDoorDigMath
namespace Go.Proofs.YtplpeegfeajkkaaGreatDoor.YX
open Go Ow nE nQ oI nS tK w9 IC
theorem alf{n:Nat}{bs:List Int}(h:bs.length<=big):LP n bs=some (bs,()):=by
 unfold big at h
 unfold LP
 have hc:(([]:List Int).length+bs.length)*8<=140737488355328:=by simp;omega
 simp only[aj hc]
 cases bs with
 |nil=>exact(aj (show([]:List Int).isEmpty=true from rfl)).trans (Y3 (ks:=[.sl 2 (.int .i64)]) (some (([]:List Int),())))
 |cons b bs=>rfl
theorem aqU{n:Nat}{w:gM}(h:uP w)(hn:big<n):K7 n w=some (w,()):=by
 have hl':w.2.1.length<=1048576:=h.l
 have hn':1048576<n:=hn
 unfold K7 PT
 rw[clone h.v.s1,clone h.v.s2,own h.v.st hn]
 simp only[aG]
 refine(gp (λi=>(w.2.1,(w.2.1.length:Int),(i:Int),((false,[],[],(0,[],()),()),[],()),(w.1,w.2.1.take i,()),())) (λ_=>none) (some (w,())) (m:=w.2.1.length) (by simp) (by omega) ?_ ?_).trans (ko (λ_ _ _=>rfl))
 ·intro L i hi _
  have ht:w.2.1.take (i+1)=w.2.1.take i++[w.2.1[i]]:=by simp
  have hlt:(w.2.1.take i).length<=i:=by simp;omega
  simp only[eB,hi,bG,aQ,bU hi,ku hi,dL hi (by omega),alf (h.s _ (iC hi)).2,aG,gL,ht]
  rw[aj (by omega)]
 ·intro L _
  simp
theorem alh{n:Nat}{w:gM}(h:uP w)(hn:big<n):Mc n w=some (w,()):=by
 have hl':w.2.1.length<=1048576:=h.l
 have hn':1048576<n:=hn
 unfold Mc P_
 rw[Ol h.v.s1,Ol h.v.s2,Oo h.v.st hn]
 simp only[aG]
 refine(gp (λi=>((i:Int),w,((false,[],[],(0,[],()),()),[],()),(w.1,w.2.1.take i,()),())) (λ_=>none) (some (w,())) (m:=w.2.1.length) (by simp) (by omega) ?_ ?_).trans (ko (λ_ _ _=>rfl))
 ·intro L i hi _
  have ht:w.2.1.take (i+1)=w.2.1.take i++[w.2.1[i]]:=by simp
  have hlt:(w.2.1.take i).length<=i:=by simp;omega
  have hs:(w.2.1[i]).2.2.1.length<=1048576:=(h.s _ (iC hi)).2
  simp only[eB,hi,bG,aQ,bU hi,ku hi,dL hi (by omega),gL,kK,ru,ht]
  rw[aj (by omega),aj (by omega)]
 ·intro L _
  simp
end Go.Proofs.YtplpeegfeajkkaaGreatDoor.YX
