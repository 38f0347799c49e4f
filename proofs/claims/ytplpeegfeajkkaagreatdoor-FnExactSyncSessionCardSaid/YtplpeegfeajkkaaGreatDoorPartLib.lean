/- The loop that parts a slice into the marks of one half and the other half. No program in sight. -/
import Derived.Test.YtplpeegfeajkkaaGreatDoorNumLib
set_option linter.unusedVariables false
set_option linter.unusedSimpArgs false
namespace Go.Proofs.YtplpeegfeajkkaaGreatDoor.YN
open Go Ow
theorem aq0{A C b R:Type}{p:A->Bool}{g:A->C}{d:A}{xs:List A}{a0:b}{fin:b->List C->List A->R}{sc sa n:Nat}{B:(List A×Int×Int×b×List C×List A×Unit->Option R)->List A×Int×Int×b×List C×List A×Unit->Option R}
  (hB:∀L v,B L v=(if decide (v.2.2.1<v.2.1)=true then(if aF v.2.2.1 v.1.length then(if p (v.1.getD v.2.2.1.toNat d)=true then(if(v.2.2.2.2.1.length+[g (v.1.getD v.2.2.1.toNat d)].length)*sc<=140737488355328 then L (v.1,v.2.1,IntKind.i64.wrap (v.2.2.1+(1:Int)),v.2.2.2.1,v.2.2.2.2.1++[g (v.1.getD v.2.2.1.toNat d)],v.2.2.2.2.2.1,())else none)else(if(v.2.2.2.2.2.1.length+[v.1.getD v.2.2.1.toNat d].length)*sa<=140737488355328 then L (v.1,v.2.1,IntKind.i64.wrap (v.2.2.1+(1:Int)),v.2.2.2.1,v.2.2.2.2.1,v.2.2.2.2.2.1++[v.1.getD v.2.2.1.toNat d],())else none))else none)else some (fin v.2.2.2.1 v.2.2.2.2.1 v.2.2.2.2.2.1)))
  (hb:xs.length<4611686018427387904) (hc:xs.length*sc<=140737488355328) (ha:xs.length*sa<=140737488355328) (hn:xs.length<n) :
  rounds B n (xs,(xs.length:Int),(0:Int),a0,[],[],())=some (fin a0 ((xs.filter p).map g) (xs.filter λx=>!p x)):=by
 refine(gp (λi=>(xs,(xs.length:Int),(i:Int),a0,((xs.take i).filter p).map g,(xs.take i).filter (λx=>!p x),())) (λ_=>none) (some (fin a0 ((xs.filter p).map g) (xs.filter λx=>!p x))) (m:=xs.length) (by simp) hn ?_ ?_).trans ?_
 ·intro L i hi _
  have hl1:((xs.take i).filter p).length<=i:=nC (q8 _ _) (by simp;omega)
  have hl2:((xs.take i).filter λx=>!p x).length<=i:=nC (q8 _ _) (by simp;omega)
  have hs1:(((xs.take i).filter p).length+1)*sc<=140737488355328:=nC (j4 _ (by omega)) hc
  have hs2:(((xs.take i).filter λx=>!p x).length+1)*sa<=140737488355328:=nC (j4 _ (by omega)) ha
  have ht:xs.take (i+1)=xs.take i++[xs[i]]:=by simp
  simp only[hB,eB,hi,bG,aQ,bU hi,ku hi,dL hi (by omega),nP,gL,hs1,hs2,ht,xX,q9]
  cases hp:p xs[i]<;>simp[hp]
 ·intro L _
  simp[hB]
 ·exact ko (λ_ _ _=>rfl)
end Go.Proofs.YtplpeegfeajkkaaGreatDoor.YN
