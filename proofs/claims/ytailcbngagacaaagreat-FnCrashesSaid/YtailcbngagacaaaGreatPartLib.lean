/- The loop that parts a slice into the marks of one half and the other half. No program in sight. -/
import Derived.Test.YtailcbngagacaaaGreatLoopLib
set_option linter.unusedVariables false
set_option linter.unusedSimpArgs false
namespace Go.Proofs.YtailcbngagacaaaGreat.Xl
open Go Ow
theorem amQ {A C b R:Type} {p:A->Bool} {g:A->C} {d:A} {xs:List A} {a0:b} {fin:b->List C->List A->R} {sc sa n:Nat} {B:(List A×Int×Int×b×List C×List A×Unit->Option R)->List A×Int×Int×b×List C×List A×Unit->Option R}
  (hB:∀L v,B L v=(if decide (v.2.2.1<v.2.1)=true then (if aM v.2.2.1 v.1.length then (if p (v.1.getD v.2.2.1.toNat d)=true then (if (v.2.2.2.2.1.length+[g (v.1.getD v.2.2.1.toNat d)].length) * sc<=140737488355328 then L (v.1,v.2.1,IntKind.i64.wrap (v.2.2.1+(1:Int)),v.2.2.2.1,v.2.2.2.2.1++[g (v.1.getD v.2.2.1.toNat d)],v.2.2.2.2.2.1,()) else none) else (if (v.2.2.2.2.2.1.length+[v.1.getD v.2.2.1.toNat d].length) * sa<=140737488355328 then L (v.1,v.2.1,IntKind.i64.wrap (v.2.2.1+(1:Int)),v.2.2.2.1,v.2.2.2.2.1,v.2.2.2.2.2.1++[v.1.getD v.2.2.1.toNat d],()) else none)) else none) else some (fin v.2.2.2.1 v.2.2.2.2.1 v.2.2.2.2.2.1)))
  (hb:xs.length<4611686018427387904) (hc:xs.length * sc<=140737488355328) (ha:xs.length * sa<=140737488355328) (hn:xs.length<n) :
  rounds B n (xs,(xs.length:Int),(0:Int),a0,[],[],())=some (fin a0 ((xs.filter p).map g) (xs.filter fun x=>!p x)):=by
 refine (iA (fun i=>(xs,(xs.length:Int),(i:Int),a0,((xs.take i).filter p).map g,(xs.take i).filter (fun x=>!p x),())) (fun _=>none) (some (fin a0 ((xs.filter p).map g) (xs.filter fun x=>!p x))) (m:=xs.length) (by simp) hn ?_ ?_).trans ?_
 ·intro L i hi _
  have hl1:((xs.take i).filter p).length<=i:=lW (qP _ _) (by simp; omega)
  have hl2:((xs.take i).filter fun x=>!p x).length<=i:=lW (qP _ _) (by simp; omega)
  have hs1:(((xs.take i).filter p).length+1) * sc<=140737488355328:=lW (kD _ (by omega)) hc
  have hs2:(((xs.take i).filter fun x=>!p x).length+1) * sa<=140737488355328:=lW (kD _ (by omega)) ha
  have ht:xs.take (i+1)=xs.take i++[xs[i]]:=by simp
  simp only [hB,g_,hi,bQ,a_,dz hi,nT hi,gu hi (by omega),oQ,jN,hs1,hs2,ht,y7,rQ]
  cases hp:p xs[i] <;> simp [hp]
 ·intro L _
  simp [hB]
 ·exact mQ (fun _ _ _=>rfl)
end Go.Proofs.YtailcbngagacaaaGreat.Xl
