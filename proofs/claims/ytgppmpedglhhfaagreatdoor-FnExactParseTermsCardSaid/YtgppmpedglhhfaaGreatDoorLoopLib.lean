/- Loops that copy, compare, measure, mark and read marks. No program in sight. -/
import Derived.Test.YtgppmpedglhhfaaGreatDoorOwG
set_option linter.unusedVariables false
set_option linter.unusedSimpArgs false
namespace Go.Proofs.YtgppmpedglhhfaaGreatDoor.qZ
open Go Ow
def big:Nat:=1048576
theorem MP{A:Type}{f:A->A->Option (Bool×Unit)}{d:A}{xs:List A}{n:Nat}{B:(List A×List A×Int×Unit->Option (Bool×Unit))->List A×List A×Int×Unit->Option (Bool×Unit)}
  (hB:∀L v,B L v=(if decide (v.2.2.1<(v.1.length:Int))=true then(if aX v.2.2.1 v.1.length then(if aX v.2.2.1 v.2.1.length then((f (v.1.getD v.2.2.1.toNat d) (v.2.1.getD v.2.2.1.toNat d)).bind λr2=>(if(!r2.1)=true then some (false,())else L (v.1,v.2.1,IntKind.i64.wrap (v.2.2.1+(1:Int)),())))else none)else none)else some (true,())))
  (hf:∀x∈xs,f x x=some (true,())) (hb:xs.length<=big) (hn:big<n):rounds B n (xs,xs,(0:Int),())=some (true,()):=by
 unfold big at hb hn
 refine(pK (λi=>(xs,xs,(i:Int),())) (λ_=>none) (some (true,())) (m:=xs.length) rfl (by omega) ?_ ?_).trans ?_
 ·intro L i hi _
  have hm:xs[i]∈xs:=nM hi
  simp only[hB,ou,hi,cB,bQ,ig hi,o9 hi,kY hi (by omega),hf _ hm,bf,iM,bY,bO]
 ·intro L _
  simp[hB]
 ·exact DD (λ_ _ _=>rfl)
theorem PV{A:Type}{B:(Int×Int×List A×Unit->Option (Int×List A×Unit))->Int×Int×List A×Unit->Option (Int×List A×Unit)}{xs ys:List A}{K:Nat->Int}{n:Nat}(hl:ys.length=xs.length)(hn:xs.length<n)
  (h1:∀L i (hi:i<xs.length),B L (K i,(i:Int),ys.take i++xs.drop i,())=L (K (i+1),((i+1:Nat):Int),ys.take (i+1)++xs.drop (i+1),()))
  (h2:∀L,B L (K xs.length,(xs.length:Int),ys,())=some (K xs.length,ys,())):rounds B n (K 0,(0:Int),xs,())=some (K xs.length,ys,()):=by
 refine(pK (λi=>(K i,(i:Int),ys.take i++xs.drop i,())) (λ_=>none) (some (K xs.length,ys,())) (m:=xs.length) (by simp) hn ?_ ?_).trans ?_
 ·intro L i hi _
  exact h1 L i hi
 ·intro L _
  have:ys.take xs.length++xs.drop xs.length=ys:=by
   rw[<-hl,Ll,hl,List.drop_length,jJ]
  rw[this]
  exact h2 L
 ·exact DD (λ_ _ _=>rfl)
theorem Ni{A:Type}{B:(List A×Int×Int×Unit->Option (Int×Unit))->List A×Int×Int×Unit->Option (Int×Unit)}{ys:List A}{K:Nat->Int}{n:Nat}(hn:ys.length<n)
  (h1:∀L i (hi:i<ys.length),B L (ys,K i,(i:Int),())=L (ys,K (i+1),((i+1:Nat):Int),()))
  (h2:∀L,B L (ys,K ys.length,(ys.length:Int),())=some (K ys.length,())):rounds B n (ys,K 0,(0:Int),())=some (K ys.length,()):=by
 refine(pK (λi=>(ys,K i,(i:Int),())) (λ_=>none) (some (K ys.length,())) (m:=ys.length) rfl hn ?_ ?_).trans ?_
 ·intro L i hi _
  exact h1 L i hi
 ·intro L _
  exact h2 L
 ·exact DD (λ_ _ _=>rfl)
theorem PZ{A:Type}{xs ys:List A}(hl:ys.length=xs.length){i:Nat}(hi:i<=xs.length):(ys.take i++xs.drop i).length=xs.length:=by
 simp;omega
theorem amX{A:Type}{xs ys:List A}(hl:ys.length=xs.length){i:Nat}(hi:i<xs.length)(d:A):(ys.take i++xs.drop i).getD i d=xs[i]:=by
 rw[gy,u7 (by rw[uq];omega),uq,Nat.min_eq_left (by omega),Ao,yD]
 simp[hi]
theorem P5{A:Type}{xs ys:List A}(hl:ys.length=xs.length){i:Nat}(hi:i<xs.length)(y:A)(hy:y=ys[i]'(by omega)):(ys.take i++xs.drop i).set i y=ys.take (i+1)++xs.drop (i+1):=by
 subst hy
 apply Te
 ·simp;omega
 ·intro j h1 h2
  rw[List.getElem_set]
  split
  ·rename_i e
   subst e
   rw[yE (by simp;omega)]
   simp
  ·rename_i e
   simp only[List.getElem_append,uq,List.getElem_take,List.getElem_drop]
   split<;>split<;>first|rfl|omega|(congr 1;omega)
end Go.Proofs.YtgppmpedglhhfaaGreatDoor.qZ
