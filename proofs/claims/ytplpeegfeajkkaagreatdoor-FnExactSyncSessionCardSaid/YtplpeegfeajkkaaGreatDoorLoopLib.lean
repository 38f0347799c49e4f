/- Loops that copy, compare, measure, mark and read marks. No program in sight. -/
import Derived.Test.YtplpeegfeajkkaaGreatDoorOwG
set_option linter.unusedVariables false
set_option linter.unusedSimpArgs false
namespace Go.Proofs.YtplpeegfeajkkaaGreatDoor.nQ
open Go Ow
def big:Nat:=1048576
theorem IQ{A:Type}{f:A->Option (A×Unit)}{d:A}{xs:List A}{n:Nat}{B:(List A×Int×List A×Unit->Option (List A×Unit))->List A×Int×List A×Unit->Option (List A×Unit)}
  (hB:∀L v,B L v=(if decide (v.2.1<(v.1.length:Int))=true then(if aF v.2.1 v.1.length then((f (v.1.getD v.2.1.toNat d)).bind λr2=>(if aF v.2.1 v.2.2.1.length then L (v.1,IntKind.i64.wrap (v.2.1+(1:Int)),v.2.2.1.set v.2.1.toNat r2.1,())else none))else none)else some (v.2.2.1,())))
  (hf:∀x∈xs,f x=some (x,())) (hb:xs.length<=big) (hn:big<n):rounds B n (xs,(0:Int),List.replicate (xs.length:Int).toNat d,())=some (xs,()):=by
 unfold big at hb hn
 refine(gp (λi=>(xs,(i:Int),xs.take i++List.replicate (xs.length-i) d,())) (λ_=>none) (some (xs,())) (m:=xs.length) (by simp) (by omega) ?_ ?_).trans ?_
 ·intro L i hi _
  have hm:xs[i]∈xs:=iC hi
  simp only[hB,eB,hi,bG,aQ,bU hi,dN,pX,YH,Nat.min_eq_left (Nat.le_of_lt hi),show i+(xs.length-i)=xs.length by omega,ku hi,dL hi (by omega),hf _ hm,aG,ali d hi]
 ·intro L _
  simp[hB]
 ·exact ko (λ_ _ _=>rfl)
theorem R7{A:Type}{f:A->A->Option (Bool×Unit)}{d:A}{xs:List A}{n:Nat}{B:(List A×List A×Int×Unit->Option (Bool×Unit))->List A×List A×Int×Unit->Option (Bool×Unit)}
  (hB:∀L v,B L v=(if decide (v.2.2.1<(v.1.length:Int))=true then(if aF v.2.2.1 v.1.length then(if aF v.2.2.1 v.2.1.length then((f (v.1.getD v.2.2.1.toNat d) (v.2.1.getD v.2.2.1.toNat d)).bind λr2=>(if(!r2.1)=true then some (false,())else L (v.1,v.2.1,IntKind.i64.wrap (v.2.2.1+(1:Int)),())))else none)else none)else some (true,())))
  (hf:∀x∈xs,f x x=some (true,())) (hb:xs.length<=big+big) (hn:big+big<n):rounds B n (xs,xs,(0:Int),())=some (true,()):=by
 unfold big at hb hn
 refine(gp (λi=>(xs,xs,(i:Int),())) (λ_=>none) (some (true,())) (m:=xs.length) rfl (by omega) ?_ ?_).trans ?_
 ·intro L i hi _
  have hm:xs[i]∈xs:=iC hi
  simp only[hB,eB,hi,bG,aQ,bU hi,ku hi,dL hi (by omega),hf _ hm,aG,fK,bg,aZ]
 ·intro L _
  simp[hB]
 ·exact ko (λ_ _ _=>rfl)
theorem z8{A:Type}{f:A->A->Option (Bool×Unit)}{d:A}{xs:List A}{n:Nat}{B:(List A×List A×Int×Unit->Option (Bool×Unit))->List A×List A×Int×Unit->Option (Bool×Unit)}
  (hB:∀L v,B L v=(if decide (v.2.2.1<(v.1.length:Int))=true then(if aF v.2.2.1 v.1.length then(if aF v.2.2.1 v.2.1.length then((f (v.1.getD v.2.2.1.toNat d) (v.2.1.getD v.2.2.1.toNat d)).bind λr2=>(if(!r2.1)=true then some (false,())else L (v.1,v.2.1,IntKind.i64.wrap (v.2.2.1+(1:Int)),())))else none)else none)else some (true,())))
  (hf:∀x∈xs,f x x=some (true,())) (hb:xs.length<=big) (hn:big<n):rounds B n (xs,xs,(0:Int),())=some (true,()):=by
 unfold big at hb hn
 refine(gp (λi=>(xs,xs,(i:Int),())) (λ_=>none) (some (true,())) (m:=xs.length) rfl (by omega) ?_ ?_).trans ?_
 ·intro L i hi _
  have hm:xs[i]∈xs:=iC hi
  simp only[hB,eB,hi,bG,aQ,bU hi,ku hi,dL hi (by omega),hf _ hm,aG,fK,bg,aZ]
 ·intro L _
  simp[hB]
 ·exact ko (λ_ _ _=>rfl)
theorem Vk{A:Type}{f:A->Int->Option (Int×Unit)}{ok:A->Prop}{d:A}{xs:List A}{B:(List A×Int×Int×Unit->Option (Int×Unit))->List A×Int×Int×Unit->Option (Int×Unit)}
  (hB:∀L v,B L v=(if decide (v.2.2.1<(v.1.length:Int))=true then(if aF v.2.2.1 v.1.length then((f (v.1.getD v.2.2.1.toNat d) v.2.1).bind λr2=>(if decide (r2.1<(0:Int))=true then some ((-1:Int),())else L (v.1,r2.1,IntKind.i64.wrap (v.2.2.1+(1:Int)),())))else none)else some (v.2.1,())))
  (hf:∀x∈xs,∀k:Int,0<=k->k<=1048576->∃r,f x k=some (r,())/\(r<0\/(r<=k/\ok x))) (hb:xs.length<=big) :
  ∀(e i n:Nat) (k:Int),i+e=xs.length->e<n->0<=k->k<=1048576->∃r,rounds B n (xs,k,(i:Int),())=some (r,())/\(r<0\/(r<=k/\∀j (h:j<xs.length),i<=j->ok xs[j])):=by
 unfold big at hb
 intro e
 induction e with
 |zero=>
  intro i n k hi hn h1 h2
  cases n with
  |zero=>omega
  |succ n=>
   refine⟨k,?_,.inr ⟨Ie _,λj h hj=>by omega⟩⟩
   show B (rounds B n) _=_
   rw[hB]
   simp only[show ¬((i:Int)<(xs.length:Int)) by omega,cO,bg,aZ]
 |succ e ih=>
  intro i n k hi hn h1 h2
  cases n with
  |zero=>omega
  |succ n=>
   have hlt:i<xs.length:=by omega
   obtain⟨r,g1,g2⟩:=hf xs[i] (iC hlt) k h1 h2
   have hstep:rounds B (n+1) (xs,k,(i:Int),())=if decide (r<(0:Int))=true then some ((-1:Int),())else rounds B n (xs,r,((i+1:Nat):Int),()):=by
    show B (rounds B n) _=_
    rw[hB]
    simp only[eB,hlt,bG,aQ,bU hlt,ku hlt,dL hlt (by omega),g1,aG]
   by_cases hr:r<0
   ·exact⟨-1,by rw[hstep];simp[hr],.inl (by omega)⟩
   ·obtain⟨hrk,hok⟩:=g2.resolve_left hr
    obtain⟨q,q1,q2⟩:=ih (i+1) n r (by omega) (by omega) (by omega) (by omega)
    refine⟨q,by rw[hstep,aC (by rw[dW];exact hr)];exact q1,?_⟩
    rcases q2 with q2|⟨q2,q3⟩
    ·exact .inl q2
    ·refine .inr ⟨by omega,λj h hj=>?_⟩
     by_cases e:j=i
     ·subst e;exact hok
     ·exact q3 j h (by omega)
theorem FC{A:Type}{B:(Int×Int×List A×Unit->Option (Int×List A×Unit))->Int×Int×List A×Unit->Option (Int×List A×Unit)}{xs ys:List A}{K:Nat->Int}{n:Nat}(hl:ys.length=xs.length)(hn:xs.length<n)
  (h1:∀L i (hi:i<xs.length),B L (K i,(i:Int),ys.take i++xs.drop i,())=L (K (i+1),((i+1:Nat):Int),ys.take (i+1)++xs.drop (i+1),()))
  (h2:∀L,B L (K xs.length,(xs.length:Int),ys,())=some (K xs.length,ys,())):rounds B n (K 0,(0:Int),xs,())=some (K xs.length,ys,()):=by
 refine(gp (λi=>(K i,(i:Int),ys.take i++xs.drop i,())) (λ_=>none) (some (K xs.length,ys,())) (m:=xs.length) (by simp) hn ?_ ?_).trans ?_
 ·intro L i hi _
  exact h1 L i hi
 ·intro L _
  have:ys.take xs.length++xs.drop xs.length=ys:=by
   rw[<-hl,pY,hl,MM,iq]
  rw[this]
  exact h2 L
 ·exact ko (λ_ _ _=>rfl)
theorem EN{A:Type}{B:(List A×Int×Int×Unit->Option (Int×Unit))->List A×Int×Int×Unit->Option (Int×Unit)}{ys:List A}{K:Nat->Int}{n:Nat}(hn:ys.length<n)
  (h1:∀L i (hi:i<ys.length),B L (ys,K i,(i:Int),())=L (ys,K (i+1),((i+1:Nat):Int),()))
  (h2:∀L,B L (ys,K ys.length,(ys.length:Int),())=some (K ys.length,())):rounds B n (ys,K 0,(0:Int),())=some (K ys.length,()):=by
 refine(gp (λi=>(ys,K i,(i:Int),())) (λ_=>none) (some (K ys.length,())) (m:=ys.length) rfl hn ?_ ?_).trans ?_
 ·intro L i hi _
  exact h1 L i hi
 ·intro L _
  exact h2 L
 ·exact ko (λ_ _ _=>rfl)
theorem Av{A:Type}{xs ys:List A}(hl:ys.length=xs.length){i:Nat}(hi:i<=xs.length):(ys.take i++xs.drop i).length=xs.length:=by
 simp;omega
theorem FJ{A:Type}{xs ys:List A}(hl:ys.length=xs.length){i:Nat}(hi:i<xs.length)(d:A):(ys.take i++xs.drop i).getD i d=xs[i]:=by
 rw[iR,xZ (by rw[pX];omega),pX,Nat.min_eq_left (by omega),Iq,BB]
 simp[hi]
theorem yQ{A:Type}{xs ys:List A}(hl:ys.length=xs.length){i:Nat}(hi:i<xs.length)(y:A)(hy:y=ys[i]'(by omega)):(ys.take i++xs.drop i).set i y=ys.take (i+1)++xs.drop (i+1):=by
 subst hy
 apply Im
 ·simp;omega
 ·intro j h1 h2
  rw[List.getElem_set]
  split
  ·rename_i e
   subst e
   rw[zy (by simp;omega)]
   simp
  ·rename_i e
   simp only[List.getElem_append,pX,List.getElem_take,List.getElem_drop]
   split<;>split<;>first|rfl|omega|(congr 1;omega)
theorem amc{B:(Int×(List Int)×Unit->Option (List Int×Unit))->Int×(List Int)×Unit->Option (List Int×Unit)}(c:List Int)(dg:Int->Int)(hc:c.length<=10)
  (hB:∀L v,B L v=(if decide (v.1>(0:Int))=true then(if(10:Int)≠0 then(if [dg v.1].length+v.2.1.length<=9223372036854775807 then(if(10:Int)≠0 then L (IntKind.i64.wrap (v.1.tdiv (10:Int)),[dg v.1]++v.2.1,())else none)else none)else none)else(if c.length+v.2.1.length<=9223372036854775807 then some (c++v.2.1,())else none))) :
  ∀(m n:Nat) (k:Int) (t:List Int),k<2 ^ m->m<n->k<4611686018427387904->t.length+m<=4611686018427387904->∃r,rounds B n (k,t,())=some (r,()):=by
 intro m
 induction m with
 |zero=>
  intro n k t hk hn _ ht
  cases n with
  |zero=>omega
  |succ n=>
   refine⟨c++t,?_⟩
   show B (rounds B n) _=_
   rw[hB]
   have:¬k>0:=by simp at hk;omega
   simp only[this,cO,bg,aZ]
   rw[aj (by omega)]
 |succ m ih=>
  intro n k t hk hn hk2 ht
  cases n with
  |zero=>omega
  |succ n=>
   by_cases h0:k>0
   ·have hq:k.tdiv 10=k / 10:=Yi (by omega)
    have hp:(2:Int) ^ (m+1)=2 ^ m*2:=Int.pow_succ ..
    obtain⟨r,hr⟩:=ih n (k / 10) ([dg k]++t) (by omega) (by omega) (by omega) (by simp;omega)
    refine⟨r,?_⟩
    show B (rounds B n) _=_
    rw[hB]
    simp only[h0,bG,aQ]
    rw[aj (by omega),aj (by simp;omega),aj (by omega),hq,wrap_i64 (by omega) (by omega)]
    exact hr
   ·refine⟨c++t,?_⟩
    show B (rounds B n) _=_
    rw[hB]
    simp only[h0,cO,bg,aZ]
    rw[aj (by omega)]
end Go.Proofs.YtplpeegfeajkkaaGreatDoor.nQ
