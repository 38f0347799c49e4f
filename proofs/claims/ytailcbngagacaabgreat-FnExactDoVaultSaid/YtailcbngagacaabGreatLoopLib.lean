/- Loops that copy, compare, measure, mark and read marks. No program in sight. -/
import Derived.Test.YtailcbngagacaabGreatOwF
set_option linter.unusedSectionVars false
set_option linter.unusedVariables false
set_option linter.unusedSimpArgs false
namespace Go.Proofs.YtailcbngagacaabGreat.jO
open Go Go.Proofs.YtailcbngagacaabGreat.Ow
def big:Nat:=1048576
theorem BN {A:Type} {f:A→Option (A×Unit)} {d:A} {xs:List A} {n:Nat} {B:(List A×Int×List A×Unit→Option (List A×Unit))→List A×Int×List A×Unit→Option (List A×Unit)}
  (hB:∀L v,B L v=(if decide (v.2.1<(v.1.length:Int))=true then (if aK v.2.1 v.1.length then ((f (v.1.getD v.2.1.toNat d)).bind fun r2=>(if aK v.2.1 v.2.2.1.length then L (v.1,IntKind.i64.wrap (v.2.1+(1:Int)),v.2.2.1.set v.2.1.toNat r2.1,()) else none)) else none) else some (v.2.2.1,())))
  (hf:∀x∈xs,f x=some (x,())) (hb:xs.length≤big) (hn:big<n):rounds B n (xs,(0:Int),List.replicate (xs.length:Int).toNat d,())=some (xs,()):=by
 unfold big at hb hn
 refine (aQ (fun i=>(xs,(i:Int),xs.take i++List.replicate (xs.length - i) d,())) (fun _=>none) (some (xs,())) (m:=xs.length) (by simp) (by omega) ?_ ?_).trans ?_
 ·intro L i hi _
  have hm:xs[i]∈xs:=aop hi
  simp only [hB,aon,hi,decide_true,if_true,aH hi,an5,List.length_take,List.length_replicate,Nat.min_eq_left (Nat.le_of_lt hi),show i+(xs.length - i)=xs.length by omega,dW hi,aR hi (by omega),hf _ hm,anY,U7 d hi]
 ·intro L _
  simp [hB]
 ·exact bL (fun _ _ _=>rfl)
theorem N7 {A:Type} {f:A→A→Option (Bool×Unit)} {d:A} {xs:List A} {n:Nat} {B:(List A×List A×Int×Unit→Option (Bool×Unit))→List A×List A×Int×Unit→Option (Bool×Unit)}
  (hB:∀L v,B L v=(if decide (v.2.2.1<(v.1.length:Int))=true then (if aK v.2.2.1 v.1.length then (if aK v.2.2.1 v.2.1.length then ((f (v.1.getD v.2.2.1.toNat d) (v.2.1.getD v.2.2.1.toNat d)).bind fun r2=>(if (!r2.1)=true then some (false,()) else L (v.1,v.2.1,IntKind.i64.wrap (v.2.2.1+(1:Int)),()))) else none) else none) else some (true,())))
  (hf:∀x∈xs,f x x=some (true,())) (hb:xs.length≤big+big) (hn:big+big<n):rounds B n (xs,xs,(0:Int),())=some (true,()):=by
 unfold big at hb hn
 refine (aQ (fun i=>(xs,xs,(i:Int),())) (fun _=>none) (some (true,())) (m:=xs.length) rfl (by omega) ?_ ?_).trans ?_
 ·intro L i hi _
  have hm:xs[i]∈xs:=aop hi
  simp only [hB,aon,hi,decide_true,if_true,aH hi,dW hi,aR hi (by omega),hf _ hm,anY,aoo,an0,if_false]
 ·intro L _
  simp [hB]
 ·exact bL (fun _ _ _=>rfl)
theorem Ef {A:Type} {f:A→A→Option (Bool×Unit)} {d:A} {xs:List A} {n:Nat} {B:(List A×List A×Int×Unit→Option (Bool×Unit))→List A×List A×Int×Unit→Option (Bool×Unit)}
  (hB:∀L v,B L v=(if decide (v.2.2.1<(v.1.length:Int))=true then (if aK v.2.2.1 v.1.length then (if aK v.2.2.1 v.2.1.length then ((f (v.1.getD v.2.2.1.toNat d) (v.2.1.getD v.2.2.1.toNat d)).bind fun r2=>(if (!r2.1)=true then some (false,()) else L (v.1,v.2.1,IntKind.i64.wrap (v.2.2.1+(1:Int)),()))) else none) else none) else some (true,())))
  (hf:∀x∈xs,f x x=some (true,())) (hb:xs.length≤big) (hn:big<n):rounds B n (xs,xs,(0:Int),())=some (true,()):=by
 unfold big at hb hn
 refine (aQ (fun i=>(xs,xs,(i:Int),())) (fun _=>none) (some (true,())) (m:=xs.length) rfl (by omega) ?_ ?_).trans ?_
 ·intro L i hi _
  have hm:xs[i]∈xs:=aop hi
  simp only [hB,aon,hi,decide_true,if_true,aH hi,dW hi,aR hi (by omega),hf _ hm,anY,aoo,an0,if_false]
 ·intro L _
  simp [hB]
 ·exact bL (fun _ _ _=>rfl)
theorem Uy {A:Type} {f:A→Int→Option (Int×Unit)} {ok:A→Prop} {d:A} {xs:List A} {B:(List A×Int×Int×Unit→Option (Int×Unit))→List A×Int×Int×Unit→Option (Int×Unit)}
  (hB:∀L v,B L v=(if decide (v.2.2.1<(v.1.length:Int))=true then (if aK v.2.2.1 v.1.length then ((f (v.1.getD v.2.2.1.toNat d) v.2.1).bind fun r2=>(if decide (r2.1<(0:Int))=true then some ((-1:Int),()) else L (v.1,r2.1,IntKind.i64.wrap (v.2.2.1+(1:Int)),()))) else none) else some (v.2.1,())))
  (hf:∀x∈xs,∀k:Int,0≤k→k≤1048576→∃r,f x k=some (r,())∧(r<0∨(r≤k∧ok x))) (hb:xs.length≤big) :
  ∀(e i n:Nat) (k:Int),i+e=xs.length→e<n→0≤k→k≤1048576→∃r,rounds B n (xs,k,(i:Int),())=some (r,())∧(r<0∨(r≤k∧∀j (h:j<xs.length),i≤j→ok xs[j])):=by
 unfold big at hb
 intro e
 induction e with
 | zero=>
  intro i n k hi hn h1 h2
  cases n with
  | zero=>omega
  | succ n=>
   refine ⟨k, ?_, .inr ⟨Int.le_refl _,fun j h hj=>by omega⟩⟩
   show B (rounds B n) _=_
   rw [hB]
   simp only [show ¬((i:Int)<(xs.length:Int)) by omega,decide_false,an0,if_false]
 | succ e ih=>
  intro i n k hi hn h1 h2
  cases n with
  | zero=>omega
  | succ n=>
   have hlt:i<xs.length:=by omega
   obtain ⟨r,g1,g2⟩:=hf xs[i] (aop hlt) k h1 h2
   have hstep:rounds B (n+1) (xs,k,(i:Int),())=if decide (r<(0:Int))=true then some ((-1:Int),()) else rounds B n (xs,r,((i+1:Nat):Int),()):=by
    show B (rounds B n) _=_
    rw [hB]
    simp only [aon,hlt,decide_true,if_true,aH hlt,dW hlt,aR hlt (by omega),g1,anY]
   by_cases hr:r<0
   ·exact ⟨-1,by rw [hstep]; simp [hr], .inl (by omega)⟩
   ·obtain ⟨hrk,hok⟩:=g2.resolve_left hr
    obtain ⟨q,q1,q2⟩:=ih (i+1) n r (by omega) (by omega) (by omega) (by omega)
    refine ⟨q,by rw [hstep,if_neg (by rw [decide_eq_true_eq]; exact hr)]; exact q1, ?_⟩
    rcases q2 with q2 | ⟨q2,q3⟩
    ·exact .inl q2
    ·refine .inr ⟨by omega,fun j h hj=>?_⟩
     by_cases e:j=i
     ·subst e; exact hok
     ·exact q3 j h (by omega)
theorem BZ {A:Type} {B:(Int×Int×List A×Unit→Option (Int×List A×Unit))→Int×Int×List A×Unit→Option (Int×List A×Unit)} {xs ys:List A} {K:Nat→Int} {n:Nat} (hl:ys.length=xs.length) (hn:xs.length<n)
  (h1:∀L i (hi:i<xs.length),B L (K i,(i:Int),ys.take i++xs.drop i,())=L (K (i+1),((i+1:Nat):Int),ys.take (i+1)++xs.drop (i+1),()))
  (h2:∀L,B L (K xs.length,(xs.length:Int),ys,())=some (K xs.length,ys,())):rounds B n (K 0,(0:Int),xs,())=some (K xs.length,ys,()):=by
 refine (aQ (fun i=>(K i,(i:Int),ys.take i++xs.drop i,())) (fun _=>none) (some (K xs.length,ys,())) (m:=xs.length) (by simp) hn ?_ ?_).trans ?_
 ·intro L i hi _
  exact h1 L i hi
 ·intro L _
  have:ys.take xs.length++xs.drop xs.length=ys:=by
   rw [←hl,List.take_length,hl,List.drop_length,aoq]
  rw [this]
  exact h2 L
 ·exact bL (fun _ _ _=>rfl)
theorem BR {A:Type} {B:(List A×Int×Int×Unit→Option (Int×Unit))→List A×Int×Int×Unit→Option (Int×Unit)} {ys:List A} {K:Nat→Int} {n:Nat} (hn:ys.length<n)
  (h1:∀L i (hi:i<ys.length),B L (ys,K i,(i:Int),())=L (ys,K (i+1),((i+1:Nat):Int),()))
  (h2:∀L,B L (ys,K ys.length,(ys.length:Int),())=some (K ys.length,())):rounds B n (ys,K 0,(0:Int),())=some (K ys.length,()):=by
 refine (aQ (fun i=>(ys,K i,(i:Int),())) (fun _=>none) (some (K ys.length,())) (m:=ys.length) rfl hn ?_ ?_).trans ?_
 ·intro L i hi _
  exact h1 L i hi
 ·intro L _
  exact h2 L
 ·exact bL (fun _ _ _=>rfl)
theorem Ca {A:Type} {xs ys:List A} (hl:ys.length=xs.length) {i:Nat} (hi:i≤xs.length):(ys.take i++xs.drop i).length=xs.length:=by
 simp; omega
theorem EA {A:Type} {xs ys:List A} (hl:ys.length=xs.length) {i:Nat} (hi:i<xs.length) (d:A):(ys.take i++xs.drop i).getD i d=xs[i]:=by
 rw [aoa,List.getElem?_append_right (by rw [List.length_take]; omega),List.length_take,Nat.min_eq_left (by omega),Nat.sub_self,List.getElem?_drop]
 simp [hi]
theorem zP {A:Type} {xs ys:List A} (hl:ys.length=xs.length) {i:Nat} (hi:i<xs.length) (y:A) (hy:y=ys[i]'(by omega)):(ys.take i++xs.drop i).set i y=ys.take (i+1)++xs.drop (i+1):=by
 subst hy
 apply List.ext_getElem
 ·simp; omega
 ·intro j h1 h2
  rw [List.getElem_set]
  split
  ·rename_i e
   subst e
   rw [List.getElem_append_left (by simp; omega)]
   simp
  ·rename_i e
   simp only [List.getElem_append,List.length_take,List.getElem_take,List.getElem_drop]
   split <;> split <;> first | rfl | omega | (congr 1; omega)
theorem PS {B:(Int×(List Int)×Unit→Option (List Int×Unit))→Int×(List Int)×Unit→Option (List Int×Unit)} (c:List Int) (dg:Int→Int) (hc:c.length≤10)
  (hB:∀L v,B L v=(if decide (v.1>(0:Int))=true then (if (10:Int)≠0 then (if [dg v.1].length+v.2.1.length≤9223372036854775807 then (if (10:Int)≠0 then L (IntKind.i64.wrap (v.1.tdiv (10:Int)),[dg v.1]++v.2.1,()) else none) else none) else none) else (if c.length+v.2.1.length≤9223372036854775807 then some (c++v.2.1,()) else none))) :
  ∀(m n:Nat) (k:Int) (t:List Int),k<2 ^ m→m<n→k<4611686018427387904→t.length+m≤4611686018427387904→∃r,rounds B n (k,t,())=some (r,()):=by
 intro m
 induction m with
 | zero=>
  intro n k t hk hn _ ht
  cases n with
  | zero=>omega
  | succ n=>
   refine ⟨c++t, ?_⟩
   show B (rounds B n) _=_
   rw [hB]
   have:¬k>0:=by simp at hk; omega
   simp only [this,decide_false,an0,if_false]
   rw [if_pos (by omega)]
 | succ m ih=>
  intro n k t hk hn hk2 ht
  cases n with
  | zero=>omega
  | succ n=>
   by_cases h0:k>0
   ·have hq:k.tdiv 10=k / 10:=Int.tdiv_eq_ediv_of_nonneg (by omega)
    have hp:(2:Int) ^ (m+1)=2 ^ m * 2:=Int.pow_succ ..
    obtain ⟨r,hr⟩:=ih n (k / 10) ([dg k]++t) (by omega) (by omega) (by omega) (by simp; omega)
    refine ⟨r, ?_⟩
    show B (rounds B n) _=_
    rw [hB]
    simp only [h0,decide_true,if_true]
    rw [if_pos (by omega),if_pos (by simp; omega),if_pos (by omega),hq,wrap_i64 (by omega) (by omega)]
    exact hr
   ·refine ⟨c++t, ?_⟩
    show B (rounds B n) _=_
    rw [hB]
    simp only [h0,decide_false,an0,if_false]
    rw [if_pos (by omega)]
end Go.Proofs.YtailcbngagacaabGreat.jO
