/- Loops that copy, compare, measure, mark and read marks. No program in sight. -/
import Derived.Test.YtailcbngagacaaaGreatOwF
set_option linter.unusedSectionVars false
set_option linter.unusedVariables false
set_option linter.unusedSimpArgs false
namespace Go.Proofs.YtailcbngagacaaaGreat.tV
open Go Go.Proofs.YtailcbngagacaaaGreat.Ow
def big:Nat:=1048576
theorem yu {A:Type} {f:A→Option (A×Unit)} {d:A} {xs:List A} {n:Nat} {B:(List A×Int×List A×Unit→Option (List A×Unit))→List A×Int×List A×Unit→Option (List A×Unit)}
  (hB:∀L v,B L v=(if decide (v.2.1<(v.1.length:Int))=true then (if aM v.2.1 v.1.length then ((f (v.1.getD v.2.1.toNat d)).bind fun r2=>(if aM v.2.1 v.2.2.1.length then L (v.1,IntKind.i64.wrap (v.2.1+(1:Int)),v.2.2.1.set v.2.1.toNat r2.1,()) else none)) else none) else some (v.2.2.1,())))
  (hf:∀x∈xs,f x=some (x,())) (hb:xs.length≤big) (hn:big<n):rounds B n (xs,(0:Int),List.replicate (xs.length:Int).toNat d,())=some (xs,()):=by
 unfold big at hb hn
 refine (aR (fun i=>(xs,(i:Int),xs.take i++List.replicate (xs.length - i) d,())) (fun _=>none) (some (xs,())) (m:=xs.length) (by simp) (by omega) ?_ ?_).trans ?_
 ·intro L i hi _
  have hm:xs[i]∈xs:=List.getElem_mem hi
  simp only [hB,Int.ofNat_lt,hi,decide_true,if_true,aH hi,List.length_append,List.length_take,List.length_replicate,Nat.min_eq_left (Nat.le_of_lt hi),show i+(xs.length - i)=xs.length by omega,gG hi,aU hi (by omega),hf _ hm,Option.bind_some,SC d hi]
 ·intro L _
  simp [hB]
 ·exact bU (fun _ _ _=>rfl)
theorem LZ {A:Type} {f:A→A→Option (Bool×Unit)} {d:A} {xs:List A} {n:Nat} {B:(List A×List A×Int×Unit→Option (Bool×Unit))→List A×List A×Int×Unit→Option (Bool×Unit)}
  (hB:∀L v,B L v=(if decide (v.2.2.1<(v.1.length:Int))=true then (if aM v.2.2.1 v.1.length then (if aM v.2.2.1 v.2.1.length then ((f (v.1.getD v.2.2.1.toNat d) (v.2.1.getD v.2.2.1.toNat d)).bind fun r2=>(if (!r2.1)=true then some (false,()) else L (v.1,v.2.1,IntKind.i64.wrap (v.2.2.1+(1:Int)),()))) else none) else none) else some (true,())))
  (hf:∀x∈xs,f x x=some (true,())) (hb:xs.length≤big+big) (hn:big+big<n):rounds B n (xs,xs,(0:Int),())=some (true,()):=by
 unfold big at hb hn
 refine (aR (fun i=>(xs,xs,(i:Int),())) (fun _=>none) (some (true,())) (m:=xs.length) rfl (by omega) ?_ ?_).trans ?_
 ·intro L i hi _
  have hm:xs[i]∈xs:=List.getElem_mem hi
  simp only [hB,Int.ofNat_lt,hi,decide_true,if_true,aH hi,gG hi,aU hi (by omega),hf _ hm,Option.bind_some,Bool.not_true,Bool.false_eq_true,if_false]
 ·intro L _
  simp [hB]
 ·exact bU (fun _ _ _=>rfl)
theorem AB {A:Type} {f:A→A→Option (Bool×Unit)} {d:A} {xs:List A} {n:Nat} {B:(List A×List A×Int×Unit→Option (Bool×Unit))→List A×List A×Int×Unit→Option (Bool×Unit)}
  (hB:∀L v,B L v=(if decide (v.2.2.1<(v.1.length:Int))=true then (if aM v.2.2.1 v.1.length then (if aM v.2.2.1 v.2.1.length then ((f (v.1.getD v.2.2.1.toNat d) (v.2.1.getD v.2.2.1.toNat d)).bind fun r2=>(if (!r2.1)=true then some (false,()) else L (v.1,v.2.1,IntKind.i64.wrap (v.2.2.1+(1:Int)),()))) else none) else none) else some (true,())))
  (hf:∀x∈xs,f x x=some (true,())) (hb:xs.length≤big) (hn:big<n):rounds B n (xs,xs,(0:Int),())=some (true,()):=by
 unfold big at hb hn
 refine (aR (fun i=>(xs,xs,(i:Int),())) (fun _=>none) (some (true,())) (m:=xs.length) rfl (by omega) ?_ ?_).trans ?_
 ·intro L i hi _
  have hm:xs[i]∈xs:=List.getElem_mem hi
  simp only [hB,Int.ofNat_lt,hi,decide_true,if_true,aH hi,gG hi,aU hi (by omega),hf _ hm,Option.bind_some,Bool.not_true,Bool.false_eq_true,if_false]
 ·intro L _
  simp [hB]
 ·exact bU (fun _ _ _=>rfl)
theorem ML {A:Type} {f:A→Int→Option (Int×Unit)} {ok:A→Prop} {d:A} {xs:List A} {B:(List A×Int×Int×Unit→Option (Int×Unit))→List A×Int×Int×Unit→Option (Int×Unit)}
  (hB:∀L v,B L v=(if decide (v.2.2.1<(v.1.length:Int))=true then (if aM v.2.2.1 v.1.length then ((f (v.1.getD v.2.2.1.toNat d) v.2.1).bind fun r2=>(if decide (r2.1<(0:Int))=true then some ((-1:Int),()) else L (v.1,r2.1,IntKind.i64.wrap (v.2.2.1+(1:Int)),()))) else none) else some (v.2.1,())))
  (hf:∀x∈xs,∀k:Int,0≤k→k≤1048576→∃r,f x k=some (r,())∧(r<0∨(r≤k∧ok x))) (hb:xs.length≤big) :
  ∀(e i n:Nat) (k:Int),i+e=xs.length→e<n→0≤k→k≤1048576→∃r,rounds B n (xs,k,(i:Int),())=some (r,())∧(r<0∨(r≤k∧∀j (h:j<xs.length),i≤j→ok xs[j])):=by
 unfold big at hb
 intro e
 induction e with
 | zero=>
  intro i n k hi hn h1 h2
  cases n with
  | zero=>omega
  | succ n=>
   refine ⟨k, ?_, .inr ⟨Int.le_refl _,fun j h hj=>by omega⟩⟩
   show B (rounds B n) _=_
   rw [hB]
   simp only [show ¬((i:Int)<(xs.length:Int)) by omega,decide_false,Bool.false_eq_true,if_false]
 | succ e ih=>
  intro i n k hi hn h1 h2
  cases n with
  | zero=>omega
  | succ n=>
   have hlt:i<xs.length:=by omega
   obtain ⟨r,g1,g2⟩:=hf xs[i] (List.getElem_mem hlt) k h1 h2
   have hstep:rounds B (n+1) (xs,k,(i:Int),())=if decide (r<(0:Int))=true then some ((-1:Int),()) else rounds B n (xs,r,((i+1:Nat):Int),()):=by
    show B (rounds B n) _=_
    rw [hB]
    simp only [Int.ofNat_lt,hlt,decide_true,if_true,aH hlt,gG hlt,aU hlt (by omega),g1,Option.bind_some]
   by_cases hr:r<0
   ·exact ⟨-1,by rw [hstep]; simp [hr], .inl (by omega)⟩
   ·obtain ⟨hrk,hok⟩:=g2.resolve_left hr
    obtain ⟨q,q1,q2⟩:=ih (i+1) n r (by omega) (by omega) (by omega) (by omega)
    refine ⟨q,by rw [hstep,if_neg (by rw [decide_eq_true_eq]; exact hr)]; exact q1, ?_⟩
    rcases q2 with q2 | ⟨q2,q3⟩
    ·exact .inl q2
    ·refine .inr ⟨by omega,fun j h hj=>?_⟩
     by_cases e:j=i
     ·subst e; exact hok
     ·exact q3 j h (by omega)
theorem Ry {A:Type} {xs ys:List A} (hl:ys.length=xs.length) {i:Nat} (hi:i≤xs.length):(ys.take i++xs.drop i).length=xs.length:=by
 simp; omega
theorem Mq {A:Type} {xs ys:List A} (hl:ys.length=xs.length) {i:Nat} (hi:i<xs.length) (d:A):(ys.take i++xs.drop i).getD i d=xs[i]:=by
 rw [List.getD_eq_getElem?_getD,List.getElem?_append_right (by rw [List.length_take]; omega),List.length_take,Nat.min_eq_left (by omega),Nat.sub_self,List.getElem?_drop]
 simp [hi]
theorem Mr {A:Type} {xs ys:List A} (hl:ys.length=xs.length) {i:Nat} (hi:i<xs.length) (y:A) (hy:y=ys[i]'(by omega)):(ys.take i++xs.drop i).set i y=ys.take (i+1)++xs.drop (i+1):=by
 subst hy
 apply List.ext_getElem
 ·simp; omega
 ·intro j h1 h2
  rw [List.getElem_set]
  split
  ·rename_i e
   subst e
   rw [List.getElem_append_left (by simp; omega)]
   simp
  ·rename_i e
   simp only [List.getElem_append,List.length_take,List.getElem_take,List.getElem_drop]
   split <;> split <;> first | rfl | omega | (congr 1; omega)
end Go.Proofs.YtailcbngagacaaaGreat.tV
