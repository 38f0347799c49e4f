/- Loops that copy, compare, measure, mark and read marks. No program in sight. -/
import Derived.Test.YtabnmpabdhmkoaaOwF
set_option linter.unusedSectionVars false
set_option linter.unusedVariables false
set_option linter.unusedSimpArgs false
namespace Go.Proofs.Ytabnmpabdhmkoaa.qF
open Go Go.Proofs.Ytabnmpabdhmkoaa.Ow
def big:Nat:=1048576
theorem EZ {A:Type} {f:A→A→Option (Bool×Unit)} {d:A} {xs:List A} {n:Nat} {B:(List A×List A×Int×Unit→Option (Bool×Unit))→List A×List A×Int×Unit→Option (Bool×Unit)}
  (hB:∀L v,B L v=(if decide (v.2.2.1<(v.1.length:Int))=true then (if aM v.2.2.1 v.1.length then (if aM v.2.2.1 v.2.1.length then ((f (v.1.getD v.2.2.1.toNat d) (v.2.1.getD v.2.2.1.toNat d)).bind fun r2=>(if (!r2.1)=true then some (false,()) else L (v.1,v.2.1,IntKind.i64.wrap (v.2.2.1+(1:Int)),()))) else none) else none) else some (true,())))
  (hf:∀x∈xs,f x x=some (true,())) (hb:xs.length≤big+big) (hn:big+big<n):rounds B n (xs,xs,(0:Int),())=some (true,()):=by
 unfold big at hb hn
 refine (bF (fun i=>(xs,xs,(i:Int),())) (fun _=>none) (some (true,())) (m:=xs.length) rfl (by omega) ?_ ?_).trans ?_
 ·intro L i hi _
  have hm:xs[i]∈xs:=agj hi
  simp only [hB,agh,hi,decide_true,if_true,aT hi,nZ hi,bO hi (by omega),hf _ hm,afR,agi,afT,if_false]
 ·intro L _
  simp [hB]
 ·exact eT (fun _ _ _=>rfl)
theorem KT {A:Type} {xs ys:List A} (hl:ys.length=xs.length) {i:Nat} (hi:i≤xs.length):(ys.take i++xs.drop i).length=xs.length:=by
 simp; omega
theorem Fu {A:Type} {xs ys:List A} (hl:ys.length=xs.length) {i:Nat} (hi:i<xs.length) (d:A):(ys.take i++xs.drop i).getD i d=xs[i]:=by
 rw [af3,List.getElem?_append_right (by rw [List.length_take]; omega),List.length_take,Nat.min_eq_left (by omega),Nat.sub_self,List.getElem?_drop]
 simp [hi]
theorem Fv {A:Type} {xs ys:List A} (hl:ys.length=xs.length) {i:Nat} (hi:i<xs.length) (y:A) (hy:y=ys[i]'(by omega)):(ys.take i++xs.drop i).set i y=ys.take (i+1)++xs.drop (i+1):=by
 subst hy
 apply List.ext_getElem
 ·simp; omega
 ·intro j h1 h2
  rw [List.getElem_set]
  split
  ·rename_i e
   subst e
   rw [List.getElem_append_left (by simp; omega)]
   simp
  ·rename_i e
   simp only [List.getElem_append,List.length_take,List.getElem_take,List.getElem_drop]
   split <;> split <;> first | rfl | omega | (congr 1; omega)
end Go.Proofs.Ytabnmpabdhmkoaa.qF
