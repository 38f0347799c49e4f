/- Loops that copy, compare, measure, mark and read marks. No program in sight. -/
import Derived.Test.YtailcbngagacaaaGreatOwG
set_option linter.unusedVariables false
set_option linter.unusedSimpArgs false
namespace Go.Proofs.YtailcbngagacaaaGreat.oh
open Go Ow
def big:Nat:=1048576
theorem Q9 {A:Type} {f:A->A->Option (Bool×Unit)} {d:A} {xs:List A} {n:Nat} {B:(List A×List A×Int×Unit->Option (Bool×Unit))->List A×List A×Int×Unit->Option (Bool×Unit)}
  (hB:∀L v,B L v=(if decide (v.2.2.1<(v.1.length:Int))=true then (if aM v.2.2.1 v.1.length then (if aM v.2.2.1 v.2.1.length then ((f (v.1.getD v.2.2.1.toNat d) (v.2.1.getD v.2.2.1.toNat d)).bind fun r2=>(if (!r2.1)=true then some (false,()) else L (v.1,v.2.1,IntKind.i64.wrap (v.2.2.1+(1:Int)),()))) else none) else none) else some (true,())))
  (hf:∀x∈xs,f x x=some (true,())) (hb:xs.length<=big+big) (hn:big+big<n):rounds B n (xs,xs,(0:Int),())=some (true,()):=by
 unfold big at hb hn
 refine (iA (fun i=>(xs,xs,(i:Int),())) (fun _=>none) (some (true,())) (m:=xs.length) rfl (by omega) ?_ ?_).trans ?_
 ·intro L i hi _
  have hm:xs[i]∈xs:=jY hi
  simp only [hB,g_,hi,bQ,a_,dz hi,nT hi,gu hi (by omega),hf _ hm,aL,jc,bJ,bF]
 ·intro L _
  simp [hB]
 ·exact mQ (fun _ _ _=>rfl)
theorem aaJ {A:Type} {xs ys:List A} (hl:ys.length=xs.length) {i:Nat} (hi:i<=xs.length):(ys.take i++xs.drop i).length=xs.length:=by
 simp; omega
theorem TA {A:Type} {xs ys:List A} (hl:ys.length=xs.length) {i:Nat} (hi:i<xs.length) (d:A):(ys.take i++xs.drop i).getD i d=xs[i]:=by
 rw [ig,xQ (by rw [mZ]; omega),mZ,Nat.min_eq_left (by omega),H7,Bw]
 simp [hi]
theorem TB {A:Type} {xs ys:List A} (hl:ys.length=xs.length) {i:Nat} (hi:i<xs.length) (y:A) (hy:y=ys[i]'(by omega)):(ys.take i++xs.drop i).set i y=ys.take (i+1)++xs.drop (i+1):=by
 subst hy
 apply LZ
 ·simp; omega
 ·intro j h1 h2
  rw [List.getElem_set]
  split
  ·rename_i e
   subst e
   rw [Bz (by simp; omega)]
   simp
  ·rename_i e
   simp only [List.getElem_append,mZ,List.getElem_take,List.getElem_drop]
   split <;> split <;> first | rfl | omega | (congr 1; omega)
end Go.Proofs.YtailcbngagacaaaGreat.oh
