/- Loops that copy, compare, measure, mark and read marks. No program in sight. -/
import Derived.Test.YtabnmpabdhmkoaaOwF
set_option linter.unusedSectionVars false
set_option linter.unusedVariables false
set_option linter.unusedSimpArgs false
namespace Go.Proofs.Ytabnmpabdhmkoaa.qb
open Go Go.Proofs.Ytabnmpabdhmkoaa.Ow
def big:Nat:=1048576
theorem HV {A:Type} {f:A→A→Option (Bool×Unit)} {d:A} {xs:List A} {n:Nat} {B:(List A×List A×Int×Unit→Option (Bool×Unit))→List A×List A×Int×Unit→Option (Bool×Unit)}
  (hB:∀L v,B L v=(if decide (v.2.2.1<(v.1.length:Int))=true then (if aN v.2.2.1 v.1.length then (if aN v.2.2.1 v.2.1.length then ((f (v.1.getD v.2.2.1.toNat d) (v.2.1.getD v.2.2.1.toNat d)).bind fun r2=>(if (!r2.1)=true then some (false,()) else L (v.1,v.2.1,IntKind.i64.wrap (v.2.2.1+(1:Int)),()))) else none) else none) else some (true,())))
  (hf:∀x∈xs,f x x=some (true,())) (hb:xs.length≤big+big) (hn:big+big<n):rounds B n (xs,xs,(0:Int),())=some (true,()):=by
 unfold big at hb hn
 refine (cu (fun i=>(xs,xs,(i:Int),())) (fun _=>none) (some (true,())) (m:=xs.length) rfl (by omega) ?_ ?_).trans ?_
 ·intro L i hi _
  have hm:xs[i]∈xs:=abU hi
  simp only [hB,abS,hi,decide_true,if_true,cO hi,wo hi,dP hi (by omega),hf _ hm,abt,abT,abv,if_false]
 ·intro L _
  simp [hB]
 ·exact nJ (fun _ _ _=>rfl)
end Go.Proofs.Ytabnmpabdhmkoaa.qb
