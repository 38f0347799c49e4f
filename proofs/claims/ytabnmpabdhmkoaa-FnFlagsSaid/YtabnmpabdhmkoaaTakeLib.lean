/- A function that takes rows out of a box and gives them: over owned rows, from the same over ids. No program in sight. -/
import Derived.Test.YtabnmpabdhmkoaaOwF
import Derived.Test.YtabnmpabdhmkoaaPurgeLib
set_option linter.unusedSectionVars false
set_option linter.unusedVariables false
set_option linter.unusedSimpArgs false
namespace Go.Proofs.Ytabnmpabdhmkoaa.Hq
open Go Go.Proofs.Ytabnmpabdhmkoaa.Ow Go.Proofs.Ytabnmpabdhmkoaa.Du
theorem zH {R:Type} {us:List Int} {x:Int} {r fin:R}:∀d i,i+d=us.length→dh (fun j=>if us.getD j 0=x then some r else none) fin d i=if (us.drop i).contains x=true then r else fin
 | 0,i,h=>by
  have:us.drop i=[]:=List.drop_eq_nil_of_le (by omega)
  simp [dh,this]
 | d+1,i,h=>by
  have hi:i<us.length:=by omega
  have ih:=zH (us:=us) (x:=x) (r:=r) (fin:=fin) d (i+1) (by omega)
  have hd:us.drop i=us[i] :: us.drop (i+1):=List.drop_eq_getElem_cons hi
  have hg:us.getD i 0=us[i]:=by simp [hi]
  unfold dh
  simp only [hg,hd,List.contains_cons]
  by_cases e:us[i]=x
  ·simp [e]
  ·have e':(x == us[i])=false:=by simp [Ne.symm e]
   simp only [if_neg e,ih,e',Bool.false_or]
theorem KZ {us:List Int} {x:Int} {n:Nat} {B:(List Int×Int×Int×Unit→Option (Bool×Unit))→List Int×Int×Int×Unit→Option (Bool×Unit)}
  (hB:∀L v,B L v=(if decide (v.2.2.1<(v.1.length:Int))=true then (if aN v.2.2.1 v.1.length then (if decide ((v.1.getD v.2.2.1.toNat (0:Int))=v.2.1)=true then some (true,()) else L (v.1,v.2.1,IntKind.i64.wrap (v.2.2.1+(1:Int)),())) else none) else some (false,())))
  (hb:us.length≤1048576) (hn:us.length<n):rounds B n (us,x,(0:Int),())=some (us.contains x,()):=by
 refine (cu (fun i=>(us,x,(i:Int),())) (fun j=>if us.getD j 0=x then some (some (true,())) else none) (some (false,())) (m:=us.length) rfl hn ?_ ?_).trans ?_
 ·intro L i hi _
  simp only [hB,abS,hi,decide_true,if_true,cO hi,abC,dP hi (by omega)]
  by_cases e:us.getD i 0=x
  ·simp only [e,decide_true,if_true]
  ·simp only [e,decide_false,abv,if_false]
 ·intro L _
  simp [hB]
 ·rw [zH us.length 0 (by omega)]
  rw [List.drop_zero]
  cases us.contains x <;> rfl
def pick (us:List Int) (fl u f:Int):Bool:=us.contains u || !decide ((IntKind.i64.wrap ((BitVec.ofInt (IntKind.bits .i64) f &&& BitVec.ofInt (IntKind.bits .i64) fl).toNat))=(0:Int))
end Go.Proofs.Ytabnmpabdhmkoaa.Hq
