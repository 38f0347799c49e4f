/- Functions that cut rows out of a lent slice and give its beginning (Delete, DeleteFunc): over owned rows, from the same over ids. No program in sight. -/
import Derived.Test.YtabnmpabdhmkoaaOwF
import Derived.Test.YtabnmpabdhmkoaaPurgeLib
set_option linter.unusedSectionVars false
set_option linter.unusedVariables false
set_option linter.unusedSimpArgs false
namespace Go.Proofs.Ytabnmpabdhmkoaa.ry
open Go Go.Proofs.Ytabnmpabdhmkoaa.Ow
abbrev TO (k0 kk:K):=El k0×Int×Int×List (El kk)×Unit
def opt {A:Type} (d:A):Option A→A
 | some a=>a
 | none=>d
theorem o8 {A R:Type} {p:A→Bool} {d:A} {xs:List A} {r:Nat→R} {fin:R}:∀k i,i+k=xs.length→dh (fun j=>if p (xs.getD j d)=true then some (r j) else none) fin k i=if i+(xs.drop i).findIdx p<xs.length then r (i+(xs.drop i).findIdx p) else fin
 | 0,i,h=>by
  have:xs.drop i=[]:=List.drop_eq_nil_of_le (by omega)
  have hn:¬(i<xs.length):=by omega
  simp [dh,this,hn]
 | k+1,i,h=>by
  have hi:i<xs.length:=by omega
  have ih:=o8 (xs:=xs) (p:=p) (d:=d) (r:=r) (fin:=fin) k (i+1) (by omega)
  have hd:xs.drop i=xs[i] :: xs.drop (i+1):=List.drop_eq_getElem_cons hi
  have hg:xs.getD i d=xs[i]:=by simp [hi]
  unfold dh
  simp only [hg,hd,List.findIdx_cons]
  cases hp:p xs[i] with
  | true=>simp [hi]
  | false=>
   simp only [abv,if_false,cond_false,ih]
   rw [show i+1+(xs.drop (i+1)).findIdx p=i+((xs.drop (i+1)).findIdx p+1) by omega]
theorem zV {A C:Type} {p:A→Bool} {q:C→A→Option (Bool×Unit)} {d:A} {xs:List A} {c:C} {n:Nat} {B:(List A×C×Int×Int×Unit→Option (Int×Unit))→List A×C×Int×Int×Unit→Option (Int×Unit)}
  (hB:∀L v,B L v=(if decide (v.2.2.2.1<v.2.2.1)=true then (if aN v.2.2.2.1 v.1.length then ((q v.2.1 (v.1.getD v.2.2.2.1.toNat d)).bind fun r2=>(if r2.1=true then some (v.2.2.2.1,()) else L (v.1,v.2.1,v.2.2.1,IntKind.i64.wrap (v.2.2.2.1+(1:Int)),()))) else none) else some ((-1:Int),())))
  (hq:∀x,q c x=some (p x,())) (hb:xs.length≤140737488355328) (hn:xs.length<n) :
  rounds B n (xs,c,(xs.length:Int),(0:Int),())=some (if xs.findIdx p<xs.length then ((xs.findIdx p:Nat):Int) else -1,()):=by
 refine (cu (fun i=>(xs,c,(xs.length:Int),(i:Int),())) (fun j=>if p (xs.getD j d)=true then some (some ((j:Int),())) else none) (some (-1,())) (m:=xs.length) rfl hn ?_ ?_).trans ?_
 ·intro L i hi _
  simp only [hB,abS,hi,decide_true,if_true,cO hi,abC,dP hi (by omega),hq,abt]
  cases p (xs.getD i d) <;> rfl
 ·intro L _
  simp [hB]
 ·rw [o8 (r:=fun j=>some ((j:Int),())) xs.length 0 (by omega)]
  simp only [List.drop_zero,Nat.zero_add]
  split <;> rfl
theorem HV {us:List Int} {x:Int} {n:Nat} {B:(List Int×Int×Int×Int×Unit→Option (Int×Unit))→List Int×Int×Int×Int×Unit→Option (Int×Unit)}
  (hB:∀L v,B L v=(if decide (v.2.2.2.1<v.2.2.1)=true then (if aN v.2.2.2.1 v.1.length then (if decide (v.2.1=(v.1.getD v.2.2.2.1.toNat (0:Int)))=true then some (v.2.2.2.1,()) else L (v.1,v.2.1,v.2.2.1,IntKind.i64.wrap (v.2.2.2.1+(1:Int)),())) else none) else some ((-1:Int),())))
  (hb:us.length≤140737488355328) (hn:us.length<n) :
  (rounds B n (us,x,(us.length:Int),(0:Int),())).bind (fun r=>some (decide (r.1≥(0:Int)),()))=some (us.contains x,()):=by
 have h:rounds B n (us,x,(us.length:Int),(0:Int),())=some (if us.findIdx (fun y=>decide (x=y))<us.length then ((us.findIdx (fun y=>decide (x=y)):Nat):Int) else -1,()):=by
  refine (cu (fun i=>(us,x,(us.length:Int),(i:Int),())) (fun j=>if decide (x=us.getD j 0)=true then some (some ((j:Int),())) else none) (some (-1,())) (m:=us.length) rfl hn ?_ ?_).trans ?_
  ·intro L i hi _
   simp only [hB,abS,hi,decide_true,if_true,cO hi,abC,dP hi (by omega)]
   split <;> rfl
  ·intro L _
   simp [hB]
  ·rw [o8 (p:=fun y=>decide (x=y)) (r:=fun j=>some ((j:Int),())) us.length 0 (by omega)]
   simp only [List.drop_zero,Nat.zero_add]
   split <;> rfl
 rw [h]
 show some (decide ((if us.findIdx (fun y=>decide (x=y))<us.length then ((us.findIdx (fun y=>decide (x=y)):Nat):Int) else -1)≥0),())=_
 congr 2
 by_cases hc:us.findIdx (fun y=>decide (x=y))<us.length
 ·rw [if_pos hc]
  have:=List.findIdx_lt_length.1 hc
  obtain ⟨y,hy,e⟩:=this
  have e:x=y:=by simpa using e
  subst e
  rw [decide_eq_true (by omega),List.contains_iff_mem.2 hy]
 ·rw [if_neg hc,decide_eq_false (by omega)]
  symm
  rw [Bool.eq_false_iff]
  intro hm
  exact hc (List.findIdx_lt_length.2 ⟨x,List.contains_iff_mem.1 hm,by simp⟩)
def UZ {A:Type} (p:A→Bool) (xs:List A) (j:Nat):Nat:=((xs.take j).filter fun x=>!p x).length
def shape {A:Type} (p:A→Bool) (d:A) (xs:List A):Nat→List A
 | 0=>xs
 | j+1=>if p (xs.getD j d)=true then shape p d xs j else (shape p d xs j).set (UZ p xs j) (xs.getD j d)
def TM {A:Type} (d:A) (p:A→Bool) (xs:List A):Int×List A×Unit:=
 (((xs.filter fun x=>!p x).length:Int),(xs.filter fun x=>!p x)++List.replicate (xs.length - (xs.filter fun x=>!p x).length) d,())
abbrev OpC:=Int×List Int×List Int×List Int×Int×Int×Int×List Int×Unit
abbrev Tx:=TO (.int .i64) (.int .u8)
def Fu (n:Nat) (xs:List Tx) (op:OpC):Option (Int×List Tx×Unit):=
 if xs.length≤140737488355328∧xs.length<n∧op.2.2.2.1.length≤140737488355328∧op.2.2.2.1.length<n then some (TM (0,0,0,[],()) (fun x=>op.2.2.2.1.contains x.1) xs) else none
end Go.Proofs.Ytabnmpabdhmkoaa.ry
