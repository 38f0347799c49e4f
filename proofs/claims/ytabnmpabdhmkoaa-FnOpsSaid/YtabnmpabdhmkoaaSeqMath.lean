/- A message found by its uid; a store held against itself. -/
import Derived.Test.YtabnmpabdhmkoaaOwF
import Derived.Test.YtabnmpabdhmkoaaLoopLib
import Derived.Test.YtabnmpabdhmkoaaCutLib
import Derived.Test.YtabnmpabdhmkoaaStoreMath
import Derived.Test.YtabnmpabdhmkoaaOpsMath
import Derived.Test.YtabnmpabdhmkoaaFoF
set_option linter.unusedSectionVars false
set_option linter.unusedVariables false
set_option linter.unusedSimpArgs false
namespace Go.Proofs.Ytabnmpabdhmkoaa.Kq
open Go Go.Proofs.Ytabnmpabdhmkoaa.Ow Go.Proofs.Ytabnmpabdhmkoaa.Nl Go.Proofs.Ytabnmpabdhmkoaa.pY Go.Proofs.Ytabnmpabdhmkoaa.nN Go.Proofs.Ytabnmpabdhmkoaa.nu
def JR (b:Bx) (u:Int):Int:=if b.2.2.2.1.findIdx (fun m=>decide (m.1=u))<b.2.2.2.1.length then ((b.2.2.2.1.findIdx (fun m=>decide (m.1=u)):Nat):Int) else -1
theorem CF (b:Bx) (u:Int):(JR b u=-1∧∀m∈b.2.2.2.1,m.1≠u)∨∃i:Nat,JR b u=(i:Int)∧∃h:i<b.2.2.2.1.length,(b.2.2.2.1[i]).1=u:=by
 unfold JR
 split
 ·rename_i h
  refine .inr ⟨_,rfl,h, ?_⟩
  have:=List.findIdx_getElem (w:=h)
  simpa using this
 ·rename_i h
  refine .inl ⟨rfl,fun m hm e=>h (List.findIdx_lt_length_of_exists ⟨m,hm,by simpa using e⟩)⟩
theorem message {n:Nat} {b:Bx} {u:Int} (hb:b.2.2.2.1.length≤big) (hn:big<n):j4 n b u=some (JR b u,()):=by
 unfold j4
 have h:bM n b.2.2.2.1 u=some (_,()):=jL.xe (p:=fun m:mK=>decide (m.1=u)) (q:=fun c x=>lG n x c) (d:=dM) (fun _ _=>rfl) (fun _=>rfl) (by unfold big at hb; omega) (by omega)
 rw [h]
 rfl
def PV (b:Bx) (u:Int):Int×Int×Unit:=if JR b u<0 then (4,0,()) else (0,JR b u+1,())
theorem seq {n:Nat} {b:Bx} {u:Int} (hb:okB b) (hg:zP b) (hn:big<n):kW n b u=some (PV b u,()):=by
 have hl:=hb.2.1
 unfold big at hl
 obtain ⟨_,h2,h3⟩:=Kv hb hn
 unfold kW PV
 rw [h2]
 simp only [agc,h3.2 hg,decide_true,agF,age,if_false,message hb.2.1 hn]
 rcases CF b u with ⟨e,_⟩ | ⟨i,e,hi,_⟩
 ·rw [e]; rfl
 ·rw [e,wrap_i64 (by omega) (by omega)]
  have:¬((i:Int)<0):=by omega
  simp only [this,decide_false,age,if_false]
theorem Ep {A:Type} {f:A→A→Option (Bool×Unit)} {d:A} {xs:List A} {n:Nat} {B:(List A×List A×Int×Int×Unit→Option (Bool×Unit))→List A×List A×Int×Int×Unit→Option (Bool×Unit)}
  (hB:∀L v,B L v=(if decide (v.2.2.2.1<v.2.2.1)=true then (if aN v.2.2.2.1 v.2.1.length then (if aN v.2.2.2.1 v.1.length then ((f (v.2.1.getD v.2.2.2.1.toNat d) (v.1.getD v.2.2.2.1.toNat d)).bind fun r2=>(if (!r2.1)=true then some (false,()) else L (v.1,v.2.1,v.2.2.1,IntKind.i64.wrap (v.2.2.2.1+(1:Int)),()))) else none) else none) else some (true,())))
  (hf:∀x∈xs,f x x=some (true,())) (hb:xs.length≤big) (hn:big<n):rounds B n (xs,xs,(xs.length:Int),(0:Int),())=some (true,()):=by
 unfold big at hb hn
 refine (bE (fun i=>(xs,xs,(xs.length:Int),(i:Int),())) (fun _=>none) (some (true,())) (m:=xs.length) rfl (by omega) ?_ ?_).trans ?_
 ·intro L i hi _
  have hx:f (xs.getD i d) (xs.getD i d)=some (true,()):=hf _ (dI hi d)
  simp only [hB,agE,hi,decide_true,if_true,aV hi,agm,bL hi (by omega),hx,agc,agF,age,if_false]
 ·intro L _
  simp [hB]
 ·have:∀m i,dm (fun _=>(none:Option (Option (Bool×Unit)))) (some (true,())) m i=some (true,()):=by
   intro m
   induction m with
   | zero=>intro i; rfl
   | succ m ih=>intro i; exact ih _
  exact this _ _
theorem M4 {n:Nat} {xs:List Int} (hb:xs.length≤big) (hn:big<n):gI n xs xs=some (true,()):=by
 unfold gI
 rw [if_neg (by simp)]
 unfold big at hb hn
 refine (bE (fun i=>(xs,xs,(xs.length:Int),(i:Int),())) (fun _=>none) (some (true,())) (m:=xs.length) rfl (by omega) ?_ ?_).trans ?_
 ·intro L i hi _
  simp only [agE,hi,decide_true,if_true,aV hi,agm,bL hi (by omega),agF,age,if_false]
 ·intro L _
  simp
 ·have:∀m i,dm (fun _=>(none:Option (Option (Bool×Unit)))) (some (true,())) m i=some (true,()):=by
   intro m
   induction m with
   | zero=>intro i; rfl
   | succ m ih=>intro i; exact ih _
  exact this _ _
theorem YU {n:Nat} {m:mK} (h:MR m) (hn:big<n):iB n m m=some (true,()):=by
 unfold iB
 rw [M4 h hn]
 simp
theorem YT {n:Nat} {b:Bx} (h:okB b) (hn:big<n):iA n b b=some (true,()):=by
 unfold iA
 have e:aK n b.2.2.2.1 b.2.2.2.1=some (true,()):=by
  unfold aK
  rw [if_neg (by simp)]
  exact Ep (f:=fun x y=>iB n x y) (d:=dM) (fun _ _=>rfl) (fun x hx=>YU (h.2.2 x hx) hn) h.2.1 hn
 rw [e]
 simp
theorem YV {n:Nat} {s:kT} (h:yu s) (hn:big<n):kV n s s=some (true,()):=by
 unfold kV
 have e:aU n s.2.1 s.2.1=some (true,()):=by
  unfold aU
  rw [if_neg (by simp)]
  exact Ep (f:=fun x y=>iA n x y) (d:=dB) (fun _ _=>rfl) (fun x hx=>YT (h.2 x hx) hn) h.1 hn
 rw [e]
 simp
end Go.Proofs.Ytabnmpabdhmkoaa.Kq
