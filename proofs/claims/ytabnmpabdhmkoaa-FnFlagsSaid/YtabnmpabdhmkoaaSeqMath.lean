/- A message found by its uid; a store held against itself. -/
import Derived.Test.YtabnmpabdhmkoaaOwF
import Derived.Test.YtabnmpabdhmkoaaLoopLib
import Derived.Test.YtabnmpabdhmkoaaCutLib
import Derived.Test.YtabnmpabdhmkoaaStoreMath
import Derived.Test.YtabnmpabdhmkoaaOpsMath
import Derived.Test.YtabnmpabdhmkoaaFlF
set_option linter.unusedSectionVars false
set_option linter.unusedVariables false
set_option linter.unusedSimpArgs false
namespace Go.Proofs.Ytabnmpabdhmkoaa.Ho
open Go Go.Proofs.Ytabnmpabdhmkoaa.Ow Go.Proofs.Ytabnmpabdhmkoaa.MV Go.Proofs.Ytabnmpabdhmkoaa.qb Go.Proofs.Ytabnmpabdhmkoaa.oF Go.Proofs.Ytabnmpabdhmkoaa.vO
def EO (b:Bx) (u:Int):Int:=if b.2.2.2.1.findIdx (fun m=>decide (m.1=u))<b.2.2.2.1.length then ((b.2.2.2.1.findIdx (fun m=>decide (m.1=u)):Nat):Int) else -1
theorem Ah (b:Bx) (u:Int):(EO b u=-1∧∀m∈b.2.2.2.1,m.1≠u)∨∃i:Nat,EO b u=(i:Int)∧∃h:i<b.2.2.2.1.length,(b.2.2.2.1[i]).1=u:=by
 unfold EO
 split
 ·rename_i h
  refine .inr ⟨_,rfl,h, ?_⟩
  have:=List.findIdx_getElem (w:=h)
  simpa using this
 ·rename_i h
  refine .inl ⟨rfl,fun m hm e=>h (List.findIdx_lt_length_of_exists ⟨m,hm,by simpa using e⟩)⟩
theorem message {n:Nat} {b:Bx} {u:Int} (hb:b.2.2.2.1.length≤big) (hn:big<n):jA n b u=some (EO b u,()):=by
 unfold jA
 have h:bC n b.2.2.2.1 u=some (_,()):=ry.zV (p:=fun m:qI=>decide (m.1=u)) (q:=fun c x=>j5 n x c) (d:=dM) (fun _ _=>rfl) (fun _=>rfl) (by unfold big at hb; omega) (by omega)
 rw [h]
 rfl
def Vf (b:Bx) (u:Int):Int×Int×Unit:=if EO b u<0 then (4,0,()) else (0,EO b u+1,())
theorem seq {n:Nat} {b:Bx} {u:Int} (hb:okB b) (hg:zL b) (hn:big<n):dK n b u=some (Vf b u,()):=by
 have hl:=hb.2.1
 unfold big at hl
 obtain ⟨_,h2,h3⟩:=Bw hb hn
 unfold dK Vf
 rw [h2]
 simp only [abt,h3.2 hg,decide_true,abT,abv,if_false,message hb.2.1 hn]
 rcases Ah b u with ⟨e,_⟩ | ⟨i,e,hi,_⟩
 ·rw [e]; rfl
 ·rw [e,wrap_i64 (by omega) (by omega)]
  have:¬((i:Int)<0):=by omega
  simp only [this,decide_false,abv,if_false]
end Go.Proofs.Ytabnmpabdhmkoaa.Ho
