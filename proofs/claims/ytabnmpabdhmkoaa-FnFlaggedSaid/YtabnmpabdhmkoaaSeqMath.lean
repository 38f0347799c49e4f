/- A message found by its uid; a store held against itself. -/
import Derived.Test.YtabnmpabdhmkoaaOwF
import Derived.Test.YtabnmpabdhmkoaaLoopLib
import Derived.Test.YtabnmpabdhmkoaaCutLib
import Derived.Test.YtabnmpabdhmkoaaStoreMath
import Derived.Test.YtabnmpabdhmkoaaOpsMath
import Derived.Test.YtabnmpabdhmkoaaFgF
set_option linter.unusedSectionVars false
set_option linter.unusedVariables false
set_option linter.unusedSimpArgs false
namespace Go.Proofs.Ytabnmpabdhmkoaa.Kl
open Go Go.Proofs.Ytabnmpabdhmkoaa.Ow Go.Proofs.Ytabnmpabdhmkoaa.P9 Go.Proofs.Ytabnmpabdhmkoaa.qF Go.Proofs.Ytabnmpabdhmkoaa.oP Go.Proofs.Ytabnmpabdhmkoaa.lW
def JO (b:Bx) (u:Int):Int:=if b.2.2.2.1.findIdx (fun m=>decide (m.1=u))<b.2.2.2.1.length then ((b.2.2.2.1.findIdx (fun m=>decide (m.1=u)):Nat):Int) else -1
theorem xw (b:Bx) (u:Int):(JO b u=-1∧∀m∈b.2.2.2.1,m.1≠u)∨∃i:Nat,JO b u=(i:Int)∧∃h:i<b.2.2.2.1.length,(b.2.2.2.1[i]).1=u:=by
 unfold JO
 split
 ·rename_i h
  refine .inr ⟨_,rfl,h, ?_⟩
  have:=List.findIdx_getElem (w:=h)
  simpa using this
 ·rename_i h
  refine .inl ⟨rfl,fun m hm e=>h (List.findIdx_lt_length_of_exists ⟨m,hm,by simpa using e⟩)⟩
theorem message {n:Nat} {b:Bx} {u:Int} (hb:b.2.2.2.1.length≤big) (hn:big<n):jY n b u=some (JO b u,()):=by
 unfold jY
 have h:bJ n b.2.2.2.1 u=some (_,()):=jK.wY (p:=fun m:lV=>decide (m.1=u)) (q:=fun c x=>kY n x c) (d:=dM) (fun _ _=>rfl) (fun _=>rfl) (by unfold big at hb; omega) (by omega)
 rw [h]
 rfl
def MX (b:Bx) (u:Int):Int×Int×Unit:=if JO b u<0 then (4,0,()) else (0,JO b u+1,())
theorem seq {n:Nat} {b:Bx} {u:Int} (hb:okB b) (hg:zQ b) (hn:big<n):jv n b u=some (MX b u,()):=by
 have hl:=hb.2.1
 unfold big at hl
 obtain ⟨_,h2,h3⟩:=Kr hb hn
 unfold jv MX
 rw [h2]
 simp only [afR,h3.2 hg,decide_true,agi,afT,if_false,message hb.2.1 hn]
 rcases xw b u with ⟨e,_⟩ | ⟨i,e,hi,_⟩
 ·rw [e]; rfl
 ·rw [e,wrap_i64 (by omega) (by omega)]
  have:¬((i:Int)<0):=by omega
  simp only [this,decide_false,afT,if_false]
end Go.Proofs.Ytabnmpabdhmkoaa.Kl
