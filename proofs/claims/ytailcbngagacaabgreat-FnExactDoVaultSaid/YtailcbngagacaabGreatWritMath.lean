/- An op written by a vault that is up. -/
import Derived.Test.YtailcbngagacaabGreatOwF
import Derived.Test.YtailcbngagacaabGreatLoopLib
import Derived.Test.YtailcbngagacaabGreatPackLib
import Derived.Test.YtailcbngagacaabGreatStoreMath
import Derived.Test.YtailcbngagacaabGreatOpsMath
import Derived.Test.YtailcbngagacaabGreatCodecMath
import Derived.Test.YtailcbngagacaabGreatJourMath
import Derived.Test.YtailcbngagacaabGreatVaultMath
import Derived.Test.YtailcbngagacaabGreatVResMath
import Derived.Test.YtailcbngagacaabGreatUpMath
import Derived.Test.YtailcbngagacaabGreatDoF
set_option linter.unusedSectionVars false
set_option linter.unusedVariables false
set_option linter.unusedSimpArgs false
namespace Go.Proofs.YtailcbngagacaabGreat.Jk
open Go Go.Proofs.YtailcbngagacaabGreat.Ow Go.Proofs.YtailcbngagacaabGreat.Nr Go.Proofs.YtailcbngagacaabGreat.jO Go.Proofs.YtailcbngagacaabGreat.xh Go.Proofs.YtailcbngagacaabGreat.gp Go.Proofs.YtailcbngagacaabGreat.jc Go.Proofs.YtailcbngagacaabGreat.jV Go.Proofs.YtailcbngagacaabGreat.DT Go.Proofs.YtailcbngagacaabGreat.qG Go.Proofs.YtailcbngagacaabGreat.uw Go.Proofs.YtailcbngagacaabGreat.NF
theorem written {n:Nat} {v:CQ} {o:OpC} (h:WU v) (hu:UpV v) (ho:okO o) (hd:qc o.2.2.2.2.2.2.2.1) (hn:big<n):∃r:VR,qp n v o=some (r,())∧qZ n v o=some (r,())∧LR r∧(r.1=0→r.2.2.1.1=true∧r.2.2.2=()∧r.2.2.1.2.1.length+r.2.2.1.2.2.1.length≤6000):=by
 have q3:∀c,kC n c=some (Jv c,()):=fun _=>rfl
 obtain ⟨r0,e1,e2,e3,e4⟩:=D8 h.st ho hu.good hn
 have g1:=hu.few
 have g2:=hu.ops
 unfold qp qZ
 simp only [e1,e2,q3,anY]
 by_cases c0:r0.1=0
 ·have hf:iK o=0:=by
   rcases e4 with ⟨h1,_⟩ | ⟨h1,h2⟩
   ·exact h1
   ·rw [h2] at c0; exact absurd c0 h1
  have h8:Pb o:=⟨vR.right hf,hd⟩
  have hp:(eY o).length≤504:=by have:=h8.body.2; rw [rY]; omega
  simp only [decide_eq_true c0,aoo,an0,if_false,Qz h hn,QA h hn,M0 h8 hn,Gb h8 hn,anY]
  rw [wrap_i64 (x:=(v.2.1.length:Int)+(v.2.2.1.length:Int)) (by omega) (by omega),wrap_i64 (by omega) (by omega)]
  by_cases c1:(v.2.1.length:Int)+(v.2.2.1.length:Int)+((eY o).length:Int)>6000
  ·simp only [decide_eq_true c1,if_true]
   exact ⟨Jv 10,rfl,rfl,NA _,fun h=>absurd h (by decide)⟩
  simp only [decide_eq_false c1,an0,if_false]
  by_cases c2:(opsV v).length=60
  ·rw [if_pos (by rw [decide_eq_true_eq]; omega),if_pos (by rw [decide_eq_true_eq]; omega)]
   exact ⟨Jv 10,rfl,rfl,NA _,fun h=>absurd h (by decide)⟩
  rw [if_neg (by rw [decide_eq_true_eq]; omega),if_neg (by rw [decide_eq_true_eq]; omega)]
  unfold oC
  rw [F8 h.s1,F8 h.s2,clone h.s1,clone h.s2,Kw h.st hn]
  simp only [anY]
  rw [if_pos (by omega),if_pos (by omega),hu.up]
  refine ⟨(0,r0.2.1,(true,v.2.1,v.2.2.1++eY o,r0.2.2.1,()),()),rfl,rfl,⟨e3.1,h.s1, ?_,e3.2⟩,fun _=>⟨by first | rfl | trivial,by first | rfl | trivial, ?_⟩⟩
  ·show (v.2.2.1++eY o).length≤big
   rw [an5]; unfold big; omega
  ·show v.2.1.length+(v.2.2.1++eY o).length≤6000
   rw [an5]; omega
 ·simp only [decide_eq_false c0,aoz,if_true]
  exact ⟨Jv r0.1,rfl,rfl,NA _,fun h=>absurd h c0⟩
end Go.Proofs.YtailcbngagacaabGreat.Jk
