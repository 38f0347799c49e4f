/- An op written by a vault that is up. -/
import Derived.Test.YtailcbngagacaabGreatOwF
import Derived.Test.YtailcbngagacaabGreatLoopLib
import Derived.Test.YtailcbngagacaabGreatPackLib
import Derived.Test.YtailcbngagacaabGreatStoreMath
import Derived.Test.YtailcbngagacaabGreatOpsMath
import Derived.Test.YtailcbngagacaabGreatCodecMath
import Derived.Test.YtailcbngagacaabGreatJourMath
import Derived.Test.YtailcbngagacaabGreatVaultMath
import Derived.Test.YtailcbngagacaabGreatVResMath
import Derived.Test.YtailcbngagacaabGreatUpMath
import Derived.Test.YtailcbngagacaabGreatWriteF
set_option linter.unusedSectionVars false
set_option linter.unusedVariables false
set_option linter.unusedSimpArgs false
namespace Go.Proofs.YtailcbngagacaabGreat.Ja
open Go Go.Proofs.YtailcbngagacaabGreat.Ow Go.Proofs.YtailcbngagacaabGreat.oC Go.Proofs.YtailcbngagacaabGreat.kN Go.Proofs.YtailcbngagacaabGreat.wX Go.Proofs.YtailcbngagacaabGreat.gV Go.Proofs.YtailcbngagacaabGreat.jI Go.Proofs.YtailcbngagacaabGreat.kR Go.Proofs.YtailcbngagacaabGreat.Dz Go.Proofs.YtailcbngagacaabGreat.sK Go.Proofs.YtailcbngagacaabGreat.vL Go.Proofs.YtailcbngagacaabGreat.Q4
theorem written {n:Nat} {v:Fz} {o:OpC} (h:Wv v) (hu:UpV v) (ho:okO o) (hd:p9 o.2.2.2.2.2.2.2.1) (hn:big<n):∃r:VR,qj n v o=some (r,())∧qU n v o=some (r,())∧LR r∧(r.1=0→r.2.2.1.1=true∧r.2.2.2=()∧r.2.2.1.2.1.length+r.2.2.1.2.2.1.length≤6000):=by
 have q3:∀c,j6 n c=some (Jl c,()):=fun _=>rfl
 obtain ⟨r0,e1,e2,e3,e4⟩:=DR h.st ho hu.good hn
 have g1:=hu.few
 have g2:=hu.ops
 unfold qj qU
 simp only [e1,e2,q3,ani]
 by_cases c0:r0.1=0
 ·have hf:iG o=0:=by
   rcases e4 with ⟨h1,_⟩ | ⟨h1,h2⟩
   ·exact h1
   ·rw [h2] at c0; exact absurd c0 h1
  have h8:OU o:=⟨vJ.right hf,hd⟩
  have hp:(eX o).length≤504:=by have:=h8.body.2; rw [rQ]; omega
  simp only [decide_eq_true c0,anK,ank,if_false,Qj h hn,Qk h hn,MN h8 hn,FY h8 hn,ani]
  rw [wrap_i64 (x:=(v.2.1.length:Int)+(v.2.2.1.length:Int)) (by omega) (by omega),wrap_i64 (by omega) (by omega)]
  by_cases c1:(v.2.1.length:Int)+(v.2.2.1.length:Int)+((eX o).length:Int)>6000
  ·simp only [decide_eq_true c1,if_true]
   exact ⟨Jl 10,rfl,rfl,Nk _,fun h=>absurd h (by decide)⟩
  simp only [decide_eq_false c1,ank,if_false]
  by_cases c2:(opsV v).length=60
  ·rw [if_pos (by rw [decide_eq_true_eq]; omega),if_pos (by rw [decide_eq_true_eq]; omega)]
   exact ⟨Jl 10,rfl,rfl,Nk _,fun h=>absurd h (by decide)⟩
  rw [if_neg (by rw [decide_eq_true_eq]; omega),if_neg (by rw [decide_eq_true_eq]; omega)]
  unfold vI
  rw [NU h.s1,NU h.s2,clone h.s1,clone h.s2,NV h.st hn]
  simp only [ani]
  rw [if_pos (by omega),if_pos (by omega),hu.up]
  refine ⟨(0,r0.2.1,(true,v.2.1,v.2.2.1++eX o,r0.2.2.1,()),()),rfl,rfl,⟨e3.1,h.s1, ?_,e3.2⟩,fun _=>⟨by first | rfl | trivial,by first | rfl | trivial, ?_⟩⟩
  ·show (v.2.2.1++eX o).length≤big
   rw [anp]; unfold big; omega
  ·show v.2.1.length+(v.2.2.1++eX o).length≤6000
   rw [anp]; omega
 ·simp only [decide_eq_false c0,anV,if_true]
  exact ⟨Jl r0.1,rfl,rfl,Nk _,fun h=>absurd h c0⟩
end Go.Proofs.YtailcbngagacaabGreat.Ja
