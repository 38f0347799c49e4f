/- A vault that is up again. -/
import Derived.Test.YtdknpknohipffaaGreatOwF
import Derived.Test.YtdknpknohipffaaGreatLoopLib
import Derived.Test.YtdknpknohipffaaGreatPackLib
import Derived.Test.YtdknpknohipffaaGreatStoreMath
import Derived.Test.YtdknpknohipffaaGreatOpsMath
import Derived.Test.YtdknpknohipffaaGreatCodecMath
import Derived.Test.YtdknpknohipffaaGreatJourMath
import Derived.Test.YtdknpknohipffaaGreatVaultMath
import Derived.Test.YtdknpknohipffaaGreatVResMath
import Derived.Test.YtdknpknohipffaaGreatRwF
set_option linter.unusedSectionVars false
set_option linter.unusedVariables false
set_option linter.unusedSimpArgs false
namespace Go.Proofs.YtdknpknohipffaaGreat.L6
open Go Go.Proofs.YtdknpknohipffaaGreat.Ow Go.Proofs.YtdknpknohipffaaGreat.Uf Go.Proofs.YtdknpknohipffaaGreat.nW Go.Proofs.YtdknpknohipffaaGreat.CO Go.Proofs.YtdknpknohipffaaGreat.iI Go.Proofs.YtdknpknohipffaaGreat.kR Go.Proofs.YtdknpknohipffaaGreat.oQ Go.Proofs.YtdknpknohipffaaGreat.LF Go.Proofs.YtdknpknohipffaaGreat.yG Go.Proofs.YtdknpknohipffaaGreat.Et
theorem recover {n:Nat} {v:K8} (h:OKV v) (hn:big<n):∃r:VR,lZ n v=some (r,())∧lJ n v=some (r,())∧LR r:=by
 obtain ⟨c,e1,e2,_⟩:=Ob h hn
 obtain ⟨r,a1,a2,a3,_⟩:=Sb Wo.1 Wo.2 (fun o ho=>(aaY h.b1 o ho).1) hn
 have hle:=(EJ v.2.1).2.1
 have q1:qU n=some (eS,()):=rfl
 have q2:oJ n=some (eS,()):=rfl
 have q3:∀c,sj n c=some (Qq c,()):=fun _=>rfl
 unfold lZ lJ
 simp only [e1,e2,q1,q2,q3,JL h.b1 h.s1 hn,JM h.b1 h.s1 hn,a1,a2,Option.bind_some]
 have hk:(v.2.1.take (jP v.2.1).2).length≤big:=by rw [List.length_take]; have:=h.s1; omega
 by_cases c0:c=0
 ·simp only [decide_eq_true c0,Bool.not_true,Bool.false_eq_true,if_false]
  cases v.1 with
  | true=>exact ⟨Qq 9,rfl,rfl,Qe _⟩
  | false=>
   simp only [Bool.false_eq_true,if_false]
   by_cases c1:r.1=0
   ·simp only [decide_eq_true c1,Bool.not_true,Bool.false_eq_true,if_false]
    rw [if_pos ⟨by omega,by omega⟩,if_pos ⟨by omega,by omega⟩,Int.toNat_natCast,Nq hk,clone hk]
    exact ⟨(0,[],(true,v.2.1.take (jP v.2.1).2,[],r.2.2.1,()),()),rfl,rfl,by simp,hk,by simp,a3.2⟩
   ·simp only [decide_eq_false c1,Bool.not_false,if_true]
    exact ⟨Qq r.1,rfl,rfl,Qe _⟩
 ·simp only [decide_eq_false c0,Bool.not_false,if_true]
  exact ⟨Qq c,rfl,rfl,Qe _⟩
end Go.Proofs.YtdknpknohipffaaGreat.L6
