/- A vault that has fallen. -/
import Derived.Test.YtdknpknohipffaaGreatOwF
import Derived.Test.YtdknpknohipffaaGreatLoopLib
import Derived.Test.YtdknpknohipffaaGreatStoreMath
import Derived.Test.YtdknpknohipffaaGreatOpsMath
import Derived.Test.YtdknpknohipffaaGreatCodecMath
import Derived.Test.YtdknpknohipffaaGreatVaultMath
import Derived.Test.YtdknpknohipffaaGreatVResMath
import Derived.Test.YtdknpknohipffaaGreatUpMath
import Derived.Test.YtdknpknohipffaaGreatConcMath
import Derived.Test.YtdknpknohipffaaGreatCwF
set_option linter.unusedSectionVars false
set_option linter.unusedVariables false
set_option linter.unusedSimpArgs false
namespace Go.Proofs.YtdknpknohipffaaGreat.G6
open Go Go.Proofs.YtdknpknohipffaaGreat.Ow Go.Proofs.YtdknpknohipffaaGreat.RG Go.Proofs.YtdknpknohipffaaGreat.kN Go.Proofs.YtdknpknohipffaaGreat.gL Go.Proofs.YtdknpknohipffaaGreat.jV Go.Proofs.YtdknpknohipffaaGreat.lZ Go.Proofs.YtdknpknohipffaaGreat.wz Go.Proofs.YtdknpknohipffaaGreat.BO Go.Proofs.YtdknpknohipffaaGreat.ZH Go.Proofs.YtdknpknohipffaaGreat.RQ
theorem U3 {n:Nat} {v:KO} {k:Int} (h:ZE v) (hn:big<n):∃r:VR,pE n v k=some (r,())∧oZ n v k=some (r,())∧LR r:=by
 obtain ⟨c,e1,e2,hc⟩:=ag7 h hn
 have q3:∀c,wU n c=some (Sj c,()):=fun _=>rfl
 have h1:=h.s1
 have h2:=h.s2
 unfold big at h1 h2
 unfold pE oZ bN
 simp only [e1,e2,q3,Option.bind_some,nE,EP]
 by_cases c0:c=0
 ·have hu:=hc c0
  have hf:=hu.few
  simp only [decide_eq_true c0,Bool.not_true,Bool.false_eq_true,if_false]
  by_cases hk:0≤k∧k≤(v.2.2.1.length:Int)
  ·have hl:(v.2.1++v.2.2.1.take k.toNat).length≤8000:=by rw [List.length_append,List.length_take]; omega
   simp only [decide_eq_true hk,Bool.not_true,Bool.false_eq_true,if_false,if_pos hk]
   rw [Vu h.s1,concat (by simp) (by simp only [List.flatten_cons,List.flatten_nil,List.append_nil]; omega) hn]
   simp only [Option.bind_some,List.flatten_cons,List.flatten_nil,List.append_nil]
   rw [if_pos (by rw [List.length_append] at hl; omega)]
   refine ⟨(0,[],(false,v.2.1++v.2.2.1.take k.toNat,[],(0,[],()),()),()),rfl,rfl,by simp, ?_,by simp,by simp [big],fun b hb=>absurd hb (List.not_mem_nil)⟩
   show (v.2.1++v.2.2.1.take k.toNat).length≤big
   unfold big; omega
  ·simp only [decide_eq_false hk,Bool.not_false,if_true]
   exact ⟨Sj 3,rfl,rfl,Uw _⟩
 ·simp only [decide_eq_false c0,Bool.not_false,if_true]
  exact ⟨Sj c,rfl,rfl,Uw _⟩
end Go.Proofs.YtdknpknohipffaaGreat.G6
