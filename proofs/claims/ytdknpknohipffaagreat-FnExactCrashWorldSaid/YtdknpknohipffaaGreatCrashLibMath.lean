/- A vault that has fallen. -/
import Derived.Test.YtdknpknohipffaaGreatOwF
import Derived.Test.YtdknpknohipffaaGreatLoopLib
import Derived.Test.YtdknpknohipffaaGreatStoreMath
import Derived.Test.YtdknpknohipffaaGreatOpsMath
import Derived.Test.YtdknpknohipffaaGreatCodecMath
import Derived.Test.YtdknpknohipffaaGreatVaultMath
import Derived.Test.YtdknpknohipffaaGreatVResMath
import Derived.Test.YtdknpknohipffaaGreatUpMath
import Derived.Test.YtdknpknohipffaaGreatConcMath
import Derived.Test.YtdknpknohipffaaGreatCwF
set_option linter.unusedSectionVars false
set_option linter.unusedVariables false
set_option linter.unusedSimpArgs false
namespace Go.Proofs.YtdknpknohipffaaGreat.EL
open Go Go.Proofs.YtdknpknohipffaaGreat.Ow Go.Proofs.YtdknpknohipffaaGreat.Qq Go.Proofs.YtdknpknohipffaaGreat.kG Go.Proofs.YtdknpknohipffaaGreat.gK Go.Proofs.YtdknpknohipffaaGreat.jO Go.Proofs.YtdknpknohipffaaGreat.lD Go.Proofs.YtdknpknohipffaaGreat.tC Go.Proofs.YtdknpknohipffaaGreat.zf Go.Proofs.YtdknpknohipffaaGreat.Yl Go.Proofs.YtdknpknohipffaaGreat.Qx
theorem TP {n:Nat} {v:Jn} {k:Int} (h:Yi v) (hn:big<n):∃r:VR,oC n v k=some (r,())∧og n v k=some (r,())∧LR r:=by
 obtain ⟨c,e1,e2,hc⟩:=ae8 h hn
 have q3:∀c,uq n c=some (QT c,()):=fun _=>rfl
 have h1:=h.s1
 have h2:=h.s2
 unfold big at h1 h2
 unfold oC og bN
 simp only [e1,e2,q3,ape,mK,Cj]
 by_cases c0:c=0
 ·have hu:=hc c0
  have hf:=hu.few
  simp only [decide_eq_true c0,apF,apg,if_false]
  by_cases hk:0≤k∧k≤(v.2.2.1.length:Int)
  ·have hl:(v.2.1++v.2.2.1.take k.toNat).length≤8000:=by rw [apl,List.length_take]; omega
   simp only [decide_eq_true hk,apF,apg,if_false,if_pos hk]
   rw [Ur h.s1,concat (by simp) (by simp only [List.flatten_cons,List.flatten_nil,apH]; omega) hn]
   simp only [ape,List.flatten_cons,List.flatten_nil,apH]
   rw [if_pos (by rw [apl] at hl; omega)]
   refine ⟨(0,[],(false,v.2.1++v.2.2.1.take k.toNat,[],(0,[],()),()),()),rfl,rfl,by simp, ?_,by simp,by simp [big],fun b hb=>absurd hb (List.not_mem_nil)⟩
   show (v.2.1++v.2.2.1.take k.toNat).length≤big
   unfold big; omega
  ·simp only [decide_eq_false hk,apQ,if_true]
   exact ⟨QT 3,rfl,rfl,Ta _⟩
 ·simp only [decide_eq_false c0,apQ,if_true]
  exact ⟨QT c,rfl,rfl,Ta _⟩
end Go.Proofs.YtdknpknohipffaaGreat.EL
