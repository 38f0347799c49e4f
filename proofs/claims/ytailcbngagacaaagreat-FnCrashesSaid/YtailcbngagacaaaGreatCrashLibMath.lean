/- A vault that has fallen. -/
import Derived.Test.YtailcbngagacaaaGreatConcMath
namespace Go.Proofs.YtailcbngagacaaaGreat.U7
open Go Ow nJ oh pO ng uA zo BI Ie U6
theorem Yh {n:Nat} {v:jh} {k:Int} (h:qQ v) (hn:big<n):∃r:VR,KZ n v k=some (r,())/\Gu n v k=some (r,())/\LR r/\(r.1=0->wJ n v=some (0,())/\0<=k/\k<=(v.2.2.1.length:Int))/\(wJ n v=some (0,())->0<=k->k<=(v.2.2.1.length:Int)->r=(0,[],(false,v.2.1++v.2.2.1.take k.toNat,[],(0,[],()),()),())):=by
 obtain ⟨c,e1,e2,hc⟩:=acG h hn
 have q3:∀c,yV n c=some (qy c,()):=fun _=>rfl
 have h1:=h.s1
 have h2:=h.s2
 unfold big at h1 h2
 unfold KZ Gu sQ
 simp only [e1,e2,q3,aL,AA,um]
 by_cases c0:c=0
 ·have hu:=hc c0
  have hf:=hu.few
  simp only [gH c0,jc,bJ,bF]
  by_cases hk:0<=k/\k<=(v.2.2.1.length:Int)
  ·have hl:(v.2.1++v.2.2.1.take k.toNat).length<=8000:=by rw [bV,mZ]; omega
   simp only [gH hk,jc,bJ,bF,aj hk]
   rw [Fw h.s1,concat (by simp) (by simp only [lV,Bv,h_]; omega) hn]
   simp only [aL,lV,Bv,h_]
   rw [aj (by rw [bV] at hl; omega)]
   refine ⟨(0,[],(false,v.2.1++v.2.2.1.take k.toNat,[],(0,[],()),()),()),rfl,rfl,⟨by simp, ?_,by simp,by simp [big],fun b hb=>absurd hb (wR)⟩,fun _=>⟨by rw [c0],hk⟩,fun _ _ _=>rfl⟩
   show (v.2.1++v.2.2.1.take k.toNat).length<=big
   unfold big; omega
  ·simp only [f_ hk,mI,a_]
   exact ⟨qy 3,rfl,rfl,Xd _,fun h=>absurd h (by decide),fun _ h1 h2=>absurd ⟨h1,h2⟩ hk⟩
 ·simp only [f_ c0,mI,a_]
  exact ⟨qy c,rfl,rfl,Xd _,fun h=>absurd h c0,fun h=>absurd (by simpa using h) c0⟩
end Go.Proofs.YtailcbngagacaaaGreat.U7
