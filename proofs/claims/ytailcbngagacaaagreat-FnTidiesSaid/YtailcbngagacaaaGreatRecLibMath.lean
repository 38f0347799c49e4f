/- A vault that is up again. -/
import Derived.Test.YtailcbngagacaaaGreatTidyLibMath
namespace Go.Proofs.YtailcbngagacaaaGreat.EW
open Go Ow JO kF qc iw gU kK tL qz vg
theorem recover {n:Nat} {v:wZ} (h:IC v) (hn:big<n):∃r:VR,lT n v=some (r,())/\lK n v=some (r,())/\LR r:=by
 obtain ⟨c,e1,e2,_⟩:=yw h hn
 obtain ⟨r,a1,a2,a3,_⟩:=Lt xm.1 xm.2 (fun o ho=>(VE h.b1 o ho).1) hn
 have hle:=(vI v.2.1).2.1
 have q1:kT n=some (eS,()):=rfl
 have q2:kL n=some (eS,()):=rfl
 have q3:∀c,fQ n c=some (vW c,()):=fun _=>rfl
 unfold lT lK
 simp only [e1,e2,q1,q2,q3,C8 h.b1 h.s1 hn,C9 h.b1 h.s1 hn,a1,a2,anf]
 have hk:(v.2.1.take (jP v.2.1).2).length<=big:=by rw [aoX]; have:=h.s1; omega
 by_cases c0:c=0
 ·simp only [aoA c0,anH,anh,aog]
  cases v.1 with
  | true=>exact ⟨vW 9,rfl,rfl,JJ _⟩
  | false=>
   simp only [anh,aog]
   by_cases c1:r.1=0
   ·simp only [aoA c1,anH,anh,aog]
    rw [aoi ⟨by omega,by omega⟩,aoi ⟨by omega,by omega⟩,ano,AJ hk,clone hk]
    exact ⟨(0,[],(true,v.2.1.take (jP v.2.1).2,[],r.2.2.1,()),()),rfl,rfl,by simp,hk,by simp,a3.2⟩
   ·simp only [aoY c1,anS,aof]
    exact ⟨vW r.1,rfl,rfl,JJ _⟩
 ·simp only [aoY c0,anS,aof]
  exact ⟨vW c,rfl,rfl,JJ _⟩
end Go.Proofs.YtailcbngagacaaaGreat.EW
