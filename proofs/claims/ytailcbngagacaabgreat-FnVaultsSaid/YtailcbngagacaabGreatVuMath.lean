/- 'FnVaults': what it comes to. -/
import Derived.Test.YtailcbngagacaabGreatDrawVMath
set_option linter.unusedVariables false
set_option linter.unusedSimpArgs false
namespace Go.Proofs.YtailcbngagacaabGreat.XD
open Go Ow ni nM vo oQ mP uu Bo zu BA Ia WH Ms XA Gh Gi Vd
def more (v:iq) (o:OpC):iq:=(true,v.2.1,v.2.2.1++bU o,(kK v.2.2.2.1 o).2.2.1,())
structure Fits (v:iq) (o:OpC):Prop where
 right:iC o=0
 ok:ng o
 done:(kK v.2.2.2.1 o).1=0
 few:(opsV v).length<60
 small:v.2.1.length+v.2.2.1.length+(bU o).length<=6000
theorem written {n:Nat} {v:iq} {o:OpC} (h:pQ v) (hu:Qp v) (ho:okO o) (hd:dF o.2.2.2.2.2.2.2.1) (hn:big<n):∃r:VR,A9 n v o=some (r,())/\Gz n v o=some (r,())/\(r.1≠0\/(Fits v o/\r=(0,(kK v.2.2.2.1 o).2.1,more v o,()))):=by
 have q3:∀c,yV n c=some (oW c,()):=fun _=>rfl
 obtain ⟨e1,e2,e3,_⟩:=CZ h.st hu.good ho hn
 have g1:=hu.few
 have g2:=hu.ops
 have hf0:(kK v.2.2.2.1 o).1=0->iC o=0:=fun c0=>by
  by_cases hf:iC o=0
  ·exact hf
  ·unfold kK at c0
   rw [aA hf] at c0
   exact c0
 unfold more
 unfold A9 Gz
 generalize hr0:kK v.2.2.2.1 o=r0 at e1 e2 e3 hf0
 simp only [e1,e2,q3,aJ]
 by_cases c0:r0.1=0
 ·have hf:=hf0 c0
  have h8:ng o:=⟨xL.right hf,hd⟩
  have hp:(bU o).length<=504:=by have:=h8.body.2; rw [vV]; omega
  simp only [gB c0,iB,bG,bE,NP h hn,TV h hn,aa7 h8 hn,NS h8 hn,aJ]
  rw [wrap_i64 (x:=(v.2.1.length:Int)+(v.2.2.1.length:Int)) (by omega) (by omega),wrap_i64 (by omega) (by omega)]
  by_cases c1:(v.2.1.length:Int)+(v.2.2.1.length:Int)+((bU o).length:Int)>6000
  ·simp only [gB c1,a_]
   exact ⟨oW 10,rfl,rfl, .inl (by simp [oW])⟩
  simp only [fH c1,bG,bE]
  by_cases c2:(opsV v).length=60
  ·rw [ak (by rw [dS]; omega),ak (by rw [dS]; omega)]
   exact ⟨oW 10,rfl,rfl, .inl (by simp [oW])⟩
  rw [aA (by rw [dS]; omega),aA (by rw [dS]; omega)]
  rw [copyV h hn,clone h.s1,clone h.s2]
  simp only [aJ]
  rw [ak (by omega),ak (by omega),hu.up]
  exact ⟨(0,r0.2.1,(true,v.2.1,v.2.2.1++bU o,r0.2.2.1,()),()),rfl,rfl, .inr ⟨⟨hf,h8,by rw [hr0]; exact c0,by omega,by omega⟩,rfl⟩⟩
 ·simp only [fH c0,lD,a_]
  exact ⟨oW r0.1,rfl,rfl, .inl c0⟩
theorem amD {v:iq} {o:OpC} (h:pQ v) (hk:wS v) (ho:okO o) (hf:Fits v o):Mt (opsV v++[o])/\pQ (more v o)/\wS (more v o)/\Rq (more v o)=told (opsV v++[o]):=by
 obtain ⟨hT,hP⟩:=hk.tells h
 obtain ⟨s1,s2⟩:=hk.sure
 have hrun:=hk.run
 have g1:=hf.small
 have g2:=hf.few
 obtain ⟨_,_,e3,e4⟩:=CZ (n:=big+1) h.st hk.up.good ho (by omega)
 have hone:jA v.2.2.2.1 [o]=(0,[],(kK v.2.2.2.1 o).2.2.1,()):=by rw [jA,ak hf.done]; rfl
 have hall:jA eS (opsV v++[o])=(0,[],(kK v.2.2.2.1 o).2.2.1,()):=by rw [anE hT.run,hrun,hone]
 have hb:∀x∈(jP v.2.2.1).1++[o],iC x=0:=fun x hx=>by
  rcases bW.1 hx with hx | hx
  ·exact (CB v.2.2.1).1 x hx
  ·rw [fV.1 hx]; exact hf.right
 have hl:v.2.2.1++bU o=((jP v.2.2.1).1++[o]).flatMap bU:=by
  rw [D6, <-s2]
  simp
 have hj:jP (v.2.2.1++bU o)=((jP v.2.2.1).1++[o],(v.2.2.1++bU o).length):=by
  rw [hl,Td hb]
 have hops:opsV (more v o)=opsV v++[o]:=by
  show (jP v.2.1).1++(jP (v.2.2.1++bU o)).1=_
  rw [hj]
  unfold opsV
  rw [gJ]
 have Y_:Mt (opsV v++[o]):=by
  refine ⟨fun x hx=>?_,fun x hx=>?_,by rw [bX,jC]; omega, ?_,by rw [hall]⟩
  ·rcases bW.1 hx with hx | hx
   ·exact hT.right x hx
   ·rw [fV.1 hx]; exact hf.right
  ·rcases bW.1 hx with hx | hx
   ·exact hT.ok x hx
   ·rw [fV.1 hx]; exact ⟨ho,hf.ok⟩
  ·rw [D6,bX,hP,bX]
   simp only [kS,xO,gT]
   omega
 refine ⟨Y_,⟨h.s1,h.b1, ?_, ?_,e3.2⟩,⟨⟨?_,rfl,e4 hf.done,by rw [hops]; exact Y_.few⟩, ?_,by rw [hops,hall]; rfl⟩, ?_⟩
 ·show (v.2.2.1++bU o).length<=big
  rw [bX]; unfold big; omega
 ·have:=S9 (l:=[o]) (fun x hx=>by rw [fV.1 hx]; exact hf.ok)
  simp only [kS,xO,gT] at this
  exact uI h.b2 this
 ·show v.2.1.length+(v.2.2.1++bU o).length<=8000
  rw [bX]; omega
 ·have hw:=hk.whole
  unfold xB at hw ⊢
  simp only [bg,dS] at hw ⊢
  refine ⟨hw.1, ?_⟩
  show ((jP (v.2.2.1++bU o)).2:Int)=((v.2.2.1++bU o).length:Int)
  rw [hj]
 ·unfold Rq told more
  rw [hall]
  simp only
  rw [D6,hP]
  simp
theorem nums {n:Nat} {xs:List Int} (hb:xs.length<=big) (hn:big<n):K3 n xs xs=some (true,()):=by
 have hb':xs.length<=1048576:=hb
 have hn':1048576<n:=hn
 unfold K3
 rw [aA (by simp)]
 refine (iy (fun i=>(xs,xs,(i:Int),())) (fun _=>none) (some (true,())) (m:=xs.length) rfl (by omega) ?_ ?_).trans (mh (fun _ _ _=>rfl))
 ·intro L i hi _
  simp only [gZ,hi,bL,a_,dA hi,eF,gp hi (by omega),iB,bG,bE]
 ·intro L _
  simp
theorem aiO {n:Nat} {code:List Int} (hb:fG code) (hl:code.length<=big) (hn:big<n):∃v o,K_ n code=some (v,o,())/\pQ v/\Io o:=by
 unfold K_ Pn
 have e:Po n code=some ((code,(0:Int),()),()):=rfl
 rw [e]
 obtain ⟨v,s1,e1,h1,hv⟩:=bent (n:=n) (source hb hl) (by omega) hn
 obtain ⟨t,s2,e2,h2,_⟩:=Ey (n:=n) h1 (k:=10) (by omega) (by omega) (by omega)
 simp only [aJ,e1,e2]
 cases t with
 | true=>
  obtain ⟨o,s3,e3,h3,ho⟩:=ahr (n:=n) h2 (by omega) hn
  simp only [a_,e3,aJ]
  exact ⟨v,o,rfl,hv.1,ho⟩
 | false=>
  obtain ⟨o,s3,e3,h3,ho⟩:=op (n:=n) h2 (by omega) hn
  simp only [bG,bE,e3,aJ]
  exact ⟨v,o,rfl,hv.1,ho⟩
theorem law {n:Nat} {code:List Int} (hb:fG code) (hn:big<n):Pg n code=some (true,()):=by
 unfold Pg
 have e0:Ph n code=some (decide ((code.length:Int)>1048576),()):=rfl
 rw [e0]
 simp only [aJ]
 by_cases hl:(code.length:Int)>1048576
 ·rw [ak (by simpa using hl)]
 rw [aA (by simpa using hl)]
 obtain ⟨v,o,e1,hv,hdo⟩:=aiO (n:=n) hb (by unfold big; omega) hn
 have ho:=hdo.ok
 have hd:dF o.2.2.2.2.2.2.2.1:=hdo.2.2.2.1
 rw [e1]
 simp only [aJ]
 obtain ⟨c,u1,u2,hc⟩:=acH hv hn
 have q3:∀c,yV n c=some (oW c,()):=fun _=>rfl
 by_cases c0:c=0
 ·subst c0
  have hu:=hc rfl
  have hk:=aom hv u1 hn
  obtain ⟨r,w1,w2,w3⟩:=written hv hu ho hd hn
  rcases w3 with w3 | ⟨hf,w3⟩
  ·have d1:yP n v o=some (r,()):=by
    unfold yP
    rw [u1]
    simp only [aJ,bL,iB,bG,bE,w2,fH w3]
   have d2:DI n v o=some (r,()):=by
    unfold DI DJ
    rw [u2]
    simp only [aJ,bL,iB,bG,bE,w1,fH w3,lD,a_]
   simp only [d1,d2,aJ,fH w3,lD,a_,bL]
  ·subst w3
   obtain ⟨hT,m1,m2,m3⟩:=amD hv hk ho hf
   obtain ⟨t1,t2,t3⟩:=aoc hT
   have hfl:Dx n (more v o)=some (told (opsV v++[o]),()):=by rw [ajr ⟨m1.s1,m1.s2,m1.st⟩ hn,m3]
   have d1:yP n v o=some ((0,(kK v.2.2.2.1 o).2.1,told (opsV v++[o]),()),()):=by
    unfold yP
    rw [u1]
    simp only [aJ,bL,iB,bG,bE,w2,a_,hfl]
   have d2:KW n v o=some ((0,(kK v.2.2.2.1 o).2.1,more v o,()),()):=by
    unfold KW
    rw [u1]
    simp only [aJ,bL,iB,bG,bE,w2]
   have d3:KN n (more v o)=some ((0,[],told (opsV v++[o]),()),()):=by
    unfold KN
    rw [aoj m1 m2 hn]
    simp only [aJ,bL,iB,bG,bE,hfl]
   have d4:=amU (n:=n) hv.st hu.good ho hn
   have hsm:=t2.up.few
   have d5:=anh (n:=n) (d:=(told (opsV v++[o])).2.1) t1.b1 (by omega) hn
   have hj:(jP (told (opsV v++[o])).2.1).1=opsV v++[o]:=by
    show (jP ((opsV v++[o]).flatMap bU)).1=_
    rw [Td hT.right]
   rw [hj] at d5
   have d6:Pe n=some ((0,[],(true,[],[],eS,()),()),()):=rfl
   have d7:=(QA (n:=n) tL.1 tL.2 (fun x hx=>(hT.ok x hx).1) hT.few hn).2
   have hst:(kK v.2.2.2.1 o).2.2.1=(told (opsV v++[o])).2.2.2.1:=by rw [<-m3]; rfl
   have g:=(CZ (n:=n) hv.st hu.good ho hn).2.2.1
   have d8:wH n (kK v.2.2.2.1 o).2.2.1 (told (opsV v++[o])).2.2.2.1=some (true,()):=by
    rw [JY g.2 hn,gB hst]
   have d9:wH n (jA eS (opsV v++[o])).2.2.1 (told (opsV v++[o])).2.2.2.1=some (true,()):=by
    show wH n (told (opsV v++[o])).2.2.2.1 (told (opsV v++[o])).2.2.2.1=_
    rw [JY t1.st hn,gB rfl]
   have d10:K4 n (told (opsV v++[o])).2.1 (told (opsV v++[o])).2.1=some (true,()):=by
    unfold K4
    rw [gB rfl]
   have hz:((told (opsV v++[o])).2.2.1.length:Int)=0:=rfl
   have hpos:((more v o).2.2.1.length:Int)>0:=by
    have:=TW o
    show ((v.2.2.1++bU o).length:Int)>0
    rw [bX]; omega
   simp only [d1,d2,d3,d4,d5,d6,d7,d8,d9,d10,acJ t1 t2 hn,nums g.1 hn,hT.run,hf.done,hz,gB hpos,aJ,bL,iB,bG,bE,a_]
   rfl
 ·have d1:yP n v o=some (oW c,()):=by
   unfold yP
   rw [u1]
   simp only [aJ,fH c0,lD,a_]
   rfl
  have d2:DI n v o=some (oW c,()):=by
   unfold DI
   rw [u2]
   simp only [aJ,fH c0,lD,a_,q3]
  have hb:(oW c).1=c:=rfl
  simp only [d1,d2,aJ,hb,fH c0,lD,a_,bL]
theorem all:∀(N:Nat) (c:Cont (kin FO)),ND FO c->J9 FO c<=N->∃n out,WB.F n c=some out/\out.1=true:=by
 intro N c hc _
 exact ⟨1048577,(true,()),law (code:=c.1) (codeOf hc.1) (by unfold big; omega),rfl⟩
end Go.Proofs.YtailcbngagacaabGreat.XD
