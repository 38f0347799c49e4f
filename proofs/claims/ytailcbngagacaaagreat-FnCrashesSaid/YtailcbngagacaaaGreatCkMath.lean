/- 'FnCrashes': what it comes to. -/
import Derived.Test.YtailcbngagacaaaGreatDrawVMath
set_option linter.unusedVariables false
set_option linter.unusedSimpArgs false
namespace Go.Proofs.YtailcbngagacaaaGreat.U5
open Go Ow nJ oh vB pO ng uA Bq zo BI Ie U7 Mt Xp Kk OJ U8
theorem anX {l m:List OpC} (h:D_ (l++m)):D_ l:=
 ⟨fun o ho=>h.right o (bK _ ho),fun o ho=>h.ok o (bK _ ho),by have:=h.few; rw [bV] at this; omega,by have:=h.small; rw [L6,bV] at this; omega,anv h.run⟩
theorem down {n:Nat} {D:List Int} (hl:D.length<=8000):uB n (false,D,[],(0,[],()),())=some (0,()):=by
 have hw:IntKind.i64.wrap ((D.length:Int)+(([]:List Int).length:Int))=(D.length:Int):=by
  have e:(D.length:Int)+(([]:List Int).length:Int)=(D.length:Int):=by simp
  rw [e,wrap_i64 (by omega) (by omega)]
 unfold uB
 simp only [hw,f_ (show ¬((D.length:Int)>8000) by omega)]
 rfl
theorem abP {n:Nat} {D:List Int} (hB:dA D) (hl:D.length<=8000) (hT:D_ (jP D).1) (hn:big<n):GD n (false,D,[],(0,[],()),())=some ((0,[],told (jP D).1,()),()):=by
 have hb:D.length<=big:=by unfold big; omega
 have hle:=(CP D).2.1
 have a2:=(MG pW.1 pW.2 (fun o ho=>(hT.ok o ho).1) hT.few hn).2
 have q1:xJ n=some (eS,()):=rfl
 have hk:(D.take (jP D).2).length<=big:=by rw [mZ]; omega
 unfold GD
 simp only [down hl,q1,NF hB hb hn,a2,hT.run,aL,bQ,jc,bJ,bF]
 rw [aj ⟨by omega,by omega⟩,eD,clone hk,aai]
 rfl
theorem aiD {n:Nat} {code:List Int} (hb:fF code) (hl:code.length<=big) (hn:big<n):∃v k,K3 n code=some (v,k,())/\qQ v:=by
 unfold K3
 have e:Pt n code=some ((code,(0:Int),()),()):=rfl
 rw [e]
 obtain ⟨v,s1,e1,h1,hv⟩:=ahf (n:=n) (source hb hl) (by omega) hn
 have g:=hv.2
 have hw:IntKind.i64.wrap ((v.2.2.1.length:Int)+(1:Int))=(v.2.2.1.length:Int)+1:=wrap_i64 (by omega) (by omega)
 obtain ⟨x,s2,e2,h2,_⟩:=next (n:=n) h1 (k:=(v.2.2.1.length:Int)+1) (by omega) (by omega) (by omega)
 obtain ⟨y,s3,e3,h3,_⟩:=next (n:=n) h2 (k:=(v.2.2.1.length:Int)+1) (by omega) (by omega) (by omega)
 obtain ⟨z,s4,e4,h4,_⟩:=pick (n:=n) (l:=[x,y,(v.2.2.1.length:Int),(0:Int),(v.2.2.1.length:Int)+1,(-1:Int)]) h3 (by omega) (by simp) (by simp)
 simp only [aL,e1,hw,e2,e3,e4]
 exact ⟨v,z,rfl,hv.1⟩
theorem law {n:Nat} {code:List Int} (hb:fF code) (hn:big<n):Pm n code=some (true,()):=by
 unfold Pm
 have e0:Pn n code=some (decide ((code.length:Int)>1048576),()):=rfl
 rw [e0]
 simp only [aL]
 by_cases hl:(code.length:Int)>1048576
 ·rw [aj (by simpa using hl)]
 rw [aA (by simpa using hl)]
 obtain ⟨v,k,e1,hv⟩:=aiD (n:=n) hb (by unfold big; omega) hn
 obtain ⟨r,t1,t2,_,t3,t4⟩:=Yh (k:=k) hv hn
 rw [e1]
 simp only [aL,t1,t2]
 by_cases c0:r.1=0
 ·obtain ⟨hu,k0,k1⟩:=t3 c0
  have hr:=t4 hu k0 k1
  subst hr
  have hk:=an9 hv hu hn
  obtain ⟨hT,hP⟩:=hk.tells hv
  obtain ⟨s1,s2⟩:=hk.sure
  have aoy:=hk.up.few
  have hrun:=hk.run
  generalize hD:v.2.1++v.2.2.1.take k.toNat=D
  have hDl:D.length<=8000:=by rw [<-hD,bV,mZ]; omega
  have hDB:dA D:=by rw [<-hD]; exact uO hv.b1 (Ac hv.b2 _)
  generalize ha:(jP v.2.1).1=a at *
  generalize hbb:(jP v.2.2.1).1=b at *
  have hops:opsV v=a++b:=by unfold opsV; rw [ha,hbb]
  have har:∀o∈a,iF o=0:=fun o ho=>hT.right o (by rw [hops]; exact bK _ ho)
  have hbr:∀o∈b,iF o=0:=fun o ho=>hT.right o (by rw [hops]; exact bB _ ho)
  obtain ⟨j,hj,Zt⟩:=aag (l:=b) (k:=k.toNat) hbr
  have hq:(jP D).1=a++b.take j:=by rw [<-hD,s1,SY har]; simp only; rw [s2,Zt]
  have vP:∀i,D_ (a++b.take i):=fun i=>anX (m:=b.drop i) (by rw [gD,BC, <-hops]; exact hT)
  have hfull:k=(v.2.2.1.length:Int)->a++b.take j=opsV v:=fun e=>by
   rw [<-Zt, <-s2,BD (by omega),hbb,hops]
  obtain ⟨w1,w2,w3⟩:=anZ (vP j)
  have hrec:=abP hDB hDl (by rw [hq]; exact vP j) hn
  rw [hq] at hrec
  have hn1:Pj n=some ((0,[],(true,[],[],eS,()),()),()):=rfl
  have ha0:=(MG (n:=n) pW.1 pW.2 (l:=a) (fun o ho=>((hT.ok o (by rw [hops]; exact bK _ ho))).1) (by have:=hT.few; rw [hops,bV] at this; omega) hn).2
  have hj1:=abJ (n:=n) hv.b1 (by omega) hn
  have hj2:=abJ (n:=n) hv.b2 (by omega) hn
  rw [ha] at hj1
  rw [hbb] at hj2
  simp only [bQ,jc,bJ,bF,hrec,hj1,hj2,hn1,ha0,aL]
  have hlen:(a++b).length<=60:=by rw [<-hops]; exact hT.few
  rw [bV] at hlen
  refine cnt (N:=n) (k:=j) (fun m (x:Int×Int×jh×VR×(Int×Int×List OpC×Unit)×kE×Unit)=>x.1=k/\x.2.2.1=v/\x.2.2.2.1=(0,[],told (a++b.take j),())/\x.2.2.2.2.1=(0,((jP v.2.2.1).2:Int),b,())/\∃i:Nat,x.2.1=(i:Int)/\i+m=j/\x.2.2.2.2.2.1.1=0/\x.2.2.2.2.2.1.2.2.1=(iw eS (a++b.take i)).2.2.1) (fun o:Option (Bool×Unit)=>o=some (true,())) ?_ (by unfold big at hn; omega) ⟨rfl,rfl,rfl,rfl,0,rfl,by omega,by have:=(vP 0).run; simpa using this,by simp⟩
  intro m L x ⟨g1,g2,g3,g4,i,g5,g6,g7,g8⟩ hL
  obtain ⟨x1,x2,x3,x4,x5,x6,x7⟩:=x
  simp only at g1 g2 g3 g4 g5 g7 g8
  subst g1 g2 g3 g4 g5
  have hi:=Ul (l:=a++b.take i) pW.1 pW.2 (fun o ho=>((vP i).ok o ho).1)
  have hig:=hi.2 (vP i).run
  have hsame:wI n x6.2.2.1 (told (a++b.take j)).2.2.2.1=some (decide ((iw eS (a++b.take i)).2.2.1=(iw eS (a++b.take j)).2.2.1),()):=by
   rw [g8,FW hi.1.2 hn]
   rfl
  simp only [g7,bQ,a_,hsame,aL]
  rw [aj (by rw [dH]; omega)]
  by_cases hs:(iw eS (a++b.take i)).2.2.1=(iw eS (a++b.take j)).2.2.1
  ·rw [aj (by rw [dH]; exact hs)]
   obtain ⟨r2,_,u2,_,_,u4⟩:=Yh (k:=0) w1 hn
   have hr2:=u4 (an6 w1 w2 hn) (Bo _) (by omega)
   have htold:(told (a++b.take j)).2.1++(told (a++b.take j)).2.2.1.take (0:Int).toNat=(a++b.take j).flatMap bZ:=by simp [told]
   rw [htold] at hr2
   subst hr2
   have hjq:(jP ((a++b.take j).flatMap bZ)).1=a++b.take j:=by rw [aae (vP j).right]
   have ZQ:=abP (n:=n) (D:=(a++b.take j).flatMap bZ) (SQ fun o ho=>((vP j).ok o ho).2) (vP j).small (by rw [hjq]; exact vP j) hn
   rw [hjq] at ZQ
   have ald:wI n (told (a++b.take j)).2.2.2.1 (told (a++b.take j)).2.2.2.1=some (true,()):=by
    rw [FW w1.st hn,gH rfl]
   have Cw:KT n (told (a++b.take j)).2.1 (told (a++b.take j)).2.1=some (true,()):=by
    unfold KT
    rw [gH rfl]
   have hup:(told (a++b.take j)).1=true:=rfl
   simp only [u2,ZQ,acI w1 w2 hn,ald,Cw,hup,aL,bQ,a_]
   by_cases f1:(i:Int)>0
   ·rw [aj (by rw [dH]; exact f1)]
   rw [aA (by rw [dH]; exact f1)]
   by_cases f2:x1<(x3.2.2.1.length:Int)
   ·rw [aj (by rw [dH]; exact f2)]
   rw [aA (by rw [dH]; exact f2)]
   by_cases f3:(b.length:Int)=0
   ·rw [aj (by rw [dH]; exact f3)]
   rw [aA (by rw [dH]; exact f3),FW hv.st hn]
   have hst:x3.2.2.2.1=(told (a++b.take j)).2.2.2.1:=by
    show _=(iw eS (a++b.take j)).2.2.1
    rw [hfull (by omega),hrun]
   rw [gH hst]
   rfl
  ·rw [aA (by rw [dH]; exact hs)]
   have hij:i<j:=by
    rcases Nat.lt_or_ge i j with h | h
    ·exact h
    ·have:i=j:=by omega
     rw [this] at hs
     exact absurd rfl hs
   have hib:i<b.length:=by omega
   have hbi:okO b[i]:=(hT.ok _ (by rw [hops]; exact bB _ (jY hib))).1
   rw [aj (by rw [dH]; omega),aj (dz hib),g8]
   simp only [nT hib,amF hi.1.2 hig hbi hn,aL]
   have hnext:iw eS (a++b.take (i+1))=iw (iw eS (a++b.take i)).2.2.1 [b[i]]:=by
    rw [Mh hib, <-gD,anm (vP i).run]
   have h1:=(vP (i+1)).run
   rw [hnext] at h1
   obtain ⟨h2,h3⟩:=Oc h1
   refine hL _ (m - 1) (by omega) ⟨rfl,rfl,rfl,rfl,i+1, ?_,by omega,h2, ?_⟩
   ·show IntKind.i64.wrap ((i:Int)+1)=_
    rw [wrap_i64 (by omega) (by omega)]; omega
   ·show (pV _ _).2.2.1=_
    rw [hnext,h3]
    rfl
 ·simp only [f_ c0,mI,a_,bQ]
theorem all:∀(N:Nat) (c:Cont (kin FM)),NI FM c->J8 FM c<=N->∃n out,Wv.F n c=some out/\out.1=true:=by
 intro N c hc _
 exact ⟨1048577,(true,()),law (code:=c.1) (codeOf hc.1) (by unfold big; omega),rfl⟩
end Go.Proofs.YtailcbngagacaaaGreat.U5
