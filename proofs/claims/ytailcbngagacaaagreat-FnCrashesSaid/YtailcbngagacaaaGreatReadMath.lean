/- Reading of ops and journals, on both sides. -/
import Derived.Test.YtailcbngagacaaaGreatCodecMath
set_option linter.unusedVariables false
set_option linter.unusedSimpArgs false
namespace Go.Proofs.YtailcbngagacaaaGreat.H_
open Go Ow nJ oh vB pO ng yZ uA
abbrev st (t:Tk):List Int×Bool×Unit:=(t.1,t.2,())
theorem rJ {t:Tk} (h:dA t.1) (k:Nat):dA (iZ k t).1/\dA (iZ k t).2.1/\(iZ k t).1.length=k:=by
 unfold iZ
 split
 ·exact ⟨Z9 k,h,by simp⟩
 ·rename_i hc
  exact ⟨Ac h k,Fh h k,by simp only [mZ]; omega⟩
theorem uq {t:Tk} (h:dA t.1):(0<=(fH t).1/\(fH t).1<=255)/\dA (fH t).2.1:=
 ⟨CO (rJ h 1).1 0,(rJ h 1).2.1⟩
theorem Dh {t:Tk} (h:dA t.1):(0<=(dW t).1/\(dW t).1<=65535)/\dA (dW t).2.1:=by
 have h0:=CO (rJ h 2).1 0
 have h1:=CO (rJ h 2).1 1
 refine ⟨?_,(rJ h 2).2.1⟩
 unfold dW
 simp only
 omega
theorem Tu {t:Tk} (h:dA t.1):∀k,(mq t k).1.length=k/\dA (mq t k).2.1
 | 0=>⟨rfl,h⟩
 | k+1=>by
  have:=Tu h k
  exact ⟨by simp [mq,this.1],(Dh this.2).2⟩
theorem J_ {n:Nat} {t:Tk} {k:Nat} (hk:k<=65535):yR n (st t) (k:Int)=some ((iZ k t).1,st (iZ k t).2,()):=by
 obtain ⟨l,b⟩:=t
 unfold yR sQ iZ
 cases b with
 | true=>
  simp only [a_,true_or]
  rw [aj ⟨trivial,by omega,by omega⟩]
  rfl
 | false=>
  simp only [bJ,bF,false_or,aL]
  by_cases hl:l.length<k
  ·rw [aj (by rw [dH]; omega),aj ⟨trivial,by omega,by omega⟩,aj hl]
   rfl
  ·rw [aA (by rw [dH]; omega),aj ⟨by omega,by omega⟩,aj ⟨by omega,by omega⟩,aA hl]
   rfl
theorem FH {n:Nat} {t:Tk} (h:dA t.1):xL n (st t)=some ((fH t).1,st (fH t).2,()):=by
 have hf:=uq h
 have hl:=(rJ h 1).2.2
 unfold xL
 rw [show (1:Int)=((1:Nat):Int) from rfl,J_ (by omega)]
 simp only [aL]
 rw [aj (by rw [hl]; exact ⟨by omega,by omega⟩)]
 have e:(iZ 1 t).1.getD (0:Int).toNat 0=(fH t).1:=rfl
 rw [e,wrap_i64 (by omega) (by omega)]
 rfl
theorem Oq {n:Nat} {t:Tk} (h:dA t.1):AZ n (st t)=some ((dW t).1,st (dW t).2,()):=by
 have hf:=Dh h
 have hl:=(rJ h 2).2.2
 have g0:=CO (rJ h 2).1 0
 have g1:=CO (rJ h 2).1 1
 unfold AZ
 rw [show (2:Int)=((2:Nat):Int) from rfl,J_ (by omega)]
 simp only [aL]
 rw [aj (by rw [hl]; exact ⟨by omega,by omega⟩),aj (by rw [hl]; exact ⟨by omega,by omega⟩)]
 rw [show (0:Int).toNat=0 from rfl,show (1:Int).toNat=1 from rfl]
 rw [wrap_i64 (x:=(iZ 2 t).1.getD 0 0) (by omega) (by omega),wrap_i64 (x:=(iZ 2 t).1.getD 1 0) (by omega) (by omega),wrap_i64 (x:=(iZ 2 t).1.getD 0 0 * 256) (by omega) (by omega),wrap_i64 (by omega) (by omega)]
 rfl
def R8 (o:OpC):Prop:=iF o=0
abbrev zO:OpC:=((0:Int),([]:List Int),([]:List Int),([]:List Int),(0:Int),(0:Int),(0:Int),([]:List Int),())
theorem am2 {d:List Int} (h:dA d):okO (qI d).1/\dA (qI d).1.2.2.2.2.2.2.2.1:=by
 have h1:=uq (t:=(d,false)) h
 have h2:=uq h1.2
 have h3:=rJ h2.2 (fH (fH (d,false)).2).1.toNat
 have h4:=uq h3.2.1
 have h5:=rJ h4.2 (fH (iZ (fH (fH (d,false)).2).1.toNat (fH (fH (d,false)).2).2).2).1.toNat
 have h6:=uq h5.2.1
 have h7:=Tu h6.2 (fH (iZ (fH (iZ (fH (fH (d,false)).2).1.toNat (fH (fH (d,false)).2).2).2).1.toNat (fH (iZ (fH (fH (d,false)).2).1.toNat (fH (fH (d,false)).2).2).2).2).2).1.toNat
 have h8:=uq h7.2
 have h9:=uq h8.2
 have h10:=Dh h9.2
 have h11:=Dh h10.2
 have h12:=rJ h11.2
 refine ⟨⟨?_, ?_, ?_, ?_⟩,(h12 _).1⟩
 ·show (iZ _ _).1.length<=big
  rw [h3.2.2]; unfold big; omega
 ·show (iZ _ _).1.length<=big
  rw [h5.2.2]; unfold big; omega
 ·show (mq _ _).1.length<=big
  rw [h7.1]; unfold big; omega
 ·show (iZ _ _).1.length<=big
  rw [(h12 _).2.2]; unfold big; omega
def FZ (d:List Int):OpC×Int:=
 if (dW (d,false)).2.2=true then (zO,0) else if (dW (d,false)).1>(d.length:Int) then (zO,0) else
 if (qI ((d.take (if (dW (d,false)).1>2 then (dW (d,false)).1 else 2).toNat).drop 2)).2.2=true then (zO,0) else
 if iF (qI ((d.take (if (dW (d,false)).1>2 then (dW (d,false)).1 else 2).toNat).drop 2)).1≠0 then (zO,0) else
 if bZ (qI ((d.take (if (dW (d,false)).1>2 then (dW (d,false)).1 else 2).toNat).drop 2)).1≠d.take (dW (d,false)).1.toNat then (zO,0) else
 ((qI ((d.take (if (dW (d,false)).1>2 then (dW (d,false)).1 else 2).toNat).drop 2)).1,(dW (d,false)).1)
theorem UN {d:List Int}:(dW (d,false)).2.2=decide (d.length<2):=by
 unfold dW iZ
 by_cases h:d.length<2
 ·simp [h]
 ·simp [h]
theorem NR {o:OpC} (h:iF o=0) (hb:dA o.2.2.2.2.2.2.2.1):oo o:=⟨right h,hb⟩
set_option maxRecDepth 20000 in
theorem am4 {n:Nat} {d:List Int} (h:dA d) (hb:d.length<=big) (hn:big<n):GK n d=some ((FZ d).1,(FZ d).2,()):=by
 have hn':=hn
 have hb':d.length<=1048576:=hb
 unfold big at hn'
 have ht:=Dh (t:=(d,false)) h
 unfold GK FZ
 rw [Oq (t:=(d,false)) h]
 simp only [aL]
 by_cases c1:(dW (d,false)).2.2=true
 ·rw [aj c1,aj c1]
 rw [aA c1,aA c1]
 rw [UN,dH] at c1
 unfold sQ
 simp only [aL]
 by_cases c2:(dW (d,false)).1>(d.length:Int)
 ·rw [aj (by rw [dH]; exact c2),aj c2]
 rw [aA (by rw [dH]; exact c2),aA c2]
 have hm:2<=(if (dW (d,false)).1>2 then (dW (d,false)).1 else 2)/\(if (dW (d,false)).1>2 then (dW (d,false)).1 else 2)<=(d.length:Int):=by
  split
  ·omega
  ·omega
 rw [aj ⟨by omega,hm⟩]
 have e2:(2:Int).toNat=2:=rfl
 have hE:dA ((d.take (if (dW (d,false)).1>2 then (dW (d,false)).1 else 2).toNat).drop 2):=Fh (Ac h _) 2
 have hs:(dW (d,false)).2.2=false:=by rw [UN,decide_eq_false_iff_not]; exact c1
 generalize hM:(dW (d,false)).1=M at *
 rw [e2]
 generalize hEE:(d.take (if M>2 then M else 2).toNat).drop 2=E at *
 have es:(E,(st (dW (d,false)).2).2)=st (E,false):=by simp only [st,hs]
 rw [es,FH hE]
 simp only [aL]
 have f1:=uq (t:=(E,false)) hE
 generalize q1:fH (E,false)=a1 at *
 rw [FH f1.2]
 simp only [aL]
 have f2:=uq f1.2
 generalize q2:fH a1.2=a2 at *
 have k2:((a2.1.toNat:Nat):Int)=a2.1:=by omega
 have t3:=J_ (n:=n) (t:=a2.2) (k:=a2.1.toNat) (by omega)
 rw [k2] at t3
 rw [t3]
 simp only [aL]
 have f3:=rJ f2.2 a2.1.toNat
 generalize q3:iZ a2.1.toNat a2.2=a3 at *
 rw [FH f3.2.1]
 simp only [aL]
 have f4:=uq f3.2.1
 generalize q4:fH a3.2=a4 at *
 have k4:((a4.1.toNat:Nat):Int)=a4.1:=by omega
 have t5:=J_ (n:=n) (t:=a4.2) (k:=a4.1.toNat) (by omega)
 rw [k4] at t5
 rw [t5]
 simp only [aL]
 have f5:=rJ f4.2 a4.1.toNat
 generalize q5:iZ a4.1.toNat a4.2=a5 at *
 rw [FH f5.2.1]
 simp only [aL]
 have f6:=uq f5.2.1
 generalize q6:fH a5.2=a6 at *
 have hR:qI E=((a1.1,a3.1,a5.1,(mq a6.2 a6.1.toNat).1,(fH (mq a6.2 a6.1.toNat).2).1,(fH (fH (mq a6.2 a6.1.toNat).2).2).1,(dW (fH (fH (mq a6.2 a6.1.toNat).2).2).2).1,
   (iZ (dW (dW (fH (fH (mq a6.2 a6.1.toNat).2).2).2).2).1.toNat (dW (dW (fH (fH (mq a6.2 a6.1.toNat).2).2).2).2).2).1,()),
   (iZ (dW (dW (fH (fH (mq a6.2 a6.1.toNat).2).2).2).2).1.toNat (dW (dW (fH (fH (mq a6.2 a6.1.toNat).2).2).2).2).2).2):=by
  simp only [qI,q1,q2,q3,q4,q5,q6]
 have hok:=am2 hE
 rw [hR] at hok ⊢
 have f7:=Tu f6.2
 refine (iA (fun i=>(d,M,a6.1,(i:Int),zO,(a1.1,a3.1,a5.1,(mq a6.2 i).1,(0:Int),(0:Int),(0:Int),([]:List Int),()),st (mq a6.2 i).2,())) (fun _=>none) _ (m:=a6.1.toNat) rfl (by omega) ?_ ?_).trans (mQ (fun _ _ _=>rfl))
 ·intro L i hi _
  have hlt:(i:Int)<a6.1:=by omega
  simp only [hlt,bQ,a_,Oq (f7 i).2,aL]
  rw [aj (by rw [(f7 i).1,jN]; omega),wrap_i64 (by omega) (by omega)]
  rfl
 ·intro L _
  have hge:¬((a6.1.toNat:Int)<a6.1):=by omega
  simp only [hge,d_,bJ,bF]
  have f7:=f7 a6.1.toNat
  generalize mq a6.2 a6.1.toNat=a7 at *
  rw [FH f7.2]
  simp only [aL]
  have f8:=uq f7.2
  generalize fH a7.2=a8 at *
  rw [FH f8.2]
  simp only [aL]
  have f9:=uq f8.2
  generalize fH a8.2=a9 at *
  rw [Oq f9.2]
  simp only [aL]
  have f10:=Dh f9.2
  generalize dW a9.2=Ef at *
  rw [Oq f10.2]
  simp only [aL]
  have f11:=Dh f10.2
  generalize dW Ef.2=vI at *
  have k11:((vI.1.toNat:Nat):Int)=vI.1:=by omega
  have t12:=J_ (n:=n) (t:=vI.2) (k:=vI.1.toNat) (by omega)
  rw [k11] at t12
  rw [t12]
  simp only [aL]
  have f12:=rJ f11.2 vI.1.toNat
  generalize iZ vI.1.toNat vI.2=a12 at *
  rw [aj (by rw [f12.2.2]; simp only [mY]; omega)]
  by_cases c3:a12.2.2=true
  ·rw [aj c3,aj c3]
  rw [aA c3,aA c3]
  rw [rR]
  rw [Yz hok.1 hn]
  simp only [aL]
  generalize hO:((a1.1,a3.1,a5.1,a7.1,a8.1,a9.1,Ef.1,a12.1,()):OpC)=o at *
  by_cases c4:iF o=0
  ·rw [aA (by simp [c4]),aA (by simp [c4]),amL (NR c4 hok.2) hn]
   simp only [aL]
   rw [aj ⟨by omega,by omega⟩]
   unfold Ph
   simp only [aL]
   by_cases c5:bZ o=d.take M.toNat
   ·rw [aA (by simp [c5]),aA (by simp [c5])]
   ·rw [aj (by simp [c5]),aj c5]
  ·rw [aj (by simp [c4]),aj c4]
noncomputable def F6 (d:List Int):OpC×Int:=match qi R8 d with
 | none=>(zO,0)
 | some o=>(o,((bZ o).length:Int))
theorem anN {d:List Int} (h:dA d):FZ d=F6 d:=by
 unfold F6
 by_cases hx:∃o,Is R8 d o
 ·obtain ⟨o,ho⟩:=hx
  rw [Ua ho]
  obtain ⟨g1,g2,g3⟩:=Fj ho.2
  have e1:(dW (d,false)).1=((bZ o).length:Int):=by
   rw [<-g2]
   unfold dW iZ
   rw [aA (by simp; omega)]
   match d,g1 with
   | a :: b :: r,_=>rfl
  have hl:=xw o
  have hlb:=Jp o
  have hle:=ho.2.length_le
  have e2:(if (dW (d,false)).1>2 then (dW (d,false)).1 else 2).toNat=(bZ o).length:=by
   rw [aj (by omega)]; omega
  have e3:qI ((d.take (if (dW (d,false)).1>2 then (dW (d,false)).1 else 2).toNat).drop 2)=(o,(two (pE (qZ o)),false)):=by
   rw [e2,g3,JH,abM]
  unfold FZ
  rw [e3,aA (by rw [UN,dH]; omega),aA (by omega),aA (by simp),aA (fun hh=>hh ho.1),aA (fun hh=>hh (by rw [e1,eD,g3])),e1]
 ·rw [NZ hx]
  unfold FZ
  generalize (d.take (if (dW (d,false)).1>2 then (dW (d,false)).1 else 2).toNat).drop 2=E
  by_cases c1:(dW (d,false)).2.2=true
  ·rw [aj c1]
  rw [aA c1]
  by_cases c2:(dW (d,false)).1>(d.length:Int)
  ·rw [aj c2]
  rw [aA c2]
  by_cases c3:(qI E).2.2=true
  ·rw [aj c3]
  rw [aA c3]
  by_cases c4:iF (qI E).1=0
  ·rw [aA (fun hh=>hh c4)]
   by_cases c5:bZ (qI E).1=d.take (dW (d,false)).1.toNat
   ·refine absurd ⟨(qI E).1,c4, ?_⟩ hx
    rw [c5]; exact List.take_prefix _ _
   ·rw [aj c5]
  ·rw [aj c4]
theorem abK {n:Nat} {d:List Int} (h:dA d) (hb:d.length<=big) (hn:big<n):GK n d=some ((F6 d).1,(F6 d).2,()):=by
 rw [am4 h hb hn,anN h]
end Go.Proofs.YtailcbngagacaaaGreat.H_
