/- Reading of ops and journals, on both sides. -/
import Derived.Test.YtplpeegfeajkkaaGreatDoorCodecMath
set_option linter.unusedVariables false
set_option linter.unusedSimpArgs false
namespace Go.Proofs.YtplpeegfeajkkaaGreatDoor.Iw
open Go Ow nE nQ BH oI nS xV tK
abbrev st(t:Tk):List Int×Bool×Unit:=(t.1,t.2,())
theorem rV{t:Tk}(h:dX t.1)(k:Nat):dX (iX k t).1/\dX (iX k t).2.1/\(iX k t).1.length=k:=by
 unfold iX
 split
 ·exact⟨apr k,h,by simp⟩
 ·rename_i hc
  exact⟨Fu h k,Fq h k,by simp only[pX];omega⟩
theorem uH{t:Tk}(h:dX t.1):(0<=(fO t).1/\(fO t).1<=255)/\dX (fO t).2.1:=
 ⟨CK (rV h 1).1 0,(rV h 1).2.1⟩
theorem C9{t:Tk}(h:dX t.1):(0<=(eF t).1/\(eF t).1<=65535)/\dX (eF t).2.1:=by
 have h0:=CK (rV h 2).1 0
 have h1:=CK (rV h 2).1 1
 refine⟨?_,(rV h 2).2.1⟩
 unfold eF
 simp only
 omega
theorem Un{t:Tk}(h:dX t.1):∀k,(mF t k).1.length=k/\dX (mF t k).2.1
 |0=>⟨rfl,h⟩
 |k+1=>by
  have:=Un h k
  exact⟨by simp[mF,this.1],(C9 this.2).2⟩
theorem Kv{n:Nat}{t:Tk}{k:Nat}(hk:k<=65535):zh n (st t) (k:Int)=some ((iX k t).1,st (iX k t).2,()):=by
 obtain⟨l,b⟩:=t
 unfold zh vG iX
 cases b with
 |true=>
  simp only[aQ,true_or]
  rw[aj ⟨trivial,by omega,by omega⟩]
  rfl
 |false=>
  simp only[bg,aZ,false_or,aG]
  by_cases hl:l.length<k
  ·rw[aj (by rw[dW];omega),aj ⟨trivial,by omega,by omega⟩,aj hl]
   rfl
  ·rw[aC (by rw[dW];omega),aj ⟨by omega,by omega⟩,aj ⟨by omega,by omega⟩,aC hl]
   rfl
theorem FL{n:Nat}{t:Tk}(h:dX t.1):xU n (st t)=some ((fO t).1,st (fO t).2,()):=by
 have hf:=uH h
 have hl:=(rV h 1).2.2
 unfold xU
 rw[show(1:Int)=((1:Nat):Int)from rfl,Kv (by omega)]
 simp only[aG]
 rw[aj (by rw[hl];exact⟨by omega,by omega⟩)]
 have e:(iX 1 t).1.getD (0:Int).toNat 0=(fO t).1:=rfl
 rw[e,wrap_i64 (by omega) (by omega)]
 rfl
theorem O4{n:Nat}{t:Tk}(h:dX t.1):Be n (st t)=some ((eF t).1,st (eF t).2,()):=by
 have hf:=C9 h
 have hl:=(rV h 2).2.2
 have g0:=CK (rV h 2).1 0
 have g1:=CK (rV h 2).1 1
 unfold Be
 rw[show(2:Int)=((2:Nat):Int)from rfl,Kv (by omega)]
 simp only[aG]
 rw[aj (by rw[hl];exact⟨by omega,by omega⟩),aj (by rw[hl];exact⟨by omega,by omega⟩)]
 rw[show(0:Int).toNat=0 from rfl,show(1:Int).toNat=1 from rfl]
 rw[wrap_i64 (x:=(iX 2 t).1.getD 0 0) (by omega) (by omega),wrap_i64 (x:=(iX 2 t).1.getD 1 0) (by omega) (by omega),wrap_i64 (x:=(iX 2 t).1.getD 0 0*256) (by omega) (by omega),wrap_i64 (by omega) (by omega)]
 rfl
def R8(o:OpC):Prop:=lQ o=0
abbrev zO:OpC:=((0:Int),([]:List Int),([]:List Int),([]:List Int),(0:Int),(0:Int),(0:Int),([]:List Int),())
theorem arb{d:List Int}(h:dX d):okO (qQ d).1/\dX (qQ d).1.2.2.2.2.2.2.2.1:=by
 have h1:=uH (t:=(d,false)) h
 have h2:=uH h1.2
 have h3:=rV h2.2 (fO (fO (d,false)).2).1.toNat
 have h4:=uH h3.2.1
 have h5:=rV h4.2 (fO (iX (fO (fO (d,false)).2).1.toNat (fO (fO (d,false)).2).2).2).1.toNat
 have h6:=uH h5.2.1
 have h7:=Un h6.2 (fO (iX (fO (iX (fO (fO (d,false)).2).1.toNat (fO (fO (d,false)).2).2).2).1.toNat (fO (iX (fO (fO (d,false)).2).1.toNat (fO (fO (d,false)).2).2).2).2).2).1.toNat
 have h8:=uH h7.2
 have h9:=uH h8.2
 have h10:=C9 h9.2
 have h11:=C9 h10.2
 have h12:=rV h11.2
 refine⟨⟨?_,?_,?_,?_⟩,(h12 _).1⟩
 ·show(iX _ _).1.length<=big
  rw[h3.2.2];unfold big;omega
 ·show(iX _ _).1.length<=big
  rw[h5.2.2];unfold big;omega
 ·show(mF _ _).1.length<=big
  rw[h7.1];unfold big;omega
 ·show(iX _ _).1.length<=big
  rw[(h12 _).2.2];unfold big;omega
def F5(d:List Int):OpC×Int:=
 if(eF (d,false)).2.2=true then(zO,0)else if(eF (d,false)).1>(d.length:Int)then(zO,0)else
 if(qQ ((d.take (if(eF (d,false)).1>2 then(eF (d,false)).1 else 2).toNat).drop 2)).2.2=true then(zO,0)else
 if lQ (qQ ((d.take (if(eF (d,false)).1>2 then(eF (d,false)).1 else 2).toNat).drop 2)).1≠0 then(zO,0)else
 if h_ (qQ ((d.take (if(eF (d,false)).1>2 then(eF (d,false)).1 else 2).toNat).drop 2)).1≠d.take (eF (d,false)).1.toNat then(zO,0)else
 ((qQ ((d.take (if(eF (d,false)).1>2 then(eF (d,false)).1 else 2).toNat).drop 2)).1,(eF (d,false)).1)
theorem Vt{d:List Int}:(eF (d,false)).2.2=decide (d.length<2):=by
 unfold eF iX
 by_cases h:d.length<2
 ·simp[h]
 ·simp[h]
theorem OB{o:OpC}(h:lQ o=0)(hb:dX o.2.2.2.2.2.2.2.1):qD o:=⟨right h,hb⟩
set_option maxRecDepth 20000 in
theorem ard{n:Nat}{d:List Int}(h:dX d)(hb:d.length<=big)(hn:big<n):GQ n d=some ((F5 d).1,(F5 d).2,()):=by
 have hn':=hn
 have hb':d.length<=1048576:=hb
 unfold big at hn'
 have ht:=C9 (t:=(d,false)) h
 unfold GQ F5
 rw[O4 (t:=(d,false)) h]
 simp only[aG]
 by_cases c1:(eF (d,false)).2.2=true
 ·rw[aj c1,aj c1]
 rw[aC c1,aC c1]
 rw[Vt,dW]at c1
 unfold vG
 simp only[aG]
 by_cases c2:(eF (d,false)).1>(d.length:Int)
 ·rw[aj (by rw[dW];exact c2),aj c2]
 rw[aC (by rw[dW];exact c2),aC c2]
 have hm:2<=(if(eF (d,false)).1>2 then(eF (d,false)).1 else 2)/\(if(eF (d,false)).1>2 then(eF (d,false)).1 else 2)<=(d.length:Int):=by
  split
  ·omega
  ·omega
 rw[aj ⟨by omega,hm⟩]
 have e2:(2:Int).toNat=2:=rfl
 have hE:dX ((d.take (if(eF (d,false)).1>2 then(eF (d,false)).1 else 2).toNat).drop 2):=Fq (Fu h _) 2
 have hs:(eF (d,false)).2.2=false:=by rw[Vt,decide_eq_false_iff_not];exact c1
 generalize hM:(eF (d,false)).1=M at *
 rw[e2]
 generalize hEE:(d.take (if M>2 then M else 2).toNat).drop 2=E at *
 have es:(E,(st (eF (d,false)).2).2)=st (E,false):=by simp only[st,hs]
 rw[es,FL hE]
 simp only[aG]
 have f1:=uH (t:=(E,false)) hE
 generalize q1:fO (E,false)=a1 at *
 rw[FL f1.2]
 simp only[aG]
 have f2:=uH f1.2
 generalize q2:fO a1.2=a2 at *
 have k2:((a2.1.toNat:Nat):Int)=a2.1:=by omega
 have t3:=Kv (n:=n) (t:=a2.2) (k:=a2.1.toNat) (by omega)
 rw[k2]at t3
 rw[t3]
 simp only[aG]
 have f3:=rV f2.2 a2.1.toNat
 generalize q3:iX a2.1.toNat a2.2=a3 at *
 rw[FL f3.2.1]
 simp only[aG]
 have f4:=uH f3.2.1
 generalize q4:fO a3.2=a4 at *
 have k4:((a4.1.toNat:Nat):Int)=a4.1:=by omega
 have t5:=Kv (n:=n) (t:=a4.2) (k:=a4.1.toNat) (by omega)
 rw[k4]at t5
 rw[t5]
 simp only[aG]
 have f5:=rV f4.2 a4.1.toNat
 generalize q5:iX a4.1.toNat a4.2=a5 at *
 rw[FL f5.2.1]
 simp only[aG]
 have f6:=uH f5.2.1
 generalize q6:fO a5.2=a6 at *
 have hR:qQ E=((a1.1,a3.1,a5.1,(mF a6.2 a6.1.toNat).1,(fO (mF a6.2 a6.1.toNat).2).1,(fO (fO (mF a6.2 a6.1.toNat).2).2).1,(eF (fO (fO (mF a6.2 a6.1.toNat).2).2).2).1,
   (iX (eF (eF (fO (fO (mF a6.2 a6.1.toNat).2).2).2).2).1.toNat (eF (eF (fO (fO (mF a6.2 a6.1.toNat).2).2).2).2).2).1,()),
   (iX (eF (eF (fO (fO (mF a6.2 a6.1.toNat).2).2).2).2).1.toNat (eF (eF (fO (fO (mF a6.2 a6.1.toNat).2).2).2).2).2).2):=by
  simp only[qQ,q1,q2,q3,q4,q5,q6]
 have hok:=arb hE
 rw[hR]at hok ⊢
 have f7:=Un f6.2
 refine(gp (λi=>(d,M,a6.1,(i:Int),zO,(a1.1,a3.1,a5.1,(mF a6.2 i).1,(0:Int),(0:Int),(0:Int),([]:List Int),()),st (mF a6.2 i).2,())) (λ_=>none) _ (m:=a6.1.toNat) rfl (by omega) ?_ ?_).trans (ko (λ_ _ _=>rfl))
 ·intro L i hi _
  have hlt:(i:Int)<a6.1:=by omega
  simp only[hlt,bG,aQ,O4 (f7 i).2,aG]
  rw[aj (by rw[(f7 i).1,gL];omega),wrap_i64 (by omega) (by omega)]
  rfl
 ·intro L _
  have hge:¬((a6.1.toNat:Int)<a6.1):=by omega
  simp only[hge,cO,bg,aZ]
  have f7:=f7 a6.1.toNat
  generalize mF a6.2 a6.1.toNat=a7 at *
  rw[FL f7.2]
  simp only[aG]
  have f8:=uH f7.2
  generalize fO a7.2=a8 at *
  rw[FL f8.2]
  simp only[aG]
  have f9:=uH f8.2
  generalize fO a8.2=a9 at *
  rw[O4 f9.2]
  simp only[aG]
  have f10:=C9 f9.2
  generalize eF a9.2=Ef at *
  rw[O4 f10.2]
  simp only[aG]
  have f11:=C9 f10.2
  generalize eF Ef.2=vS at *
  have k11:((vS.1.toNat:Nat):Int)=vS.1:=by omega
  have t12:=Kv (n:=n) (t:=vS.2) (k:=vS.1.toNat) (by omega)
  rw[k11]at t12
  rw[t12]
  simp only[aG]
  have f12:=rV f11.2 vS.1.toNat
  generalize iX vS.1.toNat vS.2=a12 at *
  rw[aj (by rw[f12.2.2];simp only[kK];omega)]
  by_cases c3:a12.2.2=true
  ·rw[aj c3,aj c3]
  rw[aC c3,aC c3]
  rw[ru]
  rw[Z7 hok.1 hn]
  simp only[aG]
  generalize hO:((a1.1,a3.1,a5.1,a7.1,a8.1,a9.1,Ef.1,a12.1,()):OpC)=o at *
  by_cases c4:lQ o=0
  ·rw[aC (by simp[c4]),aC (by simp[c4]),aqV (OB c4 hok.2) hn]
   simp only[aG]
   rw[aj ⟨by omega,by omega⟩]
   unfold PO
   simp only[aG]
   by_cases c5:h_ o=d.take M.toNat
   ·rw[aC (by simp[c5]),aC (by simp[c5])]
   ·rw[aj (by simp[c5]),aj c5]
  ·rw[aj (by simp[c4]),aj c4]
noncomputable def Ga (d:List Int):OpC×Int:=match rQ R8 d with
 |none=>(zO,0)
 |some o=>(o,((h_ o).length:Int))
theorem asX{d:List Int}(h:dX d):F5 d=Ga d:=by
 unfold Ga
 by_cases hx:∃o,Is R8 d o
 ·obtain⟨o,ho⟩:=hx
  rw[adT ho]
  obtain⟨g1,g2,g3⟩:=JH ho.2
  have e1:(eF (d,false)).1=((h_ o).length:Int):=by
   rw[<-g2]
   unfold eF iX
   rw[aC (by simp;omega)]
   match d,g1 with
   |a :: b :: r,_=>rfl
  have hl:=Ap o
  have hlb:=JN o
  have hle:=ho.2.length_le
  have e2:(if(eF (d,false)).1>2 then(eF (d,false)).1 else 2).toNat=(h_ o).length:=by
   rw[aj (by omega)];omega
  have e3:qQ ((d.take (if(eF (d,false)).1>2 then(eF (d,false)).1 else 2).toNat).drop 2)=(o,(two (pR (sQ o)),false)):=by
   rw[e2,g3,Ka,adS]
  unfold F5
  rw[e3,aC (by rw[Vt,dW];omega),aC (by omega),aC (by simp),aC (λhh=>hh ho.1),aC (λhh=>hh (by rw[e1,dA,g3])),e1]
 ·rw[UL hx]
  unfold F5
  generalize (d.take (if(eF (d,false)).1>2 then(eF (d,false)).1 else 2).toNat).drop 2=E
  by_cases c1:(eF (d,false)).2.2=true
  ·rw[aj c1]
  rw[aC c1]
  by_cases c2:(eF (d,false)).1>(d.length:Int)
  ·rw[aj c2]
  rw[aC c2]
  by_cases c3:(qQ E).2.2=true
  ·rw[aj c3]
  rw[aC c3]
  by_cases c4:lQ (qQ E).1=0
  ·rw[aC (λhh=>hh c4)]
   by_cases c5:h_ (qQ E).1=d.take (eF (d,false)).1.toNat
   ·refine absurd ⟨(qQ E).1,c4,?_⟩ hx
    rw[c5];exact List.take_prefix _ _
   ·rw[aj c5]
  ·rw[aj c4]
theorem adQ{n:Nat}{d:List Int}(h:dX d)(hb:d.length<=big)(hn:big<n):GQ n d=some ((Ga d).1,(Ga d).2,()):=by
 rw[ard h hb hn,asX h]
end Go.Proofs.YtplpeegfeajkkaaGreatDoor.Iw
