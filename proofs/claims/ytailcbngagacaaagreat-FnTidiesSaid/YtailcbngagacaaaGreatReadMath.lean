/- Reading of ops and journals, on both sides. -/
import Derived.Test.YtailcbngagacaaaGreatCodecMath
set_option linter.unusedVariables false
set_option linter.unusedSimpArgs false
namespace Go.Proofs.YtailcbngagacaaaGreat.yM
open Go Ow JO kF qc iw gU tK kK
abbrev st (t:Tk):List Int×Bool×Unit:=(t.1,t.2,())
theorem gF {t:Tk} (h:pR t.1) (k:Nat):pR (iH k t).1/\pR (iH k t).2.1/\(iH k t).1.length=k:=by
 unfold iH
 split
 ·exact ⟨Ms k,h,by simp⟩
 ·rename_i hc
  exact ⟨vH h k,xu h k,by simp only [aoX]; omega⟩
theorem jT {t:Tk} (h:pR t.1):(0<=(jr t).1/\(jr t).1<=255)/\pR (jr t).2.1:=
 ⟨vG (gF h 1).1 0,(gF h 1).2.1⟩
theorem sF {t:Tk} (h:pR t.1):(0<=(iq t).1/\(iq t).1<=65535)/\pR (iq t).2.1:=by
 have h0:=vG (gF h 2).1 0
 have h1:=vG (gF h 2).1 1
 refine ⟨?_,(gF h 2).2.1⟩
 unfold iq
 simp only
 omega
theorem AQ {t:Tk} (h:pR t.1):∀k,(oF t k).1.length=k/\pR (oF t k).2.1
 | 0=>⟨rfl,h⟩
 | k+1=>by
  have:=AQ h k
  exact ⟨by simp [oF,this.1],(sF this.2).2⟩
theorem xE {n:Nat} {t:Tk} {k:Nat} (hk:k<=65535):fJ n (st t) (k:Int)=some ((iH k t).1,st (iH k t).2,()):=by
 obtain ⟨l,b⟩:=t
 unfold fJ dA iH
 cases b with
 | true=>
  simp only [aof,true_or]
  rw [aoi ⟨trivial,by omega,by omega⟩]
  rfl
 | false=>
  simp only [anh,aog,false_or,anf]
  by_cases hl:l.length<k
  ·rw [aoi (by rw [ao1]; omega),aoi ⟨trivial,by omega,by omega⟩,aoi hl]
   rfl
  ·rw [aok (by rw [ao1]; omega),aoi ⟨by omega,by omega⟩,aoi ⟨by omega,by omega⟩,aok hl]
   rfl
theorem xy {n:Nat} {t:Tk} (h:pR t.1):fH n (st t)=some ((jr t).1,st (jr t).2,()):=by
 have hf:=jT h
 have hl:=(gF h 1).2.2
 unfold fH
 rw [show (1:Int)=((1:Nat):Int) from rfl,xE (by omega)]
 simp only [anf]
 rw [aoi (by rw [hl]; exact ⟨by omega,by omega⟩)]
 have e:(iH 1 t).1.getD (0:Int).toNat 0=(jr t).1:=rfl
 rw [e,wrap_i64 (by omega) (by omega)]
 rfl
theorem zX {n:Nat} {t:Tk} (h:pR t.1):iI n (st t)=some ((iq t).1,st (iq t).2,()):=by
 have hf:=sF h
 have hl:=(gF h 2).2.2
 have g0:=vG (gF h 2).1 0
 have g1:=vG (gF h 2).1 1
 unfold iI
 rw [show (2:Int)=((2:Nat):Int) from rfl,xE (by omega)]
 simp only [anf]
 rw [aoi (by rw [hl]; exact ⟨by omega,by omega⟩),aoi (by rw [hl]; exact ⟨by omega,by omega⟩)]
 rw [show (0:Int).toNat=0 from rfl,show (1:Int).toNat=1 from rfl]
 rw [wrap_i64 (x:=(iH 2 t).1.getD 0 0) (by omega) (by omega),wrap_i64 (x:=(iH 2 t).1.getD 1 0) (by omega) (by omega),wrap_i64 (x:=(iH 2 t).1.getD 0 0 * 256) (by omega) (by omega),wrap_i64 (by omega) (by omega)]
 rfl
def R8 (o:OpC):Prop:=dW o=0
abbrev zO:OpC:=((0:Int),([]:List Int),([]:List Int),([]:List Int),(0:Int),(0:Int),(0:Int),([]:List Int),())
theorem Wn {d:List Int} (h:pR d):okO (uD d).1/\pR (uD d).1.2.2.2.2.2.2.2.1:=by
 have h1:=jT (t:=(d,false)) h
 have h2:=jT h1.2
 have h3:=gF h2.2 (jr (jr (d,false)).2).1.toNat
 have h4:=jT h3.2.1
 have h5:=gF h4.2 (jr (iH (jr (jr (d,false)).2).1.toNat (jr (jr (d,false)).2).2).2).1.toNat
 have h6:=jT h5.2.1
 have h7:=AQ h6.2 (jr (iH (jr (iH (jr (jr (d,false)).2).1.toNat (jr (jr (d,false)).2).2).2).1.toNat (jr (iH (jr (jr (d,false)).2).1.toNat (jr (jr (d,false)).2).2).2).2).2).1.toNat
 have h8:=jT h7.2
 have h9:=jT h8.2
 have h10:=sF h9.2
 have h11:=sF h10.2
 have h12:=gF h11.2
 refine ⟨⟨?_, ?_, ?_, ?_⟩,(h12 _).1⟩
 ·show (iH _ _).1.length<=big
  rw [h3.2.2]; unfold big; omega
 ·show (iH _ _).1.length<=big
  rw [h5.2.2]; unfold big; omega
 ·show (oF _ _).1.length<=big
  rw [h7.1]; unfold big; omega
 ·show (iH _ _).1.length<=big
  rw [(h12 _).2.2]; unfold big; omega
def Du (d:List Int):OpC×Int:=
 if (iq (d,false)).2.2=true then (zO,0) else if (iq (d,false)).1>(d.length:Int) then (zO,0) else
 if (uD ((d.take (if (iq (d,false)).1>2 then (iq (d,false)).1 else 2).toNat).drop 2)).2.2=true then (zO,0) else
 if dW (uD ((d.take (if (iq (d,false)).1>2 then (iq (d,false)).1 else 2).toNat).drop 2)).1≠0 then (zO,0) else
 if bK (uD ((d.take (if (iq (d,false)).1>2 then (iq (d,false)).1 else 2).toNat).drop 2)).1≠d.take (iq (d,false)).1.toNat then (zO,0) else
 ((uD ((d.take (if (iq (d,false)).1>2 then (iq (d,false)).1 else 2).toNat).drop 2)).1,(iq (d,false)).1)
theorem Hr {d:List Int}:(iq (d,false)).2.2=decide (d.length<2):=by
 unfold iq iH
 by_cases h:d.length<2
 ·simp [h]
 ·simp [h]
theorem Yh {o:OpC} (h:dW o=0) (hb:pR o.2.2.2.2.2.2.2.1):ES o:=⟨right h,hb⟩
set_option maxRecDepth 20000 in
theorem KL {n:Nat} {d:List Int} (h:pR d) (hb:d.length<=big) (hn:big<n):pJ n d=some ((Du d).1,(Du d).2,()):=by
 have hn':=hn
 have hb':d.length<=1048576:=hb
 unfold big at hn'
 have ht:=sF (t:=(d,false)) h
 unfold pJ Du
 rw [zX (t:=(d,false)) h]
 simp only [anf]
 by_cases c1:(iq (d,false)).2.2=true
 ·rw [aoi c1,aoi c1]
 rw [aok c1,aok c1]
 rw [Hr,ao1] at c1
 unfold dA
 simp only [anf]
 by_cases c2:(iq (d,false)).1>(d.length:Int)
 ·rw [aoi (by rw [ao1]; exact c2),aoi c2]
 rw [aok (by rw [ao1]; exact c2),aok c2]
 have hm:2<=(if (iq (d,false)).1>2 then (iq (d,false)).1 else 2)/\(if (iq (d,false)).1>2 then (iq (d,false)).1 else 2)<=(d.length:Int):=by
  split
  ·omega
  ·omega
 rw [aoi ⟨by omega,hm⟩]
 have e2:(2:Int).toNat=2:=rfl
 have hE:pR ((d.take (if (iq (d,false)).1>2 then (iq (d,false)).1 else 2).toNat).drop 2):=xu (vH h _) 2
 have hs:(iq (d,false)).2.2=false:=by rw [Hr,decide_eq_false_iff_not]; exact c1
 generalize hM:(iq (d,false)).1=M at *
 rw [e2]
 generalize hEE:(d.take (if M>2 then M else 2).toNat).drop 2=E at *
 have es:(E,(st (iq (d,false)).2).2)=st (E,false):=by simp only [st,hs]
 rw [es,xy hE]
 simp only [anf]
 have f1:=jT (t:=(E,false)) hE
 generalize q1:jr (E,false)=a1 at *
 rw [xy f1.2]
 simp only [anf]
 have f2:=jT f1.2
 generalize q2:jr a1.2=a2 at *
 have k2:((a2.1.toNat:Nat):Int)=a2.1:=by omega
 have t3:=xE (n:=n) (t:=a2.2) (k:=a2.1.toNat) (by omega)
 rw [k2] at t3
 rw [t3]
 simp only [anf]
 have f3:=gF f2.2 a2.1.toNat
 generalize q3:iH a2.1.toNat a2.2=a3 at *
 rw [xy f3.2.1]
 simp only [anf]
 have f4:=jT f3.2.1
 generalize q4:jr a3.2=a4 at *
 have k4:((a4.1.toNat:Nat):Int)=a4.1:=by omega
 have t5:=xE (n:=n) (t:=a4.2) (k:=a4.1.toNat) (by omega)
 rw [k4] at t5
 rw [t5]
 simp only [anf]
 have f5:=gF f4.2 a4.1.toNat
 generalize q5:iH a4.1.toNat a4.2=a5 at *
 rw [xy f5.2.1]
 simp only [anf]
 have f6:=jT f5.2.1
 generalize q6:jr a5.2=a6 at *
 have hR:uD E=((a1.1,a3.1,a5.1,(oF a6.2 a6.1.toNat).1,(jr (oF a6.2 a6.1.toNat).2).1,(jr (jr (oF a6.2 a6.1.toNat).2).2).1,(iq (jr (jr (oF a6.2 a6.1.toNat).2).2).2).1,
   (iH (iq (iq (jr (jr (oF a6.2 a6.1.toNat).2).2).2).2).1.toNat (iq (iq (jr (jr (oF a6.2 a6.1.toNat).2).2).2).2).2).1,()),
   (iH (iq (iq (jr (jr (oF a6.2 a6.1.toNat).2).2).2).2).1.toNat (iq (iq (jr (jr (oF a6.2 a6.1.toNat).2).2).2).2).2).2):=by
  simp only [uD,q1,q2,q3,q4,q5,q6]
 have hok:=Wn hE
 rw [hR] at hok ⊢
 have f7:=AQ f6.2
 refine (aT (fun i=>(d,M,a6.1,(i:Int),zO,(a1.1,a3.1,a5.1,(oF a6.2 i).1,(0:Int),(0:Int),(0:Int),([]:List Int),()),st (oF a6.2 i).2,())) (fun _=>none) _ (m:=a6.1.toNat) rfl (by omega) ?_ ?_).trans (dn (fun _ _ _=>rfl))
 ·intro L i hi _
  have hlt:(i:Int)<a6.1:=by omega
  simp only [hlt,aox,aof,zX (f7 i).2,anf]
  rw [aoi (by rw [(f7 i).1,anA]; omega),wrap_i64 (by omega) (by omega)]
  rfl
 ·intro L _
  have hge:¬((a6.1.toNat:Int)<a6.1):=by omega
  simp only [hge,apd,anh,aog]
  have f7:=f7 a6.1.toNat
  generalize oF a6.2 a6.1.toNat=a7 at *
  rw [xy f7.2]
  simp only [anf]
  have f8:=jT f7.2
  generalize jr a7.2=a8 at *
  rw [xy f8.2]
  simp only [anf]
  have f9:=jT f8.2
  generalize jr a8.2=a9 at *
  rw [zX f9.2]
  simp only [anf]
  have f10:=sF f9.2
  generalize iq a9.2=a10 at *
  rw [zX f10.2]
  simp only [anf]
  have f11:=sF f10.2
  generalize iq a10.2=Uo at *
  have k11:((Uo.1.toNat:Nat):Int)=Uo.1:=by omega
  have t12:=xE (n:=n) (t:=Uo.2) (k:=Uo.1.toNat) (by omega)
  rw [k11] at t12
  rw [t12]
  simp only [anf]
  have f12:=gF f11.2 Uo.1.toNat
  generalize iH Uo.1.toNat Uo.2=a12 at *
  rw [aoi (by rw [f12.2.2]; simp only [ao6]; omega)]
  by_cases c3:a12.2.2=true
  ·rw [aoi c3,aoi c3]
  rw [aok c3,aok c3]
  rw [anX]
  rw [FZ hok.1 hn]
  simp only [anf]
  generalize hO:((a1.1,a3.1,a5.1,a7.1,a8.1,a9.1,a10.1,a12.1,()):OpC)=o at *
  by_cases c4:dW o=0
  ·rw [aok (by simp [c4]),aok (by simp [c4]),Jj (Yh c4 hok.2) hn]
   simp only [anf]
   rw [aoi ⟨by omega,by omega⟩]
   unfold wM
   simp only [anf]
   by_cases c5:bK o=d.take M.toNat
   ·rw [aok (by simp [c5]),aok (by simp [c5])]
   ·rw [aoi (by simp [c5]),aoi c5]
  ·rw [aoi (by simp [c4]),aoi c4]
noncomputable def JC (d:List Int):OpC×Int:=match uj R8 d with
 | none=>(zO,0)
 | some o=>(o,((bK o).length:Int))
theorem Pg {d:List Int} (h:pR d):Du d=JC d:=by
 unfold JC
 by_cases hx:∃o,Is R8 d o
 ·obtain ⟨o,ho⟩:=hx
  rw [Dk ho]
  obtain ⟨g1,g2,g3⟩:=CZ ho.2
  have e1:(iq (d,false)).1=((bK o).length:Int):=by
   rw [<-g2]
   unfold iq iH
   rw [aok (by simp; omega)]
   match d,g1 with
   | a :: b :: r,_=>rfl
  have hl:=oD o
  have hlb:=y9 o
  have hle:=ho.2.length_le
  have e2:(if (iq (d,false)).1>2 then (iq (d,false)).1 else 2).toNat=(bK o).length:=by
   rw [aoi (by omega)]; omega
  have e3:uD ((d.take (if (iq (d,false)).1>2 then (iq (d,false)).1 else 2).toNat).drop 2)=(o,(two (yJ (vD o)),false)):=by
   rw [e2,g3,xz,Jm]
  unfold Du
  rw [e3,aok (by rw [Hr,ao1]; omega),aok (by omega),aok (by simp),aok (fun hh=>hh ho.1),aok (fun hh=>hh (by rw [e1,ano,g3])),e1]
 ·rw [Dj hx]
  unfold Du
  generalize (d.take (if (iq (d,false)).1>2 then (iq (d,false)).1 else 2).toNat).drop 2=E
  by_cases c1:(iq (d,false)).2.2=true
  ·rw [aoi c1]
  rw [aok c1]
  by_cases c2:(iq (d,false)).1>(d.length:Int)
  ·rw [aoi c2]
  rw [aok c2]
  by_cases c3:(uD E).2.2=true
  ·rw [aoi c3]
  rw [aok c3]
  by_cases c4:dW (uD E).1=0
  ·rw [aok (fun hh=>hh c4)]
   by_cases c5:bK (uD E).1=d.take (iq (d,false)).1.toNat
   ·refine absurd ⟨(uD E).1,c4, ?_⟩ hx
    rw [c5]; exact List.take_prefix _ _
   ·rw [aoi c5]
  ·rw [aoi c4]
theorem Ed {n:Nat} {d:List Int} (h:pR d) (hb:d.length<=big) (hn:big<n):pJ n d=some ((JC d).1,(JC d).2,()):=by
 rw [KL h hb hn,Pg h]
end Go.Proofs.YtailcbngagacaaaGreat.yM
