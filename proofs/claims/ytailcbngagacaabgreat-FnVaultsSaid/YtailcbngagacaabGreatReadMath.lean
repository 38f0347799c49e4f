/- Reading of ops and journals, on both sides. -/
import Derived.Test.YtailcbngagacaabGreatCodecMath
set_option linter.unusedVariables false
set_option linter.unusedSimpArgs false
namespace Go.Proofs.YtailcbngagacaabGreat.H7
open Go Ow ni nM vo oQ mP xL uu
abbrev st (t:Tk):List Int×Bool×Unit:=(t.1,t.2,())
theorem rF {t:Tk} (h:dF t.1) (k:Nat):dF (iZ k t).1/\dF (iZ k t).2.1/\(iZ k t).1.length=k:=by
 unfold iZ
 split
 ·exact ⟨aad k,h,by simp⟩
 ·rename_i hc
  exact ⟨Cz h k,Fq h k,by simp only [pM]; omega⟩
theorem uh {t:Tk} (h:dF t.1):(0<=(fJ t).1/\(fJ t).1<=255)/\dF (fJ t).2.1:=
 ⟨Cy (rF h 1).1 0,(rF h 1).2.1⟩
theorem C8 {t:Tk} (h:dF t.1):(0<=(dX t).1/\(dX t).1<=65535)/\dF (dX t).2.1:=by
 have h0:=Cy (rF h 2).1 0
 have h1:=Cy (rF h 2).1 1
 refine ⟨?_,(rF h 2).2.1⟩
 unfold dX
 simp only
 omega
theorem TB {t:Tk} (h:dF t.1):∀k,(mF t k).1.length=k/\dF (mF t k).2.1
 | 0=>⟨rfl,h⟩
 | k+1=>by
  have:=TB h k
  exact ⟨by simp [mF,this.1],(C8 this.2).2⟩
theorem Ka {n:Nat} {t:Tk} {k:Nat} (hk:k<=65535):yQ n (st t) (k:Int)=some ((iZ k t).1,st (iZ k t).2,()):=by
 obtain ⟨l,b⟩:=t
 unfold yQ uX iZ
 cases b with
 | true=>
  simp only [a_,true_or]
  rw [ak ⟨trivial,by omega,by omega⟩]
  rfl
 | false=>
  simp only [bG,bE,false_or,aJ]
  by_cases hl:l.length<k
  ·rw [ak (by rw [dS]; omega),ak ⟨trivial,by omega,by omega⟩,ak hl]
   rfl
  ·rw [aA (by rw [dS]; omega),ak ⟨by omega,by omega⟩,ak ⟨by omega,by omega⟩,aA hl]
   rfl
theorem FK {n:Nat} {t:Tk} (h:dF t.1):xK n (st t)=some ((fJ t).1,st (fJ t).2,()):=by
 have hf:=uh h
 have hl:=(rF h 1).2.2
 unfold xK
 rw [show (1:Int)=((1:Nat):Int) from rfl,Ka (by omega)]
 simp only [aJ]
 rw [ak (by rw [hl]; exact ⟨by omega,by omega⟩)]
 have e:(iZ 1 t).1.getD (0:Int).toNat 0=(fJ t).1:=rfl
 rw [e,wrap_i64 (by omega) (by omega)]
 rfl
theorem Oh {n:Nat} {t:Tk} (h:dF t.1):AZ n (st t)=some ((dX t).1,st (dX t).2,()):=by
 have hf:=C8 h
 have hl:=(rF h 2).2.2
 have g0:=Cy (rF h 2).1 0
 have g1:=Cy (rF h 2).1 1
 unfold AZ
 rw [show (2:Int)=((2:Nat):Int) from rfl,Ka (by omega)]
 simp only [aJ]
 rw [ak (by rw [hl]; exact ⟨by omega,by omega⟩),ak (by rw [hl]; exact ⟨by omega,by omega⟩)]
 rw [show (0:Int).toNat=0 from rfl,show (1:Int).toNat=1 from rfl]
 rw [wrap_i64 (x:=(iZ 2 t).1.getD 0 0) (by omega) (by omega),wrap_i64 (x:=(iZ 2 t).1.getD 1 0) (by omega) (by omega),wrap_i64 (x:=(iZ 2 t).1.getD 0 0 * 256) (by omega) (by omega),wrap_i64 (by omega) (by omega)]
 rfl
def R8 (o:OpC):Prop:=iC o=0
abbrev zO:OpC:=((0:Int),([]:List Int),([]:List Int),([]:List Int),(0:Int),(0:Int),(0:Int),([]:List Int),())
theorem ang {d:List Int} (h:dF d):okO (qG d).1/\dF (qG d).1.2.2.2.2.2.2.2.1:=by
 have h1:=uh (t:=(d,false)) h
 have h2:=uh h1.2
 have h3:=rF h2.2 (fJ (fJ (d,false)).2).1.toNat
 have h4:=uh h3.2.1
 have h5:=rF h4.2 (fJ (iZ (fJ (fJ (d,false)).2).1.toNat (fJ (fJ (d,false)).2).2).2).1.toNat
 have h6:=uh h5.2.1
 have h7:=TB h6.2 (fJ (iZ (fJ (iZ (fJ (fJ (d,false)).2).1.toNat (fJ (fJ (d,false)).2).2).2).1.toNat (fJ (iZ (fJ (fJ (d,false)).2).1.toNat (fJ (fJ (d,false)).2).2).2).2).2).1.toNat
 have h8:=uh h7.2
 have h9:=uh h8.2
 have h10:=C8 h9.2
 have h11:=C8 h10.2
 have h12:=rF h11.2
 refine ⟨⟨?_, ?_, ?_, ?_⟩,(h12 _).1⟩
 ·show (iZ _ _).1.length<=big
  rw [h3.2.2]; unfold big; omega
 ·show (iZ _ _).1.length<=big
  rw [h5.2.2]; unfold big; omega
 ·show (mF _ _).1.length<=big
  rw [h7.1]; unfold big; omega
 ·show (iZ _ _).1.length<=big
  rw [(h12 _).2.2]; unfold big; omega
def F3 (d:List Int):OpC×Int:=
 if (dX (d,false)).2.2=true then (zO,0) else if (dX (d,false)).1>(d.length:Int) then (zO,0) else
 if (qG ((d.take (if (dX (d,false)).1>2 then (dX (d,false)).1 else 2).toNat).drop 2)).2.2=true then (zO,0) else
 if iC (qG ((d.take (if (dX (d,false)).1>2 then (dX (d,false)).1 else 2).toNat).drop 2)).1≠0 then (zO,0) else
 if bU (qG ((d.take (if (dX (d,false)).1>2 then (dX (d,false)).1 else 2).toNat).drop 2)).1≠d.take (dX (d,false)).1.toNat then (zO,0) else
 ((qG ((d.take (if (dX (d,false)).1>2 then (dX (d,false)).1 else 2).toNat).drop 2)).1,(dX (d,false)).1)
theorem UX {d:List Int}:(dX (d,false)).2.2=decide (d.length<2):=by
 unfold dX iZ
 by_cases h:d.length<2
 ·simp [h]
 ·simp [h]
theorem NM {o:OpC} (h:iC o=0) (hb:dF o.2.2.2.2.2.2.2.1):ng o:=⟨right h,hb⟩
set_option maxRecDepth 20000 in
theorem anj {n:Nat} {d:List Int} (h:dF d) (hb:d.length<=big) (hn:big<n):Gy n d=some ((F3 d).1,(F3 d).2,()):=by
 have hn':=hn
 have hb':d.length<=1048576:=hb
 unfold big at hn'
 have ht:=C8 (t:=(d,false)) h
 unfold Gy F3
 rw [Oh (t:=(d,false)) h]
 simp only [aJ]
 by_cases c1:(dX (d,false)).2.2=true
 ·rw [ak c1,ak c1]
 rw [aA c1,aA c1]
 rw [UX,dS] at c1
 unfold uX
 simp only [aJ]
 by_cases c2:(dX (d,false)).1>(d.length:Int)
 ·rw [ak (by rw [dS]; exact c2),ak c2]
 rw [aA (by rw [dS]; exact c2),aA c2]
 have hm:2<=(if (dX (d,false)).1>2 then (dX (d,false)).1 else 2)/\(if (dX (d,false)).1>2 then (dX (d,false)).1 else 2)<=(d.length:Int):=by
  split
  ·omega
  ·omega
 rw [ak ⟨by omega,hm⟩]
 have e2:(2:Int).toNat=2:=rfl
 have hE:dF ((d.take (if (dX (d,false)).1>2 then (dX (d,false)).1 else 2).toNat).drop 2):=Fq (Cz h _) 2
 have hs:(dX (d,false)).2.2=false:=by rw [UX,decide_eq_false_iff_not]; exact c1
 generalize hM:(dX (d,false)).1=M at *
 rw [e2]
 generalize hEE:(d.take (if M>2 then M else 2).toNat).drop 2=E at *
 have es:(E,(st (dX (d,false)).2).2)=st (E,false):=by simp only [st,hs]
 rw [es,FK hE]
 simp only [aJ]
 have f1:=uh (t:=(E,false)) hE
 generalize q1:fJ (E,false)=a1 at *
 rw [FK f1.2]
 simp only [aJ]
 have f2:=uh f1.2
 generalize q2:fJ a1.2=a2 at *
 have k2:((a2.1.toNat:Nat):Int)=a2.1:=by omega
 have t3:=Ka (n:=n) (t:=a2.2) (k:=a2.1.toNat) (by omega)
 rw [k2] at t3
 rw [t3]
 simp only [aJ]
 have f3:=rF f2.2 a2.1.toNat
 generalize q3:iZ a2.1.toNat a2.2=a3 at *
 rw [FK f3.2.1]
 simp only [aJ]
 have f4:=uh f3.2.1
 generalize q4:fJ a3.2=a4 at *
 have k4:((a4.1.toNat:Nat):Int)=a4.1:=by omega
 have t5:=Ka (n:=n) (t:=a4.2) (k:=a4.1.toNat) (by omega)
 rw [k4] at t5
 rw [t5]
 simp only [aJ]
 have f5:=rF f4.2 a4.1.toNat
 generalize q5:iZ a4.1.toNat a4.2=a5 at *
 rw [FK f5.2.1]
 simp only [aJ]
 have f6:=uh f5.2.1
 generalize q6:fJ a5.2=a6 at *
 have hR:qG E=((a1.1,a3.1,a5.1,(mF a6.2 a6.1.toNat).1,(fJ (mF a6.2 a6.1.toNat).2).1,(fJ (fJ (mF a6.2 a6.1.toNat).2).2).1,(dX (fJ (fJ (mF a6.2 a6.1.toNat).2).2).2).1,
   (iZ (dX (dX (fJ (fJ (mF a6.2 a6.1.toNat).2).2).2).2).1.toNat (dX (dX (fJ (fJ (mF a6.2 a6.1.toNat).2).2).2).2).2).1,()),
   (iZ (dX (dX (fJ (fJ (mF a6.2 a6.1.toNat).2).2).2).2).1.toNat (dX (dX (fJ (fJ (mF a6.2 a6.1.toNat).2).2).2).2).2).2):=by
  simp only [qG,q1,q2,q3,q4,q5,q6]
 have hok:=ang hE
 rw [hR] at hok ⊢
 have f7:=TB f6.2
 refine (iy (fun i=>(d,M,a6.1,(i:Int),zO,(a1.1,a3.1,a5.1,(mF a6.2 i).1,(0:Int),(0:Int),(0:Int),([]:List Int),()),st (mF a6.2 i).2,())) (fun _=>none) _ (m:=a6.1.toNat) rfl (by omega) ?_ ?_).trans (mh (fun _ _ _=>rfl))
 ·intro L i hi _
  have hlt:(i:Int)<a6.1:=by omega
  simp only [hlt,bL,a_,Oh (f7 i).2,aJ]
  rw [ak (by rw [(f7 i).1,jC]; omega),wrap_i64 (by omega) (by omega)]
  rfl
 ·intro L _
  have hge:¬((a6.1.toNat:Int)<a6.1):=by omega
  simp only [hge,eB,bG,bE]
  have f7:=f7 a6.1.toNat
  generalize mF a6.2 a6.1.toNat=a7 at *
  rw [FK f7.2]
  simp only [aJ]
  have f8:=uh f7.2
  generalize fJ a7.2=a8 at *
  rw [FK f8.2]
  simp only [aJ]
  have f9:=uh f8.2
  generalize fJ a8.2=a9 at *
  rw [Oh f9.2]
  simp only [aJ]
  have f10:=C8 f9.2
  generalize dX a9.2=Eh at *
  rw [Oh f10.2]
  simp only [aJ]
  have f11:=C8 f10.2
  generalize dX Eh.2=vI at *
  have k11:((vI.1.toNat:Nat):Int)=vI.1:=by omega
  have t12:=Ka (n:=n) (t:=vI.2) (k:=vI.1.toNat) (by omega)
  rw [k11] at t12
  rw [t12]
  simp only [aJ]
  have f12:=rF f11.2 vI.1.toNat
  generalize iZ vI.1.toNat vI.2=a12 at *
  rw [ak (by rw [f12.2.2]; simp only [mZ]; omega)]
  by_cases c3:a12.2.2=true
  ·rw [ak c3,ak c3]
  rw [aA c3,aA c3]
  rw [rO]
  rw [YF hok.1 hn]
  simp only [aJ]
  generalize hO:((a1.1,a3.1,a5.1,a7.1,a8.1,a9.1,Eh.1,a12.1,()):OpC)=o at *
  by_cases c4:iC o=0
  ·rw [aA (by simp [c4]),aA (by simp [c4]),aa7 (NM c4 hok.2) hn]
   simp only [aJ]
   rw [ak ⟨by omega,by omega⟩]
   unfold Pd
   simp only [aJ]
   by_cases c5:bU o=d.take M.toNat
   ·rw [aA (by simp [c5]),aA (by simp [c5])]
   ·rw [ak (by simp [c5]),ak c5]
  ·rw [ak (by simp [c4]),ak c4]
noncomputable def F7 (d:List Int):OpC×Int:=match qh R8 d with
 | none=>(zO,0)
 | some o=>(o,((bU o).length:Int))
theorem an2 {d:List Int} (h:dF d):F3 d=F7 d:=by
 unfold F7
 by_cases hx:∃o,Is R8 d o
 ·obtain ⟨o,ho⟩:=hx
  rw [Ui ho]
  obtain ⟨g1,g2,g3⟩:=Fu ho.2
  have e1:(dX (d,false)).1=((bU o).length:Int):=by
   rw [<-g2]
   unfold dX iZ
   rw [aA (by simp; omega)]
   match d,g1 with
   | a :: b :: r,_=>rfl
  have hl:=vV o
  have hlb:=Jn o
  have hle:=ho.2.length_le
  have e2:(if (dX (d,false)).1>2 then (dX (d,false)).1 else 2).toNat=(bU o).length:=by
   rw [ak (by omega)]; omega
  have e3:qG ((d.take (if (dX (d,false)).1>2 then (dX (d,false)).1 else 2).toNat).drop 2)=(o,(two (pE (qW o)),false)):=by
   rw [e2,g3,JF,abM]
  unfold F3
  rw [e3,aA (by rw [UX,dS]; omega),aA (by omega),aA (by simp),aA (fun hh=>hh ho.1),aA (fun hh=>hh (by rw [e1,eF,g3])),e1]
 ·rw [Uh hx]
  unfold F3
  generalize (d.take (if (dX (d,false)).1>2 then (dX (d,false)).1 else 2).toNat).drop 2=E
  by_cases c1:(dX (d,false)).2.2=true
  ·rw [ak c1]
  rw [aA c1]
  by_cases c2:(dX (d,false)).1>(d.length:Int)
  ·rw [ak c2]
  rw [aA c2]
  by_cases c3:(qG E).2.2=true
  ·rw [ak c3]
  rw [aA c3]
  by_cases c4:iC (qG E).1=0
  ·rw [aA (fun hh=>hh c4)]
   by_cases c5:bU (qG E).1=d.take (dX (d,false)).1.toNat
   ·refine absurd ⟨(qG E).1,c4, ?_⟩ hx
    rw [c5]; exact List.take_prefix _ _
   ·rw [ak c5]
  ·rw [ak c4]
theorem abK {n:Nat} {d:List Int} (h:dF d) (hb:d.length<=big) (hn:big<n):Gy n d=some ((F7 d).1,(F7 d).2,()):=by
 rw [anj h hb hn,an2 h]
end Go.Proofs.YtailcbngagacaabGreat.H7
