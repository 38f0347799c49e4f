/- Reading of ops and journals, on both sides. -/
import Derived.Test.YtdknpknohipffaaGreatOwF
import Derived.Test.YtdknpknohipffaaGreatLoopLib
import Derived.Test.YtdknpknohipffaaGreatPackLib
import Derived.Test.YtdknpknohipffaaGreatStoreMath
import Derived.Test.YtdknpknohipffaaGreatOpsMath
import Derived.Test.YtdknpknohipffaaGreatGoodMath
import Derived.Test.YtdknpknohipffaaGreatCodecMath
import Derived.Test.YtdknpknohipffaaGreatCwF
set_option linter.unusedSectionVars false
set_option linter.unusedVariables false
set_option linter.unusedSimpArgs false
namespace Go.Proofs.YtdknpknohipffaaGreat.Ib
open Go Go.Proofs.YtdknpknohipffaaGreat.Ow Go.Proofs.YtdknpknohipffaaGreat.RG Go.Proofs.YtdknpknohipffaaGreat.kN Go.Proofs.YtdknpknohipffaaGreat.CO Go.Proofs.YtdknpknohipffaaGreat.gL Go.Proofs.YtdknpknohipffaaGreat.jV Go.Proofs.YtdknpknohipffaaGreat.Bu Go.Proofs.YtdknpknohipffaaGreat.lZ
abbrev st (t:Tk):List Int×Bool×Unit:=(t.1,t.2,())
theorem fI {t:Tk} (h:tZ t.1) (k:Nat):tZ (gY k t).1∧tZ (gY k t).2.1∧(gY k t).1.length=k:=by
 unfold gY
 split
 ·exact ⟨aa1 k,h,by simp⟩
 ·rename_i hc
  exact ⟨BZ h k,BX h k,by simp only [List.length_take]; omega⟩
theorem jJ {t:Tk} (h:tZ t.1):(0≤(iX t).1∧(iX t).1≤255)∧tZ (iX t).2.1:=
 ⟨zq (fI h 1).1 0,(fI h 1).2.1⟩
theorem wM {t:Tk} (h:tZ t.1):(0≤(gK t).1∧(gK t).1≤65535)∧tZ (gK t).2.1:=by
 have h0:=zq (fI h 2).1 0
 have h1:=zq (fI h 2).1 1
 refine ⟨?_,(fI h 2).2.1⟩
 unfold gK
 simp only
 omega
theorem GG {t:Tk} (h:tZ t.1):∀k,(qJ t k).1.length=k∧tZ (qJ t k).2.1
 | 0=>⟨rfl,h⟩
 | k+1=>by
  have:=GG h k
  exact ⟨by simp [qJ,this.1],(wM this.2).2⟩
theorem Ct {n:Nat} {t:Tk} {k:Nat} (hk:k≤65535):fq n (st t) (k:Int)=some ((gY k t).1,st (gY k t).2,()):=by
 obtain ⟨l,b⟩:=t
 unfold fq bN gY
 cases b with
 | true=>
  simp only [if_true,true_or]
  rw [if_pos ⟨trivial,by omega,by omega⟩]
  rfl
 | false=>
  simp only [Bool.false_eq_true,if_false,false_or,Option.bind_some]
  by_cases hl:l.length<k
  ·rw [if_pos (by rw [decide_eq_true_eq]; omega),if_pos ⟨trivial,by omega,by omega⟩,if_pos hl]
   rfl
  ·rw [if_neg (by rw [decide_eq_true_eq]; omega),if_pos ⟨by omega,by omega⟩,if_pos ⟨by omega,by omega⟩,if_neg hl]
   rfl
theorem Cg {n:Nat} {t:Tk} (h:tZ t.1):eY n (st t)=some ((iX t).1,st (iX t).2,()):=by
 have hf:=jJ h
 have hl:=(fI h 1).2.2
 unfold eY
 rw [show (1:Int)=((1:Nat):Int) from rfl,Ct (by omega)]
 simp only [Option.bind_some]
 rw [if_pos (by rw [hl]; exact ⟨by omega,by omega⟩)]
 have e:(gY 1 t).1.getD (0:Int).toNat 0=(iX t).1:=rfl
 rw [e,wrap_i64 (by omega) (by omega)]
 rfl
theorem FN {n:Nat} {t:Tk} (h:tZ t.1):gZ n (st t)=some ((gK t).1,st (gK t).2,()):=by
 have hf:=wM h
 have hl:=(fI h 2).2.2
 have g0:=zq (fI h 2).1 0
 have g1:=zq (fI h 2).1 1
 unfold gZ
 rw [show (2:Int)=((2:Nat):Int) from rfl,Ct (by omega)]
 simp only [Option.bind_some]
 rw [if_pos (by rw [hl]; exact ⟨by omega,by omega⟩),if_pos (by rw [hl]; exact ⟨by omega,by omega⟩)]
 rw [show (0:Int).toNat=0 from rfl,show (1:Int).toNat=1 from rfl]
 rw [wrap_i64 (x:=(gY 2 t).1.getD 0 0) (by omega) (by omega),wrap_i64 (x:=(gY 2 t).1.getD 1 0) (by omega) (by omega),wrap_i64 (x:=(gY 2 t).1.getD 0 0 * 256) (by omega) (by omega),wrap_i64 (by omega) (by omega)]
 rfl
def R8 (o:OpC):Prop:=jh o=0
abbrev zO:OpC:=((0:Int),([]:List Int),([]:List Int),([]:List Int),(0:Int),(0:Int),(0:Int),([]:List Int),())
theorem abI {d:List Int} (h:tZ d):okO (yj d).1∧tZ (yj d).1.2.2.2.2.2.2.2.1:=by
 have h1:=jJ (t:=(d,false)) h
 have h2:=jJ h1.2
 have h3:=fI h2.2 (iX (iX (d,false)).2).1.toNat
 have h4:=jJ h3.2.1
 have h5:=fI h4.2 (iX (gY (iX (iX (d,false)).2).1.toNat (iX (iX (d,false)).2).2).2).1.toNat
 have h6:=jJ h5.2.1
 have h7:=GG h6.2 (iX (gY (iX (gY (iX (iX (d,false)).2).1.toNat (iX (iX (d,false)).2).2).2).1.toNat (iX (gY (iX (iX (d,false)).2).1.toNat (iX (iX (d,false)).2).2).2).2).2).1.toNat
 have h8:=jJ h7.2
 have h9:=jJ h8.2
 have h10:=wM h9.2
 have h11:=wM h10.2
 have h12:=fI h11.2
 refine ⟨⟨?_, ?_, ?_, ?_⟩,(h12 _).1⟩
 ·show (gY _ _).1.length≤big
  rw [h3.2.2]; unfold big; omega
 ·show (gY _ _).1.length≤big
  rw [h5.2.2]; unfold big; omega
 ·show (qJ _ _).1.length≤big
  rw [h7.1]; unfold big; omega
 ·show (gY _ _).1.length≤big
  rw [(h12 _).2.2]; unfold big; omega
def J2 (d:List Int):OpC×Int:=
 if (gK (d,false)).2.2=true then (zO,0) else if (gK (d,false)).1>(d.length:Int) then (zO,0) else
 if (yj ((d.take (if (gK (d,false)).1>2 then (gK (d,false)).1 else 2).toNat).drop 2)).2.2=true then (zO,0) else
 if jh (yj ((d.take (if (gK (d,false)).1>2 then (gK (d,false)).1 else 2).toNat).drop 2)).1≠0 then (zO,0) else
 if fQ (yj ((d.take (if (gK (d,false)).1>2 then (gK (d,false)).1 else 2).toNat).drop 2)).1≠d.take (gK (d,false)).1.toNat then (zO,0) else
 ((yj ((d.take (if (gK (d,false)).1>2 then (gK (d,false)).1 else 2).toNat).drop 2)).1,(gK (d,false)).1)
theorem Ob {d:List Int}:(gK (d,false)).2.2=decide (d.length<2):=by
 unfold gK gY
 by_cases h:d.length<2
 ·simp [h]
 ·simp [h]
theorem adu {o:OpC} (h:jh o=0) (hb:tZ o.2.2.2.2.2.2.2.1):Ui o:=⟨right h,hb⟩
set_option maxRecDepth 20000 in
theorem Rm {n:Nat} {d:List Int} (h:tZ d) (hb:d.length≤big) (hn:big<n):rZ n d=some ((J2 d).1,(J2 d).2,()):=by
 have hn':=hn
 have hb':d.length≤1048576:=hb
 unfold big at hn'
 have ht:=wM (t:=(d,false)) h
 unfold rZ J2
 rw [FN (t:=(d,false)) h]
 simp only [Option.bind_some]
 by_cases c1:(gK (d,false)).2.2=true
 ·rw [if_pos c1,if_pos c1]
 rw [if_neg c1,if_neg c1]
 rw [Ob,decide_eq_true_eq] at c1
 unfold bN
 simp only [Option.bind_some]
 by_cases c2:(gK (d,false)).1>(d.length:Int)
 ·rw [if_pos (by rw [decide_eq_true_eq]; exact c2),if_pos c2]
 rw [if_neg (by rw [decide_eq_true_eq]; exact c2),if_neg c2]
 have hm:2≤(if (gK (d,false)).1>2 then (gK (d,false)).1 else 2)∧(if (gK (d,false)).1>2 then (gK (d,false)).1 else 2)≤(d.length:Int):=by
  split
  ·omega
  ·omega
 rw [if_pos ⟨by omega,hm⟩]
 have e2:(2:Int).toNat=2:=rfl
 have hE:tZ ((d.take (if (gK (d,false)).1>2 then (gK (d,false)).1 else 2).toNat).drop 2):=BX (BZ h _) 2
 have hs:(gK (d,false)).2.2=false:=by rw [Ob,decide_eq_false_iff_not]; exact c1
 generalize hM:(gK (d,false)).1=M at *
 rw [e2]
 generalize hEE:(d.take (if M>2 then M else 2).toNat).drop 2=E at *
 have es:(E,(st (gK (d,false)).2).2)=st (E,false):=by simp only [st,hs]
 rw [es,Cg hE]
 simp only [Option.bind_some]
 have f1:=jJ (t:=(E,false)) hE
 generalize q1:iX (E,false)=a1 at *
 rw [Cg f1.2]
 simp only [Option.bind_some]
 have f2:=jJ f1.2
 generalize q2:iX a1.2=a2 at *
 have k2:((a2.1.toNat:Nat):Int)=a2.1:=by omega
 have t3:=Ct (n:=n) (t:=a2.2) (k:=a2.1.toNat) (by omega)
 rw [k2] at t3
 rw [t3]
 simp only [Option.bind_some]
 have f3:=fI f2.2 a2.1.toNat
 generalize q3:gY a2.1.toNat a2.2=a3 at *
 rw [Cg f3.2.1]
 simp only [Option.bind_some]
 have f4:=jJ f3.2.1
 generalize q4:iX a3.2=a4 at *
 have k4:((a4.1.toNat:Nat):Int)=a4.1:=by omega
 have t5:=Ct (n:=n) (t:=a4.2) (k:=a4.1.toNat) (by omega)
 rw [k4] at t5
 rw [t5]
 simp only [Option.bind_some]
 have f5:=fI f4.2 a4.1.toNat
 generalize q5:gY a4.1.toNat a4.2=a5 at *
 rw [Cg f5.2.1]
 simp only [Option.bind_some]
 have f6:=jJ f5.2.1
 generalize q6:iX a5.2=a6 at *
 have hR:yj E=((a1.1,a3.1,a5.1,(qJ a6.2 a6.1.toNat).1,(iX (qJ a6.2 a6.1.toNat).2).1,(iX (iX (qJ a6.2 a6.1.toNat).2).2).1,(gK (iX (iX (qJ a6.2 a6.1.toNat).2).2).2).1,
   (gY (gK (gK (iX (iX (qJ a6.2 a6.1.toNat).2).2).2).2).1.toNat (gK (gK (iX (iX (qJ a6.2 a6.1.toNat).2).2).2).2).2).1,()),
   (gY (gK (gK (iX (iX (qJ a6.2 a6.1.toNat).2).2).2).2).1.toNat (gK (gK (iX (iX (qJ a6.2 a6.1.toNat).2).2).2).2).2).2):=by
  simp only [yj,q1,q2,q3,q4,q5,q6]
 have hok:=abI hE
 rw [hR] at hok ⊢
 have f7:=GG f6.2
 refine (aM (fun i=>(d,M,a6.1,(i:Int),zO,(a1.1,a3.1,a5.1,(qJ a6.2 i).1,(0:Int),(0:Int),(0:Int),([]:List Int),()),st (qJ a6.2 i).2,())) (fun _=>none) _ (m:=a6.1.toNat) rfl (by omega) ?_ ?_).trans (bG (fun _ _ _=>rfl))
 ·intro L i hi _
  have hlt:(i:Int)<a6.1:=by omega
  simp only [hlt,decide_true,if_true,FN (f7 i).2,Option.bind_some]
  rw [if_pos (by rw [(f7 i).1,List.length_singleton]; omega),wrap_i64 (by omega) (by omega)]
  rfl
 ·intro L _
  have hge:¬((a6.1.toNat:Int)<a6.1):=by omega
  simp only [hge,decide_false,Bool.false_eq_true,if_false]
  have f7:=f7 a6.1.toNat
  generalize qJ a6.2 a6.1.toNat=a7 at *
  rw [Cg f7.2]
  simp only [Option.bind_some]
  have f8:=jJ f7.2
  generalize iX a7.2=a8 at *
  rw [Cg f8.2]
  simp only [Option.bind_some]
  have f9:=jJ f8.2
  generalize iX a8.2=a9 at *
  rw [FN f9.2]
  simp only [Option.bind_some]
  have f10:=wM f9.2
  generalize gK a9.2=a10 at *
  rw [FN f10.2]
  simp only [Option.bind_some]
  have f11:=wM f10.2
  generalize gK a10.2=ZM at *
  have k11:((ZM.1.toNat:Nat):Int)=ZM.1:=by omega
  have t12:=Ct (n:=n) (t:=ZM.2) (k:=ZM.1.toNat) (by omega)
  rw [k11] at t12
  rw [t12]
  simp only [Option.bind_some]
  have f12:=fI f11.2 ZM.1.toNat
  generalize gY ZM.1.toNat ZM.2=a12 at *
  rw [if_pos (by rw [f12.2.2]; simp only [List.length_nil]; omega)]
  by_cases c3:a12.2.2=true
  ·rw [if_pos c3,if_pos c3]
  rw [if_neg c3,if_neg c3]
  rw [List.nil_append]
  rw [MW hok.1 hn]
  simp only [Option.bind_some]
  generalize hO:((a1.1,a3.1,a5.1,a7.1,a8.1,a9.1,a10.1,a12.1,()):OpC)=o at *
  by_cases c4:jh o=0
  ·rw [if_neg (by simp [c4]),if_neg (by simp [c4]),YG (adu c4 hok.2) hn]
   simp only [Option.bind_some]
   rw [if_pos ⟨by omega,by omega⟩]
   unfold Bc
   simp only [Option.bind_some]
   by_cases c5:fQ o=d.take M.toNat
   ·rw [if_neg (by simp [c5]),if_neg (by simp [c5])]
   ·rw [if_pos (by simp [c5]),if_pos c5]
  ·rw [if_pos (by simp [c4]),if_pos c4]
noncomputable def P7 (d:List Int):OpC×Int:=match zG R8 d with
 | none=>(zO,0)
 | some o=>(o,((fQ o).length:Int))
theorem VS {d:List Int} (h:tZ d):J2 d=P7 d:=by
 unfold P7
 by_cases hx:∃o,Is R8 d o
 ·obtain ⟨o,ho⟩:=hx
  rw [PN ho]
  obtain ⟨g1,g2,g3⟩:=Nl ho.2
  have e1:(gK (d,false)).1=((fQ o).length:Int):=by
   rw [←g2]
   unfold gK gY
   rw [if_neg (by simp; omega)]
   match d,g1 with
   | a :: b :: r,_=>rfl
  have hl:=xH o
  have hlb:=ET o
  have hle:=ho.2.length_le
  have e2:(if (gK (d,false)).1>2 then (gK (d,false)).1 else 2).toNat=(fQ o).length:=by
   rw [if_pos (by omega)]; omega
  have e3:yj ((d.take (if (gK (d,false)).1>2 then (gK (d,false)).1 else 2).toNat).drop 2)=(o,(two (Eb (Am o)),false)):=by
   rw [e2,g3,Ch,PM]
  unfold J2
  rw [e3,if_neg (by rw [Ob,decide_eq_true_eq]; omega),if_neg (by omega),if_neg (by simp),if_neg (fun hh=>hh ho.1),if_neg (fun hh=>hh (by rw [e1,Int.toNat_natCast,g3])),e1]
 ·rw [JV hx]
  unfold J2
  generalize (d.take (if (gK (d,false)).1>2 then (gK (d,false)).1 else 2).toNat).drop 2=E
  by_cases c1:(gK (d,false)).2.2=true
  ·rw [if_pos c1]
  rw [if_neg c1]
  by_cases c2:(gK (d,false)).1>(d.length:Int)
  ·rw [if_pos c2]
  rw [if_neg c2]
  by_cases c3:(yj E).2.2=true
  ·rw [if_pos c3]
  rw [if_neg c3]
  by_cases c4:jh (yj E).1=0
  ·rw [if_neg (fun hh=>hh c4)]
   by_cases c5:fQ (yj E).1=d.take (gK (d,false)).1.toNat
   ·refine absurd ⟨(yj E).1,c4, ?_⟩ hx
    rw [c5]; exact List.take_prefix _ _
   ·rw [if_pos c5]
  ·rw [if_pos c4]
theorem Kt {n:Nat} {d:List Int} (h:tZ d) (hb:d.length≤big) (hn:big<n):rZ n d=some ((P7 d).1,(P7 d).2,()):=by
 rw [Rm h hb hn,VS h]
end Go.Proofs.YtdknpknohipffaaGreat.Ib
