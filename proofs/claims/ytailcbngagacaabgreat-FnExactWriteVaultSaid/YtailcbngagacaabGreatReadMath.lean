/- Reading of ops and journals, on both sides. -/
import Derived.Test.YtailcbngagacaabGreatOwF
import Derived.Test.YtailcbngagacaabGreatLoopLib
import Derived.Test.YtailcbngagacaabGreatPackLib
import Derived.Test.YtailcbngagacaabGreatStoreMath
import Derived.Test.YtailcbngagacaabGreatOpsMath
import Derived.Test.YtailcbngagacaabGreatGoodMath
import Derived.Test.YtailcbngagacaabGreatCodecMath
import Derived.Test.YtailcbngagacaabGreatWriteF
set_option linter.unusedSectionVars false
set_option linter.unusedVariables false
set_option linter.unusedSimpArgs false
namespace Go.Proofs.YtailcbngagacaabGreat.DK
open Go Go.Proofs.YtailcbngagacaabGreat.Ow Go.Proofs.YtailcbngagacaabGreat.oC Go.Proofs.YtailcbngagacaabGreat.kN Go.Proofs.YtailcbngagacaabGreat.wX Go.Proofs.YtailcbngagacaabGreat.gV Go.Proofs.YtailcbngagacaabGreat.jI Go.Proofs.YtailcbngagacaabGreat.vJ Go.Proofs.YtailcbngagacaabGreat.kR
abbrev st (t:Tk):List Int×Bool×Unit:=(t.1,t.2,())
theorem fP {t:Tk} (h:p9 t.1) (k:Nat):p9 (gP k t).1∧p9 (gP k t).2.1∧(gP k t).1.length=k:=by
 unfold gP
 split
 ·exact ⟨XY k,h,by simp⟩
 ·rename_i hc
  exact ⟨yz h k,yx h k,by simp only [List.length_take]; omega⟩
theorem jo {t:Tk} (h:p9 t.1):(0≤(iM t).1∧(iM t).1≤255)∧p9 (iM t).2.1:=
 ⟨vT (fP h 1).1 0,(fP h 1).2.1⟩
theorem sZ {t:Tk} (h:p9 t.1):(0≤(gK t).1∧(gK t).1≤65535)∧p9 (gK t).2.1:=by
 have h0:=vT (fP h 2).1 0
 have h1:=vT (fP h 2).1 1
 refine ⟨?_,(fP h 2).2.1⟩
 unfold gK
 simp only
 omega
theorem CU {t:Tk} (h:p9 t.1):∀k,(oJ t k).1.length=k∧p9 (oJ t k).2.1
 | 0=>⟨rfl,h⟩
 | k+1=>by
  have:=CU h k
  exact ⟨by simp [oJ,this.1],(sZ this.2).2⟩
theorem yQ {n:Nat} {t:Tk} {k:Nat} (hk:k≤65535):fB n (st t) (k:Int)=some ((gP k t).1,st (gP k t).2,()):=by
 obtain ⟨l,b⟩:=t
 unfold fB cO gP
 cases b with
 | true=>
  simp only [if_true,true_or]
  rw [if_pos ⟨trivial,by omega,by omega⟩]
  rfl
 | false=>
  simp only [ank,if_false,false_or,ani]
  by_cases hl:l.length<k
  ·rw [if_pos (by rw [decide_eq_true_eq]; omega),if_pos ⟨trivial,by omega,by omega⟩,if_pos hl]
   rfl
  ·rw [if_neg (by rw [decide_eq_true_eq]; omega),if_pos ⟨by omega,by omega⟩,if_pos ⟨by omega,by omega⟩,if_neg hl]
   rfl
theorem yD {n:Nat} {t:Tk} (h:p9 t.1):eZ n (st t)=some ((iM t).1,st (iM t).2,()):=by
 have hf:=jo h
 have hl:=(fP h 1).2.2
 unfold eZ
 rw [show (1:Int)=((1:Nat):Int) from rfl,yQ (by omega)]
 simp only [ani]
 rw [if_pos (by rw [hl]; exact ⟨by omega,by omega⟩)]
 have e:(gP 1 t).1.getD (0:Int).toNat 0=(iM t).1:=rfl
 rw [e,wrap_i64 (by omega) (by omega)]
 rfl
theorem BU {n:Nat} {t:Tk} (h:p9 t.1):gQ n (st t)=some ((gK t).1,st (gK t).2,()):=by
 have hf:=sZ h
 have hl:=(fP h 2).2.2
 have g0:=vT (fP h 2).1 0
 have g1:=vT (fP h 2).1 1
 unfold gQ
 rw [show (2:Int)=((2:Nat):Int) from rfl,yQ (by omega)]
 simp only [ani]
 rw [if_pos (by rw [hl]; exact ⟨by omega,by omega⟩),if_pos (by rw [hl]; exact ⟨by omega,by omega⟩)]
 rw [show (0:Int).toNat=0 from rfl,show (1:Int).toNat=1 from rfl]
 rw [wrap_i64 (x:=(gP 2 t).1.getD 0 0) (by omega) (by omega),wrap_i64 (x:=(gP 2 t).1.getD 1 0) (by omega) (by omega),wrap_i64 (x:=(gP 2 t).1.getD 0 0 * 256) (by omega) (by omega),wrap_i64 (by omega) (by omega)]
 rfl
def R8 (o:OpC):Prop:=iG o=0
abbrev zO:OpC:=((0:Int),([]:List Int),([]:List Int),([]:List Int),(0:Int),(0:Int),(0:Int),([]:List Int),())
theorem YC {d:List Int} (h:p9 d):okO (uP d).1∧p9 (uP d).1.2.2.2.2.2.2.2.1:=by
 have h1:=jo (t:=(d,false)) h
 have h2:=jo h1.2
 have h3:=fP h2.2 (iM (iM (d,false)).2).1.toNat
 have h4:=jo h3.2.1
 have h5:=fP h4.2 (iM (gP (iM (iM (d,false)).2).1.toNat (iM (iM (d,false)).2).2).2).1.toNat
 have h6:=jo h5.2.1
 have h7:=CU h6.2 (iM (gP (iM (gP (iM (iM (d,false)).2).1.toNat (iM (iM (d,false)).2).2).2).1.toNat (iM (gP (iM (iM (d,false)).2).1.toNat (iM (iM (d,false)).2).2).2).2).2).1.toNat
 have h8:=jo h7.2
 have h9:=jo h8.2
 have h10:=sZ h9.2
 have h11:=sZ h10.2
 have h12:=fP h11.2
 refine ⟨⟨?_, ?_, ?_, ?_⟩,(h12 _).1⟩
 ·show (gP _ _).1.length≤big
  rw [h3.2.2]; unfold big; omega
 ·show (gP _ _).1.length≤big
  rw [h5.2.2]; unfold big; omega
 ·show (oJ _ _).1.length≤big
  rw [h7.1]; unfold big; omega
 ·show (gP _ _).1.length≤big
  rw [(h12 _).2.2]; unfold big; omega
def Gd (d:List Int):OpC×Int:=
 if (gK (d,false)).2.2=true then (zO,0) else if (gK (d,false)).1>(d.length:Int) then (zO,0) else
 if (uP ((d.take (if (gK (d,false)).1>2 then (gK (d,false)).1 else 2).toNat).drop 2)).2.2=true then (zO,0) else
 if iG (uP ((d.take (if (gK (d,false)).1>2 then (gK (d,false)).1 else 2).toNat).drop 2)).1≠0 then (zO,0) else
 if eX (uP ((d.take (if (gK (d,false)).1>2 then (gK (d,false)).1 else 2).toNat).drop 2)).1≠d.take (gK (d,false)).1.toNat then (zO,0) else
 ((uP ((d.take (if (gK (d,false)).1>2 then (gK (d,false)).1 else 2).toNat).drop 2)).1,(gK (d,false)).1)
theorem KZ {d:List Int}:(gK (d,false)).2.2=decide (d.length<2):=by
 unfold gK gP
 by_cases h:d.length<2
 ·simp [h]
 ·simp [h]
theorem aak {o:OpC} (h:iG o=0) (hb:p9 o.2.2.2.2.2.2.2.1):OU o:=⟨right h,hb⟩
set_option maxRecDepth 20000 in
theorem Oi {n:Nat} {d:List Int} (h:p9 d) (hb:d.length≤big) (hn:big<n):pU n d=some ((Gd d).1,(Gd d).2,()):=by
 have hn':=hn
 have hb':d.length≤1048576:=hb
 unfold big at hn'
 have ht:=sZ (t:=(d,false)) h
 unfold pU Gd
 rw [BU (t:=(d,false)) h]
 simp only [ani]
 by_cases c1:(gK (d,false)).2.2=true
 ·rw [if_pos c1,if_pos c1]
 rw [if_neg c1,if_neg c1]
 rw [KZ,decide_eq_true_eq] at c1
 unfold cO
 simp only [ani]
 by_cases c2:(gK (d,false)).1>(d.length:Int)
 ·rw [if_pos (by rw [decide_eq_true_eq]; exact c2),if_pos c2]
 rw [if_neg (by rw [decide_eq_true_eq]; exact c2),if_neg c2]
 have hm:2≤(if (gK (d,false)).1>2 then (gK (d,false)).1 else 2)∧(if (gK (d,false)).1>2 then (gK (d,false)).1 else 2)≤(d.length:Int):=by
  split
  ·omega
  ·omega
 rw [if_pos ⟨by omega,hm⟩]
 have e2:(2:Int).toNat=2:=rfl
 have hE:p9 ((d.take (if (gK (d,false)).1>2 then (gK (d,false)).1 else 2).toNat).drop 2):=yx (yz h _) 2
 have hs:(gK (d,false)).2.2=false:=by rw [KZ,decide_eq_false_iff_not]; exact c1
 generalize hM:(gK (d,false)).1=M at *
 rw [e2]
 generalize hEE:(d.take (if M>2 then M else 2).toNat).drop 2=E at *
 have es:(E,(st (gK (d,false)).2).2)=st (E,false):=by simp only [st,hs]
 rw [es,yD hE]
 simp only [ani]
 have f1:=jo (t:=(E,false)) hE
 generalize q1:iM (E,false)=a1 at *
 rw [yD f1.2]
 simp only [ani]
 have f2:=jo f1.2
 generalize q2:iM a1.2=a2 at *
 have k2:((a2.1.toNat:Nat):Int)=a2.1:=by omega
 have t3:=yQ (n:=n) (t:=a2.2) (k:=a2.1.toNat) (by omega)
 rw [k2] at t3
 rw [t3]
 simp only [ani]
 have f3:=fP f2.2 a2.1.toNat
 generalize q3:gP a2.1.toNat a2.2=a3 at *
 rw [yD f3.2.1]
 simp only [ani]
 have f4:=jo f3.2.1
 generalize q4:iM a3.2=a4 at *
 have k4:((a4.1.toNat:Nat):Int)=a4.1:=by omega
 have t5:=yQ (n:=n) (t:=a4.2) (k:=a4.1.toNat) (by omega)
 rw [k4] at t5
 rw [t5]
 simp only [ani]
 have f5:=fP f4.2 a4.1.toNat
 generalize q5:gP a4.1.toNat a4.2=a5 at *
 rw [yD f5.2.1]
 simp only [ani]
 have f6:=jo f5.2.1
 generalize q6:iM a5.2=a6 at *
 have hR:uP E=((a1.1,a3.1,a5.1,(oJ a6.2 a6.1.toNat).1,(iM (oJ a6.2 a6.1.toNat).2).1,(iM (iM (oJ a6.2 a6.1.toNat).2).2).1,(gK (iM (iM (oJ a6.2 a6.1.toNat).2).2).2).1,
   (gP (gK (gK (iM (iM (oJ a6.2 a6.1.toNat).2).2).2).2).1.toNat (gK (gK (iM (iM (oJ a6.2 a6.1.toNat).2).2).2).2).2).1,()),
   (gP (gK (gK (iM (iM (oJ a6.2 a6.1.toNat).2).2).2).2).1.toNat (gK (gK (iM (iM (oJ a6.2 a6.1.toNat).2).2).2).2).2).2):=by
  simp only [uP,q1,q2,q3,q4,q5,q6]
 have hok:=YC hE
 rw [hR] at hok ⊢
 have f7:=CU f6.2
 refine (aS (fun i=>(d,M,a6.1,(i:Int),zO,(a1.1,a3.1,a5.1,(oJ a6.2 i).1,(0:Int),(0:Int),(0:Int),([]:List Int),()),st (oJ a6.2 i).2,())) (fun _=>none) _ (m:=a6.1.toNat) rfl (by omega) ?_ ?_).trans (bM (fun _ _ _=>rfl))
 ·intro L i hi _
  have hlt:(i:Int)<a6.1:=by omega
  simp only [hlt,decide_true,if_true,BU (f7 i).2,ani]
  rw [if_pos (by rw [(f7 i).1,anD]; omega),wrap_i64 (by omega) (by omega)]
  rfl
 ·intro L _
  have hge:¬((a6.1.toNat:Int)<a6.1):=by omega
  simp only [hge,decide_false,ank,if_false]
  have f7:=f7 a6.1.toNat
  generalize oJ a6.2 a6.1.toNat=a7 at *
  rw [yD f7.2]
  simp only [ani]
  have f8:=jo f7.2
  generalize iM a7.2=a8 at *
  rw [yD f8.2]
  simp only [ani]
  have f9:=jo f8.2
  generalize iM a8.2=a9 at *
  rw [BU f9.2]
  simp only [ani]
  have f10:=sZ f9.2
  generalize gK a9.2=a10 at *
  rw [BU f10.2]
  simp only [ani]
  have f11:=sZ f10.2
  generalize gK a10.2=WI at *
  have k11:((WI.1.toNat:Nat):Int)=WI.1:=by omega
  have t12:=yQ (n:=n) (t:=WI.2) (k:=WI.1.toNat) (by omega)
  rw [k11] at t12
  rw [t12]
  simp only [ani]
  have f12:=fP f11.2 WI.1.toNat
  generalize gP WI.1.toNat WI.2=a12 at *
  rw [if_pos (by rw [f12.2.2]; simp only [List.length_nil]; omega)]
  by_cases c3:a12.2.2=true
  ·rw [if_pos c3,if_pos c3]
  rw [if_neg c3,if_neg c3]
  rw [List.nil_append]
  rw [JN hok.1 hn]
  simp only [ani]
  generalize hO:((a1.1,a3.1,a5.1,a7.1,a8.1,a9.1,a10.1,a12.1,()):OpC)=o at *
  by_cases c4:iG o=0
  ·rw [if_neg (by simp [c4]),if_neg (by simp [c4]),MN (aak c4 hok.2) hn]
   simp only [ani]
   rw [if_pos ⟨by omega,by omega⟩]
   unfold xK
   simp only [ani]
   by_cases c5:eX o=d.take M.toNat
   ·rw [if_neg (by simp [c5]),if_neg (by simp [c5])]
   ·rw [if_pos (by simp [c5]),if_pos c5]
  ·rw [if_pos (by simp [c4]),if_pos c4]
noncomputable def M8 (d:List Int):OpC×Int:=match wF R8 d with
 | none=>(zO,0)
 | some o=>(o,((eX o).length:Int))
theorem SE {d:List Int} (h:p9 d):Gd d=M8 d:=by
 unfold M8
 by_cases hx:∃o,Is R8 d o
 ·obtain ⟨o,ho⟩:=hx
  rw [MR ho]
  obtain ⟨g1,g2,g3⟩:=Kc ho.2
  have e1:(gK (d,false)).1=((eX o).length:Int):=by
   rw [←g2]
   unfold gK gP
   rw [if_neg (by simp; omega)]
   match d,g1 with
   | a :: b :: r,_=>rfl
  have hl:=rQ o
  have hlb:=A7 o
  have hle:=ho.2.length_le
  have e2:(if (gK (d,false)).1>2 then (gK (d,false)).1 else 2).toNat=(eX o).length:=by
   rw [if_pos (by omega)]; omega
  have e3:uP ((d.take (if (gK (d,false)).1>2 then (gK (d,false)).1 else 2).toNat).drop 2)=(o,(two (Al (xg o)),false)):=by
   rw [e2,g3,yE,MQ]
  unfold Gd
  rw [e3,if_neg (by rw [KZ,decide_eq_true_eq]; omega),if_neg (by omega),if_neg (by simp),if_neg (fun hh=>hh ho.1),if_neg (fun hh=>hh (by rw [e1,anr,g3])),e1]
 ·rw [FZ hx]
  unfold Gd
  generalize (d.take (if (gK (d,false)).1>2 then (gK (d,false)).1 else 2).toNat).drop 2=E
  by_cases c1:(gK (d,false)).2.2=true
  ·rw [if_pos c1]
  rw [if_neg c1]
  by_cases c2:(gK (d,false)).1>(d.length:Int)
  ·rw [if_pos c2]
  rw [if_neg c2]
  by_cases c3:(uP E).2.2=true
  ·rw [if_pos c3]
  rw [if_neg c3]
  by_cases c4:iG (uP E).1=0
  ·rw [if_neg (fun hh=>hh c4)]
   by_cases c5:eX (uP E).1=d.take (gK (d,false)).1.toNat
   ·refine absurd ⟨(uP E).1,c4, ?_⟩ hx
    rw [c5]; exact List.take_prefix _ _
   ·rw [if_pos c5]
  ·rw [if_pos c4]
theorem GQ {n:Nat} {d:List Int} (h:p9 d) (hb:d.length≤big) (hn:big<n):pU n d=some ((M8 d).1,(M8 d).2,()):=by
 rw [Oi h hb hn,SE h]
end Go.Proofs.YtailcbngagacaabGreat.DK
