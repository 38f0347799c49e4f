/- Reading of ops and journals, on both sides. -/
import Derived.Test.YtailcbngagacaaaGreatOwF
import Derived.Test.YtailcbngagacaaaGreatLoopLib
import Derived.Test.YtailcbngagacaaaGreatPackLib
import Derived.Test.YtailcbngagacaaaGreatStoreMath
import Derived.Test.YtailcbngagacaaaGreatOpsMath
import Derived.Test.YtailcbngagacaaaGreatGoodMath
import Derived.Test.YtailcbngagacaaaGreatCodecMath
import Derived.Test.YtailcbngagacaaaGreatWfF
set_option linter.unusedSectionVars false
set_option linter.unusedVariables false
set_option linter.unusedSimpArgs false
namespace Go.Proofs.YtailcbngagacaaaGreat.Df
open Go Go.Proofs.YtailcbngagacaaaGreat.Ow Go.Proofs.YtailcbngagacaaaGreat.UZ Go.Proofs.YtailcbngagacaaaGreat.tV Go.Proofs.YtailcbngagacaaaGreat.Bu Go.Proofs.YtailcbngagacaaaGreat.oz Go.Proofs.YtailcbngagacaaaGreat.pK Go.Proofs.YtailcbngagacaaaGreat.x9 Go.Proofs.YtailcbngagacaaaGreat.u7
abbrev st (t:Tk):List Int×Bool×Unit:=(t.1,t.2,())
theorem fD {t:Tk} (h:qA t.1) (k:Nat):qA (gH k t).1∧qA (gH k t).2.1∧(gH k t).1.length=k:=by
 unfold gH
 split
 ·exact ⟨Wm k,h,by simp⟩
 ·rename_i hc
  exact ⟨yA h k,yz h k,by simp only [List.length_take]; omega⟩
theorem jd {t:Tk} (h:qA t.1):(0≤(iE t).1∧(iE t).1≤255)∧qA (iE t).2.1:=
 ⟨wm (fD h 1).1 0,(fD h 1).2.1⟩
theorem sW {t:Tk} (h:qA t.1):(0≤(gq t).1∧(gq t).1≤65535)∧qA (gq t).2.1:=by
 have h0:=wm (fD h 2).1 0
 have h1:=wm (fD h 2).1 1
 refine ⟨?_,(fD h 2).2.1⟩
 unfold gq
 simp only
 omega
theorem Cu {t:Tk} (h:qA t.1):∀k,(nV t k).1.length=k∧qA (nV t k).2.1
 | 0=>⟨rfl,h⟩
 | k+1=>by
  have:=Cu h k
  exact ⟨by simp [nV,this.1],(sW this.2).2⟩
theorem yM {n:Nat} {t:Tk} {k:Nat} (hk:k≤65535):eT n (st t) (k:Int)=some ((gH k t).1,st (gH k t).2,()):=by
 obtain ⟨l,b⟩:=t
 unfold eT cK gH
 cases b with
 | true=>
  simp only [if_true,true_or]
  rw [if_pos ⟨trivial,by omega,by omega⟩]
  rfl
 | false=>
  simp only [Bool.false_eq_true,if_false,false_or,Option.bind_some]
  by_cases hl:l.length<k
  ·rw [if_pos (by rw [decide_eq_true_eq]; omega),if_pos ⟨trivial,by omega,by omega⟩,if_pos hl]
   rfl
  ·rw [if_neg (by rw [decide_eq_true_eq]; omega),if_pos ⟨by omega,by omega⟩,if_pos ⟨by omega,by omega⟩,if_neg hl]
   rfl
theorem yE {n:Nat} {t:Tk} (h:qA t.1):eO n (st t)=some ((iE t).1,st (iE t).2,()):=by
 have hf:=jd h
 have hl:=(fD h 1).2.2
 unfold eO
 rw [show (1:Int)=((1:Nat):Int) from rfl,yM (by omega)]
 simp only [Option.bind_some]
 rw [if_pos (by rw [hl]; exact ⟨by omega,by omega⟩)]
 have e:(gH 1 t).1.getD (0:Int).toNat 0=(iE t).1:=rfl
 rw [e,wrap_i64 (by omega) (by omega)]
 rfl
theorem BG {n:Nat} {t:Tk} (h:qA t.1):gI n (st t)=some ((gq t).1,st (gq t).2,()):=by
 have hf:=sW h
 have hl:=(fD h 2).2.2
 have g0:=wm (fD h 2).1 0
 have g1:=wm (fD h 2).1 1
 unfold gI
 rw [show (2:Int)=((2:Nat):Int) from rfl,yM (by omega)]
 simp only [Option.bind_some]
 rw [if_pos (by rw [hl]; exact ⟨by omega,by omega⟩),if_pos (by rw [hl]; exact ⟨by omega,by omega⟩)]
 rw [show (0:Int).toNat=0 from rfl,show (1:Int).toNat=1 from rfl]
 rw [wrap_i64 (x:=(gH 2 t).1.getD 0 0) (by omega) (by omega),wrap_i64 (x:=(gH 2 t).1.getD 1 0) (by omega) (by omega),wrap_i64 (x:=(gH 2 t).1.getD 0 0 * 256) (by omega) (by omega),wrap_i64 (by omega) (by omega)]
 rfl
def R8 (o:OpC):Prop:=iL o=0
abbrev zO:OpC:=((0:Int),([]:List Int),([]:List Int),([]:List Int),(0:Int),(0:Int),(0:Int),([]:List Int),())
theorem WY {d:List Int} (h:qA d):okO (uO d).1∧qA (uO d).1.2.2.2.2.2.2.2.1:=by
 have h1:=jd (t:=(d,false)) h
 have h2:=jd h1.2
 have h3:=fD h2.2 (iE (iE (d,false)).2).1.toNat
 have h4:=jd h3.2.1
 have h5:=fD h4.2 (iE (gH (iE (iE (d,false)).2).1.toNat (iE (iE (d,false)).2).2).2).1.toNat
 have h6:=jd h5.2.1
 have h7:=Cu h6.2 (iE (gH (iE (gH (iE (iE (d,false)).2).1.toNat (iE (iE (d,false)).2).2).2).1.toNat (iE (gH (iE (iE (d,false)).2).1.toNat (iE (iE (d,false)).2).2).2).2).2).1.toNat
 have h8:=jd h7.2
 have h9:=jd h8.2
 have h10:=sW h9.2
 have h11:=sW h10.2
 have h12:=fD h11.2
 refine ⟨⟨?_, ?_, ?_, ?_⟩,(h12 _).1⟩
 ·show (gH _ _).1.length≤big
  rw [h3.2.2]; unfold big; omega
 ·show (gH _ _).1.length≤big
  rw [h5.2.2]; unfold big; omega
 ·show (nV _ _).1.length≤big
  rw [h7.1]; unfold big; omega
 ·show (gH _ _).1.length≤big
  rw [(h12 _).2.2]; unfold big; omega
def EP (d:List Int):OpC×Int:=
 if (gq (d,false)).2.2=true then (zO,0) else if (gq (d,false)).1>(d.length:Int) then (zO,0) else
 if (uO ((d.take (if (gq (d,false)).1>2 then (gq (d,false)).1 else 2).toNat).drop 2)).2.2=true then (zO,0) else
 if iL (uO ((d.take (if (gq (d,false)).1>2 then (gq (d,false)).1 else 2).toNat).drop 2)).1≠0 then (zO,0) else
 if fF (uO ((d.take (if (gq (d,false)).1>2 then (gq (d,false)).1 else 2).toNat).drop 2)).1≠d.take (gq (d,false)).1.toNat then (zO,0) else
 ((uO ((d.take (if (gq (d,false)).1>2 then (gq (d,false)).1 else 2).toNat).drop 2)).1,(gq (d,false)).1)
theorem Jv {d:List Int}:(gq (d,false)).2.2=decide (d.length<2):=by
 unfold gq gH
 by_cases h:d.length<2
 ·simp [h]
 ·simp [h]
theorem YP {o:OpC} (h:iL o=0) (hb:qA o.2.2.2.2.2.2.2.1):OV o:=⟨right h,hb⟩
set_option maxRecDepth 20000 in
theorem MC {n:Nat} {d:List Int} (h:qA d) (hb:d.length≤big) (hn:big<n):o7 n d=some ((EP d).1,(EP d).2,()):=by
 have hn':=hn
 have hb':d.length≤1048576:=hb
 unfold big at hn'
 have ht:=sW (t:=(d,false)) h
 unfold o7 EP
 rw [BG (t:=(d,false)) h]
 simp only [Option.bind_some]
 by_cases c1:(gq (d,false)).2.2=true
 ·rw [if_pos c1,if_pos c1]
 rw [if_neg c1,if_neg c1]
 rw [Jv,decide_eq_true_eq] at c1
 unfold cK
 simp only [Option.bind_some]
 by_cases c2:(gq (d,false)).1>(d.length:Int)
 ·rw [if_pos (by rw [decide_eq_true_eq]; exact c2),if_pos c2]
 rw [if_neg (by rw [decide_eq_true_eq]; exact c2),if_neg c2]
 have hm:2≤(if (gq (d,false)).1>2 then (gq (d,false)).1 else 2)∧(if (gq (d,false)).1>2 then (gq (d,false)).1 else 2)≤(d.length:Int):=by
  split
  ·omega
  ·omega
 rw [if_pos ⟨by omega,hm⟩]
 have e2:(2:Int).toNat=2:=rfl
 have hE:qA ((d.take (if (gq (d,false)).1>2 then (gq (d,false)).1 else 2).toNat).drop 2):=yz (yA h _) 2
 have hs:(gq (d,false)).2.2=false:=by rw [Jv,decide_eq_false_iff_not]; exact c1
 generalize hM:(gq (d,false)).1=M at *
 rw [e2]
 generalize hEE:(d.take (if M>2 then M else 2).toNat).drop 2=E at *
 have es:(E,(st (gq (d,false)).2).2)=st (E,false):=by simp only [st,hs]
 rw [es,yE hE]
 simp only [Option.bind_some]
 have f1:=jd (t:=(E,false)) hE
 generalize q1:iE (E,false)=a1 at *
 rw [yE f1.2]
 simp only [Option.bind_some]
 have f2:=jd f1.2
 generalize q2:iE a1.2=a2 at *
 have k2:((a2.1.toNat:Nat):Int)=a2.1:=by omega
 have t3:=yM (n:=n) (t:=a2.2) (k:=a2.1.toNat) (by omega)
 rw [k2] at t3
 rw [t3]
 simp only [Option.bind_some]
 have f3:=fD f2.2 a2.1.toNat
 generalize q3:gH a2.1.toNat a2.2=a3 at *
 rw [yE f3.2.1]
 simp only [Option.bind_some]
 have f4:=jd f3.2.1
 generalize q4:iE a3.2=a4 at *
 have k4:((a4.1.toNat:Nat):Int)=a4.1:=by omega
 have t5:=yM (n:=n) (t:=a4.2) (k:=a4.1.toNat) (by omega)
 rw [k4] at t5
 rw [t5]
 simp only [Option.bind_some]
 have f5:=fD f4.2 a4.1.toNat
 generalize q5:gH a4.1.toNat a4.2=a5 at *
 rw [yE f5.2.1]
 simp only [Option.bind_some]
 have f6:=jd f5.2.1
 generalize q6:iE a5.2=a6 at *
 have hR:uO E=((a1.1,a3.1,a5.1,(nV a6.2 a6.1.toNat).1,(iE (nV a6.2 a6.1.toNat).2).1,(iE (iE (nV a6.2 a6.1.toNat).2).2).1,(gq (iE (iE (nV a6.2 a6.1.toNat).2).2).2).1,
   (gH (gq (gq (iE (iE (nV a6.2 a6.1.toNat).2).2).2).2).1.toNat (gq (gq (iE (iE (nV a6.2 a6.1.toNat).2).2).2).2).2).1,()),
   (gH (gq (gq (iE (iE (nV a6.2 a6.1.toNat).2).2).2).2).1.toNat (gq (gq (iE (iE (nV a6.2 a6.1.toNat).2).2).2).2).2).2):=by
  simp only [uO,q1,q2,q3,q4,q5,q6]
 have hok:=WY hE
 rw [hR] at hok ⊢
 have f7:=Cu f6.2
 refine (aR (fun i=>(d,M,a6.1,(i:Int),zO,(a1.1,a3.1,a5.1,(nV a6.2 i).1,(0:Int),(0:Int),(0:Int),([]:List Int),()),st (nV a6.2 i).2,())) (fun _=>none) _ (m:=a6.1.toNat) rfl (by omega) ?_ ?_).trans (bU (fun _ _ _=>rfl))
 ·intro L i hi _
  have hlt:(i:Int)<a6.1:=by omega
  simp only [hlt,decide_true,if_true,BG (f7 i).2,Option.bind_some]
  rw [if_pos (by rw [(f7 i).1,List.length_singleton]; omega),wrap_i64 (by omega) (by omega)]
  rfl
 ·intro L _
  have hge:¬((a6.1.toNat:Int)<a6.1):=by omega
  simp only [hge,decide_false,Bool.false_eq_true,if_false]
  have f7:=f7 a6.1.toNat
  generalize nV a6.2 a6.1.toNat=a7 at *
  rw [yE f7.2]
  simp only [Option.bind_some]
  have f8:=jd f7.2
  generalize iE a7.2=a8 at *
  rw [yE f8.2]
  simp only [Option.bind_some]
  have f9:=jd f8.2
  generalize iE a8.2=a9 at *
  rw [BG f9.2]
  simp only [Option.bind_some]
  have f10:=sW f9.2
  generalize gq a9.2=a10 at *
  rw [BG f10.2]
  simp only [Option.bind_some]
  have f11:=sW f10.2
  generalize gq a10.2=U1 at *
  have k11:((U1.1.toNat:Nat):Int)=U1.1:=by omega
  have t12:=yM (n:=n) (t:=U1.2) (k:=U1.1.toNat) (by omega)
  rw [k11] at t12
  rw [t12]
  simp only [Option.bind_some]
  have f12:=fD f11.2 U1.1.toNat
  generalize gH U1.1.toNat U1.2=a12 at *
  rw [if_pos (by rw [f12.2.2]; simp only [List.length_nil]; omega)]
  by_cases c3:a12.2.2=true
  ·rw [if_pos c3,if_pos c3]
  rw [if_neg c3,if_neg c3]
  rw [List.nil_append]
  rw [Il hok.1 hn]
  simp only [Option.bind_some]
  generalize hO:((a1.1,a3.1,a5.1,a7.1,a8.1,a9.1,a10.1,a12.1,()):OpC)=o at *
  by_cases c4:iL o=0
  ·rw [if_neg (by simp [c4]),if_neg (by simp [c4]),TQ (YP c4 hok.2) hn]
   simp only [Option.bind_some]
   rw [if_pos ⟨by omega,by omega⟩]
   unfold xM
   simp only [Option.bind_some]
   by_cases c5:fF o=d.take M.toNat
   ·rw [if_neg (by simp [c5]),if_neg (by simp [c5])]
   ·rw [if_pos (by simp [c5]),if_pos c5]
  ·rw [if_pos (by simp [c4]),if_pos c4]
noncomputable def La (d:List Int):OpC×Int:=match wG R8 d with
 | none=>(zO,0)
 | some o=>(o,((fF o).length:Int))
theorem QA {d:List Int} (h:qA d):EP d=La d:=by
 unfold La
 by_cases hx:∃o,Is R8 d o
 ·obtain ⟨o,ho⟩:=hx
  rw [KU ho]
  obtain ⟨g1,g2,g3⟩:=IP ho.2
  have e1:(gq (d,false)).1=((fF o).length:Int):=by
   rw [←g2]
   unfold gq gH
   rw [if_neg (by simp; omega)]
   match d,g1 with
   | a :: b :: r,_=>rfl
  have hl:=uA o
  have hlb:=AY o
  have hle:=ho.2.length_le
  have e2:(if (gq (d,false)).1>2 then (gq (d,false)).1 else 2).toNat=(fF o).length:=by
   rw [if_pos (by omega)]; omega
  have e3:uO ((d.take (if (gq (d,false)).1>2 then (gq (d,false)).1 else 2).toNat).drop 2)=(o,(two (Ad (xq o)),false)):=by
   rw [e2,g3,yF,KT]
  unfold EP
  rw [e3,if_neg (by rw [Jv,decide_eq_true_eq]; omega),if_neg (by omega),if_neg (by simp),if_neg (fun hh=>hh ho.1),if_neg (fun hh=>hh (by rw [e1,Int.toNat_natCast,g3])),e1]
 ·rw [EL hx]
  unfold EP
  generalize (d.take (if (gq (d,false)).1>2 then (gq (d,false)).1 else 2).toNat).drop 2=E
  by_cases c1:(gq (d,false)).2.2=true
  ·rw [if_pos c1]
  rw [if_neg c1]
  by_cases c2:(gq (d,false)).1>(d.length:Int)
  ·rw [if_pos c2]
  rw [if_neg c2]
  by_cases c3:(uO E).2.2=true
  ·rw [if_pos c3]
  rw [if_neg c3]
  by_cases c4:iL (uO E).1=0
  ·rw [if_neg (fun hh=>hh c4)]
   by_cases c5:fF (uO E).1=d.take (gq (d,false)).1.toNat
   ·refine absurd ⟨(uO E).1,c4, ?_⟩ hx
    rw [c5]; exact List.take_prefix _ _
   ·rw [if_pos c5]
  ·rw [if_pos c4]
theorem Fx {n:Nat} {d:List Int} (h:qA d) (hb:d.length≤big) (hn:big<n):o7 n d=some ((La d).1,(La d).2,()):=by
 rw [MC h hb hn,QA h]
end Go.Proofs.YtailcbngagacaaaGreat.Df
