/- Reading of ops and journals, on both sides. -/
import Derived.Test.YtailcbngagacaaaGreatOwF
import Derived.Test.YtailcbngagacaaaGreatLoopLib
import Derived.Test.YtailcbngagacaaaGreatPackLib
import Derived.Test.YtailcbngagacaaaGreatStoreMath
import Derived.Test.YtailcbngagacaaaGreatOpsMath
import Derived.Test.YtailcbngagacaaaGreatGoodMath
import Derived.Test.YtailcbngagacaaaGreatCodecMath
import Derived.Test.YtailcbngagacaaaGreatRecF
set_option linter.unusedSectionVars false
set_option linter.unusedVariables false
set_option linter.unusedSimpArgs false
namespace Go.Proofs.YtailcbngagacaaaGreat.Ee
open Go Go.Proofs.YtailcbngagacaaaGreat.Ow Go.Proofs.YtailcbngagacaaaGreat.FD Go.Proofs.YtailcbngagacaaaGreat.qM Go.Proofs.YtailcbngagacaaaGreat.zU Go.Proofs.YtailcbngagacaaaGreat.lN Go.Proofs.YtailcbngagacaaaGreat.og Go.Proofs.YtailcbngagacaaaGreat.yT Go.Proofs.YtailcbngagacaaaGreat.tY
abbrev st (t:Tk):List Int×Bool×Unit:=(t.1,t.2,())
theorem fD {t:Tk} (h:rH t.1) (k:Nat):rH (gG k t).1∧rH (gG k t).2.1∧(gG k t).1.length=k:=by
 unfold gG
 split
 ·exact ⟨XA k,h,by simp⟩
 ·rename_i hc
  exact ⟨zm h k,zl h k,by simp only [List.length_take]; omega⟩
theorem jl {t:Tk} (h:rH t.1):(0≤(iH t).1∧(iH t).1≤255)∧rH (iH t).2.1:=
 ⟨xq (fD h 1).1 0,(fD h 1).2.1⟩
theorem uJ {t:Tk} (h:rH t.1):(0≤(gy t).1∧(gy t).1≤65535)∧rH (gy t).2.1:=by
 have h0:=xq (fD h 2).1 0
 have h1:=xq (fD h 2).1 1
 refine ⟨?_,(fD h 2).2.1⟩
 unfold gy
 simp only
 omega
theorem Dy {t:Tk} (h:rH t.1):∀k,(pE t k).1.length=k∧rH (pE t k).2.1
 | 0=>⟨rfl,h⟩
 | k+1=>by
  have:=Dy h k
  exact ⟨by simp [pE,this.1],(uJ this.2).2⟩
theorem zH {n:Nat} {t:Tk} {k:Nat} (hk:k≤65535):eU n (st t) (k:Int)=some ((gG k t).1,st (gG k t).2,()):=by
 obtain ⟨l,b⟩:=t
 unfold eU cB gG
 cases b with
 | true=>
  simp only [if_true,true_or]
  rw [if_pos ⟨trivial,by omega,by omega⟩]
  rfl
 | false=>
  simp only [Bool.false_eq_true,if_false,false_or,Option.bind_some]
  by_cases hl:l.length<k
  ·rw [if_pos (by rw [decide_eq_true_eq]; omega),if_pos ⟨trivial,by omega,by omega⟩,if_pos hl]
   rfl
  ·rw [if_neg (by rw [decide_eq_true_eq]; omega),if_pos ⟨by omega,by omega⟩,if_pos ⟨by omega,by omega⟩,if_neg hl]
   rfl
theorem zu {n:Nat} {t:Tk} (h:rH t.1):eO n (st t)=some ((iH t).1,st (iH t).2,()):=by
 have hf:=jl h
 have hl:=(fD h 1).2.2
 unfold eO
 rw [show (1:Int)=((1:Nat):Int) from rfl,zH (by omega)]
 simp only [Option.bind_some]
 rw [if_pos (by rw [hl]; exact ⟨by omega,by omega⟩)]
 have e:(gG 1 t).1.getD (0:Int).toNat 0=(iH t).1:=rfl
 rw [e,wrap_i64 (by omega) (by omega)]
 rfl
theorem CG {n:Nat} {t:Tk} (h:rH t.1):gH n (st t)=some ((gy t).1,st (gy t).2,()):=by
 have hf:=uJ h
 have hl:=(fD h 2).2.2
 have g0:=xq (fD h 2).1 0
 have g1:=xq (fD h 2).1 1
 unfold gH
 rw [show (2:Int)=((2:Nat):Int) from rfl,zH (by omega)]
 simp only [Option.bind_some]
 rw [if_pos (by rw [hl]; exact ⟨by omega,by omega⟩),if_pos (by rw [hl]; exact ⟨by omega,by omega⟩)]
 rw [show (0:Int).toNat=0 from rfl,show (1:Int).toNat=1 from rfl]
 rw [wrap_i64 (x:=(gG 2 t).1.getD 0 0) (by omega) (by omega),wrap_i64 (x:=(gG 2 t).1.getD 1 0) (by omega) (by omega),wrap_i64 (x:=(gG 2 t).1.getD 0 0 * 256) (by omega) (by omega),wrap_i64 (by omega) (by omega)]
 rfl
def R8 (o:OpC):Prop:=iR o=0
abbrev zO:OpC:=((0:Int),([]:List Int),([]:List Int),([]:List Int),(0:Int),(0:Int),(0:Int),([]:List Int),())
theorem Yd {d:List Int} (h:rH d):okO (vW d).1∧rH (vW d).1.2.2.2.2.2.2.2.1:=by
 have h1:=jl (t:=(d,false)) h
 have h2:=jl h1.2
 have h3:=fD h2.2 (iH (iH (d,false)).2).1.toNat
 have h4:=jl h3.2.1
 have h5:=fD h4.2 (iH (gG (iH (iH (d,false)).2).1.toNat (iH (iH (d,false)).2).2).2).1.toNat
 have h6:=jl h5.2.1
 have h7:=Dy h6.2 (iH (gG (iH (gG (iH (iH (d,false)).2).1.toNat (iH (iH (d,false)).2).2).2).1.toNat (iH (gG (iH (iH (d,false)).2).1.toNat (iH (iH (d,false)).2).2).2).2).2).1.toNat
 have h8:=jl h7.2
 have h9:=jl h8.2
 have h10:=uJ h9.2
 have h11:=uJ h10.2
 have h12:=fD h11.2
 refine ⟨⟨?_, ?_, ?_, ?_⟩,(h12 _).1⟩
 ·show (gG _ _).1.length≤big
  rw [h3.2.2]; unfold big; omega
 ·show (gG _ _).1.length≤big
  rw [h5.2.2]; unfold big; omega
 ·show (pE _ _).1.length≤big
  rw [h7.1]; unfold big; omega
 ·show (gG _ _).1.length≤big
  rw [(h12 _).2.2]; unfold big; omega
def Gd (d:List Int):OpC×Int:=
 if (gy (d,false)).2.2=true then (zO,0) else if (gy (d,false)).1>(d.length:Int) then (zO,0) else
 if (vW ((d.take (if (gy (d,false)).1>2 then (gy (d,false)).1 else 2).toNat).drop 2)).2.2=true then (zO,0) else
 if iR (vW ((d.take (if (gy (d,false)).1>2 then (gy (d,false)).1 else 2).toNat).drop 2)).1≠0 then (zO,0) else
 if fI (vW ((d.take (if (gy (d,false)).1>2 then (gy (d,false)).1 else 2).toNat).drop 2)).1≠d.take (gy (d,false)).1.toNat then (zO,0) else
 ((vW ((d.take (if (gy (d,false)).1>2 then (gy (d,false)).1 else 2).toNat).drop 2)).1,(gy (d,false)).1)
theorem Ky {d:List Int}:(gy (d,false)).2.2=decide (d.length<2):=by
 unfold gy gG
 by_cases h:d.length<2
 ·simp [h]
 ·simp [h]
theorem ZQ {o:OpC} (h:iR o=0) (hb:rH o.2.2.2.2.2.2.2.1):Qd o:=⟨right h,hb⟩
set_option maxRecDepth 20000 in
theorem NF {n:Nat} {d:List Int} (h:rH d) (hb:d.length≤big) (hn:big<n):qz n d=some ((Gd d).1,(Gd d).2,()):=by
 have hn':=hn
 have hb':d.length≤1048576:=hb
 unfold big at hn'
 have ht:=uJ (t:=(d,false)) h
 unfold qz Gd
 rw [CG (t:=(d,false)) h]
 simp only [Option.bind_some]
 by_cases c1:(gy (d,false)).2.2=true
 ·rw [if_pos c1,if_pos c1]
 rw [if_neg c1,if_neg c1]
 rw [Ky,decide_eq_true_eq] at c1
 unfold cB
 simp only [Option.bind_some]
 by_cases c2:(gy (d,false)).1>(d.length:Int)
 ·rw [if_pos (by rw [decide_eq_true_eq]; exact c2),if_pos c2]
 rw [if_neg (by rw [decide_eq_true_eq]; exact c2),if_neg c2]
 have hm:2≤(if (gy (d,false)).1>2 then (gy (d,false)).1 else 2)∧(if (gy (d,false)).1>2 then (gy (d,false)).1 else 2)≤(d.length:Int):=by
  split
  ·omega
  ·omega
 rw [if_pos ⟨by omega,hm⟩]
 have e2:(2:Int).toNat=2:=rfl
 have hE:rH ((d.take (if (gy (d,false)).1>2 then (gy (d,false)).1 else 2).toNat).drop 2):=zl (zm h _) 2
 have hs:(gy (d,false)).2.2=false:=by rw [Ky,decide_eq_false_iff_not]; exact c1
 generalize hM:(gy (d,false)).1=M at *
 rw [e2]
 generalize hEE:(d.take (if M>2 then M else 2).toNat).drop 2=E at *
 have es:(E,(st (gy (d,false)).2).2)=st (E,false):=by simp only [st,hs]
 rw [es,zu hE]
 simp only [Option.bind_some]
 have f1:=jl (t:=(E,false)) hE
 generalize q1:iH (E,false)=a1 at *
 rw [zu f1.2]
 simp only [Option.bind_some]
 have f2:=jl f1.2
 generalize q2:iH a1.2=a2 at *
 have k2:((a2.1.toNat:Nat):Int)=a2.1:=by omega
 have t3:=zH (n:=n) (t:=a2.2) (k:=a2.1.toNat) (by omega)
 rw [k2] at t3
 rw [t3]
 simp only [Option.bind_some]
 have f3:=fD f2.2 a2.1.toNat
 generalize q3:gG a2.1.toNat a2.2=a3 at *
 rw [zu f3.2.1]
 simp only [Option.bind_some]
 have f4:=jl f3.2.1
 generalize q4:iH a3.2=a4 at *
 have k4:((a4.1.toNat:Nat):Int)=a4.1:=by omega
 have t5:=zH (n:=n) (t:=a4.2) (k:=a4.1.toNat) (by omega)
 rw [k4] at t5
 rw [t5]
 simp only [Option.bind_some]
 have f5:=fD f4.2 a4.1.toNat
 generalize q5:gG a4.1.toNat a4.2=a5 at *
 rw [zu f5.2.1]
 simp only [Option.bind_some]
 have f6:=jl f5.2.1
 generalize q6:iH a5.2=a6 at *
 have hR:vW E=((a1.1,a3.1,a5.1,(pE a6.2 a6.1.toNat).1,(iH (pE a6.2 a6.1.toNat).2).1,(iH (iH (pE a6.2 a6.1.toNat).2).2).1,(gy (iH (iH (pE a6.2 a6.1.toNat).2).2).2).1,
   (gG (gy (gy (iH (iH (pE a6.2 a6.1.toNat).2).2).2).2).1.toNat (gy (gy (iH (iH (pE a6.2 a6.1.toNat).2).2).2).2).2).1,()),
   (gG (gy (gy (iH (iH (pE a6.2 a6.1.toNat).2).2).2).2).1.toNat (gy (gy (iH (iH (pE a6.2 a6.1.toNat).2).2).2).2).2).2):=by
  simp only [vW,q1,q2,q3,q4,q5,q6]
 have hok:=Yd hE
 rw [hR] at hok ⊢
 have f7:=Dy f6.2
 refine (aR (fun i=>(d,M,a6.1,(i:Int),zO,(a1.1,a3.1,a5.1,(pE a6.2 i).1,(0:Int),(0:Int),(0:Int),([]:List Int),()),st (pE a6.2 i).2,())) (fun _=>none) _ (m:=a6.1.toNat) rfl (by omega) ?_ ?_).trans (bL (fun _ _ _=>rfl))
 ·intro L i hi _
  have hlt:(i:Int)<a6.1:=by omega
  simp only [hlt,decide_true,if_true,CG (f7 i).2,Option.bind_some]
  rw [if_pos (by rw [(f7 i).1,List.length_singleton]; omega),wrap_i64 (by omega) (by omega)]
  rfl
 ·intro L _
  have hge:¬((a6.1.toNat:Int)<a6.1):=by omega
  simp only [hge,decide_false,Bool.false_eq_true,if_false]
  have f7:=f7 a6.1.toNat
  generalize pE a6.2 a6.1.toNat=a7 at *
  rw [zu f7.2]
  simp only [Option.bind_some]
  have f8:=jl f7.2
  generalize iH a7.2=a8 at *
  rw [zu f8.2]
  simp only [Option.bind_some]
  have f9:=jl f8.2
  generalize iH a8.2=a9 at *
  rw [CG f9.2]
  simp only [Option.bind_some]
  have f10:=uJ f9.2
  generalize gy a9.2=a10 at *
  rw [CG f10.2]
  simp only [Option.bind_some]
  have f11:=uJ f10.2
  generalize gy a10.2=V7 at *
  have k11:((V7.1.toNat:Nat):Int)=V7.1:=by omega
  have t12:=zH (n:=n) (t:=V7.2) (k:=V7.1.toNat) (by omega)
  rw [k11] at t12
  rw [t12]
  simp only [Option.bind_some]
  have f12:=fD f11.2 V7.1.toNat
  generalize gG V7.1.toNat V7.2=a12 at *
  rw [if_pos (by rw [f12.2.2]; simp only [List.length_nil]; omega)]
  by_cases c3:a12.2.2=true
  ·rw [if_pos c3,if_pos c3]
  rw [if_neg c3,if_neg c3]
  rw [List.nil_append]
  rw [Jt hok.1 hn]
  simp only [Option.bind_some]
  generalize hO:((a1.1,a3.1,a5.1,a7.1,a8.1,a9.1,a10.1,a12.1,()):OpC)=o at *
  by_cases c4:iR o=0
  ·rw [if_neg (by simp [c4]),if_neg (by simp [c4]),U8 (ZQ c4 hok.2) hn]
   simp only [Option.bind_some]
   rw [if_pos ⟨by omega,by omega⟩]
   unfold yH
   simp only [Option.bind_some]
   by_cases c5:fI o=d.take M.toNat
   ·rw [if_neg (by simp [c5]),if_neg (by simp [c5])]
   ·rw [if_pos (by simp [c5]),if_pos c5]
  ·rw [if_pos (by simp [c4]),if_pos c4]
noncomputable def Mt (d:List Int):OpC×Int:=match xD R8 d with
 | none=>(zO,0)
 | some o=>(o,((fI o).length:Int))
theorem RV {d:List Int} (h:rH d):Gd d=Mt d:=by
 unfold Mt
 by_cases hx:∃o,Is R8 d o
 ·obtain ⟨o,ho⟩:=hx
  rw [Mf ho]
  obtain ⟨g1,g2,g3⟩:=JO ho.2
  have e1:(gy (d,false)).1=((fI o).length:Int):=by
   rw [←g2]
   unfold gy gG
   rw [if_neg (by simp; omega)]
   match d,g1 with
   | a :: b :: r,_=>rfl
  have hl:=vG o
  have hlb:=BS o
  have hle:=ho.2.length_le
  have e2:(if (gy (d,false)).1>2 then (gy (d,false)).1 else 2).toNat=(fI o).length:=by
   rw [if_pos (by omega)]; omega
  have e3:vW ((d.take (if (gy (d,false)).1>2 then (gy (d,false)).1 else 2).toNat).drop 2)=(o,(two (Bg (yf o)),false)):=by
   rw [e2,g3,zw,Me]
  unfold Gd
  rw [e3,if_neg (by rw [Ky,decide_eq_true_eq]; omega),if_neg (by omega),if_neg (by simp),if_neg (fun hh=>hh ho.1),if_neg (fun hh=>hh (by rw [e1,Int.toNat_natCast,g3])),e1]
 ·rw [F9 hx]
  unfold Gd
  generalize (d.take (if (gy (d,false)).1>2 then (gy (d,false)).1 else 2).toNat).drop 2=E
  by_cases c1:(gy (d,false)).2.2=true
  ·rw [if_pos c1]
  rw [if_neg c1]
  by_cases c2:(gy (d,false)).1>(d.length:Int)
  ·rw [if_pos c2]
  rw [if_neg c2]
  by_cases c3:(vW E).2.2=true
  ·rw [if_pos c3]
  rw [if_neg c3]
  by_cases c4:iR (vW E).1=0
  ·rw [if_neg (fun hh=>hh c4)]
   by_cases c5:fI (vW E).1=d.take (gy (d,false)).1.toNat
   ·refine absurd ⟨(vW E).1,c4, ?_⟩ hx
    rw [c5]; exact List.take_prefix _ _
   ·rw [if_pos c5]
  ·rw [if_pos c4]
theorem GJ {n:Nat} {d:List Int} (h:rH d) (hb:d.length≤big) (hn:big<n):qz n d=some ((Mt d).1,(Mt d).2,()):=by
 rw [NF h hb hn,RV h]
end Go.Proofs.YtailcbngagacaaaGreat.Ee
