/- Reading of ops and journals, on both sides. -/
import Derived.Test.YtailcbngagacaabGreatOwF
import Derived.Test.YtailcbngagacaabGreatLoopLib
import Derived.Test.YtailcbngagacaabGreatPackLib
import Derived.Test.YtailcbngagacaabGreatStoreMath
import Derived.Test.YtailcbngagacaabGreatOpsMath
import Derived.Test.YtailcbngagacaabGreatGoodMath
import Derived.Test.YtailcbngagacaabGreatCodecMath
import Derived.Test.YtailcbngagacaabGreatCrashF
set_option linter.unusedSectionVars false
set_option linter.unusedVariables false
set_option linter.unusedSimpArgs false
namespace Go.Proofs.YtailcbngagacaabGreat.Ep
open Go Go.Proofs.YtailcbngagacaabGreat.Ow Go.Proofs.YtailcbngagacaabGreat.rq Go.Proofs.YtailcbngagacaabGreat.om Go.Proofs.YtailcbngagacaabGreat.Ab Go.Proofs.YtailcbngagacaabGreat.jl Go.Proofs.YtailcbngagacaabGreat.mQ Go.Proofs.YtailcbngagacaabGreat.y8 Go.Proofs.YtailcbngagacaabGreat.rE
abbrev st (t:Tk):List Int×Bool×Unit:=(t.1,t.2,())
theorem fE {t:Tk} (h:rO t.1) (k:Nat):rO (gJ k t).1∧rO (gJ k t).2.1∧(gJ k t).1.length=k:=by
 unfold gJ
 split
 ·exact ⟨XP k,h,by simp⟩
 ·rename_i hc
  exact ⟨zA h k,zy h k,by simp only [List.length_take]; omega⟩
theorem jr {t:Tk} (h:rO t.1):(0≤(iN t).1∧(iN t).1≤255)∧rO (iN t).2.1:=
 ⟨xz (fE h 1).1 0,(fE h 1).2.1⟩
theorem uL {t:Tk} (h:rO t.1):(0≤(gz t).1∧(gz t).1≤65535)∧rO (gz t).2.1:=by
 have h0:=xz (fE h 2).1 0
 have h1:=xz (fE h 2).1 1
 refine ⟨?_,(fE h 2).2.1⟩
 unfold gz
 simp only
 omega
theorem DN {t:Tk} (h:rO t.1):∀k,(pI t k).1.length=k∧rO (pI t k).2.1
 | 0=>⟨rfl,h⟩
 | k+1=>by
  have:=DN h k
  exact ⟨by simp [pI,this.1],(uL this.2).2⟩
theorem zQ {n:Nat} {t:Tk} {k:Nat} (hk:k≤65535):eY n (st t) (k:Int)=some ((gJ k t).1,st (gJ k t).2,()):=by
 obtain ⟨l,b⟩:=t
 unfold eY bN gJ
 cases b with
 | true=>
  simp only [if_true,true_or]
  rw [if_pos ⟨trivial,by omega,by omega⟩]
  rfl
 | false=>
  simp only [Bool.false_eq_true,if_false,false_or,Option.bind_some]
  by_cases hl:l.length<k
  ·rw [if_pos (by rw [decide_eq_true_eq]; omega),if_pos ⟨trivial,by omega,by omega⟩,if_pos hl]
   rfl
  ·rw [if_neg (by rw [decide_eq_true_eq]; omega),if_pos ⟨by omega,by omega⟩,if_pos ⟨by omega,by omega⟩,if_neg hl]
   rfl
theorem zG {n:Nat} {t:Tk} (h:rO t.1):eU n (st t)=some ((iN t).1,st (iN t).2,()):=by
 have hf:=jr h
 have hl:=(fE h 1).2.2
 unfold eU
 rw [show (1:Int)=((1:Nat):Int) from rfl,zQ (by omega)]
 simp only [Option.bind_some]
 rw [if_pos (by rw [hl]; exact ⟨by omega,by omega⟩)]
 have e:(gJ 1 t).1.getD (0:Int).toNat 0=(iN t).1:=rfl
 rw [e,wrap_i64 (by omega) (by omega)]
 rfl
theorem CV {n:Nat} {t:Tk} (h:rO t.1):gK n (st t)=some ((gz t).1,st (gz t).2,()):=by
 have hf:=uL h
 have hl:=(fE h 2).2.2
 have g0:=xz (fE h 2).1 0
 have g1:=xz (fE h 2).1 1
 unfold gK
 rw [show (2:Int)=((2:Nat):Int) from rfl,zQ (by omega)]
 simp only [Option.bind_some]
 rw [if_pos (by rw [hl]; exact ⟨by omega,by omega⟩),if_pos (by rw [hl]; exact ⟨by omega,by omega⟩)]
 rw [show (0:Int).toNat=0 from rfl,show (1:Int).toNat=1 from rfl]
 rw [wrap_i64 (x:=(gJ 2 t).1.getD 0 0) (by omega) (by omega),wrap_i64 (x:=(gJ 2 t).1.getD 1 0) (by omega) (by omega),wrap_i64 (x:=(gJ 2 t).1.getD 0 0 * 256) (by omega) (by omega),wrap_i64 (by omega) (by omega)]
 rfl
def R8 (o:OpC):Prop:=iW o=0
abbrev zO:OpC:=((0:Int),([]:List Int),([]:List Int),([]:List Int),(0:Int),(0:Int),(0:Int),([]:List Int),())
theorem Yt {d:List Int} (h:rO d):okO (wm d).1∧rO (wm d).1.2.2.2.2.2.2.2.1:=by
 have h1:=jr (t:=(d,false)) h
 have h2:=jr h1.2
 have h3:=fE h2.2 (iN (iN (d,false)).2).1.toNat
 have h4:=jr h3.2.1
 have h5:=fE h4.2 (iN (gJ (iN (iN (d,false)).2).1.toNat (iN (iN (d,false)).2).2).2).1.toNat
 have h6:=jr h5.2.1
 have h7:=DN h6.2 (iN (gJ (iN (gJ (iN (iN (d,false)).2).1.toNat (iN (iN (d,false)).2).2).2).1.toNat (iN (gJ (iN (iN (d,false)).2).1.toNat (iN (iN (d,false)).2).2).2).2).2).1.toNat
 have h8:=jr h7.2
 have h9:=jr h8.2
 have h10:=uL h9.2
 have h11:=uL h10.2
 have h12:=fE h11.2
 refine ⟨⟨?_, ?_, ?_, ?_⟩,(h12 _).1⟩
 ·show (gJ _ _).1.length≤big
  rw [h3.2.2]; unfold big; omega
 ·show (gJ _ _).1.length≤big
  rw [h5.2.2]; unfold big; omega
 ·show (pI _ _).1.length≤big
  rw [h7.1]; unfold big; omega
 ·show (gJ _ _).1.length≤big
  rw [(h12 _).2.2]; unfold big; omega
def Gl (d:List Int):OpC×Int:=
 if (gz (d,false)).2.2=true then (zO,0) else if (gz (d,false)).1>(d.length:Int) then (zO,0) else
 if (wm ((d.take (if (gz (d,false)).1>2 then (gz (d,false)).1 else 2).toNat).drop 2)).2.2=true then (zO,0) else
 if iW (wm ((d.take (if (gz (d,false)).1>2 then (gz (d,false)).1 else 2).toNat).drop 2)).1≠0 then (zO,0) else
 if fK (wm ((d.take (if (gz (d,false)).1>2 then (gz (d,false)).1 else 2).toNat).drop 2)).1≠d.take (gz (d,false)).1.toNat then (zO,0) else
 ((wm ((d.take (if (gz (d,false)).1>2 then (gz (d,false)).1 else 2).toNat).drop 2)).1,(gz (d,false)).1)
theorem KF {d:List Int}:(gz (d,false)).2.2=decide (d.length<2):=by
 unfold gz gJ
 by_cases h:d.length<2
 ·simp [h]
 ·simp [h]
theorem Z4 {o:OpC} (h:iW o=0) (hb:rO o.2.2.2.2.2.2.2.1):Qm o:=⟨right h,hb⟩
set_option maxRecDepth 20000 in
theorem NS {n:Nat} {d:List Int} (h:rO d) (hb:d.length≤big) (hn:big<n):qD n d=some ((Gl d).1,(Gl d).2,()):=by
 have hn':=hn
 have hb':d.length≤1048576:=hb
 unfold big at hn'
 have ht:=uL (t:=(d,false)) h
 unfold qD Gl
 rw [CV (t:=(d,false)) h]
 simp only [Option.bind_some]
 by_cases c1:(gz (d,false)).2.2=true
 ·rw [if_pos c1,if_pos c1]
 rw [if_neg c1,if_neg c1]
 rw [KF,decide_eq_true_eq] at c1
 unfold bN
 simp only [Option.bind_some]
 by_cases c2:(gz (d,false)).1>(d.length:Int)
 ·rw [if_pos (by rw [decide_eq_true_eq]; exact c2),if_pos c2]
 rw [if_neg (by rw [decide_eq_true_eq]; exact c2),if_neg c2]
 have hm:2≤(if (gz (d,false)).1>2 then (gz (d,false)).1 else 2)∧(if (gz (d,false)).1>2 then (gz (d,false)).1 else 2)≤(d.length:Int):=by
  split
  ·omega
  ·omega
 rw [if_pos ⟨by omega,hm⟩]
 have e2:(2:Int).toNat=2:=rfl
 have hE:rO ((d.take (if (gz (d,false)).1>2 then (gz (d,false)).1 else 2).toNat).drop 2):=zy (zA h _) 2
 have hs:(gz (d,false)).2.2=false:=by rw [KF,decide_eq_false_iff_not]; exact c1
 generalize hM:(gz (d,false)).1=M at *
 rw [e2]
 generalize hEE:(d.take (if M>2 then M else 2).toNat).drop 2=E at *
 have es:(E,(st (gz (d,false)).2).2)=st (E,false):=by simp only [st,hs]
 rw [es,zG hE]
 simp only [Option.bind_some]
 have f1:=jr (t:=(E,false)) hE
 generalize q1:iN (E,false)=a1 at *
 rw [zG f1.2]
 simp only [Option.bind_some]
 have f2:=jr f1.2
 generalize q2:iN a1.2=a2 at *
 have k2:((a2.1.toNat:Nat):Int)=a2.1:=by omega
 have t3:=zQ (n:=n) (t:=a2.2) (k:=a2.1.toNat) (by omega)
 rw [k2] at t3
 rw [t3]
 simp only [Option.bind_some]
 have f3:=fE f2.2 a2.1.toNat
 generalize q3:gJ a2.1.toNat a2.2=a3 at *
 rw [zG f3.2.1]
 simp only [Option.bind_some]
 have f4:=jr f3.2.1
 generalize q4:iN a3.2=a4 at *
 have k4:((a4.1.toNat:Nat):Int)=a4.1:=by omega
 have t5:=zQ (n:=n) (t:=a4.2) (k:=a4.1.toNat) (by omega)
 rw [k4] at t5
 rw [t5]
 simp only [Option.bind_some]
 have f5:=fE f4.2 a4.1.toNat
 generalize q5:gJ a4.1.toNat a4.2=a5 at *
 rw [zG f5.2.1]
 simp only [Option.bind_some]
 have f6:=jr f5.2.1
 generalize q6:iN a5.2=a6 at *
 have hR:wm E=((a1.1,a3.1,a5.1,(pI a6.2 a6.1.toNat).1,(iN (pI a6.2 a6.1.toNat).2).1,(iN (iN (pI a6.2 a6.1.toNat).2).2).1,(gz (iN (iN (pI a6.2 a6.1.toNat).2).2).2).1,
   (gJ (gz (gz (iN (iN (pI a6.2 a6.1.toNat).2).2).2).2).1.toNat (gz (gz (iN (iN (pI a6.2 a6.1.toNat).2).2).2).2).2).1,()),
   (gJ (gz (gz (iN (iN (pI a6.2 a6.1.toNat).2).2).2).2).1.toNat (gz (gz (iN (iN (pI a6.2 a6.1.toNat).2).2).2).2).2).2):=by
  simp only [wm,q1,q2,q3,q4,q5,q6]
 have hok:=Yt hE
 rw [hR] at hok ⊢
 have f7:=DN f6.2
 refine (aQ (fun i=>(d,M,a6.1,(i:Int),zO,(a1.1,a3.1,a5.1,(pI a6.2 i).1,(0:Int),(0:Int),(0:Int),([]:List Int),()),st (pI a6.2 i).2,())) (fun _=>none) _ (m:=a6.1.toNat) rfl (by omega) ?_ ?_).trans (bK (fun _ _ _=>rfl))
 ·intro L i hi _
  have hlt:(i:Int)<a6.1:=by omega
  simp only [hlt,decide_true,if_true,CV (f7 i).2,Option.bind_some]
  rw [if_pos (by rw [(f7 i).1,List.length_singleton]; omega),wrap_i64 (by omega) (by omega)]
  rfl
 ·intro L _
  have hge:¬((a6.1.toNat:Int)<a6.1):=by omega
  simp only [hge,decide_false,Bool.false_eq_true,if_false]
  have f7:=f7 a6.1.toNat
  generalize pI a6.2 a6.1.toNat=a7 at *
  rw [zG f7.2]
  simp only [Option.bind_some]
  have f8:=jr f7.2
  generalize iN a7.2=a8 at *
  rw [zG f8.2]
  simp only [Option.bind_some]
  have f9:=jr f8.2
  generalize iN a8.2=a9 at *
  rw [CV f9.2]
  simp only [Option.bind_some]
  have f10:=uL f9.2
  generalize gz a9.2=a10 at *
  rw [CV f10.2]
  simp only [Option.bind_some]
  have f11:=uL f10.2
  generalize gz a10.2=Ws at *
  have k11:((Ws.1.toNat:Nat):Int)=Ws.1:=by omega
  have t12:=zQ (n:=n) (t:=Ws.2) (k:=Ws.1.toNat) (by omega)
  rw [k11] at t12
  rw [t12]
  simp only [Option.bind_some]
  have f12:=fE f11.2 Ws.1.toNat
  generalize gJ Ws.1.toNat Ws.2=a12 at *
  rw [if_pos (by rw [f12.2.2]; simp only [List.length_nil]; omega)]
  by_cases c3:a12.2.2=true
  ·rw [if_pos c3,if_pos c3]
  rw [if_neg c3,if_neg c3]
  rw [List.nil_append]
  rw [JA hok.1 hn]
  simp only [Option.bind_some]
  generalize hO:((a1.1,a3.1,a5.1,a7.1,a8.1,a9.1,a10.1,a12.1,()):OpC)=o at *
  by_cases c4:iW o=0
  ·rw [if_neg (by simp [c4]),if_neg (by simp [c4]),Vk (Z4 c4 hok.2) hn]
   simp only [Option.bind_some]
   rw [if_pos ⟨by omega,by omega⟩]
   unfold yO
   simp only [Option.bind_some]
   by_cases c5:fK o=d.take M.toNat
   ·rw [if_neg (by simp [c5]),if_neg (by simp [c5])]
   ·rw [if_pos (by simp [c5]),if_pos c5]
  ·rw [if_pos (by simp [c4]),if_pos c4]
noncomputable def MH (d:List Int):OpC×Int:=match xJ R8 d with
 | none=>(zO,0)
 | some o=>(o,((fK o).length:Int))
theorem Sd {d:List Int} (h:rO d):Gl d=MH d:=by
 unfold MH
 by_cases hx:∃o,Is R8 d o
 ·obtain ⟨o,ho⟩:=hx
  rw [Mq ho]
  obtain ⟨g1,g2,g3⟩:=JV ho.2
  have e1:(gz (d,false)).1=((fK o).length:Int):=by
   rw [←g2]
   unfold gz gJ
   rw [if_neg (by simp; omega)]
   match d,g1 with
   | a :: b :: r,_=>rfl
  have hl:=vJ o
  have hlb:=Ce o
  have hle:=ho.2.length_le
  have e2:(if (gz (d,false)).1>2 then (gz (d,false)).1 else 2).toNat=(fK o).length:=by
   rw [if_pos (by omega)]; omega
  have e3:wm ((d.take (if (gz (d,false)).1>2 then (gz (d,false)).1 else 2).toNat).drop 2)=(o,(two (Bu (yt o)),false)):=by
   rw [e2,g3,zH,Mo]
  unfold Gl
  rw [e3,if_neg (by rw [KF,decide_eq_true_eq]; omega),if_neg (by omega),if_neg (by simp),if_neg (fun hh=>hh ho.1),if_neg (fun hh=>hh (by rw [e1,Int.toNat_natCast,g3])),e1]
 ·rw [Gg hx]
  unfold Gl
  generalize (d.take (if (gz (d,false)).1>2 then (gz (d,false)).1 else 2).toNat).drop 2=E
  by_cases c1:(gz (d,false)).2.2=true
  ·rw [if_pos c1]
  rw [if_neg c1]
  by_cases c2:(gz (d,false)).1>(d.length:Int)
  ·rw [if_pos c2]
  rw [if_neg c2]
  by_cases c3:(wm E).2.2=true
  ·rw [if_pos c3]
  rw [if_neg c3]
  by_cases c4:iW (wm E).1=0
  ·rw [if_neg (fun hh=>hh c4)]
   by_cases c5:fK (wm E).1=d.take (gz (d,false)).1.toNat
   ·refine absurd ⟨(wm E).1,c4, ?_⟩ hx
    rw [c5]; exact List.take_prefix _ _
   ·rw [if_pos c5]
  ·rw [if_pos c4]
theorem GU {n:Nat} {d:List Int} (h:rO d) (hb:d.length≤big) (hn:big<n):qD n d=some ((MH d).1,(MH d).2,()):=by
 rw [NS h hb hn,Sd h]
end Go.Proofs.YtailcbngagacaabGreat.Ep
