/- Reading of ops and journals, on both sides. -/
import Derived.Test.YtailcbngagacaabGreatOwF
import Derived.Test.YtailcbngagacaabGreatLoopLib
import Derived.Test.YtailcbngagacaabGreatPackLib
import Derived.Test.YtailcbngagacaabGreatStoreMath
import Derived.Test.YtailcbngagacaabGreatOpsMath
import Derived.Test.YtailcbngagacaabGreatGoodMath
import Derived.Test.YtailcbngagacaabGreatCodecMath
import Derived.Test.YtailcbngagacaabGreatFlushF
set_option linter.unusedSectionVars false
set_option linter.unusedVariables false
set_option linter.unusedSimpArgs false
namespace Go.Proofs.YtailcbngagacaabGreat.Eu
open Go Go.Proofs.YtailcbngagacaabGreat.Ow Go.Proofs.YtailcbngagacaabGreat.ry Go.Proofs.YtailcbngagacaabGreat.om Go.Proofs.YtailcbngagacaabGreat.Ag Go.Proofs.YtailcbngagacaabGreat.jm Go.Proofs.YtailcbngagacaabGreat.mW Go.Proofs.YtailcbngagacaabGreat.zf Go.Proofs.YtailcbngagacaabGreat.rF
abbrev st (t:Tk):List Int×Bool×Unit:=(t.1,t.2,())
theorem fE {t:Tk} (h:rP t.1) (k:Nat):rP (gJ k t).1∧rP (gJ k t).2.1∧(gJ k t).1.length=k:=by
 unfold gJ
 split
 ·exact ⟨XX k,h,by simp⟩
 ·rename_i hc
  exact ⟨zG h k,zF h k,by simp only [List.length_take]; omega⟩
theorem jv {t:Tk} (h:rP t.1):(0≤(iN t).1∧(iN t).1≤255)∧rP (iN t).2.1:=
 ⟨xC (fE h 1).1 0,(fE h 1).2.1⟩
theorem uM {t:Tk} (h:rP t.1):(0≤(gz t).1∧(gz t).1≤65535)∧rP (gz t).2.1:=by
 have h0:=xC (fE h 2).1 0
 have h1:=xC (fE h 2).1 1
 refine ⟨?_,(fE h 2).2.1⟩
 unfold gz
 simp only
 omega
theorem DU {t:Tk} (h:rP t.1):∀k,(pI t k).1.length=k∧rP (pI t k).2.1
 | 0=>⟨rfl,h⟩
 | k+1=>by
  have:=DU h k
  exact ⟨by simp [pI,this.1],(uM this.2).2⟩
theorem zV {n:Nat} {t:Tk} {k:Nat} (hk:k≤65535):eX n (st t) (k:Int)=some ((gJ k t).1,st (gJ k t).2,()):=by
 obtain ⟨l,b⟩:=t
 unfold eX cB gJ
 cases b with
 | true=>
  simp only [if_true,true_or]
  rw [if_pos ⟨trivial,by omega,by omega⟩]
  rfl
 | false=>
  simp only [Bool.false_eq_true,if_false,false_or,Option.bind_some]
  by_cases hl:l.length<k
  ·rw [if_pos (by rw [decide_eq_true_eq]; omega),if_pos ⟨trivial,by omega,by omega⟩,if_pos hl]
   rfl
  ·rw [if_neg (by rw [decide_eq_true_eq]; omega),if_pos ⟨by omega,by omega⟩,if_pos ⟨by omega,by omega⟩,if_neg hl]
   rfl
theorem zL {n:Nat} {t:Tk} (h:rP t.1):eT n (st t)=some ((iN t).1,st (iN t).2,()):=by
 have hf:=jv h
 have hl:=(fE h 1).2.2
 unfold eT
 rw [show (1:Int)=((1:Nat):Int) from rfl,zV (by omega)]
 simp only [Option.bind_some]
 rw [if_pos (by rw [hl]; exact ⟨by omega,by omega⟩)]
 have e:(gJ 1 t).1.getD (0:Int).toNat 0=(iN t).1:=rfl
 rw [e,wrap_i64 (by omega) (by omega)]
 rfl
theorem CZ {n:Nat} {t:Tk} (h:rP t.1):gK n (st t)=some ((gz t).1,st (gz t).2,()):=by
 have hf:=uM h
 have hl:=(fE h 2).2.2
 have g0:=xC (fE h 2).1 0
 have g1:=xC (fE h 2).1 1
 unfold gK
 rw [show (2:Int)=((2:Nat):Int) from rfl,zV (by omega)]
 simp only [Option.bind_some]
 rw [if_pos (by rw [hl]; exact ⟨by omega,by omega⟩),if_pos (by rw [hl]; exact ⟨by omega,by omega⟩)]
 rw [show (0:Int).toNat=0 from rfl,show (1:Int).toNat=1 from rfl]
 rw [wrap_i64 (x:=(gJ 2 t).1.getD 0 0) (by omega) (by omega),wrap_i64 (x:=(gJ 2 t).1.getD 1 0) (by omega) (by omega),wrap_i64 (x:=(gJ 2 t).1.getD 0 0 * 256) (by omega) (by omega),wrap_i64 (by omega) (by omega)]
 rfl
def R8 (o:OpC):Prop:=iW o=0
abbrev zO:OpC:=((0:Int),([]:List Int),([]:List Int),([]:List Int),(0:Int),(0:Int),(0:Int),([]:List Int),())
theorem YA {d:List Int} (h:rP d):okO (wu d).1∧rP (wu d).1.2.2.2.2.2.2.2.1:=by
 have h1:=jv (t:=(d,false)) h
 have h2:=jv h1.2
 have h3:=fE h2.2 (iN (iN (d,false)).2).1.toNat
 have h4:=jv h3.2.1
 have h5:=fE h4.2 (iN (gJ (iN (iN (d,false)).2).1.toNat (iN (iN (d,false)).2).2).2).1.toNat
 have h6:=jv h5.2.1
 have h7:=DU h6.2 (iN (gJ (iN (gJ (iN (iN (d,false)).2).1.toNat (iN (iN (d,false)).2).2).2).1.toNat (iN (gJ (iN (iN (d,false)).2).1.toNat (iN (iN (d,false)).2).2).2).2).2).1.toNat
 have h8:=jv h7.2
 have h9:=jv h8.2
 have h10:=uM h9.2
 have h11:=uM h10.2
 have h12:=fE h11.2
 refine ⟨⟨?_, ?_, ?_, ?_⟩,(h12 _).1⟩
 ·show (gJ _ _).1.length≤big
  rw [h3.2.2]; unfold big; omega
 ·show (gJ _ _).1.length≤big
  rw [h5.2.2]; unfold big; omega
 ·show (pI _ _).1.length≤big
  rw [h7.1]; unfold big; omega
 ·show (gJ _ _).1.length≤big
  rw [(h12 _).2.2]; unfold big; omega
def Gp (d:List Int):OpC×Int:=
 if (gz (d,false)).2.2=true then (zO,0) else if (gz (d,false)).1>(d.length:Int) then (zO,0) else
 if (wu ((d.take (if (gz (d,false)).1>2 then (gz (d,false)).1 else 2).toNat).drop 2)).2.2=true then (zO,0) else
 if iW (wu ((d.take (if (gz (d,false)).1>2 then (gz (d,false)).1 else 2).toNat).drop 2)).1≠0 then (zO,0) else
 if fK (wu ((d.take (if (gz (d,false)).1>2 then (gz (d,false)).1 else 2).toNat).drop 2)).1≠d.take (gz (d,false)).1.toNat then (zO,0) else
 ((wu ((d.take (if (gz (d,false)).1>2 then (gz (d,false)).1 else 2).toNat).drop 2)).1,(gz (d,false)).1)
theorem KI {d:List Int}:(gz (d,false)).2.2=decide (d.length<2):=by
 unfold gz gJ
 by_cases h:d.length<2
 ·simp [h]
 ·simp [h]
theorem aac {o:OpC} (h:iW o=0) (hb:rP o.2.2.2.2.2.2.2.1):Qr o:=⟨right h,hb⟩
set_option maxRecDepth 20000 in
theorem NV {n:Nat} {d:List Int} (h:rP d) (hb:d.length≤big) (hn:big<n):qD n d=some ((Gp d).1,(Gp d).2,()):=by
 have hn':=hn
 have hb':d.length≤1048576:=hb
 unfold big at hn'
 have ht:=uM (t:=(d,false)) h
 unfold qD Gp
 rw [CZ (t:=(d,false)) h]
 simp only [Option.bind_some]
 by_cases c1:(gz (d,false)).2.2=true
 ·rw [if_pos c1,if_pos c1]
 rw [if_neg c1,if_neg c1]
 rw [KI,decide_eq_true_eq] at c1
 unfold cB
 simp only [Option.bind_some]
 by_cases c2:(gz (d,false)).1>(d.length:Int)
 ·rw [if_pos (by rw [decide_eq_true_eq]; exact c2),if_pos c2]
 rw [if_neg (by rw [decide_eq_true_eq]; exact c2),if_neg c2]
 have hm:2≤(if (gz (d,false)).1>2 then (gz (d,false)).1 else 2)∧(if (gz (d,false)).1>2 then (gz (d,false)).1 else 2)≤(d.length:Int):=by
  split
  ·omega
  ·omega
 rw [if_pos ⟨by omega,hm⟩]
 have e2:(2:Int).toNat=2:=rfl
 have hE:rP ((d.take (if (gz (d,false)).1>2 then (gz (d,false)).1 else 2).toNat).drop 2):=zF (zG h _) 2
 have hs:(gz (d,false)).2.2=false:=by rw [KI,decide_eq_false_iff_not]; exact c1
 generalize hM:(gz (d,false)).1=M at *
 rw [e2]
 generalize hEE:(d.take (if M>2 then M else 2).toNat).drop 2=E at *
 have es:(E,(st (gz (d,false)).2).2)=st (E,false):=by simp only [st,hs]
 rw [es,zL hE]
 simp only [Option.bind_some]
 have f1:=jv (t:=(E,false)) hE
 generalize q1:iN (E,false)=a1 at *
 rw [zL f1.2]
 simp only [Option.bind_some]
 have f2:=jv f1.2
 generalize q2:iN a1.2=a2 at *
 have k2:((a2.1.toNat:Nat):Int)=a2.1:=by omega
 have t3:=zV (n:=n) (t:=a2.2) (k:=a2.1.toNat) (by omega)
 rw [k2] at t3
 rw [t3]
 simp only [Option.bind_some]
 have f3:=fE f2.2 a2.1.toNat
 generalize q3:gJ a2.1.toNat a2.2=a3 at *
 rw [zL f3.2.1]
 simp only [Option.bind_some]
 have f4:=jv f3.2.1
 generalize q4:iN a3.2=a4 at *
 have k4:((a4.1.toNat:Nat):Int)=a4.1:=by omega
 have t5:=zV (n:=n) (t:=a4.2) (k:=a4.1.toNat) (by omega)
 rw [k4] at t5
 rw [t5]
 simp only [Option.bind_some]
 have f5:=fE f4.2 a4.1.toNat
 generalize q5:gJ a4.1.toNat a4.2=a5 at *
 rw [zL f5.2.1]
 simp only [Option.bind_some]
 have f6:=jv f5.2.1
 generalize q6:iN a5.2=a6 at *
 have hR:wu E=((a1.1,a3.1,a5.1,(pI a6.2 a6.1.toNat).1,(iN (pI a6.2 a6.1.toNat).2).1,(iN (iN (pI a6.2 a6.1.toNat).2).2).1,(gz (iN (iN (pI a6.2 a6.1.toNat).2).2).2).1,
   (gJ (gz (gz (iN (iN (pI a6.2 a6.1.toNat).2).2).2).2).1.toNat (gz (gz (iN (iN (pI a6.2 a6.1.toNat).2).2).2).2).2).1,()),
   (gJ (gz (gz (iN (iN (pI a6.2 a6.1.toNat).2).2).2).2).1.toNat (gz (gz (iN (iN (pI a6.2 a6.1.toNat).2).2).2).2).2).2):=by
  simp only [wu,q1,q2,q3,q4,q5,q6]
 have hok:=YA hE
 rw [hR] at hok ⊢
 have f7:=DU f6.2
 refine (aQ (fun i=>(d,M,a6.1,(i:Int),zO,(a1.1,a3.1,a5.1,(pI a6.2 i).1,(0:Int),(0:Int),(0:Int),([]:List Int),()),st (pI a6.2 i).2,())) (fun _=>none) _ (m:=a6.1.toNat) rfl (by omega) ?_ ?_).trans (bK (fun _ _ _=>rfl))
 ·intro L i hi _
  have hlt:(i:Int)<a6.1:=by omega
  simp only [hlt,decide_true,if_true,CZ (f7 i).2,Option.bind_some]
  rw [if_pos (by rw [(f7 i).1,List.length_singleton]; omega),wrap_i64 (by omega) (by omega)]
  rfl
 ·intro L _
  have hge:¬((a6.1.toNat:Int)<a6.1):=by omega
  simp only [hge,decide_false,Bool.false_eq_true,if_false]
  have f7:=f7 a6.1.toNat
  generalize pI a6.2 a6.1.toNat=a7 at *
  rw [zL f7.2]
  simp only [Option.bind_some]
  have f8:=jv f7.2
  generalize iN a7.2=a8 at *
  rw [zL f8.2]
  simp only [Option.bind_some]
  have f9:=jv f8.2
  generalize iN a8.2=a9 at *
  rw [CZ f9.2]
  simp only [Option.bind_some]
  have f10:=uM f9.2
  generalize gz a9.2=a10 at *
  rw [CZ f10.2]
  simp only [Option.bind_some]
  have f11:=uM f10.2
  generalize gz a10.2=Wz at *
  have k11:((Wz.1.toNat:Nat):Int)=Wz.1:=by omega
  have t12:=zV (n:=n) (t:=Wz.2) (k:=Wz.1.toNat) (by omega)
  rw [k11] at t12
  rw [t12]
  simp only [Option.bind_some]
  have f12:=fE f11.2 Wz.1.toNat
  generalize gJ Wz.1.toNat Wz.2=a12 at *
  rw [if_pos (by rw [f12.2.2]; simp only [List.length_nil]; omega)]
  by_cases c3:a12.2.2=true
  ·rw [if_pos c3,if_pos c3]
  rw [if_neg c3,if_neg c3]
  rw [List.nil_append]
  rw [JC hok.1 hn]
  simp only [Option.bind_some]
  generalize hO:((a1.1,a3.1,a5.1,a7.1,a8.1,a9.1,a10.1,a12.1,()):OpC)=o at *
  by_cases c4:iW o=0
  ·rw [if_neg (by simp [c4]),if_neg (by simp [c4]),Vp (aac c4 hok.2) hn]
   simp only [Option.bind_some]
   rw [if_pos ⟨by omega,by omega⟩]
   unfold yS
   simp only [Option.bind_some]
   by_cases c5:fK o=d.take M.toNat
   ·rw [if_neg (by simp [c5]),if_neg (by simp [c5])]
   ·rw [if_pos (by simp [c5]),if_pos c5]
  ·rw [if_pos (by simp [c4]),if_pos c4]
noncomputable def MK (d:List Int):OpC×Int:=match xM R8 d with
 | none=>(zO,0)
 | some o=>(o,((fK o).length:Int))
theorem Si {d:List Int} (h:rP d):Gp d=MK d:=by
 unfold MK
 by_cases hx:∃o,Is R8 d o
 ·obtain ⟨o,ho⟩:=hx
  rw [Mt ho]
  obtain ⟨g1,g2,g3⟩:=JY ho.2
  have e1:(gz (d,false)).1=((fK o).length:Int):=by
   rw [←g2]
   unfold gz gJ
   rw [if_neg (by simp; omega)]
   match d,g1 with
   | a :: b :: r,_=>rfl
  have hl:=vK o
  have hlb:=Ci o
  have hle:=ho.2.length_le
  have e2:(if (gz (d,false)).1>2 then (gz (d,false)).1 else 2).toNat=(fK o).length:=by
   rw [if_pos (by omega)]; omega
  have e3:wu ((d.take (if (gz (d,false)).1>2 then (gz (d,false)).1 else 2).toNat).drop 2)=(o,(two (BA (yz o)),false)):=by
   rw [e2,g3,zM,Ms]
  unfold Gp
  rw [e3,if_neg (by rw [KI,decide_eq_true_eq]; omega),if_neg (by omega),if_neg (by simp),if_neg (fun hh=>hh ho.1),if_neg (fun hh=>hh (by rw [e1,Int.toNat_natCast,g3])),e1]
 ·rw [Gj hx]
  unfold Gp
  generalize (d.take (if (gz (d,false)).1>2 then (gz (d,false)).1 else 2).toNat).drop 2=E
  by_cases c1:(gz (d,false)).2.2=true
  ·rw [if_pos c1]
  rw [if_neg c1]
  by_cases c2:(gz (d,false)).1>(d.length:Int)
  ·rw [if_pos c2]
  rw [if_neg c2]
  by_cases c3:(wu E).2.2=true
  ·rw [if_pos c3]
  rw [if_neg c3]
  by_cases c4:iW (wu E).1=0
  ·rw [if_neg (fun hh=>hh c4)]
   by_cases c5:fK (wu E).1=d.take (gz (d,false)).1.toNat
   ·refine absurd ⟨(wu E).1,c4, ?_⟩ hx
    rw [c5]; exact List.take_prefix _ _
   ·rw [if_pos c5]
  ·rw [if_pos c4]
theorem GX {n:Nat} {d:List Int} (h:rP d) (hb:d.length≤big) (hn:big<n):qD n d=some ((MK d).1,(MK d).2,()):=by
 rw [NV h hb hn,Si h]
end Go.Proofs.YtailcbngagacaabGreat.Eu
