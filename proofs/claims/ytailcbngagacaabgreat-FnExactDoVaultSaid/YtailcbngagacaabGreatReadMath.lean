/- Reading of ops and journals, on both sides. -/
import Derived.Test.YtailcbngagacaabGreatOwF
import Derived.Test.YtailcbngagacaabGreatLoopLib
import Derived.Test.YtailcbngagacaabGreatPackLib
import Derived.Test.YtailcbngagacaabGreatStoreMath
import Derived.Test.YtailcbngagacaabGreatOpsMath
import Derived.Test.YtailcbngagacaabGreatGoodMath
import Derived.Test.YtailcbngagacaabGreatCodecMath
import Derived.Test.YtailcbngagacaabGreatDoF
set_option linter.unusedSectionVars false
set_option linter.unusedVariables false
set_option linter.unusedSimpArgs false
namespace Go.Proofs.YtailcbngagacaabGreat.D5
open Go Go.Proofs.YtailcbngagacaabGreat.Ow Go.Proofs.YtailcbngagacaabGreat.Nr Go.Proofs.YtailcbngagacaabGreat.jO Go.Proofs.YtailcbngagacaabGreat.xh Go.Proofs.YtailcbngagacaabGreat.gp Go.Proofs.YtailcbngagacaabGreat.jc Go.Proofs.YtailcbngagacaabGreat.vR Go.Proofs.YtailcbngagacaabGreat.jV
abbrev st (t:Tk):List Int×Bool×Unit:=(t.1,t.2,())
theorem fU {t:Tk} (h:qc t.1) (k:Nat):qc (gU k t).1∧qc (gU k t).2.1∧(gU k t).1.length=k:=by
 unfold gU
 split
 ·exact ⟨Yl k,h,by simp⟩
 ·rename_i hc
  exact ⟨yC h k,yB h k,by simp only [List.length_take]; omega⟩
theorem jy {t:Tk} (h:qc t.1):(0≤(iR t).1∧(iR t).1≤255)∧qc (iR t).2.1:=
 ⟨wm (fU h 1).1 0,(fU h 1).2.1⟩
theorem tK {t:Tk} (h:qc t.1):(0≤(gM t).1∧(gM t).1≤65535)∧qc (gM t).2.1:=by
 have h0:=wm (fU h 2).1 0
 have h1:=wm (fU h 2).1 1
 refine ⟨?_,(fU h 2).2.1⟩
 unfold gM
 simp only
 omega
theorem Dc {t:Tk} (h:qc t.1):∀k,(oM t k).1.length=k∧qc (oM t k).2.1
 | 0=>⟨rfl,h⟩
 | k+1=>by
  have:=Dc h k
  exact ⟨by simp [oM,this.1],(tK this.2).2⟩
theorem yU {n:Nat} {t:Tk} {k:Nat} (hk:k≤65535):fC n (st t) (k:Int)=some ((gU k t).1,st (gU k t).2,()):=by
 obtain ⟨l,b⟩:=t
 unfold fC cO gU
 cases b with
 | true=>
  simp only [if_true,true_or]
  rw [if_pos ⟨trivial,by omega,by omega⟩]
  rfl
 | false=>
  simp only [an0,if_false,false_or,anY]
  by_cases hl:l.length<k
  ·rw [if_pos (by rw [decide_eq_true_eq]; omega),if_pos ⟨trivial,by omega,by omega⟩,if_pos hl]
   rfl
  ·rw [if_neg (by rw [decide_eq_true_eq]; omega),if_pos ⟨by omega,by omega⟩,if_pos ⟨by omega,by omega⟩,if_neg hl]
   rfl
theorem yH {n:Nat} {t:Tk} (h:qc t.1):fq n (st t)=some ((iR t).1,st (iR t).2,()):=by
 have hf:=jy h
 have hl:=(fU h 1).2.2
 unfold fq
 rw [show (1:Int)=((1:Nat):Int) from rfl,yU (by omega)]
 simp only [anY]
 rw [if_pos (by rw [hl]; exact ⟨by omega,by omega⟩)]
 have e:(gU 1 t).1.getD (0:Int).toNat 0=(iR t).1:=rfl
 rw [e,wrap_i64 (by omega) (by omega)]
 rfl
theorem Cg {n:Nat} {t:Tk} (h:qc t.1):gV n (st t)=some ((gM t).1,st (gM t).2,()):=by
 have hf:=tK h
 have hl:=(fU h 2).2.2
 have g0:=wm (fU h 2).1 0
 have g1:=wm (fU h 2).1 1
 unfold gV
 rw [show (2:Int)=((2:Nat):Int) from rfl,yU (by omega)]
 simp only [anY]
 rw [if_pos (by rw [hl]; exact ⟨by omega,by omega⟩),if_pos (by rw [hl]; exact ⟨by omega,by omega⟩)]
 rw [show (0:Int).toNat=0 from rfl,show (1:Int).toNat=1 from rfl]
 rw [wrap_i64 (x:=(gU 2 t).1.getD 0 0) (by omega) (by omega),wrap_i64 (x:=(gU 2 t).1.getD 1 0) (by omega) (by omega),wrap_i64 (x:=(gU 2 t).1.getD 0 0 * 256) (by omega) (by omega),wrap_i64 (by omega) (by omega)]
 rfl
def R8 (o:OpC):Prop:=iK o=0
abbrev zO:OpC:=((0:Int),([]:List Int),([]:List Int),([]:List Int),(0:Int),(0:Int),(0:Int),([]:List Int),())
theorem YY {d:List Int} (h:qc d):okO (uY d).1∧qc (uY d).1.2.2.2.2.2.2.2.1:=by
 have h1:=jy (t:=(d,false)) h
 have h2:=jy h1.2
 have h3:=fU h2.2 (iR (iR (d,false)).2).1.toNat
 have h4:=jy h3.2.1
 have h5:=fU h4.2 (iR (gU (iR (iR (d,false)).2).1.toNat (iR (iR (d,false)).2).2).2).1.toNat
 have h6:=jy h5.2.1
 have h7:=Dc h6.2 (iR (gU (iR (gU (iR (iR (d,false)).2).1.toNat (iR (iR (d,false)).2).2).2).1.toNat (iR (gU (iR (iR (d,false)).2).1.toNat (iR (iR (d,false)).2).2).2).2).2).1.toNat
 have h8:=jy h7.2
 have h9:=jy h8.2
 have h10:=tK h9.2
 have h11:=tK h10.2
 have h12:=fU h11.2
 refine ⟨⟨?_, ?_, ?_, ?_⟩,(h12 _).1⟩
 ·show (gU _ _).1.length≤big
  rw [h3.2.2]; unfold big; omega
 ·show (gU _ _).1.length≤big
  rw [h5.2.2]; unfold big; omega
 ·show (oM _ _).1.length≤big
  rw [h7.1]; unfold big; omega
 ·show (gU _ _).1.length≤big
  rw [(h12 _).2.2]; unfold big; omega
def Gq (d:List Int):OpC×Int:=
 if (gM (d,false)).2.2=true then (zO,0) else if (gM (d,false)).1>(d.length:Int) then (zO,0) else
 if (uY ((d.take (if (gM (d,false)).1>2 then (gM (d,false)).1 else 2).toNat).drop 2)).2.2=true then (zO,0) else
 if iK (uY ((d.take (if (gM (d,false)).1>2 then (gM (d,false)).1 else 2).toNat).drop 2)).1≠0 then (zO,0) else
 if eY (uY ((d.take (if (gM (d,false)).1>2 then (gM (d,false)).1 else 2).toNat).drop 2)).1≠d.take (gM (d,false)).1.toNat then (zO,0) else
 ((uY ((d.take (if (gM (d,false)).1>2 then (gM (d,false)).1 else 2).toNat).drop 2)).1,(gM (d,false)).1)
theorem Le {d:List Int}:(gM (d,false)).2.2=decide (d.length<2):=by
 unfold gM gU
 by_cases h:d.length<2
 ·simp [h]
 ·simp [h]
theorem aaG {o:OpC} (h:iK o=0) (hb:qc o.2.2.2.2.2.2.2.1):Pb o:=⟨right h,hb⟩
set_option maxRecDepth 20000 in
theorem OB {n:Nat} {d:List Int} (h:qc d) (hb:d.length≤big) (hn:big<n):pY n d=some ((Gq d).1,(Gq d).2,()):=by
 have hn':=hn
 have hb':d.length≤1048576:=hb
 unfold big at hn'
 have ht:=tK (t:=(d,false)) h
 unfold pY Gq
 rw [Cg (t:=(d,false)) h]
 simp only [anY]
 by_cases c1:(gM (d,false)).2.2=true
 ·rw [if_pos c1,if_pos c1]
 rw [if_neg c1,if_neg c1]
 rw [Le,decide_eq_true_eq] at c1
 unfold cO
 simp only [anY]
 by_cases c2:(gM (d,false)).1>(d.length:Int)
 ·rw [if_pos (by rw [decide_eq_true_eq]; exact c2),if_pos c2]
 rw [if_neg (by rw [decide_eq_true_eq]; exact c2),if_neg c2]
 have hm:2≤(if (gM (d,false)).1>2 then (gM (d,false)).1 else 2)∧(if (gM (d,false)).1>2 then (gM (d,false)).1 else 2)≤(d.length:Int):=by
  split
  ·omega
  ·omega
 rw [if_pos ⟨by omega,hm⟩]
 have e2:(2:Int).toNat=2:=rfl
 have hE:qc ((d.take (if (gM (d,false)).1>2 then (gM (d,false)).1 else 2).toNat).drop 2):=yB (yC h _) 2
 have hs:(gM (d,false)).2.2=false:=by rw [Le,decide_eq_false_iff_not]; exact c1
 generalize hM:(gM (d,false)).1=M at *
 rw [e2]
 generalize hEE:(d.take (if M>2 then M else 2).toNat).drop 2=E at *
 have es:(E,(st (gM (d,false)).2).2)=st (E,false):=by simp only [st,hs]
 rw [es,yH hE]
 simp only [anY]
 have f1:=jy (t:=(E,false)) hE
 generalize q1:iR (E,false)=a1 at *
 rw [yH f1.2]
 simp only [anY]
 have f2:=jy f1.2
 generalize q2:iR a1.2=a2 at *
 have k2:((a2.1.toNat:Nat):Int)=a2.1:=by omega
 have t3:=yU (n:=n) (t:=a2.2) (k:=a2.1.toNat) (by omega)
 rw [k2] at t3
 rw [t3]
 simp only [anY]
 have f3:=fU f2.2 a2.1.toNat
 generalize q3:gU a2.1.toNat a2.2=a3 at *
 rw [yH f3.2.1]
 simp only [anY]
 have f4:=jy f3.2.1
 generalize q4:iR a3.2=a4 at *
 have k4:((a4.1.toNat:Nat):Int)=a4.1:=by omega
 have t5:=yU (n:=n) (t:=a4.2) (k:=a4.1.toNat) (by omega)
 rw [k4] at t5
 rw [t5]
 simp only [anY]
 have f5:=fU f4.2 a4.1.toNat
 generalize q5:gU a4.1.toNat a4.2=a5 at *
 rw [yH f5.2.1]
 simp only [anY]
 have f6:=jy f5.2.1
 generalize q6:iR a5.2=a6 at *
 have hR:uY E=((a1.1,a3.1,a5.1,(oM a6.2 a6.1.toNat).1,(iR (oM a6.2 a6.1.toNat).2).1,(iR (iR (oM a6.2 a6.1.toNat).2).2).1,(gM (iR (iR (oM a6.2 a6.1.toNat).2).2).2).1,
   (gU (gM (gM (iR (iR (oM a6.2 a6.1.toNat).2).2).2).2).1.toNat (gM (gM (iR (iR (oM a6.2 a6.1.toNat).2).2).2).2).2).1,()),
   (gU (gM (gM (iR (iR (oM a6.2 a6.1.toNat).2).2).2).2).1.toNat (gM (gM (iR (iR (oM a6.2 a6.1.toNat).2).2).2).2).2).2):=by
  simp only [uY,q1,q2,q3,q4,q5,q6]
 have hok:=YY hE
 rw [hR] at hok ⊢
 have f7:=Dc f6.2
 refine (aQ (fun i=>(d,M,a6.1,(i:Int),zO,(a1.1,a3.1,a5.1,(oM a6.2 i).1,(0:Int),(0:Int),(0:Int),([]:List Int),()),st (oM a6.2 i).2,())) (fun _=>none) _ (m:=a6.1.toNat) rfl (by omega) ?_ ?_).trans (bL (fun _ _ _=>rfl))
 ·intro L i hi _
  have hlt:(i:Int)<a6.1:=by omega
  simp only [hlt,decide_true,if_true,Cg (f7 i).2,anY]
  rw [if_pos (by rw [(f7 i).1,aoh]; omega),wrap_i64 (by omega) (by omega)]
  rfl
 ·intro L _
  have hge:¬((a6.1.toNat:Int)<a6.1):=by omega
  simp only [hge,decide_false,an0,if_false]
  have f7:=f7 a6.1.toNat
  generalize oM a6.2 a6.1.toNat=a7 at *
  rw [yH f7.2]
  simp only [anY]
  have f8:=jy f7.2
  generalize iR a7.2=a8 at *
  rw [yH f8.2]
  simp only [anY]
  have f9:=jy f8.2
  generalize iR a8.2=a9 at *
  rw [Cg f9.2]
  simp only [anY]
  have f10:=tK f9.2
  generalize gM a9.2=a10 at *
  rw [Cg f10.2]
  simp only [anY]
  have f11:=tK f10.2
  generalize gM a10.2=Xd at *
  have k11:((Xd.1.toNat:Nat):Int)=Xd.1:=by omega
  have t12:=yU (n:=n) (t:=Xd.2) (k:=Xd.1.toNat) (by omega)
  rw [k11] at t12
  rw [t12]
  simp only [anY]
  have f12:=fU f11.2 Xd.1.toNat
  generalize gU Xd.1.toNat Xd.2=a12 at *
  rw [if_pos (by rw [f12.2.2]; simp only [List.length_nil]; omega)]
  by_cases c3:a12.2.2=true
  ·rw [if_pos c3,if_pos c3]
  rw [if_neg c3,if_neg c3]
  rw [List.nil_append]
  rw [JY hok.1 hn]
  simp only [anY]
  generalize hO:((a1.1,a3.1,a5.1,a7.1,a8.1,a9.1,a10.1,a12.1,()):OpC)=o at *
  by_cases c4:iK o=0
  ·rw [if_neg (by simp [c4]),if_neg (by simp [c4]),M0 (aaG c4 hok.2) hn]
   simp only [anY]
   rw [if_pos ⟨by omega,by omega⟩]
   unfold xQ
   simp only [anY]
   by_cases c5:eY o=d.take M.toNat
   ·rw [if_neg (by simp [c5]),if_neg (by simp [c5])]
   ·rw [if_pos (by simp [c5]),if_pos c5]
  ·rw [if_pos (by simp [c4]),if_pos c4]
noncomputable def Nl (d:List Int):OpC×Int:=match wM R8 d with
 | none=>(zO,0)
 | some o=>(o,((eY o).length:Int))
theorem Td {d:List Int} (h:qc d):Gq d=Nl d:=by
 unfold Nl
 by_cases hx:∃o,Is R8 d o
 ·obtain ⟨o,ho⟩:=hx
  rw [M6 ho]
  obtain ⟨g1,g2,g3⟩:=Kq ho.2
  have e1:(gM (d,false)).1=((eY o).length:Int):=by
   rw [←g2]
   unfold gM gU
   rw [if_neg (by simp; omega)]
   match d,g1 with
   | a :: b :: r,_=>rfl
  have hl:=rY o
  have hlb:=Bg o
  have hle:=ho.2.length_le
  have e2:(if (gM (d,false)).1>2 then (gM (d,false)).1 else 2).toNat=(eY o).length:=by
   rw [if_pos (by omega)]; omega
  have e3:uY ((d.take (if (gM (d,false)).1>2 then (gM (d,false)).1 else 2).toNat).drop 2)=(o,(two (Ay (xw o)),false)):=by
   rw [e2,g3,yI,M5]
  unfold Gq
  rw [e3,if_neg (by rw [Le,decide_eq_true_eq]; omega),if_neg (by omega),if_neg (by simp),if_neg (fun hh=>hh ho.1),if_neg (fun hh=>hh (by rw [e1,an7,g3])),e1]
 ·rw [Gc hx]
  unfold Gq
  generalize (d.take (if (gM (d,false)).1>2 then (gM (d,false)).1 else 2).toNat).drop 2=E
  by_cases c1:(gM (d,false)).2.2=true
  ·rw [if_pos c1]
  rw [if_neg c1]
  by_cases c2:(gM (d,false)).1>(d.length:Int)
  ·rw [if_pos c2]
  rw [if_neg c2]
  by_cases c3:(uY E).2.2=true
  ·rw [if_pos c3]
  rw [if_neg c3]
  by_cases c4:iK (uY E).1=0
  ·rw [if_neg (fun hh=>hh c4)]
   by_cases c5:eY (uY E).1=d.take (gM (d,false)).1.toNat
   ·refine absurd ⟨(uY E).1,c4, ?_⟩ hx
    rw [c5]; exact List.take_prefix _ _
   ·rw [if_pos c5]
  ·rw [if_pos c4]
theorem G8 {n:Nat} {d:List Int} (h:qc d) (hb:d.length≤big) (hn:big<n):pY n d=some ((Nl d).1,(Nl d).2,()):=by
 rw [OB h hb hn,Td h]
end Go.Proofs.YtailcbngagacaabGreat.D5
