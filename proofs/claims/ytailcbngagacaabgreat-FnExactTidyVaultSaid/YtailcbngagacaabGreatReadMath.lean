/- Reading of ops and journals, on both sides. -/
import Derived.Test.YtailcbngagacaabGreatOwF
import Derived.Test.YtailcbngagacaabGreatLoopLib
import Derived.Test.YtailcbngagacaabGreatPackLib
import Derived.Test.YtailcbngagacaabGreatStoreMath
import Derived.Test.YtailcbngagacaabGreatOpsMath
import Derived.Test.YtailcbngagacaabGreatGoodMath
import Derived.Test.YtailcbngagacaabGreatCodecMath
import Derived.Test.YtailcbngagacaabGreatTidyF
set_option linter.unusedSectionVars false
set_option linter.unusedVariables false
set_option linter.unusedSimpArgs false
namespace Go.Proofs.YtailcbngagacaabGreat.Ep
open Go Go.Proofs.YtailcbngagacaabGreat.Ow Go.Proofs.YtailcbngagacaabGreat.yj Go.Proofs.YtailcbngagacaabGreat.pU Go.Proofs.YtailcbngagacaabGreat.yf Go.Proofs.YtailcbngagacaabGreat.jL Go.Proofs.YtailcbngagacaabGreat.mO Go.Proofs.YtailcbngagacaabGreat.za Go.Proofs.YtailcbngagacaabGreat.rE
abbrev st (t:Tk):List Int×Bool×Unit:=(t.1,t.2,())
theorem fF {t:Tk} (h:rP t.1) (k:Nat):rP (gI k t).1∧rP (gI k t).2.1∧(gI k t).1.length=k:=by
 unfold gI
 split
 ·exact ⟨XR k,h,by simp⟩
 ·rename_i hc
  exact ⟨zD h k,zC h k,by simp only [List.length_take]; omega⟩
theorem jm {t:Tk} (h:rP t.1):(0≤(iI t).1∧(iI t).1≤255)∧rP (iI t).2.1:=
 ⟨xy (fF h 1).1 0,(fF h 1).2.1⟩
theorem uP {t:Tk} (h:rP t.1):(0≤(gz t).1∧(gz t).1≤65535)∧rP (gz t).2.1:=by
 have h0:=xy (fF h 2).1 0
 have h1:=xy (fF h 2).1 1
 refine ⟨?_,(fF h 2).2.1⟩
 unfold gz
 simp only
 omega
theorem DN {t:Tk} (h:rP t.1):∀k,(pg t k).1.length=k∧rP (pg t k).2.1
 | 0=>⟨rfl,h⟩
 | k+1=>by
  have:=DN h k
  exact ⟨by simp [pg,this.1],(uP this.2).2⟩
theorem zT {n:Nat} {t:Tk} {k:Nat} (hk:k≤65535):eX n (st t) (k:Int)=some ((gI k t).1,st (gI k t).2,()):=by
 obtain ⟨l,b⟩:=t
 unfold eX cB gI
 cases b with
 | true=>
  simp only [if_true,true_or]
  rw [if_pos ⟨trivial,by omega,by omega⟩]
  rfl
 | false=>
  simp only [Bool.false_eq_true,if_false,false_or,Option.bind_some]
  by_cases hl:l.length<k
  ·rw [if_pos (by rw [decide_eq_true_eq]; omega),if_pos ⟨trivial,by omega,by omega⟩,if_pos hl]
   rfl
  ·rw [if_neg (by rw [decide_eq_true_eq]; omega),if_pos ⟨by omega,by omega⟩,if_pos ⟨by omega,by omega⟩,if_neg hl]
   rfl
theorem zI {n:Nat} {t:Tk} (h:rP t.1):eT n (st t)=some ((iI t).1,st (iI t).2,()):=by
 have hf:=jm h
 have hl:=(fF h 1).2.2
 unfold eT
 rw [show (1:Int)=((1:Nat):Int) from rfl,zT (by omega)]
 simp only [Option.bind_some]
 rw [if_pos (by rw [hl]; exact ⟨by omega,by omega⟩)]
 have e:(gI 1 t).1.getD (0:Int).toNat 0=(iI t).1:=rfl
 rw [e,wrap_i64 (by omega) (by omega)]
 rfl
theorem CU {n:Nat} {t:Tk} (h:rP t.1):gJ n (st t)=some ((gz t).1,st (gz t).2,()):=by
 have hf:=uP h
 have hl:=(fF h 2).2.2
 have g0:=xy (fF h 2).1 0
 have g1:=xy (fF h 2).1 1
 unfold gJ
 rw [show (2:Int)=((2:Nat):Int) from rfl,zT (by omega)]
 simp only [Option.bind_some]
 rw [if_pos (by rw [hl]; exact ⟨by omega,by omega⟩),if_pos (by rw [hl]; exact ⟨by omega,by omega⟩)]
 rw [show (0:Int).toNat=0 from rfl,show (1:Int).toNat=1 from rfl]
 rw [wrap_i64 (x:=(gI 2 t).1.getD 0 0) (by omega) (by omega),wrap_i64 (x:=(gI 2 t).1.getD 1 0) (by omega) (by omega),wrap_i64 (x:=(gI 2 t).1.getD 0 0 * 256) (by omega) (by omega),wrap_i64 (by omega) (by omega)]
 rfl
def R8 (o:OpC):Prop:=iR o=0
abbrev zO:OpC:=((0:Int),([]:List Int),([]:List Int),([]:List Int),(0:Int),(0:Int),(0:Int),([]:List Int),())
theorem Yt {d:List Int} (h:rP d):okO (wo d).1∧rP (wo d).1.2.2.2.2.2.2.2.1:=by
 have h1:=jm (t:=(d,false)) h
 have h2:=jm h1.2
 have h3:=fF h2.2 (iI (iI (d,false)).2).1.toNat
 have h4:=jm h3.2.1
 have h5:=fF h4.2 (iI (gI (iI (iI (d,false)).2).1.toNat (iI (iI (d,false)).2).2).2).1.toNat
 have h6:=jm h5.2.1
 have h7:=DN h6.2 (iI (gI (iI (gI (iI (iI (d,false)).2).1.toNat (iI (iI (d,false)).2).2).2).1.toNat (iI (gI (iI (iI (d,false)).2).1.toNat (iI (iI (d,false)).2).2).2).2).2).1.toNat
 have h8:=jm h7.2
 have h9:=jm h8.2
 have h10:=uP h9.2
 have h11:=uP h10.2
 have h12:=fF h11.2
 refine ⟨⟨?_, ?_, ?_, ?_⟩,(h12 _).1⟩
 ·show (gI _ _).1.length≤big
  rw [h3.2.2]; unfold big; omega
 ·show (gI _ _).1.length≤big
  rw [h5.2.2]; unfold big; omega
 ·show (pg _ _).1.length≤big
  rw [h7.1]; unfold big; omega
 ·show (gI _ _).1.length≤big
  rw [(h12 _).2.2]; unfold big; omega
def Gq (d:List Int):OpC×Int:=
 if (gz (d,false)).2.2=true then (zO,0) else if (gz (d,false)).1>(d.length:Int) then (zO,0) else
 if (wo ((d.take (if (gz (d,false)).1>2 then (gz (d,false)).1 else 2).toNat).drop 2)).2.2=true then (zO,0) else
 if iR (wo ((d.take (if (gz (d,false)).1>2 then (gz (d,false)).1 else 2).toNat).drop 2)).1≠0 then (zO,0) else
 if dK (wo ((d.take (if (gz (d,false)).1>2 then (gz (d,false)).1 else 2).toNat).drop 2)).1≠d.take (gz (d,false)).1.toNat then (zO,0) else
 ((wo ((d.take (if (gz (d,false)).1>2 then (gz (d,false)).1 else 2).toNat).drop 2)).1,(gz (d,false)).1)
theorem KN {d:List Int}:(gz (d,false)).2.2=decide (d.length<2):=by
 unfold gz gI
 by_cases h:d.length<2
 ·simp [h]
 ·simp [h]
theorem Z9 {o:OpC} (h:iR o=0) (hb:rP o.2.2.2.2.2.2.2.1):LA o:=⟨right h,hb⟩
set_option maxRecDepth 20000 in
theorem NW {n:Nat} {d:List Int} (h:rP d) (hb:d.length≤big) (hn:big<n):qz n d=some ((Gq d).1,(Gq d).2,()):=by
 have hn':=hn
 have hb':d.length≤1048576:=hb
 unfold big at hn'
 have ht:=uP (t:=(d,false)) h
 unfold qz Gq
 rw [CU (t:=(d,false)) h]
 simp only [Option.bind_some]
 by_cases c1:(gz (d,false)).2.2=true
 ·rw [if_pos c1,if_pos c1]
 rw [if_neg c1,if_neg c1]
 rw [KN,decide_eq_true_eq] at c1
 unfold cB
 simp only [Option.bind_some]
 by_cases c2:(gz (d,false)).1>(d.length:Int)
 ·rw [if_pos (by rw [decide_eq_true_eq]; exact c2),if_pos c2]
 rw [if_neg (by rw [decide_eq_true_eq]; exact c2),if_neg c2]
 have hm:2≤(if (gz (d,false)).1>2 then (gz (d,false)).1 else 2)∧(if (gz (d,false)).1>2 then (gz (d,false)).1 else 2)≤(d.length:Int):=by
  split
  ·omega
  ·omega
 rw [if_pos ⟨by omega,hm⟩]
 have e2:(2:Int).toNat=2:=rfl
 have hE:rP ((d.take (if (gz (d,false)).1>2 then (gz (d,false)).1 else 2).toNat).drop 2):=zC (zD h _) 2
 have hs:(gz (d,false)).2.2=false:=by rw [KN,decide_eq_false_iff_not]; exact c1
 generalize hM:(gz (d,false)).1=M at *
 rw [e2]
 generalize hEE:(d.take (if M>2 then M else 2).toNat).drop 2=E at *
 have es:(E,(st (gz (d,false)).2).2)=st (E,false):=by simp only [st,hs]
 rw [es,zI hE]
 simp only [Option.bind_some]
 have f1:=jm (t:=(E,false)) hE
 generalize q1:iI (E,false)=a1 at *
 rw [zI f1.2]
 simp only [Option.bind_some]
 have f2:=jm f1.2
 generalize q2:iI a1.2=a2 at *
 have k2:((a2.1.toNat:Nat):Int)=a2.1:=by omega
 have t3:=zT (n:=n) (t:=a2.2) (k:=a2.1.toNat) (by omega)
 rw [k2] at t3
 rw [t3]
 simp only [Option.bind_some]
 have f3:=fF f2.2 a2.1.toNat
 generalize q3:gI a2.1.toNat a2.2=a3 at *
 rw [zI f3.2.1]
 simp only [Option.bind_some]
 have f4:=jm f3.2.1
 generalize q4:iI a3.2=a4 at *
 have k4:((a4.1.toNat:Nat):Int)=a4.1:=by omega
 have t5:=zT (n:=n) (t:=a4.2) (k:=a4.1.toNat) (by omega)
 rw [k4] at t5
 rw [t5]
 simp only [Option.bind_some]
 have f5:=fF f4.2 a4.1.toNat
 generalize q5:gI a4.1.toNat a4.2=a5 at *
 rw [zI f5.2.1]
 simp only [Option.bind_some]
 have f6:=jm f5.2.1
 generalize q6:iI a5.2=a6 at *
 have hR:wo E=((a1.1,a3.1,a5.1,(pg a6.2 a6.1.toNat).1,(iI (pg a6.2 a6.1.toNat).2).1,(iI (iI (pg a6.2 a6.1.toNat).2).2).1,(gz (iI (iI (pg a6.2 a6.1.toNat).2).2).2).1,
   (gI (gz (gz (iI (iI (pg a6.2 a6.1.toNat).2).2).2).2).1.toNat (gz (gz (iI (iI (pg a6.2 a6.1.toNat).2).2).2).2).2).1,()),
   (gI (gz (gz (iI (iI (pg a6.2 a6.1.toNat).2).2).2).2).1.toNat (gz (gz (iI (iI (pg a6.2 a6.1.toNat).2).2).2).2).2).2):=by
  simp only [wo,q1,q2,q3,q4,q5,q6]
 have hok:=Yt hE
 rw [hR] at hok ⊢
 have f7:=DN f6.2
 refine (aR (fun i=>(d,M,a6.1,(i:Int),zO,(a1.1,a3.1,a5.1,(pg a6.2 i).1,(0:Int),(0:Int),(0:Int),([]:List Int),()),st (pg a6.2 i).2,())) (fun _=>none) _ (m:=a6.1.toNat) rfl (by omega) ?_ ?_).trans (bL (fun _ _ _=>rfl))
 ·intro L i hi _
  have hlt:(i:Int)<a6.1:=by omega
  simp only [hlt,decide_true,if_true,CU (f7 i).2,Option.bind_some]
  rw [if_pos (by rw [(f7 i).1,List.length_singleton]; omega),wrap_i64 (by omega) (by omega)]
  rfl
 ·intro L _
  have hge:¬((a6.1.toNat:Int)<a6.1):=by omega
  simp only [hge,decide_false,Bool.false_eq_true,if_false]
  have f7:=f7 a6.1.toNat
  generalize pg a6.2 a6.1.toNat=a7 at *
  rw [zI f7.2]
  simp only [Option.bind_some]
  have f8:=jm f7.2
  generalize iI a7.2=a8 at *
  rw [zI f8.2]
  simp only [Option.bind_some]
  have f9:=jm f8.2
  generalize iI a8.2=a9 at *
  rw [CU f9.2]
  simp only [Option.bind_some]
  have f10:=uP f9.2
  generalize gz a9.2=a10 at *
  rw [CU f10.2]
  simp only [Option.bind_some]
  have f11:=uP f10.2
  generalize gz a10.2=Wt at *
  have k11:((Wt.1.toNat:Nat):Int)=Wt.1:=by omega
  have t12:=zT (n:=n) (t:=Wt.2) (k:=Wt.1.toNat) (by omega)
  rw [k11] at t12
  rw [t12]
  simp only [Option.bind_some]
  have f12:=fF f11.2 Wt.1.toNat
  generalize gI Wt.1.toNat Wt.2=a12 at *
  rw [if_pos (by rw [f12.2.2]; simp only [List.length_nil]; omega)]
  by_cases c3:a12.2.2=true
  ·rw [if_pos c3,if_pos c3]
  rw [if_neg c3,if_neg c3]
  rw [List.nil_append]
  rw [JF hok.1 hn]
  simp only [Option.bind_some]
  generalize hO:((a1.1,a3.1,a5.1,a7.1,a8.1,a9.1,a10.1,a12.1,()):OpC)=o at *
  by_cases c4:iR o=0
  ·rw [if_neg (by simp [c4]),if_neg (by simp [c4]),Mt (Z9 c4 hok.2) hn]
   simp only [Option.bind_some]
   rw [if_pos ⟨by omega,by omega⟩]
   unfold yO
   simp only [Option.bind_some]
   by_cases c5:dK o=d.take M.toNat
   ·rw [if_neg (by simp [c5]),if_neg (by simp [c5])]
   ·rw [if_pos (by simp [c5]),if_pos c5]
  ·rw [if_pos (by simp [c4]),if_pos c4]
noncomputable def MO (d:List Int):OpC×Int:=match xI R8 d with
 | none=>(zO,0)
 | some o=>(o,((dK o).length:Int))
theorem Sg {d:List Int} (h:rP d):Gq d=MO d:=by
 unfold MO
 by_cases hx:∃o,Is R8 d o
 ·obtain ⟨o,ho⟩:=hx
  rw [MB ho]
  obtain ⟨g1,g2,g3⟩:=J2 ho.2
  have e1:(gz (d,false)).1=((dK o).length:Int):=by
   rw [←g2]
   unfold gz gI
   rw [if_neg (by simp; omega)]
   match d,g1 with
   | a :: b :: r,_=>rfl
  have hl:=tH o
  have hlb:=Ce o
  have hle:=ho.2.length_le
  have e2:(if (gz (d,false)).1>2 then (gz (d,false)).1 else 2).toNat=(dK o).length:=by
   rw [if_pos (by omega)]; omega
  have e3:wo ((d.take (if (gz (d,false)).1>2 then (gz (d,false)).1 else 2).toNat).drop 2)=(o,(two (Bu (yu o)),false)):=by
   rw [e2,g3,zJ,Mx]
  unfold Gq
  rw [e3,if_neg (by rw [KN,decide_eq_true_eq]; omega),if_neg (by omega),if_neg (by simp),if_neg (fun hh=>hh ho.1),if_neg (fun hh=>hh (by rw [e1,Int.toNat_natCast,g3])),e1]
 ·rw [Gl hx]
  unfold Gq
  generalize (d.take (if (gz (d,false)).1>2 then (gz (d,false)).1 else 2).toNat).drop 2=E
  by_cases c1:(gz (d,false)).2.2=true
  ·rw [if_pos c1]
  rw [if_neg c1]
  by_cases c2:(gz (d,false)).1>(d.length:Int)
  ·rw [if_pos c2]
  rw [if_neg c2]
  by_cases c3:(wo E).2.2=true
  ·rw [if_pos c3]
  rw [if_neg c3]
  by_cases c4:iR (wo E).1=0
  ·rw [if_neg (fun hh=>hh c4)]
   by_cases c5:dK (wo E).1=d.take (gz (d,false)).1.toNat
   ·refine absurd ⟨(wo E).1,c4, ?_⟩ hx
    rw [c5]; exact List.take_prefix _ _
   ·rw [if_pos c5]
  ·rw [if_pos c4]
theorem GZ {n:Nat} {d:List Int} (h:rP d) (hb:d.length≤big) (hn:big<n):qz n d=some ((MO d).1,(MO d).2,()):=by
 rw [NW h hb hn,Sg h]
end Go.Proofs.YtailcbngagacaabGreat.Ep
