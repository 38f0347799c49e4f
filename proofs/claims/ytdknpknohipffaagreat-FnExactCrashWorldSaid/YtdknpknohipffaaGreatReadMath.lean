/- Reading of ops and journals, on both sides. -/
import Derived.Test.YtdknpknohipffaaGreatOwF
import Derived.Test.YtdknpknohipffaaGreatLoopLib
import Derived.Test.YtdknpknohipffaaGreatPackLib
import Derived.Test.YtdknpknohipffaaGreatStoreMath
import Derived.Test.YtdknpknohipffaaGreatOpsMath
import Derived.Test.YtdknpknohipffaaGreatGoodMath
import Derived.Test.YtdknpknohipffaaGreatCodecMath
import Derived.Test.YtdknpknohipffaaGreatCwF
set_option linter.unusedSectionVars false
set_option linter.unusedVariables false
set_option linter.unusedSimpArgs false
namespace Go.Proofs.YtdknpknohipffaaGreat.Fj
open Go Go.Proofs.YtdknpknohipffaaGreat.Ow Go.Proofs.YtdknpknohipffaaGreat.Qq Go.Proofs.YtdknpknohipffaaGreat.kG Go.Proofs.YtdknpknohipffaaGreat.Ab Go.Proofs.YtdknpknohipffaaGreat.gK Go.Proofs.YtdknpknohipffaaGreat.jO Go.Proofs.YtdknpknohipffaaGreat.zb Go.Proofs.YtdknpknohipffaaGreat.lD
abbrev st (t:Tk):List Int×Bool×Unit:=(t.1,t.2,())
theorem fI {t:Tk} (h:qV t.1) (k:Nat):qV (gV k t).1∧qV (gV k t).2.1∧(gV k t).1.length=k:=by
 unfold gV
 split
 ·exact ⟨ZE k,h,by simp⟩
 ·rename_i hc
  exact ⟨zu h k,zq h k,by simp only [List.length_take]; omega⟩
theorem jD {t:Tk} (h:qV t.1):(0≤(iR t).1∧(iR t).1≤255)∧qV (iR t).2.1:=
 ⟨wO (fI h 1).1 0,(fI h 1).2.1⟩
theorem tY {t:Tk} (h:qV t.1):(0≤(gJ t).1∧(gJ t).1≤65535)∧qV (gJ t).2.1:=by
 have h0:=wO (fI h 2).1 0
 have h1:=wO (fI h 2).1 1
 refine ⟨?_,(fI h 2).2.1⟩
 unfold gJ
 simp only
 omega
theorem Eh {t:Tk} (h:qV t.1):∀k,(pz t k).1.length=k∧qV (pz t k).2.1
 | 0=>⟨rfl,h⟩
 | k+1=>by
  have:=Eh h k
  exact ⟨by simp [pz,this.1],(tY this.2).2⟩
theorem zS {n:Nat} {t:Tk} {k:Nat} (hk:k≤65535):fq n (st t) (k:Int)=some ((gV k t).1,st (gV k t).2,()):=by
 obtain ⟨l,b⟩:=t
 unfold fq bN gV
 cases b with
 | true=>
  simp only [if_true,true_or]
  rw [if_pos ⟨trivial,by omega,by omega⟩]
  rfl
 | false=>
  simp only [apg,if_false,false_or,ape]
  by_cases hl:l.length<k
  ·rw [if_pos (by rw [decide_eq_true_eq]; omega),if_pos ⟨trivial,by omega,by omega⟩,if_pos hl]
   rfl
  ·rw [if_neg (by rw [decide_eq_true_eq]; omega),if_pos ⟨by omega,by omega⟩,if_pos ⟨by omega,by omega⟩,if_neg hl]
   rfl
theorem zD {n:Nat} {t:Tk} (h:qV t.1):eY n (st t)=some ((iR t).1,st (iR t).2,()):=by
 have hf:=jD h
 have hl:=(fI h 1).2.2
 unfold eY
 rw [show (1:Int)=((1:Nat):Int) from rfl,zS (by omega)]
 simp only [ape]
 rw [if_pos (by rw [hl]; exact ⟨by omega,by omega⟩)]
 have e:(gV 1 t).1.getD (0:Int).toNat 0=(iR t).1:=rfl
 rw [e,wrap_i64 (by omega) (by omega)]
 rfl
theorem Dh {n:Nat} {t:Tk} (h:qV t.1):gW n (st t)=some ((gJ t).1,st (gJ t).2,()):=by
 have hf:=tY h
 have hl:=(fI h 2).2.2
 have g0:=wO (fI h 2).1 0
 have g1:=wO (fI h 2).1 1
 unfold gW
 rw [show (2:Int)=((2:Nat):Int) from rfl,zS (by omega)]
 simp only [ape]
 rw [if_pos (by rw [hl]; exact ⟨by omega,by omega⟩),if_pos (by rw [hl]; exact ⟨by omega,by omega⟩)]
 rw [show (0:Int).toNat=0 from rfl,show (1:Int).toNat=1 from rfl]
 rw [wrap_i64 (x:=(gV 2 t).1.getD 0 0) (by omega) (by omega),wrap_i64 (x:=(gV 2 t).1.getD 1 0) (by omega) (by omega),wrap_i64 (x:=(gV 2 t).1.getD 0 0 * 256) (by omega) (by omega),wrap_i64 (by omega) (by omega)]
 rfl
def R8 (o:OpC):Prop:=iZ o=0
abbrev zO:OpC:=((0:Int),([]:List Int),([]:List Int),([]:List Int),(0:Int),(0:Int),(0:Int),([]:List Int),())
theorem aam {d:List Int} (h:qV d):okO (vE d).1∧qV (vE d).1.2.2.2.2.2.2.2.1:=by
 have h1:=jD (t:=(d,false)) h
 have h2:=jD h1.2
 have h3:=fI h2.2 (iR (iR (d,false)).2).1.toNat
 have h4:=jD h3.2.1
 have h5:=fI h4.2 (iR (gV (iR (iR (d,false)).2).1.toNat (iR (iR (d,false)).2).2).2).1.toNat
 have h6:=jD h5.2.1
 have h7:=Eh h6.2 (iR (gV (iR (gV (iR (iR (d,false)).2).1.toNat (iR (iR (d,false)).2).2).2).1.toNat (iR (gV (iR (iR (d,false)).2).1.toNat (iR (iR (d,false)).2).2).2).2).2).1.toNat
 have h8:=jD h7.2
 have h9:=jD h8.2
 have h10:=tY h9.2
 have h11:=tY h10.2
 have h12:=fI h11.2
 refine ⟨⟨?_, ?_, ?_, ?_⟩,(h12 _).1⟩
 ·show (gV _ _).1.length≤big
  rw [h3.2.2]; unfold big; omega
 ·show (gV _ _).1.length≤big
  rw [h5.2.2]; unfold big; omega
 ·show (pz _ _).1.length≤big
  rw [h7.1]; unfold big; omega
 ·show (gV _ _).1.length≤big
  rw [(h12 _).2.2]; unfold big; omega
def Iy (d:List Int):OpC×Int:=
 if (gJ (d,false)).2.2=true then (zO,0) else if (gJ (d,false)).1>(d.length:Int) then (zO,0) else
 if (vE ((d.take (if (gJ (d,false)).1>2 then (gJ (d,false)).1 else 2).toNat).drop 2)).2.2=true then (zO,0) else
 if iZ (vE ((d.take (if (gJ (d,false)).1>2 then (gJ (d,false)).1 else 2).toNat).drop 2)).1≠0 then (zO,0) else
 if fQ (vE ((d.take (if (gJ (d,false)).1>2 then (gJ (d,false)).1 else 2).toNat).drop 2)).1≠d.take (gJ (d,false)).1.toNat then (zO,0) else
 ((vE ((d.take (if (gJ (d,false)).1>2 then (gJ (d,false)).1 else 2).toNat).drop 2)).1,(gJ (d,false)).1)
theorem MS {d:List Int}:(gJ (d,false)).2.2=decide (d.length<2):=by
 unfold gJ gV
 by_cases h:d.length<2
 ·simp [h]
 ·simp [h]
theorem abW {o:OpC} (h:iZ o=0) (hb:qV o.2.2.2.2.2.2.2.1):SH o:=⟨right h,hb⟩
set_option maxRecDepth 20000 in
theorem Qc {n:Nat} {d:List Int} (h:qV d) (hb:d.length≤big) (hn:big<n):qz n d=some ((Iy d).1,(Iy d).2,()):=by
 have hn':=hn
 have hb':d.length≤1048576:=hb
 unfold big at hn'
 have ht:=tY (t:=(d,false)) h
 unfold qz Iy
 rw [Dh (t:=(d,false)) h]
 simp only [ape]
 by_cases c1:(gJ (d,false)).2.2=true
 ·rw [if_pos c1,if_pos c1]
 rw [if_neg c1,if_neg c1]
 rw [MS,decide_eq_true_eq] at c1
 unfold bN
 simp only [ape]
 by_cases c2:(gJ (d,false)).1>(d.length:Int)
 ·rw [if_pos (by rw [decide_eq_true_eq]; exact c2),if_pos c2]
 rw [if_neg (by rw [decide_eq_true_eq]; exact c2),if_neg c2]
 have hm:2≤(if (gJ (d,false)).1>2 then (gJ (d,false)).1 else 2)∧(if (gJ (d,false)).1>2 then (gJ (d,false)).1 else 2)≤(d.length:Int):=by
  split
  ·omega
  ·omega
 rw [if_pos ⟨by omega,hm⟩]
 have e2:(2:Int).toNat=2:=rfl
 have hE:qV ((d.take (if (gJ (d,false)).1>2 then (gJ (d,false)).1 else 2).toNat).drop 2):=zq (zu h _) 2
 have hs:(gJ (d,false)).2.2=false:=by rw [MS,decide_eq_false_iff_not]; exact c1
 generalize hM:(gJ (d,false)).1=M at *
 rw [e2]
 generalize hEE:(d.take (if M>2 then M else 2).toNat).drop 2=E at *
 have es:(E,(st (gJ (d,false)).2).2)=st (E,false):=by simp only [st,hs]
 rw [es,zD hE]
 simp only [ape]
 have f1:=jD (t:=(E,false)) hE
 generalize q1:iR (E,false)=a1 at *
 rw [zD f1.2]
 simp only [ape]
 have f2:=jD f1.2
 generalize q2:iR a1.2=a2 at *
 have k2:((a2.1.toNat:Nat):Int)=a2.1:=by omega
 have t3:=zS (n:=n) (t:=a2.2) (k:=a2.1.toNat) (by omega)
 rw [k2] at t3
 rw [t3]
 simp only [ape]
 have f3:=fI f2.2 a2.1.toNat
 generalize q3:gV a2.1.toNat a2.2=a3 at *
 rw [zD f3.2.1]
 simp only [ape]
 have f4:=jD f3.2.1
 generalize q4:iR a3.2=a4 at *
 have k4:((a4.1.toNat:Nat):Int)=a4.1:=by omega
 have t5:=zS (n:=n) (t:=a4.2) (k:=a4.1.toNat) (by omega)
 rw [k4] at t5
 rw [t5]
 simp only [ape]
 have f5:=fI f4.2 a4.1.toNat
 generalize q5:gV a4.1.toNat a4.2=a5 at *
 rw [zD f5.2.1]
 simp only [ape]
 have f6:=jD f5.2.1
 generalize q6:iR a5.2=a6 at *
 have hR:vE E=((a1.1,a3.1,a5.1,(pz a6.2 a6.1.toNat).1,(iR (pz a6.2 a6.1.toNat).2).1,(iR (iR (pz a6.2 a6.1.toNat).2).2).1,(gJ (iR (iR (pz a6.2 a6.1.toNat).2).2).2).1,
   (gV (gJ (gJ (iR (iR (pz a6.2 a6.1.toNat).2).2).2).2).1.toNat (gJ (gJ (iR (iR (pz a6.2 a6.1.toNat).2).2).2).2).2).1,()),
   (gV (gJ (gJ (iR (iR (pz a6.2 a6.1.toNat).2).2).2).2).1.toNat (gJ (gJ (iR (iR (pz a6.2 a6.1.toNat).2).2).2).2).2).2):=by
  simp only [vE,q1,q2,q3,q4,q5,q6]
 have hok:=aam hE
 rw [hR] at hok ⊢
 have f7:=Eh f6.2
 refine (aM (fun i=>(d,M,a6.1,(i:Int),zO,(a1.1,a3.1,a5.1,(pz a6.2 i).1,(0:Int),(0:Int),(0:Int),([]:List Int),()),st (pz a6.2 i).2,())) (fun _=>none) _ (m:=a6.1.toNat) rfl (by omega) ?_ ?_).trans (bG (fun _ _ _=>rfl))
 ·intro L i hi _
  have hlt:(i:Int)<a6.1:=by omega
  simp only [hlt,decide_true,if_true,Dh (f7 i).2,ape]
  rw [if_pos (by rw [(f7 i).1,apy]; omega),wrap_i64 (by omega) (by omega)]
  rfl
 ·intro L _
  have hge:¬((a6.1.toNat:Int)<a6.1):=by omega
  simp only [hge,decide_false,apg,if_false]
  have f7:=f7 a6.1.toNat
  generalize pz a6.2 a6.1.toNat=a7 at *
  rw [zD f7.2]
  simp only [ape]
  have f8:=jD f7.2
  generalize iR a7.2=a8 at *
  rw [zD f8.2]
  simp only [ape]
  have f9:=jD f8.2
  generalize iR a8.2=a9 at *
  rw [Dh f9.2]
  simp only [ape]
  have f10:=tY f9.2
  generalize gJ a9.2=a10 at *
  rw [Dh f10.2]
  simp only [ape]
  have f11:=tY f10.2
  generalize gJ a10.2=Yq at *
  have k11:((Yq.1.toNat:Nat):Int)=Yq.1:=by omega
  have t12:=zS (n:=n) (t:=Yq.2) (k:=Yq.1.toNat) (by omega)
  rw [k11] at t12
  rw [t12]
  simp only [ape]
  have f12:=fI f11.2 Yq.1.toNat
  generalize gV Yq.1.toNat Yq.2=a12 at *
  rw [if_pos (by rw [f12.2.2]; simp only [List.length_nil]; omega)]
  by_cases c3:a12.2.2=true
  ·rw [if_pos c3,if_pos c3]
  rw [if_neg c3,if_neg c3]
  rw [List.nil_append]
  rw [Ll hok.1 hn]
  simp only [ape]
  generalize hO:((a1.1,a3.1,a5.1,a7.1,a8.1,a9.1,a10.1,a12.1,()):OpC)=o at *
  by_cases c4:iZ o=0
  ·rw [if_neg (by simp [c4]),if_neg (by simp [c4]),XC (abW c4 hok.2) hn]
   simp only [ape]
   rw [if_pos ⟨by omega,by omega⟩]
   unfold yD
   simp only [ape]
   by_cases c5:fQ o=d.take M.toNat
   ·rw [if_neg (by simp [c5]),if_neg (by simp [c5])]
   ·rw [if_pos (by simp [c5]),if_pos c5]
  ·rw [if_pos (by simp [c4]),if_pos c4]
noncomputable def OM (d:List Int):OpC×Int:=match xm R8 d with
 | none=>(zO,0)
 | some o=>(o,((fQ o).length:Int))
theorem UM {d:List Int} (h:qV d):Iy d=OM d:=by
 unfold OM
 by_cases hx:∃o,Is R8 d o
 ·obtain ⟨o,ho⟩:=hx
  rw [Ox ho]
  obtain ⟨g1,g2,g3⟩:=LQ ho.2
  have e1:(gJ (d,false)).1=((fQ o).length:Int):=by
   rw [←g2]
   unfold gJ gV
   rw [if_neg (by simp; omega)]
   match d,g1 with
   | a :: b :: r,_=>rfl
  have hl:=uP o
  have hlb:=Cn o
  have hle:=ho.2.length_le
  have e2:(if (gJ (d,false)).1>2 then (gJ (d,false)).1 else 2).toNat=(fQ o).length:=by
   rw [if_pos (by omega)]; omega
  have e3:vE ((d.take (if (gJ (d,false)).1>2 then (gJ (d,false)).1 else 2).toNat).drop 2)=(o,(two (BB (xU o)),false)):=by
   rw [e2,g3,zF,Ov]
  unfold Iy
  rw [e3,if_neg (by rw [MS,decide_eq_true_eq]; omega),if_neg (by omega),if_neg (by simp),if_neg (fun hh=>hh ho.1),if_neg (fun hh=>hh (by rw [e1,apn,g3])),e1]
 ·rw [Ii hx]
  unfold Iy
  generalize (d.take (if (gJ (d,false)).1>2 then (gJ (d,false)).1 else 2).toNat).drop 2=E
  by_cases c1:(gJ (d,false)).2.2=true
  ·rw [if_pos c1]
  rw [if_neg c1]
  by_cases c2:(gJ (d,false)).1>(d.length:Int)
  ·rw [if_pos c2]
  rw [if_neg c2]
  by_cases c3:(vE E).2.2=true
  ·rw [if_pos c3]
  rw [if_neg c3]
  by_cases c4:iZ (vE E).1=0
  ·rw [if_neg (fun hh=>hh c4)]
   by_cases c5:fQ (vE E).1=d.take (gJ (d,false)).1.toNat
   ·refine absurd ⟨(vE E).1,c4, ?_⟩ hx
    rw [c5]; exact List.take_prefix _ _
   ·rw [if_pos c5]
  ·rw [if_pos c4]
theorem I6 {n:Nat} {d:List Int} (h:qV d) (hb:d.length≤big) (hn:big<n):qz n d=some ((OM d).1,(OM d).2,()):=by
 rw [Qc h hb hn,UM h]
end Go.Proofs.YtdknpknohipffaaGreat.Fj
