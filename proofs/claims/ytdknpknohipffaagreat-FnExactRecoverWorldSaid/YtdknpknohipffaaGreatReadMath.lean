/- Reading of ops and journals, on both sides. -/
import Derived.Test.YtdknpknohipffaaGreatOwF
import Derived.Test.YtdknpknohipffaaGreatLoopLib
import Derived.Test.YtdknpknohipffaaGreatPackLib
import Derived.Test.YtdknpknohipffaaGreatStoreMath
import Derived.Test.YtdknpknohipffaaGreatOpsMath
import Derived.Test.YtdknpknohipffaaGreatGoodMath
import Derived.Test.YtdknpknohipffaaGreatCodecMath
import Derived.Test.YtdknpknohipffaaGreatRwF
set_option linter.unusedSectionVars false
set_option linter.unusedVariables false
set_option linter.unusedSimpArgs false
namespace Go.Proofs.YtdknpknohipffaaGreat.HY
open Go Go.Proofs.YtdknpknohipffaaGreat.Ow Go.Proofs.YtdknpknohipffaaGreat.Uf Go.Proofs.YtdknpknohipffaaGreat.nW Go.Proofs.YtdknpknohipffaaGreat.CO Go.Proofs.YtdknpknohipffaaGreat.iI Go.Proofs.YtdknpknohipffaaGreat.kR Go.Proofs.YtdknpknohipffaaGreat.Bu Go.Proofs.YtdknpknohipffaaGreat.oQ
abbrev st (t:Tk):List Int×Bool×Unit:=(t.1,t.2,())
theorem fG {t:Tk} (h:uf t.1) (k:Nat):uf (gV k t).1∧uf (gV k t).2.1∧(gV k t).1.length=k:=by
 unfold gV
 split
 ·exact ⟨aaU k,h,by simp⟩
 ·rename_i hc
  exact ⟨BZ h k,BX h k,by simp only [List.length_take]; omega⟩
theorem jJ {t:Tk} (h:uf t.1):(0≤(iT t).1∧(iT t).1≤255)∧uf (iT t).2.1:=
 ⟨zu (fG h 1).1 0,(fG h 1).2.1⟩
theorem wO {t:Tk} (h:uf t.1):(0≤(gJ t).1∧(gJ t).1≤65535)∧uf (gJ t).2.1:=by
 have h0:=zu (fG h 2).1 0
 have h1:=zu (fG h 2).1 1
 refine ⟨?_,(fG h 2).2.1⟩
 unfold gJ
 simp only
 omega
theorem Gz {t:Tk} (h:uf t.1):∀k,(qJ t k).1.length=k∧uf (qJ t k).2.1
 | 0=>⟨rfl,h⟩
 | k+1=>by
  have:=Gz h k
  exact ⟨by simp [qJ,this.1],(wO this.2).2⟩
theorem Cs {n:Nat} {t:Tk} {k:Nat} (hk:k≤65535):eZ n (st t) (k:Int)=some ((gV k t).1,st (gV k t).2,()):=by
 obtain ⟨l,b⟩:=t
 unfold eZ cO gV
 cases b with
 | true=>
  simp only [if_true,true_or]
  rw [if_pos ⟨trivial,by omega,by omega⟩]
  rfl
 | false=>
  simp only [Bool.false_eq_true,if_false,false_or,Option.bind_some]
  by_cases hl:l.length<k
  ·rw [if_pos (by rw [decide_eq_true_eq]; omega),if_pos ⟨trivial,by omega,by omega⟩,if_pos hl]
   rfl
  ·rw [if_neg (by rw [decide_eq_true_eq]; omega),if_pos ⟨by omega,by omega⟩,if_pos ⟨by omega,by omega⟩,if_neg hl]
   rfl
theorem Cf {n:Nat} {t:Tk} (h:uf t.1):eX n (st t)=some ((iT t).1,st (iT t).2,()):=by
 have hf:=jJ h
 have hl:=(fG h 1).2.2
 unfold eX
 rw [show (1:Int)=((1:Nat):Int) from rfl,Cs (by omega)]
 simp only [Option.bind_some]
 rw [if_pos (by rw [hl]; exact ⟨by omega,by omega⟩)]
 have e:(gV 1 t).1.getD (0:Int).toNat 0=(iT t).1:=rfl
 rw [e,wrap_i64 (by omega) (by omega)]
 rfl
theorem FJ {n:Nat} {t:Tk} (h:uf t.1):gW n (st t)=some ((gJ t).1,st (gJ t).2,()):=by
 have hf:=wO h
 have hl:=(fG h 2).2.2
 have g0:=zu (fG h 2).1 0
 have g1:=zu (fG h 2).1 1
 unfold gW
 rw [show (2:Int)=((2:Nat):Int) from rfl,Cs (by omega)]
 simp only [Option.bind_some]
 rw [if_pos (by rw [hl]; exact ⟨by omega,by omega⟩),if_pos (by rw [hl]; exact ⟨by omega,by omega⟩)]
 rw [show (0:Int).toNat=0 from rfl,show (1:Int).toNat=1 from rfl]
 rw [wrap_i64 (x:=(gV 2 t).1.getD 0 0) (by omega) (by omega),wrap_i64 (x:=(gV 2 t).1.getD 1 0) (by omega) (by omega),wrap_i64 (x:=(gV 2 t).1.getD 0 0 * 256) (by omega) (by omega),wrap_i64 (by omega) (by omega)]
 rfl
def R8 (o:OpC):Prop:=jg o=0
abbrev zO:OpC:=((0:Int),([]:List Int),([]:List Int),([]:List Int),(0:Int),(0:Int),(0:Int),([]:List Int),())
theorem abB {d:List Int} (h:uf d):okO (yl d).1∧uf (yl d).1.2.2.2.2.2.2.2.1:=by
 have h1:=jJ (t:=(d,false)) h
 have h2:=jJ h1.2
 have h3:=fG h2.2 (iT (iT (d,false)).2).1.toNat
 have h4:=jJ h3.2.1
 have h5:=fG h4.2 (iT (gV (iT (iT (d,false)).2).1.toNat (iT (iT (d,false)).2).2).2).1.toNat
 have h6:=jJ h5.2.1
 have h7:=Gz h6.2 (iT (gV (iT (gV (iT (iT (d,false)).2).1.toNat (iT (iT (d,false)).2).2).2).1.toNat (iT (gV (iT (iT (d,false)).2).1.toNat (iT (iT (d,false)).2).2).2).2).2).1.toNat
 have h8:=jJ h7.2
 have h9:=jJ h8.2
 have h10:=wO h9.2
 have h11:=wO h10.2
 have h12:=fG h11.2
 refine ⟨⟨?_, ?_, ?_, ?_⟩,(h12 _).1⟩
 ·show (gV _ _).1.length≤big
  rw [h3.2.2]; unfold big; omega
 ·show (gV _ _).1.length≤big
  rw [h5.2.2]; unfold big; omega
 ·show (qJ _ _).1.length≤big
  rw [h7.1]; unfold big; omega
 ·show (gV _ _).1.length≤big
  rw [(h12 _).2.2]; unfold big; omega
def JX (d:List Int):OpC×Int:=
 if (gJ (d,false)).2.2=true then (zO,0) else if (gJ (d,false)).1>(d.length:Int) then (zO,0) else
 if (yl ((d.take (if (gJ (d,false)).1>2 then (gJ (d,false)).1 else 2).toNat).drop 2)).2.2=true then (zO,0) else
 if jg (yl ((d.take (if (gJ (d,false)).1>2 then (gJ (d,false)).1 else 2).toNat).drop 2)).1≠0 then (zO,0) else
 if fM (yl ((d.take (if (gJ (d,false)).1>2 then (gJ (d,false)).1 else 2).toNat).drop 2)).1≠d.take (gJ (d,false)).1.toNat then (zO,0) else
 ((yl ((d.take (if (gJ (d,false)).1>2 then (gJ (d,false)).1 else 2).toNat).drop 2)).1,(gJ (d,false)).1)
theorem Oa {d:List Int}:(gJ (d,false)).2.2=decide (d.length<2):=by
 unfold gJ gV
 by_cases h:d.length<2
 ·simp [h]
 ·simp [h]
theorem adq {o:OpC} (h:jg o=0) (hb:uf o.2.2.2.2.2.2.2.1):Ue o:=⟨right h,hb⟩
set_option maxRecDepth 20000 in
theorem Rc {n:Nat} {d:List Int} (h:uf d) (hb:d.length≤big) (hn:big<n):rZ n d=some ((JX d).1,(JX d).2,()):=by
 have hn':=hn
 have hb':d.length≤1048576:=hb
 unfold big at hn'
 have ht:=wO (t:=(d,false)) h
 unfold rZ JX
 rw [FJ (t:=(d,false)) h]
 simp only [Option.bind_some]
 by_cases c1:(gJ (d,false)).2.2=true
 ·rw [if_pos c1,if_pos c1]
 rw [if_neg c1,if_neg c1]
 rw [Oa,decide_eq_true_eq] at c1
 unfold cO
 simp only [Option.bind_some]
 by_cases c2:(gJ (d,false)).1>(d.length:Int)
 ·rw [if_pos (by rw [decide_eq_true_eq]; exact c2),if_pos c2]
 rw [if_neg (by rw [decide_eq_true_eq]; exact c2),if_neg c2]
 have hm:2≤(if (gJ (d,false)).1>2 then (gJ (d,false)).1 else 2)∧(if (gJ (d,false)).1>2 then (gJ (d,false)).1 else 2)≤(d.length:Int):=by
  split
  ·omega
  ·omega
 rw [if_pos ⟨by omega,hm⟩]
 have e2:(2:Int).toNat=2:=rfl
 have hE:uf ((d.take (if (gJ (d,false)).1>2 then (gJ (d,false)).1 else 2).toNat).drop 2):=BX (BZ h _) 2
 have hs:(gJ (d,false)).2.2=false:=by rw [Oa,decide_eq_false_iff_not]; exact c1
 generalize hM:(gJ (d,false)).1=M at *
 rw [e2]
 generalize hEE:(d.take (if M>2 then M else 2).toNat).drop 2=E at *
 have es:(E,(st (gJ (d,false)).2).2)=st (E,false):=by simp only [st,hs]
 rw [es,Cf hE]
 simp only [Option.bind_some]
 have f1:=jJ (t:=(E,false)) hE
 generalize q1:iT (E,false)=a1 at *
 rw [Cf f1.2]
 simp only [Option.bind_some]
 have f2:=jJ f1.2
 generalize q2:iT a1.2=a2 at *
 have k2:((a2.1.toNat:Nat):Int)=a2.1:=by omega
 have t3:=Cs (n:=n) (t:=a2.2) (k:=a2.1.toNat) (by omega)
 rw [k2] at t3
 rw [t3]
 simp only [Option.bind_some]
 have f3:=fG f2.2 a2.1.toNat
 generalize q3:gV a2.1.toNat a2.2=a3 at *
 rw [Cf f3.2.1]
 simp only [Option.bind_some]
 have f4:=jJ f3.2.1
 generalize q4:iT a3.2=a4 at *
 have k4:((a4.1.toNat:Nat):Int)=a4.1:=by omega
 have t5:=Cs (n:=n) (t:=a4.2) (k:=a4.1.toNat) (by omega)
 rw [k4] at t5
 rw [t5]
 simp only [Option.bind_some]
 have f5:=fG f4.2 a4.1.toNat
 generalize q5:gV a4.1.toNat a4.2=a5 at *
 rw [Cf f5.2.1]
 simp only [Option.bind_some]
 have f6:=jJ f5.2.1
 generalize q6:iT a5.2=a6 at *
 have hR:yl E=((a1.1,a3.1,a5.1,(qJ a6.2 a6.1.toNat).1,(iT (qJ a6.2 a6.1.toNat).2).1,(iT (iT (qJ a6.2 a6.1.toNat).2).2).1,(gJ (iT (iT (qJ a6.2 a6.1.toNat).2).2).2).1,
   (gV (gJ (gJ (iT (iT (qJ a6.2 a6.1.toNat).2).2).2).2).1.toNat (gJ (gJ (iT (iT (qJ a6.2 a6.1.toNat).2).2).2).2).2).1,()),
   (gV (gJ (gJ (iT (iT (qJ a6.2 a6.1.toNat).2).2).2).2).1.toNat (gJ (gJ (iT (iT (qJ a6.2 a6.1.toNat).2).2).2).2).2).2):=by
  simp only [yl,q1,q2,q3,q4,q5,q6]
 have hok:=abB hE
 rw [hR] at hok ⊢
 have f7:=Gz f6.2
 refine (aO (fun i=>(d,M,a6.1,(i:Int),zO,(a1.1,a3.1,a5.1,(qJ a6.2 i).1,(0:Int),(0:Int),(0:Int),([]:List Int),()),st (qJ a6.2 i).2,())) (fun _=>none) _ (m:=a6.1.toNat) rfl (by omega) ?_ ?_).trans (bJ (fun _ _ _=>rfl))
 ·intro L i hi _
  have hlt:(i:Int)<a6.1:=by omega
  simp only [hlt,decide_true,if_true,FJ (f7 i).2,Option.bind_some]
  rw [if_pos (by rw [(f7 i).1,List.length_singleton]; omega),wrap_i64 (by omega) (by omega)]
  rfl
 ·intro L _
  have hge:¬((a6.1.toNat:Int)<a6.1):=by omega
  simp only [hge,decide_false,Bool.false_eq_true,if_false]
  have f7:=f7 a6.1.toNat
  generalize qJ a6.2 a6.1.toNat=a7 at *
  rw [Cf f7.2]
  simp only [Option.bind_some]
  have f8:=jJ f7.2
  generalize iT a7.2=a8 at *
  rw [Cf f8.2]
  simp only [Option.bind_some]
  have f9:=jJ f8.2
  generalize iT a8.2=a9 at *
  rw [FJ f9.2]
  simp only [Option.bind_some]
  have f10:=wO f9.2
  generalize gJ a9.2=a10 at *
  rw [FJ f10.2]
  simp only [Option.bind_some]
  have f11:=wO f10.2
  generalize gJ a10.2=ZH at *
  have k11:((ZH.1.toNat:Nat):Int)=ZH.1:=by omega
  have t12:=Cs (n:=n) (t:=ZH.2) (k:=ZH.1.toNat) (by omega)
  rw [k11] at t12
  rw [t12]
  simp only [Option.bind_some]
  have f12:=fG f11.2 ZH.1.toNat
  generalize gV ZH.1.toNat ZH.2=a12 at *
  rw [if_pos (by rw [f12.2.2]; simp only [List.length_nil]; omega)]
  by_cases c3:a12.2.2=true
  ·rw [if_pos c3,if_pos c3]
  rw [if_neg c3,if_neg c3]
  rw [List.nil_append]
  rw [MV hok.1 hn]
  simp only [Option.bind_some]
  generalize hO:((a1.1,a3.1,a5.1,a7.1,a8.1,a9.1,a10.1,a12.1,()):OpC)=o at *
  by_cases c4:jg o=0
  ·rw [if_neg (by simp [c4]),if_neg (by simp [c4]),Yz (adq c4 hok.2) hn]
   simp only [Option.bind_some]
   rw [if_pos ⟨by omega,by omega⟩]
   unfold Bc
   simp only [Option.bind_some]
   by_cases c5:fM o=d.take M.toNat
   ·rw [if_neg (by simp [c5]),if_neg (by simp [c5])]
   ·rw [if_pos (by simp [c5]),if_pos c5]
  ·rw [if_pos (by simp [c4]),if_pos c4]
noncomputable def PY (d:List Int):OpC×Int:=match zH R8 d with
 | none=>(zO,0)
 | some o=>(o,((fM o).length:Int))
theorem VI {d:List Int} (h:uf d):JX d=PY d:=by
 unfold PY
 by_cases hx:∃o,Is R8 d o
 ·obtain ⟨o,ho⟩:=hx
  rw [PI ho]
  obtain ⟨g1,g2,g3⟩:=Nk ho.2
  have e1:(gJ (d,false)).1=((fM o).length:Int):=by
   rw [←g2]
   unfold gJ gV
   rw [if_neg (by simp; omega)]
   match d,g1 with
   | a :: b :: r,_=>rfl
  have hl:=xH o
  have hlb:=EN o
  have hle:=ho.2.length_le
  have e2:(if (gJ (d,false)).1>2 then (gJ (d,false)).1 else 2).toNat=(fM o).length:=by
   rw [if_pos (by omega)]; omega
  have e3:yl ((d.take (if (gJ (d,false)).1>2 then (gJ (d,false)).1 else 2).toNat).drop 2)=(o,(two (D8 (Ao o)),false)):=by
   rw [e2,g3,Cg,PG]
  unfold JX
  rw [e3,if_neg (by rw [Oa,decide_eq_true_eq]; omega),if_neg (by omega),if_neg (by simp),if_neg (fun hh=>hh ho.1),if_neg (fun hh=>hh (by rw [e1,Int.toNat_natCast,g3])),e1]
 ·rw [JR hx]
  unfold JX
  generalize (d.take (if (gJ (d,false)).1>2 then (gJ (d,false)).1 else 2).toNat).drop 2=E
  by_cases c1:(gJ (d,false)).2.2=true
  ·rw [if_pos c1]
  rw [if_neg c1]
  by_cases c2:(gJ (d,false)).1>(d.length:Int)
  ·rw [if_pos c2]
  rw [if_neg c2]
  by_cases c3:(yl E).2.2=true
  ·rw [if_pos c3]
  rw [if_neg c3]
  by_cases c4:jg (yl E).1=0
  ·rw [if_neg (fun hh=>hh c4)]
   by_cases c5:fM (yl E).1=d.take (gJ (d,false)).1.toNat
   ·refine absurd ⟨(yl E).1,c4, ?_⟩ hx
    rw [c5]; exact List.take_prefix _ _
   ·rw [if_pos c5]
  ·rw [if_pos c4]
theorem Ko {n:Nat} {d:List Int} (h:uf d) (hb:d.length≤big) (hn:big<n):rZ n d=some ((PY d).1,(PY d).2,()):=by
 rw [Rc h hb hn,VI h]
end Go.Proofs.YtdknpknohipffaaGreat.HY
