/- Reading of ops and journals by the reference, and journals of both. -/
import Derived.Test.YtailcbngagacaabGreatOwF
import Derived.Test.YtailcbngagacaabGreatLoopLib
import Derived.Test.YtailcbngagacaabGreatPackLib
import Derived.Test.YtailcbngagacaabGreatStoreMath
import Derived.Test.YtailcbngagacaabGreatOpsMath
import Derived.Test.YtailcbngagacaabGreatGoodMath
import Derived.Test.YtailcbngagacaabGreatCodecMath
import Derived.Test.YtailcbngagacaabGreatReadMath
import Derived.Test.YtailcbngagacaabGreatWriteF
set_option linter.unusedSectionVars false
set_option linter.unusedVariables false
set_option linter.unusedSimpArgs false
namespace Go.Proofs.YtailcbngagacaabGreat.Fx
open Go Go.Proofs.YtailcbngagacaabGreat.Ow Go.Proofs.YtailcbngagacaabGreat.oC Go.Proofs.YtailcbngagacaabGreat.kN Go.Proofs.YtailcbngagacaabGreat.wX Go.Proofs.YtailcbngagacaabGreat.gV Go.Proofs.YtailcbngagacaabGreat.jI Go.Proofs.YtailcbngagacaabGreat.vJ Go.Proofs.YtailcbngagacaabGreat.kR Go.Proofs.YtailcbngagacaabGreat.DK
abbrev sR (D:List Int) (t:Tk):List Int×Int×Bool×Unit:=(D,((D.length - t.1.length:Nat):Int),t.2,())
theorem dR {D:List Int} {t:Tk} (h:p9 D) (hs:t.1 <:+ D):(0≤(bO t).1∧(bO t).1≤255)∧(bO t).2.1 <:+ D:=by
 obtain ⟨l,b⟩:=t
 cases l with
 | nil=>exact ⟨⟨Int.le_refl _,by show (0:Int)≤255; omega⟩,hs⟩
 | cons x r=>exact ⟨h x (hs.mem (by simp)),(List.suffix_cons x r).trans hs⟩
theorem o9 {n:Nat} {D:List Int} {t:Tk} (h:p9 D) (hD:D.length≤big) (hs:t.1 <:+ D):dn n (sR D t)=some ((bO t).1,sR D (bO t).2,()):=by
 unfold big at hD
 obtain ⟨l,b⟩:=t
 unfold dn
 cases l with
 | nil=>
  rw [if_pos (by rw [decide_eq_true_eq]; simp)]
  simp [bO]
 | cons x r=>
  have hx:=h x (hs.mem (by simp))
  obtain ⟨p,rfl⟩:=hs
  have e1:((p++x :: r).length - (x :: r).length:Nat)=p.length:=by simp
  have e2:((p++x :: r).length - r.length:Nat)=p.length+1:=by simp; omega
  simp only [anp,anG] at hD
  simp only [sR,bO,e1,e2]
  rw [if_neg (by rw [decide_eq_true_eq,anp,anG]; omega),wrap_i64 (x:=(p.length:Int)+1) (by omega) (by omega),show (p.length:Int)+1 - 1=p.length by omega,wrap_i64 (by omega) (by omega)]
  rw [if_pos (aH (by rw [anp,anG]; omega))]
  have e3:(p++x :: r).getD ((p.length:Int)).toNat 0=x:=by simp
  rw [e3,wrap_i64 (by omega) (by omega)]
  rfl
theorem tu {D:List Int} {t:Tk} (h:p9 D) (hs:t.1 <:+ D):(0≤(jf t).1∧(jf t).1≤65535)∧(jf t).2.1 <:+ D:=by
 have h1:=dR h hs
 have h2:=dR h h1.2
 refine ⟨?_,h2.2⟩
 unfold jf
 simp only
 omega
theorem Gj {n:Nat} {D:List Int} {t:Tk} (h:p9 D) (hD:D.length≤big) (hs:t.1 <:+ D):gz n (sR D t)=some ((jf t).1,sR D (jf t).2,()):=by
 have h1:=dR h hs
 have h2:=dR h h1.2
 unfold gz
 rw [o9 h hD hs]
 simp only [ani]
 rw [o9 h hD h1.2]
 simp only [ani]
 rw [wrap_i64 (x:=(bO t).1 * 256) (by omega) (by omega),wrap_i64 (by omega) (by omega)]
 rfl
theorem qD {D:List Int} (h:p9 D):∀{k:Nat} {t:Tk},t.1 <:+ D→p9 (iF k t).1∧(iF k t).1.length≤k∧(iF k t).2.1 <:+ D
 | 0,t,hs=>⟨fun x hx=>absurd hx (List.not_mem_nil),anz _,hs⟩
 | k+1,t,hs=>by
  rw [iF]
  split
  ·exact ⟨fun x hx=>absurd hx (List.not_mem_nil),anR _,hs⟩
  ·have h1:=dR h hs
   have h2:=qD h (k:=k) h1.2
   exact ⟨rP h1.1 h2.1,by simp only [anG]; omega,h2.2.2⟩
theorem CE {n:Nat} {D:List Int} (h:p9 D) (hD:D.length≤big) {k:Nat} {t:Tk} (hs:t.1 <:+ D) (hk:k≤65535) (hn:big<n):iw n (sR D t) (k:Int)=some ((iF k t).1,sR D (iF k t).2,()):=by
 unfold big at hn
 unfold iw
 generalize hB:(fun (L1:Int×(List Int×Int×Bool×Unit)×List Int×Unit→Option (List Int×(List Int×Int×Bool×Unit)×Unit)) v1=>_)=B
 have key:∀(k:Nat) (t:Tk) (out:List Int) (f:Nat),k<f→t.1 <:+ D→out.length+k≤65535→rounds B f ((k:Int),sR D t,out,())=some (out++(iF k t).1,sR D (iF k t).2,()):=by
  intro k
  induction k with
  | zero=>
   intro t out f hf hs _
   obtain ⟨f,rfl⟩:∃g,f=g+1:=⟨f - 1,by omega⟩
   show B (rounds B f) _=_
   rw [←hB]
   simp [iF]
  | succ k ih=>
   intro t out f hf hs ho
   obtain ⟨f,rfl⟩:∃g,f=g+1:=⟨f - 1,by omega⟩
   have h1:=dR h hs
   show B (rounds B f) _=_
   rw [←hB]
   simp only
   rw [if_pos (by rw [decide_eq_true_eq]; omega)]
   by_cases hw:t.2=true
   ·rw [if_neg (by simp [hw]),iF,if_pos hw]
    simp
   ·rw [if_pos (by simp [hw]),o9 h hD hs]
    simp only [ani]
    rw [if_pos (by rw [anD]; omega),wrap_u8 h1.1.1 h1.1.2,wrap_i64 (by omega) (by omega),show ((k+1:Nat):Int) - 1=(k:Int) by omega,hB]
    rw [ih (bO t).2 _ f (by omega) h1.2 (by simp only [anp,anD]; omega),iF,if_neg hw]
    simp
 have:=key k t [] n (by omega) hs (by simpa using hk)
 simpa using this
theorem GY {D:List Int} (h:p9 D):∀{k:Nat} {t:Tk},t.1 <:+ D→(nG k t).1.length≤k∧(nG k t).2.1 <:+ D
 | 0,t,hs=>⟨anz _,hs⟩
 | k+1,t,hs=>by
  rw [nG]
  split
  ·exact ⟨anR _,hs⟩
  ·have h1:=tu h hs
   have h2:=GY h (k:=k) h1.2
   exact ⟨by simp only [anG]; omega,h2.2⟩
theorem KC {D d:List Int} (h:p9 D) (hs:d <:+ D):okO (Ew d).1∧p9 (Ew d).1.2.2.2.2.2.2.2.1:=by
 have h1:=dR (t:=(d,false)) h hs
 have h2:=dR h h1.2
 have h3:=qD h h2.2 (k:=(bO (bO (d,false)).2).1.toNat)
 have h4:=dR h h3.2.2
 generalize q3:iF (bO (bO (d,false)).2).1.toNat (bO (bO (d,false)).2).2=a3 at *
 have h5:=qD h h4.2 (k:=(bO a3.2).1.toNat)
 generalize q5:iF (bO a3.2).1.toNat (bO a3.2).2=a5 at *
 have h6:=dR h h5.2.2
 have h7:=GY h h6.2 (k:=(bO a5.2).1.toNat)
 generalize q7:nG (bO a5.2).1.toNat (bO a5.2).2=a7 at *
 have h8:=dR h h7.2
 have h9:=dR h h8.2
 have h10:=tu h h9.2
 have h11:=tu h h10.2
 have h12:=qD h h11.2 (k:=(jf (jf (bO (bO a7.2).2).2).2).1.toNat)
 have e:(Ew d).1=((bO (d,false)).1,a3.1,a5.1,a7.1,(bO a7.2).1,(bO (bO a7.2).2).1,(jf (bO (bO a7.2).2).2).1,(iF (jf (jf (bO (bO a7.2).2).2).2).1.toNat (jf (jf (bO (bO a7.2).2).2).2).2).1,()):=by
  simp only [Ew,q3,q5,q7]
 rw [e]
 unfold okO big
 simp only
 exact ⟨⟨by omega,by omega,by omega,by omega⟩,h12.1⟩
set_option maxRecDepth 20000 in
theorem MS {n:Nat} {D:List Int} (h:p9 D) (hD:D.length≤big) (h2:2≤D.length) (hn:big<n):tV n D=some ((Ew (D.drop 2)).1,()):=by
 have hn':=hn
 unfold big at hn'
 have hs:(D.drop 2) <:+ D:=List.drop_suffix 2 D
 have es:((D,(2:Int),false,()):List Int×Int×Bool×Unit)=sR D (D.drop 2,false):=by
  have:(D.length - (D.drop 2).length:Nat)=2:=by rw [List.length_drop]; omega
  simp only [sR,this]; rfl
 unfold tV
 rw [es]
 generalize D.drop 2=d at *
 rw [o9 h hD hs]
 simp only [ani]
 have f1:=dR (t:=(d,false)) h hs
 generalize q1:bO (d,false)=a1 at *
 rw [o9 h hD f1.2]
 simp only [ani]
 have f2:=dR h f1.2
 generalize q2:bO a1.2=a2 at *
 have k2:((a2.1.toNat:Nat):Int)=a2.1:=by omega
 have t3:=CE (n:=n) h hD (k:=a2.1.toNat) f2.2 (by omega) hn
 rw [k2] at t3
 rw [t3]
 simp only [ani]
 have f3:=qD h f2.2 (k:=a2.1.toNat)
 generalize q3:iF a2.1.toNat a2.2=a3 at *
 rw [o9 h hD f3.2.2]
 simp only [ani]
 have f4:=dR h f3.2.2
 generalize q4:bO a3.2=a4 at *
 have k4:((a4.1.toNat:Nat):Int)=a4.1:=by omega
 have t5:=CE (n:=n) h hD (k:=a4.1.toNat) f4.2 (by omega) hn
 rw [k4] at t5
 rw [t5]
 simp only [ani]
 have f5:=qD h f4.2 (k:=a4.1.toNat)
 generalize q5:iF a4.1.toNat a4.2=a5 at *
 rw [o9 h hD f5.2.2]
 simp only [ani]
 have f6:=dR h f5.2.2
 generalize q6:bO a5.2=a6 at *
 have tail:∀(us:List Int) (t:Tk),t.1 <:+ D→∀r,r=some (((a1.1,a3.1,a5.1,us,(bO t).1,(bO (bO t).2).1,(jf (bO (bO t).2).2).1,(iF (jf (jf (bO (bO t).2).2).2).1.toNat (jf (jf (bO (bO t).2).2).2).2).1,()):OpC),())→
   ((dn n (sR D t)).bind fun r9=>((dn n r9.2.1).bind fun Oh=>((gz n Oh.2.1).bind fun LH=>((gz n LH.2.1).bind fun K7=>((iw n K7.2.1 K7.1).bind fun OD=>some (((a1.1,a3.1,a5.1,us,r9.1,Oh.1,LH.1,OD.1,()):OpC),()))))))=r:=by
  intro us t ht r hr
  rw [hr,o9 h hD ht]
  simp only [ani]
  have g1:=dR h ht
  rw [o9 h hD g1.2]
  simp only [ani]
  have g2:=dR h g1.2
  rw [Gj h hD g2.2]
  simp only [ani]
  have g3:=tu h g2.2
  rw [Gj h hD g3.2]
  simp only [ani]
  have g4:=tu h g3.2
  generalize jf (jf (bO (bO t).2).2).2=a at *
  have k:((a.1.toNat:Nat):Int)=a.1:=by omega
  have t13:=CE (n:=n) h hD (k:=a.1.toNat) g4.2 (by omega) hn
  rw [k] at t13
  rw [t13]
  rfl
 generalize hB:(fun (L7:Int×OpC×(List Int×Int×Bool×Unit)×OpC×Unit→Option (OpC×Unit)) v7=>_)=B
 have key:∀(k:Nat) (t:Tk) (us:List Int) (f:Nat),k<f→t.1 <:+ D→us.length+k≤65535→rounds B f ((k:Int),zO,sR D t,(a1.1,a3.1,a5.1,us,(0:Int),(0:Int),(0:Int),([]:List Int),()),()) =
   some (((a1.1,a3.1,a5.1,us++(nG k t).1,(bO (nG k t).2).1,(bO (bO (nG k t).2).2).1,(jf (bO (bO (nG k t).2).2).2).1,(iF (jf (jf (bO (bO (nG k t).2).2).2).2).1.toNat (jf (jf (bO (bO (nG k t).2).2).2).2).2).1,()):OpC),()):=by
  intro k
  induction k with
  | zero=>
   intro t us f hf hs _
   obtain ⟨f,rfl⟩:∃g,f=g+1:=⟨f - 1,by omega⟩
   show B (rounds B f) _=_
   rw [←hB]
   simp only [nG,anM]
   rw [if_neg (by simp)]
   exact tail us t hs _ rfl
  | succ k ih=>
   intro t us f hf hs ho
   obtain ⟨f,rfl⟩:∃g,f=g+1:=⟨f - 1,by omega⟩
   have h1:=tu h hs
   show B (rounds B f) _=_
   rw [←hB]
   simp only
   rw [if_pos (by rw [decide_eq_true_eq]; omega)]
   by_cases hw:t.2=true
   ·rw [if_neg (by simp [hw]),nG,if_pos hw]
    simp only [anM]
    exact tail us t hs _ rfl
   ·rw [if_pos (by simp [hw]),Gj h hD hs]
    simp only [ani]
    rw [if_pos (by rw [anD]; omega),wrap_i64 (by omega) (by omega),show ((k+1:Nat):Int) - 1=(k:Int) by omega,hB]
    rw [ih (jf t).2 _ f (by omega) h1.2 (by simp only [anp,anD]; omega),nG,if_neg hw]
    simp
 have k6:((a6.1.toNat:Nat):Int)=a6.1:=by omega
 have:=key a6.1.toNat a6.2 [] n (by omega) f6.2 (by simp only [List.length_nil]; omega)
 rw [k6] at this
 rw [this]
 simp only [Ew,q1,q2,q3,q4,q5,q6,List.nil_append]
end Go.Proofs.YtailcbngagacaabGreat.Fx
