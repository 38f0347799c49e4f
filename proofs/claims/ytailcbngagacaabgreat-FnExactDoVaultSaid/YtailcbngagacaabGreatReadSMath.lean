/- Reading of ops and journals by the reference, and journals of both. -/
import Derived.Test.YtailcbngagacaabGreatOwF
import Derived.Test.YtailcbngagacaabGreatLoopLib
import Derived.Test.YtailcbngagacaabGreatPackLib
import Derived.Test.YtailcbngagacaabGreatStoreMath
import Derived.Test.YtailcbngagacaabGreatOpsMath
import Derived.Test.YtailcbngagacaabGreatGoodMath
import Derived.Test.YtailcbngagacaabGreatCodecMath
import Derived.Test.YtailcbngagacaabGreatReadMath
import Derived.Test.YtailcbngagacaabGreatDoF
set_option linter.unusedSectionVars false
set_option linter.unusedVariables false
set_option linter.unusedSimpArgs false
namespace Go.Proofs.YtailcbngagacaabGreat.FL
open Go Go.Proofs.YtailcbngagacaabGreat.Ow Go.Proofs.YtailcbngagacaabGreat.Nr Go.Proofs.YtailcbngagacaabGreat.jO Go.Proofs.YtailcbngagacaabGreat.xh Go.Proofs.YtailcbngagacaabGreat.gp Go.Proofs.YtailcbngagacaabGreat.jc Go.Proofs.YtailcbngagacaabGreat.vR Go.Proofs.YtailcbngagacaabGreat.jV Go.Proofs.YtailcbngagacaabGreat.D5
abbrev sR (D:List Int) (t:Tk):List Int×Int×Bool×Unit:=(D,((D.length - t.1.length:Nat):Int),t.2,())
theorem dQ {D:List Int} {t:Tk} (h:qc D) (hs:t.1 <:+ D):(0≤(bO t).1∧(bO t).1≤255)∧(bO t).2.1 <:+ D:=by
 obtain ⟨l,b⟩:=t
 cases l with
 | nil=>exact ⟨⟨Int.le_refl _,by show (0:Int)≤255; omega⟩,hs⟩
 | cons x r=>exact ⟨h x (hs.mem (by simp)),(List.suffix_cons x r).trans hs⟩
theorem pE {n:Nat} {D:List Int} {t:Tk} (h:qc D) (hD:D.length≤big) (hs:t.1 <:+ D):dn n (sR D t)=some ((bO t).1,sR D (bO t).2,()):=by
 unfold big at hD
 obtain ⟨l,b⟩:=t
 unfold dn
 cases l with
 | nil=>
  rw [if_pos (by rw [decide_eq_true_eq]; simp)]
  simp [bO]
 | cons x r=>
  have hx:=h x (hs.mem (by simp))
  obtain ⟨p,rfl⟩:=hs
  have e1:((p++x :: r).length - (x :: r).length:Nat)=p.length:=by simp
  have e2:((p++x :: r).length - r.length:Nat)=p.length+1:=by simp; omega
  simp only [an5,aok] at hD
  simp only [sR,bO,e1,e2]
  rw [if_neg (by rw [decide_eq_true_eq,an5,aok]; omega),wrap_i64 (x:=(p.length:Int)+1) (by omega) (by omega),show (p.length:Int)+1 - 1=p.length by omega,wrap_i64 (by omega) (by omega)]
  rw [if_pos (aH (by rw [an5,aok]; omega))]
  have e3:(p++x :: r).getD ((p.length:Int)).toNat 0=x:=by simp
  rw [e3,wrap_i64 (by omega) (by omega)]
  rfl
theorem tN {D:List Int} {t:Tk} (h:qc D) (hs:t.1 <:+ D):(0≤(jl t).1∧(jl t).1≤65535)∧(jl t).2.1 <:+ D:=by
 have h1:=dQ h hs
 have h2:=dQ h h1.2
 refine ⟨?_,h2.2⟩
 unfold jl
 simp only
 omega
theorem Gv {n:Nat} {D:List Int} {t:Tk} (h:qc D) (hD:D.length≤big) (hs:t.1 <:+ D):gD n (sR D t)=some ((jl t).1,sR D (jl t).2,()):=by
 have h1:=dQ h hs
 have h2:=dQ h h1.2
 unfold gD
 rw [pE h hD hs]
 simp only [anY]
 rw [pE h hD h1.2]
 simp only [anY]
 rw [wrap_i64 (x:=(bO t).1 * 256) (by omega) (by omega),wrap_i64 (by omega) (by omega)]
 rfl
theorem qH {D:List Int} (h:qc D):∀{k:Nat} {t:Tk},t.1 <:+ D→qc (iJ k t).1∧(iJ k t).1.length≤k∧(iJ k t).2.1 <:+ D
 | 0,t,hs=>⟨fun x hx=>absurd hx (List.not_mem_nil),aod _,hs⟩
 | k+1,t,hs=>by
  rw [iJ]
  split
  ·exact ⟨fun x hx=>absurd hx (List.not_mem_nil),aov _,hs⟩
  ·have h1:=dQ h hs
   have h2:=qH h (k:=k) h1.2
   exact ⟨rX h1.1 h2.1,by simp only [aok]; omega,h2.2.2⟩
theorem CS {n:Nat} {D:List Int} (h:qc D) (hD:D.length≤big) {k:Nat} {t:Tk} (hs:t.1 <:+ D) (hk:k≤65535) (hn:big<n):iC n (sR D t) (k:Int)=some ((iJ k t).1,sR D (iJ k t).2,()):=by
 unfold big at hn
 unfold iC
 generalize hB:(fun (L1:Int×(List Int×Int×Bool×Unit)×List Int×Unit→Option (List Int×(List Int×Int×Bool×Unit)×Unit)) v1=>_)=B
 have key:∀(k:Nat) (t:Tk) (out:List Int) (f:Nat),k<f→t.1 <:+ D→out.length+k≤65535→rounds B f ((k:Int),sR D t,out,())=some (out++(iJ k t).1,sR D (iJ k t).2,()):=by
  intro k
  induction k with
  | zero=>
   intro t out f hf hs _
   obtain ⟨f,rfl⟩:∃g,f=g+1:=⟨f - 1,by omega⟩
   show B (rounds B f) _=_
   rw [←hB]
   simp [iJ]
  | succ k ih=>
   intro t out f hf hs ho
   obtain ⟨f,rfl⟩:∃g,f=g+1:=⟨f - 1,by omega⟩
   have h1:=dQ h hs
   show B (rounds B f) _=_
   rw [←hB]
   simp only
   rw [if_pos (by rw [decide_eq_true_eq]; omega)]
   by_cases hw:t.2=true
   ·rw [if_neg (by simp [hw]),iJ,if_pos hw]
    simp
   ·rw [if_pos (by simp [hw]),pE h hD hs]
    simp only [anY]
    rw [if_pos (by rw [aoh]; omega),wrap_u8 h1.1.1 h1.1.2,wrap_i64 (by omega) (by omega),show ((k+1:Nat):Int) - 1=(k:Int) by omega,hB]
    rw [ih (bO t).2 _ f (by omega) h1.2 (by simp only [an5,aoh]; omega),iJ,if_neg hw]
    simp
 have:=key k t [] n (by omega) hs (by simpa using hk)
 simpa using this
theorem Hq {D:List Int} (h:qc D):∀{k:Nat} {t:Tk},t.1 <:+ D→(nI k t).1.length≤k∧(nI k t).2.1 <:+ D
 | 0,t,hs=>⟨aod _,hs⟩
 | k+1,t,hs=>by
  rw [nI]
  split
  ·exact ⟨aov _,hs⟩
  ·have h1:=tN h hs
   have h2:=Hq h (k:=k) h1.2
   exact ⟨by simp only [aok]; omega,h2.2⟩
theorem KP {D d:List Int} (h:qc D) (hs:d <:+ D):okO (EJ d).1∧qc (EJ d).1.2.2.2.2.2.2.2.1:=by
 have h1:=dQ (t:=(d,false)) h hs
 have h2:=dQ h h1.2
 have h3:=qH h h2.2 (k:=(bO (bO (d,false)).2).1.toNat)
 have h4:=dQ h h3.2.2
 generalize q3:iJ (bO (bO (d,false)).2).1.toNat (bO (bO (d,false)).2).2=a3 at *
 have h5:=qH h h4.2 (k:=(bO a3.2).1.toNat)
 generalize q5:iJ (bO a3.2).1.toNat (bO a3.2).2=a5 at *
 have h6:=dQ h h5.2.2
 have h7:=Hq h h6.2 (k:=(bO a5.2).1.toNat)
 generalize q7:nI (bO a5.2).1.toNat (bO a5.2).2=a7 at *
 have h8:=dQ h h7.2
 have h9:=dQ h h8.2
 have h10:=tN h h9.2
 have h11:=tN h h10.2
 have h12:=qH h h11.2 (k:=(jl (jl (bO (bO a7.2).2).2).2).1.toNat)
 have e:(EJ d).1=((bO (d,false)).1,a3.1,a5.1,a7.1,(bO a7.2).1,(bO (bO a7.2).2).1,(jl (bO (bO a7.2).2).2).1,(iJ (jl (jl (bO (bO a7.2).2).2).2).1.toNat (jl (jl (bO (bO a7.2).2).2).2).2).1,()):=by
  simp only [EJ,q3,q5,q7]
 rw [e]
 unfold okO big
 simp only
 exact ⟨⟨by omega,by omega,by omega,by omega⟩,h12.1⟩
set_option maxRecDepth 20000 in
theorem M7 {n:Nat} {D:List Int} (h:qc D) (hD:D.length≤big) (h2:2≤D.length) (hn:big<n):uj n D=some ((EJ (D.drop 2)).1,()):=by
 have hn':=hn
 unfold big at hn'
 have hs:(D.drop 2) <:+ D:=List.drop_suffix 2 D
 have es:((D,(2:Int),false,()):List Int×Int×Bool×Unit)=sR D (D.drop 2,false):=by
  have:(D.length - (D.drop 2).length:Nat)=2:=by rw [List.length_drop]; omega
  simp only [sR,this]; rfl
 unfold uj
 rw [es]
 generalize D.drop 2=d at *
 rw [pE h hD hs]
 simp only [anY]
 have f1:=dQ (t:=(d,false)) h hs
 generalize q1:bO (d,false)=a1 at *
 rw [pE h hD f1.2]
 simp only [anY]
 have f2:=dQ h f1.2
 generalize q2:bO a1.2=a2 at *
 have k2:((a2.1.toNat:Nat):Int)=a2.1:=by omega
 have t3:=CS (n:=n) h hD (k:=a2.1.toNat) f2.2 (by omega) hn
 rw [k2] at t3
 rw [t3]
 simp only [anY]
 have f3:=qH h f2.2 (k:=a2.1.toNat)
 generalize q3:iJ a2.1.toNat a2.2=a3 at *
 rw [pE h hD f3.2.2]
 simp only [anY]
 have f4:=dQ h f3.2.2
 generalize q4:bO a3.2=a4 at *
 have k4:((a4.1.toNat:Nat):Int)=a4.1:=by omega
 have t5:=CS (n:=n) h hD (k:=a4.1.toNat) f4.2 (by omega) hn
 rw [k4] at t5
 rw [t5]
 simp only [anY]
 have f5:=qH h f4.2 (k:=a4.1.toNat)
 generalize q5:iJ a4.1.toNat a4.2=a5 at *
 rw [pE h hD f5.2.2]
 simp only [anY]
 have f6:=dQ h f5.2.2
 generalize q6:bO a5.2=a6 at *
 have tail:∀(us:List Int) (t:Tk),t.1 <:+ D→∀r,r=some (((a1.1,a3.1,a5.1,us,(bO t).1,(bO (bO t).2).1,(jl (bO (bO t).2).2).1,(iJ (jl (jl (bO (bO t).2).2).2).1.toNat (jl (jl (bO (bO t).2).2).2).2).1,()):OpC),())→
   ((dn n (sR D t)).bind fun r9=>((dn n r9.2.1).bind fun OA=>((gD n OA.2.1).bind fun L6=>((gD n L6.2.1).bind fun Lj=>((iC n Lj.2.1 Lj.1).bind fun OV=>some (((a1.1,a3.1,a5.1,us,r9.1,OA.1,L6.1,OV.1,()):OpC),()))))))=r:=by
  intro us t ht r hr
  rw [hr,pE h hD ht]
  simp only [anY]
  have g1:=dQ h ht
  rw [pE h hD g1.2]
  simp only [anY]
  have g2:=dQ h g1.2
  rw [Gv h hD g2.2]
  simp only [anY]
  have g3:=tN h g2.2
  rw [Gv h hD g3.2]
  simp only [anY]
  have g4:=tN h g3.2
  generalize jl (jl (bO (bO t).2).2).2=a at *
  have k:((a.1.toNat:Nat):Int)=a.1:=by omega
  have t13:=CS (n:=n) h hD (k:=a.1.toNat) g4.2 (by omega) hn
  rw [k] at t13
  rw [t13]
  rfl
 generalize hB:(fun (L7:Int×OpC×(List Int×Int×Bool×Unit)×OpC×Unit→Option (OpC×Unit)) v7=>_)=B
 have key:∀(k:Nat) (t:Tk) (us:List Int) (f:Nat),k<f→t.1 <:+ D→us.length+k≤65535→rounds B f ((k:Int),zO,sR D t,(a1.1,a3.1,a5.1,us,(0:Int),(0:Int),(0:Int),([]:List Int),()),()) =
   some (((a1.1,a3.1,a5.1,us++(nI k t).1,(bO (nI k t).2).1,(bO (bO (nI k t).2).2).1,(jl (bO (bO (nI k t).2).2).2).1,(iJ (jl (jl (bO (bO (nI k t).2).2).2).2).1.toNat (jl (jl (bO (bO (nI k t).2).2).2).2).2).1,()):OpC),()):=by
  intro k
  induction k with
  | zero=>
   intro t us f hf hs _
   obtain ⟨f,rfl⟩:∃g,f=g+1:=⟨f - 1,by omega⟩
   show B (rounds B f) _=_
   rw [←hB]
   simp only [nI,aoq]
   rw [if_neg (by simp)]
   exact tail us t hs _ rfl
  | succ k ih=>
   intro t us f hf hs ho
   obtain ⟨f,rfl⟩:∃g,f=g+1:=⟨f - 1,by omega⟩
   have h1:=tN h hs
   show B (rounds B f) _=_
   rw [←hB]
   simp only
   rw [if_pos (by rw [decide_eq_true_eq]; omega)]
   by_cases hw:t.2=true
   ·rw [if_neg (by simp [hw]),nI,if_pos hw]
    simp only [aoq]
    exact tail us t hs _ rfl
   ·rw [if_pos (by simp [hw]),Gv h hD hs]
    simp only [anY]
    rw [if_pos (by rw [aoh]; omega),wrap_i64 (by omega) (by omega),show ((k+1:Nat):Int) - 1=(k:Int) by omega,hB]
    rw [ih (jl t).2 _ f (by omega) h1.2 (by simp only [an5,aoh]; omega),nI,if_neg hw]
    simp
 have k6:((a6.1.toNat:Nat):Int)=a6.1:=by omega
 have:=key a6.1.toNat a6.2 [] n (by omega) f6.2 (by simp only [List.length_nil]; omega)
 rw [k6] at this
 rw [this]
 simp only [EJ,q1,q2,q3,q4,q5,q6,List.nil_append]
end Go.Proofs.YtailcbngagacaabGreat.FL
