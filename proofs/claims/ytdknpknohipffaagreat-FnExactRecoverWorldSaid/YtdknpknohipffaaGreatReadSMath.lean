/- Reading of ops and journals by the reference, and journals of both. -/
import Derived.Test.YtdknpknohipffaaGreatOwF
import Derived.Test.YtdknpknohipffaaGreatLoopLib
import Derived.Test.YtdknpknohipffaaGreatPackLib
import Derived.Test.YtdknpknohipffaaGreatStoreMath
import Derived.Test.YtdknpknohipffaaGreatOpsMath
import Derived.Test.YtdknpknohipffaaGreatGoodMath
import Derived.Test.YtdknpknohipffaaGreatCodecMath
import Derived.Test.YtdknpknohipffaaGreatReadMath
import Derived.Test.YtdknpknohipffaaGreatRwF
set_option linter.unusedSectionVars false
set_option linter.unusedVariables false
set_option linter.unusedSimpArgs false
namespace Go.Proofs.YtdknpknohipffaaGreat.Js
open Go Go.Proofs.YtdknpknohipffaaGreat.Ow Go.Proofs.YtdknpknohipffaaGreat.Uf Go.Proofs.YtdknpknohipffaaGreat.nW Go.Proofs.YtdknpknohipffaaGreat.CO Go.Proofs.YtdknpknohipffaaGreat.iI Go.Proofs.YtdknpknohipffaaGreat.kR Go.Proofs.YtdknpknohipffaaGreat.Bu Go.Proofs.YtdknpknohipffaaGreat.oQ Go.Proofs.YtdknpknohipffaaGreat.HY
abbrev sR (D:List Int) (t:Tk):List Int×Int×Bool×Unit:=(D,((D.length - t.1.length:Nat):Int),t.2,())
theorem dW {D:List Int} {t:Tk} (h:uf D) (hs:t.1 <:+ D):(0≤(bP t).1∧(bP t).1≤255)∧(bP t).2.1 <:+ D:=by
 obtain ⟨l,b⟩:=t
 cases l with
 | nil=>exact ⟨⟨Int.le_refl _,by show (0:Int)≤255; omega⟩,hs⟩
 | cons x r=>exact ⟨h x (hs.mem (by simp)),(List.suffix_cons x r).trans hs⟩
theorem rq {n:Nat} {D:List Int} {t:Tk} (h:uf D) (hD:D.length≤big) (hs:t.1 <:+ D):dm n (sR D t)=some ((bP t).1,sR D (bP t).2,()):=by
 unfold big at hD
 obtain ⟨l,b⟩:=t
 unfold dm
 cases l with
 | nil=>
  rw [if_pos (by rw [decide_eq_true_eq]; simp)]
  simp [bP]
 | cons x r=>
  have hx:=h x (hs.mem (by simp))
  obtain ⟨p,rfl⟩:=hs
  have e1:((p++x :: r).length - (x :: r).length:Nat)=p.length:=by simp
  have e2:((p++x :: r).length - r.length:Nat)=p.length+1:=by simp; omega
  simp only [List.length_append,List.length_cons] at hD
  simp only [sR,bP,e1,e2]
  rw [if_neg (by rw [decide_eq_true_eq,List.length_append,List.length_cons]; omega),wrap_i64 (x:=(p.length:Int)+1) (by omega) (by omega),show (p.length:Int)+1 - 1=p.length by omega,wrap_i64 (by omega) (by omega)]
  rw [if_pos (aG (by rw [List.length_append,List.length_cons]; omega))]
  have e3:(p++x :: r).getD ((p.length:Int)).toNat 0=x:=by simp
  rw [e3,wrap_i64 (by omega) (by omega)]
  rfl
theorem wP {D:List Int} {t:Tk} (h:uf D) (hs:t.1 <:+ D):(0≤(jw t).1∧(jw t).1≤65535)∧(jw t).2.1 <:+ D:=by
 have h1:=dW h hs
 have h2:=dW h h1.2
 refine ⟨?_,h2.2⟩
 unfold jw
 simp only
 omega
theorem J4 {n:Nat} {D:List Int} {t:Tk} (h:uf D) (hD:D.length≤big) (hs:t.1 <:+ D):fZ n (sR D t)=some ((jw t).1,sR D (jw t).2,()):=by
 have h1:=dW h hs
 have h2:=dW h h1.2
 unfold fZ
 rw [rq h hD hs]
 simp only [Option.bind_some]
 rw [rq h hD h1.2]
 simp only [Option.bind_some]
 rw [wrap_i64 (x:=(bP t).1 * 256) (by omega) (by omega),wrap_i64 (by omega) (by omega)]
 rfl
theorem tX {D:List Int} (h:uf D):∀{k:Nat} {t:Tk},t.1 <:+ D→uf (iO k t).1∧(iO k t).1.length≤k∧(iO k t).2.1 <:+ D
 | 0,t,hs=>⟨fun x hx=>absurd hx (List.not_mem_nil),Nat.le_refl _,hs⟩
 | k+1,t,hs=>by
  rw [iO]
  split
  ·exact ⟨fun x hx=>absurd hx (List.not_mem_nil),Nat.zero_le _,hs⟩
  ·have h1:=dW h hs
   have h2:=tX h (k:=k) h1.2
   exact ⟨vg h1.1 h2.1,by simp only [List.length_cons]; omega,h2.2.2⟩
theorem Gq {n:Nat} {D:List Int} (h:uf D) (hD:D.length≤big) {k:Nat} {t:Tk} (hs:t.1 <:+ D) (hk:k≤65535) (hn:big<n):iC n (sR D t) (k:Int)=some ((iO k t).1,sR D (iO k t).2,()):=by
 unfold big at hn
 unfold iC
 generalize hB:(fun (L1:Int×(List Int×Int×Bool×Unit)×List Int×Unit→Option (List Int×(List Int×Int×Bool×Unit)×Unit)) v1=>_)=B
 have key:∀(k:Nat) (t:Tk) (out:List Int) (f:Nat),k<f→t.1 <:+ D→out.length+k≤65535→rounds B f ((k:Int),sR D t,out,())=some (out++(iO k t).1,sR D (iO k t).2,()):=by
  intro k
  induction k with
  | zero=>
   intro t out f hf hs _
   obtain ⟨f,rfl⟩:∃g,f=g+1:=⟨f - 1,by omega⟩
   show B (rounds B f) _=_
   rw [←hB]
   simp [iO]
  | succ k ih=>
   intro t out f hf hs ho
   obtain ⟨f,rfl⟩:∃g,f=g+1:=⟨f - 1,by omega⟩
   have h1:=dW h hs
   show B (rounds B f) _=_
   rw [←hB]
   simp only
   rw [if_pos (by rw [decide_eq_true_eq]; omega)]
   by_cases hw:t.2=true
   ·rw [if_neg (by simp [hw]),iO,if_pos hw]
    simp
   ·rw [if_pos (by simp [hw]),rq h hD hs]
    simp only [Option.bind_some]
    rw [if_pos (by rw [List.length_singleton]; omega),wrap_u8 h1.1.1 h1.1.2,wrap_i64 (by omega) (by omega),show ((k+1:Nat):Int) - 1=(k:Int) by omega,hB]
    rw [ih (bP t).2 _ f (by omega) h1.2 (by simp only [List.length_append,List.length_singleton]; omega),iO,if_neg hw]
    simp
 have:=key k t [] n (by omega) hs (by simpa using hk)
 simpa using this
theorem Ku {D:List Int} (h:uf D):∀{k:Nat} {t:Tk},t.1 <:+ D→(o8 k t).1.length≤k∧(o8 k t).2.1 <:+ D
 | 0,t,hs=>⟨Nat.le_refl _,hs⟩
 | k+1,t,hs=>by
  rw [o8]
  split
  ·exact ⟨Nat.zero_le _,hs⟩
  ·have h1:=wP h hs
   have h2:=Ku h (k:=k) h1.2
   exact ⟨by simp only [List.length_cons]; omega,h2.2⟩
theorem NK {D d:List Int} (h:uf D) (hs:d <:+ D):okO (IB d).1∧uf (IB d).1.2.2.2.2.2.2.2.1:=by
 have h1:=dW (t:=(d,false)) h hs
 have h2:=dW h h1.2
 have h3:=tX h h2.2 (k:=(bP (bP (d,false)).2).1.toNat)
 have h4:=dW h h3.2.2
 generalize q3:iO (bP (bP (d,false)).2).1.toNat (bP (bP (d,false)).2).2=a3 at *
 have h5:=tX h h4.2 (k:=(bP a3.2).1.toNat)
 generalize q5:iO (bP a3.2).1.toNat (bP a3.2).2=a5 at *
 have h6:=dW h h5.2.2
 have h7:=Ku h h6.2 (k:=(bP a5.2).1.toNat)
 generalize q7:o8 (bP a5.2).1.toNat (bP a5.2).2=a7 at *
 have h8:=dW h h7.2
 have h9:=dW h h8.2
 have h10:=wP h h9.2
 have h11:=wP h h10.2
 have h12:=tX h h11.2 (k:=(jw (jw (bP (bP a7.2).2).2).2).1.toNat)
 have e:(IB d).1=((bP (d,false)).1,a3.1,a5.1,a7.1,(bP a7.2).1,(bP (bP a7.2).2).1,(jw (bP (bP a7.2).2).2).1,(iO (jw (jw (bP (bP a7.2).2).2).2).1.toNat (jw (jw (bP (bP a7.2).2).2).2).2).1,()):=by
  simp only [IB,q3,q5,q7]
 rw [e]
 unfold okO big
 simp only
 exact ⟨⟨by omega,by omega,by omega,by omega⟩,h12.1⟩
set_option maxRecDepth 20000 in
theorem PK {n:Nat} {D:List Int} (h:uf D) (hD:D.length≤big) (h2:2≤D.length) (hn:big<n):xg n D=some ((IB (D.drop 2)).1,()):=by
 have hn':=hn
 unfold big at hn'
 have hs:(D.drop 2) <:+ D:=List.drop_suffix 2 D
 have es:((D,(2:Int),false,()):List Int×Int×Bool×Unit)=sR D (D.drop 2,false):=by
  have:(D.length - (D.drop 2).length:Nat)=2:=by rw [List.length_drop]; omega
  simp only [sR,this]; rfl
 unfold xg
 rw [es]
 generalize D.drop 2=d at *
 rw [rq h hD hs]
 simp only [Option.bind_some]
 have f1:=dW (t:=(d,false)) h hs
 generalize q1:bP (d,false)=a1 at *
 rw [rq h hD f1.2]
 simp only [Option.bind_some]
 have f2:=dW h f1.2
 generalize q2:bP a1.2=a2 at *
 have k2:((a2.1.toNat:Nat):Int)=a2.1:=by omega
 have t3:=Gq (n:=n) h hD (k:=a2.1.toNat) f2.2 (by omega) hn
 rw [k2] at t3
 rw [t3]
 simp only [Option.bind_some]
 have f3:=tX h f2.2 (k:=a2.1.toNat)
 generalize q3:iO a2.1.toNat a2.2=a3 at *
 rw [rq h hD f3.2.2]
 simp only [Option.bind_some]
 have f4:=dW h f3.2.2
 generalize q4:bP a3.2=a4 at *
 have k4:((a4.1.toNat:Nat):Int)=a4.1:=by omega
 have t5:=Gq (n:=n) h hD (k:=a4.1.toNat) f4.2 (by omega) hn
 rw [k4] at t5
 rw [t5]
 simp only [Option.bind_some]
 have f5:=tX h f4.2 (k:=a4.1.toNat)
 generalize q5:iO a4.1.toNat a4.2=a5 at *
 rw [rq h hD f5.2.2]
 simp only [Option.bind_some]
 have f6:=dW h f5.2.2
 generalize q6:bP a5.2=a6 at *
 have tail:∀(us:List Int) (t:Tk),t.1 <:+ D→∀r,r=some (((a1.1,a3.1,a5.1,us,(bP t).1,(bP (bP t).2).1,(jw (bP (bP t).2).2).1,(iO (jw (jw (bP (bP t).2).2).2).1.toNat (jw (jw (bP (bP t).2).2).2).2).1,()):OpC),())→
   ((dm n (sR D t)).bind fun r9=>((dm n r9.2.1).bind fun Rb=>((fZ n Rb.2.1).bind fun Lf=>((fZ n Lf.2.1).bind fun NJ=>((iC n NJ.2.1 NJ.1).bind fun RA=>some (((a1.1,a3.1,a5.1,us,r9.1,Rb.1,Lf.1,RA.1,()):OpC),()))))))=r:=by
  intro us t ht r hr
  rw [hr,rq h hD ht]
  simp only [Option.bind_some]
  have g1:=dW h ht
  rw [rq h hD g1.2]
  simp only [Option.bind_some]
  have g2:=dW h g1.2
  rw [J4 h hD g2.2]
  simp only [Option.bind_some]
  have g3:=wP h g2.2
  rw [J4 h hD g3.2]
  simp only [Option.bind_some]
  have g4:=wP h g3.2
  generalize jw (jw (bP (bP t).2).2).2=a at *
  have k:((a.1.toNat:Nat):Int)=a.1:=by omega
  have t13:=Gq (n:=n) h hD (k:=a.1.toNat) g4.2 (by omega) hn
  rw [k] at t13
  rw [t13]
  rfl
 generalize hB:(fun (L7:Int×OpC×(List Int×Int×Bool×Unit)×OpC×Unit→Option (OpC×Unit)) v7=>_)=B
 have key:∀(k:Nat) (t:Tk) (us:List Int) (f:Nat),k<f→t.1 <:+ D→us.length+k≤65535→rounds B f ((k:Int),zO,sR D t,(a1.1,a3.1,a5.1,us,(0:Int),(0:Int),(0:Int),([]:List Int),()),()) =
   some (((a1.1,a3.1,a5.1,us++(o8 k t).1,(bP (o8 k t).2).1,(bP (bP (o8 k t).2).2).1,(jw (bP (bP (o8 k t).2).2).2).1,(iO (jw (jw (bP (bP (o8 k t).2).2).2).2).1.toNat (jw (jw (bP (bP (o8 k t).2).2).2).2).2).1,()):OpC),()):=by
  intro k
  induction k with
  | zero=>
   intro t us f hf hs _
   obtain ⟨f,rfl⟩:∃g,f=g+1:=⟨f - 1,by omega⟩
   show B (rounds B f) _=_
   rw [←hB]
   simp only [o8,List.append_nil]
   rw [if_neg (by simp)]
   exact tail us t hs _ rfl
  | succ k ih=>
   intro t us f hf hs ho
   obtain ⟨f,rfl⟩:∃g,f=g+1:=⟨f - 1,by omega⟩
   have h1:=wP h hs
   show B (rounds B f) _=_
   rw [←hB]
   simp only
   rw [if_pos (by rw [decide_eq_true_eq]; omega)]
   by_cases hw:t.2=true
   ·rw [if_neg (by simp [hw]),o8,if_pos hw]
    simp only [List.append_nil]
    exact tail us t hs _ rfl
   ·rw [if_pos (by simp [hw]),J4 h hD hs]
    simp only [Option.bind_some]
    rw [if_pos (by rw [List.length_singleton]; omega),wrap_i64 (by omega) (by omega),show ((k+1:Nat):Int) - 1=(k:Int) by omega,hB]
    rw [ih (jw t).2 _ f (by omega) h1.2 (by simp only [List.length_append,List.length_singleton]; omega),o8,if_neg hw]
    simp
 have k6:((a6.1.toNat:Nat):Int)=a6.1:=by omega
 have:=key a6.1.toNat a6.2 [] n (by omega) f6.2 (by simp only [List.length_nil]; omega)
 rw [k6] at this
 rw [this]
 simp only [IB,q1,q2,q3,q4,q5,q6,List.nil_append]
end Go.Proofs.YtdknpknohipffaaGreat.Js
