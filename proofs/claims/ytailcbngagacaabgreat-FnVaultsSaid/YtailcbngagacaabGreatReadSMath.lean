/- Reading of ops and journals by the reference, and journals of both. -/
import Derived.Test.YtailcbngagacaabGreatReadMath
namespace Go.Proofs.YtailcbngagacaabGreat.Mr
open Go Ow ni nM vo oQ mP xL uu H7
abbrev sR (D:List Int) (t:Tk):List Int×Int×Bool×Unit:=(D,((D.length - t.1.length:Nat):Int),t.2,())
theorem oZ {D:List Int} {t:Tk} (h:dF D) (hs:t.1 <:+ D):(0<=(cZ t).1/\(cZ t).1<=255)/\(cZ t).2.1 <:+ D:=by
 obtain ⟨l,b⟩:=t
 cases l with
 | nil=>exact ⟨⟨DV _,by show (0:Int)<=255; omega⟩,hs⟩
 | cons x r=>exact ⟨h x (hs.mem (by simp)),(List.suffix_cons x r).trans hs⟩
theorem xX {n:Nat} {D:List Int} {t:Tk} (h:dF D) (hD:D.length<=big) (hs:t.1 <:+ D):qj n (sR D t)=some ((cZ t).1,sR D (cZ t).2,()):=by
 unfold big at hD
 obtain ⟨l,b⟩:=t
 unfold qj
 cases l with
 | nil=>
  rw [ak (by rw [dS]; simp)]
  simp [cZ]
 | cons x r=>
  have hx:=h x (hs.mem (by simp))
  obtain ⟨p,rfl⟩:=hs
  have e1:((p++x :: r).length - (x :: r).length:Nat)=p.length:=by simp
  have e2:((p++x :: r).length - r.length:Nat)=p.length+1:=by simp; omega
  simp only [bX,ig] at hD
  simp only [sR,cZ,e1,e2]
  rw [aA (by rw [dS,bX,ig]; omega),wrap_i64 (x:=(p.length:Int)+1) (by omega) (by omega),show (p.length:Int)+1 - 1=p.length by omega,wrap_i64 (by omega) (by omega)]
  rw [ak (dA (by rw [bX,ig]; omega))]
  have e3:(p++x :: r).getD ((p.length:Int)).toNat 0=x:=by simp
  rw [e3,wrap_i64 (by omega) (by omega)]
  rfl
theorem Ga {D:List Int} {t:Tk} (h:dF D) (hs:t.1 <:+ D):(0<=(jL t).1/\(jL t).1<=65535)/\(jL t).2.1 <:+ D:=by
 have h1:=oZ h hs
 have h2:=oZ h h1.2
 refine ⟨?_,h2.2⟩
 unfold jL
 simp only
 omega
theorem U4 {n:Nat} {D:List Int} {t:Tk} (h:dF D) (hD:D.length<=big) (hs:t.1 <:+ D):wK n (sR D t)=some ((jL t).1,sR D (jL t).2,()):=by
 have h1:=oZ h hs
 have h2:=oZ h h1.2
 unfold wK
 rw [xX h hD hs]
 simp only [aJ]
 rw [xX h hD h1.2]
 simp only [aJ]
 rw [wrap_i64 (x:=(cZ t).1 * 256) (by omega) (by omega),wrap_i64 (by omega) (by omega)]
 rfl
theorem Et {D:List Int} (h:dF D):∀{k:Nat} {t:Tk},t.1 <:+ D->dF (lH k t).1/\(lH k t).1.length<=k/\(lH k t).2.1 <:+ D
 | 0,t,hs=>⟨fun x hx=>absurd hx (zb),bP _,hs⟩
 | k+1,t,hs=>by
  rw [lH]
  split
  ·exact ⟨fun x hx=>absurd hx (zb),gq _,hs⟩
  ·have h1:=oZ h hs
   have h2:=Et h (k:=k) h1.2
   exact ⟨vT h1.1 h2.1,by simp only [ig]; omega,h2.2.2⟩
theorem QT {n:Nat} {D:List Int} (h:dF D) (hD:D.length<=big) {k:Nat} {t:Tk} (hs:t.1 <:+ D) (hk:k<=65535) (hn:big<n):yZ n (sR D t) (k:Int)=some ((lH k t).1,sR D (lH k t).2,()):=by
 unfold big at hn
 unfold yZ
 generalize hB:(fun (L1:Int×(List Int×Int×Bool×Unit)×List Int×Unit->Option (List Int×(List Int×Int×Bool×Unit)×Unit)) v1=>_)=B
 have key:∀(k:Nat) (t:Tk) (out:List Int) (f:Nat),k<f->t.1 <:+ D->out.length+k<=65535->rounds B f ((k:Int),sR D t,out,())=some (out++(lH k t).1,sR D (lH k t).2,()):=by
  intro k
  induction k with
  | zero=>
   intro t out f hf hs _
   obtain ⟨f,rfl⟩:∃g,f=g+1:=⟨f - 1,by omega⟩
   show B (rounds B f) _=_
   rw [<-hB]
   simp [lH]
  | succ k ih=>
   intro t out f hf hs ho
   obtain ⟨f,rfl⟩:∃g,f=g+1:=⟨f - 1,by omega⟩
   have h1:=oZ h hs
   show B (rounds B f) _=_
   rw [<-hB]
   simp only
   rw [ak (by rw [dS]; omega)]
   by_cases hw:t.2=true
   ·rw [aA (by simp [hw]),lH,ak hw]
    simp
   ·rw [ak (by simp [hw]),xX h hD hs]
    simp only [aJ]
    rw [ak (by rw [jC]; omega),wrap_u8 h1.1.1 h1.1.2,wrap_i64 (by omega) (by omega),show ((k+1:Nat):Int) - 1=(k:Int) by omega,hB]
    rw [ih (cZ t).2 _ f (by omega) h1.2 (by simp only [bX,jC]; omega),lH,aA hw]
    simp
 have:=key k t [] n (by omega) hs (by simpa using hk)
 simpa using this
theorem acO {D:List Int} (h:dF D):∀{k:Nat} {t:Tk},t.1 <:+ D->(pI k t).1.length<=k/\(pI k t).2.1 <:+ D
 | 0,t,hs=>⟨bP _,hs⟩
 | k+1,t,hs=>by
  rw [pI]
  split
  ·exact ⟨gq _,hs⟩
  ·have h1:=Ga h hs
   have h2:=acO h (k:=k) h1.2
   exact ⟨by simp only [ig]; omega,h2.2⟩
theorem Uf {D d:List Int} (h:dF D) (hs:d <:+ D):okO (yG d).1/\dF (yG d).1.2.2.2.2.2.2.2.1:=by
 have h1:=oZ (t:=(d,false)) h hs
 have h2:=oZ h h1.2
 have h3:=Et h h2.2 (k:=(cZ (cZ (d,false)).2).1.toNat)
 have h4:=oZ h h3.2.2
 generalize q3:lH (cZ (cZ (d,false)).2).1.toNat (cZ (cZ (d,false)).2).2=a3 at *
 have h5:=Et h h4.2 (k:=(cZ a3.2).1.toNat)
 generalize q5:lH (cZ a3.2).1.toNat (cZ a3.2).2=a5 at *
 have h6:=oZ h h5.2.2
 have h7:=acO h h6.2 (k:=(cZ a5.2).1.toNat)
 generalize q7:pI (cZ a5.2).1.toNat (cZ a5.2).2=a7 at *
 have h8:=oZ h h7.2
 have h9:=oZ h h8.2
 have h10:=Ga h h9.2
 have h11:=Ga h h10.2
 have h12:=Et h h11.2 (k:=(jL (jL (cZ (cZ a7.2).2).2).2).1.toNat)
 have e:(yG d).1=((cZ (d,false)).1,a3.1,a5.1,a7.1,(cZ a7.2).1,(cZ (cZ a7.2).2).1,(jL (cZ (cZ a7.2).2).2).1,(lH (jL (jL (cZ (cZ a7.2).2).2).2).1.toNat (jL (jL (cZ (cZ a7.2).2).2).2).2).1,()):=by
  simp only [yG,q3,q5,q7]
 rw [e]
 unfold okO big
 simp only
 exact ⟨⟨by omega,by omega,by omega,by omega⟩,h12.1⟩
set_option maxRecDepth 20000 in
theorem abN {n:Nat} {D:List Int} (h:dF D) (hD:D.length<=big) (h2:2<=D.length) (hn:big<n):LM n D=some ((yG (D.drop 2)).1,()):=by
 have hn':=hn
 unfold big at hn'
 have hs:(D.drop 2) <:+ D:=P9 2 D
 have es:((D,(2:Int),false,()):List Int×Int×Bool×Unit)=sR D (D.drop 2,false):=by
  have:(D.length - (D.drop 2).length:Nat)=2:=by rw [wP]; omega
  simp only [sR,this]; rfl
 unfold LM
 rw [es]
 generalize D.drop 2=d at *
 rw [xX h hD hs]
 simp only [aJ]
 have f1:=oZ (t:=(d,false)) h hs
 generalize q1:cZ (d,false)=a1 at *
 rw [xX h hD f1.2]
 simp only [aJ]
 have f2:=oZ h f1.2
 generalize q2:cZ a1.2=a2 at *
 have k2:((a2.1.toNat:Nat):Int)=a2.1:=by omega
 have t3:=QT (n:=n) h hD (k:=a2.1.toNat) f2.2 (by omega) hn
 rw [k2] at t3
 rw [t3]
 simp only [aJ]
 have f3:=Et h f2.2 (k:=a2.1.toNat)
 generalize q3:lH a2.1.toNat a2.2=a3 at *
 rw [xX h hD f3.2.2]
 simp only [aJ]
 have f4:=oZ h f3.2.2
 generalize q4:cZ a3.2=a4 at *
 have k4:((a4.1.toNat:Nat):Int)=a4.1:=by omega
 have t5:=QT (n:=n) h hD (k:=a4.1.toNat) f4.2 (by omega) hn
 rw [k4] at t5
 rw [t5]
 simp only [aJ]
 have f5:=Et h f4.2 (k:=a4.1.toNat)
 generalize q5:lH a4.1.toNat a4.2=a5 at *
 rw [xX h hD f5.2.2]
 simp only [aJ]
 have f6:=oZ h f5.2.2
 generalize q6:cZ a5.2=a6 at *
 have tail:∀(us:List Int) (t:Tk),t.1 <:+ D->∀r,r=some (((a1.1,a3.1,a5.1,us,(cZ t).1,(cZ (cZ t).2).1,(jL (cZ (cZ t).2).2).1,(lH (jL (jL (cZ (cZ t).2).2).2).1.toNat (jL (jL (cZ (cZ t).2).2).2).2).1,()):OpC),())->
   ((qj n (sR D t)).bind fun r9=>((qj n r9.2.1).bind fun gF=>((wK n gF.2.1).bind fun gN=>((wK n gN.2.1).bind fun gX=>((yZ n gX.2.1 gX.1).bind fun jd=>some (((a1.1,a3.1,a5.1,us,r9.1,gF.1,gN.1,jd.1,()):OpC),()))))))=r:=by
  intro us t ht r hr
  rw [hr,xX h hD ht]
  simp only [aJ]
  have g1:=oZ h ht
  rw [xX h hD g1.2]
  simp only [aJ]
  have g2:=oZ h g1.2
  rw [U4 h hD g2.2]
  simp only [aJ]
  have g3:=Ga h g2.2
  rw [U4 h hD g3.2]
  simp only [aJ]
  have g4:=Ga h g3.2
  generalize jL (jL (cZ (cZ t).2).2).2=a at *
  have k:((a.1.toNat:Nat):Int)=a.1:=by omega
  have t13:=QT (n:=n) h hD (k:=a.1.toNat) g4.2 (by omega) hn
  rw [k] at t13
  rw [t13]
  rfl
 generalize hB:(fun (L7:Int×OpC×(List Int×Int×Bool×Unit)×OpC×Unit->Option (OpC×Unit)) v7=>_)=B
 have key:∀(k:Nat) (t:Tk) (us:List Int) (f:Nat),k<f->t.1 <:+ D->us.length+k<=65535->rounds B f ((k:Int),zO,sR D t,(a1.1,a3.1,a5.1,us,(0:Int),(0:Int),(0:Int),([]:List Int),()),()) =
   some (((a1.1,a3.1,a5.1,us++(pI k t).1,(cZ (pI k t).2).1,(cZ (cZ (pI k t).2).2).1,(jL (cZ (cZ (pI k t).2).2).2).1,(lH (jL (jL (cZ (cZ (pI k t).2).2).2).2).1.toNat (jL (jL (cZ (cZ (pI k t).2).2).2).2).2).1,()):OpC),()):=by
  intro k
  induction k with
  | zero=>
   intro t us f hf hs _
   obtain ⟨f,rfl⟩:∃g,f=g+1:=⟨f - 1,by omega⟩
   show B (rounds B f) _=_
   rw [<-hB]
   simp only [pI,gT]
   rw [aA (by simp)]
   exact tail us t hs _ rfl
  | succ k ih=>
   intro t us f hf hs ho
   obtain ⟨f,rfl⟩:∃g,f=g+1:=⟨f - 1,by omega⟩
   have h1:=Ga h hs
   show B (rounds B f) _=_
   rw [<-hB]
   simp only
   rw [ak (by rw [dS]; omega)]
   by_cases hw:t.2=true
   ·rw [aA (by simp [hw]),pI,ak hw]
    simp only [gT]
    exact tail us t hs _ rfl
   ·rw [ak (by simp [hw]),U4 h hD hs]
    simp only [aJ]
    rw [ak (by rw [jC]; omega),wrap_i64 (by omega) (by omega),show ((k+1:Nat):Int) - 1=(k:Int) by omega,hB]
    rw [ih (jL t).2 _ f (by omega) h1.2 (by simp only [bX,jC]; omega),pI,aA hw]
    simp
 have k6:((a6.1.toNat:Nat):Int)=a6.1:=by omega
 have:=key a6.1.toNat a6.2 [] n (by omega) f6.2 (by simp only [mZ]; omega)
 rw [k6] at this
 rw [this]
 simp only [yG,q1,q2,q3,q4,q5,q6,rO]
end Go.Proofs.YtailcbngagacaabGreat.Mr
