/- Reading of ops and journals by the reference, and journals of both. -/
import Derived.Test.YtailcbngagacaaaGreatReadMath
namespace Go.Proofs.YtailcbngagacaaaGreat.Ms
open Go Ow nJ oh vB pO ng yZ uA H_
abbrev sR (D:List Int) (t:Tk):List Int×Int×Bool×Unit:=(D,((D.length - t.1.length:Nat):Int),t.2,())
theorem oZ {D:List Int} {t:Tk} (h:dA D) (hs:t.1 <:+ D):(0<=(cZ t).1/\(cZ t).1<=255)/\(cZ t).2.1 <:+ D:=by
 obtain ⟨l,b⟩:=t
 cases l with
 | nil=>exact ⟨⟨Bo _,by show (0:Int)<=255; omega⟩,hs⟩
 | cons x r=>exact ⟨h x (hs.mem (by simp)),(List.suffix_cons x r).trans hs⟩
theorem xY {n:Nat} {D:List Int} {t:Tk} (h:dA D) (hD:D.length<=big) (hs:t.1 <:+ D):ql n (sR D t)=some ((cZ t).1,sR D (cZ t).2,()):=by
 unfold big at hD
 obtain ⟨l,b⟩:=t
 unfold ql
 cases l with
 | nil=>
  rw [aj (by rw [dH]; simp)]
  simp [cZ]
 | cons x r=>
  have hx:=h x (hs.mem (by simp))
  obtain ⟨p,rfl⟩:=hs
  have e1:((p++x :: r).length - (x :: r).length:Nat)=p.length:=by simp
  have e2:((p++x :: r).length - r.length:Nat)=p.length+1:=by simp; omega
  simp only [bV,gY] at hD
  simp only [sR,cZ,e1,e2]
  rw [aA (by rw [dH,bV,gY]; omega),wrap_i64 (x:=(p.length:Int)+1) (by omega) (by omega),show (p.length:Int)+1 - 1=p.length by omega,wrap_i64 (by omega) (by omega)]
  rw [aj (dz (by rw [bV,gY]; omega))]
  have e3:(p++x :: r).getD ((p.length:Int)).toNat 0=x:=by simp
  rw [e3,wrap_i64 (by omega) (by omega)]
  rfl
theorem F_ {D:List Int} {t:Tk} (h:dA D) (hs:t.1 <:+ D):(0<=(jK t).1/\(jK t).1<=65535)/\(jK t).2.1 <:+ D:=by
 have h1:=oZ h hs
 have h2:=oZ h h1.2
 refine ⟨?_,h2.2⟩
 unfold jK
 simp only
 omega
theorem UX {n:Nat} {D:List Int} {t:Tk} (h:dA D) (hD:D.length<=big) (hs:t.1 <:+ D):wL n (sR D t)=some ((jK t).1,sR D (jK t).2,()):=by
 have h1:=oZ h hs
 have h2:=oZ h h1.2
 unfold wL
 rw [xY h hD hs]
 simp only [aL]
 rw [xY h hD h1.2]
 simp only [aL]
 rw [wrap_i64 (x:=(cZ t).1 * 256) (by omega) (by omega),wrap_i64 (by omega) (by omega)]
 rfl
theorem Er {D:List Int} (h:dA D):∀{k:Nat} {t:Tk},t.1 <:+ D->dA (lG k t).1/\(lG k t).1.length<=k/\(lG k t).2.1 <:+ D
 | 0,t,hs=>⟨fun x hx=>absurd hx (wR),bN _,hs⟩
 | k+1,t,hs=>by
  rw [lG]
  split
  ·exact ⟨fun x hx=>absurd hx (wR),fT _,hs⟩
  ·have h1:=oZ h hs
   have h2:=Er h (k:=k) h1.2
   exact ⟨vU h1.1 h2.1,by simp only [gY]; omega,h2.2.2⟩
theorem QL {n:Nat} {D:List Int} (h:dA D) (hD:D.length<=big) {k:Nat} {t:Tk} (hs:t.1 <:+ D) (hk:k<=65535) (hn:big<n):yX n (sR D t) (k:Int)=some ((lG k t).1,sR D (lG k t).2,()):=by
 unfold big at hn
 unfold yX
 generalize hB:(fun (L1:Int×(List Int×Int×Bool×Unit)×List Int×Unit->Option (List Int×(List Int×Int×Bool×Unit)×Unit)) v1=>_)=B
 have key:∀(k:Nat) (t:Tk) (out:List Int) (f:Nat),k<f->t.1 <:+ D->out.length+k<=65535->rounds B f ((k:Int),sR D t,out,())=some (out++(lG k t).1,sR D (lG k t).2,()):=by
  intro k
  induction k with
  | zero=>
   intro t out f hf hs _
   obtain ⟨f,rfl⟩:∃g,f=g+1:=⟨f - 1,by omega⟩
   show B (rounds B f) _=_
   rw [<-hB]
   simp [lG]
  | succ k ih=>
   intro t out f hf hs ho
   obtain ⟨f,rfl⟩:∃g,f=g+1:=⟨f - 1,by omega⟩
   have h1:=oZ h hs
   show B (rounds B f) _=_
   rw [<-hB]
   simp only
   rw [aj (by rw [dH]; omega)]
   by_cases hw:t.2=true
   ·rw [aA (by simp [hw]),lG,aj hw]
    simp
   ·rw [aj (by simp [hw]),xY h hD hs]
    simp only [aL]
    rw [aj (by rw [jN]; omega),wrap_u8 h1.1.1 h1.1.2,wrap_i64 (by omega) (by omega),show ((k+1:Nat):Int) - 1=(k:Int) by omega,hB]
    rw [ih (cZ t).2 _ f (by omega) h1.2 (by simp only [bV,jN]; omega),lG,aA hw]
    simp
 have:=key k t [] n (by omega) hs (by simpa using hk)
 simpa using this
theorem acN {D:List Int} (h:dA D):∀{k:Nat} {t:Tk},t.1 <:+ D->(pI k t).1.length<=k/\(pI k t).2.1 <:+ D
 | 0,t,hs=>⟨bN _,hs⟩
 | k+1,t,hs=>by
  rw [pI]
  split
  ·exact ⟨fT _,hs⟩
  ·have h1:=F_ h hs
   have h2:=acN h (k:=k) h1.2
   exact ⟨by simp only [gY]; omega,h2.2⟩
theorem T9 {D d:List Int} (h:dA D) (hs:d <:+ D):okO (yG d).1/\dA (yG d).1.2.2.2.2.2.2.2.1:=by
 have h1:=oZ (t:=(d,false)) h hs
 have h2:=oZ h h1.2
 have h3:=Er h h2.2 (k:=(cZ (cZ (d,false)).2).1.toNat)
 have h4:=oZ h h3.2.2
 generalize q3:lG (cZ (cZ (d,false)).2).1.toNat (cZ (cZ (d,false)).2).2=a3 at *
 have h5:=Er h h4.2 (k:=(cZ a3.2).1.toNat)
 generalize q5:lG (cZ a3.2).1.toNat (cZ a3.2).2=a5 at *
 have h6:=oZ h h5.2.2
 have h7:=acN h h6.2 (k:=(cZ a5.2).1.toNat)
 generalize q7:pI (cZ a5.2).1.toNat (cZ a5.2).2=a7 at *
 have h8:=oZ h h7.2
 have h9:=oZ h h8.2
 have h10:=F_ h h9.2
 have h11:=F_ h h10.2
 have h12:=Er h h11.2 (k:=(jK (jK (cZ (cZ a7.2).2).2).2).1.toNat)
 have e:(yG d).1=((cZ (d,false)).1,a3.1,a5.1,a7.1,(cZ a7.2).1,(cZ (cZ a7.2).2).1,(jK (cZ (cZ a7.2).2).2).1,(lG (jK (jK (cZ (cZ a7.2).2).2).2).1.toNat (jK (jK (cZ (cZ a7.2).2).2).2).2).1,()):=by
  simp only [yG,q3,q5,q7]
 rw [e]
 unfold okO big
 simp only
 exact ⟨⟨by omega,by omega,by omega,by omega⟩,h12.1⟩
set_option maxRecDepth 20000 in
theorem abN {n:Nat} {D:List Int} (h:dA D) (hD:D.length<=big) (h2:2<=D.length) (hn:big<n):LD n D=some ((yG (D.drop 2)).1,()):=by
 have hn':=hn
 unfold big at hn'
 have hs:(D.drop 2) <:+ D:=P8 2 D
 have es:((D,(2:Int),false,()):List Int×Int×Bool×Unit)=sR D (D.drop 2,false):=by
  have:(D.length - (D.drop 2).length:Nat)=2:=by rw [wQ]; omega
  simp only [sR,this]; rfl
 unfold LD
 rw [es]
 generalize D.drop 2=d at *
 rw [xY h hD hs]
 simp only [aL]
 have f1:=oZ (t:=(d,false)) h hs
 generalize q1:cZ (d,false)=a1 at *
 rw [xY h hD f1.2]
 simp only [aL]
 have f2:=oZ h f1.2
 generalize q2:cZ a1.2=a2 at *
 have k2:((a2.1.toNat:Nat):Int)=a2.1:=by omega
 have t3:=QL (n:=n) h hD (k:=a2.1.toNat) f2.2 (by omega) hn
 rw [k2] at t3
 rw [t3]
 simp only [aL]
 have f3:=Er h f2.2 (k:=a2.1.toNat)
 generalize q3:lG a2.1.toNat a2.2=a3 at *
 rw [xY h hD f3.2.2]
 simp only [aL]
 have f4:=oZ h f3.2.2
 generalize q4:cZ a3.2=a4 at *
 have k4:((a4.1.toNat:Nat):Int)=a4.1:=by omega
 have t5:=QL (n:=n) h hD (k:=a4.1.toNat) f4.2 (by omega) hn
 rw [k4] at t5
 rw [t5]
 simp only [aL]
 have f5:=Er h f4.2 (k:=a4.1.toNat)
 generalize q5:lG a4.1.toNat a4.2=a5 at *
 rw [xY h hD f5.2.2]
 simp only [aL]
 have f6:=oZ h f5.2.2
 generalize q6:cZ a5.2=a6 at *
 have tail:∀(us:List Int) (t:Tk),t.1 <:+ D->∀r,r=some (((a1.1,a3.1,a5.1,us,(cZ t).1,(cZ (cZ t).2).1,(jK (cZ (cZ t).2).2).1,(lG (jK (jK (cZ (cZ t).2).2).2).1.toNat (jK (jK (cZ (cZ t).2).2).2).2).1,()):OpC),())->
   ((ql n (sR D t)).bind fun r9=>((ql n r9.2.1).bind fun gV=>((wL n gV.2.1).bind fun gK=>((wL n gK.2.1).bind fun gW=>((yX n gW.2.1 gW.1).bind fun iO=>some (((a1.1,a3.1,a5.1,us,r9.1,gV.1,gK.1,iO.1,()):OpC),()))))))=r:=by
  intro us t ht r hr
  rw [hr,xY h hD ht]
  simp only [aL]
  have g1:=oZ h ht
  rw [xY h hD g1.2]
  simp only [aL]
  have g2:=oZ h g1.2
  rw [UX h hD g2.2]
  simp only [aL]
  have g3:=F_ h g2.2
  rw [UX h hD g3.2]
  simp only [aL]
  have g4:=F_ h g3.2
  generalize jK (jK (cZ (cZ t).2).2).2=a at *
  have k:((a.1.toNat:Nat):Int)=a.1:=by omega
  have t13:=QL (n:=n) h hD (k:=a.1.toNat) g4.2 (by omega) hn
  rw [k] at t13
  rw [t13]
  rfl
 generalize hB:(fun (L7:Int×OpC×(List Int×Int×Bool×Unit)×OpC×Unit->Option (OpC×Unit)) v7=>_)=B
 have key:∀(k:Nat) (t:Tk) (us:List Int) (f:Nat),k<f->t.1 <:+ D->us.length+k<=65535->rounds B f ((k:Int),zO,sR D t,(a1.1,a3.1,a5.1,us,(0:Int),(0:Int),(0:Int),([]:List Int),()),()) =
   some (((a1.1,a3.1,a5.1,us++(pI k t).1,(cZ (pI k t).2).1,(cZ (cZ (pI k t).2).2).1,(jK (cZ (cZ (pI k t).2).2).2).1,(lG (jK (jK (cZ (cZ (pI k t).2).2).2).2).1.toNat (jK (jK (cZ (cZ (pI k t).2).2).2).2).2).1,()):OpC),()):=by
  intro k
  induction k with
  | zero=>
   intro t us f hf hs _
   obtain ⟨f,rfl⟩:∃g,f=g+1:=⟨f - 1,by omega⟩
   show B (rounds B f) _=_
   rw [<-hB]
   simp only [pI,h_]
   rw [aA (by simp)]
   exact tail us t hs _ rfl
  | succ k ih=>
   intro t us f hf hs ho
   obtain ⟨f,rfl⟩:∃g,f=g+1:=⟨f - 1,by omega⟩
   have h1:=F_ h hs
   show B (rounds B f) _=_
   rw [<-hB]
   simp only
   rw [aj (by rw [dH]; omega)]
   by_cases hw:t.2=true
   ·rw [aA (by simp [hw]),pI,aj hw]
    simp only [h_]
    exact tail us t hs _ rfl
   ·rw [aj (by simp [hw]),UX h hD hs]
    simp only [aL]
    rw [aj (by rw [jN]; omega),wrap_i64 (by omega) (by omega),show ((k+1:Nat):Int) - 1=(k:Int) by omega,hB]
    rw [ih (jK t).2 _ f (by omega) h1.2 (by simp only [bV,jN]; omega),pI,aA hw]
    simp
 have k6:((a6.1.toNat:Nat):Int)=a6.1:=by omega
 have:=key a6.1.toNat a6.2 [] n (by omega) f6.2 (by simp only [mY]; omega)
 rw [k6] at this
 rw [this]
 simp only [yG,q1,q2,q3,q4,q5,q6,rR]
end Go.Proofs.YtailcbngagacaaaGreat.Ms
