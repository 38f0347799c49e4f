/- Reading of ops and journals by the reference, and journals of both. -/
import Derived.Test.YtailcbngagacaaaGreatReadMath
namespace Go.Proofs.YtailcbngagacaaaGreat.zG
open Go Ow JO kF qc iw gU tK kK yM
abbrev sR (D:List Int) (t:Tk):List Int×Int×Bool×Unit:=(D,((D.length - t.1.length:Nat):Int),t.2,())
theorem eH {D:List Int} {t:Tk} (h:pR D) (hs:t.1 <:+ D):(0<=(cu t).1/\(cu t).1<=255)/\(cu t).2.1 <:+ D:=by
 obtain ⟨l,b⟩:=t
 cases l with
 | nil=>exact ⟨⟨ao3 _,by show (0:Int)<=255; omega⟩,hs⟩
 | cons x r=>exact ⟨h x (hs.mem (by simp)),(List.suffix_cons x r).trans hs⟩
theorem oZ {n:Nat} {D:List Int} {t:Tk} (h:pR D) (hD:D.length<=big) (hs:t.1 <:+ D):dJ n (sR D t)=some ((cu t).1,sR D (cu t).2,()):=by
 unfold big at hD
 obtain ⟨l,b⟩:=t
 unfold dJ
 cases l with
 | nil=>
  rw [aoi (by rw [ao1]; simp)]
  simp [cu]
 | cons x r=>
  have hx:=h x (hs.mem (by simp))
  obtain ⟨p,rfl⟩:=hs
  have e1:((p++x :: r).length - (x :: r).length:Nat)=p.length:=by simp
  have e2:((p++x :: r).length - r.length:Nat)=p.length+1:=by simp; omega
  simp only [anm,anD] at hD
  simp only [sR,cu,e1,e2]
  rw [aok (by rw [ao1,anm,anD]; omega),wrap_i64 (x:=(p.length:Int)+1) (by omega) (by omega),show (p.length:Int)+1 - 1=p.length by omega,wrap_i64 (by omega) (by omega)]
  rw [aoi (aJ (by rw [anm,anD]; omega))]
  have e3:(p++x :: r).getD ((p.length:Int)).toNat 0=x:=by simp
  rw [e3,wrap_i64 (by omega) (by omega)]
  rfl
theorem sI {D:List Int} {t:Tk} (h:pR D) (hs:t.1 <:+ D):(0<=(jK t).1/\(jK t).1<=65535)/\(jK t).2.1 <:+ D:=by
 have h1:=eH h hs
 have h2:=eH h h1.2
 refine ⟨?_,h2.2⟩
 unfold jK
 simp only
 omega
theorem Dz {n:Nat} {D:List Int} {t:Tk} (h:pR D) (hD:D.length<=big) (hs:t.1 <:+ D):gN n (sR D t)=some ((jK t).1,sR D (jK t).2,()):=by
 have h1:=eH h hs
 have h2:=eH h h1.2
 unfold gN
 rw [oZ h hD hs]
 simp only [anf]
 rw [oZ h hD h1.2]
 simp only [anf]
 rw [wrap_i64 (x:=(cu t).1 * 256) (by omega) (by omega),wrap_i64 (by omega) (by omega)]
 rfl
theorem qA {D:List Int} (h:pR D):∀{k:Nat} {t:Tk},t.1 <:+ D->pR (jl k t).1/\(jl k t).1.length<=k/\(jl k t).2.1 <:+ D
 | 0,t,hs=>⟨fun x hx=>absurd hx (aot),anv _,hs⟩
 | k+1,t,hs=>by
  rw [jl]
  split
  ·exact ⟨fun x hx=>absurd hx (aot),anO _,hs⟩
  ·have h1:=eH h hs
   have h2:=qA h (k:=k) h1.2
   exact ⟨ou h1.1 h2.1,by simp only [anD]; omega,h2.2.2⟩
theorem Ap {n:Nat} {D:List Int} (h:pR D) (hD:D.length<=big) {k:Nat} {t:Tk} (hs:t.1 <:+ D) (hk:k<=65535) (hn:big<n):iV n (sR D t) (k:Int)=some ((jl k t).1,sR D (jl k t).2,()):=by
 unfold big at hn
 unfold iV
 generalize hB:(fun (L1:Int×(List Int×Int×Bool×Unit)×List Int×Unit->Option (List Int×(List Int×Int×Bool×Unit)×Unit)) v1=>_)=B
 have key:∀(k:Nat) (t:Tk) (out:List Int) (f:Nat),k<f->t.1 <:+ D->out.length+k<=65535->rounds B f ((k:Int),sR D t,out,())=some (out++(jl k t).1,sR D (jl k t).2,()):=by
  intro k
  induction k with
  | zero=>
   intro t out f hf hs _
   obtain ⟨f,rfl⟩:∃g,f=g+1:=⟨f - 1,by omega⟩
   show B (rounds B f) _=_
   rw [<-hB]
   simp [jl]
  | succ k ih=>
   intro t out f hf hs ho
   obtain ⟨f,rfl⟩:∃g,f=g+1:=⟨f - 1,by omega⟩
   have h1:=eH h hs
   show B (rounds B f) _=_
   rw [<-hB]
   simp only
   rw [aoi (by rw [ao1]; omega)]
   by_cases hw:t.2=true
   ·rw [aok (by simp [hw]),jl,aoi hw]
    simp
   ·rw [aoi (by simp [hw]),oZ h hD hs]
    simp only [anf]
    rw [aoi (by rw [anA]; omega),wrap_u8 h1.1.1 h1.1.2,wrap_i64 (by omega) (by omega),show ((k+1:Nat):Int) - 1=(k:Int) by omega,hB]
    rw [ih (cu t).2 _ f (by omega) h1.2 (by simp only [anm,anA]; omega),jl,aok hw]
    simp
 have:=key k t [] n (by omega) hs (by simpa using hk)
 simpa using this
theorem Eh {D:List Int} (h:pR D):∀{k:Nat} {t:Tk},t.1 <:+ D->(nM k t).1.length<=k/\(nM k t).2.1 <:+ D
 | 0,t,hs=>⟨anv _,hs⟩
 | k+1,t,hs=>by
  rw [nM]
  split
  ·exact ⟨anO _,hs⟩
  ·have h1:=sI h hs
   have h2:=Eh h (k:=k) h1.2
   exact ⟨by simp only [anD]; omega,h2.2⟩
theorem GN {D d:List Int} (h:pR D) (hs:d <:+ D):okO (Ca d).1/\pR (Ca d).1.2.2.2.2.2.2.2.1:=by
 have h1:=eH (t:=(d,false)) h hs
 have h2:=eH h h1.2
 have h3:=qA h h2.2 (k:=(cu (cu (d,false)).2).1.toNat)
 have h4:=eH h h3.2.2
 generalize q3:jl (cu (cu (d,false)).2).1.toNat (cu (cu (d,false)).2).2=a3 at *
 have h5:=qA h h4.2 (k:=(cu a3.2).1.toNat)
 generalize q5:jl (cu a3.2).1.toNat (cu a3.2).2=a5 at *
 have h6:=eH h h5.2.2
 have h7:=Eh h h6.2 (k:=(cu a5.2).1.toNat)
 generalize q7:nM (cu a5.2).1.toNat (cu a5.2).2=a7 at *
 have h8:=eH h h7.2
 have h9:=eH h h8.2
 have h10:=sI h h9.2
 have h11:=sI h h10.2
 have h12:=qA h h11.2 (k:=(jK (jK (cu (cu a7.2).2).2).2).1.toNat)
 have e:(Ca d).1=((cu (d,false)).1,a3.1,a5.1,a7.1,(cu a7.2).1,(cu (cu a7.2).2).1,(jK (cu (cu a7.2).2).2).1,(jl (jK (jK (cu (cu a7.2).2).2).2).1.toNat (jK (jK (cu (cu a7.2).2).2).2).2).1,()):=by
  simp only [Ca,q3,q5,q7]
 rw [e]
 unfold okO big
 simp only
 exact ⟨⟨by omega,by omega,by omega,by omega⟩,h12.1⟩
set_option maxRecDepth 20000 in
theorem Jn {n:Nat} {D:List Int} (h:pR D) (hD:D.length<=big) (h2:2<=D.length) (hn:big<n):tu n D=some ((Ca (D.drop 2)).1,()):=by
 have hn':=hn
 unfold big at hn'
 have hs:(D.drop 2) <:+ D:=ao4 2 D
 have es:((D,(2:Int),false,()):List Int×Int×Bool×Unit)=sR D (D.drop 2,false):=by
  have:(D.length - (D.drop 2).length:Nat)=2:=by rw [ao5]; omega
  simp only [sR,this]; rfl
 unfold tu
 rw [es]
 generalize D.drop 2=d at *
 rw [oZ h hD hs]
 simp only [anf]
 have f1:=eH (t:=(d,false)) h hs
 generalize q1:cu (d,false)=a1 at *
 rw [oZ h hD f1.2]
 simp only [anf]
 have f2:=eH h f1.2
 generalize q2:cu a1.2=a2 at *
 have k2:((a2.1.toNat:Nat):Int)=a2.1:=by omega
 have t3:=Ap (n:=n) h hD (k:=a2.1.toNat) f2.2 (by omega) hn
 rw [k2] at t3
 rw [t3]
 simp only [anf]
 have f3:=qA h f2.2 (k:=a2.1.toNat)
 generalize q3:jl a2.1.toNat a2.2=a3 at *
 rw [oZ h hD f3.2.2]
 simp only [anf]
 have f4:=eH h f3.2.2
 generalize q4:cu a3.2=a4 at *
 have k4:((a4.1.toNat:Nat):Int)=a4.1:=by omega
 have t5:=Ap (n:=n) h hD (k:=a4.1.toNat) f4.2 (by omega) hn
 rw [k4] at t5
 rw [t5]
 simp only [anf]
 have f5:=qA h f4.2 (k:=a4.1.toNat)
 generalize q5:jl a4.1.toNat a4.2=a5 at *
 rw [oZ h hD f5.2.2]
 simp only [anf]
 have f6:=eH h f5.2.2
 generalize q6:cu a5.2=a6 at *
 have tail:∀(us:List Int) (t:Tk),t.1 <:+ D->∀r,r=some (((a1.1,a3.1,a5.1,us,(cu t).1,(cu (cu t).2).1,(jK (cu (cu t).2).2).1,(jl (jK (jK (cu (cu t).2).2).2).1.toNat (jK (jK (cu (cu t).2).2).2).2).1,()):OpC),())->
   ((dJ n (sR D t)).bind fun r9=>((dJ n r9.2.1).bind fun vY=>((gN n vY.2.1).bind fun wE=>((gN n wE.2.1).bind fun xC=>((iV n xC.2.1 xC.1).bind fun zT=>some (((a1.1,a3.1,a5.1,us,r9.1,vY.1,wE.1,zT.1,()):OpC),()))))))=r:=by
  intro us t ht r hr
  rw [hr,oZ h hD ht]
  simp only [anf]
  have g1:=eH h ht
  rw [oZ h hD g1.2]
  simp only [anf]
  have g2:=eH h g1.2
  rw [Dz h hD g2.2]
  simp only [anf]
  have g3:=sI h g2.2
  rw [Dz h hD g3.2]
  simp only [anf]
  have g4:=sI h g3.2
  generalize jK (jK (cu (cu t).2).2).2=a at *
  have k:((a.1.toNat:Nat):Int)=a.1:=by omega
  have t13:=Ap (n:=n) h hD (k:=a.1.toNat) g4.2 (by omega) hn
  rw [k] at t13
  rw [t13]
  rfl
 generalize hB:(fun (L7:Int×OpC×(List Int×Int×Bool×Unit)×OpC×Unit->Option (OpC×Unit)) v7=>_)=B
 have key:∀(k:Nat) (t:Tk) (us:List Int) (f:Nat),k<f->t.1 <:+ D->us.length+k<=65535->rounds B f ((k:Int),zO,sR D t,(a1.1,a3.1,a5.1,us,(0:Int),(0:Int),(0:Int),([]:List Int),()),()) =
   some (((a1.1,a3.1,a5.1,us++(nM k t).1,(cu (nM k t).2).1,(cu (cu (nM k t).2).2).1,(jK (cu (cu (nM k t).2).2).2).1,(jl (jK (jK (cu (cu (nM k t).2).2).2).2).1.toNat (jK (jK (cu (cu (nM k t).2).2).2).2).2).1,()):OpC),()):=by
  intro k
  induction k with
  | zero=>
   intro t us f hf hs _
   obtain ⟨f,rfl⟩:∃g,f=g+1:=⟨f - 1,by omega⟩
   show B (rounds B f) _=_
   rw [<-hB]
   simp only [nM,anJ]
   rw [aok (by simp)]
   exact tail us t hs _ rfl
  | succ k ih=>
   intro t us f hf hs ho
   obtain ⟨f,rfl⟩:∃g,f=g+1:=⟨f - 1,by omega⟩
   have h1:=sI h hs
   show B (rounds B f) _=_
   rw [<-hB]
   simp only
   rw [aoi (by rw [ao1]; omega)]
   by_cases hw:t.2=true
   ·rw [aok (by simp [hw]),nM,aoi hw]
    simp only [anJ]
    exact tail us t hs _ rfl
   ·rw [aoi (by simp [hw]),Dz h hD hs]
    simp only [anf]
    rw [aoi (by rw [anA]; omega),wrap_i64 (by omega) (by omega),show ((k+1:Nat):Int) - 1=(k:Int) by omega,hB]
    rw [ih (jK t).2 _ f (by omega) h1.2 (by simp only [anm,anA]; omega),nM,aok hw]
    simp
 have k6:((a6.1.toNat:Nat):Int)=a6.1:=by omega
 have:=key a6.1.toNat a6.2 [] n (by omega) f6.2 (by simp only [ao6]; omega)
 rw [k6] at this
 rw [this]
 simp only [Ca,q1,q2,q3,q4,q5,q6,anX]
end Go.Proofs.YtailcbngagacaaaGreat.zG
