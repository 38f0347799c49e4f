/- Reading of ops and journals by the reference, and journals of both. -/
import Derived.Test.YtplpeegfeajkkaaGreatDoorReadMath
namespace Go.Proofs.YtplpeegfeajkkaaGreatDoor.M8
open Go Ow nE nQ BH oI nS xV tK Iw
abbrev sR(D:List Int)(t:Tk):List Int×Int×Bool×Unit:=(D,((D.length-t.1.length:Nat):Int),t.2,())
theorem pz{D:List Int}{t:Tk}(h:dX D)(hs:t.1 <:+ D):(0<=(dI t).1/\(dI t).1<=255)/\(dI t).2.1 <:+ D:=by
 obtain⟨l,b⟩:=t
 cases l with
 |nil=>exact⟨⟨Ie _,by show(0:Int)<=255;omega⟩,hs⟩
 |cons x r=>exact⟨h x (hs.mem (by simp)),(List.suffix_cons x r).trans hs⟩
theorem yu{n:Nat}{D:List Int}{t:Tk}(h:dX D)(hD:D.length<=big)(hs:t.1 <:+ D):qy n (sR D t)=some ((dI t).1,sR D (dI t).2,()):=by
 unfold big at hD
 obtain⟨l,b⟩:=t
 unfold qy
 cases l with
 |nil=>
  rw[aj (by rw[dW];simp)]
  simp[dI]
 |cons x r=>
  have hx:=h x (hs.mem (by simp))
  obtain⟨p,rfl⟩:=hs
  have e1:((p++x :: r).length-(x :: r).length:Nat)=p.length:=by simp
  have e2:((p++x :: r).length-r.length:Nat)=p.length+1:=by simp;omega
  simp only[dN,gF]at hD
  simp only[sR,dI,e1,e2]
  rw[aC (by rw[dW,dN,gF];omega),wrap_i64 (x:=(p.length:Int)+1) (by omega) (by omega),show(p.length:Int)+1-1=p.length by omega,wrap_i64 (by omega) (by omega)]
  rw[aj (bU (by rw[dN,gF];omega))]
  have e3:(p++x :: r).getD ((p.length:Int)).toNat 0=x:=by simp
  rw[e3,wrap_i64 (by omega) (by omega)]
  rfl
theorem Gf{D:List Int}{t:Tk}(h:dX D)(hs:t.1 <:+ D):(0<=(jJ t).1/\(jJ t).1<=65535)/\(jJ t).2.1 <:+ D:=by
 have h1:=pz h hs
 have h2:=pz h h1.2
 refine⟨?_,h2.2⟩
 unfold jJ
 simp only
 omega
theorem VD{n:Nat}{D:List Int}{t:Tk}(h:dX D)(hD:D.length<=big)(hs:t.1 <:+ D):wT n (sR D t)=some ((jJ t).1,sR D (jJ t).2,()):=by
 have h1:=pz h hs
 have h2:=pz h h1.2
 unfold wT
 rw[yu h hD hs]
 simp only[aG]
 rw[yu h hD h1.2]
 simp only[aG]
 rw[wrap_i64 (x:=(dI t).1*256) (by omega) (by omega),wrap_i64 (by omega) (by omega)]
 rfl
theorem Ep{D:List Int}(h:dX D):∀{k:Nat} {t:Tk},t.1 <:+ D->dX (lq k t).1/\(lq k t).1.length<=k/\(lq k t).2.1 <:+ D
 |0,t,hs=>⟨λx hx=>absurd hx (x9),bV _,hs⟩
 |k+1,t,hs=>by
  rw[lq]
  split
  ·exact⟨λx hx=>absurd hx (x9),fQ _,hs⟩
  ·have h1:=pz h hs
   have h2:=Ep h (k:=k) h1.2
   exact⟨yL h1.1 h2.1,by simp only[gF];omega,h2.2.2⟩
theorem RB{n:Nat}{D:List Int}(h:dX D)(hD:D.length<=big){k:Nat}{t:Tk}(hs:t.1 <:+ D)(hk:k<=65535)(hn:big<n):zq n (sR D t) (k:Int)=some ((lq k t).1,sR D (lq k t).2,()):=by
 unfold big at hn
 unfold zq
 generalize hB:(λ(L1:Int×(List Int×Int×Bool×Unit)×List Int×Unit->Option (List Int×(List Int×Int×Bool×Unit)×Unit)) v1=>_)=B
 have key:∀(k:Nat) (t:Tk) (out:List Int) (f:Nat),k<f->t.1 <:+ D->out.length+k<=65535->rounds B f ((k:Int),sR D t,out,())=some (out++(lq k t).1,sR D (lq k t).2,()):=by
  intro k
  induction k with
  |zero=>
   intro t out f hf hs _
   obtain⟨f,rfl⟩:∃g,f=g+1:=⟨f-1,by omega⟩
   show B (rounds B f) _=_
   rw[<-hB]
   simp[lq]
  |succ k ih=>
   intro t out f hf hs ho
   obtain⟨f,rfl⟩:∃g,f=g+1:=⟨f-1,by omega⟩
   have h1:=pz h hs
   show B (rounds B f) _=_
   rw[<-hB]
   simp only
   rw[aj (by rw[dW];omega)]
   by_cases hw:t.2=true
   ·rw[aC (by simp[hw]),lq,aj hw]
    simp
   ·rw[aj (by simp[hw]),yu h hD hs]
    simp only[aG]
    rw[aj (by rw[gL];omega),wrap_u8 h1.1.1 h1.1.2,wrap_i64 (by omega) (by omega),show((k+1:Nat):Int)-1=(k:Int) by omega,hB]
    rw[ih (dI t).2 _ f (by omega) h1.2 (by simp only[dN,gL];omega),lq,aC hw]
    simp
 have:=key k t [] n (by omega) hs (by simpa using hk)
 simpa using this
theorem aeR{D:List Int}(h:dX D):∀{k:Nat} {t:Tk},t.1 <:+ D->(pW k t).1.length<=k/\(pW k t).2.1 <:+ D
 |0,t,hs=>⟨bV _,hs⟩
 |k+1,t,hs=>by
  rw[pW]
  split
  ·exact⟨fQ _,hs⟩
  ·have h1:=Gf h hs
   have h2:=aeR h (k:=k) h1.2
   exact⟨by simp only[gF];omega,h2.2⟩
theorem UI{D d:List Int}(h:dX D)(hs:d <:+ D):okO (yV d).1/\dX (yV d).1.2.2.2.2.2.2.2.1:=by
 have h1:=pz (t:=(d,false)) h hs
 have h2:=pz h h1.2
 have h3:=Ep h h2.2 (k:=(dI (dI (d,false)).2).1.toNat)
 have h4:=pz h h3.2.2
 generalize q3:lq (dI (dI (d,false)).2).1.toNat (dI (dI (d,false)).2).2=a3 at *
 have h5:=Ep h h4.2 (k:=(dI a3.2).1.toNat)
 generalize q5:lq (dI a3.2).1.toNat (dI a3.2).2=a5 at *
 have h6:=pz h h5.2.2
 have h7:=aeR h h6.2 (k:=(dI a5.2).1.toNat)
 generalize q7:pW (dI a5.2).1.toNat (dI a5.2).2=a7 at *
 have h8:=pz h h7.2
 have h9:=pz h h8.2
 have h10:=Gf h h9.2
 have h11:=Gf h h10.2
 have h12:=Ep h h11.2 (k:=(jJ (jJ (dI (dI a7.2).2).2).2).1.toNat)
 have e:(yV d).1=((dI (d,false)).1,a3.1,a5.1,a7.1,(dI a7.2).1,(dI (dI a7.2).2).1,(jJ (dI (dI a7.2).2).2).1,(lq (jJ (jJ (dI (dI a7.2).2).2).2).1.toNat (jJ (jJ (dI (dI a7.2).2).2).2).2).1,()):=by
  simp only[yV,q3,q5,q7]
 rw[e]
 unfold okO big
 simp only
 exact⟨⟨by omega,by omega,by omega,by omega⟩,h12.1⟩
set_option maxRecDepth 20000 in
theorem adU{n:Nat}{D:List Int}(h:dX D)(hD:D.length<=big)(h2:2<=D.length)(hn:big<n):Ms n D=some ((yV (D.drop 2)).1,()):=by
 have hn':=hn
 unfold big at hn'
 have hs:(D.drop 2) <:+ D:=QJ 2 D
 have es:((D,(2:Int),false,()):List Int×Int×Bool×Unit)=sR D (D.drop 2,false):=by
  have:(D.length-(D.drop 2).length:Nat)=2:=by rw[x8];omega
  simp only[sR,this];rfl
 unfold Ms
 rw[es]
 generalize D.drop 2=d at *
 rw[yu h hD hs]
 simp only[aG]
 have f1:=pz (t:=(d,false)) h hs
 generalize q1:dI (d,false)=a1 at *
 rw[yu h hD f1.2]
 simp only[aG]
 have f2:=pz h f1.2
 generalize q2:dI a1.2=a2 at *
 have k2:((a2.1.toNat:Nat):Int)=a2.1:=by omega
 have t3:=RB (n:=n) h hD (k:=a2.1.toNat) f2.2 (by omega) hn
 rw[k2]at t3
 rw[t3]
 simp only[aG]
 have f3:=Ep h f2.2 (k:=a2.1.toNat)
 generalize q3:lq a2.1.toNat a2.2=a3 at *
 rw[yu h hD f3.2.2]
 simp only[aG]
 have f4:=pz h f3.2.2
 generalize q4:dI a3.2=a4 at *
 have k4:((a4.1.toNat:Nat):Int)=a4.1:=by omega
 have t5:=RB (n:=n) h hD (k:=a4.1.toNat) f4.2 (by omega) hn
 rw[k4]at t5
 rw[t5]
 simp only[aG]
 have f5:=Ep h f4.2 (k:=a4.1.toNat)
 generalize q5:lq a4.1.toNat a4.2=a5 at *
 rw[yu h hD f5.2.2]
 simp only[aG]
 have f6:=pz h f5.2.2
 generalize q6:dI a5.2=a6 at *
 have tail:∀(us:List Int) (t:Tk),t.1 <:+ D->∀r,r=some (((a1.1,a3.1,a5.1,us,(dI t).1,(dI (dI t).2).1,(jJ (dI (dI t).2).2).1,(lq (jJ (jJ (dI (dI t).2).2).2).1.toNat (jJ (jJ (dI (dI t).2).2).2).2).1,()):OpC),())->
   ((qy n (sR D t)).bind λr9=>((qy n r9.2.1).bind λo7=>((wT n o7.2.1).bind λlY=>((wT n lY.2.1).bind λmK=>((zq n mK.2.1 mK.1).bind λpQ=>some (((a1.1,a3.1,a5.1,us,r9.1,o7.1,lY.1,pQ.1,()):OpC),()))))))=r:=by
  intro us t ht r hr
  rw[hr,yu h hD ht]
  simp only[aG]
  have g1:=pz h ht
  rw[yu h hD g1.2]
  simp only[aG]
  have g2:=pz h g1.2
  rw[VD h hD g2.2]
  simp only[aG]
  have g3:=Gf h g2.2
  rw[VD h hD g3.2]
  simp only[aG]
  have g4:=Gf h g3.2
  generalize jJ (jJ (dI (dI t).2).2).2=a at *
  have k:((a.1.toNat:Nat):Int)=a.1:=by omega
  have t13:=RB (n:=n) h hD (k:=a.1.toNat) g4.2 (by omega) hn
  rw[k]at t13
  rw[t13]
  rfl
 generalize hB:(λ(L7:Int×OpC×(List Int×Int×Bool×Unit)×OpC×Unit->Option (OpC×Unit)) v7=>_)=B
 have key:∀(k:Nat) (t:Tk) (us:List Int) (f:Nat),k<f->t.1 <:+ D->us.length+k<=65535->rounds B f ((k:Int),zO,sR D t,(a1.1,a3.1,a5.1,us,(0:Int),(0:Int),(0:Int),([]:List Int),()),()) =
   some (((a1.1,a3.1,a5.1,us++(pW k t).1,(dI (pW k t).2).1,(dI (dI (pW k t).2).2).1,(jJ (dI (dI (pW k t).2).2).2).1,(lq (jJ (jJ (dI (dI (pW k t).2).2).2).2).1.toNat (jJ (jJ (dI (dI (pW k t).2).2).2).2).2).1,()):OpC),()):=by
  intro k
  induction k with
  |zero=>
   intro t us f hf hs _
   obtain⟨f,rfl⟩:∃g,f=g+1:=⟨f-1,by omega⟩
   show B (rounds B f) _=_
   rw[<-hB]
   simp only[pW,iq]
   rw[aC (by simp)]
   exact tail us t hs _ rfl
  |succ k ih=>
   intro t us f hf hs ho
   obtain⟨f,rfl⟩:∃g,f=g+1:=⟨f-1,by omega⟩
   have h1:=Gf h hs
   show B (rounds B f) _=_
   rw[<-hB]
   simp only
   rw[aj (by rw[dW];omega)]
   by_cases hw:t.2=true
   ·rw[aC (by simp[hw]),pW,aj hw]
    simp only[iq]
    exact tail us t hs _ rfl
   ·rw[aj (by simp[hw]),VD h hD hs]
    simp only[aG]
    rw[aj (by rw[gL];omega),wrap_i64 (by omega) (by omega),show((k+1:Nat):Int)-1=(k:Int) by omega,hB]
    rw[ih (jJ t).2 _ f (by omega) h1.2 (by simp only[dN,gL];omega),pW,aC hw]
    simp
 have k6:((a6.1.toNat:Nat):Int)=a6.1:=by omega
 have:=key a6.1.toNat a6.2 [] n (by omega) f6.2 (by simp only[kK];omega)
 rw[k6]at this
 rw[this]
 simp only[yV,q1,q2,q3,q4,q5,q6,ru]
end Go.Proofs.YtplpeegfeajkkaaGreatDoor.M8
