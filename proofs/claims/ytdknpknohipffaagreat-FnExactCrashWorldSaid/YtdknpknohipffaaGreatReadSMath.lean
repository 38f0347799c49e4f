/- Reading of ops and journals by the reference, and journals of both. -/
import Derived.Test.YtdknpknohipffaaGreatOwF
import Derived.Test.YtdknpknohipffaaGreatLoopLib
import Derived.Test.YtdknpknohipffaaGreatPackLib
import Derived.Test.YtdknpknohipffaaGreatStoreMath
import Derived.Test.YtdknpknohipffaaGreatOpsMath
import Derived.Test.YtdknpknohipffaaGreatGoodMath
import Derived.Test.YtdknpknohipffaaGreatCodecMath
import Derived.Test.YtdknpknohipffaaGreatReadMath
import Derived.Test.YtdknpknohipffaaGreatCwF
set_option linter.unusedSectionVars false
set_option linter.unusedVariables false
set_option linter.unusedSimpArgs false
namespace Go.Proofs.YtdknpknohipffaaGreat.Hg
open Go Go.Proofs.YtdknpknohipffaaGreat.Ow Go.Proofs.YtdknpknohipffaaGreat.Qq Go.Proofs.YtdknpknohipffaaGreat.kG Go.Proofs.YtdknpknohipffaaGreat.Ab Go.Proofs.YtdknpknohipffaaGreat.gK Go.Proofs.YtdknpknohipffaaGreat.jO Go.Proofs.YtdknpknohipffaaGreat.zb Go.Proofs.YtdknpknohipffaaGreat.lD Go.Proofs.YtdknpknohipffaaGreat.Fj
abbrev sR (D:List Int) (t:Tk):List Int×Int×Bool×Unit:=(D,((D.length - t.1.length:Nat):Int),t.2,())
theorem dW {D:List Int} {t:Tk} (h:qV D) (hs:t.1 <:+ D):(0≤(bO t).1∧(bO t).1≤255)∧(bO t).2.1 <:+ D:=by
 obtain ⟨l,b⟩:=t
 cases l with
 | nil=>exact ⟨⟨Int.le_refl _,by show (0:Int)≤255; omega⟩,hs⟩
 | cons x r=>exact ⟨h x (hs.mem (by simp)),(List.suffix_cons x r).trans hs⟩
theorem p9 {n:Nat} {D:List Int} {t:Tk} (h:qV D) (hD:D.length≤big) (hs:t.1 <:+ D):dh n (sR D t)=some ((bO t).1,sR D (bO t).2,()):=by
 unfold big at hD
 obtain ⟨l,b⟩:=t
 unfold dh
 cases l with
 | nil=>
  rw [if_pos (by rw [decide_eq_true_eq]; simp)]
  simp [bO]
 | cons x r=>
  have hx:=h x (hs.mem (by simp))
  obtain ⟨p,rfl⟩:=hs
  have e1:((p++x :: r).length - (x :: r).length:Nat)=p.length:=by simp
  have e2:((p++x :: r).length - r.length:Nat)=p.length+1:=by simp; omega
  simp only [apl,apB] at hD
  simp only [sR,bO,e1,e2]
  rw [if_neg (by rw [decide_eq_true_eq,apl,apB]; omega),wrap_i64 (x:=(p.length:Int)+1) (by omega) (by omega),show (p.length:Int)+1 - 1=p.length by omega,wrap_i64 (by omega) (by omega)]
  rw [if_pos (aG (by rw [apl,apB]; omega))]
  have e3:(p++x :: r).getD ((p.length:Int)).toNat 0=x:=by simp
  rw [e3,wrap_i64 (by omega) (by omega)]
  rfl
theorem tZ {D:List Int} {t:Tk} (h:qV D) (hs:t.1 <:+ D):(0≤(jo t).1∧(jo t).1≤65535)∧(jo t).2.1 <:+ D:=by
 have h1:=dW h hs
 have h2:=dW h h1.2
 refine ⟨?_,h2.2⟩
 unfold jo
 simp only
 omega
theorem IE {n:Nat} {D:List Int} {t:Tk} (h:qV D) (hD:D.length≤big) (hs:t.1 <:+ D):gp n (sR D t)=some ((jo t).1,sR D (jo t).2,()):=by
 have h1:=dW h hs
 have h2:=dW h h1.2
 unfold gp
 rw [p9 h hD hs]
 simp only [ape]
 rw [p9 h hD h1.2]
 simp only [ape]
 rw [wrap_i64 (x:=(bO t).1 * 256) (by omega) (by omega),wrap_i64 (by omega) (by omega)]
 rfl
theorem qQ {D:List Int} (h:qV D):∀{k:Nat} {t:Tk},t.1 <:+ D→qV (iM k t).1∧(iM k t).1.length≤k∧(iM k t).2.1 <:+ D
 | 0,t,hs=>⟨fun x hx=>absurd hx (List.not_mem_nil),apu _,hs⟩
 | k+1,t,hs=>by
  rw [iM]
  split
  ·exact ⟨fun x hx=>absurd hx (List.not_mem_nil),apM _,hs⟩
  ·have h1:=dW h hs
   have h2:=qQ h (k:=k) h1.2
   exact ⟨sw h1.1 h2.1,by simp only [apB]; omega,h2.2.2⟩
theorem D8 {n:Nat} {D:List Int} (h:qV D) (hD:D.length≤big) {k:Nat} {t:Tk} (hs:t.1 <:+ D) (hk:k≤65535) (hn:big<n):iD n (sR D t) (k:Int)=some ((iM k t).1,sR D (iM k t).2,()):=by
 unfold big at hn
 unfold iD
 generalize hB:(fun (L1:Int×(List Int×Int×Bool×Unit)×List Int×Unit→Option (List Int×(List Int×Int×Bool×Unit)×Unit)) v1=>_)=B
 have key:∀(k:Nat) (t:Tk) (out:List Int) (f:Nat),k<f→t.1 <:+ D→out.length+k≤65535→rounds B f ((k:Int),sR D t,out,())=some (out++(iM k t).1,sR D (iM k t).2,()):=by
  intro k
  induction k with
  | zero=>
   intro t out f hf hs _
   obtain ⟨f,rfl⟩:∃g,f=g+1:=⟨f - 1,by omega⟩
   show B (rounds B f) _=_
   rw [←hB]
   simp [iM]
  | succ k ih=>
   intro t out f hf hs ho
   obtain ⟨f,rfl⟩:∃g,f=g+1:=⟨f - 1,by omega⟩
   have h1:=dW h hs
   show B (rounds B f) _=_
   rw [←hB]
   simp only
   rw [if_pos (by rw [decide_eq_true_eq]; omega)]
   by_cases hw:t.2=true
   ·rw [if_neg (by simp [hw]),iM,if_pos hw]
    simp
   ·rw [if_pos (by simp [hw]),p9 h hD hs]
    simp only [ape]
    rw [if_pos (by rw [apy]; omega),wrap_u8 h1.1.1 h1.1.2,wrap_i64 (by omega) (by omega),show ((k+1:Nat):Int) - 1=(k:Int) by omega,hB]
    rw [ih (bO t).2 _ f (by omega) h1.2 (by simp only [apl,apy]; omega),iM,if_neg hw]
    simp
 have:=key k t [] n (by omega) hs (by simpa using hk)
 simpa using this
theorem Ja {D:List Int} (h:qV D):∀{k:Nat} {t:Tk},t.1 <:+ D→(nZ k t).1.length≤k∧(nZ k t).2.1 <:+ D
 | 0,t,hs=>⟨apu _,hs⟩
 | k+1,t,hs=>by
  rw [nZ]
  split
  ·exact ⟨apM _,hs⟩
  ·have h1:=tZ h hs
   have h2:=Ja h (k:=k) h1.2
   exact ⟨by simp only [apB]; omega,h2.2⟩
theorem Mt {D d:List Int} (h:qV D) (hs:d <:+ D):okO (FW d).1∧qV (FW d).1.2.2.2.2.2.2.2.1:=by
 have h1:=dW (t:=(d,false)) h hs
 have h2:=dW h h1.2
 have h3:=qQ h h2.2 (k:=(bO (bO (d,false)).2).1.toNat)
 have h4:=dW h h3.2.2
 generalize q3:iM (bO (bO (d,false)).2).1.toNat (bO (bO (d,false)).2).2=a3 at *
 have h5:=qQ h h4.2 (k:=(bO a3.2).1.toNat)
 generalize q5:iM (bO a3.2).1.toNat (bO a3.2).2=a5 at *
 have h6:=dW h h5.2.2
 have h7:=Ja h h6.2 (k:=(bO a5.2).1.toNat)
 generalize q7:nZ (bO a5.2).1.toNat (bO a5.2).2=a7 at *
 have h8:=dW h h7.2
 have h9:=dW h h8.2
 have h10:=tZ h h9.2
 have h11:=tZ h h10.2
 have h12:=qQ h h11.2 (k:=(jo (jo (bO (bO a7.2).2).2).2).1.toNat)
 have e:(FW d).1=((bO (d,false)).1,a3.1,a5.1,a7.1,(bO a7.2).1,(bO (bO a7.2).2).1,(jo (bO (bO a7.2).2).2).1,(iM (jo (jo (bO (bO a7.2).2).2).2).1.toNat (jo (jo (bO (bO a7.2).2).2).2).2).1,()):=by
  simp only [FW,q3,q5,q7]
 rw [e]
 unfold okO big
 simp only
 exact ⟨⟨by omega,by omega,by omega,by omega⟩,h12.1⟩
set_option maxRecDepth 20000 in
theorem Oy {n:Nat} {D:List Int} (h:qV D) (hD:D.length≤big) (h2:2≤D.length) (hn:big<n):uD n D=some ((FW (D.drop 2)).1,()):=by
 have hn':=hn
 unfold big at hn'
 have hs:(D.drop 2) <:+ D:=List.drop_suffix 2 D
 have es:((D,(2:Int),false,()):List Int×Int×Bool×Unit)=sR D (D.drop 2,false):=by
  have:(D.length - (D.drop 2).length:Nat)=2:=by rw [List.length_drop]; omega
  simp only [sR,this]; rfl
 unfold uD
 rw [es]
 generalize D.drop 2=d at *
 rw [p9 h hD hs]
 simp only [ape]
 have f1:=dW (t:=(d,false)) h hs
 generalize q1:bO (d,false)=a1 at *
 rw [p9 h hD f1.2]
 simp only [ape]
 have f2:=dW h f1.2
 generalize q2:bO a1.2=a2 at *
 have k2:((a2.1.toNat:Nat):Int)=a2.1:=by omega
 have t3:=D8 (n:=n) h hD (k:=a2.1.toNat) f2.2 (by omega) hn
 rw [k2] at t3
 rw [t3]
 simp only [ape]
 have f3:=qQ h f2.2 (k:=a2.1.toNat)
 generalize q3:iM a2.1.toNat a2.2=a3 at *
 rw [p9 h hD f3.2.2]
 simp only [ape]
 have f4:=dW h f3.2.2
 generalize q4:bO a3.2=a4 at *
 have k4:((a4.1.toNat:Nat):Int)=a4.1:=by omega
 have t5:=D8 (n:=n) h hD (k:=a4.1.toNat) f4.2 (by omega) hn
 rw [k4] at t5
 rw [t5]
 simp only [ape]
 have f5:=qQ h f4.2 (k:=a4.1.toNat)
 generalize q5:iM a4.1.toNat a4.2=a5 at *
 rw [p9 h hD f5.2.2]
 simp only [ape]
 have f6:=dW h f5.2.2
 generalize q6:bO a5.2=a6 at *
 have tail:∀(us:List Int) (t:Tk),t.1 <:+ D→∀r,r=some (((a1.1,a3.1,a5.1,us,(bO t).1,(bO (bO t).2).1,(jo (bO (bO t).2).2).1,(iM (jo (jo (bO (bO t).2).2).2).1.toNat (jo (jo (bO (bO t).2).2).2).2).1,()):OpC),())→
   ((dh n (sR D t)).bind fun r9=>((dh n r9.2.1).bind fun Qb=>((gp n Qb.2.1).bind fun J4=>((gp n J4.2.1).bind fun Ms=>((iD n Ms.2.1 Ms.1).bind fun Qt=>some (((a1.1,a3.1,a5.1,us,r9.1,Qb.1,J4.1,Qt.1,()):OpC),()))))))=r:=by
  intro us t ht r hr
  rw [hr,p9 h hD ht]
  simp only [ape]
  have g1:=dW h ht
  rw [p9 h hD g1.2]
  simp only [ape]
  have g2:=dW h g1.2
  rw [IE h hD g2.2]
  simp only [ape]
  have g3:=tZ h g2.2
  rw [IE h hD g3.2]
  simp only [ape]
  have g4:=tZ h g3.2
  generalize jo (jo (bO (bO t).2).2).2=a at *
  have k:((a.1.toNat:Nat):Int)=a.1:=by omega
  have t13:=D8 (n:=n) h hD (k:=a.1.toNat) g4.2 (by omega) hn
  rw [k] at t13
  rw [t13]
  rfl
 generalize hB:(fun (L7:Int×OpC×(List Int×Int×Bool×Unit)×OpC×Unit→Option (OpC×Unit)) v7=>_)=B
 have key:∀(k:Nat) (t:Tk) (us:List Int) (f:Nat),k<f→t.1 <:+ D→us.length+k≤65535→rounds B f ((k:Int),zO,sR D t,(a1.1,a3.1,a5.1,us,(0:Int),(0:Int),(0:Int),([]:List Int),()),()) =
   some (((a1.1,a3.1,a5.1,us++(nZ k t).1,(bO (nZ k t).2).1,(bO (bO (nZ k t).2).2).1,(jo (bO (bO (nZ k t).2).2).2).1,(iM (jo (jo (bO (bO (nZ k t).2).2).2).2).1.toNat (jo (jo (bO (bO (nZ k t).2).2).2).2).2).1,()):OpC),()):=by
  intro k
  induction k with
  | zero=>
   intro t us f hf hs _
   obtain ⟨f,rfl⟩:∃g,f=g+1:=⟨f - 1,by omega⟩
   show B (rounds B f) _=_
   rw [←hB]
   simp only [nZ,apH]
   rw [if_neg (by simp)]
   exact tail us t hs _ rfl
  | succ k ih=>
   intro t us f hf hs ho
   obtain ⟨f,rfl⟩:∃g,f=g+1:=⟨f - 1,by omega⟩
   have h1:=tZ h hs
   show B (rounds B f) _=_
   rw [←hB]
   simp only
   rw [if_pos (by rw [decide_eq_true_eq]; omega)]
   by_cases hw:t.2=true
   ·rw [if_neg (by simp [hw]),nZ,if_pos hw]
    simp only [apH]
    exact tail us t hs _ rfl
   ·rw [if_pos (by simp [hw]),IE h hD hs]
    simp only [ape]
    rw [if_pos (by rw [apy]; omega),wrap_i64 (by omega) (by omega),show ((k+1:Nat):Int) - 1=(k:Int) by omega,hB]
    rw [ih (jo t).2 _ f (by omega) h1.2 (by simp only [apl,apy]; omega),nZ,if_neg hw]
    simp
 have k6:((a6.1.toNat:Nat):Int)=a6.1:=by omega
 have:=key a6.1.toNat a6.2 [] n (by omega) f6.2 (by simp only [List.length_nil]; omega)
 rw [k6] at this
 rw [this]
 simp only [FW,q1,q2,q3,q4,q5,q6,List.nil_append]
end Go.Proofs.YtdknpknohipffaaGreat.Hg
