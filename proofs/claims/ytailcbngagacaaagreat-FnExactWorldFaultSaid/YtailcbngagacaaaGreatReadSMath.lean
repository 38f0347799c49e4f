/- Reading of ops and journals by the reference, and journals of both. -/
import Derived.Test.YtailcbngagacaaaGreatOwF
import Derived.Test.YtailcbngagacaaaGreatLoopLib
import Derived.Test.YtailcbngagacaaaGreatPackLib
import Derived.Test.YtailcbngagacaaaGreatStoreMath
import Derived.Test.YtailcbngagacaaaGreatOpsMath
import Derived.Test.YtailcbngagacaaaGreatGoodMath
import Derived.Test.YtailcbngagacaaaGreatCodecMath
import Derived.Test.YtailcbngagacaaaGreatReadMath
import Derived.Test.YtailcbngagacaaaGreatWfF
set_option linter.unusedSectionVars false
set_option linter.unusedVariables false
set_option linter.unusedSimpArgs false
namespace Go.Proofs.YtailcbngagacaaaGreat.Eo
open Go Go.Proofs.YtailcbngagacaaaGreat.Ow Go.Proofs.YtailcbngagacaaaGreat.UZ Go.Proofs.YtailcbngagacaaaGreat.tV Go.Proofs.YtailcbngagacaaaGreat.Bu Go.Proofs.YtailcbngagacaaaGreat.oz Go.Proofs.YtailcbngagacaaaGreat.pK Go.Proofs.YtailcbngagacaaaGreat.x9 Go.Proofs.YtailcbngagacaaaGreat.u7 Go.Proofs.YtailcbngagacaaaGreat.Df
abbrev sR (D:List Int) (t:Tk):List Int×Int×Bool×Unit:=(D,((D.length - t.1.length:Nat):Int),t.2,())
theorem dQ {D:List Int} {t:Tk} (h:qA D) (hs:t.1 <:+ D):(0≤(bM t).1∧(bM t).1≤255)∧(bM t).2.1 <:+ D:=by
 obtain ⟨l,b⟩:=t
 cases l with
 | nil=>exact ⟨⟨Int.le_refl _,by show (0:Int)≤255; omega⟩,hs⟩
 | cons x r=>exact ⟨h x (hs.mem (by simp)),(List.suffix_cons x r).trans hs⟩
theorem oD {n:Nat} {D:List Int} {t:Tk} (h:qA D) (hD:D.length≤big) (hs:t.1 <:+ D):dh n (sR D t)=some ((bM t).1,sR D (bM t).2,()):=by
 unfold big at hD
 obtain ⟨l,b⟩:=t
 unfold dh
 cases l with
 | nil=>
  rw [if_pos (by rw [decide_eq_true_eq]; simp)]
  simp [bM]
 | cons x r=>
  have hx:=h x (hs.mem (by simp))
  obtain ⟨p,rfl⟩:=hs
  have e1:((p++x :: r).length - (x :: r).length:Nat)=p.length:=by simp
  have e2:((p++x :: r).length - r.length:Nat)=p.length+1:=by simp; omega
  simp only [List.length_append,List.length_cons] at hD
  simp only [sR,bM,e1,e2]
  rw [if_neg (by rw [decide_eq_true_eq,List.length_append,List.length_cons]; omega),wrap_i64 (x:=(p.length:Int)+1) (by omega) (by omega),show (p.length:Int)+1 - 1=p.length by omega,wrap_i64 (by omega) (by omega)]
  rw [if_pos (aH (by rw [List.length_append,List.length_cons]; omega))]
  have e3:(p++x :: r).getD ((p.length:Int)).toNat 0=x:=by simp
  rw [e3,wrap_i64 (by omega) (by omega)]
  rfl
theorem sZ {D:List Int} {t:Tk} (h:qA D) (hs:t.1 <:+ D):(0≤(iU t).1∧(iU t).1≤65535)∧(iU t).2.1 <:+ D:=by
 have h1:=dQ h hs
 have h2:=dQ h h1.2
 refine ⟨?_,h2.2⟩
 unfold iU
 simp only
 omega
theorem EW {n:Nat} {D:List Int} {t:Tk} (h:qA D) (hD:D.length≤big) (hs:t.1 <:+ D):fM n (sR D t)=some ((iU t).1,sR D (iU t).2,()):=by
 have h1:=dQ h hs
 have h2:=dQ h h1.2
 unfold fM
 rw [oD h hD hs]
 simp only [Option.bind_some]
 rw [oD h hD h1.2]
 simp only [Option.bind_some]
 rw [wrap_i64 (x:=(bM t).1 * 256) (by omega) (by omega),wrap_i64 (by omega) (by omega)]
 rfl
theorem qw {D:List Int} (h:qA D):∀{k:Nat} {t:Tk},t.1 <:+ D→qA (iy k t).1∧(iy k t).1.length≤k∧(iy k t).2.1 <:+ D
 | 0,t,hs=>⟨fun x hx=>absurd hx (List.not_mem_nil),Nat.le_refl _,hs⟩
 | k+1,t,hs=>by
  rw [iy]
  split
  ·exact ⟨fun x hx=>absurd hx (List.not_mem_nil),Nat.zero_le _,hs⟩
  ·have h1:=dQ h hs
   have h2:=qw h (k:=k) h1.2
   exact ⟨rE h1.1 h2.1,by simp only [List.length_cons]; omega,h2.2.2⟩
theorem Cj {n:Nat} {D:List Int} (h:qA D) (hD:D.length≤big) {k:Nat} {t:Tk} (hs:t.1 <:+ D) (hk:k≤65535) (hn:big<n):gW n (sR D t) (k:Int)=some ((iy k t).1,sR D (iy k t).2,()):=by
 unfold big at hn
 unfold gW
 generalize hB:(fun (L1:Int×(List Int×Int×Bool×Unit)×List Int×Unit→Option (List Int×(List Int×Int×Bool×Unit)×Unit)) v1=>_)=B
 have key:∀(k:Nat) (t:Tk) (out:List Int) (f:Nat),k<f→t.1 <:+ D→out.length+k≤65535→rounds B f ((k:Int),sR D t,out,())=some (out++(iy k t).1,sR D (iy k t).2,()):=by
  intro k
  induction k with
  | zero=>
   intro t out f hf hs _
   obtain ⟨f,rfl⟩:∃g,f=g+1:=⟨f - 1,by omega⟩
   show B (rounds B f) _=_
   rw [←hB]
   simp [iy]
  | succ k ih=>
   intro t out f hf hs ho
   obtain ⟨f,rfl⟩:∃g,f=g+1:=⟨f - 1,by omega⟩
   have h1:=dQ h hs
   show B (rounds B f) _=_
   rw [←hB]
   simp only
   rw [if_pos (by rw [decide_eq_true_eq]; omega)]
   by_cases hw:t.2=true
   ·rw [if_neg (by simp [hw]),iy,if_pos hw]
    simp
   ·rw [if_pos (by simp [hw]),oD h hD hs]
    simp only [Option.bind_some]
    rw [if_pos (by rw [List.length_singleton]; omega),wrap_u8 h1.1.1 h1.1.2,wrap_i64 (by omega) (by omega),show ((k+1:Nat):Int) - 1=(k:Int) by omega,hB]
    rw [ih (bM t).2 _ f (by omega) h1.2 (by simp only [List.length_append,List.length_singleton]; omega),iy,if_neg hw]
    simp
 have:=key k t [] n (by omega) hs (by simpa using hk)
 simpa using this
theorem FC {D:List Int} (h:qA D):∀{k:Nat} {t:Tk},t.1 <:+ D→(mK k t).1.length≤k∧(mK k t).2.1 <:+ D
 | 0,t,hs=>⟨Nat.le_refl _,hs⟩
 | k+1,t,hs=>by
  rw [mK]
  split
  ·exact ⟨Nat.zero_le _,hs⟩
  ·have h1:=sZ h hs
   have h2:=FC h (k:=k) h1.2
   exact ⟨by simp only [List.length_cons]; omega,h2.2⟩
theorem Je {D d:List Int} (h:qA D) (hs:d <:+ D):okO (DK d).1∧qA (DK d).1.2.2.2.2.2.2.2.1:=by
 have h1:=dQ (t:=(d,false)) h hs
 have h2:=dQ h h1.2
 have h3:=qw h h2.2 (k:=(bM (bM (d,false)).2).1.toNat)
 have h4:=dQ h h3.2.2
 generalize q3:iy (bM (bM (d,false)).2).1.toNat (bM (bM (d,false)).2).2=a3 at *
 have h5:=qw h h4.2 (k:=(bM a3.2).1.toNat)
 generalize q5:iy (bM a3.2).1.toNat (bM a3.2).2=a5 at *
 have h6:=dQ h h5.2.2
 have h7:=FC h h6.2 (k:=(bM a5.2).1.toNat)
 generalize q7:mK (bM a5.2).1.toNat (bM a5.2).2=a7 at *
 have h8:=dQ h h7.2
 have h9:=dQ h h8.2
 have h10:=sZ h h9.2
 have h11:=sZ h h10.2
 have h12:=qw h h11.2 (k:=(iU (iU (bM (bM a7.2).2).2).2).1.toNat)
 have e:(DK d).1=((bM (d,false)).1,a3.1,a5.1,a7.1,(bM a7.2).1,(bM (bM a7.2).2).1,(iU (bM (bM a7.2).2).2).1,(iy (iU (iU (bM (bM a7.2).2).2).2).1.toNat (iU (iU (bM (bM a7.2).2).2).2).2).1,()):=by
  simp only [DK,q3,q5,q7]
 rw [e]
 unfold okO big
 simp only
 exact ⟨⟨by omega,by omega,by omega,by omega⟩,h12.1⟩
set_option maxRecDepth 20000 in
theorem KV {n:Nat} {D:List Int} (h:qA D) (hD:D.length≤big) (h2:2≤D.length) (hn:big<n):tT n D=some ((DK (D.drop 2)).1,()):=by
 have hn':=hn
 unfold big at hn'
 have hs:(D.drop 2) <:+ D:=List.drop_suffix 2 D
 have es:((D,(2:Int),false,()):List Int×Int×Bool×Unit)=sR D (D.drop 2,false):=by
  have:(D.length - (D.drop 2).length:Nat)=2:=by rw [List.length_drop]; omega
  simp only [sR,this]; rfl
 unfold tT
 rw [es]
 generalize D.drop 2=d at *
 rw [oD h hD hs]
 simp only [Option.bind_some]
 have f1:=dQ (t:=(d,false)) h hs
 generalize q1:bM (d,false)=a1 at *
 rw [oD h hD f1.2]
 simp only [Option.bind_some]
 have f2:=dQ h f1.2
 generalize q2:bM a1.2=a2 at *
 have k2:((a2.1.toNat:Nat):Int)=a2.1:=by omega
 have t3:=Cj (n:=n) h hD (k:=a2.1.toNat) f2.2 (by omega) hn
 rw [k2] at t3
 rw [t3]
 simp only [Option.bind_some]
 have f3:=qw h f2.2 (k:=a2.1.toNat)
 generalize q3:iy a2.1.toNat a2.2=a3 at *
 rw [oD h hD f3.2.2]
 simp only [Option.bind_some]
 have f4:=dQ h f3.2.2
 generalize q4:bM a3.2=a4 at *
 have k4:((a4.1.toNat:Nat):Int)=a4.1:=by omega
 have t5:=Cj (n:=n) h hD (k:=a4.1.toNat) f4.2 (by omega) hn
 rw [k4] at t5
 rw [t5]
 simp only [Option.bind_some]
 have f5:=qw h f4.2 (k:=a4.1.toNat)
 generalize q5:iy a4.1.toNat a4.2=a5 at *
 rw [oD h hD f5.2.2]
 simp only [Option.bind_some]
 have f6:=dQ h f5.2.2
 generalize q6:bM a5.2=a6 at *
 have tail:∀(us:List Int) (t:Tk),t.1 <:+ D→∀r,r=some (((a1.1,a3.1,a5.1,us,(bM t).1,(bM (bM t).2).1,(iU (bM (bM t).2).2).1,(iy (iU (iU (bM (bM t).2).2).2).1.toNat (iU (iU (bM (bM t).2).2).2).2).1,()):OpC),())→
   ((dh n (sR D t)).bind fun r9=>((dh n r9.2.1).bind fun Oz=>((fM n Oz.2.1).bind fun MB=>((fM n MB.2.1).bind fun KS=>((gW n KS.2.1 KS.1).bind fun OY=>some (((a1.1,a3.1,a5.1,us,r9.1,Oz.1,MB.1,OY.1,()):OpC),()))))))=r:=by
  intro us t ht r hr
  rw [hr,oD h hD ht]
  simp only [Option.bind_some]
  have g1:=dQ h ht
  rw [oD h hD g1.2]
  simp only [Option.bind_some]
  have g2:=dQ h g1.2
  rw [EW h hD g2.2]
  simp only [Option.bind_some]
  have g3:=sZ h g2.2
  rw [EW h hD g3.2]
  simp only [Option.bind_some]
  have g4:=sZ h g3.2
  generalize iU (iU (bM (bM t).2).2).2=a at *
  have k:((a.1.toNat:Nat):Int)=a.1:=by omega
  have t13:=Cj (n:=n) h hD (k:=a.1.toNat) g4.2 (by omega) hn
  rw [k] at t13
  rw [t13]
  rfl
 generalize hB:(fun (L7:Int×OpC×(List Int×Int×Bool×Unit)×OpC×Unit→Option (OpC×Unit)) v7=>_)=B
 have key:∀(k:Nat) (t:Tk) (us:List Int) (f:Nat),k<f→t.1 <:+ D→us.length+k≤65535→rounds B f ((k:Int),zO,sR D t,(a1.1,a3.1,a5.1,us,(0:Int),(0:Int),(0:Int),([]:List Int),()),()) =
   some (((a1.1,a3.1,a5.1,us++(mK k t).1,(bM (mK k t).2).1,(bM (bM (mK k t).2).2).1,(iU (bM (bM (mK k t).2).2).2).1,(iy (iU (iU (bM (bM (mK k t).2).2).2).2).1.toNat (iU (iU (bM (bM (mK k t).2).2).2).2).2).1,()):OpC),()):=by
  intro k
  induction k with
  | zero=>
   intro t us f hf hs _
   obtain ⟨f,rfl⟩:∃g,f=g+1:=⟨f - 1,by omega⟩
   show B (rounds B f) _=_
   rw [←hB]
   simp only [mK,List.append_nil]
   rw [if_neg (by simp)]
   exact tail us t hs _ rfl
  | succ k ih=>
   intro t us f hf hs ho
   obtain ⟨f,rfl⟩:∃g,f=g+1:=⟨f - 1,by omega⟩
   have h1:=sZ h hs
   show B (rounds B f) _=_
   rw [←hB]
   simp only
   rw [if_pos (by rw [decide_eq_true_eq]; omega)]
   by_cases hw:t.2=true
   ·rw [if_neg (by simp [hw]),mK,if_pos hw]
    simp only [List.append_nil]
    exact tail us t hs _ rfl
   ·rw [if_pos (by simp [hw]),EW h hD hs]
    simp only [Option.bind_some]
    rw [if_pos (by rw [List.length_singleton]; omega),wrap_i64 (by omega) (by omega),show ((k+1:Nat):Int) - 1=(k:Int) by omega,hB]
    rw [ih (iU t).2 _ f (by omega) h1.2 (by simp only [List.length_append,List.length_singleton]; omega),mK,if_neg hw]
    simp
 have k6:((a6.1.toNat:Nat):Int)=a6.1:=by omega
 have:=key a6.1.toNat a6.2 [] n (by omega) f6.2 (by simp only [List.length_nil]; omega)
 rw [k6] at this
 rw [this]
 simp only [DK,q1,q2,q3,q4,q5,q6,List.nil_append]
end Go.Proofs.YtailcbngagacaaaGreat.Eo
