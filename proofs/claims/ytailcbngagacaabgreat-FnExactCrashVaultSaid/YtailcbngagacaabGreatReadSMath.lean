/- Reading of ops and journals by the reference, and journals of both. -/
import Derived.Test.YtailcbngagacaabGreatOwF
import Derived.Test.YtailcbngagacaabGreatLoopLib
import Derived.Test.YtailcbngagacaabGreatPackLib
import Derived.Test.YtailcbngagacaabGreatStoreMath
import Derived.Test.YtailcbngagacaabGreatOpsMath
import Derived.Test.YtailcbngagacaabGreatGoodMath
import Derived.Test.YtailcbngagacaabGreatCodecMath
import Derived.Test.YtailcbngagacaabGreatReadMath
import Derived.Test.YtailcbngagacaabGreatCrashF
set_option linter.unusedSectionVars false
set_option linter.unusedVariables false
set_option linter.unusedSimpArgs false
namespace Go.Proofs.YtailcbngagacaabGreat.FO
open Go Go.Proofs.YtailcbngagacaabGreat.Ow Go.Proofs.YtailcbngagacaabGreat.rq Go.Proofs.YtailcbngagacaabGreat.om Go.Proofs.YtailcbngagacaabGreat.Ab Go.Proofs.YtailcbngagacaabGreat.jl Go.Proofs.YtailcbngagacaabGreat.mQ Go.Proofs.YtailcbngagacaabGreat.y8 Go.Proofs.YtailcbngagacaabGreat.rE Go.Proofs.YtailcbngagacaabGreat.Ep
abbrev sR (D:List Int) (t:Tk):List Int×Int×Bool×Unit:=(D,((D.length - t.1.length:Nat):Int),t.2,())
theorem dR {D:List Int} {t:Tk} (h:rO D) (hs:t.1 <:+ D):(0≤(bO t).1∧(bO t).1≤255)∧(bO t).2.1 <:+ D:=by
 obtain ⟨l,b⟩:=t
 cases l with
 | nil=>exact ⟨⟨Int.le_refl _,by show (0:Int)≤255; omega⟩,hs⟩
 | cons x r=>exact ⟨h x (hs.mem (by simp)),(List.suffix_cons x r).trans hs⟩
theorem p9 {n:Nat} {D:List Int} {t:Tk} (h:rO D) (hD:D.length≤big) (hs:t.1 <:+ D):dh n (sR D t)=some ((bO t).1,sR D (bO t).2,()):=by
 unfold big at hD
 obtain ⟨l,b⟩:=t
 unfold dh
 cases l with
 | nil=>
  rw [if_pos (by rw [decide_eq_true_eq]; simp)]
  simp [bO]
 | cons x r=>
  have hx:=h x (hs.mem (by simp))
  obtain ⟨p,rfl⟩:=hs
  have e1:((p++x :: r).length - (x :: r).length:Nat)=p.length:=by simp
  have e2:((p++x :: r).length - r.length:Nat)=p.length+1:=by simp; omega
  simp only [List.length_append,List.length_cons] at hD
  simp only [sR,bO,e1,e2]
  rw [if_neg (by rw [decide_eq_true_eq,List.length_append,List.length_cons]; omega),wrap_i64 (x:=(p.length:Int)+1) (by omega) (by omega),show (p.length:Int)+1 - 1=p.length by omega,wrap_i64 (by omega) (by omega)]
  rw [if_pos (aG (by rw [List.length_append,List.length_cons]; omega))]
  have e3:(p++x :: r).getD ((p.length:Int)).toNat 0=x:=by simp
  rw [e3,wrap_i64 (by omega) (by omega)]
  rfl
theorem uM {D:List Int} {t:Tk} (h:rO D) (hs:t.1 <:+ D):(0≤(jf t).1∧(jf t).1≤65535)∧(jf t).2.1 <:+ D:=by
 have h1:=dR h hs
 have h2:=dR h h1.2
 refine ⟨?_,h2.2⟩
 unfold jf
 simp only
 omega
theorem Gr {n:Nat} {D:List Int} {t:Tk} (h:rO D) (hD:D.length≤big) (hs:t.1 <:+ D):fT n (sR D t)=some ((jf t).1,sR D (jf t).2,()):=by
 have h1:=dR h hs
 have h2:=dR h h1.2
 unfold fT
 rw [p9 h hD hs]
 simp only [Option.bind_some]
 rw [p9 h hD h1.2]
 simp only [Option.bind_some]
 rw [wrap_i64 (x:=(bO t).1 * 256) (by omega) (by omega),wrap_i64 (by omega) (by omega)]
 rfl
theorem rG {D:List Int} (h:rO D):∀{k:Nat} {t:Tk},t.1 <:+ D→rO (iH k t).1∧(iH k t).1.length≤k∧(iH k t).2.1 <:+ D
 | 0,t,hs=>⟨fun x hx=>absurd hx (List.not_mem_nil),Nat.le_refl _,hs⟩
 | k+1,t,hs=>by
  rw [iH]
  split
  ·exact ⟨fun x hx=>absurd hx (List.not_mem_nil),Nat.zero_le _,hs⟩
  ·have h1:=dR h hs
   have h2:=rG h (k:=k) h1.2
   exact ⟨tC h1.1 h2.1,by simp only [List.length_cons]; omega,h2.2.2⟩
theorem Dy {n:Nat} {D:List Int} (h:rO D) (hD:D.length≤big) {k:Nat} {t:Tk} (hs:t.1 <:+ D) (hk:k≤65535) (hn:big<n):ig n (sR D t) (k:Int)=some ((iH k t).1,sR D (iH k t).2,()):=by
 unfold big at hn
 unfold ig
 generalize hB:(fun (L1:Int×(List Int×Int×Bool×Unit)×List Int×Unit→Option (List Int×(List Int×Int×Bool×Unit)×Unit)) v1=>_)=B
 have key:∀(k:Nat) (t:Tk) (out:List Int) (f:Nat),k<f→t.1 <:+ D→out.length+k≤65535→rounds B f ((k:Int),sR D t,out,())=some (out++(iH k t).1,sR D (iH k t).2,()):=by
  intro k
  induction k with
  | zero=>
   intro t out f hf hs _
   obtain ⟨f,rfl⟩:∃g,f=g+1:=⟨f - 1,by omega⟩
   show B (rounds B f) _=_
   rw [←hB]
   simp [iH]
  | succ k ih=>
   intro t out f hf hs ho
   obtain ⟨f,rfl⟩:∃g,f=g+1:=⟨f - 1,by omega⟩
   have h1:=dR h hs
   show B (rounds B f) _=_
   rw [←hB]
   simp only
   rw [if_pos (by rw [decide_eq_true_eq]; omega)]
   by_cases hw:t.2=true
   ·rw [if_neg (by simp [hw]),iH,if_pos hw]
    simp
   ·rw [if_pos (by simp [hw]),p9 h hD hs]
    simp only [Option.bind_some]
    rw [if_pos (by rw [List.length_singleton]; omega),wrap_u8 h1.1.1 h1.1.2,wrap_i64 (by omega) (by omega),show ((k+1:Nat):Int) - 1=(k:Int) by omega,hB]
    rw [ih (bO t).2 _ f (by omega) h1.2 (by simp only [List.length_append,List.length_singleton]; omega),iH,if_neg hw]
    simp
 have:=key k t [] n (by omega) hs (by simpa using hk)
 simpa using this
theorem GZ {D:List Int} (h:rO D):∀{k:Nat} {t:Tk},t.1 <:+ D→(nT k t).1.length≤k∧(nT k t).2.1 <:+ D
 | 0,t,hs=>⟨Nat.le_refl _,hs⟩
 | k+1,t,hs=>by
  rw [nT]
  split
  ·exact ⟨Nat.zero_le _,hs⟩
  ·have h1:=uM h hs
   have h2:=GZ h (k:=k) h1.2
   exact ⟨by simp only [List.length_cons]; omega,h2.2⟩
theorem Kk {D d:List Int} (h:rO D) (hs:d <:+ D):okO (EX d).1∧rO (EX d).1.2.2.2.2.2.2.2.1:=by
 have h1:=dR (t:=(d,false)) h hs
 have h2:=dR h h1.2
 have h3:=rG h h2.2 (k:=(bO (bO (d,false)).2).1.toNat)
 have h4:=dR h h3.2.2
 generalize q3:iH (bO (bO (d,false)).2).1.toNat (bO (bO (d,false)).2).2=a3 at *
 have h5:=rG h h4.2 (k:=(bO a3.2).1.toNat)
 generalize q5:iH (bO a3.2).1.toNat (bO a3.2).2=a5 at *
 have h6:=dR h h5.2.2
 have h7:=GZ h h6.2 (k:=(bO a5.2).1.toNat)
 generalize q7:nT (bO a5.2).1.toNat (bO a5.2).2=a7 at *
 have h8:=dR h h7.2
 have h9:=dR h h8.2
 have h10:=uM h h9.2
 have h11:=uM h h10.2
 have h12:=rG h h11.2 (k:=(jf (jf (bO (bO a7.2).2).2).2).1.toNat)
 have e:(EX d).1=((bO (d,false)).1,a3.1,a5.1,a7.1,(bO a7.2).1,(bO (bO a7.2).2).1,(jf (bO (bO a7.2).2).2).1,(iH (jf (jf (bO (bO a7.2).2).2).2).1.toNat (jf (jf (bO (bO a7.2).2).2).2).2).1,()):=by
  simp only [EX,q3,q5,q7]
 rw [e]
 unfold okO big
 simp only
 exact ⟨⟨by omega,by omega,by omega,by omega⟩,h12.1⟩
set_option maxRecDepth 20000 in
theorem Mr {n:Nat} {D:List Int} (h:rO D) (hD:D.length≤big) (h2:2≤D.length) (hn:big<n):u6 n D=some ((EX (D.drop 2)).1,()):=by
 have hn':=hn
 unfold big at hn'
 have hs:(D.drop 2) <:+ D:=List.drop_suffix 2 D
 have es:((D,(2:Int),false,()):List Int×Int×Bool×Unit)=sR D (D.drop 2,false):=by
  have:(D.length - (D.drop 2).length:Nat)=2:=by rw [List.length_drop]; omega
  simp only [sR,this]; rfl
 unfold u6
 rw [es]
 generalize D.drop 2=d at *
 rw [p9 h hD hs]
 simp only [Option.bind_some]
 have f1:=dR (t:=(d,false)) h hs
 generalize q1:bO (d,false)=a1 at *
 rw [p9 h hD f1.2]
 simp only [Option.bind_some]
 have f2:=dR h f1.2
 generalize q2:bO a1.2=a2 at *
 have k2:((a2.1.toNat:Nat):Int)=a2.1:=by omega
 have t3:=Dy (n:=n) h hD (k:=a2.1.toNat) f2.2 (by omega) hn
 rw [k2] at t3
 rw [t3]
 simp only [Option.bind_some]
 have f3:=rG h f2.2 (k:=a2.1.toNat)
 generalize q3:iH a2.1.toNat a2.2=a3 at *
 rw [p9 h hD f3.2.2]
 simp only [Option.bind_some]
 have f4:=dR h f3.2.2
 generalize q4:bO a3.2=a4 at *
 have k4:((a4.1.toNat:Nat):Int)=a4.1:=by omega
 have t5:=Dy (n:=n) h hD (k:=a4.1.toNat) f4.2 (by omega) hn
 rw [k4] at t5
 rw [t5]
 simp only [Option.bind_some]
 have f5:=rG h f4.2 (k:=a4.1.toNat)
 generalize q5:iH a4.1.toNat a4.2=a5 at *
 rw [p9 h hD f5.2.2]
 simp only [Option.bind_some]
 have f6:=dR h f5.2.2
 generalize q6:bO a5.2=a6 at *
 have tail:∀(us:List Int) (t:Tk),t.1 <:+ D→∀r,r=some (((a1.1,a3.1,a5.1,us,(bO t).1,(bO (bO t).2).1,(jf (bO (bO t).2).2).1,(iH (jf (jf (bO (bO t).2).2).2).1.toNat (jf (jf (bO (bO t).2).2).2).2).1,()):OpC),())→
   ((dh n (sR D t)).bind fun r9=>((dh n r9.2.1).bind fun NR=>((fT n NR.2.1).bind fun Io=>((fT n Io.2.1).bind fun Kj=>((ig n Kj.2.1 Kj.1).bind fun Og=>some (((a1.1,a3.1,a5.1,us,r9.1,NR.1,Io.1,Og.1,()):OpC),()))))))=r:=by
  intro us t ht r hr
  rw [hr,p9 h hD ht]
  simp only [Option.bind_some]
  have g1:=dR h ht
  rw [p9 h hD g1.2]
  simp only [Option.bind_some]
  have g2:=dR h g1.2
  rw [Gr h hD g2.2]
  simp only [Option.bind_some]
  have g3:=uM h g2.2
  rw [Gr h hD g3.2]
  simp only [Option.bind_some]
  have g4:=uM h g3.2
  generalize jf (jf (bO (bO t).2).2).2=a at *
  have k:((a.1.toNat:Nat):Int)=a.1:=by omega
  have t13:=Dy (n:=n) h hD (k:=a.1.toNat) g4.2 (by omega) hn
  rw [k] at t13
  rw [t13]
  rfl
 generalize hB:(fun (L7:Int×OpC×(List Int×Int×Bool×Unit)×OpC×Unit→Option (OpC×Unit)) v7=>_)=B
 have key:∀(k:Nat) (t:Tk) (us:List Int) (f:Nat),k<f→t.1 <:+ D→us.length+k≤65535→rounds B f ((k:Int),zO,sR D t,(a1.1,a3.1,a5.1,us,(0:Int),(0:Int),(0:Int),([]:List Int),()),()) =
   some (((a1.1,a3.1,a5.1,us++(nT k t).1,(bO (nT k t).2).1,(bO (bO (nT k t).2).2).1,(jf (bO (bO (nT k t).2).2).2).1,(iH (jf (jf (bO (bO (nT k t).2).2).2).2).1.toNat (jf (jf (bO (bO (nT k t).2).2).2).2).2).1,()):OpC),()):=by
  intro k
  induction k with
  | zero=>
   intro t us f hf hs _
   obtain ⟨f,rfl⟩:∃g,f=g+1:=⟨f - 1,by omega⟩
   show B (rounds B f) _=_
   rw [←hB]
   simp only [nT,List.append_nil]
   rw [if_neg (by simp)]
   exact tail us t hs _ rfl
  | succ k ih=>
   intro t us f hf hs ho
   obtain ⟨f,rfl⟩:∃g,f=g+1:=⟨f - 1,by omega⟩
   have h1:=uM h hs
   show B (rounds B f) _=_
   rw [←hB]
   simp only
   rw [if_pos (by rw [decide_eq_true_eq]; omega)]
   by_cases hw:t.2=true
   ·rw [if_neg (by simp [hw]),nT,if_pos hw]
    simp only [List.append_nil]
    exact tail us t hs _ rfl
   ·rw [if_pos (by simp [hw]),Gr h hD hs]
    simp only [Option.bind_some]
    rw [if_pos (by rw [List.length_singleton]; omega),wrap_i64 (by omega) (by omega),show ((k+1:Nat):Int) - 1=(k:Int) by omega,hB]
    rw [ih (jf t).2 _ f (by omega) h1.2 (by simp only [List.length_append,List.length_singleton]; omega),nT,if_neg hw]
    simp
 have k6:((a6.1.toNat:Nat):Int)=a6.1:=by omega
 have:=key a6.1.toNat a6.2 [] n (by omega) f6.2 (by simp only [List.length_nil]; omega)
 rw [k6] at this
 rw [this]
 simp only [EX,q1,q2,q3,q4,q5,q6,List.nil_append]
end Go.Proofs.YtailcbngagacaabGreat.FO
