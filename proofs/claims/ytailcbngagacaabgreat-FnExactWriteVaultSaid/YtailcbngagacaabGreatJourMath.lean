/- Journals: both sides read the same ops. -/
import Derived.Test.YtailcbngagacaabGreatOwF
import Derived.Test.YtailcbngagacaabGreatLoopLib
import Derived.Test.YtailcbngagacaabGreatPackLib
import Derived.Test.YtailcbngagacaabGreatStoreMath
import Derived.Test.YtailcbngagacaabGreatOpsMath
import Derived.Test.YtailcbngagacaabGreatGoodMath
import Derived.Test.YtailcbngagacaabGreatCodecMath
import Derived.Test.YtailcbngagacaabGreatReadMath
import Derived.Test.YtailcbngagacaabGreatReadSMath
import Derived.Test.YtailcbngagacaabGreatWriteF
set_option linter.unusedSectionVars false
set_option linter.unusedVariables false
set_option linter.unusedSimpArgs false
namespace Go.Proofs.YtailcbngagacaabGreat.Dz
open Go Go.Proofs.YtailcbngagacaabGreat.Ow Go.Proofs.YtailcbngagacaabGreat.oC Go.Proofs.YtailcbngagacaabGreat.kN Go.Proofs.YtailcbngagacaabGreat.wX Go.Proofs.YtailcbngagacaabGreat.gV Go.Proofs.YtailcbngagacaabGreat.jI Go.Proofs.YtailcbngagacaabGreat.vJ Go.Proofs.YtailcbngagacaabGreat.kR Go.Proofs.YtailcbngagacaabGreat.DK Go.Proofs.YtailcbngagacaabGreat.Fx
noncomputable def aao (d:List Int):Int×Int×OpC×Unit:=match wF R8 d with
 | none=>(5,0,zO,())
 | some o=>(0,((eX o).length:Int),o,())
theorem Qs {n:Nat} {d:List Int} (h:p9 d) (hb:d.length≤big) (hn:big<n):tL n d=some (aao d,()):=by
 have hb':d.length≤1048576:=hb
 have g0:=vT h 0
 have g1:=vT h 1
 unfold tL
 rw [show (0:Int).toNat=0 from rfl,show (1:Int).toNat=1 from rfl]
 rw [wrap_i64 (x:=d.getD 0 0) (by omega) (by omega),wrap_i64 (x:=d.getD 1 0) (by omega) (by omega),wrap_i64 (x:=d.getD 0 0 * 256) (by omega) (by omega),wrap_i64 (x:=d.getD 0 0 * 256+d.getD 1 0) (by omega) (by omega)]
 by_cases hx:∃o,Is R8 d o
 ·obtain ⟨o,ho⟩:=hx
  obtain ⟨q1,q2,q3⟩:=Kc ho.2
  have hl:=rQ o
  have hlb:=A7 o
  have hle:=ho.2.length_le
  have hok:okO o∧p9 o.2.2.2.2.2.2.2.1:=by
   have:=KC (D:=d.take (eX o).length) (d:=(d.take (eX o).length).drop 2) (yz h _) (List.drop_suffix 2 _)
   rw [q3,yE,CZ] at this
   exact this
  unfold aao
  rw [MR ho,q2,anr,q3]
  rw [if_neg (by rw [decide_eq_true_eq]; omega),if_pos (show aJ 0 d.length from ⟨by omega,by omega⟩),if_pos (show aJ 1 d.length from ⟨by omega,by omega⟩),if_neg (by rw [decide_eq_true_eq]; omega),if_neg (by rw [decide_eq_true_eq]; omega),if_pos ⟨by omega,by omega⟩]
  have hB:p9 (eX o):=by rw [←q3]; exact yz h _
  rw [MS hB (by unfold big; omega) (by omega) hn,yE,CZ]
  simp only [ani]
  rw [CG hok.1 hn]
  simp only [ani]
  rw [if_neg (by rw [show iG o=0 from ho.1]; decide),FY (aak ho.1 hok.2) hn]
  simp only [ani]
  rw [if_pos ⟨by omega,by omega⟩,if_neg (by simp)]
 ·unfold aao
  rw [FZ hx]
  by_cases c1:(d.length:Int)<2
  ·rw [if_pos (by rw [decide_eq_true_eq]; exact c1)]
  rw [if_neg (by rw [decide_eq_true_eq]; exact c1),if_pos (show aJ 0 d.length from ⟨by omega,by omega⟩),if_pos (show aJ 1 d.length from ⟨by omega,by omega⟩)]
  generalize hM:d.getD 0 0 * 256+d.getD 1 0=M at *
  by_cases c2:M<2
  ·rw [if_pos (by rw [decide_eq_true_eq]; exact c2)]
  rw [if_neg (by rw [decide_eq_true_eq]; exact c2)]
  by_cases c3:M>(d.length:Int)
  ·rw [if_pos (by rw [decide_eq_true_eq]; exact c3)]
  rw [if_neg (by rw [decide_eq_true_eq]; exact c3),if_pos ⟨by omega,by omega⟩]
  have hB:p9 (d.take M.toNat):=yz h _
  have hok:=KC (D:=d.take M.toNat) (d:=(d.take M.toNat).drop 2) hB (List.drop_suffix 2 _)
  rw [MS hB (by unfold big; rw [List.length_take]; omega) (by rw [List.length_take]; omega) hn]
  simp only [ani]
  generalize (Ew ((d.take M.toNat).drop 2)).1=o at *
  rw [CG hok.1 hn]
  simp only [ani]
  by_cases c4:iG o=0
  ·rw [if_neg (by simp [c4]),FY (aak c4 hok.2) hn]
   simp only [ani]
   rw [if_pos ⟨by omega,by omega⟩]
   by_cases c5:eX o=d.take M.toNat
   ·refine absurd ⟨o,c4, ?_⟩ hx
    rw [c5]; exact List.take_prefix _ _
   ·rw [if_pos (by simp [c5])]
  ·rw [if_pos (by simp [c4])]
noncomputable def jP (d:List Int):List OpC×Nat:=wM R8 (d.length+1) d
theorem KE:wF R8 []=none:=by
 apply FZ
 rintro ⟨o,_,h⟩
 have:=h.length_le
 rw [rQ,A7] at this
 simp at this
theorem Ec (d:List Int):(∀o∈(jP d).1,iG o=0)∧(jP d).2≤d.length∧13 * (jP d).1.length≤d.length:=
 ⟨fun o ho=>Ke (R:=R8) o ho,TL⟩
theorem Vo {k:Nat}:∀{d:List Int},p9 d→∀o∈(wM R8 k d).1,okO o∧OU o:=by
 induction k with
 | zero=>intro d _ o h; simp [wM] at h
 | succ k ih=>
  intro d hd o h
  rw [wM] at h
  cases hr:wF R8 d with
  | none=>rw [hr] at h; simp at h
  | some q=>
   rw [hr] at h
   have hq:=Ey hr
   have h3:=(Kc hq.2).2.2
   have hok:=KC (D:=d.take (eX q).length) (d:=(d.take (eX q).length).drop 2) (yz hd _) (List.drop_suffix 2 _)
   rw [h3,yE,CZ] at hok
   rcases anu.1 h with rfl | h
   ·exact ⟨hok.1,aak hq.1 hok.2⟩
   ·exact ih (yx hd _) o h
theorem aa9 {d:List Int} (h:p9 d):∀o∈(jP d).1,okO o∧OU o:=Vo h
theorem MB {n:Nat} {d:List Int} (h:p9 d) (hb:d.length≤big) (hn:big<n):lF n d=some ((jP d).1,((jP d).2:Int),()):=by
 have hb':d.length≤1048576:=hb
 have hn':=hn
 unfold big at hn'
 unfold lF
 generalize hB:(fun (L1:List Int×Int×List OpC×Unit→Option (List OpC×Int×Unit)) v1=>_)=B
 have key:∀(m a:Nat) (out:List OpC) (f:Nat),d.length - a≤m→a≤d.length→m<f→out.length≤a→rounds B f (d,(a:Int),out,())=some (out++(wM R8 (m+1) (d.drop a)).1,((a+(wM R8 (m+1) (d.drop a)).2:Nat):Int),()):=by
  intro m
  induction m with
  | zero=>
   intro a out f h1 h2 hf _
   obtain ⟨f,rfl⟩:∃g,f=g+1:=⟨f - 1,by omega⟩
   have ea:a=d.length:=by omega
   subst ea
   show B (rounds B f) _=_
   rw [←hB,List.drop_length,wM,KE]
   simp
  | succ m ih=>
   intro a out f h1 h2 hf ho
   obtain ⟨f,rfl⟩:∃g,f=g+1:=⟨f - 1,by omega⟩
   show B (rounds B f) _=_
   rw [←hB]
   simp only
   by_cases ha:a=d.length
   ·subst ha
    rw [List.drop_length,wM,KE]
    simp
   ·rw [if_pos (by rw [decide_eq_true_eq]; omega),if_pos ⟨by omega,by omega⟩,anr,Qs (yx h a) (by unfold big; rw [List.length_drop]; omega) hn,wM]
    simp only [ani]
    unfold aao
    cases hr:wF R8 (d.drop a) with
    | none=>simp
    | some o=>
     have hle:=(Ey hr).2.length_le
     rw [List.length_drop] at hle
     have hl:=rQ o
     simp only
     rw [if_neg (by decide),if_pos (by rw [anD]; omega),wrap_i64 (by omega) (by omega),hB,show (a:Int)+((eX o).length:Int)=((a+(eX o).length:Nat):Int) by omega]
     rw [ih (a+(eX o).length) _ f (by omega) (by omega) (by omega) (by simp only [anp,anD]; omega)]
     rw [List.drop_drop,anE,List.singleton_append,Nat.add_assoc]
 have:=key d.length 0 [] n (by omega) (by omega) (by omega) (anR _)
 unfold jP
 simpa using this
theorem Mx {n:Nat} {d:List Int} (h:p9 d) (hb:d.length≤big) (hn:big<n):oh n d=some ((jP d).1,((jP d).2:Int),()):=by
 have hb':d.length≤1048576:=hb
 have hn':=hn
 unfold big at hn'
 unfold oh
 generalize hB:(fun (L1:List Int×Int×List OpC×Unit→Option (List OpC×Int×Unit)) v1=>_)=B
 have key:∀(m a:Nat) (out:List OpC) (f:Nat),d.length - a≤m→a≤d.length→m<f→out.length≤a→rounds B f (d,(a:Int),out,())=some (out++(wM R8 (m+1) (d.drop a)).1,((a+(wM R8 (m+1) (d.drop a)).2:Nat):Int),()):=by
  intro m
  induction m with
  | zero=>
   intro a out f h1 h2 hf _
   obtain ⟨f,rfl⟩:∃g,f=g+1:=⟨f - 1,by omega⟩
   show B (rounds B f) _=_
   rw [←hB]
   simp only
   rw [if_pos ⟨by omega,by omega⟩,anr,GQ (yx h a) (by unfold big; rw [List.length_drop]; omega) hn,wM]
   have ea:d.drop a=[]:=List.drop_eq_nil_of_le (by omega)
   rw [ea]
   simp only [M8,KE,ani]
   simp
  | succ m ih=>
   intro a out f h1 h2 hf ho
   obtain ⟨f,rfl⟩:∃g,f=g+1:=⟨f - 1,by omega⟩
   show B (rounds B f) _=_
   rw [←hB]
   simp only
   rw [if_pos ⟨by omega,by omega⟩,anr,GQ (yx h a) (by unfold big; rw [List.length_drop]; omega) hn,wM]
   simp only [ani]
   unfold M8
   cases hr:wF R8 (d.drop a) with
   | none=>simp
   | some o=>
    have hle:=(Ey hr).2.length_le
    rw [List.length_drop] at hle
    have hl:=rQ o
    simp only
    rw [if_neg (by rw [decide_eq_true_eq]; omega),if_pos (by rw [anD]; omega),wrap_i64 (by omega) (by omega),hB,show (a:Int)+((eX o).length:Int)=((a+(eX o).length:Nat):Int) by omega]
    rw [ih (a+(eX o).length) _ f (by omega) (by omega) (by omega) (by simp only [anp,anD]; omega)]
    rw [List.drop_drop,anE,List.singleton_append,Nat.add_assoc]
 have:=key d.length 0 [] n (by omega) (by omega) (by omega) (anR _)
 unfold jP
 simpa using this
end Go.Proofs.YtailcbngagacaabGreat.Dz
