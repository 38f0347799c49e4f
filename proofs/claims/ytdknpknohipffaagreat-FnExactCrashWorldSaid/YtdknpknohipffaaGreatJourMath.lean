/- Journals: both sides read the same ops. -/
import Derived.Test.YtdknpknohipffaaGreatOwF
import Derived.Test.YtdknpknohipffaaGreatLoopLib
import Derived.Test.YtdknpknohipffaaGreatPackLib
import Derived.Test.YtdknpknohipffaaGreatStoreMath
import Derived.Test.YtdknpknohipffaaGreatOpsMath
import Derived.Test.YtdknpknohipffaaGreatGoodMath
import Derived.Test.YtdknpknohipffaaGreatCodecMath
import Derived.Test.YtdknpknohipffaaGreatReadMath
import Derived.Test.YtdknpknohipffaaGreatReadSMath
import Derived.Test.YtdknpknohipffaaGreatCwF
set_option linter.unusedSectionVars false
set_option linter.unusedVariables false
set_option linter.unusedSimpArgs false
namespace Go.Proofs.YtdknpknohipffaaGreat.Ko
open Go Go.Proofs.YtdknpknohipffaaGreat.Ow Go.Proofs.YtdknpknohipffaaGreat.Qq Go.Proofs.YtdknpknohipffaaGreat.kG Go.Proofs.YtdknpknohipffaaGreat.Ab Go.Proofs.YtdknpknohipffaaGreat.gK Go.Proofs.YtdknpknohipffaaGreat.jO Go.Proofs.YtdknpknohipffaaGreat.zb Go.Proofs.YtdknpknohipffaaGreat.lD Go.Proofs.YtdknpknohipffaaGreat.Fj Go.Proofs.YtdknpknohipffaaGreat.Hg
noncomputable def ab0 (d:List Int):Int×Int×OpC×Unit:=match xm R8 d with
 | none=>(5,0,zO,())
 | some o=>(0,((fQ o).length:Int),o,())
theorem Sl {n:Nat} {d:List Int} (h:qV d) (hb:d.length≤big) (hn:big<n):uo n d=some (ab0 d,()):=by
 have hb':d.length≤1048576:=hb
 have g0:=wO h 0
 have g1:=wO h 1
 unfold uo
 rw [show (0:Int).toNat=0 from rfl,show (1:Int).toNat=1 from rfl]
 rw [wrap_i64 (x:=d.getD 0 0) (by omega) (by omega),wrap_i64 (x:=d.getD 1 0) (by omega) (by omega),wrap_i64 (x:=d.getD 0 0 * 256) (by omega) (by omega),wrap_i64 (x:=d.getD 0 0 * 256+d.getD 1 0) (by omega) (by omega)]
 by_cases hx:∃o,Is R8 d o
 ·obtain ⟨o,ho⟩:=hx
  obtain ⟨q1,q2,q3⟩:=LQ ho.2
  have hl:=uP o
  have hlb:=Cn o
  have hle:=ho.2.length_le
  have hok:okO o∧qV o.2.2.2.2.2.2.2.1:=by
   have:=Mt (D:=d.take (fQ o).length) (d:=(d.take (fQ o).length).drop 2) (zu h _) (List.drop_suffix 2 _)
   rw [q3,zF,Eo] at this
   exact this
  unfold ab0
  rw [Ox ho,q2,apn,q3]
  rw [if_neg (by rw [decide_eq_true_eq]; omega),if_pos (show aH 0 d.length from ⟨by omega,by omega⟩),if_pos (show aH 1 d.length from ⟨by omega,by omega⟩),if_neg (by rw [decide_eq_true_eq]; omega),if_neg (by rw [decide_eq_true_eq]; omega),if_pos ⟨by omega,by omega⟩]
  have hB:qV (fQ o):=by rw [←q3]; exact zu h _
  rw [Oy hB (by unfold big; omega) (by omega) hn,zF,Eo]
  simp only [ape]
  rw [Ea hok.1 hn]
  simp only [ape]
  rw [if_neg (by rw [show iZ o=0 from ho.1]; decide),Oq (abW ho.1 hok.2) hn]
  simp only [ape]
  rw [if_pos ⟨by omega,by omega⟩,if_neg (by simp)]
 ·unfold ab0
  rw [Ii hx]
  by_cases c1:(d.length:Int)<2
  ·rw [if_pos (by rw [decide_eq_true_eq]; exact c1)]
  rw [if_neg (by rw [decide_eq_true_eq]; exact c1),if_pos (show aH 0 d.length from ⟨by omega,by omega⟩),if_pos (show aH 1 d.length from ⟨by omega,by omega⟩)]
  generalize hM:d.getD 0 0 * 256+d.getD 1 0=M at *
  by_cases c2:M<2
  ·rw [if_pos (by rw [decide_eq_true_eq]; exact c2)]
  rw [if_neg (by rw [decide_eq_true_eq]; exact c2)]
  by_cases c3:M>(d.length:Int)
  ·rw [if_pos (by rw [decide_eq_true_eq]; exact c3)]
  rw [if_neg (by rw [decide_eq_true_eq]; exact c3),if_pos ⟨by omega,by omega⟩]
  have hB:qV (d.take M.toNat):=zu h _
  have hok:=Mt (D:=d.take M.toNat) (d:=(d.take M.toNat).drop 2) hB (List.drop_suffix 2 _)
  rw [Oy hB (by unfold big; rw [List.length_take]; omega) (by rw [List.length_take]; omega) hn]
  simp only [ape]
  generalize (FW ((d.take M.toNat).drop 2)).1=o at *
  rw [Ea hok.1 hn]
  simp only [ape]
  by_cases c4:iZ o=0
  ·rw [if_neg (by simp [c4]),Oq (abW c4 hok.2) hn]
   simp only [ape]
   rw [if_pos ⟨by omega,by omega⟩]
   by_cases c5:fQ o=d.take M.toNat
   ·refine absurd ⟨o,c4, ?_⟩ hx
    rw [c5]; exact List.take_prefix _ _
   ·rw [if_pos (by simp [c5])]
  ·rw [if_pos (by simp [c4])]
noncomputable def jP (d:List Int):List OpC×Nat:=xD R8 (d.length+1) d
theorem Mw:xm R8 []=none:=by
 apply Ii
 rintro ⟨o,_,h⟩
 have:=h.length_le
 rw [uP,Cn] at this
 simp at this
theorem FJ (d:List Int):(∀o∈(jP d).1,iZ o=0)∧(jP d).2≤d.length∧13 * (jP d).1.length≤d.length:=
 ⟨fun o ho=>LU (R:=R8) o ho,Vz⟩
theorem Xk {k:Nat}:∀{d:List Int},qV d→∀o∈(xD R8 k d).1,okO o∧SH o:=by
 induction k with
 | zero=>intro d _ o h; simp [xD] at h
 | succ k ih=>
  intro d hd o h
  rw [xD] at h
  cases hr:xm R8 d with
  | none=>rw [hr] at h; simp at h
  | some q=>
   rw [hr] at h
   have hq:=FX hr
   have h3:=(LQ hq.2).2.2
   have hok:=Mt (D:=d.take (fQ q).length) (d:=(d.take (fQ q).length).drop 2) (zu hd _) (List.drop_suffix 2 _)
   rw [h3,zF,Eo] at hok
   rcases apq.1 h with rfl | h
   ·exact ⟨hok.1,abW hq.1 hok.2⟩
   ·exact ih (zq hd _) o h
theorem ac1 {d:List Int} (h:qV d):∀o∈(jP d).1,okO o∧SH o:=Xk h
theorem Ob {n:Nat} {d:List Int} (h:qV d) (hb:d.length≤big) (hn:big<n):mh n d=some ((jP d).1,((jP d).2:Int),()):=by
 have hb':d.length≤1048576:=hb
 have hn':=hn
 unfold big at hn'
 unfold mh
 generalize hB:(fun (L1:List Int×Int×List OpC×Unit→Option (List OpC×Int×Unit)) v1=>_)=B
 have key:∀(m a:Nat) (out:List OpC) (f:Nat),d.length - a≤m→a≤d.length→m<f→out.length≤a→rounds B f (d,(a:Int),out,())=some (out++(xD R8 (m+1) (d.drop a)).1,((a+(xD R8 (m+1) (d.drop a)).2:Nat):Int),()):=by
  intro m
  induction m with
  | zero=>
   intro a out f h1 h2 hf _
   obtain ⟨f,rfl⟩:∃g,f=g+1:=⟨f - 1,by omega⟩
   have ea:a=d.length:=by omega
   subst ea
   show B (rounds B f) _=_
   rw [←hB,List.drop_length,xD,Mw]
   simp
  | succ m ih=>
   intro a out f h1 h2 hf ho
   obtain ⟨f,rfl⟩:∃g,f=g+1:=⟨f - 1,by omega⟩
   show B (rounds B f) _=_
   rw [←hB]
   simp only
   by_cases ha:a=d.length
   ·subst ha
    rw [List.drop_length,xD,Mw]
    simp
   ·rw [if_pos (by rw [decide_eq_true_eq]; omega),if_pos ⟨by omega,by omega⟩,apn,Sl (zq h a) (by unfold big; rw [List.length_drop]; omega) hn,xD]
    simp only [ape]
    unfold ab0
    cases hr:xm R8 (d.drop a) with
    | none=>simp
    | some o=>
     have hle:=(FX hr).2.length_le
     rw [List.length_drop] at hle
     have hl:=uP o
     simp only
     rw [if_neg (by decide),if_pos (by rw [apy]; omega),wrap_i64 (by omega) (by omega),hB,show (a:Int)+((fQ o).length:Int)=((a+(fQ o).length:Nat):Int) by omega]
     rw [ih (a+(fQ o).length) _ f (by omega) (by omega) (by omega) (by simp only [apl,apy]; omega)]
     rw [List.drop_drop,apz,List.singleton_append,Nat.add_assoc]
 have:=key d.length 0 [] n (by omega) (by omega) (by omega) (apM _)
 unfold jP
 simpa using this
theorem Oa {n:Nat} {d:List Int} (h:qV d) (hb:d.length≤big) (hn:big<n):oP n d=some ((jP d).1,((jP d).2:Int),()):=by
 have hb':d.length≤1048576:=hb
 have hn':=hn
 unfold big at hn'
 unfold oP
 generalize hB:(fun (L1:List Int×Int×List OpC×Unit→Option (List OpC×Int×Unit)) v1=>_)=B
 have key:∀(m a:Nat) (out:List OpC) (f:Nat),d.length - a≤m→a≤d.length→m<f→out.length≤a→rounds B f (d,(a:Int),out,())=some (out++(xD R8 (m+1) (d.drop a)).1,((a+(xD R8 (m+1) (d.drop a)).2:Nat):Int),()):=by
  intro m
  induction m with
  | zero=>
   intro a out f h1 h2 hf _
   obtain ⟨f,rfl⟩:∃g,f=g+1:=⟨f - 1,by omega⟩
   show B (rounds B f) _=_
   rw [←hB]
   simp only
   rw [if_pos ⟨by omega,by omega⟩,apn,I6 (zq h a) (by unfold big; rw [List.length_drop]; omega) hn,xD]
   have ea:d.drop a=[]:=List.drop_eq_nil_of_le (by omega)
   rw [ea]
   simp only [OM,Mw,ape]
   simp
  | succ m ih=>
   intro a out f h1 h2 hf ho
   obtain ⟨f,rfl⟩:∃g,f=g+1:=⟨f - 1,by omega⟩
   show B (rounds B f) _=_
   rw [←hB]
   simp only
   rw [if_pos ⟨by omega,by omega⟩,apn,I6 (zq h a) (by unfold big; rw [List.length_drop]; omega) hn,xD]
   simp only [ape]
   unfold OM
   cases hr:xm R8 (d.drop a) with
   | none=>simp
   | some o=>
    have hle:=(FX hr).2.length_le
    rw [List.length_drop] at hle
    have hl:=uP o
    simp only
    rw [if_neg (by rw [decide_eq_true_eq]; omega),if_pos (by rw [apy]; omega),wrap_i64 (by omega) (by omega),hB,show (a:Int)+((fQ o).length:Int)=((a+(fQ o).length:Nat):Int) by omega]
    rw [ih (a+(fQ o).length) _ f (by omega) (by omega) (by omega) (by simp only [apl,apy]; omega)]
    rw [List.drop_drop,apz,List.singleton_append,Nat.add_assoc]
 have:=key d.length 0 [] n (by omega) (by omega) (by omega) (apM _)
 unfold jP
 simpa using this
end Go.Proofs.YtdknpknohipffaaGreat.Ko
