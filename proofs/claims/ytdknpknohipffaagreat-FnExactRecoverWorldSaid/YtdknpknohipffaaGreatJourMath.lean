/- Journals: both sides read the same ops. -/
import Derived.Test.YtdknpknohipffaaGreatOwF
import Derived.Test.YtdknpknohipffaaGreatLoopLib
import Derived.Test.YtdknpknohipffaaGreatPackLib
import Derived.Test.YtdknpknohipffaaGreatStoreMath
import Derived.Test.YtdknpknohipffaaGreatOpsMath
import Derived.Test.YtdknpknohipffaaGreatGoodMath
import Derived.Test.YtdknpknohipffaaGreatCodecMath
import Derived.Test.YtdknpknohipffaaGreatReadMath
import Derived.Test.YtdknpknohipffaaGreatReadSMath
import Derived.Test.YtdknpknohipffaaGreatRwF
set_option linter.unusedSectionVars false
set_option linter.unusedVariables false
set_option linter.unusedSimpArgs false
namespace Go.Proofs.YtdknpknohipffaaGreat.LF
open Go Go.Proofs.YtdknpknohipffaaGreat.Ow Go.Proofs.YtdknpknohipffaaGreat.Uf Go.Proofs.YtdknpknohipffaaGreat.nW Go.Proofs.YtdknpknohipffaaGreat.CO Go.Proofs.YtdknpknohipffaaGreat.iI Go.Proofs.YtdknpknohipffaaGreat.kR Go.Proofs.YtdknpknohipffaaGreat.Bu Go.Proofs.YtdknpknohipffaaGreat.oQ Go.Proofs.YtdknpknohipffaaGreat.HY Go.Proofs.YtdknpknohipffaaGreat.Js
noncomputable def adu (d:List Int):Int×Int×OpC×Unit:=match zH R8 d with
 | none=>(5,0,zO,())
 | some o=>(0,((fM o).length:Int),o,())
theorem TN {n:Nat} {d:List Int} (h:uf d) (hb:d.length≤big) (hn:big<n):wU n d=some (adu d,()):=by
 have hb':d.length≤1048576:=hb
 have g0:=zu h 0
 have g1:=zu h 1
 unfold wU
 rw [show (0:Int).toNat=0 from rfl,show (1:Int).toNat=1 from rfl]
 rw [wrap_i64 (x:=d.getD 0 0) (by omega) (by omega),wrap_i64 (x:=d.getD 1 0) (by omega) (by omega),wrap_i64 (x:=d.getD 0 0 * 256) (by omega) (by omega),wrap_i64 (x:=d.getD 0 0 * 256+d.getD 1 0) (by omega) (by omega)]
 by_cases hx:∃o,Is R8 d o
 ·obtain ⟨o,ho⟩:=hx
  obtain ⟨q1,q2,q3⟩:=Nk ho.2
  have hl:=xH o
  have hlb:=EN o
  have hle:=ho.2.length_le
  have hok:okO o∧uf o.2.2.2.2.2.2.2.1:=by
   have:=NK (D:=d.take (fM o).length) (d:=(d.take (fM o).length).drop 2) (BZ h _) (List.drop_suffix 2 _)
   rw [q3,Cg,GJ] at this
   exact this
  unfold adu
  rw [PI ho,q2,Int.toNat_natCast,q3]
  rw [if_neg (by rw [decide_eq_true_eq]; omega),if_pos (show aH 0 d.length from ⟨by omega,by omega⟩),if_pos (show aH 1 d.length from ⟨by omega,by omega⟩),if_neg (by rw [decide_eq_true_eq]; omega),if_neg (by rw [decide_eq_true_eq]; omega),if_pos ⟨by omega,by omega⟩]
  have hB:uf (fM o):=by rw [←q3]; exact BZ h _
  rw [PK hB (by unfold big; omega) (by omega) hn,Cg,GJ]
  simp only [Option.bind_some]
  rw [Gs hok.1 hn]
  simp only [Option.bind_some]
  rw [if_neg (by rw [show jg o=0 from ho.1]; decide),Pz (adq ho.1 hok.2) hn]
  simp only [Option.bind_some]
  rw [if_pos ⟨by omega,by omega⟩,if_neg (by simp)]
 ·unfold adu
  rw [JR hx]
  by_cases c1:(d.length:Int)<2
  ·rw [if_pos (by rw [decide_eq_true_eq]; exact c1)]
  rw [if_neg (by rw [decide_eq_true_eq]; exact c1),if_pos (show aH 0 d.length from ⟨by omega,by omega⟩),if_pos (show aH 1 d.length from ⟨by omega,by omega⟩)]
  generalize hM:d.getD 0 0 * 256+d.getD 1 0=M at *
  by_cases c2:M<2
  ·rw [if_pos (by rw [decide_eq_true_eq]; exact c2)]
  rw [if_neg (by rw [decide_eq_true_eq]; exact c2)]
  by_cases c3:M>(d.length:Int)
  ·rw [if_pos (by rw [decide_eq_true_eq]; exact c3)]
  rw [if_neg (by rw [decide_eq_true_eq]; exact c3),if_pos ⟨by omega,by omega⟩]
  have hB:uf (d.take M.toNat):=BZ h _
  have hok:=NK (D:=d.take M.toNat) (d:=(d.take M.toNat).drop 2) hB (List.drop_suffix 2 _)
  rw [PK hB (by unfold big; rw [List.length_take]; omega) (by rw [List.length_take]; omega) hn]
  simp only [Option.bind_some]
  generalize (IB ((d.take M.toNat).drop 2)).1=o at *
  rw [Gs hok.1 hn]
  simp only [Option.bind_some]
  by_cases c4:jg o=0
  ·rw [if_neg (by simp [c4]),Pz (adq c4 hok.2) hn]
   simp only [Option.bind_some]
   rw [if_pos ⟨by omega,by omega⟩]
   by_cases c5:fM o=d.take M.toNat
   ·refine absurd ⟨o,c4, ?_⟩ hx
    rw [c5]; exact List.take_prefix _ _
   ·rw [if_pos (by simp [c5])]
  ·rw [if_pos (by simp [c4])]
noncomputable def jP (d:List Int):List OpC×Nat:=z8 R8 (d.length+1) d
theorem NM:zH R8 []=none:=by
 apply JR
 rintro ⟨o,_,h⟩
 have:=h.length_le
 rw [xH,EN] at this
 simp at this
theorem EJ (d:List Int):(∀o∈(jP d).1,jg o=0)∧(jP d).2≤d.length∧13 * (jP d).1.length≤d.length:=
 ⟨fun o ho=>Nl (R:=R8) o ho,WE⟩
theorem Yh {k:Nat}:∀{d:List Int},uf d→∀o∈(z8 R8 k d).1,okO o∧Ue o:=by
 induction k with
 | zero=>intro d _ o h; simp [z8] at h
 | succ k ih=>
  intro d hd o h
  rw [z8] at h
  cases hr:zH R8 d with
  | none=>rw [hr] at h; simp at h
  | some q=>
   rw [hr] at h
   have hq:=IC hr
   have h3:=(Nk hq.2).2.2
   have hok:=NK (D:=d.take (fM q).length) (d:=(d.take (fM q).length).drop 2) (BZ hd _) (List.drop_suffix 2 _)
   rw [h3,Cg,GJ] at hok
   rcases List.mem_cons.1 h with rfl | h
   ·exact ⟨hok.1,adq hq.1 hok.2⟩
   ·exact ih (BX hd _) o h
theorem aaY {d:List Int} (h:uf d):∀o∈(jP d).1,okO o∧Ue o:=Yh h
theorem JM {n:Nat} {d:List Int} (h:uf d) (hb:d.length≤big) (hn:big<n):jE n d=some ((jP d).1,((jP d).2:Int),()):=by
 have hb':d.length≤1048576:=hb
 have hn':=hn
 unfold big at hn'
 unfold jE
 generalize hB:(fun (L1:List Int×Int×List OpC×Unit→Option (List OpC×Int×Unit)) v1=>_)=B
 have key:∀(m a:Nat) (out:List OpC) (f:Nat),d.length - a≤m→a≤d.length→m<f→out.length≤a→rounds B f (d,(a:Int),out,())=some (out++(z8 R8 (m+1) (d.drop a)).1,((a+(z8 R8 (m+1) (d.drop a)).2:Nat):Int),()):=by
  intro m
  induction m with
  | zero=>
   intro a out f h1 h2 hf _
   obtain ⟨f,rfl⟩:∃g,f=g+1:=⟨f - 1,by omega⟩
   have ea:a=d.length:=by omega
   subst ea
   show B (rounds B f) _=_
   rw [←hB,List.drop_length,z8,NM]
   simp
  | succ m ih=>
   intro a out f h1 h2 hf ho
   obtain ⟨f,rfl⟩:∃g,f=g+1:=⟨f - 1,by omega⟩
   show B (rounds B f) _=_
   rw [←hB]
   simp only
   by_cases ha:a=d.length
   ·subst ha
    rw [List.drop_length,z8,NM]
    simp
   ·rw [if_pos (by rw [decide_eq_true_eq]; omega),if_pos ⟨by omega,by omega⟩,Int.toNat_natCast,TN (BX h a) (by unfold big; rw [List.length_drop]; omega) hn,z8]
    simp only [Option.bind_some]
    unfold adu
    cases hr:zH R8 (d.drop a) with
    | none=>simp
    | some o=>
     have hle:=(IC hr).2.length_le
     rw [List.length_drop] at hle
     have hl:=xH o
     simp only
     rw [if_neg (by decide),if_pos (by rw [List.length_singleton]; omega),wrap_i64 (by omega) (by omega),hB,show (a:Int)+((fM o).length:Int)=((a+(fM o).length:Nat):Int) by omega]
     rw [ih (a+(fM o).length) _ f (by omega) (by omega) (by omega) (by simp only [List.length_append,List.length_singleton]; omega)]
     rw [List.drop_drop,List.append_assoc,List.singleton_append,Nat.add_assoc]
 have:=key d.length 0 [] n (by omega) (by omega) (by omega) (Nat.zero_le _)
 unfold jP
 simpa using this
theorem JL {n:Nat} {d:List Int} (h:uf d) (hb:d.length≤big) (hn:big<n):mJ n d=some ((jP d).1,((jP d).2:Int),()):=by
 have hb':d.length≤1048576:=hb
 have hn':=hn
 unfold big at hn'
 unfold mJ
 generalize hB:(fun (L1:List Int×Int×List OpC×Unit→Option (List OpC×Int×Unit)) v1=>_)=B
 have key:∀(m a:Nat) (out:List OpC) (f:Nat),d.length - a≤m→a≤d.length→m<f→out.length≤a→rounds B f (d,(a:Int),out,())=some (out++(z8 R8 (m+1) (d.drop a)).1,((a+(z8 R8 (m+1) (d.drop a)).2:Nat):Int),()):=by
  intro m
  induction m with
  | zero=>
   intro a out f h1 h2 hf _
   obtain ⟨f,rfl⟩:∃g,f=g+1:=⟨f - 1,by omega⟩
   show B (rounds B f) _=_
   rw [←hB]
   simp only
   rw [if_pos ⟨by omega,by omega⟩,Int.toNat_natCast,Ko (BX h a) (by unfold big; rw [List.length_drop]; omega) hn,z8]
   have ea:d.drop a=[]:=List.drop_eq_nil_of_le (by omega)
   rw [ea]
   simp only [PY,NM,Option.bind_some]
   simp
  | succ m ih=>
   intro a out f h1 h2 hf ho
   obtain ⟨f,rfl⟩:∃g,f=g+1:=⟨f - 1,by omega⟩
   show B (rounds B f) _=_
   rw [←hB]
   simp only
   rw [if_pos ⟨by omega,by omega⟩,Int.toNat_natCast,Ko (BX h a) (by unfold big; rw [List.length_drop]; omega) hn,z8]
   simp only [Option.bind_some]
   unfold PY
   cases hr:zH R8 (d.drop a) with
   | none=>simp
   | some o=>
    have hle:=(IC hr).2.length_le
    rw [List.length_drop] at hle
    have hl:=xH o
    simp only
    rw [if_neg (by rw [decide_eq_true_eq]; omega),if_pos (by rw [List.length_singleton]; omega),wrap_i64 (by omega) (by omega),hB,show (a:Int)+((fM o).length:Int)=((a+(fM o).length:Nat):Int) by omega]
    rw [ih (a+(fM o).length) _ f (by omega) (by omega) (by omega) (by simp only [List.length_append,List.length_singleton]; omega)]
    rw [List.drop_drop,List.append_assoc,List.singleton_append,Nat.add_assoc]
 have:=key d.length 0 [] n (by omega) (by omega) (by omega) (Nat.zero_le _)
 unfold jP
 simpa using this
end Go.Proofs.YtdknpknohipffaaGreat.LF
