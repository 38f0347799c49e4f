/- Journals: both sides read the same ops. -/
import Derived.Test.YtailcbngagacaabGreatOwF
import Derived.Test.YtailcbngagacaabGreatLoopLib
import Derived.Test.YtailcbngagacaabGreatPackLib
import Derived.Test.YtailcbngagacaabGreatStoreMath
import Derived.Test.YtailcbngagacaabGreatOpsMath
import Derived.Test.YtailcbngagacaabGreatGoodMath
import Derived.Test.YtailcbngagacaabGreatCodecMath
import Derived.Test.YtailcbngagacaabGreatReadMath
import Derived.Test.YtailcbngagacaabGreatReadSMath
import Derived.Test.YtailcbngagacaabGreatFlushF
set_option linter.unusedSectionVars false
set_option linter.unusedVariables false
set_option linter.unusedSimpArgs false
namespace Go.Proofs.YtailcbngagacaabGreat.IK
open Go Go.Proofs.YtailcbngagacaabGreat.Ow Go.Proofs.YtailcbngagacaabGreat.ry Go.Proofs.YtailcbngagacaabGreat.om Go.Proofs.YtailcbngagacaabGreat.Ag Go.Proofs.YtailcbngagacaabGreat.jm Go.Proofs.YtailcbngagacaabGreat.mW Go.Proofs.YtailcbngagacaabGreat.zf Go.Proofs.YtailcbngagacaabGreat.rF Go.Proofs.YtailcbngagacaabGreat.Eu Go.Proofs.YtailcbngagacaabGreat.FT
noncomputable def aag (d:List Int):Int×Int×OpC×Unit:=match xM R8 d with
 | none=>(5,0,zO,())
 | some o=>(0,((fK o).length:Int),o,())
theorem Qb {n:Nat} {d:List Int} (h:rP d) (hb:d.length≤big) (hn:big<n):uU n d=some (aag d,()):=by
 have hb':d.length≤1048576:=hb
 have g0:=xC h 0
 have g1:=xC h 1
 unfold uU
 rw [show (0:Int).toNat=0 from rfl,show (1:Int).toNat=1 from rfl]
 rw [wrap_i64 (x:=d.getD 0 0) (by omega) (by omega),wrap_i64 (x:=d.getD 1 0) (by omega) (by omega),wrap_i64 (x:=d.getD 0 0 * 256) (by omega) (by omega),wrap_i64 (x:=d.getD 0 0 * 256+d.getD 1 0) (by omega) (by omega)]
 by_cases hx:∃o,Is R8 d o
 ·obtain ⟨o,ho⟩:=hx
  obtain ⟨q1,q2,q3⟩:=JY ho.2
  have hl:=vK o
  have hlb:=Ci o
  have hle:=ho.2.length_le
  have hok:okO o∧rP o.2.2.2.2.2.2.2.1:=by
   have:=Kn (D:=d.take (fK o).length) (d:=(d.take (fK o).length).drop 2) (zG h _) (List.drop_suffix 2 _)
   rw [q3,zM,DZ] at this
   exact this
  unfold aag
  rw [Mt ho,q2,Int.toNat_natCast,q3]
  rw [if_neg (by rw [decide_eq_true_eq]; omega),if_pos (show aI 0 d.length from ⟨by omega,by omega⟩),if_pos (show aI 1 d.length from ⟨by omega,by omega⟩),if_neg (by rw [decide_eq_true_eq]; omega),if_neg (by rw [decide_eq_true_eq]; omega),if_pos ⟨by omega,by omega⟩]
  have hB:rP (fK o):=by rw [←q3]; exact zG h _
  rw [Mv hB (by unfold big; omega) (by omega) hn,zM,DZ]
  simp only [Option.bind_some]
  rw [DI hok.1 hn]
  simp only [Option.bind_some]
  rw [if_neg (by rw [show iW o=0 from ho.1]; decide),Mo (aac ho.1 hok.2) hn]
  simp only [Option.bind_some]
  rw [if_pos ⟨by omega,by omega⟩,if_neg (by simp)]
 ·unfold aag
  rw [Gj hx]
  by_cases c1:(d.length:Int)<2
  ·rw [if_pos (by rw [decide_eq_true_eq]; exact c1)]
  rw [if_neg (by rw [decide_eq_true_eq]; exact c1),if_pos (show aI 0 d.length from ⟨by omega,by omega⟩),if_pos (show aI 1 d.length from ⟨by omega,by omega⟩)]
  generalize hM:d.getD 0 0 * 256+d.getD 1 0=M at *
  by_cases c2:M<2
  ·rw [if_pos (by rw [decide_eq_true_eq]; exact c2)]
  rw [if_neg (by rw [decide_eq_true_eq]; exact c2)]
  by_cases c3:M>(d.length:Int)
  ·rw [if_pos (by rw [decide_eq_true_eq]; exact c3)]
  rw [if_neg (by rw [decide_eq_true_eq]; exact c3),if_pos ⟨by omega,by omega⟩]
  have hB:rP (d.take M.toNat):=zG h _
  have hok:=Kn (D:=d.take M.toNat) (d:=(d.take M.toNat).drop 2) hB (List.drop_suffix 2 _)
  rw [Mv hB (by unfold big; rw [List.length_take]; omega) (by rw [List.length_take]; omega) hn]
  simp only [Option.bind_some]
  generalize (E8 ((d.take M.toNat).drop 2)).1=o at *
  rw [DI hok.1 hn]
  simp only [Option.bind_some]
  by_cases c4:iW o=0
  ·rw [if_neg (by simp [c4]),Mo (aac c4 hok.2) hn]
   simp only [Option.bind_some]
   rw [if_pos ⟨by omega,by omega⟩]
   by_cases c5:fK o=d.take M.toNat
   ·refine absurd ⟨o,c4, ?_⟩ hx
    rw [c5]; exact List.take_prefix _ _
   ·rw [if_pos (by simp [c5])]
  ·rw [if_pos (by simp [c4])]
noncomputable def jP (d:List Int):List OpC×Nat:=x9 R8 (d.length+1) d
theorem Kq:xM R8 []=none:=by
 apply Gj
 rintro ⟨o,_,h⟩
 have:=h.length_le
 rw [vK,Ci] at this
 simp at this
theorem EN (d:List Int):(∀o∈(jP d).1,iW o=0)∧(jP d).2≤d.length∧13 * (jP d).1.length≤d.length:=
 ⟨fun o ho=>JZ (R:=R8) o ho,Ty⟩
theorem U8 {k:Nat}:∀{d:List Int},rP d→∀o∈(x9 R8 k d).1,okO o∧Qr o:=by
 induction k with
 | zero=>intro d _ o h; simp [x9] at h
 | succ k ih=>
  intro d hd o h
  rw [x9] at h
  cases hr:xM R8 d with
  | none=>rw [hr] at h; simp at h
  | some q=>
   rw [hr] at h
   have hq:=E9 hr
   have h3:=(JY hq.2).2.2
   have hok:=Kn (D:=d.take (fK q).length) (d:=(d.take (fK q).length).drop 2) (zG hd _) (List.drop_suffix 2 _)
   rw [h3,zM,DZ] at hok
   rcases List.mem_cons.1 h with rfl | h
   ·exact ⟨hok.1,aac hq.1 hok.2⟩
   ·exact ih (zF hd _) o h
theorem aa3 {d:List Int} (h:rP d):∀o∈(jP d).1,okO o∧Qr o:=U8 h
theorem Ma {n:Nat} {d:List Int} (h:rP d) (hb:d.length≤big) (hn:big<n):lK n d=some ((jP d).1,((jP d).2:Int),()):=by
 have hb':d.length≤1048576:=hb
 have hn':=hn
 unfold big at hn'
 unfold lK
 generalize hB:(fun (L1:List Int×Int×List OpC×Unit→Option (List OpC×Int×Unit)) v1=>_)=B
 have key:∀(m a:Nat) (out:List OpC) (f:Nat),d.length - a≤m→a≤d.length→m<f→out.length≤a→rounds B f (d,(a:Int),out,())=some (out++(x9 R8 (m+1) (d.drop a)).1,((a+(x9 R8 (m+1) (d.drop a)).2:Nat):Int),()):=by
  intro m
  induction m with
  | zero=>
   intro a out f h1 h2 hf _
   obtain ⟨f,rfl⟩:∃g,f=g+1:=⟨f - 1,by omega⟩
   have ea:a=d.length:=by omega
   subst ea
   show B (rounds B f) _=_
   rw [←hB,List.drop_length,x9,Kq]
   simp
  | succ m ih=>
   intro a out f h1 h2 hf ho
   obtain ⟨f,rfl⟩:∃g,f=g+1:=⟨f - 1,by omega⟩
   show B (rounds B f) _=_
   rw [←hB]
   simp only
   by_cases ha:a=d.length
   ·subst ha
    rw [List.drop_length,x9,Kq]
    simp
   ·rw [if_pos (by rw [decide_eq_true_eq]; omega),if_pos ⟨by omega,by omega⟩,Int.toNat_natCast,Qb (zF h a) (by unfold big; rw [List.length_drop]; omega) hn,x9]
    simp only [Option.bind_some]
    unfold aag
    cases hr:xM R8 (d.drop a) with
    | none=>simp
    | some o=>
     have hle:=(E9 hr).2.length_le
     rw [List.length_drop] at hle
     have hl:=vK o
     simp only
     rw [if_neg (by decide),if_pos (by rw [List.length_singleton]; omega),wrap_i64 (by omega) (by omega),hB,show (a:Int)+((fK o).length:Int)=((a+(fK o).length:Nat):Int) by omega]
     rw [ih (a+(fK o).length) _ f (by omega) (by omega) (by omega) (by simp only [List.length_append,List.length_singleton]; omega)]
     rw [List.drop_drop,List.append_assoc,List.singleton_append,Nat.add_assoc]
 have:=key d.length 0 [] n (by omega) (by omega) (by omega) (Nat.zero_le _)
 unfold jP
 simpa using this
theorem L6 {n:Nat} {d:List Int} (h:rP d) (hb:d.length≤big) (hn:big<n):oW n d=some ((jP d).1,((jP d).2:Int),()):=by
 have hb':d.length≤1048576:=hb
 have hn':=hn
 unfold big at hn'
 unfold oW
 generalize hB:(fun (L1:List Int×Int×List OpC×Unit→Option (List OpC×Int×Unit)) v1=>_)=B
 have key:∀(m a:Nat) (out:List OpC) (f:Nat),d.length - a≤m→a≤d.length→m<f→out.length≤a→rounds B f (d,(a:Int),out,())=some (out++(x9 R8 (m+1) (d.drop a)).1,((a+(x9 R8 (m+1) (d.drop a)).2:Nat):Int),()):=by
  intro m
  induction m with
  | zero=>
   intro a out f h1 h2 hf _
   obtain ⟨f,rfl⟩:∃g,f=g+1:=⟨f - 1,by omega⟩
   show B (rounds B f) _=_
   rw [←hB]
   simp only
   rw [if_pos ⟨by omega,by omega⟩,Int.toNat_natCast,GX (zF h a) (by unfold big; rw [List.length_drop]; omega) hn,x9]
   have ea:d.drop a=[]:=List.drop_eq_nil_of_le (by omega)
   rw [ea]
   simp only [MK,Kq,Option.bind_some]
   simp
  | succ m ih=>
   intro a out f h1 h2 hf ho
   obtain ⟨f,rfl⟩:∃g,f=g+1:=⟨f - 1,by omega⟩
   show B (rounds B f) _=_
   rw [←hB]
   simp only
   rw [if_pos ⟨by omega,by omega⟩,Int.toNat_natCast,GX (zF h a) (by unfold big; rw [List.length_drop]; omega) hn,x9]
   simp only [Option.bind_some]
   unfold MK
   cases hr:xM R8 (d.drop a) with
   | none=>simp
   | some o=>
    have hle:=(E9 hr).2.length_le
    rw [List.length_drop] at hle
    have hl:=vK o
    simp only
    rw [if_neg (by rw [decide_eq_true_eq]; omega),if_pos (by rw [List.length_singleton]; omega),wrap_i64 (by omega) (by omega),hB,show (a:Int)+((fK o).length:Int)=((a+(fK o).length:Nat):Int) by omega]
    rw [ih (a+(fK o).length) _ f (by omega) (by omega) (by omega) (by simp only [List.length_append,List.length_singleton]; omega)]
    rw [List.drop_drop,List.append_assoc,List.singleton_append,Nat.add_assoc]
 have:=key d.length 0 [] n (by omega) (by omega) (by omega) (Nat.zero_le _)
 unfold jP
 simpa using this
end Go.Proofs.YtailcbngagacaabGreat.IK
