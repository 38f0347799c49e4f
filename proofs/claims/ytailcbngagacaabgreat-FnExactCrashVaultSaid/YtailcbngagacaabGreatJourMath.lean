/- Journals: both sides read the same ops. -/
import Derived.Test.YtailcbngagacaabGreatOwF
import Derived.Test.YtailcbngagacaabGreatLoopLib
import Derived.Test.YtailcbngagacaabGreatPackLib
import Derived.Test.YtailcbngagacaabGreatStoreMath
import Derived.Test.YtailcbngagacaabGreatOpsMath
import Derived.Test.YtailcbngagacaabGreatGoodMath
import Derived.Test.YtailcbngagacaabGreatCodecMath
import Derived.Test.YtailcbngagacaabGreatReadMath
import Derived.Test.YtailcbngagacaabGreatReadSMath
import Derived.Test.YtailcbngagacaabGreatCrashF
set_option linter.unusedSectionVars false
set_option linter.unusedVariables false
set_option linter.unusedSimpArgs false
namespace Go.Proofs.YtailcbngagacaabGreat.II
open Go Go.Proofs.YtailcbngagacaabGreat.Ow Go.Proofs.YtailcbngagacaabGreat.rq Go.Proofs.YtailcbngagacaabGreat.om Go.Proofs.YtailcbngagacaabGreat.Ab Go.Proofs.YtailcbngagacaabGreat.jl Go.Proofs.YtailcbngagacaabGreat.mQ Go.Proofs.YtailcbngagacaabGreat.y8 Go.Proofs.YtailcbngagacaabGreat.rE Go.Proofs.YtailcbngagacaabGreat.Ep Go.Proofs.YtailcbngagacaabGreat.FO
noncomputable def Z8 (d:List Int):Int×Int×OpC×Unit:=match xJ R8 d with
 | none=>(5,0,zO,())
 | some o=>(0,((fK o).length:Int),o,())
theorem P6 {n:Nat} {d:List Int} (h:rO d) (hb:d.length≤big) (hn:big<n):uS n d=some (Z8 d,()):=by
 have hb':d.length≤1048576:=hb
 have g0:=xz h 0
 have g1:=xz h 1
 unfold uS
 rw [show (0:Int).toNat=0 from rfl,show (1:Int).toNat=1 from rfl]
 rw [wrap_i64 (x:=d.getD 0 0) (by omega) (by omega),wrap_i64 (x:=d.getD 1 0) (by omega) (by omega),wrap_i64 (x:=d.getD 0 0 * 256) (by omega) (by omega),wrap_i64 (x:=d.getD 0 0 * 256+d.getD 1 0) (by omega) (by omega)]
 by_cases hx:∃o,Is R8 d o
 ·obtain ⟨o,ho⟩:=hx
  obtain ⟨q1,q2,q3⟩:=JV ho.2
  have hl:=vJ o
  have hlb:=Ce o
  have hle:=ho.2.length_le
  have hok:okO o∧rO o.2.2.2.2.2.2.2.1:=by
   have:=Kk (D:=d.take (fK o).length) (d:=(d.take (fK o).length).drop 2) (zA h _) (List.drop_suffix 2 _)
   rw [q3,zH,DW] at this
   exact this
  unfold Z8
  rw [Mq ho,q2,Int.toNat_natCast,q3]
  rw [if_neg (by rw [decide_eq_true_eq]; omega),if_pos (show aI 0 d.length from ⟨by omega,by omega⟩),if_pos (show aI 1 d.length from ⟨by omega,by omega⟩),if_neg (by rw [decide_eq_true_eq]; omega),if_neg (by rw [decide_eq_true_eq]; omega),if_pos ⟨by omega,by omega⟩]
  have hB:rO (fK o):=by rw [←q3]; exact zA h _
  rw [Mr hB (by unfold big; omega) (by omega) hn,zH,DW]
  simp only [Option.bind_some]
  rw [DC hok.1 hn]
  simp only [Option.bind_some]
  rw [if_neg (by rw [show iW o=0 from ho.1]; decide),Mk (Z4 ho.1 hok.2) hn]
  simp only [Option.bind_some]
  rw [if_pos ⟨by omega,by omega⟩,if_neg (by simp)]
 ·unfold Z8
  rw [Gg hx]
  by_cases c1:(d.length:Int)<2
  ·rw [if_pos (by rw [decide_eq_true_eq]; exact c1)]
  rw [if_neg (by rw [decide_eq_true_eq]; exact c1),if_pos (show aI 0 d.length from ⟨by omega,by omega⟩),if_pos (show aI 1 d.length from ⟨by omega,by omega⟩)]
  generalize hM:d.getD 0 0 * 256+d.getD 1 0=M at *
  by_cases c2:M<2
  ·rw [if_pos (by rw [decide_eq_true_eq]; exact c2)]
  rw [if_neg (by rw [decide_eq_true_eq]; exact c2)]
  by_cases c3:M>(d.length:Int)
  ·rw [if_pos (by rw [decide_eq_true_eq]; exact c3)]
  rw [if_neg (by rw [decide_eq_true_eq]; exact c3),if_pos ⟨by omega,by omega⟩]
  have hB:rO (d.take M.toNat):=zA h _
  have hok:=Kk (D:=d.take M.toNat) (d:=(d.take M.toNat).drop 2) hB (List.drop_suffix 2 _)
  rw [Mr hB (by unfold big; rw [List.length_take]; omega) (by rw [List.length_take]; omega) hn]
  simp only [Option.bind_some]
  generalize (EX ((d.take M.toNat).drop 2)).1=o at *
  rw [DC hok.1 hn]
  simp only [Option.bind_some]
  by_cases c4:iW o=0
  ·rw [if_neg (by simp [c4]),Mk (Z4 c4 hok.2) hn]
   simp only [Option.bind_some]
   rw [if_pos ⟨by omega,by omega⟩]
   by_cases c5:fK o=d.take M.toNat
   ·refine absurd ⟨o,c4, ?_⟩ hx
    rw [c5]; exact List.take_prefix _ _
   ·rw [if_pos (by simp [c5])]
  ·rw [if_pos (by simp [c4])]
noncomputable def jP (d:List Int):List OpC×Nat:=xX R8 (d.length+1) d
theorem Km:xJ R8 []=none:=by
 apply Gg
 rintro ⟨o,_,h⟩
 have:=h.length_le
 rw [vJ,Ce] at this
 simp at this
theorem EJ (d:List Int):(∀o∈(jP d).1,iW o=0)∧(jP d).2≤d.length∧13 * (jP d).1.length≤d.length:=
 ⟨fun o ho=>JW (R:=R8) o ho,Tv⟩
theorem U3 {k:Nat}:∀{d:List Int},rO d→∀o∈(xX R8 k d).1,okO o∧Qm o:=by
 induction k with
 | zero=>intro d _ o h; simp [xX] at h
 | succ k ih=>
  intro d hd o h
  rw [xX] at h
  cases hr:xJ R8 d with
  | none=>rw [hr] at h; simp at h
  | some q=>
   rw [hr] at h
   have hq:=EY hr
   have h3:=(JV hq.2).2.2
   have hok:=Kk (D:=d.take (fK q).length) (d:=(d.take (fK q).length).drop 2) (zA hd _) (List.drop_suffix 2 _)
   rw [h3,zH,DW] at hok
   rcases List.mem_cons.1 h with rfl | h
   ·exact ⟨hok.1,Z4 hq.1 hok.2⟩
   ·exact ih (zy hd _) o h
theorem aaS {d:List Int} (h:rO d):∀o∈(jP d).1,okO o∧Qm o:=U3 h
theorem LY {n:Nat} {d:List Int} (h:rO d) (hb:d.length≤big) (hn:big<n):lI n d=some ((jP d).1,((jP d).2:Int),()):=by
 have hb':d.length≤1048576:=hb
 have hn':=hn
 unfold big at hn'
 unfold lI
 generalize hB:(fun (L1:List Int×Int×List OpC×Unit→Option (List OpC×Int×Unit)) v1=>_)=B
 have key:∀(m a:Nat) (out:List OpC) (f:Nat),d.length - a≤m→a≤d.length→m<f→out.length≤a→rounds B f (d,(a:Int),out,())=some (out++(xX R8 (m+1) (d.drop a)).1,((a+(xX R8 (m+1) (d.drop a)).2:Nat):Int),()):=by
  intro m
  induction m with
  | zero=>
   intro a out f h1 h2 hf _
   obtain ⟨f,rfl⟩:∃g,f=g+1:=⟨f - 1,by omega⟩
   have ea:a=d.length:=by omega
   subst ea
   show B (rounds B f) _=_
   rw [←hB,List.drop_length,xX,Km]
   simp
  | succ m ih=>
   intro a out f h1 h2 hf ho
   obtain ⟨f,rfl⟩:∃g,f=g+1:=⟨f - 1,by omega⟩
   show B (rounds B f) _=_
   rw [←hB]
   simp only
   by_cases ha:a=d.length
   ·subst ha
    rw [List.drop_length,xX,Km]
    simp
   ·rw [if_pos (by rw [decide_eq_true_eq]; omega),if_pos ⟨by omega,by omega⟩,Int.toNat_natCast,P6 (zy h a) (by unfold big; rw [List.length_drop]; omega) hn,xX]
    simp only [Option.bind_some]
    unfold Z8
    cases hr:xJ R8 (d.drop a) with
    | none=>simp
    | some o=>
     have hle:=(EY hr).2.length_le
     rw [List.length_drop] at hle
     have hl:=vJ o
     simp only
     rw [if_neg (by decide),if_pos (by rw [List.length_singleton]; omega),wrap_i64 (by omega) (by omega),hB,show (a:Int)+((fK o).length:Int)=((a+(fK o).length:Nat):Int) by omega]
     rw [ih (a+(fK o).length) _ f (by omega) (by omega) (by omega) (by simp only [List.length_append,List.length_singleton]; omega)]
     rw [List.drop_drop,List.append_assoc,List.singleton_append,Nat.add_assoc]
 have:=key d.length 0 [] n (by omega) (by omega) (by omega) (Nat.zero_le _)
 unfold jP
 simpa using this
theorem LX {n:Nat} {d:List Int} (h:rO d) (hb:d.length≤big) (hn:big<n):oW n d=some ((jP d).1,((jP d).2:Int),()):=by
 have hb':d.length≤1048576:=hb
 have hn':=hn
 unfold big at hn'
 unfold oW
 generalize hB:(fun (L1:List Int×Int×List OpC×Unit→Option (List OpC×Int×Unit)) v1=>_)=B
 have key:∀(m a:Nat) (out:List OpC) (f:Nat),d.length - a≤m→a≤d.length→m<f→out.length≤a→rounds B f (d,(a:Int),out,())=some (out++(xX R8 (m+1) (d.drop a)).1,((a+(xX R8 (m+1) (d.drop a)).2:Nat):Int),()):=by
  intro m
  induction m with
  | zero=>
   intro a out f h1 h2 hf _
   obtain ⟨f,rfl⟩:∃g,f=g+1:=⟨f - 1,by omega⟩
   show B (rounds B f) _=_
   rw [←hB]
   simp only
   rw [if_pos ⟨by omega,by omega⟩,Int.toNat_natCast,GU (zy h a) (by unfold big; rw [List.length_drop]; omega) hn,xX]
   have ea:d.drop a=[]:=List.drop_eq_nil_of_le (by omega)
   rw [ea]
   simp only [MH,Km,Option.bind_some]
   simp
  | succ m ih=>
   intro a out f h1 h2 hf ho
   obtain ⟨f,rfl⟩:∃g,f=g+1:=⟨f - 1,by omega⟩
   show B (rounds B f) _=_
   rw [←hB]
   simp only
   rw [if_pos ⟨by omega,by omega⟩,Int.toNat_natCast,GU (zy h a) (by unfold big; rw [List.length_drop]; omega) hn,xX]
   simp only [Option.bind_some]
   unfold MH
   cases hr:xJ R8 (d.drop a) with
   | none=>simp
   | some o=>
    have hle:=(EY hr).2.length_le
    rw [List.length_drop] at hle
    have hl:=vJ o
    simp only
    rw [if_neg (by rw [decide_eq_true_eq]; omega),if_pos (by rw [List.length_singleton]; omega),wrap_i64 (by omega) (by omega),hB,show (a:Int)+((fK o).length:Int)=((a+(fK o).length:Nat):Int) by omega]
    rw [ih (a+(fK o).length) _ f (by omega) (by omega) (by omega) (by simp only [List.length_append,List.length_singleton]; omega)]
    rw [List.drop_drop,List.append_assoc,List.singleton_append,Nat.add_assoc]
 have:=key d.length 0 [] n (by omega) (by omega) (by omega) (Nat.zero_le _)
 unfold jP
 simpa using this
end Go.Proofs.YtailcbngagacaabGreat.II
