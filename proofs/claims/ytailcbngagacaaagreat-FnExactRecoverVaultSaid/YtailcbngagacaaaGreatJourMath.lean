/- Journals: both sides read the same ops. -/
import Derived.Test.YtailcbngagacaaaGreatOwF
import Derived.Test.YtailcbngagacaaaGreatLoopLib
import Derived.Test.YtailcbngagacaaaGreatPackLib
import Derived.Test.YtailcbngagacaaaGreatStoreMath
import Derived.Test.YtailcbngagacaaaGreatOpsMath
import Derived.Test.YtailcbngagacaaaGreatGoodMath
import Derived.Test.YtailcbngagacaaaGreatCodecMath
import Derived.Test.YtailcbngagacaaaGreatReadMath
import Derived.Test.YtailcbngagacaaaGreatReadSMath
import Derived.Test.YtailcbngagacaaaGreatRecF
set_option linter.unusedSectionVars false
set_option linter.unusedVariables false
set_option linter.unusedSimpArgs false
namespace Go.Proofs.YtailcbngagacaaaGreat.Iz
open Go Go.Proofs.YtailcbngagacaaaGreat.Ow Go.Proofs.YtailcbngagacaaaGreat.FD Go.Proofs.YtailcbngagacaaaGreat.qM Go.Proofs.YtailcbngagacaaaGreat.zU Go.Proofs.YtailcbngagacaaaGreat.lN Go.Proofs.YtailcbngagacaaaGreat.og Go.Proofs.YtailcbngagacaaaGreat.yT Go.Proofs.YtailcbngagacaaaGreat.tY Go.Proofs.YtailcbngagacaaaGreat.Ee Go.Proofs.YtailcbngagacaaaGreat.FC
noncomputable def ZV (d:List Int):Int×Int×OpC×Unit:=match xD R8 d with
 | none=>(5,0,zO,())
 | some o=>(0,((fI o).length:Int),o,())
theorem PS {n:Nat} {d:List Int} (h:rH d) (hb:d.length≤big) (hn:big<n):uQ n d=some (ZV d,()):=by
 have hb':d.length≤1048576:=hb
 have g0:=xq h 0
 have g1:=xq h 1
 unfold uQ
 rw [show (0:Int).toNat=0 from rfl,show (1:Int).toNat=1 from rfl]
 rw [wrap_i64 (x:=d.getD 0 0) (by omega) (by omega),wrap_i64 (x:=d.getD 1 0) (by omega) (by omega),wrap_i64 (x:=d.getD 0 0 * 256) (by omega) (by omega),wrap_i64 (x:=d.getD 0 0 * 256+d.getD 1 0) (by omega) (by omega)]
 by_cases hx:∃o,Is R8 d o
 ·obtain ⟨o,ho⟩:=hx
  obtain ⟨q1,q2,q3⟩:=JO ho.2
  have hl:=vG o
  have hlb:=BS o
  have hle:=ho.2.length_le
  have hok:okO o∧rH o.2.2.2.2.2.2.2.1:=by
   have:=Kc (D:=d.take (fI o).length) (d:=(d.take (fI o).length).drop 2) (zm h _) (List.drop_suffix 2 _)
   rw [q3,zw,DI] at this
   exact this
  unfold ZV
  rw [Mf ho,q2,Int.toNat_natCast,q3]
  rw [if_neg (by rw [decide_eq_true_eq]; omega),if_pos (show aI 0 d.length from ⟨by omega,by omega⟩),if_pos (show aI 1 d.length from ⟨by omega,by omega⟩),if_neg (by rw [decide_eq_true_eq]; omega),if_neg (by rw [decide_eq_true_eq]; omega),if_pos ⟨by omega,by omega⟩]
  have hB:rH (fI o):=by rw [←q3]; exact zm h _
  rw [Mg hB (by unfold big; omega) (by omega) hn,zw,DI]
  simp only [Option.bind_some]
  rw [Dq hok.1 hn]
  simp only [Option.bind_some]
  rw [if_neg (by rw [show iR o=0 from ho.1]; decide),Ma (ZQ ho.1 hok.2) hn]
  simp only [Option.bind_some]
  rw [if_pos ⟨by omega,by omega⟩,if_neg (by simp)]
 ·unfold ZV
  rw [F9 hx]
  by_cases c1:(d.length:Int)<2
  ·rw [if_pos (by rw [decide_eq_true_eq]; exact c1)]
  rw [if_neg (by rw [decide_eq_true_eq]; exact c1),if_pos (show aI 0 d.length from ⟨by omega,by omega⟩),if_pos (show aI 1 d.length from ⟨by omega,by omega⟩)]
  generalize hM:d.getD 0 0 * 256+d.getD 1 0=M at *
  by_cases c2:M<2
  ·rw [if_pos (by rw [decide_eq_true_eq]; exact c2)]
  rw [if_neg (by rw [decide_eq_true_eq]; exact c2)]
  by_cases c3:M>(d.length:Int)
  ·rw [if_pos (by rw [decide_eq_true_eq]; exact c3)]
  rw [if_neg (by rw [decide_eq_true_eq]; exact c3),if_pos ⟨by omega,by omega⟩]
  have hB:rH (d.take M.toNat):=zm h _
  have hok:=Kc (D:=d.take M.toNat) (d:=(d.take M.toNat).drop 2) hB (List.drop_suffix 2 _)
  rw [Mg hB (by unfold big; rw [List.length_take]; omega) (by rw [List.length_take]; omega) hn]
  simp only [Option.bind_some]
  generalize (EL ((d.take M.toNat).drop 2)).1=o at *
  rw [Dq hok.1 hn]
  simp only [Option.bind_some]
  by_cases c4:iR o=0
  ·rw [if_neg (by simp [c4]),Ma (ZQ c4 hok.2) hn]
   simp only [Option.bind_some]
   rw [if_pos ⟨by omega,by omega⟩]
   by_cases c5:fI o=d.take M.toNat
   ·refine absurd ⟨o,c4, ?_⟩ hx
    rw [c5]; exact List.take_prefix _ _
   ·rw [if_pos (by simp [c5])]
  ·rw [if_pos (by simp [c4])]
noncomputable def jP (d:List Int):List OpC×Nat:=xR R8 (d.length+1) d
theorem Kg:xD R8 []=none:=by
 apply F9
 rintro ⟨o,_,h⟩
 have:=h.length_le
 rw [vG,BS] at this
 simp at this
theorem BO (d:List Int):(∀o∈(jP d).1,iR o=0)∧(jP d).2≤d.length∧13 * (jP d).1.length≤d.length:=
 ⟨fun o ho=>JP (R:=R8) o ho,SY⟩
theorem UQ {k:Nat}:∀{d:List Int},rH d→∀o∈(xR R8 k d).1,okO o∧Qd o:=by
 induction k with
 | zero=>intro d _ o h; simp [xR] at h
 | succ k ih=>
  intro d hd o h
  rw [xR] at h
  cases hr:xD R8 d with
  | none=>rw [hr] at h; simp at h
  | some q=>
   rw [hr] at h
   have hq:=EM hr
   have h3:=(JO hq.2).2.2
   have hok:=Kc (D:=d.take (fI q).length) (d:=(d.take (fI q).length).drop 2) (zm hd _) (List.drop_suffix 2 _)
   rw [h3,zw,DI] at hok
   rcases List.mem_cons.1 h with rfl | h
   ·exact ⟨hok.1,ZQ hq.1 hok.2⟩
   ·exact ih (zl hd _) o h
theorem XE {d:List Int} (h:rH d):∀o∈(jP d).1,okO o∧Qd o:=UQ h
theorem F4 {n:Nat} {d:List Int} (h:rH d) (hb:d.length≤big) (hn:big<n):je n d=some ((jP d).1,((jP d).2:Int),()):=by
 have hb':d.length≤1048576:=hb
 have hn':=hn
 unfold big at hn'
 unfold je
 generalize hB:(fun (L1:List Int×Int×List OpC×Unit→Option (List OpC×Int×Unit)) v1=>_)=B
 have key:∀(m a:Nat) (out:List OpC) (f:Nat),d.length - a≤m→a≤d.length→m<f→out.length≤a→rounds B f (d,(a:Int),out,())=some (out++(xR R8 (m+1) (d.drop a)).1,((a+(xR R8 (m+1) (d.drop a)).2:Nat):Int),()):=by
  intro m
  induction m with
  | zero=>
   intro a out f h1 h2 hf _
   obtain ⟨f,rfl⟩:∃g,f=g+1:=⟨f - 1,by omega⟩
   have ea:a=d.length:=by omega
   subst ea
   show B (rounds B f) _=_
   rw [←hB,List.drop_length,xR,Kg]
   simp
  | succ m ih=>
   intro a out f h1 h2 hf ho
   obtain ⟨f,rfl⟩:∃g,f=g+1:=⟨f - 1,by omega⟩
   show B (rounds B f) _=_
   rw [←hB]
   simp only
   by_cases ha:a=d.length
   ·subst ha
    rw [List.drop_length,xR,Kg]
    simp
   ·rw [if_pos (by rw [decide_eq_true_eq]; omega),if_pos ⟨by omega,by omega⟩,Int.toNat_natCast,PS (zl h a) (by unfold big; rw [List.length_drop]; omega) hn,xR]
    simp only [Option.bind_some]
    unfold ZV
    cases hr:xD R8 (d.drop a) with
    | none=>simp
    | some o=>
     have hle:=(EM hr).2.length_le
     rw [List.length_drop] at hle
     have hl:=vG o
     simp only
     rw [if_neg (by decide),if_pos (by rw [List.length_singleton]; omega),wrap_i64 (by omega) (by omega),hB,show (a:Int)+((fI o).length:Int)=((a+(fI o).length:Nat):Int) by omega]
     rw [ih (a+(fI o).length) _ f (by omega) (by omega) (by omega) (by simp only [List.length_append,List.length_singleton]; omega)]
     rw [List.drop_drop,List.append_assoc,List.singleton_append,Nat.add_assoc]
 have:=key d.length 0 [] n (by omega) (by omega) (by omega) (Nat.zero_le _)
 unfold jP
 simpa using this
theorem F3 {n:Nat} {d:List Int} (h:rH d) (hb:d.length≤big) (hn:big<n):kW n d=some ((jP d).1,((jP d).2:Int),()):=by
 have hb':d.length≤1048576:=hb
 have hn':=hn
 unfold big at hn'
 unfold kW
 generalize hB:(fun (L1:List Int×Int×List OpC×Unit→Option (List OpC×Int×Unit)) v1=>_)=B
 have key:∀(m a:Nat) (out:List OpC) (f:Nat),d.length - a≤m→a≤d.length→m<f→out.length≤a→rounds B f (d,(a:Int),out,())=some (out++(xR R8 (m+1) (d.drop a)).1,((a+(xR R8 (m+1) (d.drop a)).2:Nat):Int),()):=by
  intro m
  induction m with
  | zero=>
   intro a out f h1 h2 hf _
   obtain ⟨f,rfl⟩:∃g,f=g+1:=⟨f - 1,by omega⟩
   show B (rounds B f) _=_
   rw [←hB]
   simp only
   rw [if_pos ⟨by omega,by omega⟩,Int.toNat_natCast,GJ (zl h a) (by unfold big; rw [List.length_drop]; omega) hn,xR]
   have ea:d.drop a=[]:=List.drop_eq_nil_of_le (by omega)
   rw [ea]
   simp only [Mt,Kg,Option.bind_some]
   simp
  | succ m ih=>
   intro a out f h1 h2 hf ho
   obtain ⟨f,rfl⟩:∃g,f=g+1:=⟨f - 1,by omega⟩
   show B (rounds B f) _=_
   rw [←hB]
   simp only
   rw [if_pos ⟨by omega,by omega⟩,Int.toNat_natCast,GJ (zl h a) (by unfold big; rw [List.length_drop]; omega) hn,xR]
   simp only [Option.bind_some]
   unfold Mt
   cases hr:xD R8 (d.drop a) with
   | none=>simp
   | some o=>
    have hle:=(EM hr).2.length_le
    rw [List.length_drop] at hle
    have hl:=vG o
    simp only
    rw [if_neg (by rw [decide_eq_true_eq]; omega),if_pos (by rw [List.length_singleton]; omega),wrap_i64 (by omega) (by omega),hB,show (a:Int)+((fI o).length:Int)=((a+(fI o).length:Nat):Int) by omega]
    rw [ih (a+(fI o).length) _ f (by omega) (by omega) (by omega) (by simp only [List.length_append,List.length_singleton]; omega)]
    rw [List.drop_drop,List.append_assoc,List.singleton_append,Nat.add_assoc]
 have:=key d.length 0 [] n (by omega) (by omega) (by omega) (Nat.zero_le _)
 unfold jP
 simpa using this
end Go.Proofs.YtailcbngagacaaaGreat.Iz
