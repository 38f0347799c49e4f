/- Journals: both sides read the same ops. -/
import Derived.Test.YtailcbngagacaaaGreatOwF
import Derived.Test.YtailcbngagacaaaGreatLoopLib
import Derived.Test.YtailcbngagacaaaGreatPackLib
import Derived.Test.YtailcbngagacaaaGreatStoreMath
import Derived.Test.YtailcbngagacaaaGreatOpsMath
import Derived.Test.YtailcbngagacaaaGreatGoodMath
import Derived.Test.YtailcbngagacaaaGreatCodecMath
import Derived.Test.YtailcbngagacaaaGreatReadMath
import Derived.Test.YtailcbngagacaaaGreatReadSMath
import Derived.Test.YtailcbngagacaaaGreatWfF
set_option linter.unusedSectionVars false
set_option linter.unusedVariables false
set_option linter.unusedSimpArgs false
namespace Go.Proofs.YtailcbngagacaaaGreat.M3
open Go Go.Proofs.YtailcbngagacaaaGreat.Ow Go.Proofs.YtailcbngagacaaaGreat.UZ Go.Proofs.YtailcbngagacaaaGreat.tV Go.Proofs.YtailcbngagacaaaGreat.Bu Go.Proofs.YtailcbngagacaaaGreat.oz Go.Proofs.YtailcbngagacaaaGreat.pK Go.Proofs.YtailcbngagacaaaGreat.x9 Go.Proofs.YtailcbngagacaaaGreat.u7 Go.Proofs.YtailcbngagacaaaGreat.Df Go.Proofs.YtailcbngagacaaaGreat.Eo
noncomputable def YU (d:List Int):Int×Int×OpC×Unit:=match wG R8 d with
 | none=>(5,0,zO,())
 | some o=>(0,((fF o).length:Int),o,())
theorem OA {n:Nat} {d:List Int} (h:qA d) (hb:d.length≤big) (hn:big<n):tH n d=some (YU d,()):=by
 have hb':d.length≤1048576:=hb
 have g0:=wm h 0
 have g1:=wm h 1
 unfold tH
 rw [show (0:Int).toNat=0 from rfl,show (1:Int).toNat=1 from rfl]
 rw [wrap_i64 (x:=d.getD 0 0) (by omega) (by omega),wrap_i64 (x:=d.getD 1 0) (by omega) (by omega),wrap_i64 (x:=d.getD 0 0 * 256) (by omega) (by omega),wrap_i64 (x:=d.getD 0 0 * 256+d.getD 1 0) (by omega) (by omega)]
 by_cases hx:∃o,Is R8 d o
 ·obtain ⟨o,ho⟩:=hx
  obtain ⟨q1,q2,q3⟩:=IP ho.2
  have hl:=uA o
  have hlb:=AY o
  have hle:=ho.2.length_le
  have hok:okO o∧qA o.2.2.2.2.2.2.2.1:=by
   have:=Je (D:=d.take (fF o).length) (d:=(d.take (fF o).length).drop 2) (yA h _) (List.drop_suffix 2 _)
   rw [q3,yF,CB] at this
   exact this
  unfold YU
  rw [KU ho,q2,Int.toNat_natCast,q3]
  rw [if_neg (by rw [decide_eq_true_eq]; omega),if_pos (show aM 0 d.length from ⟨by omega,by omega⟩),if_pos (show aM 1 d.length from ⟨by omega,by omega⟩),if_neg (by rw [decide_eq_true_eq]; omega),if_neg (by rw [decide_eq_true_eq]; omega),if_pos ⟨by omega,by omega⟩]
  have hB:qA (fF o):=by rw [←q3]; exact yA h _
  rw [KV hB (by unfold big; omega) (by omega) hn,yF,CB]
  simp only [Option.bind_some]
  rw [Cm hok.1 hn]
  simp only [Option.bind_some]
  rw [if_neg (by rw [show iL o=0 from ho.1]; decide),KO (YP ho.1 hok.2) hn]
  simp only [Option.bind_some]
  rw [if_pos ⟨by omega,by omega⟩,if_neg (by simp)]
 ·unfold YU
  rw [EL hx]
  by_cases c1:(d.length:Int)<2
  ·rw [if_pos (by rw [decide_eq_true_eq]; exact c1)]
  rw [if_neg (by rw [decide_eq_true_eq]; exact c1),if_pos (show aM 0 d.length from ⟨by omega,by omega⟩),if_pos (show aM 1 d.length from ⟨by omega,by omega⟩)]
  generalize hM:d.getD 0 0 * 256+d.getD 1 0=M at *
  by_cases c2:M<2
  ·rw [if_pos (by rw [decide_eq_true_eq]; exact c2)]
  rw [if_neg (by rw [decide_eq_true_eq]; exact c2)]
  by_cases c3:M>(d.length:Int)
  ·rw [if_pos (by rw [decide_eq_true_eq]; exact c3)]
  rw [if_neg (by rw [decide_eq_true_eq]; exact c3),if_pos ⟨by omega,by omega⟩]
  have hB:qA (d.take M.toNat):=yA h _
  have hok:=Je (D:=d.take M.toNat) (d:=(d.take M.toNat).drop 2) hB (List.drop_suffix 2 _)
  rw [KV hB (by unfold big; rw [List.length_take]; omega) (by rw [List.length_take]; omega) hn]
  simp only [Option.bind_some]
  generalize (DK ((d.take M.toNat).drop 2)).1=o at *
  rw [Cm hok.1 hn]
  simp only [Option.bind_some]
  by_cases c4:iL o=0
  ·rw [if_neg (by simp [c4]),KO (YP c4 hok.2) hn]
   simp only [Option.bind_some]
   rw [if_pos ⟨by omega,by omega⟩]
   by_cases c5:fF o=d.take M.toNat
   ·refine absurd ⟨o,c4, ?_⟩ hx
    rw [c5]; exact List.take_prefix _ _
   ·rw [if_pos (by simp [c5])]
  ·rw [if_pos (by simp [c4])]
noncomputable def jP (d:List Int):List OpC×Nat:=wU R8 (d.length+1) d
theorem Jg:wG R8 []=none:=by
 apply EL
 rintro ⟨o,_,h⟩
 have:=h.length_le
 rw [uA,AY] at this
 simp at this
theorem Dw (d:List Int):(∀o∈(jP d).1,iL o=0)∧(jP d).2≤d.length∧13 * (jP d).1.length≤d.length:=
 ⟨fun o ho=>IQ (R:=R8) o ho,Rs⟩
theorem Ty {k:Nat}:∀{d:List Int},qA d→∀o∈(wU R8 k d).1,okO o∧OV o:=by
 induction k with
 | zero=>intro d _ o h; simp [wU] at h
 | succ k ih=>
  intro d hd o h
  rw [wU] at h
  cases hr:wG R8 d with
  | none=>rw [hr] at h; simp at h
  | some q=>
   rw [hr] at h
   have hq:=DL hr
   have h3:=(IP hq.2).2.2
   have hok:=Je (D:=d.take (fF q).length) (d:=(d.take (fF q).length).drop 2) (yA hd _) (List.drop_suffix 2 _)
   rw [h3,yF,CB] at hok
   rcases List.mem_cons.1 h with rfl | h
   ·exact ⟨hok.1,YP hq.1 hok.2⟩
   ·exact ih (yz hd _) o h
theorem ZH {d:List Int} (h:qA d):∀o∈(jP d).1,okO o∧OV o:=Ty h
theorem KE {n:Nat} {d:List Int} (h:qA d) (hb:d.length≤big) (hn:big<n):kF n d=some ((jP d).1,((jP d).2:Int),()):=by
 have hb':d.length≤1048576:=hb
 have hn':=hn
 unfold big at hn'
 unfold kF
 generalize hB:(fun (L1:List Int×Int×List OpC×Unit→Option (List OpC×Int×Unit)) v1=>_)=B
 have key:∀(m a:Nat) (out:List OpC) (f:Nat),d.length - a≤m→a≤d.length→m<f→out.length≤a→rounds B f (d,(a:Int),out,())=some (out++(wU R8 (m+1) (d.drop a)).1,((a+(wU R8 (m+1) (d.drop a)).2:Nat):Int),()):=by
  intro m
  induction m with
  | zero=>
   intro a out f h1 h2 hf _
   obtain ⟨f,rfl⟩:∃g,f=g+1:=⟨f - 1,by omega⟩
   have ea:a=d.length:=by omega
   subst ea
   show B (rounds B f) _=_
   rw [←hB,List.drop_length,wU,Jg]
   simp
  | succ m ih=>
   intro a out f h1 h2 hf ho
   obtain ⟨f,rfl⟩:∃g,f=g+1:=⟨f - 1,by omega⟩
   show B (rounds B f) _=_
   rw [←hB]
   simp only
   by_cases ha:a=d.length
   ·subst ha
    rw [List.drop_length,wU,Jg]
    simp
   ·rw [if_pos (by rw [decide_eq_true_eq]; omega),if_pos ⟨by omega,by omega⟩,Int.toNat_natCast,OA (yz h a) (by unfold big; rw [List.length_drop]; omega) hn,wU]
    simp only [Option.bind_some]
    unfold YU
    cases hr:wG R8 (d.drop a) with
    | none=>simp
    | some o=>
     have hle:=(DL hr).2.length_le
     rw [List.length_drop] at hle
     have hl:=uA o
     simp only
     rw [if_neg (by decide),if_pos (by rw [List.length_singleton]; omega),wrap_i64 (by omega) (by omega),hB,show (a:Int)+((fF o).length:Int)=((a+(fF o).length:Nat):Int) by omega]
     rw [ih (a+(fF o).length) _ f (by omega) (by omega) (by omega) (by simp only [List.length_append,List.length_singleton]; omega)]
     rw [List.drop_drop,List.append_assoc,List.singleton_append,Nat.add_assoc]
 have:=key d.length 0 [] n (by omega) (by omega) (by omega) (Nat.zero_le _)
 unfold jP
 simpa using this
theorem KD {n:Nat} {d:List Int} (h:qA d) (hb:d.length≤big) (hn:big<n):nM n d=some ((jP d).1,((jP d).2:Int),()):=by
 have hb':d.length≤1048576:=hb
 have hn':=hn
 unfold big at hn'
 unfold nM
 generalize hB:(fun (L1:List Int×Int×List OpC×Unit→Option (List OpC×Int×Unit)) v1=>_)=B
 have key:∀(m a:Nat) (out:List OpC) (f:Nat),d.length - a≤m→a≤d.length→m<f→out.length≤a→rounds B f (d,(a:Int),out,())=some (out++(wU R8 (m+1) (d.drop a)).1,((a+(wU R8 (m+1) (d.drop a)).2:Nat):Int),()):=by
  intro m
  induction m with
  | zero=>
   intro a out f h1 h2 hf _
   obtain ⟨f,rfl⟩:∃g,f=g+1:=⟨f - 1,by omega⟩
   show B (rounds B f) _=_
   rw [←hB]
   simp only
   rw [if_pos ⟨by omega,by omega⟩,Int.toNat_natCast,Fx (yz h a) (by unfold big; rw [List.length_drop]; omega) hn,wU]
   have ea:d.drop a=[]:=List.drop_eq_nil_of_le (by omega)
   rw [ea]
   simp only [La,Jg,Option.bind_some]
   simp
  | succ m ih=>
   intro a out f h1 h2 hf ho
   obtain ⟨f,rfl⟩:∃g,f=g+1:=⟨f - 1,by omega⟩
   show B (rounds B f) _=_
   rw [←hB]
   simp only
   rw [if_pos ⟨by omega,by omega⟩,Int.toNat_natCast,Fx (yz h a) (by unfold big; rw [List.length_drop]; omega) hn,wU]
   simp only [Option.bind_some]
   unfold La
   cases hr:wG R8 (d.drop a) with
   | none=>simp
   | some o=>
    have hle:=(DL hr).2.length_le
    rw [List.length_drop] at hle
    have hl:=uA o
    simp only
    rw [if_neg (by rw [decide_eq_true_eq]; omega),if_pos (by rw [List.length_singleton]; omega),wrap_i64 (by omega) (by omega),hB,show (a:Int)+((fF o).length:Int)=((a+(fF o).length:Nat):Int) by omega]
    rw [ih (a+(fF o).length) _ f (by omega) (by omega) (by omega) (by simp only [List.length_append,List.length_singleton]; omega)]
    rw [List.drop_drop,List.append_assoc,List.singleton_append,Nat.add_assoc]
 have:=key d.length 0 [] n (by omega) (by omega) (by omega) (Nat.zero_le _)
 unfold jP
 simpa using this
end Go.Proofs.YtailcbngagacaaaGreat.M3
