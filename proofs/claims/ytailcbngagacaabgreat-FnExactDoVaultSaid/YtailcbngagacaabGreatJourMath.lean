/- Journals: both sides read the same ops. -/
import Derived.Test.YtailcbngagacaabGreatOwF
import Derived.Test.YtailcbngagacaabGreatLoopLib
import Derived.Test.YtailcbngagacaabGreatPackLib
import Derived.Test.YtailcbngagacaabGreatStoreMath
import Derived.Test.YtailcbngagacaabGreatOpsMath
import Derived.Test.YtailcbngagacaabGreatGoodMath
import Derived.Test.YtailcbngagacaabGreatCodecMath
import Derived.Test.YtailcbngagacaabGreatReadMath
import Derived.Test.YtailcbngagacaabGreatReadSMath
import Derived.Test.YtailcbngagacaabGreatDoF
set_option linter.unusedSectionVars false
set_option linter.unusedVariables false
set_option linter.unusedSimpArgs false
namespace Go.Proofs.YtailcbngagacaabGreat.DT
open Go Go.Proofs.YtailcbngagacaabGreat.Ow Go.Proofs.YtailcbngagacaabGreat.Nr Go.Proofs.YtailcbngagacaabGreat.jO Go.Proofs.YtailcbngagacaabGreat.xh Go.Proofs.YtailcbngagacaabGreat.gp Go.Proofs.YtailcbngagacaabGreat.jc Go.Proofs.YtailcbngagacaabGreat.vR Go.Proofs.YtailcbngagacaabGreat.jV Go.Proofs.YtailcbngagacaabGreat.D5 Go.Proofs.YtailcbngagacaabGreat.FL
noncomputable def aaK (d:List Int):Int×Int×OpC×Unit:=match wM R8 d with
 | none=>(5,0,zO,())
 | some o=>(0,((eY o).length:Int),o,())
theorem QI {n:Nat} {d:List Int} (h:qc d) (hb:d.length≤big) (hn:big<n):tY n d=some (aaK d,()):=by
 have hb':d.length≤1048576:=hb
 have g0:=wm h 0
 have g1:=wm h 1
 unfold tY
 rw [show (0:Int).toNat=0 from rfl,show (1:Int).toNat=1 from rfl]
 rw [wrap_i64 (x:=d.getD 0 0) (by omega) (by omega),wrap_i64 (x:=d.getD 1 0) (by omega) (by omega),wrap_i64 (x:=d.getD 0 0 * 256) (by omega) (by omega),wrap_i64 (x:=d.getD 0 0 * 256+d.getD 1 0) (by omega) (by omega)]
 by_cases hx:∃o,Is R8 d o
 ·obtain ⟨o,ho⟩:=hx
  obtain ⟨q1,q2,q3⟩:=Kq ho.2
  have hl:=rY o
  have hlb:=Bg o
  have hle:=ho.2.length_le
  have hok:okO o∧qc o.2.2.2.2.2.2.2.1:=by
   have:=KP (D:=d.take (eY o).length) (d:=(d.take (eY o).length).drop 2) (yC h _) (List.drop_suffix 2 _)
   rw [q3,yI,Dj] at this
   exact this
  unfold aaK
  rw [M6 ho,q2,an7,q3]
  rw [if_neg (by rw [decide_eq_true_eq]; omega),if_pos (show aK 0 d.length from ⟨by omega,by omega⟩),if_pos (show aK 1 d.length from ⟨by omega,by omega⟩),if_neg (by rw [decide_eq_true_eq]; omega),if_neg (by rw [decide_eq_true_eq]; omega),if_pos ⟨by omega,by omega⟩]
  have hB:qc (eY o):=by rw [←q3]; exact yC h _
  rw [M7 hB (by unfold big; omega) (by omega) hn,yI,Dj]
  simp only [anY]
  rw [CV hok.1 hn]
  simp only [anY]
  rw [if_neg (by rw [show iK o=0 from ho.1]; decide),Gb (aaG ho.1 hok.2) hn]
  simp only [anY]
  rw [if_pos ⟨by omega,by omega⟩,if_neg (by simp)]
 ·unfold aaK
  rw [Gc hx]
  by_cases c1:(d.length:Int)<2
  ·rw [if_pos (by rw [decide_eq_true_eq]; exact c1)]
  rw [if_neg (by rw [decide_eq_true_eq]; exact c1),if_pos (show aK 0 d.length from ⟨by omega,by omega⟩),if_pos (show aK 1 d.length from ⟨by omega,by omega⟩)]
  generalize hM:d.getD 0 0 * 256+d.getD 1 0=M at *
  by_cases c2:M<2
  ·rw [if_pos (by rw [decide_eq_true_eq]; exact c2)]
  rw [if_neg (by rw [decide_eq_true_eq]; exact c2)]
  by_cases c3:M>(d.length:Int)
  ·rw [if_pos (by rw [decide_eq_true_eq]; exact c3)]
  rw [if_neg (by rw [decide_eq_true_eq]; exact c3),if_pos ⟨by omega,by omega⟩]
  have hB:qc (d.take M.toNat):=yC h _
  have hok:=KP (D:=d.take M.toNat) (d:=(d.take M.toNat).drop 2) hB (List.drop_suffix 2 _)
  rw [M7 hB (by unfold big; rw [List.length_take]; omega) (by rw [List.length_take]; omega) hn]
  simp only [anY]
  generalize (EJ ((d.take M.toNat).drop 2)).1=o at *
  rw [CV hok.1 hn]
  simp only [anY]
  by_cases c4:iK o=0
  ·rw [if_neg (by simp [c4]),Gb (aaG c4 hok.2) hn]
   simp only [anY]
   rw [if_pos ⟨by omega,by omega⟩]
   by_cases c5:eY o=d.take M.toNat
   ·refine absurd ⟨o,c4, ?_⟩ hx
    rw [c5]; exact List.take_prefix _ _
   ·rw [if_pos (by simp [c5])]
  ·rw [if_pos (by simp [c4])]
noncomputable def jP (d:List Int):List OpC×Nat:=wT R8 (d.length+1) d
theorem KS:wM R8 []=none:=by
 apply Gc
 rintro ⟨o,_,h⟩
 have:=h.length_le
 rw [rY,Bg] at this
 simp at this
theorem Ep (d:List Int):(∀o∈(jP d).1,iK o=0)∧(jP d).2≤d.length∧13 * (jP d).1.length≤d.length:=
 ⟨fun o ho=>Kr (R:=R8) o ho,Uf⟩
theorem VK {k:Nat}:∀{d:List Int},qc d→∀o∈(wT R8 k d).1,okO o∧Pb o:=by
 induction k with
 | zero=>intro d _ o h; simp [wT] at h
 | succ k ih=>
  intro d hd o h
  rw [wT] at h
  cases hr:wM R8 d with
  | none=>rw [hr] at h; simp at h
  | some q=>
   rw [hr] at h
   have hq:=EK hr
   have h3:=(Kq hq.2).2.2
   have hok:=KP (D:=d.take (eY q).length) (d:=(d.take (eY q).length).drop 2) (yC hd _) (List.drop_suffix 2 _)
   rw [h3,yI,Dj] at hok
   rcases an9.1 h with rfl | h
   ·exact ⟨hok.1,aaG hq.1 hok.2⟩
   ·exact ih (yB hd _) o h
theorem abE {d:List Int} (h:qc d):∀o∈(jP d).1,okO o∧Pb o:=VK h
theorem MN {n:Nat} {d:List Int} (h:qc d) (hb:d.length≤big) (hn:big<n):lI n d=some ((jP d).1,((jP d).2:Int),()):=by
 have hb':d.length≤1048576:=hb
 have hn':=hn
 unfold big at hn'
 unfold lI
 generalize hB:(fun (L1:List Int×Int×List OpC×Unit→Option (List OpC×Int×Unit)) v1=>_)=B
 have key:∀(m a:Nat) (out:List OpC) (f:Nat),d.length - a≤m→a≤d.length→m<f→out.length≤a→rounds B f (d,(a:Int),out,())=some (out++(wT R8 (m+1) (d.drop a)).1,((a+(wT R8 (m+1) (d.drop a)).2:Nat):Int),()):=by
  intro m
  induction m with
  | zero=>
   intro a out f h1 h2 hf _
   obtain ⟨f,rfl⟩:∃g,f=g+1:=⟨f - 1,by omega⟩
   have ea:a=d.length:=by omega
   subst ea
   show B (rounds B f) _=_
   rw [←hB,List.drop_length,wT,KS]
   simp
  | succ m ih=>
   intro a out f h1 h2 hf ho
   obtain ⟨f,rfl⟩:∃g,f=g+1:=⟨f - 1,by omega⟩
   show B (rounds B f) _=_
   rw [←hB]
   simp only
   by_cases ha:a=d.length
   ·subst ha
    rw [List.drop_length,wT,KS]
    simp
   ·rw [if_pos (by rw [decide_eq_true_eq]; omega),if_pos ⟨by omega,by omega⟩,an7,QI (yB h a) (by unfold big; rw [List.length_drop]; omega) hn,wT]
    simp only [anY]
    unfold aaK
    cases hr:wM R8 (d.drop a) with
    | none=>simp
    | some o=>
     have hle:=(EK hr).2.length_le
     rw [List.length_drop] at hle
     have hl:=rY o
     simp only
     rw [if_neg (by decide),if_pos (by rw [aoh]; omega),wrap_i64 (by omega) (by omega),hB,show (a:Int)+((eY o).length:Int)=((a+(eY o).length:Nat):Int) by omega]
     rw [ih (a+(eY o).length) _ f (by omega) (by omega) (by omega) (by simp only [an5,aoh]; omega)]
     rw [List.drop_drop,aoi,List.singleton_append,Nat.add_assoc]
 have:=key d.length 0 [] n (by omega) (by omega) (by omega) (aov _)
 unfold jP
 simpa using this
theorem MM {n:Nat} {d:List Int} (h:qc d) (hb:d.length≤big) (hn:big<n):oo n d=some ((jP d).1,((jP d).2:Int),()):=by
 have hb':d.length≤1048576:=hb
 have hn':=hn
 unfold big at hn'
 unfold oo
 generalize hB:(fun (L1:List Int×Int×List OpC×Unit→Option (List OpC×Int×Unit)) v1=>_)=B
 have key:∀(m a:Nat) (out:List OpC) (f:Nat),d.length - a≤m→a≤d.length→m<f→out.length≤a→rounds B f (d,(a:Int),out,())=some (out++(wT R8 (m+1) (d.drop a)).1,((a+(wT R8 (m+1) (d.drop a)).2:Nat):Int),()):=by
  intro m
  induction m with
  | zero=>
   intro a out f h1 h2 hf _
   obtain ⟨f,rfl⟩:∃g,f=g+1:=⟨f - 1,by omega⟩
   show B (rounds B f) _=_
   rw [←hB]
   simp only
   rw [if_pos ⟨by omega,by omega⟩,an7,G8 (yB h a) (by unfold big; rw [List.length_drop]; omega) hn,wT]
   have ea:d.drop a=[]:=List.drop_eq_nil_of_le (by omega)
   rw [ea]
   simp only [Nl,KS,anY]
   simp
  | succ m ih=>
   intro a out f h1 h2 hf ho
   obtain ⟨f,rfl⟩:∃g,f=g+1:=⟨f - 1,by omega⟩
   show B (rounds B f) _=_
   rw [←hB]
   simp only
   rw [if_pos ⟨by omega,by omega⟩,an7,G8 (yB h a) (by unfold big; rw [List.length_drop]; omega) hn,wT]
   simp only [anY]
   unfold Nl
   cases hr:wM R8 (d.drop a) with
   | none=>simp
   | some o=>
    have hle:=(EK hr).2.length_le
    rw [List.length_drop] at hle
    have hl:=rY o
    simp only
    rw [if_neg (by rw [decide_eq_true_eq]; omega),if_pos (by rw [aoh]; omega),wrap_i64 (by omega) (by omega),hB,show (a:Int)+((eY o).length:Int)=((a+(eY o).length:Nat):Int) by omega]
    rw [ih (a+(eY o).length) _ f (by omega) (by omega) (by omega) (by simp only [an5,aoh]; omega)]
    rw [List.drop_drop,aoi,List.singleton_append,Nat.add_assoc]
 have:=key d.length 0 [] n (by omega) (by omega) (by omega) (aov _)
 unfold jP
 simpa using this
end Go.Proofs.YtailcbngagacaabGreat.DT
