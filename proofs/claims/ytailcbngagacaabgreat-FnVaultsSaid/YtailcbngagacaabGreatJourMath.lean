/- Journals: both sides read the same ops. -/
import Derived.Test.YtailcbngagacaabGreatReadSMath
set_option linter.unusedVariables false
set_option linter.unusedSimpArgs false
namespace Go.Proofs.YtailcbngagacaabGreat.Bo
open Go Ow ni nM vo oQ mP xL uu H7 Mr
noncomputable def NW (d:List Int):Int×Int×OpC×Unit:=match qh R8 d with
 | none=>(5,0,zO,())
 | some o=>(0,((bU o).length:Int),o,())
theorem ani {n:Nat} {d:List Int} (h:dF d) (hb:d.length<=big) (hn:big<n):La n d=some (NW d,()):=by
 have hb':d.length<=1048576:=hb
 have g0:=Cy h 0
 have g1:=Cy h 1
 unfold La
 rw [show (0:Int).toNat=0 from rfl,show (1:Int).toNat=1 from rfl]
 rw [wrap_i64 (x:=d.getD 0 0) (by omega) (by omega),wrap_i64 (x:=d.getD 1 0) (by omega) (by omega),wrap_i64 (x:=d.getD 0 0 * 256) (by omega) (by omega),wrap_i64 (x:=d.getD 0 0 * 256+d.getD 1 0) (by omega) (by omega)]
 by_cases hx:∃o,Is R8 d o
 ·obtain ⟨o,ho⟩:=hx
  obtain ⟨q1,q2,q3⟩:=Fu ho.2
  have hl:=vV o
  have hlb:=Jn o
  have hle:=ho.2.length_le
  have hok:okO o/\dF o.2.2.2.2.2.2.2.1:=by
   have:=Uf (D:=d.take (bU o).length) (d:=(d.take (bU o).length).drop 2) (Cz h _) (P9 2 _)
   rw [q3,JF,Ug] at this
   exact this
  unfold NW
  rw [Ui ho,q2,eF,q3]
  rw [aA (by rw [dS]; omega),ak (show aN 0 d.length from ⟨by omega,by omega⟩),ak (show aN 1 d.length from ⟨by omega,by omega⟩),aA (by rw [dS]; omega),aA (by rw [dS]; omega),ak ⟨by omega,by omega⟩]
  have hB:dF (bU o):=by rw [<-q3]; exact Cz h _
  rw [abN hB (by unfold big; omega) (by omega) hn,JF,Ug]
  simp only [aJ]
  rw [Rl hok.1 hn]
  simp only [aJ]
  rw [aA (by rw [show iC o=0 from ho.1]; decide),NS (NM ho.1 hok.2) hn]
  simp only [aJ]
  rw [ak ⟨by omega,by omega⟩,aA (by simp)]
 ·unfold NW
  rw [Uh hx]
  by_cases c1:(d.length:Int)<2
  ·rw [ak (by rw [dS]; exact c1)]
  rw [aA (by rw [dS]; exact c1),ak (show aN 0 d.length from ⟨by omega,by omega⟩),ak (show aN 1 d.length from ⟨by omega,by omega⟩)]
  generalize hM:d.getD 0 0 * 256+d.getD 1 0=M at *
  by_cases c2:M<2
  ·rw [ak (by rw [dS]; exact c2)]
  rw [aA (by rw [dS]; exact c2)]
  by_cases c3:M>(d.length:Int)
  ·rw [ak (by rw [dS]; exact c3)]
  rw [aA (by rw [dS]; exact c3),ak ⟨by omega,by omega⟩]
  have hB:dF (d.take M.toNat):=Cz h _
  have hok:=Uf (D:=d.take M.toNat) (d:=(d.take M.toNat).drop 2) hB (P9 2 _)
  rw [abN hB (by unfold big; rw [pM]; omega) (by rw [pM]; omega) hn]
  simp only [aJ]
  generalize (yG ((d.take M.toNat).drop 2)).1=o at *
  rw [Rl hok.1 hn]
  simp only [aJ]
  by_cases c4:iC o=0
  ·rw [aA (by simp [c4]),NS (NM c4 hok.2) hn]
   simp only [aJ]
   rw [ak ⟨by omega,by omega⟩]
   by_cases c5:bU o=d.take M.toNat
   ·refine absurd ⟨o,c4, ?_⟩ hx
    rw [c5]; exact List.take_prefix _ _
   ·rw [ak (by simp [c5])]
  ·rw [ak (by simp [c4])]
noncomputable def jP (d:List Int):List OpC×Nat:=jJ R8 (d.length+1) d
theorem NU:qh R8 []=none:=by
 apply Uh
 rintro ⟨o,_,h⟩
 have:=h.length_le
 rw [vV,Jn] at this
 simp at this
theorem CB (d:List Int):(∀o∈(jP d).1,iC o=0)/\(jP d).2<=d.length/\13 * (jP d).1.length<=d.length:=
 ⟨fun o ho=>aam (R:=R8) o ho,aal⟩
theorem alW {k:Nat}:∀{d:List Int},dF d->∀o∈(jJ R8 k d).1,okO o/\ng o:=by
 induction k with
 | zero=>intro d _ o h; simp [jJ] at h
 | succ k ih=>
  intro d hd o h
  rw [jJ] at h
  cases hr:qh R8 d with
  | none=>rw [hr] at h; simp at h
  | some q=>
   rw [hr] at h
   have hq:=CU hr
   have h3:=(Fu hq.2).2.2
   have hok:=Uf (D:=d.take (bU q).length) (d:=(d.take (bU q).length).drop 2) (Cz hd _) (P9 2 _)
   rw [h3,JF,Ug] at hok
   rcases bT.1 h with rfl | h
   ·exact ⟨hok.1,NM hq.1 hok.2⟩
   ·exact ih (Fq hd _) o h
theorem aaj {d:List Int} (h:dF d):∀o∈(jP d).1,okO o/\ng o:=alW h
theorem aan {n:Nat} {d:List Int} (h:dF d) (hb:d.length<=big) (hn:big<n):GR n d=some ((jP d).1,((jP d).2:Int),()):=by
 have hb':d.length<=1048576:=hb
 have hn':=hn
 unfold big at hn'
 unfold GR
 generalize hB:(fun (L1:List Int×Int×List OpC×Unit->Option (List OpC×Int×Unit)) v1=>_)=B
 have key:∀(m a:Nat) (out:List OpC) (f:Nat),d.length - a<=m->a<=d.length->m<f->out.length<=a->rounds B f (d,(a:Int),out,())=some (out++(jJ R8 (m+1) (d.drop a)).1,((a+(jJ R8 (m+1) (d.drop a)).2:Nat):Int),()):=by
  intro m
  induction m with
  | zero=>
   intro a out f h1 h2 hf _
   obtain ⟨f,rfl⟩:∃g,f=g+1:=⟨f - 1,by omega⟩
   have ea:a=d.length:=by omega
   subst ea
   show B (rounds B f) _=_
   rw [<-hB,P8,jJ,NU]
   simp
  | succ m ih=>
   intro a out f h1 h2 hf ho
   obtain ⟨f,rfl⟩:∃g,f=g+1:=⟨f - 1,by omega⟩
   show B (rounds B f) _=_
   rw [<-hB]
   simp only
   by_cases ha:a=d.length
   ·subst ha
    rw [P8,jJ,NU]
    simp
   ·rw [ak (by rw [dS]; omega),ak ⟨by omega,by omega⟩,eF,ani (Fq h a) (by unfold big; rw [wP]; omega) hn,jJ]
    simp only [aJ]
    unfold NW
    cases hr:qh R8 (d.drop a) with
    | none=>simp
    | some o=>
     have hle:=(CU hr).2.length_le
     rw [wP] at hle
     have hl:=vV o
     simp only
     rw [aA (by decide),ak (by rw [jC]; omega),wrap_i64 (by omega) (by omega),hB,show (a:Int)+((bU o).length:Int)=((a+(bU o).length:Nat):Int) by omega]
     rw [ih (a+(bU o).length) _ f (by omega) (by omega) (by omega) (by simp only [bX,jC]; omega)]
     rw [sQ,gJ,List.singleton_append,nN]
 have:=key d.length 0 [] n (by omega) (by omega) (by omega) (gq _)
 unfold jP
 simpa using this
theorem Tf {n:Nat} {d:List Int} (h:dF d) (hb:d.length<=big) (hn:big<n):DC n d=some ((jP d).1,((jP d).2:Int),()):=by
 have hb':d.length<=1048576:=hb
 have hn':=hn
 unfold big at hn'
 unfold DC
 generalize hB:(fun (L1:List Int×Int×List OpC×Unit->Option (List OpC×Int×Unit)) v1=>_)=B
 have key:∀(m a:Nat) (out:List OpC) (f:Nat),d.length - a<=m->a<=d.length->m<f->out.length<=a->rounds B f (d,(a:Int),out,())=some (out++(jJ R8 (m+1) (d.drop a)).1,((a+(jJ R8 (m+1) (d.drop a)).2:Nat):Int),()):=by
  intro m
  induction m with
  | zero=>
   intro a out f h1 h2 hf _
   obtain ⟨f,rfl⟩:∃g,f=g+1:=⟨f - 1,by omega⟩
   show B (rounds B f) _=_
   rw [<-hB]
   simp only
   rw [ak ⟨by omega,by omega⟩,eF,abK (Fq h a) (by unfold big; rw [wP]; omega) hn,jJ]
   have ea:d.drop a=[]:=DZ (by omega)
   rw [ea]
   simp only [F7,NU,aJ]
   simp
  | succ m ih=>
   intro a out f h1 h2 hf ho
   obtain ⟨f,rfl⟩:∃g,f=g+1:=⟨f - 1,by omega⟩
   show B (rounds B f) _=_
   rw [<-hB]
   simp only
   rw [ak ⟨by omega,by omega⟩,eF,abK (Fq h a) (by unfold big; rw [wP]; omega) hn,jJ]
   simp only [aJ]
   unfold F7
   cases hr:qh R8 (d.drop a) with
   | none=>simp
   | some o=>
    have hle:=(CU hr).2.length_le
    rw [wP] at hle
    have hl:=vV o
    simp only
    rw [aA (by rw [dS]; omega),ak (by rw [jC]; omega),wrap_i64 (by omega) (by omega),hB,show (a:Int)+((bU o).length:Int)=((a+(bU o).length:Nat):Int) by omega]
    rw [ih (a+(bU o).length) _ f (by omega) (by omega) (by omega) (by simp only [bX,jC]; omega)]
    rw [sQ,gJ,List.singleton_append,nN]
 have:=key d.length 0 [] n (by omega) (by omega) (by omega) (gq _)
 unfold jP
 simpa using this
end Go.Proofs.YtailcbngagacaabGreat.Bo
