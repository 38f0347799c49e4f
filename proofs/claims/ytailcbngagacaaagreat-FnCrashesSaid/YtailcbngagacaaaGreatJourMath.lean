/- Journals: both sides read the same ops. -/
import Derived.Test.YtailcbngagacaaaGreatReadSMath
set_option linter.unusedVariables false
set_option linter.unusedSimpArgs false
namespace Go.Proofs.YtailcbngagacaaaGreat.Bq
open Go Ow nJ oh vB pO ng yZ uA H_ Ms
noncomputable def N8 (d:List Int):Int×Int×OpC×Unit:=match qi R8 d with
 | none=>(5,0,zO,())
 | some o=>(0,((bZ o).length:Int),o,())
theorem am3 {n:Nat} {d:List Int} (h:dA d) (hb:d.length<=big) (hn:big<n):K4 n d=some (N8 d,()):=by
 have hb':d.length<=1048576:=hb
 have g0:=CO h 0
 have g1:=CO h 1
 unfold K4
 rw [show (0:Int).toNat=0 from rfl,show (1:Int).toNat=1 from rfl]
 rw [wrap_i64 (x:=d.getD 0 0) (by omega) (by omega),wrap_i64 (x:=d.getD 1 0) (by omega) (by omega),wrap_i64 (x:=d.getD 0 0 * 256) (by omega) (by omega),wrap_i64 (x:=d.getD 0 0 * 256+d.getD 1 0) (by omega) (by omega)]
 by_cases hx:∃o,Is R8 d o
 ·obtain ⟨o,ho⟩:=hx
  obtain ⟨q1,q2,q3⟩:=Fj ho.2
  have hl:=xw o
  have hlb:=Jp o
  have hle:=ho.2.length_le
  have hok:okO o/\dA o.2.2.2.2.2.2.2.1:=by
   have:=T9 (D:=d.take (bZ o).length) (d:=(d.take (bZ o).length).drop 2) (Ac h _) (P8 2 _)
   rw [q3,JH,T_] at this
   exact this
  unfold N8
  rw [Ua ho,q2,eD,q3]
  rw [aA (by rw [dH]; omega),aj (show aM 0 d.length from ⟨by omega,by omega⟩),aj (show aM 1 d.length from ⟨by omega,by omega⟩),aA (by rw [dH]; omega),aA (by rw [dH]; omega),aj ⟨by omega,by omega⟩]
  have hB:dA (bZ o):=by rw [<-q3]; exact Ac h _
  rw [abN hB (by unfold big; omega) (by omega) hn,JH,T_]
  simp only [aL]
  rw [Rc hok.1 hn]
  simp only [aL]
  rw [aA (by rw [show iF o=0 from ho.1]; decide),TP (NR ho.1 hok.2) hn]
  simp only [aL]
  rw [aj ⟨by omega,by omega⟩,aA (by simp)]
 ·unfold N8
  rw [NZ hx]
  by_cases c1:(d.length:Int)<2
  ·rw [aj (by rw [dH]; exact c1)]
  rw [aA (by rw [dH]; exact c1),aj (show aM 0 d.length from ⟨by omega,by omega⟩),aj (show aM 1 d.length from ⟨by omega,by omega⟩)]
  generalize hM:d.getD 0 0 * 256+d.getD 1 0=M at *
  by_cases c2:M<2
  ·rw [aj (by rw [dH]; exact c2)]
  rw [aA (by rw [dH]; exact c2)]
  by_cases c3:M>(d.length:Int)
  ·rw [aj (by rw [dH]; exact c3)]
  rw [aA (by rw [dH]; exact c3),aj ⟨by omega,by omega⟩]
  have hB:dA (d.take M.toNat):=Ac h _
  have hok:=T9 (D:=d.take M.toNat) (d:=(d.take M.toNat).drop 2) hB (P8 2 _)
  rw [abN hB (by unfold big; rw [mZ]; omega) (by rw [mZ]; omega) hn]
  simp only [aL]
  generalize (yG ((d.take M.toNat).drop 2)).1=o at *
  rw [Rc hok.1 hn]
  simp only [aL]
  by_cases c4:iF o=0
  ·rw [aA (by simp [c4]),TP (NR c4 hok.2) hn]
   simp only [aL]
   rw [aj ⟨by omega,by omega⟩]
   by_cases c5:bZ o=d.take M.toNat
   ·refine absurd ⟨o,c4, ?_⟩ hx
    rw [c5]; exact List.take_prefix _ _
   ·rw [aj (by simp [c5])]
  ·rw [aj (by simp [c4])]
noncomputable def jP (d:List Int):List OpC×Nat:=jB R8 (d.length+1) d
theorem NY:qi R8 []=none:=by
 apply NZ
 rintro ⟨o,_,h⟩
 have:=h.length_le
 rw [xw,Jp] at this
 simp at this
theorem CP (d:List Int):(∀o∈(jP d).1,iF o=0)/\(jP d).2<=d.length/\13 * (jP d).1.length<=d.length:=
 ⟨fun o ho=>aal (R:=R8) o ho,aak⟩
theorem alI {k:Nat}:∀{d:List Int},dA d->∀o∈(jB R8 k d).1,okO o/\oo o:=by
 induction k with
 | zero=>intro d _ o h; simp [jB] at h
 | succ k ih=>
  intro d hd o h
  rw [jB] at h
  cases hr:qi R8 d with
  | none=>rw [hr] at h; simp at h
  | some q=>
   rw [hr] at h
   have hq:=Da hr
   have h3:=(Fj hq.2).2.2
   have hok:=T9 (D:=d.take (bZ q).length) (d:=(d.take (bZ q).length).drop 2) (Ac hd _) (P8 2 _)
   rw [h3,JH,T_] at hok
   rcases bT.1 h with rfl | h
   ·exact ⟨hok.1,NR hq.1 hok.2⟩
   ·exact ih (Fh hd _) o h
theorem aah {d:List Int} (h:dA d):∀o∈(jP d).1,okO o/\oo o:=alI h
theorem aam {n:Nat} {d:List Int} (h:dA d) (hb:d.length<=big) (hn:big<n):G6 n d=some ((jP d).1,((jP d).2:Int),()):=by
 have hb':d.length<=1048576:=hb
 have hn':=hn
 unfold big at hn'
 unfold G6
 generalize hB:(fun (L1:List Int×Int×List OpC×Unit->Option (List OpC×Int×Unit)) v1=>_)=B
 have key:∀(m a:Nat) (out:List OpC) (f:Nat),d.length - a<=m->a<=d.length->m<f->out.length<=a->rounds B f (d,(a:Int),out,())=some (out++(jB R8 (m+1) (d.drop a)).1,((a+(jB R8 (m+1) (d.drop a)).2:Nat):Int),()):=by
  intro m
  induction m with
  | zero=>
   intro a out f h1 h2 hf _
   obtain ⟨f,rfl⟩:∃g,f=g+1:=⟨f - 1,by omega⟩
   have ea:a=d.length:=by omega
   subst ea
   show B (rounds B f) _=_
   rw [<-hB,P7,jB,NY]
   simp
  | succ m ih=>
   intro a out f h1 h2 hf ho
   obtain ⟨f,rfl⟩:∃g,f=g+1:=⟨f - 1,by omega⟩
   show B (rounds B f) _=_
   rw [<-hB]
   simp only
   by_cases ha:a=d.length
   ·subst ha
    rw [P7,jB,NY]
    simp
   ·rw [aj (by rw [dH]; omega),aj ⟨by omega,by omega⟩,eD,am3 (Fh h a) (by unfold big; rw [wQ]; omega) hn,jB]
    simp only [aL]
    unfold N8
    cases hr:qi R8 (d.drop a) with
    | none=>simp
    | some o=>
     have hle:=(Da hr).2.length_le
     rw [wQ] at hle
     have hl:=xw o
     simp only
     rw [aA (by decide),aj (by rw [jN]; omega),wrap_i64 (by omega) (by omega),hB,show (a:Int)+((bZ o).length:Int)=((a+(bZ o).length:Nat):Int) by omega]
     rw [ih (a+(bZ o).length) _ f (by omega) (by omega) (by omega) (by simp only [bV,jN]; omega)]
     rw [sV,gD,List.singleton_append,nM]
 have:=key d.length 0 [] n (by omega) (by omega) (by omega) (fT _)
 unfold jP
 simpa using this
theorem NF {n:Nat} {d:List Int} (h:dA d) (hb:d.length<=big) (hn:big<n):AY n d=some ((jP d).1,((jP d).2:Int),()):=by
 have hb':d.length<=1048576:=hb
 have hn':=hn
 unfold big at hn'
 unfold AY
 generalize hB:(fun (L1:List Int×Int×List OpC×Unit->Option (List OpC×Int×Unit)) v1=>_)=B
 have key:∀(m a:Nat) (out:List OpC) (f:Nat),d.length - a<=m->a<=d.length->m<f->out.length<=a->rounds B f (d,(a:Int),out,())=some (out++(jB R8 (m+1) (d.drop a)).1,((a+(jB R8 (m+1) (d.drop a)).2:Nat):Int),()):=by
  intro m
  induction m with
  | zero=>
   intro a out f h1 h2 hf _
   obtain ⟨f,rfl⟩:∃g,f=g+1:=⟨f - 1,by omega⟩
   show B (rounds B f) _=_
   rw [<-hB]
   simp only
   rw [aj ⟨by omega,by omega⟩,eD,abK (Fh h a) (by unfold big; rw [wQ]; omega) hn,jB]
   have ea:d.drop a=[]:=DX (by omega)
   rw [ea]
   simp only [F6,NY,aL]
   simp
  | succ m ih=>
   intro a out f h1 h2 hf ho
   obtain ⟨f,rfl⟩:∃g,f=g+1:=⟨f - 1,by omega⟩
   show B (rounds B f) _=_
   rw [<-hB]
   simp only
   rw [aj ⟨by omega,by omega⟩,eD,abK (Fh h a) (by unfold big; rw [wQ]; omega) hn,jB]
   simp only [aL]
   unfold F6
   cases hr:qi R8 (d.drop a) with
   | none=>simp
   | some o=>
    have hle:=(Da hr).2.length_le
    rw [wQ] at hle
    have hl:=xw o
    simp only
    rw [aA (by rw [dH]; omega),aj (by rw [jN]; omega),wrap_i64 (by omega) (by omega),hB,show (a:Int)+((bZ o).length:Int)=((a+(bZ o).length:Nat):Int) by omega]
    rw [ih (a+(bZ o).length) _ f (by omega) (by omega) (by omega) (by simp only [bV,jN]; omega)]
    rw [sV,gD,List.singleton_append,nM]
 have:=key d.length 0 [] n (by omega) (by omega) (by omega) (fT _)
 unfold jP
 simpa using this
end Go.Proofs.YtailcbngagacaaaGreat.Bq
