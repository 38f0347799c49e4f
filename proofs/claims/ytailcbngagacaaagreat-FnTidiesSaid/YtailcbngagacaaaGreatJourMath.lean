/- Journals: both sides read the same ops. -/
import Derived.Test.YtailcbngagacaaaGreatReadSMath
set_option linter.unusedVariables false
set_option linter.unusedSimpArgs false
namespace Go.Proofs.YtailcbngagacaaaGreat.tL
open Go Ow JO kF qc iw gU tK kK yM zG
noncomputable def Yl (d:List Int):Int×Int×OpC×Unit:=match uj R8 d with
 | none=>(5,0,zO,())
 | some o=>(0,((bK o).length:Int),o,())
theorem MW {n:Nat} {d:List Int} (h:pR d) (hb:d.length<=big) (hn:big<n):sM n d=some (Yl d,()):=by
 have hb':d.length<=1048576:=hb
 have g0:=vG h 0
 have g1:=vG h 1
 unfold sM
 rw [show (0:Int).toNat=0 from rfl,show (1:Int).toNat=1 from rfl]
 rw [wrap_i64 (x:=d.getD 0 0) (by omega) (by omega),wrap_i64 (x:=d.getD 1 0) (by omega) (by omega),wrap_i64 (x:=d.getD 0 0 * 256) (by omega) (by omega),wrap_i64 (x:=d.getD 0 0 * 256+d.getD 1 0) (by omega) (by omega)]
 by_cases hx:∃o,Is R8 d o
 ·obtain ⟨o,ho⟩:=hx
  obtain ⟨q1,q2,q3⟩:=CZ ho.2
  have hl:=oD o
  have hlb:=y9 o
  have hle:=ho.2.length_le
  have hok:okO o/\pR o.2.2.2.2.2.2.2.1:=by
   have:=GN (D:=d.take (bK o).length) (d:=(d.take (bK o).length).drop 2) (vH h _) (ao4 2 _)
   rw [q3,xz,AZ] at this
   exact this
  unfold Yl
  rw [Dk ho,q2,ano,q3]
  rw [aok (by rw [ao1]; omega),aoi (show aL 0 d.length from ⟨by omega,by omega⟩),aoi (show aL 1 d.length from ⟨by omega,by omega⟩),aok (by rw [ao1]; omega),aok (by rw [ao1]; omega),aoi ⟨by omega,by omega⟩]
  have hB:pR (bK o):=by rw [<-q3]; exact vH h _
  rw [Jn hB (by unfold big; omega) (by omega) hn,xz,AZ]
  simp only [anf]
  rw [Ar hok.1 hn]
  simp only [anf]
  rw [aok (by rw [show dW o=0 from ho.1]; decide),zS (Yh ho.1 hok.2) hn]
  simp only [anf]
  rw [aoi ⟨by omega,by omega⟩,aok (by simp)]
 ·unfold Yl
  rw [Dj hx]
  by_cases c1:(d.length:Int)<2
  ·rw [aoi (by rw [ao1]; exact c1)]
  rw [aok (by rw [ao1]; exact c1),aoi (show aL 0 d.length from ⟨by omega,by omega⟩),aoi (show aL 1 d.length from ⟨by omega,by omega⟩)]
  generalize hM:d.getD 0 0 * 256+d.getD 1 0=M at *
  by_cases c2:M<2
  ·rw [aoi (by rw [ao1]; exact c2)]
  rw [aok (by rw [ao1]; exact c2)]
  by_cases c3:M>(d.length:Int)
  ·rw [aoi (by rw [ao1]; exact c3)]
  rw [aok (by rw [ao1]; exact c3),aoi ⟨by omega,by omega⟩]
  have hB:pR (d.take M.toNat):=vH h _
  have hok:=GN (D:=d.take M.toNat) (d:=(d.take M.toNat).drop 2) hB (ao4 2 _)
  rw [Jn hB (by unfold big; rw [aoX]; omega) (by rw [aoX]; omega) hn]
  simp only [anf]
  generalize (Ca ((d.take M.toNat).drop 2)).1=o at *
  rw [Ar hok.1 hn]
  simp only [anf]
  by_cases c4:dW o=0
  ·rw [aok (by simp [c4]),zS (Yh c4 hok.2) hn]
   simp only [anf]
   rw [aoi ⟨by omega,by omega⟩]
   by_cases c5:bK o=d.take M.toNat
   ·refine absurd ⟨o,c4, ?_⟩ hx
    rw [c5]; exact List.take_prefix _ _
   ·rw [aoi (by simp [c5])]
  ·rw [aoi (by simp [c4])]
noncomputable def jP (d:List Int):List OpC×Nat:=pU R8 (d.length+1) d
theorem Cb:uj R8 []=none:=by
 apply Dj
 rintro ⟨o,_,h⟩
 have:=h.length_le
 rw [oD,y9] at this
 simp at this
theorem vI (d:List Int):(∀o∈(jP d).1,dW o=0)/\(jP d).2<=d.length/\13 * (jP d).1.length<=d.length:=
 ⟨fun o ho=>Gq (R:=R8) o ho,Qq⟩
theorem Sn {k:Nat}:∀{d:List Int},pR d->∀o∈(pU R8 k d).1,okO o/\ES o:=by
 induction k with
 | zero=>intro d _ o h; simp [pU] at h
 | succ k ih=>
  intro d hd o h
  rw [pU] at h
  cases hr:uj R8 d with
  | none=>rw [hr] at h; simp at h
  | some q=>
   rw [hr] at h
   have hq:=ym hr
   have h3:=(CZ hq.2).2.2
   have hok:=GN (D:=d.take (bK q).length) (d:=(d.take (bK q).length).drop 2) (vH hd _) (ao4 2 _)
   rw [h3,xz,AZ] at hok
   rcases anq.1 h with rfl | h
   ·exact ⟨hok.1,Yh hq.1 hok.2⟩
   ·exact ih (xu hd _) o h
theorem VE {d:List Int} (h:pR d):∀o∈(jP d).1,okO o/\ES o:=Sn h
theorem C9 {n:Nat} {d:List Int} (h:pR d) (hb:d.length<=big) (hn:big<n):jQ n d=some ((jP d).1,((jP d).2:Int),()):=by
 have hb':d.length<=1048576:=hb
 have hn':=hn
 unfold big at hn'
 unfold jQ
 generalize hB:(fun (L1:List Int×Int×List OpC×Unit->Option (List OpC×Int×Unit)) v1=>_)=B
 have key:∀(m a:Nat) (out:List OpC) (f:Nat),d.length - a<=m->a<=d.length->m<f->out.length<=a->rounds B f (d,(a:Int),out,())=some (out++(pU R8 (m+1) (d.drop a)).1,((a+(pU R8 (m+1) (d.drop a)).2:Nat):Int),()):=by
  intro m
  induction m with
  | zero=>
   intro a out f h1 h2 hf _
   obtain ⟨f,rfl⟩:∃g,f=g+1:=⟨f - 1,by omega⟩
   have ea:a=d.length:=by omega
   subst ea
   show B (rounds B f) _=_
   rw [<-hB,api,pU,Cb]
   simp
  | succ m ih=>
   intro a out f h1 h2 hf ho
   obtain ⟨f,rfl⟩:∃g,f=g+1:=⟨f - 1,by omega⟩
   show B (rounds B f) _=_
   rw [<-hB]
   simp only
   by_cases ha:a=d.length
   ·subst ha
    rw [api,pU,Cb]
    simp
   ·rw [aoi (by rw [ao1]; omega),aoi ⟨by omega,by omega⟩,ano,MW (xu h a) (by unfold big; rw [ao5]; omega) hn,pU]
    simp only [anf]
    unfold Yl
    cases hr:uj R8 (d.drop a) with
    | none=>simp
    | some o=>
     have hle:=(ym hr).2.length_le
     rw [ao5] at hle
     have hl:=oD o
     simp only
     rw [aok (by decide),aoi (by rw [anA]; omega),wrap_i64 (by omega) (by omega),hB,show (a:Int)+((bK o).length:Int)=((a+(bK o).length:Nat):Int) by omega]
     rw [ih (a+(bK o).length) _ f (by omega) (by omega) (by omega) (by simp only [anm,anA]; omega)]
     rw [aoL,anB,List.singleton_append,aoK]
 have:=key d.length 0 [] n (by omega) (by omega) (by omega) (anO _)
 unfold jP
 simpa using this
theorem C8 {n:Nat} {d:List Int} (h:pR d) (hb:d.length<=big) (hn:big<n):lY n d=some ((jP d).1,((jP d).2:Int),()):=by
 have hb':d.length<=1048576:=hb
 have hn':=hn
 unfold big at hn'
 unfold lY
 generalize hB:(fun (L1:List Int×Int×List OpC×Unit->Option (List OpC×Int×Unit)) v1=>_)=B
 have key:∀(m a:Nat) (out:List OpC) (f:Nat),d.length - a<=m->a<=d.length->m<f->out.length<=a->rounds B f (d,(a:Int),out,())=some (out++(pU R8 (m+1) (d.drop a)).1,((a+(pU R8 (m+1) (d.drop a)).2:Nat):Int),()):=by
  intro m
  induction m with
  | zero=>
   intro a out f h1 h2 hf _
   obtain ⟨f,rfl⟩:∃g,f=g+1:=⟨f - 1,by omega⟩
   show B (rounds B f) _=_
   rw [<-hB]
   simp only
   rw [aoi ⟨by omega,by omega⟩,ano,Ed (xu h a) (by unfold big; rw [ao5]; omega) hn,pU]
   have ea:d.drop a=[]:=apu (by omega)
   rw [ea]
   simp only [JC,Cb,anf]
   simp
  | succ m ih=>
   intro a out f h1 h2 hf ho
   obtain ⟨f,rfl⟩:∃g,f=g+1:=⟨f - 1,by omega⟩
   show B (rounds B f) _=_
   rw [<-hB]
   simp only
   rw [aoi ⟨by omega,by omega⟩,ano,Ed (xu h a) (by unfold big; rw [ao5]; omega) hn,pU]
   simp only [anf]
   unfold JC
   cases hr:uj R8 (d.drop a) with
   | none=>simp
   | some o=>
    have hle:=(ym hr).2.length_le
    rw [ao5] at hle
    have hl:=oD o
    simp only
    rw [aok (by rw [ao1]; omega),aoi (by rw [anA]; omega),wrap_i64 (by omega) (by omega),hB,show (a:Int)+((bK o).length:Int)=((a+(bK o).length:Nat):Int) by omega]
    rw [ih (a+(bK o).length) _ f (by omega) (by omega) (by omega) (by simp only [anm,anA]; omega)]
    rw [aoL,anB,List.singleton_append,aoK]
 have:=key d.length 0 [] n (by omega) (by omega) (by omega) (anO _)
 unfold jP
 simpa using this
end Go.Proofs.YtailcbngagacaaaGreat.tL
