/- Journals: both sides read the same ops. -/
import Derived.Test.YtplpeegfeajkkaaGreatDoorReadSMath
set_option linter.unusedVariables false
set_option linter.unusedSimpArgs false
namespace Go.Proofs.YtplpeegfeajkkaaGreatDoor.Qk
open Go Ow nE nQ BH oI nS xV tK Iw M8
noncomputable def OJ (d:List Int):Int×Int×OpC×Unit:=match rQ R8 d with
 |none=>(5,0,zO,())
 |some o=>(0,((h_ o).length:Int),o,())
theorem arc{n:Nat}{d:List Int}(h:dX d)(hb:d.length<=big)(hn:big<n):L6 n d=some (OJ d,()):=by
 have hb':d.length<=1048576:=hb
 have g0:=CK h 0
 have g1:=CK h 1
 unfold L6
 rw[show(0:Int).toNat=0 from rfl,show(1:Int).toNat=1 from rfl]
 rw[wrap_i64 (x:=d.getD 0 0) (by omega) (by omega),wrap_i64 (x:=d.getD 1 0) (by omega) (by omega),wrap_i64 (x:=d.getD 0 0*256) (by omega) (by omega),wrap_i64 (x:=d.getD 0 0*256+d.getD 1 0) (by omega) (by omega)]
 by_cases hx:∃o,Is R8 d o
 ·obtain⟨o,ho⟩:=hx
  obtain⟨q1,q2,q3⟩:=JH ho.2
  have hl:=Ap o
  have hlb:=JN o
  have hle:=ho.2.length_le
  have hok:okO o/\dX o.2.2.2.2.2.2.2.1:=by
   have:=UI (D:=d.take (h_ o).length) (d:=(d.take (h_ o).length).drop 2) (Fu h _) (QJ 2 _)
   rw[q3,Ka,UJ]at this
   exact this
  unfold OJ
  rw[adT ho,q2,dA,q3]
  rw[aC (by rw[dW];omega),aj (show aF 0 d.length from⟨by omega,by omega⟩),aj (show aF 1 d.length from⟨by omega,by omega⟩),aC (by rw[dW];omega),aC (by rw[dW];omega),aj ⟨by omega,by omega⟩]
  have hB:dX (h_ o):=by rw[<-q3];exact Fu h _
  rw[adU hB (by unfold big;omega) (by omega) hn,Ka,UJ]
  simp only[aG]
  rw[Sd hok.1 hn]
  simp only[aG]
  rw[aC (by rw[show lQ o=0 from ho.1];decide),acE (OB ho.1 hok.2) hn]
  simp only[aG]
  rw[aj ⟨by omega,by omega⟩,aC (by simp)]
 ·unfold OJ
  rw[UL hx]
  by_cases c1:(d.length:Int)<2
  ·rw[aj (by rw[dW];exact c1)]
  rw[aC (by rw[dW];exact c1),aj (show aF 0 d.length from⟨by omega,by omega⟩),aj (show aF 1 d.length from⟨by omega,by omega⟩)]
  generalize hM:d.getD 0 0*256+d.getD 1 0=M at *
  by_cases c2:M<2
  ·rw[aj (by rw[dW];exact c2)]
  rw[aC (by rw[dW];exact c2)]
  by_cases c3:M>(d.length:Int)
  ·rw[aj (by rw[dW];exact c3)]
  rw[aC (by rw[dW];exact c3),aj ⟨by omega,by omega⟩]
  have hB:dX (d.take M.toNat):=Fu h _
  have hok:=UI (D:=d.take M.toNat) (d:=(d.take M.toNat).drop 2) hB (QJ 2 _)
  rw[adU hB (by unfold big;rw[pX];omega) (by rw[pX];omega) hn]
  simp only[aG]
  generalize (yV ((d.take M.toNat).drop 2)).1=o at *
  rw[Sd hok.1 hn]
  simp only[aG]
  by_cases c4:lQ o=0
  ·rw[aC (by simp[c4]),acE (OB c4 hok.2) hn]
   simp only[aG]
   rw[aj ⟨by omega,by omega⟩]
   by_cases c5:h_ o=d.take M.toNat
   ·refine absurd ⟨o,c4,?_⟩ hx
    rw[c5];exact List.take_prefix _ _
   ·rw[aj (by simp[c5])]
  ·rw[aj (by simp[c4])]
noncomputable def jP (d:List Int):List OpC×Nat:=nk R8 (d.length+1) d
theorem UK:rQ R8 []=none:=by
 apply UL
 rintro⟨o,_,h⟩
 have:=h.length_le
 rw[Ap,JN]at this
 simp at this
theorem Oh(d:List Int):(∀o∈(jP d).1,lQ o=0)/\(jP d).2<=d.length/\13*(jP d).1.length<=d.length:=
 ⟨λo ho=>abI (R:=R8) o ho,abH⟩
theorem apy{k:Nat}:∀{d:List Int},dX d->∀o∈(nk R8 k d).1,okO o/\qD o:=by
 induction k with
 |zero=>intro d _ o h;simp[nk]at h
 |succ k ih=>
  intro d hd o h
  rw[nk]at h
  cases hr:rQ R8 d with
  |none=>rw[hr]at h;simp at h
  |some q=>
   rw[hr]at h
   have hq:=Kg hr
   have h3:=(JH hq.2).2.2
   have hok:=UI (D:=d.take (h_ q).length) (d:=(d.take (h_ q).length).drop 2) (Fu hd _) (QJ 2 _)
   rw[h3,Ka,UJ]at hok
   rcases bW.1 h with rfl|h
   ·exact⟨hok.1,OB hq.1 hok.2⟩
   ·exact ih (Fq hd _) o h
theorem abF{d:List Int}(h:dX d):∀o∈(jP d).1,okO o/\qD o:=apy h
theorem abJ{n:Nat}{d:List Int}(h:dX d)(hb:d.length<=big)(hn:big<n):H6 n d=some ((jP d).1,((jP d).2:Int),()):=by
 have hb':d.length<=1048576:=hb
 have hn':=hn
 unfold big at hn'
 unfold H6
 generalize hB:(λ(L1:List Int×Int×List OpC×Unit->Option (List OpC×Int×Unit)) v1=>_)=B
 have key:∀(m a:Nat) (out:List OpC) (f:Nat),d.length-a<=m->a<=d.length->m<f->out.length<=a->rounds B f (d,(a:Int),out,())=some (out++(nk R8 (m+1) (d.drop a)).1,((a+(nk R8 (m+1) (d.drop a)).2:Nat):Int),()):=by
  intro m
  induction m with
  |zero=>
   intro a out f h1 h2 hf _
   obtain⟨f,rfl⟩:∃g,f=g+1:=⟨f-1,by omega⟩
   have ea:a=d.length:=by omega
   subst ea
   show B (rounds B f) _=_
   rw[<-hB,MM,nk,UK]
   simp
  |succ m ih=>
   intro a out f h1 h2 hf ho
   obtain⟨f,rfl⟩:∃g,f=g+1:=⟨f-1,by omega⟩
   show B (rounds B f) _=_
   rw[<-hB]
   simp only
   by_cases ha:a=d.length
   ·subst ha
    rw[MM,nk,UK]
    simp
   ·rw[aj (by rw[dW];omega),aj ⟨by omega,by omega⟩,dA,arc (Fq h a) (by unfold big;rw[x8];omega) hn,nk]
    simp only[aG]
    unfold OJ
    cases hr:rQ R8 (d.drop a)with
    |none=>simp
    |some o=>
     have hle:=(Kg hr).2.length_le
     rw[x8]at hle
     have hl:=Ap o
     simp only
     rw[aC (by decide),aj (by rw[gL];omega),wrap_i64 (by omega) (by omega),hB,show(a:Int)+((h_ o).length:Int)=((a+(h_ o).length:Nat):Int) by omega]
     rw[ih (a+(h_ o).length) _ f (by omega) (by omega) (by omega) (by simp only[dN,gL];omega)]
     rw[tT,gD,List.singleton_append,oF]
 have:=key d.length 0 [] n (by omega) (by omega) (by omega) (fQ _)
 unfold jP
 simpa using this
theorem abG{n:Nat}{d:List Int}(h:dX d)(hb:d.length<=big)(hn:big<n):GR n d=some ((jP d).1,((jP d).2:Int),()):=by
 have hb':d.length<=1048576:=hb
 have hn':=hn
 unfold big at hn'
 unfold GR
 generalize hB:(λ(L1:List Int×Int×List OpC×Unit->Option (List OpC×Int×Unit)) v1=>_)=B
 have key:∀(m a:Nat) (out:List OpC) (f:Nat),d.length-a<=m->a<=d.length->m<f->out.length<=a->rounds B f (d,(a:Int),out,())=some (out++(nk R8 (m+1) (d.drop a)).1,((a+(nk R8 (m+1) (d.drop a)).2:Nat):Int),()):=by
  intro m
  induction m with
  |zero=>
   intro a out f h1 h2 hf _
   obtain⟨f,rfl⟩:∃g,f=g+1:=⟨f-1,by omega⟩
   show B (rounds B f) _=_
   rw[<-hB]
   simp only
   rw[aj ⟨by omega,by omega⟩,dA,adQ (Fq h a) (by unfold big;rw[x8];omega) hn,nk]
   have ea:d.drop a=[]:=Il (by omega)
   rw[ea]
   simp only[Ga,UK,aG]
   simp
  |succ m ih=>
   intro a out f h1 h2 hf ho
   obtain⟨f,rfl⟩:∃g,f=g+1:=⟨f-1,by omega⟩
   show B (rounds B f) _=_
   rw[<-hB]
   simp only
   rw[aj ⟨by omega,by omega⟩,dA,adQ (Fq h a) (by unfold big;rw[x8];omega) hn,nk]
   simp only[aG]
   unfold Ga
   cases hr:rQ R8 (d.drop a)with
   |none=>simp
   |some o=>
    have hle:=(Kg hr).2.length_le
    rw[x8]at hle
    have hl:=Ap o
    simp only
    rw[aC (by rw[dW];omega),aj (by rw[gL];omega),wrap_i64 (by omega) (by omega),hB,show(a:Int)+((h_ o).length:Int)=((a+(h_ o).length:Nat):Int) by omega]
    rw[ih (a+(h_ o).length) _ f (by omega) (by omega) (by omega) (by simp only[dN,gL];omega)]
    rw[tT,gD,List.singleton_append,oF]
 have:=key d.length 0 [] n (by omega) (by omega) (by omega) (fQ _)
 unfold jP
 simpa using this
end Go.Proofs.YtplpeegfeajkkaaGreatDoor.Qk
