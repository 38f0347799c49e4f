/- Vaults: both sides find the same fault. -/
import Derived.Test.YtailcbngagacaabGreatJourMath
set_option linter.unusedVariables false
set_option linter.unusedSimpArgs false
namespace Go.Proofs.YtailcbngagacaabGreat.zu
open Go Ow ni nM vo oQ mP xL uu H7 Mr Bo
instance aoC:DecidableEq dm:=inferInstance
instance aoB:DecidableEq Bx:=instDecidableEqProd
instance aoD:DecidableEq bQ:=instDecidableEqProd
theorem EG {A:Type} [DecidableEq A] {xs ys:List A} {d:A} (hl:xs.length=ys.length):gD (fun j=>if (!decide (xs.getD j d=ys.getD j d))=true then some (some (false,())) else none) (some (true,())) xs.length 0=some (decide (xs=ys),()):=by
 by_cases h:xs=ys
 ·subst h
  rw [gB rfl]
  exact mh (fun j _ _=>by simp)
 ·rw [fH h]
  rcases YL (step:=fun j=>if (!decide (xs.getD j d=ys.getD j d))=true then some (some (false,())) else none) (fin:=some (true,())) (r:=some (false,())) (fun j=>by
   by_cases hh:xs.getD j d=ys.getD j d
   ·rw [aA (by rw [gB hh]; decide)]; exact .inl rfl
   ·rw [ak (by rw [fH hh]; decide)]; exact .inr rfl) (m:=xs.length) (i:=0) with h1 | h1
  ·exact h1
  ·exfalso
   refine h (L6 hl fun i h2 h3=>?_)
   have:=Ro (by simp) h1 i (gq _) (by omega)
   rw [getD_lt h2,getD_lt h3] at this
   simpa using this
theorem ab8 (a b:dm):decide (a=b)=(decide (a.1=b.1) && (decide (a.2.1=b.2.1) && (decide (a.2.2.1=b.2.2.1) && decide (a.2.2.2.1=b.2.2.2.1)))):=by
 obtain ⟨a1,a2,a3,a4,_⟩:=a
 obtain ⟨b1,b2,b3,b4,_⟩:=b
 simp only [bS,eY,Bool.decide_and]
theorem ab7 (a b:Bx):decide (a=b)=(decide (a.1=b.1) && (decide (a.2.1=b.2.1) && (decide (a.2.2.1=b.2.2.1) && decide (a.2.2.2.1=b.2.2.2.1)))):=by
 obtain ⟨a1,a2,a3,a4,_⟩:=a
 obtain ⟨b1,b2,b3,b4,_⟩:=b
 simp only [bS,eY,Bool.decide_and]
theorem ab9 (a b:bQ):decide (a=b)=(decide (a.1=b.1) && decide (a.2.1=b.2.1)):=by
 obtain ⟨a1,a2,_⟩:=a
 obtain ⟨b1,b2,_⟩:=b
 simp only [bS,eY,Bool.decide_and]
theorem Jo {A:Type} [DecidableEq A] {xs ys:List A} (h:¬xs.length=ys.length):decide (xs=ys)=false:=fH fun e=>h (by rw [e])
theorem ai4 {n:Nat} {xs ys:List Int} (hb:xs.length<=big) (hn:big<n):K8 n xs ys=some (decide (xs=ys),()):=by
 have hb':xs.length<=1048576:=hb
 unfold K8
 by_cases hl:xs.length=ys.length
 ·rw [aA (by simp [hl]), <-EG (d:=0) hl]
  refine iy (fun i=>(xs,ys,(xs.length:Int),(i:Int),())) _ _ (m:=xs.length) rfl (by omega) ?_ ?_
  ·intro L i hi _
   simp only [gZ,hi,bL,a_,dA hi,dA (show i<ys.length by omega),eF,gp hi (by omega)]
   split <;> rfl
  ·intro L _
   simp
 ·rw [ak (by rw [fH (show ¬((xs.length:Int)=(ys.length:Int)) by omega)]; rfl),Jo hl]
theorem amv {n:Nat} {a b:dm} (ha:rz a) (hn:big<n):KY n a b=some (decide (a=b),()):=by
 unfold KY
 rw [ab8,ai4 ha hn]
 simp only [aJ]
 cases decide (a.1=b.1) <;> cases decide (a.2.1=b.2.1) <;> cases decide (a.2.2.1=b.2.2.1) <;> rfl
theorem amw {n:Nat} {a b:dm}:LB n a b=some (decide (a=b),()):=by
 unfold LB
 rw [ab8]
 cases decide (a.1=b.1) <;> cases decide (a.2.1=b.2.1) <;> cases decide (a.2.2.1=b.2.2.1) <;> rfl
theorem amx {n:Nat} {xs ys:List dm} (hb:xs.length<=big) (hm:∀m∈xs,rz m) (hn:big<n):K7 n xs ys=some (decide (xs=ys),()):=by
 have hb':xs.length<=1048576:=hb
 unfold K7
 by_cases hl:xs.length=ys.length
 ·rw [aA (by simp [hl]), <-EG (d:=dM) hl]
  refine iy (fun i=>(ys,xs,(xs.length:Int),(i:Int),())) _ _ (m:=xs.length) rfl (by omega) ?_ ?_
  ·intro L i hi _
   have h0:rz (xs.getD i dM):=by rw [getD_lt hi]; exact hm _ (ku hi)
   simp only [gZ,hi,bL,a_,dA hi,dA (show i<ys.length by omega),eF,gp hi (by omega),amv h0 hn,aJ]
   split <;> rfl
  ·intro L _
   simp
 ·rw [ak (by rw [fH (show ¬((xs.length:Int)=(ys.length:Int)) by omega)]; rfl),Jo hl]
theorem ahy {n:Nat} {a b:Bx} (ha:okB a) (hn:big<n):KQ n a b=some (decide (a=b),()):=by
 unfold KQ
 rw [ab7,amx ha.2.1 ha.2.2 hn]
 simp only [aJ]
 cases decide (a.1=b.1) <;> cases decide (a.2.1=b.2.1) <;> cases decide (a.2.2.1=b.2.2.1) <;> rfl
theorem ahz {n:Nat} {a b:Bx} (ha:okB a) (hn:big<n):LA n a b=some (decide (a=b),()):=by
 have hb':a.2.2.2.1.length<=1048576:=ha.2.1
 have hn':1048576<n:=hn
 unfold LA
 rw [ab7]
 have hlp:∀(hl:a.2.2.2.1.length=b.2.2.2.1.length),_=some (decide (a.2.2.2.1=b.2.2.2.1),()):=fun hl=>EG (d:=dM) hl
 cases h1:decide (a.1=b.1)
 ·rfl
 cases h2:decide (a.2.1=b.2.1)
 ·rfl
 cases h3:decide (a.2.2.1=b.2.2.1)
 ·rfl
 simp only [iB,bG,bE,yL]
 by_cases hl:a.2.2.2.1.length=b.2.2.2.1.length
 ·rw [aA (by simp [hl]), <-hlp hl]
  refine iy (fun i=>(a,b,(i:Int),())) _ _ (m:=a.2.2.2.1.length) rfl (by omega) ?_ ?_
  ·intro L i hi _
   simp only [gZ,hi,bL,a_,dA hi,dA (show i<b.2.2.2.1.length by omega),eF,gp hi (by omega),amw,aJ]
   split <;> rfl
  ·intro L _
   simp
 ·rw [ak (by rw [fH (show ¬((a.2.2.2.1.length:Int)=(b.2.2.2.1.length:Int)) by omega)]; rfl),Jo hl]
theorem JY {n:Nat} {a b:bQ} (ha:gW a) (hn:big<n):wH n a b=some (decide (a=b),()):=by
 have hb':a.2.1.length<=1048576:=ha.1
 have hn':1048576<n:=hn
 unfold wH Pj
 rw [ab9]
 cases h1:decide (a.1=b.1)
 ·rfl
 simp only [a_,yL]
 by_cases hl:a.2.1.length=b.2.1.length
 ·rw [aA (by simp [hl]), <-EG (d:=dB) hl]
  refine (congrArg (fun x=>Option.bind x fun r1:Bool×Unit=>some (r1.1,())) (iy (fun i=>(b.2.1,a.2.1,(a.2.1.length:Int),(i:Int),())) (fun j=>if (!decide (a.2.1.getD j dB=b.2.1.getD j dB))=true then some (some (false,())) else none) (some (true,())) (m:=a.2.1.length) rfl (by omega) ?_ ?_)).trans ?_
  ·intro L i hi _
   have h0:okB (a.2.1.getD i dB):=by rw [getD_lt hi]; exact ha.2 _ (ku hi)
   simp only [gZ,hi,bL,a_,dA hi,dA (show i<b.2.1.length by omega),eF,gp hi (by omega),ahy h0 hn,aJ]
   split <;> rfl
  ·intro L _
   simp
  ·rw [EG (d:=dB) hl]; rfl
 ·rw [ak (by rw [fH (show ¬((a.2.1.length:Int)=(b.2.1.length:Int)) by omega)]; rfl),Jo hl]
  rfl
theorem anP {n:Nat} {a b:bQ} (ha:gW a) (hn:big<n):Lx n a b=some (decide (a=b),()):=by
 have hb':a.2.1.length<=1048576:=ha.1
 have hn':1048576<n:=hn
 unfold Lx
 rw [ab9]
 cases h1:decide (a.1=b.1)
 ·rfl
 simp only [iB,bG,bE,yL]
 by_cases hl:a.2.1.length=b.2.1.length
 ·rw [aA (by simp [hl]), <-EG (d:=dB) hl]
  refine iy (fun i=>(a,b,(i:Int),())) _ _ (m:=a.2.1.length) rfl (by omega) ?_ ?_
  ·intro L i hi _
   have h0:okB (a.2.1.getD i dB):=by rw [getD_lt hi]; exact ha.2 _ (ku hi)
   simp only [gZ,hi,bL,a_,dA hi,dA (show i<b.2.1.length by omega),eF,gp hi (by omega),ahz h0 hn,aJ]
   split <;> rfl
  ·intro L _
   simp
 ·rw [ak (by rw [fH (show ¬((a.2.1.length:Int)=(b.2.1.length:Int)) by omega)]; rfl),Jo hl]
theorem QG {n:Nat} (c:Int):rH n c=some (bad c,()):=rfl
theorem YV {s:bQ} {o:OpC} {r:kI} (hg:nG s) (h:(iC o=0/\r=mP.mX (oV s o))\/(iC o≠0/\r=bad (iC o))) (h0:r.1=0):nG r.2.2.1:=by
 rcases h with ⟨h1,rfl⟩ | ⟨h1,rfl⟩
 ·unfold mP.mX at h0 ⊢
  by_cases h2:(oV s o).2.1=0
  ·rw [ak h2]
   exact YU.2 (ac3 (YU.1 hg) (right h1) h2)
  ·rw [aA h2] at h0
   exact absurd h0 h2
 ·exact absurd h0 h1
theorem ahd {n:Nat} {s:bQ} {l:List OpC} (hs:gW s) (hg:nG s) (hl:∀o∈l,okO o) (hn:big<n) :
  ∃r:kI,A8 n s l=some (r,())/\yO n s l=some (r,())/\Aj r/\(r.1=0->nG r.2.2.1):=by
 have hn':1048576<n:=hn
 obtain ⟨he,c,hc,hgc⟩:=zR hs hn
 have h0:=hgc.2 hg
 unfold A8 yO
 by_cases h6:(l.length:Int)>60
 ·rw [gB h6,ak rfl,ak rfl]
  exact ⟨bad 2,rfl,rfl,FH _,fun h=>absurd h (by decide)⟩
 rw [fH h6,aA (by decide),aA (by decide),he,hc]
 simp only [aJ,h0,bL,iB,bG,bE,Jm hs hn,own hs hn,QG]
 generalize Cf:(fun (L5:List OpC×Int×kI×kI×Unit->Option (kI×Unit)) v5=>_)=Bs
 generalize yh:(fun (L3:List OpC×Int×Int×kI×bQ×Unit->Option (kI×Unit)) v3=>_)=Bi
 have key:∀(m i:Nat) (s:bQ) (f:Nat),i+m=l.length->m<f->gW s->nG s->∃r:kI,rounds Bs f (l,(i:Int),bad 0,(0,[],s,()),())=some (r,())/\rounds Bi f (l,(l.length:Int),(i:Int),bad 0,s,())=some (r,())/\Aj r/\(r.1=0->nG r.2.2.1):=by
  intro m
  induction m with
  | zero=>
   intro i s f hi hf hs hg
   obtain ⟨f,rfl⟩:∃g,f=g+1:=⟨f - 1,by omega⟩
   refine ⟨(0,[],s,()), ?_, ?_,⟨by simp,hs⟩,fun _=>hg⟩
   ·show Bs (rounds Bs f) _=_
    rw [<-Cf]
    simp only
    rw [aA (by rw [dS]; omega)]
   ·show Bi (rounds Bi f) _=_
    rw [<-yh]
    simp only
    rw [aA (by rw [dS]; omega)]
  | succ m ih=>
   intro i s f hi hf hs hg
   obtain ⟨f,rfl⟩:∃g,f=g+1:=⟨f - 1,by omega⟩
   have hlt:i<l.length:=by omega
   obtain ⟨r,e1,e2,e3,e4⟩:=XQ hs (hl _ (ku hlt)) hg hn
   have q1:rounds Bs (f+1) (l,(i:Int),bad 0,(0,[],s,()),())=if (!decide (r.1=(0:Int)))=true then some (bad r.1,()) else rounds Bs f (l,((i+1:Nat):Int),bad 0,(0,[],r.2.2.1,()),()):=by
    show Bs (rounds Bs f) _=_
    conv=>lhs; rw [<-Cf]
    simp only [gZ,hlt,bL,a_,dA hlt,oD hlt,gp hlt (by omega),e1,aJ]
    rw [Cf]
   have q2:rounds Bi (f+1) (l,(l.length:Int),(i:Int),bad 0,s,())=if (!decide (r.1=(0:Int)))=true then some (bad r.1,()) else rounds Bi f (l,(l.length:Int),((i+1:Nat):Int),bad 0,r.2.2.1,()):=by
    show Bi (rounds Bi f) _=_
    conv=>lhs; rw [<-yh]
    simp only [gZ,hlt,bL,a_,dA hlt,oD hlt,gp hlt (by omega),e2,aJ]
    rw [yh]
    rfl
   rw [q1,q2]
   by_cases hr:r.1=0
   ·rw [aA (by simp [hr]),aA (by simp [hr])]
    exact ih (i+1) _ f (by omega) (by omega) e3.2 (YV hg e4 hr)
   ·rw [ak (by simp [hr]),ak (by simp [hr])]
    exact ⟨bad r.1,rfl,rfl,FH _,fun h=>absurd h hr⟩
 exact key l.length 0 s n (by omega) (by omega) hs hg
abbrev iq:=Bool×List Int×List Int×bQ×Unit
structure pQ (v:iq):Prop where
 s1:v.2.1.length<=big
 b1:dF v.2.1
 s2:v.2.2.1.length<=big
 b2:dF v.2.2.1
 st:gW v.2.2.2.1
abbrev eS:bQ:=(1,[],())
theorem tL:gW eS/\nG eS:=⟨⟨by simp [big],fun b hb=>absurd hb (zb)⟩,⟨by decide,by decide,fun i hi=>absurd hi (Nat.not_lt_zero i)⟩⟩
noncomputable def opsV (v:iq):List OpC:=(jP v.2.1).1++(jP v.2.2.1).1
noncomputable def xB (v:iq):Bool:=decide (((jP v.2.1).2:Int)=(v.2.1.length:Int)) && decide (((jP v.2.2.1).2:Int)=(v.2.2.1.length:Int))
theorem JC {v:iq} (h:pQ v):∀o∈opsV v,okO o/\ng o:=fun o ho=>(bW.1 ho).elim (aaj h.b1 o) (aaj h.b2 o)
theorem NP {n:Nat} {v:iq} (h:pQ v) (hn:big<n):Dw n v=some (opsV v,xB v,()):=by
 have h1:=(CB v.2.1).2.2
 have h2:=(CB v.2.2.1).2.2
 have g1:=h.s1
 have g2:=h.s2
 unfold big at g1 g2
 unfold Dw uX
 rw [Tf h.b1 h.s1 hn,Tf h.b2 h.s2 hn]
 simp only [aJ]
 rw [ak (by omega)]
 unfold xB opsV
 cases decide (((jP v.2.1).2:Int)=(v.2.1.length:Int)) <;> rfl
theorem TV {n:Nat} {v:iq} (h:pQ v) (hn:big<n):GI n v=some (opsV v,xB v,()):=by
 have h1:=(CB v.2.1).2.2
 have h2:=(CB v.2.2.1).2.2
 have g1:=h.s1
 have g2:=h.s2
 unfold big at g1 g2
 unfold GI
 rw [aan h.b1 h.s1 hn,aan h.b2 h.s2 hn]
 simp only [aJ]
 rw [ak (by omega)]
 unfold xB opsV
 cases decide (((jP v.2.1).2:Int)=(v.2.1.length:Int)) <;> rfl
theorem acI {n:Nat} {v:iq} (h:pQ v) (hn:big<n):∃c:Int,xH n v=some (c,())/\Ld n v=some (c,())/\
  (c=0->v.2.1.length+v.2.2.1.length<=8000/\(v.1=true->nG v.2.2.2.1/\(opsV v).length<=60)):=by
 have g1:=h.s1
 have g2:=h.s2
 unfold big at g1 g2
 obtain ⟨he,c,hc,hgc⟩:=zR h.st hn
 obtain ⟨r,a1,a2,a3,a4⟩:=ahd tL.1 tL.2 (fun o ho=>(JC h o ho).1) hn
 have a5:r.1=0->(opsV v).length<=60:=by
  intro h0
  by_cases h6:((opsV v).length:Int)>60
  ·unfold A8 at a1
   rw [gB h6,ak rfl,QG] at a1
   simp only [aJ,au,bS,eY] at a1
   rw [<-a1] at h0
   exact absurd h0 (by decide)
  ·omega
 have e1:AY n=some (eS,()):=rfl
 have e2:Lc n=some (eS,()):=rfl
 unfold xH Ld
 simp only [he,hc,NP h hn,TV h hn,e1,e2,a1,a2,aJ,JY a3.2 hn,anP a3.2 hn]
 rw [wrap_i64 (x:=(v.2.1.length:Int)+(v.2.2.1.length:Int)) (by omega) (by omega)]
 by_cases c1:(v.2.1.length:Int)+(v.2.2.1.length:Int)>8000
 ·simp only [gB c1,a_]
  exact ⟨2,rfl,rfl,fun h=>absurd h (by decide)⟩
 simp only [fH c1,bG,bE]
 have l8:v.2.1.length+v.2.2.1.length<=8000:=by omega
 cases hu:v.1 with
 | false=>
  simp only [lD,a_]
  by_cases c2:(v.2.2.1.length:Int)>0
  ·simp only [gB c2,a_]
   exact ⟨1,rfl,rfl,fun h=>absurd h (by decide)⟩
  simp only [fH c2,bG,bE]
  by_cases c3:v.2.2.2.1.1=0
  ·simp only [gB c3,iB,bG,bE]
   by_cases c4:(v.2.2.2.1.2.1.length:Int)>0
   ·simp only [gB c4,a_]
    exact ⟨1,rfl,rfl,fun h=>absurd h (by decide)⟩
   simp only [fH c4,bG,bE]
   exact ⟨0,rfl,rfl,fun _=>⟨l8,fun hh=>absurd hh (by decide)⟩⟩
  ·simp only [fH c3,lD,a_]
   exact ⟨1,rfl,rfl,fun h=>absurd h (by decide)⟩
 | true=>
  simp only [iB,bG,bE]
  by_cases c2:c=0
  ·rw [gB c2]
   simp only [iB,bG,bE]
   cases xB v with
   | false=>exact ⟨5,rfl,rfl,fun h=>absurd h (by decide)⟩
   | true=>
    simp only [iB,bG,bE]
    by_cases c3:r.1=0
    ·rw [gB c3]
     simp only [iB,bG,bE]
     cases decide (r.2.2.1=v.2.2.2.1) with
     | false=>exact ⟨9,rfl,rfl,fun h=>absurd h (by decide)⟩
     | true=>exact ⟨0,rfl,rfl,fun _=>⟨l8,fun _=>⟨hgc.1 c2,a5 c3⟩⟩⟩
    ·rw [fH c3]
     exact ⟨9,rfl,rfl,fun h=>absurd h (by decide)⟩
  ·rw [fH c2]
   exact ⟨c,rfl,rfl,fun h=>absurd h c2⟩
end Go.Proofs.YtailcbngagacaabGreat.zu
