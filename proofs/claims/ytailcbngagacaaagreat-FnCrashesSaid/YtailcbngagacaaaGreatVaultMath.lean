/- Vaults: both sides find the same fault. -/
import Derived.Test.YtailcbngagacaaaGreatJourMath
set_option linter.unusedVariables false
set_option linter.unusedSimpArgs false
namespace Go.Proofs.YtailcbngagacaaaGreat.zo
open Go Ow nJ oh vB pO ng yZ uA H_ Ms Bq
instance aoo:DecidableEq dm:=inferInstance
instance aon:DecidableEq Bx:=instDecidableEqProd
instance aop:DecidableEq bP:=instDecidableEqProd
theorem ED {A:Type} [DecidableEq A] {xs ys:List A} {d:A} (hl:xs.length=ys.length):gz (fun j=>if (!decide (xs.getD j d=ys.getD j d))=true then some (some (false,())) else none) (some (true,())) xs.length 0=some (decide (xs=ys),()):=by
 by_cases h:xs=ys
 ·subst h
  rw [gH rfl]
  exact mQ (fun j _ _=>by simp)
 ·rw [f_ h]
  rcases YF (step:=fun j=>if (!decide (xs.getD j d=ys.getD j d))=true then some (some (false,())) else none) (fin:=some (true,())) (r:=some (false,())) (fun j=>by
   by_cases hh:xs.getD j d=ys.getD j d
   ·rw [aA (by rw [gH hh]; decide)]; exact .inl rfl
   ·rw [aj (by rw [f_ hh]; decide)]; exact .inr rfl) (m:=xs.length) (i:=0) with h1 | h1
  ·exact h1
  ·exfalso
   refine h (LZ hl fun i h2 h3=>?_)
   have:=Rj (by simp) h1 i (fT _) (by omega)
   rw [getD_lt h2,getD_lt h3] at this
   simpa using this
theorem ab7 (a b:dm):decide (a=b)=(decide (a.1=b.1) && (decide (a.2.1=b.2.1) && (decide (a.2.2.1=b.2.2.1) && decide (a.2.2.2.1=b.2.2.2.1)))):=by
 obtain ⟨a1,a2,a3,a4,_⟩:=a
 obtain ⟨b1,b2,b3,b4,_⟩:=b
 simp only [bS,eX,Bool.decide_and]
theorem ab6 (a b:Bx):decide (a=b)=(decide (a.1=b.1) && (decide (a.2.1=b.2.1) && (decide (a.2.2.1=b.2.2.1) && decide (a.2.2.2.1=b.2.2.2.1)))):=by
 obtain ⟨a1,a2,a3,a4,_⟩:=a
 obtain ⟨b1,b2,b3,b4,_⟩:=b
 simp only [bS,eX,Bool.decide_and]
theorem ab8 (a b:bP):decide (a=b)=(decide (a.1=b.1) && decide (a.2.1=b.2.1)):=by
 obtain ⟨a1,a2,_⟩:=a
 obtain ⟨b1,b2,_⟩:=b
 simp only [bS,eX,Bool.decide_and]
theorem Jq {A:Type} [DecidableEq A] {xs ys:List A} (h:¬xs.length=ys.length):decide (xs=ys)=false:=f_ fun e=>h (by rw [e])
theorem aiT {n:Nat} {xs ys:List Int} (hb:xs.length<=big) (hn:big<n):KX n xs ys=some (decide (xs=ys),()):=by
 have hb':xs.length<=1048576:=hb
 unfold KX
 by_cases hl:xs.length=ys.length
 ·rw [aA (by simp [hl]), <-ED (d:=0) hl]
  refine iA (fun i=>(xs,ys,(xs.length:Int),(i:Int),())) _ _ (m:=xs.length) rfl (by omega) ?_ ?_
  ·intro L i hi _
   simp only [g_,hi,bQ,a_,dz hi,dz (show i<ys.length by omega),eD,gu hi (by omega)]
   split <;> rfl
  ·intro L _
   simp
 ·rw [aj (by rw [f_ (show ¬((xs.length:Int)=(ys.length:Int)) by omega)]; rfl),Jq hl]
theorem amg {n:Nat} {a b:dm} (ha:rD a) (hn:big<n):KQ n a b=some (decide (a=b),()):=by
 unfold KQ
 rw [ab7,aiT ha hn]
 simp only [aL]
 cases decide (a.1=b.1) <;> cases decide (a.2.1=b.2.1) <;> cases decide (a.2.2.1=b.2.2.1) <;> rfl
theorem amh {n:Nat} {a b:dm}:Ls n a b=some (decide (a=b),()):=by
 unfold Ls
 rw [ab7]
 cases decide (a.1=b.1) <;> cases decide (a.2.1=b.2.1) <;> cases decide (a.2.2.1=b.2.2.1) <;> rfl
theorem ami {n:Nat} {xs ys:List dm} (hb:xs.length<=big) (hm:∀m∈xs,rD m) (hn:big<n):KW n xs ys=some (decide (xs=ys),()):=by
 have hb':xs.length<=1048576:=hb
 unfold KW
 by_cases hl:xs.length=ys.length
 ·rw [aA (by simp [hl]), <-ED (d:=dM) hl]
  refine iA (fun i=>(ys,xs,(xs.length:Int),(i:Int),())) _ _ (m:=xs.length) rfl (by omega) ?_ ?_
  ·intro L i hi _
   have h0:rD (xs.getD i dM):=by rw [getD_lt hi]; exact hm _ (jY hi)
   simp only [g_,hi,bQ,a_,dz hi,dz (show i<ys.length by omega),eD,gu hi (by omega),amg h0 hn,aL]
   split <;> rfl
  ·intro L _
   simp
 ·rw [aj (by rw [f_ (show ¬((xs.length:Int)=(ys.length:Int)) by omega)]; rfl),Jq hl]
theorem ahn {n:Nat} {a b:Bx} (ha:okB a) (hn:big<n):KI n a b=some (decide (a=b),()):=by
 unfold KI
 rw [ab6,ami ha.2.1 ha.2.2 hn]
 simp only [aL]
 cases decide (a.1=b.1) <;> cases decide (a.2.1=b.2.1) <;> cases decide (a.2.2.1=b.2.2.1) <;> rfl
theorem aho {n:Nat} {a b:Bx} (ha:okB a) (hn:big<n):Lr n a b=some (decide (a=b),()):=by
 have hb':a.2.2.2.1.length<=1048576:=ha.2.1
 have hn':1048576<n:=hn
 unfold Lr
 rw [ab6]
 have hlp:∀(hl:a.2.2.2.1.length=b.2.2.2.1.length),_=some (decide (a.2.2.2.1=b.2.2.2.1),()):=fun hl=>ED (d:=dM) hl
 cases h1:decide (a.1=b.1)
 ·rfl
 cases h2:decide (a.2.1=b.2.1)
 ·rfl
 cases h3:decide (a.2.2.1=b.2.2.1)
 ·rfl
 simp only [jc,bJ,bF,yM]
 by_cases hl:a.2.2.2.1.length=b.2.2.2.1.length
 ·rw [aA (by simp [hl]), <-hlp hl]
  refine iA (fun i=>(a,b,(i:Int),())) _ _ (m:=a.2.2.2.1.length) rfl (by omega) ?_ ?_
  ·intro L i hi _
   simp only [g_,hi,bQ,a_,dz hi,dz (show i<b.2.2.2.1.length by omega),eD,gu hi (by omega),amh,aL]
   split <;> rfl
  ·intro L _
   simp
 ·rw [aj (by rw [f_ (show ¬((a.2.2.2.1.length:Int)=(b.2.2.2.1.length:Int)) by omega)]; rfl),Jq hl]
theorem FW {n:Nat} {a b:bP} (ha:gU a) (hn:big<n):wI n a b=some (decide (a=b),()):=by
 have hb':a.2.1.length<=1048576:=ha.1
 have hn':1048576<n:=hn
 unfold wI Po
 rw [ab8]
 cases h1:decide (a.1=b.1)
 ·rfl
 simp only [a_,yM]
 by_cases hl:a.2.1.length=b.2.1.length
 ·rw [aA (by simp [hl]), <-ED (d:=dB) hl]
  refine (congrArg (fun x=>Option.bind x fun r1:Bool×Unit=>some (r1.1,())) (iA (fun i=>(b.2.1,a.2.1,(a.2.1.length:Int),(i:Int),())) (fun j=>if (!decide (a.2.1.getD j dB=b.2.1.getD j dB))=true then some (some (false,())) else none) (some (true,())) (m:=a.2.1.length) rfl (by omega) ?_ ?_)).trans ?_
  ·intro L i hi _
   have h0:okB (a.2.1.getD i dB):=by rw [getD_lt hi]; exact ha.2 _ (jY hi)
   simp only [g_,hi,bQ,a_,dz hi,dz (show i<b.2.1.length by omega),eD,gu hi (by omega),ahn h0 hn,aL]
   split <;> rfl
  ·intro L _
   simp
  ·rw [ED (d:=dB) hl]; rfl
 ·rw [aj (by rw [f_ (show ¬((a.2.1.length:Int)=(b.2.1.length:Int)) by omega)]; rfl),Jq hl]
  rfl
theorem anA {n:Nat} {a b:bP} (ha:gU a) (hn:big<n):Lp n a b=some (decide (a=b),()):=by
 have hb':a.2.1.length<=1048576:=ha.1
 have hn':1048576<n:=hn
 unfold Lp
 rw [ab8]
 cases h1:decide (a.1=b.1)
 ·rfl
 simp only [jc,bJ,bF,yM]
 by_cases hl:a.2.1.length=b.2.1.length
 ·rw [aA (by simp [hl]), <-ED (d:=dB) hl]
  refine iA (fun i=>(a,b,(i:Int),())) _ _ (m:=a.2.1.length) rfl (by omega) ?_ ?_
  ·intro L i hi _
   have h0:okB (a.2.1.getD i dB):=by rw [getD_lt hi]; exact ha.2 _ (jY hi)
   simp only [g_,hi,bQ,a_,dz hi,dz (show i<b.2.1.length by omega),eD,gu hi (by omega),aho h0 hn,aL]
   split <;> rfl
  ·intro L _
   simp
 ·rw [aj (by rw [f_ (show ¬((a.2.1.length:Int)=(b.2.1.length:Int)) by omega)]; rfl),Jq hl]
theorem QB {n:Nat} (c:Int):rO n c=some (bad c,()):=rfl
theorem YP {s:bP} {o:OpC} {r:kE} (hg:nE s) (h:(iF o=0/\r=ng.mW (oW s o))\/(iF o≠0/\r=bad (iF o))) (h0:r.1=0):nE r.2.2.1:=by
 rcases h with ⟨h1,rfl⟩ | ⟨h1,rfl⟩
 ·unfold ng.mW at h0 ⊢
  by_cases h2:(oW s o).2.1=0
  ·rw [aj h2]
   exact YO.2 (ac2 (YO.1 hg) (right h1) h2)
  ·rw [aA h2] at h0
   exact absurd h0 h2
 ·exact absurd h0 h1
theorem ag3 {n:Nat} {s:bP} {l:List OpC} (hs:gU s) (hg:nE s) (hl:∀o∈l,okO o) (hn:big<n) :
  ∃r:kE,A9 n s l=some (r,())/\xH n s l=some (r,())/\Aj r/\(r.1=0->nE r.2.2.1):=by
 have hn':1048576<n:=hn
 obtain ⟨he,c,hc,hgc⟩:=zQ hs hn
 have h0:=hgc.2 hg
 unfold A9 xH
 by_cases h6:(l.length:Int)>60
 ·rw [gH h6,aj rfl,aj rfl]
  exact ⟨bad 2,rfl,rfl,FD _,fun h=>absurd h (by decide)⟩
 rw [f_ h6,aA (by decide),aA (by decide),he,hc]
 simp only [aL,h0,bQ,jc,bJ,bF,Jo hs hn,own hs hn,QB]
 generalize Co:(fun (L5:List OpC×Int×kE×kE×Unit->Option (kE×Unit)) v5=>_)=Bs
 generalize yj:(fun (L3:List OpC×Int×Int×kE×bP×Unit->Option (kE×Unit)) v3=>_)=Bi
 have key:∀(m i:Nat) (s:bP) (f:Nat),i+m=l.length->m<f->gU s->nE s->∃r:kE,rounds Bs f (l,(i:Int),bad 0,(0,[],s,()),())=some (r,())/\rounds Bi f (l,(l.length:Int),(i:Int),bad 0,s,())=some (r,())/\Aj r/\(r.1=0->nE r.2.2.1):=by
  intro m
  induction m with
  | zero=>
   intro i s f hi hf hs hg
   obtain ⟨f,rfl⟩:∃g,f=g+1:=⟨f - 1,by omega⟩
   refine ⟨(0,[],s,()), ?_, ?_,⟨by simp,hs⟩,fun _=>hg⟩
   ·show Bs (rounds Bs f) _=_
    rw [<-Co]
    simp only
    rw [aA (by rw [dH]; omega)]
   ·show Bi (rounds Bi f) _=_
    rw [<-yj]
    simp only
    rw [aA (by rw [dH]; omega)]
  | succ m ih=>
   intro i s f hi hf hs hg
   obtain ⟨f,rfl⟩:∃g,f=g+1:=⟨f - 1,by omega⟩
   have hlt:i<l.length:=by omega
   obtain ⟨r,e1,e2,e3,e4⟩:=XJ hs (hl _ (jY hlt)) hg hn
   have q1:rounds Bs (f+1) (l,(i:Int),bad 0,(0,[],s,()),())=if (!decide (r.1=(0:Int)))=true then some (bad r.1,()) else rounds Bs f (l,((i+1:Nat):Int),bad 0,(0,[],r.2.2.1,()),()):=by
    show Bs (rounds Bs f) _=_
    conv=>lhs; rw [<-Co]
    simp only [g_,hlt,bQ,a_,dz hlt,nT hlt,gu hlt (by omega),e1,aL]
    rw [Co]
   have q2:rounds Bi (f+1) (l,(l.length:Int),(i:Int),bad 0,s,())=if (!decide (r.1=(0:Int)))=true then some (bad r.1,()) else rounds Bi f (l,(l.length:Int),((i+1:Nat):Int),bad 0,r.2.2.1,()):=by
    show Bi (rounds Bi f) _=_
    conv=>lhs; rw [<-yj]
    simp only [g_,hlt,bQ,a_,dz hlt,nT hlt,gu hlt (by omega),e2,aL]
    rw [yj]
    rfl
   rw [q1,q2]
   by_cases hr:r.1=0
   ·rw [aA (by simp [hr]),aA (by simp [hr])]
    exact ih (i+1) _ f (by omega) (by omega) e3.2 (YP hg e4 hr)
   ·rw [aj (by simp [hr]),aj (by simp [hr])]
    exact ⟨bad r.1,rfl,rfl,FD _,fun h=>absurd h hr⟩
 exact key l.length 0 s n (by omega) (by omega) hs hg
abbrev jh:=Bool×List Int×List Int×bP×Unit
structure qQ (v:jh):Prop where
 s1:v.2.1.length<=big
 b1:dA v.2.1
 s2:v.2.2.1.length<=big
 b2:dA v.2.2.1
 st:gU v.2.2.2.1
abbrev eS:bP:=(1,[],())
theorem pW:gU eS/\nE eS:=⟨⟨by simp [big],fun b hb=>absurd hb (wR)⟩,⟨by decide,by decide,fun i hi=>absurd hi (Nat.not_lt_zero i)⟩⟩
noncomputable def opsV (v:jh):List OpC:=(jP v.2.1).1++(jP v.2.2.1).1
noncomputable def yL (v:jh):Bool:=decide (((jP v.2.1).2:Int)=(v.2.1.length:Int)) && decide (((jP v.2.2.1).2:Int)=(v.2.2.1.length:Int))
theorem JE {v:jh} (h:qQ v):∀o∈opsV v,okO o/\oo o:=fun o ho=>(bW.1 ho).elim (aah h.b1 o) (aah h.b2 o)
theorem TN {n:Nat} {v:jh} (h:qQ v) (hn:big<n):GH n v=some (opsV v,yL v,()):=by
 have h1:=(CP v.2.1).2.2
 have h2:=(CP v.2.2.1).2.2
 have g1:=h.s1
 have g2:=h.s2
 unfold big at g1 g2
 unfold GH sQ
 rw [NF h.b1 h.s1 hn,NF h.b2 h.s2 hn]
 simp only [aL]
 rw [aj (by omega)]
 unfold yL opsV
 cases decide (((jP v.2.1).2:Int)=(v.2.1.length:Int)) <;> rfl
theorem aa3 {n:Nat} {v:jh} (h:qQ v) (hn:big<n):GQ n v=some (opsV v,yL v,()):=by
 have h1:=(CP v.2.1).2.2
 have h2:=(CP v.2.2.1).2.2
 have g1:=h.s1
 have g2:=h.s2
 unfold big at g1 g2
 unfold GQ
 rw [aam h.b1 h.s1 hn,aam h.b2 h.s2 hn]
 simp only [aL]
 rw [aj (by omega)]
 unfold yL opsV
 cases decide (((jP v.2.1).2:Int)=(v.2.1.length:Int)) <;> rfl
theorem acH {n:Nat} {v:jh} (h:qQ v) (hn:big<n):∃c:Int,uB n v=some (c,())/\K8 n v=some (c,())/\
  (c=0->v.2.1.length+v.2.2.1.length<=8000/\(v.1=true->nE v.2.2.2.1/\(opsV v).length<=60)):=by
 have g1:=h.s1
 have g2:=h.s2
 unfold big at g1 g2
 obtain ⟨he,c,hc,hgc⟩:=zQ h.st hn
 obtain ⟨r,a1,a2,a3,a4⟩:=ag3 pW.1 pW.2 (fun o ho=>(JE h o ho).1) hn
 have a5:r.1=0->(opsV v).length<=60:=by
  intro h0
  by_cases h6:((opsV v).length:Int)>60
  ·unfold A9 at a1
   rw [gH h6,aj rfl,QB] at a1
   simp only [aL,au,bS,eX] at a1
   rw [<-a1] at h0
   exact absurd h0 (by decide)
  ·omega
 have e1:xJ n=some (eS,()):=rfl
 have e2:K7 n=some (eS,()):=rfl
 unfold uB K8
 simp only [he,hc,TN h hn,aa3 h hn,e1,e2,a1,a2,aL,FW a3.2 hn,anA a3.2 hn]
 rw [wrap_i64 (x:=(v.2.1.length:Int)+(v.2.2.1.length:Int)) (by omega) (by omega)]
 by_cases c1:(v.2.1.length:Int)+(v.2.2.1.length:Int)>8000
 ·simp only [gH c1,a_]
  exact ⟨2,rfl,rfl,fun h=>absurd h (by decide)⟩
 simp only [f_ c1,bJ,bF]
 have l8:v.2.1.length+v.2.2.1.length<=8000:=by omega
 cases hu:v.1 with
 | false=>
  simp only [mI,a_]
  by_cases c2:(v.2.2.1.length:Int)>0
  ·simp only [gH c2,a_]
   exact ⟨1,rfl,rfl,fun h=>absurd h (by decide)⟩
  simp only [f_ c2,bJ,bF]
  by_cases c3:v.2.2.2.1.1=0
  ·simp only [gH c3,jc,bJ,bF]
   by_cases c4:(v.2.2.2.1.2.1.length:Int)>0
   ·simp only [gH c4,a_]
    exact ⟨1,rfl,rfl,fun h=>absurd h (by decide)⟩
   simp only [f_ c4,bJ,bF]
   exact ⟨0,rfl,rfl,fun _=>⟨l8,fun hh=>absurd hh (by decide)⟩⟩
  ·simp only [f_ c3,mI,a_]
   exact ⟨1,rfl,rfl,fun h=>absurd h (by decide)⟩
 | true=>
  simp only [jc,bJ,bF]
  by_cases c2:c=0
  ·rw [gH c2]
   simp only [jc,bJ,bF]
   cases yL v with
   | false=>exact ⟨5,rfl,rfl,fun h=>absurd h (by decide)⟩
   | true=>
    simp only [jc,bJ,bF]
    by_cases c3:r.1=0
    ·rw [gH c3]
     simp only [jc,bJ,bF]
     cases decide (r.2.2.1=v.2.2.2.1) with
     | false=>exact ⟨9,rfl,rfl,fun h=>absurd h (by decide)⟩
     | true=>exact ⟨0,rfl,rfl,fun _=>⟨l8,fun _=>⟨hgc.1 c2,a5 c3⟩⟩⟩
    ·rw [f_ c3]
     exact ⟨9,rfl,rfl,fun h=>absurd h (by decide)⟩
  ·rw [f_ c2]
   exact ⟨c,rfl,rfl,fun h=>absurd h c2⟩
end Go.Proofs.YtailcbngagacaaaGreat.zo
