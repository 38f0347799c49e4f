/- Vaults: both sides find the same fault. -/
import Derived.Test.YtplpeegfeajkkaaGreatDoorJourMath
set_option linter.unusedVariables false
set_option linter.unusedSimpArgs false
namespace Go.Proofs.YtplpeegfeajkkaaGreatDoor.w9
open Go Ow nE nQ BH oI nS xV tK Iw M8 Qk
instance atM:DecidableEq cK:=inferInstance
instance atL:DecidableEq Bx:=instDecidableEqProd
instance atN:DecidableEq cu:=instDecidableEqProd
theorem ED{A:Type}[DecidableEq A]{xs ys:List A}{d:A}(hl:xs.length=ys.length):fJ (λj=>if(!decide (xs.getD j d=ys.getD j d))=true then some (some (false,()))else none) (some (true,())) xs.length 0=some (decide (xs=ys),()):=by
 by_cases h:xs=ys
 ·subst h
  rw[gQ rfl]
  exact ko (λj _ _=>by simp)
 ·rw[g_ h]
  rcases aab (step:=λj=>if(!decide (xs.getD j d=ys.getD j d))=true then some (some (false,()))else none) (fin:=some (true,())) (r:=some (false,())) (λj=>by
   by_cases hh:xs.getD j d=ys.getD j d
   ·rw[aC (by rw[gQ hh];decide)];exact .inl rfl
   ·rw[aj (by rw[g_ hh];decide)];exact .inr rfl) (m:=xs.length) (i:=0)with h1|h1
  ·exact h1
  ·exfalso
   refine h (Im hl λi h2 h3=>?_)
   have:=Sj (by simp) h1 i (fQ _) (by omega)
   rw[getD_lt h2,getD_lt h3]at this
   simpa using this
theorem aed(a b:cK):decide (a=b)=(decide (a.1=b.1)&&(decide (a.2.1=b.2.1)&&(decide (a.2.2.1=b.2.2.1)&&decide (a.2.2.2.1=b.2.2.2.1)))):=by
 obtain⟨a1,a2,a3,a4,_⟩:=a
 obtain⟨b1,b2,b3,b4,_⟩:=b
 simp only[bZ,fM,Bool.decide_and]
theorem aec(a b:Bx):decide (a=b)=(decide (a.1=b.1)&&(decide (a.2.1=b.2.1)&&(decide (a.2.2.1=b.2.2.1)&&decide (a.2.2.2.1=b.2.2.2.1)))):=by
 obtain⟨a1,a2,a3,a4,_⟩:=a
 obtain⟨b1,b2,b3,b4,_⟩:=b
 simp only[bZ,fM,Bool.decide_and]
theorem aee(a b:cu):decide (a=b)=(decide (a.1=b.1)&&decide (a.2.1=b.2.1)):=by
 obtain⟨a1,a2,_⟩:=a
 obtain⟨b1,b2,_⟩:=b
 simp only[bZ,fM,Bool.decide_and]
theorem JO{A:Type}[DecidableEq A]{xs ys:List A}(h:¬xs.length=ys.length):decide (xs=ys)=false:=g_ λe=>h (by rw[e])
theorem amC{n:Nat}{xs ys:List Int}(hb:xs.length<=big)(hn:big<n):LX n xs ys=some (decide (xs=ys),()):=by
 have hb':xs.length<=1048576:=hb
 unfold LX
 by_cases hl:xs.length=ys.length
 ·rw[aC (by simp[hl]),<-ED (d:=0) hl]
  refine gp (λi=>(xs,ys,(xs.length:Int),(i:Int),())) _ _ (m:=xs.length) rfl (by omega) ?_ ?_
  ·intro L i hi _
   simp only[eB,hi,bG,aQ,bU hi,bU (show i<ys.length by omega),dA,dL hi (by omega)]
   split<;>rfl
  ·intro L _
   simp
 ·rw[aj (by rw[g_ (show ¬((xs.length:Int)=(ys.length:Int)) by omega)];rfl),JO hl]
theorem aqp{n:Nat}{a b:cK}(ha:lG a)(hn:big<n):Ld n a b=some (decide (a=b),()):=by
 unfold Ld
 rw[aed,amC ha hn]
 simp only[aG]
 cases decide (a.1=b.1)<;>cases decide (a.2.1=b.2.1)<;>cases decide (a.2.2.1=b.2.2.1)<;>rfl
theorem aqr{n:Nat}{a b:cK}:Mi n a b=some (decide (a=b),()):=by
 unfold Mi
 rw[aed]
 cases decide (a.1=b.1)<;>cases decide (a.2.1=b.2.1)<;>cases decide (a.2.2.1=b.2.2.1)<;>rfl
theorem aqs{n:Nat}{xs ys:List cK}(hb:xs.length<=big)(hm:∀m∈xs,lG m)(hn:big<n):LU n xs ys=some (decide (xs=ys),()):=by
 have hb':xs.length<=1048576:=hb
 unfold LU
 by_cases hl:xs.length=ys.length
 ·rw[aC (by simp[hl]),<-ED (d:=dM) hl]
  refine gp (λi=>(ys,xs,(xs.length:Int),(i:Int),())) _ _ (m:=xs.length) rfl (by omega) ?_ ?_
  ·intro L i hi _
   have h0:lG (xs.getD i dM):=by rw[getD_lt hi];exact hm _ (iC hi)
   simp only[eB,hi,bG,aQ,bU hi,bU (show i<ys.length by omega),dA,dL hi (by omega),aqp h0 hn,aG]
   split<;>rfl
  ·intro L _
   simp
 ·rw[aj (by rw[g_ (show ¬((xs.length:Int)=(ys.length:Int)) by omega)];rfl),JO hl]
theorem akS{n:Nat}{a b:Bx}(ha:okB a)(hn:big<n):KZ n a b=some (decide (a=b),()):=by
 unfold KZ
 rw[aec,aqs ha.2.1 ha.2.2 hn]
 simp only[aG]
 cases decide (a.1=b.1)<;>cases decide (a.2.1=b.2.1)<;>cases decide (a.2.2.1=b.2.2.1)<;>rfl
theorem akT{n:Nat}{a b:Bx}(ha:okB a)(hn:big<n):Mh n a b=some (decide (a=b),()):=by
 have hb':a.2.2.2.1.length<=1048576:=ha.2.1
 have hn':1048576<n:=hn
 unfold Mh
 rw[aec]
 have hlp:∀(hl:a.2.2.2.1.length=b.2.2.2.1.length),_=some (decide (a.2.2.2.1=b.2.2.2.1),()):=λhl=>ED (d:=dM) hl
 cases h1:decide (a.1=b.1)
 ·rfl
 cases h2:decide (a.2.1=b.2.1)
 ·rfl
 cases h3:decide (a.2.2.1=b.2.2.1)
 ·rfl
 simp only[fK,bg,aZ,xO]
 by_cases hl:a.2.2.2.1.length=b.2.2.2.1.length
 ·rw[aC (by simp[hl]),<-hlp hl]
  refine gp (λi=>(a,b,(i:Int),())) _ _ (m:=a.2.2.2.1.length) rfl (by omega) ?_ ?_
  ·intro L i hi _
   simp only[eB,hi,bG,aQ,bU hi,bU (show i<b.2.2.2.1.length by omega),dA,dL hi (by omega),aqr,aG]
   split<;>rfl
  ·intro L _
   simp
 ·rw[aj (by rw[g_ (show ¬((a.2.2.2.1.length:Int)=(b.2.2.2.1.length:Int)) by omega)];rfl),JO hl]
theorem asI{n:Nat}{a b:cu}(ha:iK a)(hn:big<n):GJ n a b=some (decide (a=b),()):=by
 have hb':a.2.1.length<=1048576:=ha.1
 have hn':1048576<n:=hn
 unfold GJ P7
 rw[aee]
 cases h1:decide (a.1=b.1)
 ·rfl
 simp only[aQ,xO]
 by_cases hl:a.2.1.length=b.2.1.length
 ·rw[aC (by simp[hl]),<-ED (d:=dB) hl]
  refine(congrArg (λx=>Option.bind x λr1:Bool×Unit=>some (r1.1,())) (gp (λi=>(b.2.1,a.2.1,(a.2.1.length:Int),(i:Int),())) (λj=>if(!decide (a.2.1.getD j dB=b.2.1.getD j dB))=true then some (some (false,()))else none) (some (true,())) (m:=a.2.1.length) rfl (by omega) ?_ ?_)).trans ?_
  ·intro L i hi _
   have h0:okB (a.2.1.getD i dB):=by rw[getD_lt hi];exact ha.2 _ (iC hi)
   simp only[eB,hi,bG,aQ,bU hi,bU (show i<b.2.1.length by omega),dA,dL hi (by omega),akS h0 hn,aG]
   split<;>rfl
  ·intro L _
   simp
  ·rw[ED (d:=dB) hl];rfl
 ·rw[aj (by rw[g_ (show ¬((a.2.1.length:Int)=(b.2.1.length:Int)) by omega)];rfl),JO hl]
  rfl
theorem asJ{n:Nat}{a b:cu}(ha:iK a)(hn:big<n):Mg n a b=some (decide (a=b),()):=by
 have hb':a.2.1.length<=1048576:=ha.1
 have hn':1048576<n:=hn
 unfold Mg
 rw[aee]
 cases h1:decide (a.1=b.1)
 ·rfl
 simp only[fK,bg,aZ,xO]
 by_cases hl:a.2.1.length=b.2.1.length
 ·rw[aC (by simp[hl]),<-ED (d:=dB) hl]
  refine gp (λi=>(a,b,(i:Int),())) _ _ (m:=a.2.1.length) rfl (by omega) ?_ ?_
  ·intro L i hi _
   have h0:okB (a.2.1.getD i dB):=by rw[getD_lt hi];exact ha.2 _ (iC hi)
   simp only[eB,hi,bG,aQ,bU hi,bU (show i<b.2.1.length by omega),dA,dL hi (by omega),akT h0 hn,aG]
   split<;>rfl
  ·intro L _
   simp
 ·rw[aj (by rw[g_ (show ¬((a.2.1.length:Int)=(b.2.1.length:Int)) by omega)];rfl),JO hl]
theorem Zg{n:Nat}(c:Int):rX n c=some (bad c,()):=rfl
theorem ane{s:cu}{o:OpC}{r:oG}(hg:uw s)(h:(lQ o=0/\r=nS.oq (qG s o))\/(lQ o≠0/\r=bad (lQ o)))(h0:r.1=0):uw r.2.2.1:=by
 rcases h with⟨h1,rfl⟩|⟨h1,rfl⟩
 ·unfold nS.oq at h0 ⊢
  by_cases h2:(qG s o).2.1=0
  ·rw[aj h2]
   exact Sq.2 (ae5 (Sq.1 hg) (right h1) h2)
  ·rw[aC h2]at h0
   exact absurd h0 h2
 ·exact absurd h0 h1
theorem akA{n:Nat}{s:cu}{l:List OpC}(hs:iK s)(hg:uw s)(hl:∀o∈l,okO o)(hn:big<n) :
  ∃r:oG,Hz n s l=some (r,())/\Gw n s l=some (r,())/\J6 r/\(r.1=0->uw r.2.2.1):=by
 have hn':1048576<n:=hn
 obtain⟨he,c,hc,hgc⟩:=Sc hs hn
 have h0:=hgc.2 hg
 unfold Hz Gw
 by_cases h6:(l.length:Int)>60
 ·rw[gQ h6,aj rfl,aj rfl]
  exact⟨bad 2,rfl,rfl,OA _,λh=>absurd h (by decide)⟩
 rw[g_ h6,aC (by decide),aC (by decide),he,hc]
 simp only[aG,h0,bG,fK,bg,aZ,Oo hs hn,own hs hn,Zg]
 generalize Sz:(λ(L5:List OpC×Int×oG×oG×Unit->Option (oG×Unit)) v5=>_)=Bs
 generalize I9:(λ(L3:List OpC×Int×Int×oG×cu×Unit->Option (oG×Unit)) v3=>_)=Bi
 have key:∀(m i:Nat) (s:cu) (f:Nat),i+m=l.length->m<f->iK s->uw s->∃r:oG,rounds Bs f (l,(i:Int),bad 0,(0,[],s,()),())=some (r,())/\rounds Bi f (l,(l.length:Int),(i:Int),bad 0,s,())=some (r,())/\J6 r/\(r.1=0->uw r.2.2.1):=by
  intro m
  induction m with
  |zero=>
   intro i s f hi hf hs hg
   obtain⟨f,rfl⟩:∃g,f=g+1:=⟨f-1,by omega⟩
   refine⟨(0,[],s,()),?_,?_,⟨by simp,hs⟩,λ_=>hg⟩
   ·show Bs (rounds Bs f) _=_
    rw[<-Sz]
    simp only
    rw[aC (by rw[dW];omega)]
   ·show Bi (rounds Bi f) _=_
    rw[<-I9]
    simp only
    rw[aC (by rw[dW];omega)]
  |succ m ih=>
   intro i s f hi hf hs hg
   obtain⟨f,rfl⟩:∃g,f=g+1:=⟨f-1,by omega⟩
   have hlt:i<l.length:=by omega
   obtain⟨r,e1,e2,e3,e4⟩:=akz hs (hl _ (iC hlt)) hg hn
   have q1:rounds Bs (f+1) (l,(i:Int),bad 0,(0,[],s,()),())=if(!decide (r.1=(0:Int)))=true then some (bad r.1,())else rounds Bs f (l,((i+1:Nat):Int),bad 0,(0,[],r.2.2.1,()),()):=by
    show Bs (rounds Bs f) _=_
    conv=>lhs;rw[<-Sz]
    simp only[eB,hlt,bG,aQ,bU hlt,ku hlt,dL hlt (by omega),e1,aG]
    rw[Sz]
   have q2:rounds Bi (f+1) (l,(l.length:Int),(i:Int),bad 0,s,())=if(!decide (r.1=(0:Int)))=true then some (bad r.1,())else rounds Bi f (l,(l.length:Int),((i+1:Nat):Int),bad 0,r.2.2.1,()):=by
    show Bi (rounds Bi f) _=_
    conv=>lhs;rw[<-I9]
    simp only[eB,hlt,bG,aQ,bU hlt,ku hlt,dL hlt (by omega),e2,aG]
    rw[I9]
    rfl
   rw[q1,q2]
   by_cases hr:r.1=0
   ·rw[aC (by simp[hr]),aC (by simp[hr])]
    exact ih (i+1) _ f (by omega) (by omega) e3.2 (ane hg e4 hr)
   ·rw[aj (by simp[hr]),aj (by simp[hr])]
    exact⟨bad r.1,rfl,rfl,OA _,λh=>absurd h hr⟩
 exact key l.length 0 s n (by omega) (by omega) hs hg
abbrev l_:=Bool×List Int×List Int×cu×Unit
structure yc(v:l_):Prop where
 s1:v.2.1.length<=big
 b1:dX v.2.1
 s2:v.2.2.1.length<=big
 b2:dX v.2.2.1
 st:iK v.2.2.2.1
abbrev eS:cu:=(1,[],())
theorem ZT:iK eS/\uw eS:=⟨⟨by simp[big],λb hb=>absurd hb (x9)⟩,⟨by decide,by decide,λi hi=>absurd hi (Nat.not_lt_zero i)⟩⟩
noncomputable def opsV (v:l_):List OpC:=(jP v.2.1).1++(jP v.2.2.1).1
noncomputable def Kz (v:l_):Bool:=decide (((jP v.2.1).2:Int)=(v.2.1.length:Int))&&decide (((jP v.2.2.1).2:Int)=(v.2.2.1.length:Int))
theorem aqN{v:l_}(h:yc v):∀o∈opsV v,okO o/\qD o:=λo ho=>(dD.1 ho).elim (abF h.b1 o) (abF h.b2 o)
theorem aqO{n:Nat}{v:l_}(h:yc v)(hn:big<n):GM n v=some (opsV v,Kz v,()):=by
 have h1:=(Oh v.2.1).2.2
 have h2:=(Oh v.2.2.1).2.2
 have g1:=h.s1
 have g2:=h.s2
 unfold big at g1 g2
 unfold GM vG
 rw[abG h.b1 h.s1 hn,abG h.b2 h.s2 hn]
 simp only[aG]
 rw[aj (by omega)]
 unfold Kz opsV
 cases decide (((jP v.2.1).2:Int)=(v.2.1.length:Int))<;>rfl
theorem aqP{n:Nat}{v:l_}(h:yc v)(hn:big<n):Ma n v=some (opsV v,Kz v,()):=by
 have h1:=(Oh v.2.1).2.2
 have h2:=(Oh v.2.2.1).2.2
 have g1:=h.s1
 have g2:=h.s2
 unfold big at g1 g2
 unfold Ma
 rw[abJ h.b1 h.s1 hn,abJ h.b2 h.s2 hn]
 simp only[aG]
 rw[aj (by omega)]
 unfold Kz opsV
 cases decide (((jP v.2.1).2:Int)=(v.2.1.length:Int))<;>rfl
theorem aeM{n:Nat}{v:l_}(h:yc v)(hn:big<n):∃c:Int,GL n v=some (c,())/\HV n v=some (c,())/\
  (c=0->v.2.1.length+v.2.2.1.length<=8000/\(v.1=true->uw v.2.2.2.1/\(opsV v).length<=60)):=by
 have g1:=h.s1
 have g2:=h.s2
 unfold big at g1 g2
 obtain⟨he,c,hc,hgc⟩:=Sc h.st hn
 obtain⟨r,a1,a2,a3,a4⟩:=akA ZT.1 ZT.2 (λo ho=>(aqN h o ho).1) hn
 have a5:r.1=0->(opsV v).length<=60:=by
  intro h0
  by_cases h6:((opsV v).length:Int)>60
  ·unfold Hz at a1
   rw[gQ h6,aj rfl,Zg]at a1
   simp only[aG,au,bZ,fM]at a1
   rw[<-a1]at h0
   exact absurd h0 (by decide)
  ·omega
 have e1:K_ n=some (eS,()):=rfl
 have e2:Qa n=some (eS,()):=rfl
 unfold GL HV
 simp only[he,hc,aqO h hn,aqP h hn,e1,e2,a1,a2,aG,asI a3.2 hn,asJ a3.2 hn]
 rw[wrap_i64 (x:=(v.2.1.length:Int)+(v.2.2.1.length:Int)) (by omega) (by omega)]
 by_cases c1:(v.2.1.length:Int)+(v.2.2.1.length:Int)>8000
 ·simp only[gQ c1,aQ]
  exact⟨2,rfl,rfl,λh=>absurd h (by decide)⟩
 simp only[g_ c1,bg,aZ]
 have l8:v.2.1.length+v.2.2.1.length<=8000:=by omega
 cases hu:v.1 with
 |false=>
  simp only[jf,aQ]
  by_cases c2:(v.2.2.1.length:Int)>0
  ·simp only[gQ c2,aQ]
   exact⟨1,rfl,rfl,λh=>absurd h (by decide)⟩
  simp only[g_ c2,bg,aZ]
  by_cases c3:v.2.2.2.1.1=0
  ·simp only[gQ c3,fK,bg,aZ]
   by_cases c4:(v.2.2.2.1.2.1.length:Int)>0
   ·simp only[gQ c4,aQ]
    exact⟨1,rfl,rfl,λh=>absurd h (by decide)⟩
   simp only[g_ c4,bg,aZ]
   exact⟨0,rfl,rfl,λ_=>⟨l8,λhh=>absurd hh (by decide)⟩⟩
  ·simp only[g_ c3,jf,aQ]
   exact⟨1,rfl,rfl,λh=>absurd h (by decide)⟩
 |true=>
  simp only[fK,bg,aZ]
  by_cases c2:c=0
  ·rw[gQ c2]
   simp only[fK,bg,aZ]
   cases Kz v with
   |false=>exact⟨5,rfl,rfl,λh=>absurd h (by decide)⟩
   |true=>
    simp only[fK,bg,aZ]
    by_cases c3:r.1=0
    ·rw[gQ c3]
     simp only[fK,bg,aZ]
     cases decide (r.2.2.1=v.2.2.2.1)with
     |false=>exact⟨9,rfl,rfl,λh=>absurd h (by decide)⟩
     |true=>exact⟨0,rfl,rfl,λ_=>⟨l8,λ_=>⟨hgc.1 c2,a5 c3⟩⟩⟩
    ·rw[g_ c3]
     exact⟨9,rfl,rfl,λh=>absurd h (by decide)⟩
  ·rw[g_ c2]
   exact⟨c,rfl,rfl,λh=>absurd h c2⟩
end Go.Proofs.YtplpeegfeajkkaaGreatDoor.w9
