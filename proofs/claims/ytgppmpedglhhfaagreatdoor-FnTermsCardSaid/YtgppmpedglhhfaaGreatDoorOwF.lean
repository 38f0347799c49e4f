/- A verified reading of translated code, part F of 7. No condition. -/
import Derived.Test.YtgppmpedglhhfaaGreatDoorOwE
set_option linter.unusedSectionVars false
set_option linter.unusedVariables false
set_option linter.unusedSimpArgs false
namespace Go.Proofs.YtgppmpedglhhfaaGreatDoor.Ow
section
open Go
variable [Fr]
section
variable {P:Program}{T:bK}{cx:Cx}{Z:St}{J:aJ}{F:List Nat}{a:Act}{w:World}{ps:List aM}{c:Cont (kin ps)}{vs:List Value}{is:List aV}{gs:List GA}
theorem vM{j:Nat}{g:GA}(h:gs[j]?=some g):(qJ gs).loc (aG j)=g.base.getD (0,0)/\(qJ gs).hdr (aG j)=g.cs/\(qJ gs).fo (aG j)=g.fo:=by
 simp[qJ,ahm,h]
theorem RD.blk{j:Nat}{R:Root}{g:GA}{i:aV}{p:aM}(D:RD cx Z J F w ps vs is gs j R g i p):blk (qJ gs) R (aG j)=gu g:=by
 obtain⟨h1,h2,h3⟩:=vM D.hg
 unfold Ow.blk gu aL
 rw[h1,h3]
 rcases D.kind with⟨hk,_,_,b,o,hb,_⟩|⟨hk,hb,_⟩
 ·rw[hk,hb];rfl
 ·rw[hk,hb]
theorem RD.wh{j:Nat}{R:Root}{g:GA}{i:aV}{p:aM}(D:RD cx Z J F w ps vs is gs j R g i p):aL (qJ gs) R (aG j)=g.base:=by
 obtain⟨h1,h2,h3⟩:=vM D.hg
 unfold aL
 rw[h1]
 rcases D.kind with⟨hk,_,_,b,o,hb,_⟩|⟨hk,hb,_⟩
 ·rw[hk,hb];rfl
 ·rw[hk,hb]
theorem RD.live{j:Nat}{R:Root}{g:GA}{i:aV}{p:aM}(D:RD cx Z J F w ps vs is gs j R g i p):R.cu=false:=by
 unfold Root.cu
 rcases D.kind with⟨hk,_⟩|⟨hk,_⟩<;>rw[hk]
theorem aqB(H:Rel cx Z J F a w)(hJ:sj cx Z J F a w ps c vs is gs)(hA:Apart cx Z J F w ps is gs):Rel (iN cx Z J F w ps c is gs) (gD ps c) (qJ gs) [] ⟨vs.toArray,[]⟩ w:=by
 obtain⟨lv,li,lg,hat⟩:=hJ.at (i0:=0)
 simp only[jq]at hat
 have hroot:∀{r:Nat} {R:Root},(gD ps c).roots r=some R->∃j g i p,r=aG j/\RD cx Z J F w ps vs is gs j R g i p:=by
  intro r R h
  obtain⟨j,p,h1,h2⟩:=awJ (show jl (jv ps 0 c) r=some R from h)
  simp only[jq]at h1
  subst h1
  obtain⟨cj,v,i,g,e1,e2,e3,e4,e5,e6⟩:=hat j p h2
  have hR:jU p j cj=some R:=by rw[<-e6];exact h
  exact⟨j,g,i,p,rfl,Ij e4 e3 e2 h2 e1 hR⟩
 have ap9:∀{j:Nat} {R:Root},(gD ps c).roots (aG j)=some R->∃g i p,RD cx Z J F w ps vs is gs j R g i p:=by
  intro j R h
  obtain⟨j',g,i,p,h1,h2⟩:=hroot h
  have:=ahn h1
  subst this
  exact⟨g,i,p,h2⟩
 have hmk:∀{j:Nat} {g:GA},gs[j]?=some g->(g.ow=true\/g.wb=true)->∃R i p,(gD ps c).roots (aG j)=some R/\RD cx Z J F w ps vs is gs j R g i p:=by
  intro j g hg hh
  have hj:j<ps.length:=by have:=(oh.1 hg).1;omega
  obtain⟨cj,v,i,g',e1,e2,e3,e4,e5,e6⟩:=hat j ps[j] (fG hj)
  rw[hg]at e3
  simp only[ak]at e3
  subst e3
  obtain⟨R,hR⟩:=Mi j e4 hh
  have hr:(gD ps c).roots (aG j)=some R:=by show jl (jv ps 0 c) (aG j)=some R;rw[e6,hR]
  exact⟨R,i,ps[j],hr,Ij e4 hg e2 (fG hj) e1 hR⟩
 have hgj:∀{j:Nat} {g:GA},gs[j]?=some g->∃p cj v i,ps[j]?=some p/\vs[j]?=some v/\is[j]?=some i/\ru cx Z J F a w p cj v i g:=by
  intro j g hg
  have hj:j<ps.length:=by have:=(oh.1 hg).1;omega
  obtain⟨cj,v,i,g',e1,e2,e3,e4,_⟩:=hat j ps[j] (fG hj)
  rw[hg]at e3
  simp only[ak]at e3
  subst e3
  exact⟨ps[j],cj,v,i,fG hj,e1,e2,e4⟩
 have AZ:∀{j:Nat} {g:GA} {b:Nat},gs[j]?=some g->b∈gu g->(g.ow=true/\b∈F)\/(g.wb=true/\∃i r R q,is[j]?=some i/\i.wb=some (r,q)/\aY Z r R/\b∈blk J R r):=by
  intro j g b hg hb
  obtain⟨p,cj,v,i,e1,e2,e3,e4⟩:=hgj hg
  rcases(o9 H e4).1 b hb with h|⟨h,r,R,q,h1⟩
  ·exact .inl h
  ·exact .inr ⟨h,i,r,R,q,e3,h1⟩
 have hmn:∀{j:Nat} {g:GA} {b:Nat},gs[j]?=some g->b∈gu g->mine cx w b:=by
  intro j g b hg hb
  rcases AZ hg hb with⟨_,h⟩|⟨_,i,r,R,q,_,_,h1,h2⟩
  ·exact H.fl b h
  ·exact(H.roots r R h1).mine b h2
 have hlt:∀{j:Nat} {g:GA} {b:Nat},gs[j]?=some g->b∈gu g->b<w.heap.size:=λhg hb=>(hmn hg hb).1
 have ab2:∀{j:Nat} {g:GA} {b:Nat},gs[j]?=some g->g.ow=true->b∈gu g->b∈g.fo:=by
  intro j g b hg ho hb
  obtain⟨p,cj,v,i,e1,e2,e3,e4⟩:=hgj hg
  unfold gu at hb
  cases hbase:g.base with
  |none=>rw[hbase]at hb;simpa using hb
  |some q=>
   exfalso
   obtain⟨q1,q2⟩:=q
   obtain⟨r,R,q,_,_,_,_,h1,_⟩:=(o9 H e4).2.1 q1 q2 hbase
   have hw:g.wb=true:=(o9 H e4).2.2.2.2 (by rw[h1];simp)
   obtain⟨_,h⟩:=e4
   cases p<;>first|(obtain⟨g1,g2,_⟩:=h;rw[ho]at g1;simp at g1;done)|(obtain⟨g1,g2,_⟩:=h;rw[hw]at g2;simp at g2;done)|exact h.elim
 have abA:∀{j j':Nat} {g g':GA} {b:Nat},gs[j]?=some g->gs[j']?=some g'->j≠j'->b∈gu g->b∉gu g':=by
  intro j j' g g' b hg hg' hne hb hb'
  rcases AZ hg hb with⟨ho,h⟩|⟨hw,i,r,R,q,i1,w1,h1,h2⟩
  ·rcases AZ hg' hb' with⟨ho',h'⟩|⟨_,i',r',R',q',_,_,h1',h2'⟩
   ·refine flatMap_apart hA.own hg hg' hne b ?_ ?_
    ·rw[ho];exact ab2 hg ho hb
    ·rw[ho'];exact ab2 hg' ho' hb'
   ·exact H.dU r' R' h1' b h2' h
  ·rcases AZ hg' hb' with⟨_,h'⟩|⟨_,i',r',R',q',i2,w2,h1',h2'⟩
   ·exact H.dU r R h1 b h2 h'
   ·by_cases e:r=r'
    ·subst e
     exact hne (hA.one j j' i i' r q q' i1 i2 w1 w2)
    ·exact H.jr r R r' R' h1 h1' e b h2 h2'
 have hnd:∀{j:Nat} {R:Root} {g:GA} {i:aV} {p:aM},RD cx Z J F w ps vs is gs j R g i p->(gu g).Nodup:=by
  intro j R g i p D
  unfold gu
  rcases D.kind with⟨_,_,_,b,o,hb,hno⟩|⟨_,hb,_⟩
  ·rw[hb];exact jO.2 ⟨hno,D.nd⟩
  ·rw[hb];exact D.nd
 have TA:∀{j m:Nat} {i:aV} {p:aM} {g:GA} {b:Nat},is[j]?=some i->ps[j]?=some p->kZ Z J F w i.ids b->gs[m]?=some g->b∈gu g->m∈BP p/\(∃k bE,p=.val k bE/\∀i',is[m]?=some i'->∀t∈i'.bt,t∉k.tys):=by
  intro j m i p g b hi hp hb hg hbf
  rcases AZ hg hbf with⟨_,h⟩|⟨_,i',r,R,q,h0,h1,h2,h3⟩
  ·exact absurd h hb.2.1
  ·obtain⟨n,hn⟩:=hb.2.2 r R h2 h3
   obtain⟨g1,k,bE,g2,g3⟩:=hA.bE j p i r n hp hi hn m i' q h0 h1
   refine⟨g1,k,bE,g2,λxu h=>?_⟩
   rw[h0]at h
   simp only[ak]at h
   subst h
   exact g3
 have SG:∀{j:Nat} {i:aV} {p:aM} {b:Nat},is[j]?=some i->ps[j]?=some p->aN cx Z J F w i.ids b->(∀k bE,p=.val k bE->∃t∈k.tys,kT (hp w) b t)->(iN cx Z J F w ps c is gs).ext j b:=by
  intro j i p b hi hp hb ht
  refine⟨⟨i,hi,hb⟩,λm g q hg hbase e=>?_⟩
  have hbf:b∈gu g:=by unfold gu;rw[hbase,e];simp
  obtain⟨_,k,bE,h1,h2⟩:=TA hi hp hb.q hg hbf
  obtain⟨p',cj,v,i',e1,e2,e3,e4⟩:=hgj hg
  obtain⟨r,R,q',arr,e',lo,hi',f1,f2,f3,f4,f5,f6,f7,f8⟩:=(o9 H e4).2.1 q.1 q.2 (by rw[hbase])
  rcases f8 with⟨f8,f9,f10⟩|f8
  ·obtain⟨t,ht1,ht2⟩:=ht k bE h1
   have ht2:=H.BZ (hmn hg hbf) ht2
   rw[e]at ht2
   unfold iH at ht2
   rw[f4]at ht2
   simp only[ak]at ht2
   cases hbt:i'.bt with
   |nil=>exact f9 hbt
   |cons t0 l=>
    have hm:t0∈i'.bt:=by rw[hbt];simp
    exact h2 i' e3 t0 hm (by rw[f8 t0 hm,ht2];exact ht1)
  ·exact hb.2.2.1 (e▸f8)
 have Tj:∀{j:Nat} {i:aV} {p:aM} {b:Nat} {T:List Tag},is[j]?=some i->ps[j]?=some p->(iN cx Z J F w ps c is gs).ext j b->(gK j,0)∈T->(∀n∈BP p,(aG n,0)∈T)->aN (iN cx Z J F w ps c is gs) (gD ps c) (qJ gs) [] w T b:=by
  intro j i p b T hi hp hb ht hpr
  obtain⟨⟨i',hi',hok⟩,hno⟩:=hb
  rw[hi]at hi'
  simp only[ak]at hi'
  subst hi'
  refine⟨hok.1,by simp,?_,λr R hr hbr=>?_,λ_=>.inl ⟨j,0,ht,⟨i,hi,hok⟩,hno⟩⟩
  ·rintro⟨m,pi,o,n,h1,h2⟩
   simp only[iN]at h1
   cases hgm:gs[m]? with
   |none=>rw[hgm]at h1;simp at h1
   |some g=>
    cases hpm:ps[m]? with
    |none=>rw[hgm,hpm]at h1;simp at h1
    |some pm=>
     rw[hgm,hpm]at h1
     simp only at h1
     cases hh:(g.ow||g.wb)with
     |false=>rw[hh]at h1;simp at h1
     |true=>
      rw[hh]at h1
      simp only[fT,ak]at h1
      subst h1
      simp only at h2
      cases hbase:g.base with
      |none=>rw[hbase]at h2;simp at h2
      |some q=>
       rw[hbase]at h2
       simp only[gq,ak,bS]at h2
       exact hno m g q hgm hbase h2.1.symm
  ·obtain⟨m,g,im,pm,h1,D⟩:=hroot hr.1
   subst h1
   rw[D.blk]at hbr
   exact⟨0,hpr m (TA hi hp hok.q D.hg hbr).1⟩
 have apU:∀{j:Nat} {i:aV} {p:aM} {b:Nat},is[j]?=some i->ps[j]?=some p->(∀k bE,p≠.val k bE)->kZ Z J F w i.ids b->kZ (gD ps c) (qJ gs) [] w [(gK j,0)] b:=by
  intro j i p b hi hp DF hb
  refine⟨hb.1,by simp,λr R hr hbr=>?_⟩
  obtain⟨m,g,im,pm,h1,D⟩:=hroot hr.1
  subst h1
  rw[D.blk]at hbr
  obtain⟨_,k,bE,h2,_⟩:=TA hi hp hb D.hg hbr
  exact absurd h2 (DF k bE)
 have hpar:∀{j:Nat} {pi:Lh},(iN cx Z J F w ps c is gs).par j=some pi->∃g p,gs[j]?=some g/\ps[j]?=some p/\(g.ow=true\/g.wb=true)/\pi=⟨g.base.map λq=>(q.1,q.2,oN p),gu g,g.wb⟩:=by
  intro j pi h1
  simp only[iN]at h1
  cases hgm:gs[j]? with
  |none=>rw[hgm]at h1;simp at h1
  |some g=>
   cases hpm:ps[j]? with
   |none=>rw[hgm,hpm]at h1;simp at h1
   |some pm=>
    rw[hgm,hpm]at h1
    simp only at h1
    cases hh:(g.ow||g.wb)with
    |false=>rw[hh]at h1;simp at h1
    |true=>
     rw[hh]at h1
     simp only[fT,ak]at h1
     exact⟨g,pm,rfl,rfl,by simpa using hh,h1.symm⟩
 have ab4:∀{j:Nat} {R:Root} {g:GA} {i:aV} {p:aM},RD cx Z J F w ps vs is gs j R g i p->(iN cx Z J F w ps c is gs).par j=some ⟨g.base.map λq=>(q.1,q.2,oN p),gu g,g.wb⟩:=by
  intro j R g i p D
  simp only[iN]
  rw[D.hg,D.hq]
  have:(g.ow||g.wb)=true:=by simpa using D.held
  simp only[this,fT]
 have hsame:∀{j:Nat} {R R':Root},(gD ps c).roots (aG j)=some R->(gD ps c).roots (aG j)=some R'->R'=R:=λh1 h2=>by rw[h1]at h2;simpa using h2.symm
 have pz:∀{j:Nat} {g:GA} {p:aM} {b o:Nat},gs[j]?=some g->ps[j]?=some p->g.base=some (b,o)->∃arr e lo hi,hp w b=some (.cells arr e (lo,hi))/\iU arr.size lo hi/\o+oN p<=arr.size/\Cells (hp w) b o g.cs:=by
  intro j g p b o hg hp hb
  obtain⟨p',cj,v,i,e1,e2,e3,e4⟩:=hgj hg
  rw[hp]at e1
  simp only[ak]at e1
  subst e1
  obtain⟨r,R,q',arr,e',lo,hi',f1,f2,f3,f4,f5,f6,f7,f8⟩:=(o9 H e4).2.1 b o hb
  exact⟨arr,e',lo,hi',f4,f5,f6,f7⟩
 have ab_:∀s,iZ (iN cx Z J F w ps c is gs) (gD ps c) (qJ gs) [] w ((gD ps c).slots s) (vs.toArray.getD s undef)/\mZ (gD ps c) ((gD ps c).slots s):=by
  intro s
  rcases agU ps 0 c s with h|⟨j,p,cj0,hj,hps,hs0⟩
  ·have:(gD ps c).slots s=.one .undef:=h
   rw[this]
   exact⟨trivial,trivial⟩
  ·simp only[jq]at hj
   subst hj
   obtain⟨cj,v,i,g,e1,e2,e3,e4,e5,e6⟩:=hat s p hps
   have hsl:(gD ps c).slots s=.one (yZ p s cj):=e5
   have hvs:vs.toArray.getD s undef=v:=by
    rw[zL]
    simp[e1]
   rw[hsl,hvs]
   have hro:∀{k:K} {x:El k} {v:Value} {b o:Nat} {cs:List Value},(∀k bE,p≠.val k bE)->v=.pointer (some ⟨b,o,none⟩)->Cells (hp w) b o cs->Vw (hp w) (aN cx Z J F w i.ids) k x cs->kZ Z J F w i.ids b->BP p=[]->
     uX (iN cx Z J F w ps c is gs) (gD ps c) (qJ gs) [] w SENT k x [(gK s,0)] v:=by
    intro k x v b o cs DF hv hC hV hq hpr
    refine⟨⟨b,o,hv⟩,λ_=>⟨b,o,cs,hv,hC,ku (λ_ _=>rfl) (λb hb=>?_) hV,apU e2 hps DF hq,.inl ⟨rfl,λt ht=>by simp only[gY]at ht;subst ht;exact uG s⟩⟩⟩
    exact Tj e2 hps (SG e2 hps hb (λk bE h=>absurd h (DF k bE))) (by simp) (by rw[hpr];simp)
   have Tv:∀{R:Root},jU p s cj=some R->dK (gD ps c) (.ref (aG s) 0)/\dK (gD ps c) (.ptr (aG s) [] 0):=by
    intro R hR
    have hr:(gD ps c).roots (aG s)=some R:=by show jl (jv ps 0 c) (aG s)=some R;rw[e6,hR]
    exact⟨⟨R,hr,.inr (dW _)⟩,⟨R,hr,.inr (dW _)⟩⟩
   have abC:fI (gD ps c) [(gK s,0)]:=λt ht=>by simp only[gY]at ht;subst ht;exact .inl (uG s)
   have rM:∀{R:Root},jU p s cj=some R->R.kind=.anon->aW (iN cx Z J F w ps c is gs) (gD ps c) (qJ gs) [] w (.ref (aG s) 0) v:=by
    intro R hR hk Q hQ _
    have hr:(gD ps c).roots (aG s)=some R:=by show jl (jv ps 0 c) (aG s)=some R;rw[e6,hR]
    have D:=Ij e4 e3 e2 hps e1 hR
    have hQR:=hsame hr hQ.1
    subst hQR
    rcases D.kind with⟨hk',_⟩|⟨_,_,hV⟩
    ·rw[hk]at hk';simp at hk'
    ·refine⟨hk,?_⟩
     rw[(vM D.hg).2.1,<-e4.1]
     exact hV
   cases p with
   |val k bE=>
    obtain⟨h0,h1,h2,h3,h4,h5,h6,h7⟩:=e4
    refine⟨λhc=>⟨g.cs,h6,?_⟩,?_⟩
    ·cases hf:k.flat with
     |true=>exact lC hf h7
     |false=>
      rw[show(yZ (.val k bE) s cj)=.val k cj.1 ((gK s,0) :: bE.map λj=>(aG j,0)) by simp[yZ,hf]]at *
      refine ku (λ_ _=>rfl) (λb hb=>?_) (Gu k.tys (λ_ h=>h) h7)
      refine Tj e2 hps (SG e2 hps hb.1 (λk' azr h=>by simp only[aM.val.injEq]at h;obtain⟨rfl,_⟩:=h;exact hb.2)) (by simp) (λn hn=>by exact jD _ (d_.2 ⟨n,hn,rfl⟩))
    ·intro t ht
     cases hf:k.flat with
     |true=>simp[yZ,hf]at ht
     |false=>
      simp only[yZ,hf,jI,bM,d_]at ht
      rcases ht with ht|⟨m,hm,ht⟩
      ·subst ht;exact .inl (uG s)
      ·subst ht
       obtain⟨i',q,f1,f2⟩:=hA.prw s _ hps m hm
       have hm':m<gs.length:=by have:=(oh.1 f1).1;omega
       obtain⟨p',cj',v',xu,k1,k2,k3,k4⟩:=hgj (fG hm')
       rw[f1]at k3
       simp only[ak]at k3
       subst k3
       obtain⟨R,_,_,hR,_⟩:=hmk (fG hm') (.inr ((o9 H k4).2.2.2.2 (by rw[f2];simp)))
       exact .inr ⟨R,hR,.inr (dW _)⟩
   |ro k=>
    obtain⟨h0,h1,h2,h3,h4,h5,b,o,h6,h7,h8,h9⟩:=e4
    exact⟨hro (by simp) h6 h7 h8 h9 rfl,abC⟩
   |rw k ow wt ht=>
    obtain⟨R,hR⟩:=Mi s e4 (.inr e4.2.2.1)
    have hr:(gD ps c).roots (aG s)=some R:=by show jl (jv ps 0 c) (aG s)=some R;rw[e6,hR]
    have D:=Ij e4 e3 e2 hps e1 hR
    obtain⟨h0,h1,h2,r,R0,q,b,o,h3,h4,h5,h6,h7,_⟩:=e4
    refine⟨⟨⟨b,o,h6⟩,λQ hQ _ _ _ _=>⟨trivial,g.cs,b,o,?_,h6⟩⟩,(Tv hR).2⟩
    have hQR:=hsame hr hQ
    subst hQR
    simp only[aR]
    rw[D.wh,h7,(vM D.hg).2.1]
   |dQ k ow wt=>
    obtain⟨R,hR⟩:=Mi s e4 (.inr e4.2.2.1)
    exact⟨rM hR (by simp only[jU,ak]at hR;subst hR;rfl),(Tv hR).1⟩
   |own k ow=>
    obtain⟨R,hR⟩:=Mi s e4 (.inl e4.2.1)
    exact⟨rM hR (by simp only[jU,ak]at hR;subst hR;rfl),(Tv hR).1⟩
   |fn f ks=>
    obtain⟨h0,h1,h2,h3,h4,h5,us,h6,h7⟩:=e4
    have ao_:∀(ks:List K) (c0:Cont ks) (us:List Value),ru.Kv cx Z J F w ks c0 us i.ids->m_ (iN cx Z J F w ps c is gs) (gD ps c) (qJ gs) [] w (fA.Db s ks c0) us:=by
     intro ks
     induction ks with
     |nil=>intro c0 us h;cases us with
      |nil=>exact trivial
      |cons _ _=>exact h.elim
     |cons k ks ih=>intro c0 us h;cases us with
      |nil=>exact h.elim
      |cons u us=>
       obtain⟨⟨b,o,cs,g1,g2,g3,g4⟩,g5⟩:=h
       exact⟨hro (by simp) g1 g2 g3 g4 rfl,ih c0.2 us g5⟩
    have apa:∀(ks:List K) (c0:Cont ks),∀q∈fA.Db s ks c0,fI (gD ps c) q.2.2:=by
     intro ks
     induction ks with
     |nil=>intro c0 q hq;simp[fA.Db]at hq
     |cons k ks ih=>
      intro c0 q hq
      rcases bM.1 hq with h|h
      ·subst h;exact abC
      ·exact ih c0.2 q h
    exact⟨⟨us,h6,ao_ ks cj us h7⟩,apa ks cj⟩
   |into j q=>
    obtain⟨h0,h1,h2,h3,h4,h5,h6⟩:=e4
    cases q with
    |nil=>
     rcases h6 with⟨_,_,b,h6⟩|⟨h6,_⟩
     ·exact⟨⟨b,h6⟩,trivial⟩
     ·exact absurd rfl h6
    |cons t q=>
     rcases h6 with⟨h6,_⟩|⟨_,r,q',R,cs,b,o,l1,l2,l3,l4,l5,l6,l7⟩
     ·simp at h6
     ·obtain⟨k,ow,wt,ht,i',q1,u,m1,m2,m3,m4⟩:=hA.lie s j (t :: q) i r q' hps e2 l1
      obtain⟨cj',v',xu,g',f1,f2,f3,f4,f5,f6⟩:=hat j _ m1
      rw[m2]at f2
      simp only[ak]at f2
      subst f2
      have f4':=f4
      obtain⟨_,_,_,r2,R2,p2,b2,o2,hP,_,hn,_,hgb,_⟩:=f4'
      have hw:=hP.wb
      rw[m3]at hw
      simp only[ak,bS]at hw
      obtain⟨rfl,rfl,_⟩:=hw
      have hRR:R2=R:=by have:=hP.lv.1;rw[l2.1]at this;simpa using this.symm
      subst hRR
      rw[l7]at m4
      have hr0:(gD ps c).roots (aG j)=jU (.rw k ow wt ht) j cj':=f6
      have D:=Ij f4 f3 m2 m1 f1 rfl
      refine⟨⟨⟨b,o,l6⟩,λQ hQ _ _ _ _=>?_⟩,⟨_,hr0,.inr (dW _)⟩⟩
      rw[hr0]at hQ
      simp only[jU,ak]at hQ
      have e7:(qJ gs).hdr (aG j)=g'.cs:=(vM f3).2.1
      have e8:=D.wh
      rw[hQ]at e8
      subst hQ
      rw[m4]at l3 l5
      refine⟨alI q1 hP.get l3,cs,b,o,?_,l6⟩
      rw[e7,e8,<-l5,JR q1 hP.get hn,hgb]
      rfl
 constructor
 ·rfl
 ·exact dW _
 ·intro j pi b o n hj hb
  obtain⟨g,p,hg,hp,hh,rfl⟩:=hpar hj
  obtain⟨R,i,p',hr,D⟩:=hmk hg hh
  have:p'=p:=by have:=D.hq;rw[hp]at this;simpa using this.symm
  subst this
  simp only at hb
  cases hbase:g.base with
  |none=>rw[hbase]at hb;simp at hb
  |some q=>
   rw[hbase]at hb
   simp only[gq,ak,bS]at hb
   obtain⟨rfl,rfl,rfl⟩:=hb
   rcases D.kind with⟨hk,hs,_⟩|⟨_,hn,_⟩
   ·refine⟨R,⟨hr,D.live⟩,hk,?_,hs.symm⟩
    rw[(vM hg).1,hbase]
    rfl
   ·rw[hbase]at hn;simp at hn
 ·intro r R hr hk
  obtain⟨j,g,i,p,rfl,D⟩:=hroot hr.1
  rcases D.kind with⟨_,hs,_,b,o,hb,_⟩|⟨hk',_⟩
  ·refine⟨j,_,oN p,rfl,ab4 D,?_⟩
   rw[(vM D.hg).1,hb]
   rfl
  ·rw[hk]at hk';simp at hk'
 ·exact λs=>(ab_ s).1
 ·exact λs=>(ab_ s).2
 ·intro r R hr
  obtain⟨j,g,i,p,rfl,D⟩:=hroot hr.1
  obtain⟨a1,a2,a3⟩:=vM D.hg
  refine⟨λ_=>?_,by rw[a2];exact eY D.ow,λb o hb=>?_,by rw[D.blk];exact hnd D,λb hb=>?_⟩
  ·rw[a2,a3]
   have eD:=D.tags
   cases hall:(R.k.tys.all λt=>ay t R.own)with
   |true=>exact lU (oQ (nA hall)) D.ow
   |false=>
    rw[hall]at eD
    refine dR (λ_ _=>rfl) (λb hb=>?_) (λ_ _=>rfl) D.ow
    exact Tj D.hi D.hq (SG D.hi D.hq hb (λk bE h=>absurd h (D.aw7 k bE))) (by rw[eD];simp) (by rw[D.bE];simp)
  ·rw[D.wh]at hb
   obtain⟨arr,e,lo,hi,m1,m2,m3,m4⟩:=pz D.hg D.hq hb
   rw[a2]
   rcases D.kind with⟨hk,hs,_⟩|⟨_,hn,_⟩
   ·exact⟨m4,arr,e,lo,hi,m1,m2,by rw[<-hs];exact m3,λt ht=>by rw[hk]at ht;simp at ht⟩
   ·rw[hb]at hn;simp at hn
  ·rw[D.blk]at hb
   exact⟨hlt D.hg hb,.inr ⟨j,_,ab4 D,hb⟩⟩
 ·intro r R hr
  obtain⟨j,g,i,p,rfl,D⟩:=hroot hr
  have eD:=D.tags
  refine⟨λt ht=>?_,Il j,λn hn=>?_⟩
  ·rw[eD]at ht
   cases hall:(R.k.tys.all λt=>ay t R.own)with
   |true=>rw[hall]at ht;simp at ht
   |false=>rw[hall]at ht;simp only[jI,gY]at ht;subst ht;exact .inl (uG j)
  ·rw[eD]at hn
   cases hall:(R.k.tys.all λt=>ay t R.own)with
   |true=>rw[hall]at hn;simp at hn
   |false=>rw[hall]at hn;simp only[jI,gY,bS]at hn;unfold aG gK at hn;omega
 ·intro r R r' R' hr hr' hne b hb
  obtain⟨j,g,i,p,rfl,D⟩:=hroot hr.1
  obtain⟨j',g',i',p',rfl,D'⟩:=hroot hr'.1
  rw[D.blk]at hb
  rw[D'.blk]
  exact abA D.hg D'.hg (λe=>hne (by rw[e])) hb
 ·intro b hb;simp at hb
 ·exact mq
 ·intro r R _ b _ h;simp at h
 ·refine⟨rfl,rfl,rfl,bZ _,λ_ _ _=>rfl,λj pi b o n hj hb=>?_⟩
  obtain⟨g,p,hg,hp,hh,rfl⟩:=hpar hj
  simp only at hb
  cases hbase:g.base with
  |none=>rw[hbase]at hb;simp at hb
  |some q=>
   rw[hbase]at hb
   simp only[gq,ak,bS]at hb
   obtain⟨rfl,rfl,rfl⟩:=hb
   obtain⟨arr,e,lo,hi,m1,_⟩:=pz hg hp (b:=q.1) (o:=q.2) (by rw[hbase])
   exact kQ.of_same _ _ m1 rfl
 ·intro j pi hj hk
  obtain⟨g,p,hg,hp,hh,rfl⟩:=hpar hj
  obtain⟨R,i,p',hr,D⟩:=hmk hg hh
  refine⟨R,hr,λ_ b hb _=>.inr ⟨rfl,by simp,λq Q hq hbq=>?_⟩⟩
  obtain⟨j',g',i',p'',rfl,D'⟩:=hroot hq.1
  rw[D'.blk]at hbq
  by_cases e:j'=j
  ·rw[e]
  ·exact absurd hb (abA D'.hg hg e hbq)
 ·refine⟨λj pi hj b hb=>?_,λb hb=>⟨?_,λj pi hj hbl=>?_⟩,λb hb=>H.fixed hb⟩
  ·obtain⟨g,p,hg,hp,hh,rfl⟩:=hpar hj
   exact hlt hg hb
  ·exact vH (H.ql.2.1 b hb).1 H.frame.2.2.2.1
  ·obtain⟨g,p,hg,hp,hh,rfl⟩:=hpar hj
   exact H.ag7 (hmn hg hbl) hb
 ·intro j q ts v hv
  obtain⟨g,R0,c0,b,o,h1,h2,h3,h4,h5,h6,h7,h8⟩:=hv
  refine⟨⟨b,o,h8⟩,R0,h3,λ_=>⟨⟨b,o,h8⟩,λQ hQ _ _ _ _=>?_⟩⟩
  have hQR:=hsame (show(gD ps c).roots (aG j)=some R0 from h3) hQ
  subst hQR
  obtain⟨g',i',p',D⟩:=ap9 hQ
  have:g'=g:=by have:=D.hg;rw[h1]at this;simpa using this.symm
  subst this
  refine⟨h6,c0,b,o,?_,h8⟩
  rw[D.wh,(vM D.hg).2.1]
  exact h7
 ·intro j v hv
  obtain⟨g,h1,h2,h3,h4⟩:=hv
  obtain⟨R,i,p,hr,D⟩:=hmk h1 (.inr h4)
  refine⟨⟨R,hr⟩,λQ hQ _=>?_⟩
  have hQR:=hsame hr hQ.1
  subst hQR
  rcases D.kind with⟨_,_,_,b,o,hb,_⟩|⟨hk,_,hV⟩
  ·rw[h3]at hb;simp at hb
  ·refine⟨hk,?_⟩
   rw[(vM D.hg).2.1,<-h2]
   exact hV
end
end
section
open Go
variable [Fr]
def Qu(Z:St)(J:aJ)(w:World)(j:Nat)(p:List (Option Nat))(m:Int)(v:Value):Prop:=
 (m<0/\v=.pointer none)\/(0<=m/\∃R cs b o,aY Z (aG j) R/\bW (qU p m) R.k R.x/\aC (qU p m) R.k≠[]/\aR (hp w) (qU p m) R.k (J.hdr (aG j)) (aL J R (aG j))=some (cs,some (b,o))/\v=.pointer (some ⟨b,o,none⟩))
def ym(cx:Cx)(Z:St)(J:aJ)(F:List Nat)(w:World):(rs:List gJ)->Cont (iI rs)->List Value->List (List Nat)->Prop
 | [],_,[],[]=>True
 |.val k exts bE :: rs,c,v :: vs,fo :: az=>(fo=[]/\∃T cs,(k.flat=true\/pK exts bE T=true)/\VC k v cs/\Vw (hp w) (aN cx Z J F w T) k c.1 cs)/\ym cx Z J F w rs c.2 vs az
 |.own k ow exts bE :: rs,c,v :: vs,fo :: az=>(∃T cs own,((k.tys.all λt=>ay t ow)=true\/pK exts bE T=true)/\(∀t∈k.tys,ay t ow=true->ay t own=true)/\VC k v cs/\Ow (hp w) own (aN cx Z J F w T) k c.1 cs fo)/\ym cx Z J F w rs c.2 vs az
 |.ptr t k ow exts :: rs,c,v :: vs,fo :: az=>(∃b o T cs own bH,v=.pointer (some ⟨b,o,none⟩)/\fo=b :: bH/\((k.tys.all λt=>ay t ow)=true\/pK exts [] T=true)/\(∀t∈k.tys,ay t ow=true->ay t own=true)/\
   (Cells (hp w) b o cs/\∃arr e lo hi,hp w b=some (.cells arr e (lo,hi))/\iU arr.size lo hi/\o+k.size<=arr.size/\e=t)/\Ow (hp w) own (aN cx Z J F w T) k c.1 cs bH)/\ym cx Z J F w rs c.2 vs az
 |.into j p :: rs,c,v :: vs,fo :: az=>(fo=[]/\((p=[]/\∃b n cp,v=.slice b (show Int from c.1).toNat cp/\(show Int from c.1).toNat<=n/\aW cx Z J F w (.ref (aG j) 0) (.slice b n cp))\/(p≠[]/\Qu Z J w j p (show Int from c.1) v)))/\ym cx Z J F w rs c.2 vs az
 |_,_,_,_=>False
def Gr(Z:St)(k:K)(x:El k)(ow wt ht:List TypeId)(j:Nat):Prop:=
 ∃R,Z.roots (aG j)=some R/\cZ Z R/\(∃e:R.k=k,x=e▸R.x)/\uS k R.own ow=true/\BI R (some (wt,ht))=true/\((k.tys.all λt=>ay t ow)=true\/pK [j] [] R.tags=true)
def nN(Z:St):(ps:List aM)->Nat->Cont (gM ps)->Prop
 | [],_,_=>True
 |.rw k ow wt ht :: ps,j,c=>Gr Z k c.1 ow wt ht j/\nN Z ps (j+1) c.2
 |.dQ k ow wt :: ps,j,c=>Gr Z k c.1 ow wt k.tys j/\nN Z ps (j+1) c.2
 |.val _ _ :: ps,j,c=>nN Z ps (j+1) c
 |.ro _ :: ps,j,c=>nN Z ps (j+1) c
 |.own _ _ :: ps,j,c=>nN Z ps (j+1) c
 |.fn _ _ :: ps,j,c=>nN Z ps (j+1) c
 |.into _ _ :: ps,j,c=>nN Z ps (j+1) c
def uY:List Value->Value
 | [v]=>v
 |vs=>.tuple vs.toArray
def Post(cx:Cx)(ps:List aM)(rs:List gJ)(out:Cont (iI rs++gM ps))(v:Value)(w':World):Prop:=
 ∃Z J F a vs az,Rel cx Z J F a w'/\v=uY vs/\ym cx Z J F w' rs (Cont.fst _ _ out) vs az/\az.flatten.Nodup/\(∀b∈az.flatten,b∈F)/\nN Z ps 0 (Cont.snd _ _ out)
def ve(P:Program)(f:FuncId)(args:Array Value)(w:World)(R:Value->World->Prop):Prop:=
 ((callFunc f args).run P w=.ok (.enter f args) w/\Calls P f args w λe w'=>∃v,e=.returned v/\R v w')\/∃v w',(callFunc f args).run P w=.ok (.value v) w'/\R v w'
def x8(ps:List aM)(j:Nat)(k:K):Prop:=∃ow wt ht,ps[j]?=some (.rw k ow wt ht)\/ps[j]?=some (.dQ k ow wt)
structure Li(cx:Cx)(ps:List aM):Prop where
 par:∀j pi,cx.par j=some pi->pi.kp=true->∃k,x8 ps j k
 ptr:∀j p ts v,cx.ptrs j p ts v->∃k,x8 ps j k/\ts=iR p k
 ref:∀j v,cx.refs j v->∃k,x8 ps j k
def bg(P:Program)(n:Nat)(E:Entry):Prop:=
 ∀(c:Cont (kin E.ps)) (out:Cont (iI E.rs++gM E.ps)),E.F n c=some out->∀(cx:Cx) (J:aJ) (args:Array Value) (w:World),cx.nt=0->cx.w0=w->args.size=E.ps.length->Li cx E.ps->
  Rel cx (gD E.ps c) J [] ⟨args,[]⟩ w->ve P E.f args w (Post cx E.ps E.rs out)
section
variable {P:Program}{T:bK}{cx:Cx}{Z:St}{J:aJ}{F:List Nat}{a:Act}{w w':World}{ps:List aM}{c:Cont (kin ps)}{vs:List Value}{is:List aV}{gs:List GA}
structure u_(Z:St)(J:aJ)(is:List aV)(gs:List GA)(dF:St)(cz:aJ)(Ff:List Nat)(Z':St)(J':aJ)(F':List Nat):Prop where
 blk:∀q Q b,aY Z' q Q->b∈blk J' Q q->b∈Ff\/(∃Q0,aY Z q Q0/\b∈Ow.blk J Q0 q/\∀(m:Nat) (g:GA),gs[m]?=some g->b∉g.fo)\/
  ∃(m:Nat) (i:aV) (R:Root) (u:List Stp×List TypeId×List TypeId),is[m]?=some i/\i.wb=some (q,u)/\aY dF (aG m) R/\b∈Ow.blk cz R (aG m)
 F:∀b∈F',b∈Ff
theorem wV(H:Rel cx Z J F a w)(hJ:sj cx Z J F a w ps c vs is gs){j:Nat}{pi:Lh}(h:(iN cx Z J F w ps c is gs).par j=some pi):∃g p cj v i,gs[j]?=some g/\ps[j]?=some p/\is[j]?=some i/\ru cx Z J F a w p cj v i g/\(g.ow=true\/g.wb=true)/\pi=⟨g.base.map λq=>(q.1,q.2,oN p),gu g,g.wb⟩:=by
 obtain⟨lv,li,lg,hat⟩:=hJ.at (i0:=0)
 simp only[iN]at h
 cases hgm:gs[j]? with
 |none=>rw[hgm]at h;simp at h
 |some g=>
  cases hpm:ps[j]? with
  |none=>rw[hgm,hpm]at h;simp at h
  |some pm=>
   rw[hgm,hpm]at h
   simp only at h
   cases hh:(g.ow||g.wb)with
   |false=>rw[hh]at h;simp at h
   |true=>
    rw[hh]at h
    simp only[fT,ak]at h
    obtain⟨cj,v,i,g',e1,e2,e3,e4,_⟩:=hat j pm hpm
    rw[hgm]at e3
    simp only[ak]at e3
    subst e3
    exact⟨g,pm,cj,v,i,rfl,rfl,e2,e4,by simpa using hh,h.symm⟩
theorem axn(H:Rel cx Z J F a w)(hJ:sj cx Z J F a w ps c vs is gs):Li (iN cx Z J F w ps c is gs) ps:=by
 obtain⟨lv,li,lg,hat⟩:=hJ.at (i0:=0)
 simp only[jq]at hat
 have S9:∀{j:Nat} {g:GA},gs[j]?=some g->g.wb=true->∃p cj,ps[j]?=some p/\jl (jv ps 0 c) (aG j)=jU p j cj/\((∃k ow wt ht,p=.rw k ow wt ht)\/∃k ow wt,p=.dQ k ow wt):=by
  intro j g hg hw
  have hj:j<ps.length:=by have:=(oh.1 hg).1;omega
  obtain⟨cj,v,i,g',e1,e2,e3,e4,e5,e6⟩:=hat j ps[j] (fG hj)
  rw[hg]at e3
  simp only[ak]at e3
  subst e3
  refine⟨ps[j],cj,fG hj,e6,?_⟩
  obtain⟨k,x,ow,wt,ht,r,R,q,wh,h,_⟩:=ayM e4 hw
  rcases h with⟨h,_⟩|⟨h,_⟩
  ·exact .inl ⟨k,ow,wt,ht,h⟩
  ·exact .inr ⟨k,ow,wt,h⟩
 have hk:∀{j:Nat} {g:GA},gs[j]?=some g->g.wb=true->∃k,x8 ps j k/\∃R0,jl (jv ps 0 c) (aG j)=some R0/\R0.k=k:=by
  intro j g hg hw
  obtain⟨p,cj,h1,h2,h3⟩:=S9 hg hw
  rcases h3 with⟨k,ow,wt,ht,rfl⟩|⟨k,ow,wt,rfl⟩
  ·exact⟨k,⟨ow,wt,ht,.inl h1⟩,_,h2,rfl⟩
  ·exact⟨k,⟨ow,wt,[],.inr h1⟩,_,h2,rfl⟩
 refine⟨λj pi hj hkp=>?_,λj q ts v hv=>?_,λj v hv=>?_⟩
 ·obtain⟨g,p,cj,v,i,e1,e2,e3,e4,e5,rfl⟩:=wV H hJ hj
  obtain⟨k,h,_⟩:=hk e1 hkp
  exact⟨k,h⟩
 ·obtain⟨g,R0,c0,b,o,h1,h2,h3,h4,_⟩:=hv
  obtain⟨k,h,R1,h5,h6⟩:=hk h1 h2
  rw[h3]at h5
  simp only[ak]at h5
  subst h5
  exact⟨k,h,by rw[h4,h6]⟩
 ·obtain⟨g,h1,_,_,h2⟩:=hv
  obtain⟨k,h,_⟩:=hk h1 h2
  exact⟨k,h⟩
theorem JZ(H:Rel cx Z J F a w)(hJ:sj cx Z J F a w ps c vs is gs){dF:St}{cz:aJ}{Ff:List Nat}{af:Act}(Hf:Rel (iN cx Z J F w ps c is gs) dF cz Ff af w'){Z':St}{J':aJ}{F':List Nat}
  (B:u_ Z J is gs dF cz Ff Z' J' F') {Tg U:List Tag} (hU1:∀j n,(gK j,n)∈Tg->∀i,is[j]?=some i->∀t∈i.ids,∃n',(t.1,n')∈U) (hU2:∀m n,(aG m,n)∈Tg->∀i q,is[m]?=some i->i.wb=some q->∃n',(q.1,n')∈U)
  {b:Nat} (hb:aN (iN cx Z J F w ps c is gs) dF cz Ff w' Tg b):aN cx Z' J' F' w' U b:=by
 obtain⟨hb1,hb2,hb3,hb4,hb5⟩:=hb
 have hcl:w.heap.size<=b\/(b<w.heap.size/\∃j n i,(gK j,n)∈Tg/\is[j]?=some i/\aN cx Z J F w i.ids b)\/(b<w.heap.size/\∃(j:Nat) (g:GA),gs[j]?=some g/\b∈g.fo/\((g.ow=true/\b∈F)\/(g.wb=true/\∃r R,aY Z r R/\b∈J.fo r))):=by
  by_cases hlt:b<w.heap.size
  ·refine .inr ?_
   rcases hb5 hlt with⟨j,n,h1,⟨i,h2,h3⟩,_⟩|⟨j,pi,h1,h2⟩
   ·exact .inl ⟨hlt,j,n,i,h1,h2,h3⟩
   ·refine .inr ⟨hlt,?_⟩
    obtain⟨g,p,cj,v,i,e1,e2,e3,e4,e5,rfl⟩:=wV H hJ h1
    simp only at h2
    have hfo:b∈g.fo:=by
     unfold gu at h2
     cases hbase:g.base with
     |none=>rw[hbase]at h2;simpa using h2
     |some q=>
      rw[hbase]at h2
      simp only[gX,iA,bM]at h2
      rcases h2 with h2|h2
      ·exact absurd ⟨j,_,q.2,oN p,h1,by rw[hbase,h2];rfl⟩ hb3
      ·exact h2
    refine⟨j,g,e1,hfo,?_⟩
    rcases(o9 H e4).1 b (by unfold gu;exact bG _ hfo)with h|⟨h,_⟩
    ·exact .inl h
    ·obtain⟨r,R,q,_,f2,f3⟩:=(o9 H e4).2.2.1 b hfo h
     exact .inr ⟨h,r,R,f2,f3⟩
  ·exact .inl (Nat.le_of_not_lt hlt)
 refine⟨hb1,λh=>hb2 (B.F b h),?_,?_,?_⟩
 ·intro hbase
  have hlt:b<w.heap.size:=by
   obtain⟨j,pi,o,n,h1,h2⟩:=hbase
   obtain⟨Q,hQ,hk,hl,_⟩:=H.kG j pi b o n h1 h2
   exact((H.roots _ _ hQ).mine b (by simp[Ow.blk,aL,hk,hl])).1
  rcases hcl with h|⟨_,j,n,i,_,_,h⟩|⟨_,j,g,h1,h2,h⟩
  ·omega
  ·exact h.2.2.1 hbase
  ·rcases h with⟨_,h⟩|⟨_,r,R,h3,h4⟩
   ·exact zP H h hbase
   ·exact yN H h3 h4 hbase
 ·intro q Q hq hbq
  rcases B.blk q Q b hq hbq with h|⟨Q0,h1,h2,h3⟩|⟨m,i,R,u,h1,h2,h3,h4⟩
  ·exact absurd h hb2
  ·have hlt:=((H.roots q Q0 h1).mine b h2).1
   rcases hcl with h|⟨_,j,n,i,g1,g2,g3⟩|⟨_,j,g,g1,g2,_⟩
   ·omega
   ·obtain⟨n',hn'⟩:=g3.2.2.2.1 q Q0 h1 h2
    exact hU1 j n g1 i g2 _ hn'
   ·exact absurd g2 (h3 j g g1)
  ·obtain⟨n,hn⟩:=hb4 (aG m) R h3 h4
   exact hU2 m n hn i _ h1 h2
 ·intro h0
  have hlt:b<w.heap.size:=vH h0 H.frame.2.2.2.1
  have jT:Ow.mine cx w b->(∃j n,(gK j,n)∈U/\cx.ext j b)\/∃j pi,cx.par j=some pi/\b∈pi.bl:=λhm=>by
   rcases hm.2 with h|⟨j,pi,h1,h2⟩
   ·omega
   ·exact .inr ⟨j,pi,h1,h2⟩
  rcases hcl with h|⟨_,j,n,i,g1,g2,g3⟩|⟨_,j,g,g1,g2,g3⟩
  ·omega
  ·rcases g3.2.2.2.2 h0 with⟨j',n',f1,f2⟩|h
   ·obtain⟨n2,hn2⟩:=hU1 j n g1 i g2 _ f1
    exact .inl ⟨j',n2,hn2,f2⟩
   ·exact .inr h
  ·rcases g3 with⟨_,h⟩|⟨_,r,R,h3,h4⟩
   ·exact jT (H.fl b h)
   ·exact jT ((H.roots r R h3).mine b (bG _ h4))
end
end
section
open Go
variable [Fr]
def nI(gp:Bool)(Z:St):(ps:List aM)->List aV->Cont (gM ps)->List Wr->Prop
 | [],[],_,ws=>ws=[]
 |.rw k _ _ _ :: ps,i :: is,c,ws=>∃r p wt ht R z ws',i.wb=some (r,p,wt,ht)/\Z.roots r=some R/\bO p R.k R.x ⟨k,c.1⟩=some z/\ws=.r r (some { R with k:=z.1,x:=z.2,w:=(gy R p :: wt)++R.w,h:=(bif gp then k.tys else [])++(ht++R.h) }) :: ws'/\nI gp Z ps is c.2 ws'
 |.dQ k _ _ :: ps,i :: is,c,ws=>∃r p wt ht R z ws',i.wb=some (r,p,wt,ht)/\Z.roots r=some R/\bO p R.k R.x ⟨k,c.1⟩=some z/\ws=.r r (some { R with k:=z.1,x:=z.2,w:=(SENT :: (k.tys++wt))++R.w,h:=(bif gp then k.tys else [])++(ht++R.h) }) :: ws'/\nI gp Z ps is c.2 ws'
 |.val _ _ :: ps,_ :: is,c,ws=>nI gp Z ps is c ws
 |.ro _ :: ps,_ :: is,c,ws=>nI gp Z ps is c ws
 |.own _ _ :: ps,_ :: is,c,ws=>nI gp Z ps is c ws
 |.fn _ _ :: ps,_ :: is,c,ws=>nI gp Z ps is c ws
 |.into _ _ :: ps,_ :: is,c,ws=>nI gp Z ps is c ws
 |_,_,_,_=>False
theorem al1{A:Type}{z:A}{Z:St}{gp:Bool}:∀{ps:List aM} {is:List aV} {c:Cont (gM ps)} {k:List Wr->Prog A},(Am gp ps is c k).ends Z z->∃ws,nI gp Z ps is c ws/\(k ws).ends Z z:=by
 intro ps
 induction ps with
 |nil=>
  intro is c k h
  cases is with
  |nil=>exact⟨[],rfl,h⟩
  |cons _ _=>exact h.elim
 |cons p ps ih=>
  intro is c k h
  cases is with
  |nil=>cases p<;>exact h.elim
  |cons i is=>
   cases p with
   |rw kk ow wG ht0=>
    obtain⟨ids,wb,ws0,bt,aww⟩:=i
    cases wb with
    |none=>exact h.elim
    |some q=>
     obtain⟨r,p,wt,ht⟩:=q
     simp only[Am,Prog.ends]at h
     cases hr:Z.roots r with
     |none=>rw[hr]at h;exact h.elim
     |some R=>
      rw[hr]at h
      simp only at h
      cases hz:bO p R.k R.x ⟨kk,c.1⟩with
      |none=>rw[hz]at h;exact h.elim
      |some z=>
       rw[hz]at h
       obtain⟨ws,g1,g2⟩:=ih h
       exact⟨_,⟨r,p,wt,ht,R,z,ws,rfl,hr,hz,rfl,g1⟩,g2⟩
   |dQ kk ow wG=>
    obtain⟨ids,wb,ws0,bt,aww⟩:=i
    cases wb with
    |none=>exact h.elim
    |some q=>
     obtain⟨r,p,wt,ht⟩:=q
     simp only[Am,Prog.ends]at h
     cases hr:Z.roots r with
     |none=>rw[hr]at h;exact h.elim
     |some R=>
      rw[hr]at h
      simp only at h
      cases hz:bO p R.k R.x ⟨kk,c.1⟩with
      |none=>rw[hz]at h;exact h.elim
      |some z=>
       rw[hz]at h
       obtain⟨ws,g1,g2⟩:=ih h
       exact⟨_,⟨r,p,wt,ht,R,z,ws,rfl,hr,hz,rfl,g1⟩,g2⟩
   |val _ _=>exact ih h
   |ro _=>exact ih h
   |own _ _=>exact ih h
   |fn _ _=>exact ih h
   |into _ _=>exact ih h
theorem Z4{Z:St}{gp:Bool}:∀{ps:List aM} {is:List aV} {c:Cont (gM ps)} {ws:List Wr},(∀i∈is,i.wb=none)->nI gp Z ps is c ws->ws=[]:=by
 intro ps
 induction ps with
 |nil=>
  intro is c ws _ h
  cases is with
  |nil=>exact h
  |cons _ _=>exact h.elim
 |cons p ps ih=>
  intro is c ws hn h
  cases is with
  |nil=>cases p<;>exact h.elim
  |cons i is=>
   have hn':∀i∈is,i.wb=none:=λi hi=>hn i (by simp[hi])
   have h0:=hn i (by simp)
   cases p with
   |rw kk ow wG ht0=>obtain⟨r,p,wt,ht,R,z,ws',h1,_⟩:=h;rw[h0]at h1;simp at h1
   |dQ kk ow wG=>obtain⟨r,p,wt,ht,R,z,ws',h1,_⟩:=h;rw[h0]at h1;simp at h1
   |val _ _=>exact ih hn' h
   |ro _=>exact ih hn' h
   |own _ _=>exact ih hn' h
   |fn _ _=>exact ih hn' h
   |into _ _=>exact ih hn' h
theorem ahf{i:aV}{is:List aV}(h:uR (i :: is)=true):(i.wb=none/\uR is=true)\/(i.wb≠none/\∀i'∈is,i'.wb=none):=by
 unfold uR at h
 cases hw:i.wb with
 |none=>rw[hw]at h;exact .inl ⟨rfl,h⟩
 |some q=>
  rw[hw]at h
  refine .inr ⟨by simp,λi' hi=>?_⟩
  have:=dV.1 h i' hi
  cases hw':i'.wb with
  |none=>rfl
  |some _=>rw[hw']at this;simp at this
theorem al4{Z dF:St}:∀{ps:List aM} {is:List aV} {c:Cont (gM ps)} {ws:List Wr} {j0:Nat},uR is=true->(∀(m:Nat) (p:aM) (i:aV),ps[m]?=some p->is[m]?=some i->(∀k ow wt ht,p≠.rw k ow wt ht)->(∀k ow wt,p≠.dQ k ow wt)->i.wb=none)->
  nI false Z ps is c ws->nN dF ps j0 c->(ws=[]/\∀i∈is,i.wb=none)\/
  ∃(j:Nat) (i:aV) (k:K) (x:El k) (ow wt ht:List TypeId) (r:Nat) (p:List Stp) (R:Root) (z:Dat) (iX ht':List TypeId),is[j]?=some i/\i.wb=some (r,p,iX,ht')/\Z.roots r=some R/\bO p R.k R.x ⟨k,x⟩=some z/\Gr dF k x ow wt ht (j0+j)/\(∀(m:Nat) (i':aV),m≠j->is[m]?=some i'->i'.wb=none)/\
   ((ps[j]?=some (.rw k ow wt ht)/\ws=[.r r (some { R with k:=z.1,x:=z.2,w:=(gy R p :: iX)++R.w,h:=ht'++R.h })])\/(ps[j]?=some (.dQ k ow wt)/\ht=k.tys/\ws=[.r r (some { R with k:=z.1,x:=z.2,w:=(SENT :: (k.tys++iX))++R.w,h:=ht'++R.h })])):=by
 intro ps
 induction ps with
 |nil=>
  intro is c ws j0 _ _ hB _
  cases is with
  |nil=>exact .inl ⟨hB,by simp⟩
  |cons _ _=>exact hB.elim
 |cons p ps ih=>
  intro is c ws j0 h1 hal hB hO
  cases is with
  |nil=>cases p<;>exact hB.elim
  |cons i is=>
   have Me:∀(m:Nat) (p:aM) (i:aV),ps[m]?=some p->is[m]?=some i->(∀k ow wt ht,p≠.rw k ow wt ht)->(∀k ow wt,p≠.dQ k ow wt)->i.wb=none:=λm p i hp hi=>hal (m+1) p i (by simpa using hp) (by simpa using hi)
   have hrest:∀{c':Cont (gM ps)} {ws':List Wr},i.wb=none->nI false Z ps is c' ws'->nN dF ps (j0+1) c'->(ws'=[]/\∀i'∈i :: is,i'.wb=none)\/
     ∃(j:Nat) (i':aV) (k:K) (x:El k) (ow wt ht:List TypeId) (r:Nat) (q:List Stp) (R:Root) (z:Dat) (iX ht':List TypeId),(i :: is)[j]?=some i'/\i'.wb=some (r,q,iX,ht')/\Z.roots r=some R/\bO q R.k R.x ⟨k,x⟩=some z/\Gr dF k x ow wt ht (j0+j)/\(∀(m:Nat) (xu:aV),m≠j->(i :: is)[m]?=some xu->xu.wb=none)/\
      (((p :: ps)[j]?=some (.rw k ow wt ht)/\ws'=[.r r (some { R with k:=z.1,x:=z.2,w:=(gy R q :: iX)++R.w,h:=ht'++R.h })])\/((p :: ps)[j]?=some (.dQ k ow wt)/\ht=k.tys/\ws'=[.r r (some { R with k:=z.1,x:=z.2,w:=(SENT :: (k.tys++iX))++R.w,h:=ht'++R.h })])):=by
    intro c' ws' hw hB hO
    have ho:uR is=true:=by
     rcases ahf h1 with⟨_,h⟩|⟨h,_⟩
     ·exact h
     ·exact absurd hw h
    rcases ih ho Me hB hO with⟨e,h⟩|⟨j,i',k,x,ow,wt,ht,r,q,R,z,iX,ht',e1,e2,e3,e4,e5,e6,e7⟩
    ·refine .inl ⟨e,λi' hi=>?_⟩
     rcases bM.1 hi with h'|h'
     ·subst h';exact hw
     ·exact h i' h'
    ·refine .inr ⟨j+1,i',k,x,ow,wt,ht,r,q,R,z,iX,ht',by simpa using e1,e2,e3,e4,by rw[show j0+(j+1)=j0+1+j by omega];exact e5,λm xu hm hi=>?_,by simpa using e7⟩
     cases m with
     |zero=>simp only[rA,ak]at hi;subst hi;exact hw
     |succ m=>exact e6 m xu (by omega) (by simpa using hi)
   have hnw:∀{iX:Option (Nat×List Stp×List TypeId×List TypeId)},i.wb=iX->iX≠none->∀i'∈is,i'.wb=none:=by
    intro iX he hne
    rcases ahf h1 with⟨h,_⟩|⟨_,h⟩
    ·rw[he]at h;exact absurd h hne
    ·exact h
   cases p with
   |rw kk ow wG ht0=>
    obtain⟨r,q,wt,ht,R,z,ws',g1,g2,g3,g4,g5⟩:=hB
    have hn:=hnw g1 (by simp)
    have:=Z4 hn g5
    subst this
    refine .inr ⟨0,i,kk,c.1,ow,wG,ht0,r,q,R,z,wt,ht,rfl,g1,g2,g3,hO.1,λm i' hm hi=>?_,.inl ⟨rfl,g4⟩⟩
    cases m with
    |zero=>exact absurd rfl hm
    |succ m=>exact hn i' (p9 (by simpa using hi))
   |dQ kk ow wG=>
    obtain⟨r,q,wt,ht,R,z,ws',g1,g2,g3,g4,g5⟩:=hB
    have hn:=hnw g1 (by simp)
    have:=Z4 hn g5
    subst this
    refine .inr ⟨0,i,kk,c.1,ow,wG,kk.tys,r,q,R,z,wt,ht,rfl,g1,g2,g3,hO.1,λm i' hm hi=>?_,.inr ⟨rfl,rfl,g4⟩⟩
    cases m with
    |zero=>exact absurd rfl hm
    |succ m=>exact hn i' (p9 (by simpa using hi))
   |val k bE=>exact hrest (hal 0 _ i rfl rfl (by simp) (by simp)) hB hO
   |ro k=>exact hrest (hal 0 _ i rfl rfl (by simp) (by simp)) hB hO
   |own k ow=>exact hrest (hal 0 _ i rfl rfl (by simp) (by simp)) hB hO
   |fn f ks=>exact hrest (hal 0 _ i rfl rfl (by simp) (by simp)) hB hO
   |into j q=>exact hrest (hal 0 _ i rfl rfl (by simp) (by simp)) hB hO
end
section
open Go
variable [Fr]
section
variable {P:Program}{T:bK}{cx:Cx}{Z:St}{J:aJ}{F:List Nat}{a:Act}{w w':World}{ps:List aM}{c:Cont (kin ps)}{vs:List Value}{is:List aV}{gs:List GA}
theorem Fz{l m:List Nat}:mM l m=true↔∀t∈l,t∈m:=by
 unfold mM
 rw[dV]
 simp[fF]
theorem WA(h:Heap):∀(q:List Stp) {k:K} {cs:List Value} {wh:Option (Nat×Nat)} {c0:List Value} {w0:Option (Nat×Nat)},aC q k≠[]->aR h q k cs wh=some (c0,w0)->(∀cB,aR h q k cs cB=some (c0,w0))/\∃b o,w0=some (b,o):=by
 intro q
 induction q with
 |nil=>intro k cs wh c0 w0 h1;simp[aC]at h1
 |cons s q ih=>
  intro k cs wh c0 w0 h1 h2
  cases s with
  |aU n=>
   cases k with
   |st c=>
    simp only[aR]at h2 ⊢
    cases ho:bQ n c with
    |none=>rw[ho]at h2;simp at h2
    |some p=>
     obtain⟨off,k'⟩:=p
     rw[ho]at h2
     simp only at h2 ⊢
     have hk:aC.kC n c=some k':=by
      have:∀(n:Nat) {c:K} {off:Nat} {k':K},bQ n c=some (off,k')->aC.kC n c=some k':=by
       intro n
       induction n with
       |zero=>intro c off k' h;cases c<;>simp_all[bQ,aC.kC]
       |succ n ih=>
        intro c off k' h
        cases c with
        |pair a b=>
         simp only[bQ]at h
         cases h5:bQ n b with
         |none=>rw[h5]at h;simp at h
         |some q=>
          rw[h5]at h
          simp only[ak,bS]at h
          simp only[aC.kC]
          exact ih (by rw[h5,<-h.2])
        |_=>simp[bQ]at h
      exact this n ho
     have hpt:aC (.aU n :: q) (.st c)=aC q k':=by simp[aC,hk]
     rw[hpt]at h1
     obtain⟨g1,g2⟩:=ih h1 h2
     exact⟨λcB=>g1 _,g2⟩
   |_=>simp[aR]at h2
  |idx i=>
   cases k with
   |sl e k=>
    simp only[aR]at h2 ⊢
    split at h2
    ·rename_i ad _ _
     refine⟨λcB=>h2,?_⟩
     have key:∀(q:List Stp) {k:K} {cs:List Value} {p:Nat×Nat} {c0:List Value} {w0:Option (Nat×Nat)},aR h q k cs (some p)=some (c0,w0)->∃b o,w0=some (b,o):=by
      intro q
      induction q with
      |nil=>intro k cs p c0 w0 h;simp only[aR,ak,bS]at h;exact⟨p.1,p.2,h.2.symm⟩
      |cons s q ih=>
       intro k cs p c0 w0 h
       cases s with
       |aU n=>
        cases k with
        |st c=>
         simp only[aR]at h
         cases ho:bQ n c with
         |none=>rw[ho]at h;simp at h
         |some q2=>rw[ho]at h;exact ih h
        |_=>simp[aR]at h
       |idx i=>
        cases k with
        |sl e k=>
         simp only[aR]at h
         split at h
         ·exact ih h
         ·simp at h
        |_=>simp[aR]at h
     exact key q h2
    ·simp at h2
   |_=>simp[aR]at h2
theorem Z5(H:Rel cx Z J F a w){dF:St}{cz:aJ}{Ff G:List Nat}{r j:Nat}{R Rf R':Root}{i:aV}{u:List Stp×List TypeId×List TypeId}{g:GA}{rest:List Nat}{gB:aJ}{lw lh:List Nat}(hr:aY Z r R)(hi:is[j]?=some i)(hw:i.wb=some (r,u))(hlf:aY dF (aG j) Rf)
  (hg:gs[j]?=some g) (hpr:(J.fo r).Perm (g.fo++rest)) (hoth:∀(m:Nat) (gm:GA),m≠j->gs[m]?=some gm->∀b∈gm.fo,b∈F)
  (T:gQ cx Z J F w (aO Z r R') gB G w' (jY r lw) (jY r lh)) (hblk:∀b∈Ow.blk gB R' r,(∃o,aL J R r=some (b,o))\/b∈cz.fo (aG j)\/b∈rest) (hG:∀b∈G,b∈Ff):u_ Z J is gs dF cz Ff (aO Z r R') gB G:=by
 have hK:=H.roots r R hr
 have DD:=hK.nd
 rw[jd,tq]at DD
 have yS:=dJ.1 (hpr.nodup DD.2)
 have Te:∀{q:Nat} {Q:Root} {b:Nat},aY Z q Q->b∈Ow.blk J Q q->b∉g.fo->∀(m:Nat) (gm:GA),gs[m]?=some gm->b∉gm.fo:=by
  intro q Q b hq hb hno m gm hm pz
  by_cases e:m=j
  ·subst e
   rw[hg]at hm
   simp only[ak]at hm
   subst hm
   exact hno pz
  ·exact H.dU q Q hq b hb (hoth m gm e hm b pz)
 refine⟨λq Q b hq hb=>?_,hG⟩
 by_cases e:q=r
 ·subst e
  obtain⟨rfl,_⟩:=nY hq
  rcases hblk b hb with⟨o,h⟩|h|h
  ·have hbb:b∈Ow.blk J R q:=by rw[jd,lN];exact .inl ⟨o,h⟩
   exact .inr (.inl ⟨R,hr,hbb,Te hr hbb (λh'=>DD.1 b o h (hpr.mem_iff.2 (bV _ h')))⟩)
  ·exact .inr (.inr ⟨j,i,Rf,u,hi,hw,hlf,bG _ h⟩)
  ·have hbb:b∈Ow.blk J R q:=bG _ (hpr.mem_iff.2 (bG _ h))
   exact .inr (.inl ⟨R,hr,hbb,Te hr hbb (λh'=>yS.2.2 b h' b h rfl)⟩)
 ·have hq':=(Wn e).1 hq
  obtain⟨Q2,g1,g2⟩:=T.old q Q hq'.1
  have hS:Same Z J (aO Z r R') gB q:=by
   refine j6 λhns=>?_
   rw[jA Z R' e,hq'.1]at g1
   simp only[ak]at g1
   subst g1
   rcases g2 with⟨h1,_⟩|⟨_,h2⟩
   ·rw[hq'.2]at h1;simp at h1
   ·rcases h2.2.2.2.2.2.2 with h3|⟨_,_,h3⟩
    ·rw[tC _ e,tC _ e]at h3;simp at h3
    ·exact hns h3
  rw[hS.blk]at hb
  refine .inr (.inl ⟨Q,hq',hb,Te hq' hb (λh'=>?_)⟩)
  exact H.jr r R q Q hr hq' (Ne.symm e) b (bG _ (hpr.mem_iff.2 (bV _ h'))) hb
theorem ayb:∀(p:List Stp) {k:K} {x:El k} {t z:Dat},bW p k x->bO p k x t=some z->aD p z.1 z.2=some t/\bW p z.1 z.2/\aC p z.1=aC p k:=by
 intro p
 induction p with
 |nil=>
  intro k x t z _ hz
  simp only[bO,ak]at hz
  subst hz
  exact⟨rfl,trivial,rfl⟩
 |cons s p ih=>
  intro k x t z hp hz
  cases s with
  |aU n=>
   cases k with
   |st c=>
    simp only[bO]at hz
    simp only[bW]at hp
    cases hg:aP n c x with
    |none=>rw[hg]at hz;simp at hz
    |some s=>
     rw[hg]at hz hp
     simp only at hz hp
     cases hs:bO p s.1 s.2 t with
     |none=>rw[hs]at hz;simp at hz
     |some u=>
      rw[hs]at hz
      simp only at hz
      cases hcp:dB n c x u with
      |none=>rw[hcp]at hz;simp at hz
      |some y=>
       rw[hcp]at hz
       simp only[ak]at hz
       subst hz
       obtain⟨h1,h2,h3⟩:=ih hp hs
       have hg2:=GH n hcp
       refine⟨?_,?_,?_⟩
       ·show aD (.aU n :: p) (.st y.1) y.2=some t
        simp only[aD,hg2]
        exact h1
       ·show bW (.aU n :: p) (.st y.1) y.2
        simp only[bW,hg2]
        exact h2
       ·show aC (.aU n :: p) (.st y.1)=_
        simp only[aC,kg n hg2,kg n hg]
        exact h3
   |_=>exact hp.elim
  |idx i=>
   cases k with
   |sl e k=>
    simp only[bO]at hz
    obtain⟨hp0,hp1,hp2⟩:=hp
    cases hs:bO p k ((show List (El k)from x).getD i.toNat k.zero) t with
    |none=>rw[hs]at hz;simp at hz
    |some u=>
     rw[hs]at hz
     simp only at hz
     cases hc:b_ u.1 k u.2 with
     |none=>rw[hc]at hz;simp at hz
     |some y=>
      rw[hc]at hz
      simp only[ak]at hz
      subst hz
      obtain⟨ek,ey⟩:=iJ hc
      obtain⟨uk,ux⟩:=u
      simp only at ek
      subst ek
      simp only at ey
      subst ey
      obtain⟨h1,h2,h3⟩:=ih hp2 hs
      have hlt:i.toNat < @List.length (El uk) x:=by
       have:i<((@List.length (El uk) x:Nat):Int):=hp1
       omega
      have hgd:(show List (El uk)from(show List (El uk)from x).set i.toNat y).getD i.toNat uk.zero=y:=by
       have hl2:i.toNat<(@List.set (El uk) x i.toNat y).length:=by rw[List.length_set];exact hlt
       exact(nk hl2).trans (List.getElem_set_self hl2)
      refine⟨?_,⟨hp0,?_,?_⟩,?_⟩
      ·simp only[aD]
       rw[hgd]
       exact h1
      ·have:i<((@List.length (El uk) x:Nat):Int):=hp1
       simpa using this
      ·rw[hgd]
       exact h2
      ·rfl
   |_=>exact hp.elim
theorem al5(H:Rel cx Z J F a w)(hJ:sj cx Z J F a w ps c vs is gs)(ho:uR is=true){dF:St}{cz:aJ}{Ff:List Nat}{af:Act}(Hf:Rel (iN cx Z J F w ps c is gs) dF cz Ff af w')
  {c':Cont (gM ps)} {ws:List Wr} (hB:nI false Z ps is c' ws) (hO:nN dF ps 0 c') {G:List Nat} (hG:∀b∈G,b∈Ff) (hGn:G.Nodup) :
  ∃gB,Rel cx (aF ws Z) gB G a w'/\u_ Z J is gs dF cz Ff (aF ws Z) gB G/\(aF ws Z).slots=Z.slots/\(∀q,Z.roots q=none->(aF ws Z).roots q=none)/\(∀t,qw Z t->qw (aF ws Z) t)/\(ws=[]\/∃r R,ws=[.r r (some R)])/\
   ∀(j:Nat) (i:aV) (r:Nat) (q:List Stp) (wt ht:List TypeId),jm∉ht->is[j]?=some i->i.wb=some (r,q,wt,ht)->∃Rf R' R,dF.roots (aG j)=some Rf/\cZ dF Rf/\Rf.g=0/\ws=[.r r (some R')]/\Z.roots r=some R/\bW q R'.k R'.x/\(∀t∈aC q R'.k,ay t R'.own=true)/\aD q R'.k R'.x=some ⟨Rf.k,Rf.x⟩/\
    (cZ (aF ws Z) R'->∃wh,aR (hp w') q R'.k (gB.hdr r) (aL gB R' r)=some (cz.hdr (aG j),wh)):=by
 obtain⟨lv,li,lg,hat⟩:=hJ.at (i0:=0)
 simp only[jq]at hat
 obtain⟨f1,f2,f3,f4,f5,f6⟩:=Hf.frame
 have hgj:∀{j:Nat} {g:GA},gs[j]?=some g->∃p cj v i,ps[j]?=some p/\vs[j]?=some v/\is[j]?=some i/\ru cx Z J F a w p cj v i g:=by
  intro j g hg
  have hj:j<ps.length:=by have:=(oh.1 hg).1;omega
  obtain⟨cj,v,i,g',e1,e2,e3,e4,_⟩:=hat j ps[j] (fG hj)
  rw[hg]at e3
  simp only[ak]at e3
  subst e3
  exact⟨ps[j],cj,v,i,fG hj,e1,e2,e4⟩
 have oG:∀b,b<w.heap.size->hp w' b≠hp w b->∃(j:Nat) (g:GA),gs[j]?=some g/\b∈gu g/\(g.ow=true\/g.wb=true):=by
  intro b hb hne
  refine j6 λhno=>hne (f5 b hb λj pi hj hbl=>?_)
  obtain⟨g,p,cj,v,i,e1,e2,e3,e4,e5,rfl⟩:=wV H hJ hj
  exact hno ⟨j,g,e1,hbl,e5⟩
 have jT:∀b∈Ff,b<w'.heap.size/\(w.heap.size<=b\/∃(j:Nat) (g:GA),gs[j]?=some g/\b∈gu g/\(g.ow=true\/g.wb=true)):=by
  intro b hb
  obtain⟨h1,h2⟩:=Hf.fl b hb
  refine⟨h1,h2.imp id ?_⟩
  rintro⟨j,pi,h3,h4⟩
  obtain⟨g,p,cj,v,i,e1,e2,e3,e4,e5,rfl⟩:=wV H hJ h3
  exact⟨j,g,e1,h4,e5⟩
 have hal:∀(m:Nat) (p:aM) (i:aV),ps[m]?=some p->is[m]?=some i->(∀k ow wt ht,p≠.rw k ow wt ht)->(∀k ow wt,p≠.dQ k ow wt)->i.wb=none:=by
  intro m p i hp hi h1 h2
  obtain⟨cj,v,i',g,e1,e2,e3,e4,_⟩:=hat m p hp
  rw[hi]at e2
  simp only[ak]at e2
  subst e2
  obtain⟨_,e4⟩:=e4
  cases p with
  |val k bE=>exact e4.2.2.1
  |ro k=>exact e4.2.2.1
  |own k ow=>exact e4.2.2.1
  |fn f ks=>exact e4.2.2.1
  |rw k ow wt ht=>exact absurd rfl (h1 k ow wt ht)
  |dQ k ow wt=>exact absurd rfl (h2 k ow wt)
  |into j q=>exact e4.2.2.1
 have DU:∀{m:Nat} {g:GA} {i:aV},gs[m]?=some g->is[m]?=some i->i.wb=none->g.wb=false:=by
  intro m g i hg hi hn
  obtain⟨p,cj,v,i',e1,e2,e3,e4⟩:=hgj hg
  rw[hi]at e3
  simp only[ak]at e3
  subst e3
  cases hw:g.wb with
  |false=>rfl
  |true=>exact absurd hn ((o9 H e4).2.2.2.1 hw)
 have Bb:∀{m:Nat} {g:GA} {b:Nat},gs[m]?=some g->g.wb=false->b∈gu g->b∈F:=by
  intro m g b hg hw hb
  obtain⟨p,cj,v,i,e1,e2,e3,e4⟩:=hgj hg
  rcases(o9 H e4).1 b hb with⟨_,h⟩|⟨h,_⟩
  ·exact h
  ·rw[hw]at h;simp at h
 rcases al4 (j0:=0) ho hal hB hO with⟨rfl,hnone⟩|⟨j,i,k,x,ow,wt,ht,r,p,R,z,iX,ht',e1,e2,e3,e4,e5,e6,e7⟩
 ·
  have hnw:∀{m:Nat} {g:GA},gs[m]?=some g->g.wb=false:=by
   intro m g hg
   obtain⟨p,cj,v,i,g1,g2,g3,g4⟩:=hgj hg
   exact DU hg g3 (hnone i (p9 g3))
  have T:=EX (w':=w') (F':=G) H ⟨f1,f2,f3⟩ f4 (λb hb hne=>by obtain⟨j,g,h1,h2,_⟩:=oG b hb hne;exact Bb h1 (hnw h1) h2)
   (λb hb=>by
    obtain⟨h1,h2⟩:=jT b (hG b hb)
    rcases h2 with h2|⟨j,g,h3,h4,_⟩
    ·exact .inr ⟨h2,h1⟩
    ·exact .inl (Bb h3 (hnw h3) h4)) hGn
  refine⟨J,H.mem T,⟨λq Q b hq hb=>.inr (.inl ⟨Q,hq,hb,λm g hg hbg=>?_⟩),hG⟩,rfl,λq h=>h,λt h=>h,.inl rfl,λj i r q wt ht _ hi hw=>by rw[hnone i (p9 hi)]at hw;simp at hw⟩
  exact H.dU q Q hq b hb (Bb hg (hnw hg) (bG _ hbg))
 ·
  have hj:j<ps.length:=by rcases e7 with⟨h,_⟩|⟨h,_⟩<;>exact(oh.1 h).1
  obtain⟨g,hg⟩:∃g,gs[j]?=some g:=⟨gs[j]'(by omega),fG _⟩
  obtain⟨p0,cj,v,i',g1,g2,g3,g4⟩:=hgj hg
  rw[e1]at g3
  simp only[ak]at g3
  subst g3
  obtain⟨cj2,v2,i2,gg2,a1,a2,a3,a4,a5,a6⟩:=hat j p0 g1
  obtain⟨x0,wh,rest,hP,mK,hOw,hfo,hgn,hpr,fM,hwf,hgo,hbase,hps,hwt,hht,hR0⟩:∃(x0:El k) (wh:Option (Nat×Nat)) (rest:List Nat),yj cx Z J w k x0 ow i iX ht' r R p/\aR (hp w) p R.k (J.hdr r) (aL J R r)=some (g.cs,wh)/\Ow (hp w) R.own (aN cx Z J F w R.tags) k x0 g.cs g.fo/\(∀b∈g.fo,b∈J.fo r)/\g.fo.Nodup/\
    (J.fo r).Perm (g.fo++rest)/\(∀b o,wh=some (b,o)->b∈rest\/∃o0,aL J R r=some (b,o0)/\o0<=o/\o+k.size<=o0+R.k.size)/\(∀b o,wh=some (b,o)->b∉g.fo)/\
    (∀{t z:Dat} {tags':List Tag} {lw lh:List TypeId} {kp:Bool} {ft F':List Nat} {cs':List Value} {w':World},Ah cx Z J F w r R p ⟨k,x0⟩ R.own g.cs wh g.fo rest t z tags' lw lh kp ft F' cs' w'->
     ∃J',Rel cx (aO Z r (gz R z R.own tags' lw lh kp)) J' F' a w'/\gQ cx Z J F w (aO Z r (gz R z R.own tags' lw lh kp)) J' F' w' (jY r lw) (jY r lh)/\(∀b∈Ow.blk J' (gz R z R.own tags' lw lh kp) r,(∃o,aL J R r=some (b,o))\/b∈ft\/b∈rest)/\
      (jm∉lh->cZ (aO Z r (gz R z R.own tags' lw lh kp)) (gz R z R.own tags' lw lh kp)->aR (hp w') p z.1 (J'.hdr r) (aL J' (gz R z R.own tags' lw lh kp) r)=some (cs',wh))/\∀b∈ft,b∈J'.fo r)/\
    ((∃b o,wh=some (b,o)/\g.base=some (b,o))\/(g.base=none/\VC k g.v g.cs))/\(oN p0=k.size\/g.base=none)/\(iX=wt)/\(ht'=ht)/\
    (∃R0,jl (jv ps 0 c) (aG j)=some R0/\R0.k=k/\HEq R0.x x0/\R0.own=ow):=by
   have h4:ru cx Z J F a w p0 cj2 v2 i2 gg2:=a4
   rw[hg]at a3
   simp only[ak]at a3
   subst a3
   rw[e1]at a2
   simp only[ak]at a2
   subst a2
   rcases e7 with⟨h,_⟩|⟨h,apA,_⟩
   ·rw[g1]at h
    simp only[ak]at h
    subst h
    obtain⟨hv0,h1,h2,r1,R1,q1,b,o,h3,h4',h5,h6,h7,h8,h9,h10,h11,rest,h12,Dq,Dr,Dt⟩:=h4
    have hwb:=h3.wb
    rw[e2]at hwb
    simp only[ak,bS]at hwb
    obtain⟨rfl,rfl,rfl,rfl⟩:=hwb
    have hRR:R1=R:=by have:=h3.lv.1;rw[e3]at this;simpa using this.symm
    subst hRR
    refine⟨cj2.1,some (b,o),rest,h3,h5,h8,h9,h10,h12,Dq,Dr,Dt,.inl ⟨b,o,rfl,h7⟩,.inl rfl,rfl,rfl,?_⟩
    rw[a6]
    exact⟨_,rfl,rfl,HEq.rfl,rfl⟩
   ·rw[g1]at h
    simp only[ak]at h
    subst h
    obtain⟨hv0,h1,h2,r1,R1,q1,wh,h3,h4',h5,h6,h7,h8,h9,h10,rest,h12,Dq,Dr,Dt⟩:=h4
    have hwb:=h3.wb
    rw[e2]at hwb
    simp only[ak,bS]at hwb
    obtain⟨rfl,rfl,rfl,rfl⟩:=hwb
    have hRR:R1=R:=by have:=h3.lv.1;rw[e3]at this;simpa using this.symm
    subst hRR
    refine⟨cj2.1,wh,rest,h3,h5,h8,h9,h10,h12,Dq,Dr,Dt,.inr ⟨h7,hv0▸h6⟩,.inr h7,rfl,apA.symm,?_⟩
    rw[a6]
    exact⟨_,rfl,rfl,HEq.rfl,rfl⟩
  subst hwt
  subst hht
  rw[jq]at e5
  obtain⟨lw,apL,apM,apN,hws⟩:∃lw:List TypeId,(∀e∈iX,e∈lw)/\lw≠[]/\(g.base≠none->gy R p∈lw)/\ws=[.r r (some (gz R z R.own R.tags lw ht' R.keep))]:=by
   rcases e7 with⟨h,hw⟩|⟨h,hh,hw⟩
   ·exact⟨gy R p :: iX,λe he=>by simp[he],by simp,λ_=>by simp,hw⟩
   ·refine⟨SENT :: (k.tys++iX),λe he=>by simp[he],by simp,λhb=>?_,by rw[hw,hh];rfl⟩
    rw[g1]at h
    simp only[ak]at h
    subst h
    exact absurd (g4.2.2.2 |> λ⟨_,_,_,_,_,_,_,_,hb,_⟩=>hb) hb
  subst hws
  obtain⟨Rf,vW,xq,⟨ek,ex⟩,Dx,kV,pG⟩:=e5
  have hlf:aY dF (aG j) Rf:=⟨vW,xq.1⟩
  subst ek
  simp only at ex
  subst ex
  have Kf:=Hf.roots (aG j) Rf hlf
  have hgw:g.wb=true:=(o9 H g4).2.2.2.2 (by rw[e2];simp)
  have yT:(iN cx Z J F w ps c is gs).par j=some ⟨g.base.map λq=>(q.1,q.2,oN p0),gu g,g.wb⟩:=by
   simp only[iN]
   rw[hg,g1]
   simp[hgw]
  unfold BI at kV
  simp only[bf,Fz]at kV
  obtain⟨⟨⟨⟨l1,l2⟩,l3⟩,l4⟩,l5⟩:=kV
  have hg0:Rf.g=0:=bu l5
  have hkind:aL cz Rf (aG j)=g.base/\(g.base=none->cz.hdr (aG j)=g.cs):=by
   rcases hbase with⟨b,o,_,hb⟩|⟨hb,hV⟩
   ·obtain⟨Q,hQ,hk,hl,_⟩:=Hf.kG j _ b o (oN p0) yT (by simp[hb])
    have hQR:Q=Rf:=by have:=hQ.1;rw[vW]at this;simpa using this.symm
    subst hQR
    refine⟨?_,λh=>by rw[hb]at h;simp at h⟩
    unfold aL
    rw[hk,hl,hb]
   ·have hrf:=(Hf.uJ j g.v ⟨g,hg,rfl,hb,hgw⟩).2 Rf hlf hg0
    refine⟨by unfold aL;rw[hrf.1,hb],λ_=>?_⟩
    have h1:=hrf.2.cells
    have h2:=hV.cells
    rw[<-h1,h2]
  obtain⟨Mw,abx⟩:=hkind
  have abu:Ow.blk cz Rf (aG j)=(match g.base with|some q=>[q.1] | none=>[])++cz.fo (aG j):=by
   unfold Ow.blk
   rw[Mw]
   cases g.base<;>rfl
  have HY:(cz.fo (aG j)).Nodup:=(dJ.1 (abu▸Kf.nd)).2.1
  have apI:(cz.hdr (aG j)).length=Rf.k.size:=Kf.len
  have hK:=H.roots r R hP.lv
  have DD:=hK.nd
  rw[jd,tq]at DD
  have abH:∀b,b∈J.fo r↔b∈g.fo\/b∈rest:=λb=>by rw[hpr.mem_iff,dh]
  have yS:=dJ.1 (hpr.nodup DD.2)
  have hcells:∀b o,wh=some (b,o)->Cells (hp w') b o (cz.hdr (aG j))/\kQ (hp w) (hp w') b o Rf.k.size:=by
   intro b o hw
   obtain⟨m1,_,m2,⟨arr,e,lo,hi,m3,m4,m5,m6⟩,_⟩:=uU H hP.lv hP.vl hP.get hP.pin hP.own (by rw[mK,hw])
   rcases hbase with⟨b',o',hw',hb⟩|⟨hb,_⟩
   ·rw[hw]at hw'
    simp only[ak,bS]at hw'
    obtain⟨rfl,rfl⟩:=hw'
    have hm:=Kf.mem b o (by rw[Mw,hb])
    have hsz:oN p0=Rf.k.size:=by
     rcases hps with h|h
     ·exact h
     ·rw[hb]at h;simp at h
    have:=f6 j _ b o (oN p0) yT (by simp[hb])
    rw[hsz]at this
    exact⟨hm.1,this⟩
   ·have hlt:=(hK.mine b m2).1
    have hsame:hp w' b=hp w b:=by
     refine j6 λhne=>?_
     obtain⟨m,gm,h1,h2,h3⟩:=oG b hlt hne
     by_cases e:m=j
     ·subst e
      rw[hg]at h1
      simp only[ak]at h1
      subst h1
      unfold gu at h2
      rw[hb]at h2
      exact hwf b o hw (by simpa using h2)
     ·have hgm:gm.wb=false:=by
       obtain⟨pm,cm,vm,im,k1,k2,k3,k4⟩:=hgj h1
       exact DU h1 k3 (e6 m im e k3)
      exact H.dU r R hP.lv b m2 (Bb h1 hgm h2)
    rw[abx hb]
    exact⟨m1.congr hsame,kQ.of_same _ _ m3 hsame⟩
  have hwho:∀b,(w.heap.size<=b\/∃(j:Nat) (g:GA),gs[j]?=some g/\b∈gu g/\(g.ow=true\/g.wb=true))->(∀o,g.base≠some (b,o))->b<w'.heap.size->b∈g.fo\/b∈F\/(w.heap.size<=b/\b<w'.heap.size):=by
   intro b hb hnb hlt
   rcases hb with hb|⟨m,gm,h1,h2,h3⟩
   ·exact .inr (.inr ⟨hb,hlt⟩)
   ·by_cases e:m=j
    ·subst e
     rw[hg]at h1
     simp only[ak]at h1
     subst h1
     unfold gu at h2
     cases hbb:g.base with
     |none=>rw[hbb]at h2;exact .inl (by simpa using h2)
     |some q=>
      rw[hbb]at h2
      simp only[gX,iA,bM]at h2
      rcases h2 with h2|h2
      ·exact absurd (by rw[hbb,h2]) (hnb q.2)
      ·exact .inl h2
    ·have hgm:gm.wb=false:=by
      obtain⟨pm,cm,vm,im,k1,k2,k3,k4⟩:=hgj h1
      exact DU h1 k3 (e6 m im e k3)
     exact .inr (.inl (Bb h1 hgm h2))
  have AZ:∀b∈g.fo,b∈gu g:=λb hb=>bG _ hb
  have Tc:∀b∈g.fo,¬lM (iN cx Z J F w ps c is gs) b:=by
   rintro b hb ⟨m,pi,o,n,h1,h2⟩
   obtain⟨gm,pm,cm,vm,im,k1,k2,k3,k4,k5,rfl⟩:=wV H hJ h1
   simp only at h2
   cases pz:gm.base with
   |none=>rw[pz]at h2;simp at h2
   |some q=>
    rw[pz]at h2
    simp only[gq,ak,bS]at h2
    have abK:gm.wb=true:=by
     obtain⟨_,_,_,_,_,_,_,hw,_⟩:=(o9 H k4).2.1 q.1 q.2 (by rw[pz])
     exact(o9 H k4).2.2.2.2 (by rw[hw];simp)
    by_cases e:m=j
    ·subst e
     rw[hg]at k1
     simp only[ak]at k1
     subst k1
     rcases hbase with⟨b',o',hw',hb'⟩|⟨hb',_⟩
     ·rw[pz]at hb'
      simp only[ak]at hb'
      subst hb'
      exact hwf b' o' hw' (by have:=h2.1;simp only at this;rw[this];exact hb)
     ·rw[pz]at hb';simp at hb'
    ·have:=DU k1 k3 (e6 m im e k3)
     rw[this]at abK
     simp at abK
  have hkb:∀b∈g.fo,(∃e∈lw,iH (hp w) b=some e)\/(hp w' b=hp w b/\b∉Ff/\∀q Q,aY dF q Q->b∈Ow.blk cz Q q->q=aG j):=by
   intro b hb
   obtain⟨R2,h1,h2⟩:=Hf.sW j _ yT (by simp[hgw])
   rw[vW]at h1
   simp only[ak]at h1
   subst h1
   rcases h2 xq.1 b (AZ b hb) (Tc b hb)with⟨e,h3,h4⟩|h
   ·refine .inl ⟨e,apL e ?_,h3⟩
    rcases h4 with h4|h4
    ·exact l1 e h4
    ·exact l2 e h4
   ·exact .inr h
  have ao5:∀b∈cz.fo (aG j),∀o,g.base≠some (b,o):=by
   intro b hb o hbb
   have:=abu▸Kf.nd
   rw[hbb]at this
   simp only[gX,iA]at this
   exact(jO.1 this).1 hb
  have aoI:∀b∈Ff,∀o,g.base≠some (b,o):=λb hb o hbb=>zP Hf hb ⟨j,_,o,oN p0,yT,by simp[hbb]⟩
  have hoth:∀(m:Nat) (gm:GA),m≠j->gs[m]?=some gm->∀b∈gm.fo,b∈F:=by
   intro m gm e hm b hb
   obtain⟨pm,cm,vm,im,k1,k2,k3,k4⟩:=hgj hm
   exact Bb hm (DU hm k3 (e6 m im e k3)) (bG _ hb)
  have hPT:Ah cx Z J F w r R p ⟨Rf.k,x0⟩ R.own g.cs wh g.fo rest ⟨Rf.k,Rf.x⟩ z R.tags lw ht' R.keep (cz.fo (aG j)) G (cz.hdr (aG j)) w':=by
   refine⟨e4,rfl,λ_ h=>h,⟨f1,f2,f3⟩,f4,?_,hcells,?_,apI,.inl apM,⟨λ_ h=>h,(H.fE r R e3).1,(H.fE r R e3).2.2⟩,?_,HY,?_,hGn,?_,.inl rfl,.inl rfl,?_,?_⟩
   ·intro b hb hne
    obtain⟨m,gm,h1,h2,h3⟩:=oG b hb hne
    by_cases e:m=j
    ·subst e
     rw[hg]at h1
     simp only[ak]at h1
     subst h1
     unfold gu at h2
     rcases dh.1 h2 with h2|h2
     ·cases hbb:g.base with
      |none=>rw[hbb]at h2;simp at h2
      |some q=>
       rw[hbb]at h2
       simp only[gY]at h2
       rcases hbase with⟨b',o',hw',hb'⟩|⟨hb',_⟩
       ·rw[hbb]at hb'
        simp only[ak]at hb'
        subst hb'
        simp only at h2
        exact .inr (.inr ⟨o',by rw[h2];exact hw',apN (by rw[hbb];simp)⟩)
       ·rw[hbb]at hb';simp at hb'
     ·rcases hkb b h2 with h|h
      ·exact .inr (.inl ⟨h2,h⟩)
      ·exact absurd h.1 hne
    ·have hgm:gm.wb=false:=by
      obtain⟨pm,cm,vm,im,k1,k2,k3,k4⟩:=hgj h1
      exact DU h1 k3 (e6 m im e k3)
     exact .inl (Bb h1 hgm h2)
   ·intro hw
    rcases hbase with⟨b',o',hw',_⟩|⟨hb',_⟩
    ·rw[hw]at hw';simp at hw'
    ·exact abx hb'
   ·intro b hb
    have hbl:b∈Ow.blk cz Rf (aG j):=bG _ hb
    obtain⟨m1,m2⟩:=Kf.mine b hbl
    refine hwho b (m2.imp id ?_) (ao5 b hb) m1
    rintro⟨m,pi,h3,h4⟩
    obtain⟨gm,pm,cm,vm,im,k1,k2,k3,k4,k5,rfl⟩:=wV H hJ h3
    exact⟨m,gm,k1,h4,k5⟩
   ·intro b hb
    obtain⟨m1,m2⟩:=jT b (hG b hb)
    rcases hwho b m2 (aoI b (hG b hb)) m1 with h|h|h
    ·rcases hkb b h with h'|h'
     ·exact .inr (.inr ⟨h,h'⟩)
     ·exact absurd (hG b hb) h'.2.1
    ·exact .inl h
    ·exact .inr (.inl h)
   ·intro b hb SC
    exact Hf.dU (aG j) Rf hlf b (bG _ hb) (hG b SC)
   ·intro apy q c0 w0 cK rO hnq _
    by_cases hpt:aC q Rf.k=[]
    ·exact JS (own:=R.own) q cK (λt ht=>by rw[hpt]at ht;simp at ht) hnq
    ·obtain⟨hany,b,o,hw0⟩:=WA _ q hpt hnq
     subst hw0
     have hq:q≠[]:=λe=>hpt (by rw[e];simp[aC])
     have apZ:iR q Rf.k=jm :: aC q Rf.k:=by
      cases q with
      |nil=>exact absurd rfl hq
      |cons s q=>rfl
     have hto:∀t∈aC q Rf.k,ay t ow=true:=λt ht=>by
      have h1:=dV.1 hP.just t (zw q t ht)
      have h2:=(rO t ht).1
      have h1':ay t R.own=ay t ow:=by simpa using h1
      rw[<-h1',h2]
     obtain⟨R0,r1,r2,r3,r4⟩:=hR0
     have sS:(iN cx Z J F w ps c is gs).ptrs j q (iR q Rf.k) (.pointer (some ⟨b,o,none⟩)):=by
      refine⟨g,R0,c0,b,o,hg,hgw,r1,by rw[r2],λt ht=>by rw[r4];exact hto t (r2▸ht),?_,?_,rfl⟩
      ·obtain⟨Lj,Zv,_,_,_,_,_,_,_,_,_,_⟩:=R0
       simp only at r2 r3
       subst r2
       rw[eq_of_heq r3]
       exact cK
      ·rw[r2];exact hany _
     obtain⟨_,R2,h1,h2⟩:=Hf.uI j q _ _ sS
     rw[vW]at h1
     simp only[ak]at h1
     subst h1
     have hno:∀t∈ht',t∉iR q Rf.k:=by
      intro t ht hm
      rw[apZ]at hm
      rcases bM.1 hm with h|h
      ·exact apy (h▸ht)
      ·exact(rO t h).2 ht
     obtain⟨q1,cs,b',o',q2,q3⟩:=(h2 (λt ht hm=>hno t (l4 t hm) ht)).2 Rf vW xq (by
       unfold clean
       rw[dV]
       intro t ht
       have:t∈Rf.h:=La ht
       simp only[jN,gF]
       exact hno t (l3 t this))
      (λt ht=>by
       have h1:=dV.1 Dx t (zw q t ht)
       have h1':ay t Rf.own=ay t ow:=by simpa using h1
       rw[h1']
       exact hto t ht)
      (by rw[AU q (y:=x0)];exact Zt q cK)
     simp only[Value.pointer.injEq,ak,pQ,eO]at q3
     obtain⟨rfl,rfl⟩:=q3
     exact⟨q1,cs,(WA _ q hpt q2).1 _⟩
   ·intro J' Tn hblk _
    have hOf:=Kf.ow xq
    have hsame:∀t∈Rf.k.tys,ay t R.own=ay t Rf.own:=λt ht=>by
     have h1:=dV.1 hP.just t ht
     have h2:=dV.1 Dx t ht
     have h1':ay t R.own=ay t ow:=by simpa using h1
     have h2':ay t Rf.own=ay t ow:=by simpa using h2
     rw[h1',h2']
    refine sw hsame ?_
    rcases pG with hall|pG
    ·refine lU (oQ (λt ht=>?_)) hOf
     have h2:=dV.1 Dx t ht
     have h2':ay t Rf.own=ay t ow:=by simpa using h2
     rw[h2']
     exact nA hall t ht
    ·refine dR (λ_ _=>rfl) (λb hb=>?_) (λ_ _=>rfl) hOf
     refine JZ H hJ Hf (Z5 H hP.lv e1 e2 hlf hg hpr hoth Tn hblk hG) (λj' n hn i' hi' t ht=>?_) (λm n hn=>?_) hb
     ·have h1:=dV.1 pG _ hn
      simp only[uG,fT]at h1
      have h2:gK j' / 4=j':=by unfold gK;omega
      rw[h2,fF,gY]at h1
      subst h1
      rw[e1]at hi'
      simp only[ak]at hi'
      subst hi'
      rw[hP.ids]at ht
      exact⟨t.2,ht⟩
     ·have h1:=dV.1 pG _ hn
      have h2:Nat.beq (aG m%4) 0=true:=by unfold aG;simp
      simp only[Il,jI,h2,fT]at h1
      simp[ay]at h1
  obtain⟨gB,hR2,Sy,hb2,Tf,_⟩:=hgo hPT
  refine⟨gB,hR2,Z5 H hP.lv e1 e2 hlf hg hpr hoth Sy hb2 hG,rfl,λq hq=>?_,λt ht=>Sy.tag ht,.inr ⟨_,_,rfl⟩,λj' i' r' q' wG ht0 apz hi' hw'=>?_⟩
  rotate_left
  ·have ej:j'=j:=by
    refine j6 λhne=>?_
    rw[e6 j' i' hne hi']at hw'
    simp at hw'
   subst ej
   rw[e1]at hi'
   simp only[ak]at hi'
   subst hi'
   rw[e2]at hw'
   simp only[ak,bS]at hw'
   obtain⟨rfl,rfl,rfl,rfl⟩:=hw'
   obtain⟨s1,s2,s3⟩:=ayb p hP.pin e4
   exact⟨Rf,_,R,vW,xq,hg0,rfl,e3,s2,λt ht=>hP.own t (by rw[<-s3];exact ht),s1,λhv'=>⟨wh,Tf apz hv'⟩⟩
  have hne:q≠r:=λe=>by rw[e,e3]at hq;simp at hq
  show(aO Z r _).roots q=none
  rw[jA Z _ hne]
  exact hq
end
theorem wC{r:Nat}:∀{is:List aV} {n m:Nat},fH r is n=some m->∃i q,n<=m/\is[m-n]?=some i/\i.wb=some (r,q):=by
 intro is
 induction is with
 |nil=>intro n m h;simp[fH]at h
 |cons i is ih=>
  intro n m h
  unfold fH at h
  have hrec:fH r is (n+1)=some m->∃i' q,n<=m/\(i :: is)[m-n]?=some i'/\i'.wb=some (r,q):=by
   intro h
   obtain⟨i',q,h1,h2,h3⟩:=ih h
   refine⟨i',q,by omega,?_,h3⟩
   have:m-n=(m-(n+1))+1:=by omega
   rw[this]
   simpa using h2
  cases hw:i.wb with
  |none=>rw[hw]at h;exact hrec h
  |some q=>
   rw[hw]at h
   simp only at h
   cases hb:Nat.beq r q.1 with
   |true=>
    rw[hb]at h
    simp only[fT,ak]at h
    subst h
    exact⟨i,q.2,bZ _,by simp,by rw[hw,bu hb]⟩
   |false=>rw[hb]at h;exact hrec h
theorem ahl{r:Nat}:∀{is:List aV} {n:Nat},fH r is n=none->∀i∈is,∀q,i.wb≠some (r,q):=by
 intro is
 induction is with
 |nil=>intro n _ i hi;simp at hi
 |cons i is ih=>
  intro n h i' hi' q he
  unfold fH at h
  rcases bM.1 hi' with h'|h'
  ·subst h'
   rw[he]at h
   simp at h
  ·cases hw:i.wb with
   |none=>rw[hw]at h;exact ih h i' h' q he
   |some q'=>
    rw[hw]at h
    simp only at h
    cases hb:Nat.beq r q'.1 with
    |true=>rw[hb]at h;simp at h
    |false=>rw[hb]at h;exact ih h i' h' q he
def CP(is:List aV):Prop:=∀(j j':Nat) (i i':aV) (r:Nat) (u u':List Stp×List TypeId×List TypeId),is[j]?=some i->is[j']?=some i'->i.wb=some (r,u)->i'.wb=some (r,u')->j=j'
theorem CP.tail{i:aV}{is:List aV}(h:CP (i :: is)):CP is:=λj j' i1 i2 r u u' h1 h2 h3 h4=>by
 have:=h (j+1) (j'+1) i1 i2 r u u' (by simpa using h1) (by simpa using h2) h3 h4
 omega
theorem CP.none{i:aV}{is:List aV}(h:CP (i :: is)){r:Nat}{u:List Stp×List TypeId×List TypeId}(hw:i.wb=some (r,u))(n:Nat):fH r is n=none:=by
 cases hp:fH r is n with
 |none=>rfl
 |some m=>
  obtain⟨i',q,h1,h2,h3⟩:=wC hp
  have:=h 0 (m-n+1) i i' r u q rfl (by simpa using h2) hw h3
  omega
structure Cg(gp:Bool)(Z dF:St)(ps:List aM)(is:List aV)(Z2:St)(j0 q j:Nat):Prop where
 ex:∃(i:aV) (k:K) (x:El k) (ow wt ht:List TypeId) (p:List Stp) (R:Root) (z:Dat) (iX ht':List TypeId),j0<=j/\is[j-j0]?=some i/\ps[j-j0]?=some (.rw k ow wt ht)/\i.wb=some (q,p,iX,ht')/\Z.roots q=some R/\bO p R.k R.x ⟨k,x⟩=some z/\Gr dF k x ow wt ht j/\
  Z2.roots q=some { R with k:=z.1,x:=z.2,w:=(gy R p :: iX)++R.w,h:=(bif gp then k.tys else [])++(ht'++R.h) }
theorem Cg.up{gp:Bool}{Z dF:St}{p:aM}{ps:List aM}{i:aV}{is:List aV}{Z2:St}{j0 q j:Nat}(h:Cg gp Z dF ps is Z2 (j0+1) q j):Cg gp Z dF (p :: ps) (i :: is) Z2 j0 q j:=by
 obtain⟨i',k,x,ow,wt,ht,p',R,z,iX,ht',h0,h1,h2,h3⟩:=h
 have e:j-j0=(j-(j0+1))+1:=by omega
 exact⟨i',k,x,ow,wt,ht,p',R,z,iX,ht',by omega,by rw[e];simpa using h1,by rw[e];simpa using h2,h3⟩
theorem al2{gp:Bool}{Z dF:St}:∀{ps:List aM} {is:List aV} {c:Cont (gM ps)} {ws:List Wr} {j0:Nat} {jZ:St},nI gp Z ps is c ws->CP is->(∀p∈ps,JY p=true)->nN dF ps j0 c->
  (∀(m:Nat) (p:aM) (i:aV),ps[m]?=some p->is[m]?=some i->(∀k ow wt ht,p≠.rw k ow wt ht)->(∀k ow wt,p≠.dQ k ow wt)->i.wb=none)->
  (aF ws jZ).slots=jZ.slots/\(∀q,fH q is j0=none->(aF ws jZ).roots q=jZ.roots q)/\(∀q j,fH q is j0=some j->Cg gp Z dF ps is (aF ws jZ) j0 q j)/\
   ∀q R,ws.find? (λw=>w.loc.beq (.r q))=some (.r q (some R))->(aF ws jZ).roots q=some R:=by
 intro ps
 induction ps with
 |nil=>
  intro is c ws j0 jZ h _ _ _ _
  cases is with
  |nil=>
   have e:ws=[]:=h
   subst e
   exact⟨rfl,λ_ _=>rfl,λq j hq=>by simp[fH]at hq,λq R hf=>by simp at hf⟩
  |cons _ _=>exact h.elim
 |cons p ps ih=>
  intro is c ws j0 jZ h hon hnb hO hal
  cases is with
  |nil=>cases p<;>exact h.elim
  |cons i is=>
   have abY:=hon.tail
   have hnb':∀p∈ps,JY p=true:=λp hp=>hnb p (by simp[hp])
   have Me:∀(m:Nat) (p:aM) (i:aV),ps[m]?=some p->is[m]?=some i->(∀k ow wt ht,p≠.rw k ow wt ht)->(∀k ow wt,p≠.dQ k ow wt)->i.wb=none:=λm p i hp hi=>hal (m+1) p i (by simpa using hp) (by simpa using hi)
   have H8:∀{c':Cont (gM ps)},i.wb=none->nI gp Z ps is c' ws->nN dF ps (j0+1) c'->(aF ws jZ).slots=jZ.slots/\(∀q,fH q (i :: is) j0=none->(aF ws jZ).roots q=jZ.roots q)/\(∀q j,fH q (i :: is) j0=some j->Cg gp Z dF (p :: ps) (i :: is) (aF ws jZ) j0 q j)/\
     ∀q R,ws.find? (λw=>w.loc.beq (.r q))=some (.r q (some R))->(aF ws jZ).roots q=some R:=by
    intro c' hw hB hO
    obtain⟨g1,g2,g3,g4⟩:=ih (jZ:=jZ) hB abY hnb' hO Me
    have e:∀q,fH q (i :: is) j0=fH q is (j0+1):=λq=>by
     show(match i.wb with|some (r',_)=>bif Nat.beq q r' then some j0 else fH q is (j0+1)|none=>fH q is (j0+1))=_
     rw[hw]
    exact⟨g1,λq hq=>g2 q (by rw[<-e];exact hq),λq j hq=>(g3 q j (by rw[<-e];exact hq)).up,g4⟩
   cases p with
   |rw k ow wt ht=>
    obtain⟨r,p,iX,ht',R,z,ws',h1,h2,h3,rfl,h5⟩:=h
    obtain⟨qd,hO2⟩:=hO
    obtain⟨g1,g2,g3,g4⟩:=ih (jZ:=aO jZ r { R with k:=z.1,x:=z.2,w:=(gy R p :: iX)++R.w,h:=(bif gp then k.tys else [])++(ht'++R.h) }) h5 abY hnb' hO2 Me
    have e:∀q,fH q (i :: is) j0=bif Nat.beq q r then some j0 else fH q is (j0+1):=λq=>by
     show(match i.wb with|some (r',_)=>bif Nat.beq q r' then some j0 else fH q is (j0+1)|none=>fH q is (j0+1))=_
     rw[h1]
    have hr:(aF ws' (aO jZ r { R with k:=z.1,x:=z.2,w:=(gy R p :: iX)++R.w,h:=(bif gp then k.tys else [])++(ht'++R.h) })).roots r=some { R with k:=z.1,x:=z.2,w:=(gy R p :: iX)++R.w,h:=(bif gp then k.tys else [])++(ht'++R.h) }:=
     (g2 r (hon.none h1 _)).trans (fQ ..)
    have hne:∀{q:Nat},Nat.beq q r=false->q≠r:=λh e=>by subst e;simp at h
    refine⟨g1,λq hq=>?_,λq j hq=>?_,λq R' hf=>?_⟩
    ·rw[e]at hq
     cases hb:Nat.beq q r with
     |true=>rw[hb]at hq;simp at hq
     |false=>
      rw[hb]at hq
      exact(g2 q hq).trans (jA _ _ (hne hb))
    ·rw[e]at hq
     cases hb:Nat.beq q r with
     |true=>
      rw[hb]at hq
      simp only[fT,ak]at hq
      subst hq
      have oI:=bu hb
      subst oI
      exact⟨i,k,c.1,ow,wt,ht,p,R,z,iX,ht',bZ _,by simp,by simp,h1,h2,h3,qd,hr⟩
     |false=>
      rw[hb]at hq
      exact(g3 q j hq).up
    ·simp only[List.find?_cons,Wr.loc,Loc.beq]at hf
     cases hb:Nat.beq r q with
     |true=>
      rw[hb]at hf
      simp only[ak,Wr.r.injEq]at hf
      obtain⟨rfl,rfl⟩:=hf
      exact hr
     |false=>
      rw[hb]at hf
      exact g4 q R' hf
   |dQ k ow wt=>have:=hnb _ (jE ..);simp[JY]at this
   |val k bE=>exact H8 (hal 0 _ i rfl rfl (by simp) (by simp)) h hO
   |ro k=>exact H8 (hal 0 _ i rfl rfl (by simp) (by simp)) h hO
   |own k ow=>exact H8 (hal 0 _ i rfl rfl (by simp) (by simp)) h hO
   |fn f ks=>exact H8 (hal 0 _ i rfl rfl (by simp) (by simp)) h hO
   |into j q=>exact H8 (hal 0 _ i rfl rfl (by simp) (by simp)) h hO
section
variable {P:Program}{T:bK}{cx:Cx}{Z:St}{J:aJ}{F:List Nat}{a:Act}{w w':World}{ps:List aM}{c:Cont (kin ps)}{vs:List Value}{is:List aV}{gs:List GA}
structure x9(cx:Cx)(Z:St)(J:aJ)(w:World)(is:List aV)(gs:List GA)(dF:St)(cz:aJ)(Ff:List Nat)(w':World)(Z2:St)(q j:Nat)(g:GA)(R Rf:Root)(b o:Nat)(lw lh:List TypeId):Prop where
 gj:gs[j]?=some g
 gw:g.wb=true
 lr:aY Z q R
 vr:cZ Z R
 wh:aL J R q=some (b,o)
 base:g.base=some (b,o)
 fo:∀b'∈g.fo,b'∈J.fo q
 bfo:b∉g.fo
 lf:aY dF (aG j) Rf
 vf:cZ dF Rf
 r2:Z2.roots q=some (gz R ⟨Rf.k,Rf.x⟩ R.own R.tags lw lh R.keep)
 sz:R.k=Rf.k
 XB:aL cz Rf (aG j)=some (b,o)
 lw0:lw≠[]
 gap:∀t∈Rf.k.tys,t∈lh
 keep:∀b'∈g.fo,(∃e∈lw,iH (hp w) b'=some e)\/(hp w' b'=hp w b'/\b'∉Ff/\∀q' Q,aY dF q' Q->b'∈Ow.blk cz Q q'->q'=aG j)
 bty:(∃e∈lw,iH (hp w) b=some e)\/(lM cx b/\lw≠[])
 own:∀t∈Rf.k.tys,ay t R.own=ay t Rf.own
 tags:(∀t∈Rf.k.tys,ay t Rf.own=true)\/pK [j] [] Rf.tags=true
 ids:∃i u,is[j]?=some i/\i.wb=some (q,u)/\i.ids=R.tags
 same:kQ (hp w) (hp w') b o Rf.k.size
theorem awt(H:Rel cx Z J F a w)(hJ:sj cx Z J F a w ps c vs is gs)(hA:Apart cx Z J F w ps is gs)(hw:XC is=true){dF:St}{cz:aJ}{Ff:List Nat}{af:Act}(Hf:Rel (iN cx Z J F w ps c is gs) dF cz Ff af w'){Z2:St}{q j:Nat}(h:Cg true Z dF ps is Z2 0 q j) :
  ∃g R Rf b o lw lh,x9 cx Z J w is gs dF cz Ff w' Z2 q j g R Rf b o lw lh:=by
 obtain⟨lv,li,lg,hat⟩:=hJ.at (i0:=0)
 simp only[jq]at hat
 obtain⟨f1,f2,f3,f4,f5,f6⟩:=Hf.frame
 obtain⟨i,k,x,ow,wt,ht,p,R,z,iX,ht',_,e1,e2,e3,e4,e5,e6,e7⟩:=h
 rw[Nat.sub_zero]at e1 e2
 have hp0:p=[]:=by
  have:=dV.1 hw i (p9 e1)
  rw[e3]at this
  simpa using this
 subst hp0
 simp only[bO,ak]at e5
 subst e5
 obtain⟨cj,v,i',g,a1,a2,a3,a4,a5,a6⟩:=hat j _ e2
 rw[e1]at a2
 simp only[ak]at a2
 subst a2
 obtain⟨hv0,h1,h2,r1,R1,q1,b,o,h3,h4',h5,h6,h7,h8,h9,h10,h11,rest,h12,Dq,Dr,Dt⟩:=id a4
 have hwb:=h3.wb
 rw[e3]at hwb
 simp only[ak,bS]at hwb
 obtain⟨rfl,rfl,rfl,rfl⟩:=hwb
 have hRR:R1=R:=by have:=h3.lv.1;rw[e4]at this;simpa using this.symm
 subst hRR
 obtain⟨Rf,vW,xq,⟨ek,ex⟩,Dx,kV,pG⟩:=e6
 have hlf:aY dF (aG j) Rf:=⟨vW,xq.1⟩
 subst ek
 simp only at ex
 subst ex
 have hget:=h3.get
 simp only[aD,ak]at hget
 have hRk:R1.k=Rf.k:=congrArg (λd:Dat=>d.1) hget
 simp only[aR,ak,bS]at h5
 obtain⟨hcs,fM⟩:=h5
 have hgw:g.wb=true:=h2
 have yT:(iN cx Z J F w ps c is gs).par j=some ⟨g.base.map λq=>(q.1,q.2,oN (.rw Rf.k ow iX ht')),gu g,g.wb⟩:=by
  simp only[iN]
  rw[a3,e2]
  simp[hgw]
 have Kf:=Hf.roots (aG j) Rf hlf
 unfold BI at kV
 simp only[bf,Fz]at kV
 obtain⟨⟨⟨⟨l1,l2⟩,l3⟩,l4⟩,l5⟩:=kV
 have Mw:aL cz Rf (aG j)=some (b,o):=by
  obtain⟨Q,hQ,hk,hl,_⟩:=Hf.kG j _ b o (oN (.rw Rf.k ow iX ht')) yT (by simp[h7])
  have hQR:Q=Rf:=by have:=hQ.1;rw[vW]at this;simpa using this.symm
  subst hQR
  unfold aL
  rw[hk,hl]
 have Tc:∀b'∈g.fo,¬lM (iN cx Z J F w ps c is gs) b':=by
  rintro b' hb' ⟨m,pi,o',n,hm,hbs⟩
  obtain⟨gm,pm,cm,vm,im,k1,k2,k3,k4,k5,rfl⟩:=wV H hJ hm
  simp only at hbs
  cases pz:gm.base with
  |none=>rw[pz]at hbs;simp at hbs
  |some u=>
   rw[pz]at hbs
   simp only[gq,ak,bS]at hbs
   obtain⟨rm,Rm,qm,_,_,_,_,w1,w2,w3,_⟩:=(o9 H k4).2.1 u.1 u.2 (by rw[pz])
   by_cases e:m=j
   ·subst e
    rw[a3]at k1
    simp only[ak]at k1
    subst k1
    rw[pz]at h7
    simp only[ak]at h7
    exact h11 (by rw[show b=u.1 by rw[h7],hbs.1];exact hb')
   ·by_cases er:rm=q
    ·exact e (hA.one m j im i rm qm _ k3 e1 w1 (by rw[er];exact e3))
    ·exact H.jr rm Rm q R1 w2 h3.lv er u.1 w3 (by rw[hbs.1];exact bG _ (h9 b' hb'))
 refine⟨g,R1,Rf,b,o,gy R1 [] :: iX,Rf.k.tys++ht',a3,hgw,h3.lv,h3.vl,fM,h7,h9,h11,hlf,xq,by rw[e7];simp[gz],hRk,Mw,by simp,λt ht=>bV _ ht,λb' hb'=>?_,?_,λt ht=>?_,?_,⟨i,_,e1,e3,h3.ids⟩,f6 j _ b o _ yT (by rw[h7];rfl)⟩
 ·obtain⟨R2,g1,g2⟩:=Hf.sW j _ yT (by simp[hgw])
  rw[vW]at g1
  simp only[ak]at g1
  subst g1
  rcases g2 xq.1 b' (bG _ hb') (Tc b' hb')with⟨e,g3,g4⟩|g
  ·refine .inl ⟨e,jD _ ?_,g3⟩
   rcases g4 with g4|g4
   ·exact l1 e g4
   ·exact l2 e g4
  ·exact .inr g
 ·obtain⟨_,_,_,⟨arr,e,lo,hi,m3,m4,m5,m6⟩,_⟩:=uU H h3.lv h3.vl h3.get h3.pin h3.own (cs1:=J.hdr q) (b:=b) (o:=o) (by simp only[aR];rw[fM])
  rcases m6 with⟨m6,_⟩|⟨m6,_⟩
  ·exact .inl ⟨e,by rw[<-m6];simp,by unfold iH;rw[m3]⟩
  ·exact .inr ⟨m6,by simp⟩
 ·have g1:=dV.1 h3.just t ht
  have g2:=dV.1 Dx t ht
  have g1':ay t R1.own=ay t ow:=by simpa using g1
  have g2':ay t Rf.own=ay t ow:=by simpa using g2
  rw[g1',g2']
 ·rcases pG with hall|pG
  ·refine .inl λt ht=>?_
   have g2:=dV.1 Dx t ht
   have g2':ay t Rf.own=ay t ow:=by simpa using g2
   rw[g2']
   exact nA hall t ht
  ·exact .inr pG
end
section
variable {P:Program}{T:bK}{cx:Cx}{Z:St}{J:aJ}{F:List Nat}{a:Act}{w w':World}{ps:List aM}{c:Cont (kin ps)}{vs:List Value}{is:List aV}{gs:List GA}
def nP(J cz:aJ)(is:List aV):aJ where
 loc:=J.loc
 hdr:=λq=>match fH q is 0 with|some j=>cz.hdr (aG j)|none=>J.hdr q
 fo:=λq=>match fH q is 0 with|some j=>cz.fo (aG j)|none=>J.fo q
def xE(Z Z2:St)(f:Root->List Nat)(q:Nat):List Nat:=match Z.roots q,Z2.roots q with
 |some R,some R2=>(f R2).take ((f R2).length-(f R).length)
 |_,_=>[]
theorem al3(H:Rel cx Z J F a w)(hJ:sj cx Z J F a w ps c vs is gs)(hA:Apart cx Z J F w ps is gs)(hw:XC is=true)(hnb:∀p∈ps,JY p=true){dF:St}{cz:aJ}{Ff:List Nat}{af:Act}(Hf:Rel (iN cx Z J F w ps c is gs) dF cz Ff af w')
  {c':Cont (gM ps)} {ws:List Wr} (hB:nI true Z ps is c' ws) (hO:nN dF ps 0 c') {G:List Nat} (hG:∀b∈G,b∈Ff) (hGn:G.Nodup) :
  ∃gB,Rel cx (aF ws Z) gB G a w'/\u_ Z J is gs dF cz Ff (aF ws Z) gB G/\(aF ws Z).slots=Z.slots/\(∀q,Z.roots q=none->(aF ws Z).roots q=none)/\(∀t,qw Z t->qw (aF ws Z) t)/\
   ∀r R,ws.find? (λw=>w.loc.beq (.r r))=some (.r r (some R))->(aF ws Z).roots r=some R:=by
 obtain⟨lv,li,lg,hat⟩:=hJ.at (i0:=0)
 simp only[jq]at hat
 obtain⟨f1,f2,f3,f4,f5,f6⟩:=Hf.frame
 have hgj:∀{j:Nat} {g:GA},gs[j]?=some g->∃p cj v i,ps[j]?=some p/\vs[j]?=some v/\is[j]?=some i/\ru cx Z J F a w p cj v i g:=by
  intro j g hg
  have hj:j<ps.length:=by have:=(oh.1 hg).1;omega
  obtain⟨cj,v,i,g',e1,e2,e3,e4,_⟩:=hat j ps[j] (fG hj)
  rw[hg]at e3
  simp only[ak]at e3
  subst e3
  exact⟨ps[j],cj,v,i,fG hj,e1,e2,e4⟩
 have oG:∀b,b<w.heap.size->hp w' b≠hp w b->∃(j:Nat) (g:GA),gs[j]?=some g/\b∈gu g/\(g.ow=true\/g.wb=true):=by
  intro b hb hne
  refine j6 λhno=>hne (f5 b hb λj pi hj hbl=>?_)
  obtain⟨g,p,cj,v,i,e1,e2,e3,e4,e5,rfl⟩:=wV H hJ hj
  exact hno ⟨j,g,e1,hbl,e5⟩
 have hwho:∀{b:Nat},mine (iN cx Z J F w ps c is gs) w' b->b<w'.heap.size/\(w.heap.size<=b\/∃(j:Nat) (g:GA),gs[j]?=some g/\b∈gu g/\(g.ow=true\/g.wb=true)):=by
  rintro b ⟨h1,h2⟩
  refine⟨h1,h2.imp id ?_⟩
  rintro⟨j,pi,h3,h4⟩
  obtain⟨g,p,cj,v,i,e1,e2,e3,e4,e5,rfl⟩:=wV H hJ h3
  exact⟨j,g,e1,h4,e5⟩
 have hal:∀(m:Nat) (p:aM) (i:aV),ps[m]?=some p->is[m]?=some i->(∀k ow wt ht,p≠.rw k ow wt ht)->(∀k ow wt,p≠.dQ k ow wt)->i.wb=none:=by
  intro m p i hp hi h1 h2
  obtain⟨cj,v,i',g,e1,e2,e3,e4,_⟩:=hat m p hp
  rw[hi]at e2
  simp only[ak]at e2
  subst e2
  obtain⟨_,e4⟩:=e4
  cases p with
  |val k bE=>exact e4.2.2.1
  |ro k=>exact e4.2.2.1
  |own k ow=>exact e4.2.2.1
  |fn f ks=>exact e4.2.2.1
  |rw k ow wt ht=>exact absurd rfl (h1 k ow wt ht)
  |dQ k ow wt=>exact absurd rfl (h2 k ow wt)
  |into j q=>exact e4.2.2.1
 obtain⟨hsl,hoth,S9,hfind⟩:=al2 (jZ:=Z) hB (λj j' i i' r u u' h1 h2 h3 h4=>hA.one j j' i i' r u u' h1 h2 h3 h4) hnb hO hal
 generalize hs2:aF ws Z=Z2 at *
 have L:∀{q j:Nat},fH q is 0=some j->∃g R Rf b o lw lh,x9 cx Z J w is gs dF cz Ff w' Z2 q j g R Rf b o lw lh:=λhq=>awt H hJ hA hw Hf (S9 _ _ hq)
 have hpar:∀{m:Nat} {i:aV} {q:Nat} {u},is[m]?=some i->i.wb=some (q,u)->fH q is 0=some m:=by
  intro m i q u hi hwb
  cases hp:fH q is 0 with
  |none=>exact absurd hwb (ahl hp i (p9 hi) u)
  |some m'=>
   obtain⟨i',u',_,h2,h3⟩:=wC hp
   rw[Nat.sub_zero]at h2
   rw[hA.one m' m i' i q u' u h2 hi h3 hwb]
 have TB:∀{m:Nat} {g:GA} {b:Nat},gs[m]?=some g->b∈gu g->(g.ow=true\/g.wb=true)->b∈F\/∃q R Rf bb o lw lh,fH q is 0=some m/\x9 cx Z J w is gs dF cz Ff w' Z2 q m g R Rf bb o lw lh/\(b=bb\/b∈g.fo):=by
  intro m g b hg hb _
  obtain⟨p,cj,v,i,e1,e2,e3,e4⟩:=hgj hg
  rcases(o9 H e4).1 b hb with⟨_,h⟩|⟨h,r,R0,u,h1,_,_⟩
  ·exact .inl h
  ·have hp:=hpar e3 h1
   obtain⟨g',R,Rf,bb,o,lw,lh,Lf⟩:=L hp
   have hgg:g'=g:=by have:=Lf.gj;rw[hg]at this;simpa using this.symm
   subst hgg
   refine .inr ⟨r,R,Rf,bb,o,lw,lh,hp,Lf,?_⟩
   unfold gu at hb
   rw[Lf.base]at hb
   simpa using hb
 have hblk:∀{q j:Nat} {g:GA} {R Rf:Root} {b o:Nat} {lw lh:List TypeId},fH q is 0=some j->x9 cx Z J w is gs dF cz Ff w' Z2 q j g R Rf b o lw lh->∀{Q:Root},aY Z2 q Q->Q=gz R ⟨Rf.k,Rf.x⟩ R.own R.tags lw lh R.keep/\Ow.blk (nP J cz is) Q q=Ow.blk cz Rf (aG j)/\aL (nP J cz is) Q q=some (b,o):=by
  intro q j g R Rf b o lw lh hq Lf Q hQ
  have e:Q=gz R ⟨Rf.k,Rf.x⟩ R.own R.tags lw lh R.keep:=by have:=hQ.1;rw[Lf.r2]at this;simpa using this.symm
  have fM:aL (nP J cz is) Q q=some (b,o):=by
   rw[<-Lf.wh,e]
   rfl
  refine⟨e,?_,fM⟩
  unfold Ow.blk
  rw[fM,Lf.XB]
  simp only[nP,hq]
 have hsame:∀{q:Nat},fH q is 0=none->Same Z J Z2 (nP J cz is) q:=λ{q} hq=>⟨hoth q hq,rfl,by simp only[nP,hq],by simp only[nP,hq]⟩
 have A9:∀{q:Nat},¬Same Z J Z2 (nP J cz is) q->∃j,fH q is 0=some j:=by
  intro q hns
  cases hp:fH q is 0 with
  |none=>exact absurd (hsame hp) hns
  |some j=>exact⟨j,rfl⟩
 have kV:∀{q j:Nat} {g:GA} {R Rf:Root} {b o:Nat} {lw lh:List TypeId},x9 cx Z J w is gs dF cz Ff w' Z2 q j g R Rf b o lw lh->xE Z Z2 Root.w q=lw/\xE Z Z2 Root.h q=lh:=by
  intro q j g R Rf b o lw lh Lf
  unfold xE
  rw[Lf.lr.1,Lf.r2]
  simp[gz]
 have Ms:∀{q:Nat},fH q is 0=none->xE Z Z2 Root.w q=[]/\xE Z Z2 Root.h q=[]:=by
  intro q hq
  unfold xE
  rw[hoth q hq]
  cases Z.roots q<;>simp
 have htag:∀t,qw Z t->qw Z2 t:=by
  intro t ht
  rcases ht with h|⟨R,h1,h2⟩
  ·exact .inl h
  ·cases hp:fH t.1 is 0 with
   |none=>exact .inr ⟨R,by rw[hoth _ hp];exact h1,h2⟩
   |some j=>
    obtain⟨g,R0,Rf,b,o,lw,lh,Lf⟩:=L hp
    have e:R0=R:=by have:=Lf.lr.1;rw[h1]at this;simpa using this.symm
    subst e
    refine .inr ⟨_,Lf.r2,?_⟩
    rcases h2 with h2|h2
    ·rw[Lf.lr.2]at h2;simp at h2
    ·right
     simp only[gz,oL,dI]at h2 ⊢
     omega
 have hmem:∀{q j:Nat} {g:GA} {R Rf:Root} {b o:Nat} {lw lh:List TypeId},x9 cx Z J w is gs dF cz Ff w' Z2 q j g R Rf b o lw lh->b∈Ow.blk J R q/\∀b'∈g.fo,b'∈Ow.blk J R q:=by
  intro q j g R Rf b o lw lh Lf
  refine⟨?_,λb' hb'=>bG _ (Lf.fo b' hb')⟩
  unfold Ow.blk
  rw[Lf.wh]
  simp
 have hbf:∀{q j:Nat} {g:GA} {R Rf:Root} {b o:Nat} {lw lh:List TypeId},x9 cx Z J w is gs dF cz Ff w' Z2 q j g R Rf b o lw lh->b∈Ow.blk cz Rf (aG j):=by
  intro q j g R Rf b o lw lh Lf
  unfold Ow.blk
  rw[Lf.XB]
  simp
 have Tq:∀{j m:Nat},aG j=aG m->j=m:=λ{j m} h=>by unfold aG at h;omega
 have abI:∀{b:Nat},mine (iN cx Z J F w ps c is gs) w' b->(∀{q j:Nat} {g:GA} {R Rf:Root} {bb o:Nat} {lw lh:List TypeId},fH q is 0=some j->x9 cx Z J w is gs dF cz Ff w' Z2 q j g R Rf bb o lw lh->b≠bb/\(b∈g.fo->∃e∈lw,iH (hp w) b=some e))->
   b∈F\/(w.heap.size<=b/\b<w'.heap.size)\/∃r R,aY Z r R/\b∈Ow.blk J R r/\Loose cx Z2 (xE Z Z2 Root.w) w r b:=by
  intro b hm hno
  obtain⟨h1,h2|⟨j,g,h2,h3,h4⟩⟩:=hwho hm
  ·exact .inr (.inl ⟨h2,h1⟩)
  ·rcases TB h2 h3 h4 with h|⟨q,R,Rf,bb,o,lw,lh,hq,Lf,h⟩
   ·exact .inl h
   ·obtain⟨n1,n2⟩:=hno hq Lf
    rcases h with h|h
    ·exact absurd h n1
    ·refine .inr (.inr ⟨q,R,Lf.lr,(hmem Lf).2 b h,.inr (.inl ?_)⟩)
     rw[(kV Lf).1]
     exact n2 h
 have T:gQ cx Z J F w Z2 (nP J cz is) G w' (xE Z Z2 Root.w) (xE Z Z2 Root.h):=by
  refine⟨hsl,⟨f1,f2,f3⟩,f4,λr R hr=>?_,λr R' h hns=>?_,λr R' h1 h2=>?_,λb hb hne=>?_,λb hb=>?_,hGn,λr R' hr hns b hb SC=>?_,λr R r' R' hr hr' hne hns apT b hb hb'=>?_,λj pi b o n hj hb hne=>?_,λr R R' h1 h2 hd=>?_⟩
  ·cases hp:fH r is 0 with
   |none=>
    refine⟨R,by rw[hoth r hp];exact hr,?_⟩
    cases hd:R.cu with
    |true=>exact .inl ⟨rfl,by intro hk;simp[Root.cu,hk]at hd⟩
    |false=>exact .inr ⟨rfl,by rw[(Ms hp).1];rfl,by rw[(Ms hp).2];rfl,bZ _,rfl,rfl,λ_=>rfl,.inr ⟨(Ms hp).1,(Ms hp).2,hsame hp⟩⟩
   |some j=>
    obtain⟨g,R0,Rf,b,o,lw,lh,Lf⟩:=L hp
    have e:R0=R:=by have:=Lf.lr.1;rw[hr]at this;simpa using this.symm
    subst e
    refine⟨_,Lf.r2,.inr ⟨Lf.lr.2,by rw[(kV Lf).1];rfl,by rw[(kV Lf).2];rfl,bZ _,rfl,rfl,λ_=>?_,.inl (.inl (by rw[(kV Lf).1];exact Lf.lw0))⟩⟩
    show Rf.k.size=_
    rw[<-Lf.sz]
  ·obtain⟨j,hp⟩:=A9 hns
   obtain⟨g,R0,Rf,b,o,lw,lh,Lf⟩:=L hp
   rw[Lf.r2]at h
   simp only[ak]at h
   subst h
   obtain⟨g1,g2,g3⟩:=H.fE r R0 Lf.lr.1
   exact⟨λt ht=>htag t (g1 t ht),g2,g3⟩
  ·cases hp:fH r is 0 with
   |none=>rw[hoth r hp,h1]at h2;simp at h2
   |some j=>
    obtain⟨g,R0,Rf,b,o,lw,lh,Lf⟩:=L hp
    exact absurd Lf.lr.1 (by rw[h1];simp)
  ·obtain⟨j,g,h1,h2,h3⟩:=oG b hb hne
   rcases TB h1 h2 h3 with h|⟨q,R,Rf,bb,o,lw,lh,hq,Lf,h⟩
   ·exact .inl h
   ·refine .inr ⟨q,R,Lf.lr,?_,?_⟩
    ·rcases h with rfl|h
     ·exact(hmem Lf).1
     ·exact(hmem Lf).2 b h
    ·unfold Loose
     rw[(kV Lf).1]
     rcases h with rfl|h
     ·exact .inr Lf.bty
     ·rcases Lf.keep b h with h|h
      ·exact .inr (.inl h)
      ·exact absurd h.1 hne
  ·rcases hb with⟨r,R',hr,hb,hno⟩|hb
   ·cases hp:fH r is 0 with
    |none=>
     rw[(hsame hp).blk]at hb
     exact absurd ⟨R',((hsame hp).live R').1 hr,hb⟩ hno
    |some j=>
     obtain⟨g,R0,Rf,b0,o,lw,lh,Lf⟩:=L hp
     obtain⟨e1,e2,_⟩:=hblk hp Lf hr
     rw[e2]at hb
     refine abI ((Hf.roots (aG j) Rf Lf.lf).mine b hb) λ{q m g' R1 Lm bb o1 lw1 lh1} hq um=>?_
     have hmj:∀{b'},b'=b->b'∈Ow.blk cz Lm (aG m)->m=j:=λ{b'} e h=>by
      subst e
      refine j6 λhne=>?_
      exact Hf.jr (aG m) Lm (aG j) Rf um.lf Lf.lf (λe=>hne (Tq e)) b' h hb
     refine⟨λe=>?_,λhfo=>?_⟩
     ·have:=hmj e.symm (hbf um)
      subst this
      obtain⟨i1,u1,x1,x2⟩:=wC hp
      obtain⟨i2,u2,y1,y2⟩:=wC hq
      rw[x2.1]at y2
      have hii:i1=i2:=by simpa using y2.1
      subst hii
      have hrq:r=q:=by have:=x2.2;rw[y2.2]at this;simp only[ak,bS]at this;exact this.1.symm
      subst hrq
      refine hno ⟨R1,um.lr,?_⟩
      rw[e]
      exact(hmem um).1
     ·rcases um.keep b hfo with h|⟨_,_,h⟩
      ·exact h
      ·exfalso
       have:=Tq (h (aG j) Rf Lf.lf hb)
       subst this
       obtain⟨i1,u1,x1,x2⟩:=wC hp
       obtain⟨i2,u2,y1,y2⟩:=wC hq
       rw[x2.1]at y2
       have hii:i1=i2:=by simpa using y2.1
       subst hii
       have hrq:r=q:=by have:=x2.2;rw[y2.2]at this;simp only[ak,bS]at this;exact this.1.symm
       subst hrq
       exact hno ⟨R1,um.lr,(hmem um).2 b hfo⟩
   ·refine abI (Hf.fl b (hG b hb)) λ{q m g' R1 Lm bb o1 lw1 lh1} hq um=>⟨λe=>?_,λhfo=>?_⟩
    ·subst e
     exact Hf.dU (aG m) Lm um.lf b (hbf um) (hG b hb)
    ·rcases um.keep b hfo with h|⟨_,h,_⟩
     ·exact h
     ·exact absurd (hG b hb) h
  ·obtain⟨j,hp⟩:=A9 hns
   obtain⟨g,R0,Rf,b0,o,lw,lh,Lf⟩:=L hp
   obtain⟨_,e2,_⟩:=hblk hp Lf hr
   rw[e2]at hb
   exact Hf.dU (aG j) Rf Lf.lf b hb (hG b SC)
  ·obtain⟨j,hp⟩:=A9 hns
   obtain⟨j',hp'⟩:=A9 apT
   obtain⟨g,R0,Rf,b0,o,lw,lh,Lf⟩:=L hp
   obtain⟨g',R0',Rf',b0',o',lw',lh',Zh⟩:=L hp'
   obtain⟨_,e2,_⟩:=hblk hp Lf hr
   obtain⟨_,e2',_⟩:=hblk hp' Zh hr'
   rw[e2]at hb
   rw[e2']at hb'
   refine Hf.jr (aG j) Rf (aG j') Rf' Lf.lf Zh.lf (λe=>hne ?_) b hb hb'
   have:=Tq e
   subst this
   obtain⟨i1,u1,x1,x2⟩:=wC hp
   obtain⟨i2,u2,y1,y2⟩:=wC hp'
   rw[x2.1]at y2
   have hii:i1=i2:=by simpa using y2.1
   subst hii
   have:=x2.2
   rw[y2.2]at this
   simp only[ak,bS]at this
   exact this.1.symm
  ·obtain⟨Q,hQ,hk,hl,hs⟩:=H.kG j pi b o n hj hb
   have hwb:aL J Q (aG j)=some (b,o):=by unfold aL;rw[hk,hl]
   have hbb:b∈Ow.blk J Q (aG j):=by unfold Ow.blk;rw[hwb];simp
   obtain⟨m,g,h1,h2,h3⟩:=oG b ((H.roots _ Q hQ).mine b hbb).1 hne
   obtain⟨_,_,_,_,_,f6'⟩:=H.frame
   have h0:=f6' j pi b o n hj hb
   rcases TB h1 h2 h3 with h|⟨q,R,Rf,bb,o1,lw,lh,hq,Lf,h⟩
   ·exact absurd h (H.dU _ Q hQ b hbb)
   ·have hbR:b∈Ow.blk J R q:=by
     rcases h with rfl|h
     ·exact(hmem Lf).1
     ·exact(hmem Lf).2 b h
    have eq:q=aG j:=j6 λe=>H.jr q R (aG j) Q Lf.lr hQ e b hbR hbb
    subst eq
    have eR:R=Q:=by have:=Lf.lr.1;rw[hQ.1]at this;simpa using this.symm
    subst eR
    have hw2:=Lf.wh
    rw[hwb]at hw2
    simp only[ak,bS]at hw2
    obtain⟨rfl,rfl⟩:=hw2
    exact h0.widen Lf.same (bZ _) (by rw[<-Lf.sz];omega)
  ·cases hp:fH r is 0 with
   |none=>
    rw[hoth r hp,h1]at h2
    simp only[ak]at h2
    subst h2
    exact⟨rfl,rfl⟩
   |some j=>
    obtain⟨g,R0,Rf,b,o,lw,lh,Lf⟩:=L hp
    have e:R0=R:=by have:=Lf.lr.1;rw[h1]at this;simpa using this.symm
    subst e
    rw[Lf.r2]at h2
    simp only[ak]at h2
    subst h2
    exact⟨rfl,rfl⟩
 have B:u_ Z J is gs dF cz Ff Z2 (nP J cz is) G:=by
  refine⟨λq Q b hq hb=>?_,hG⟩
  cases hp:fH q is 0 with
  |none=>
   rw[(hsame hp).blk]at hb
   have hq':=((hsame hp).live Q).1 hq
   refine .inr (.inl ⟨Q,hq',hb,λm g hg hbg=>?_⟩)
   obtain⟨p,cj,v,i,e1,e2,e3,e4⟩:=hgj hg
   rcases(o9 H e4).1 b (bG _ hbg)with⟨_,h⟩|⟨h,r,R0,u,h1,h2,h3⟩
   ·exact H.dU q Q hq' b hb h
   ·refine H.jr q Q r R0 hq' h2 (λe=>?_) b hb h3
    subst e
    rw[hpar e3 h1]at hp
    simp at hp
  |some j=>
   obtain⟨g,R0,Rf,b0,o,lw,lh,Lf⟩:=L hp
   obtain⟨_,e2,_⟩:=hblk hp Lf hq
   rw[e2]at hb
   obtain⟨i,u,i1,i2,_⟩:=Lf.ids
   exact .inr (.inr ⟨j,i,Rf,u,i1,i2,Lf.lf,hb⟩)
 refine⟨nP J cz is,H.turn T (λr R hr hns=>?_) (λr R hr hns p n v hn hold=>?_) (λr R hr hns g v hg hold=>?_),B,hsl,λq hq=>?_,htag,hfind⟩
 ·obtain⟨j,hp⟩:=A9 hns
  obtain⟨g,R0,Rf,b,o,lw,lh,Lf⟩:=L hp
  obtain⟨e1,e2,e3⟩:=hblk hp Lf hr
  subst e1
  have Kf:=Hf.roots (aG j) Rf Lf.lf
  have R6:(nP J cz is).hdr r=cz.hdr (aG j):=by simp only[nP,hp]
  have efo:(nP J cz is).fo r=cz.fo (aG j):=by simp only[nP,hp]
  refine⟨λ_=>?_,?_,λb' o' hb'=>?_,?_⟩
  ·rw[R6,efo]
   show Ow (Ow.hp w') R0.own (aN cx Z2 (nP J cz is) G w' R0.tags) Rf.k Rf.x (cz.hdr (aG j)) (cz.fo (aG j))
   refine sw Lf.own ?_
   rcases Lf.tags with hall|pG
   ·exact lU (oQ hall) (Kf.ow Lf.vf)
   ·refine dR (λ_ _=>rfl) (λb hb=>?_) (λ_ _=>rfl) (Kf.ow Lf.vf)
    obtain⟨i,u,i1,i2,i3⟩:=Lf.ids
    refine JZ H hJ Hf B (λj' n hn i' hi' t ht=>?_) (λm n hn=>?_) hb
    ·have h1:=dV.1 pG _ hn
     simp only[uG,fT]at h1
     have h2:gK j' / 4=j':=by unfold gK;omega
     rw[h2,fF,gY]at h1
     subst h1
     rw[i1]at hi'
     simp only[ak]at hi'
     subst hi'
     rw[i3]at ht
     exact⟨t.2,ht⟩
    ·have h1:=dV.1 pG _ hn
     have h2:Nat.beq (aG m%4) 0=true:=by unfold aG;simp
     simp only[Il,jI,h2,fT]at h1
     simp[ay]at h1
  ·rw[R6]
   exact Kf.len
  ·rw[e3]at hb'
   simp only[ak,bS]at hb'
   obtain⟨rfl,rfl⟩:=hb'
   obtain⟨m1,arr,e,lo,hi,m2,m3,m4,_⟩:=Kf.mem b o Lf.XB
   rw[R6]
   refine⟨m1,arr,e,lo,hi,m2,m3,m4,λt ht=>?_⟩
   obtain⟨_,ZW,e0,lo0,hi0,k1,k2,k3,k4⟩:=(H.roots r R0 Lf.lr).mem b o Lf.wh
   obtain⟨a1,a2,te,fr,s1,s2,_⟩:=Lf.same
   rw[k1]at s1
   rw[m2]at s2
   simp only[ak,Obj.cells.injEq]at s1 s2
   rw[s2.2.1,<-s1.2.1]
   exact k4 t ht
  ·rw[e2]
   exact Kf.nd
 ·obtain⟨j,hp⟩:=A9 hns
  obtain⟨g,R0,Rf,b,o,lw,lh,Lf⟩:=L hp
  have e:R0=R:=by have:=Lf.lr.1;rw[hr.1]at this;simpa using this.symm
  subst e
  refine⟨hold.1,λQ hQ lZ hcl hty hsome=>?_⟩
  obtain⟨e1,_,e3⟩:=hblk hp Lf ⟨hQ,lZ.1⟩
  subst e1
  have hcl':clean (lh++R0.h) n (iR p Rf.k)=true:=hcl
  rw[Aq hn]at hcl'
  by_cases hpt:aC p Rf.k=[]
  ·have hk:aC p R0.k=[]:=by rw[Lf.sz];exact hpt
   have hpk:iR p R0.k=iR p Rf.k:=by rw[Lf.sz]
   obtain⟨q1,cs,b',o',q2,q3⟩:=hold.2 R0 hr.1 Lf.vr (by rw[hpk];exact hcl'.2) (λt ht=>by rw[hk]at ht;simp at ht) (by
    have hs:(aD p Rf.k Rf.x).isSome=true:=hsome
    obtain⟨Lj,Zv,_,_,_,_,_,_,_,_,_,_⟩:=R0
    have e:Lj=Rf.k:=Lf.sz
    subst e
    rw[AU p (y:=Rf.x)]
    exact hs)
   have hN:∃c1,bW p Rf.k Rf.x/\aR (Ow.hp w') p Rf.k ((nP J cz is).hdr r) (aL J R0 r)=some (c1,some (b',o')):=by
    have hs:(aD p Rf.k Rf.x).isSome=true:=hsome
    obtain⟨Lj,Zv,_,_,_,_,_,_,_,_,_,_⟩:=R0
    have e:Lj=Rf.k:=Lf.sz
    subst e
    obtain⟨n1,c1,n2⟩:=JS (own:=[]) (h':=Ow.hp w') (y:=Rf.x) (cs':=(nP J cz is).hdr r) p q1 (λt ht=>by rw[hpt]at ht;simp at ht) q2
    exact⟨c1,n1,n2⟩
   obtain⟨c1,n1,n2⟩:=hN
   exact⟨n1,c1,b',o',by rw[e3,<-Lf.wh];exact n2,q3⟩
  ·exfalso
   obtain⟨t,ht⟩:=List.exists_mem_of_ne_nil _ hpt
   refine hcl'.1 t (Lf.gap t (zw p t ht)) ?_
   cases p with
   |nil=>simp[aC]at ht
   |cons s p=>exact jD _ ht
 ·obtain⟨j,hp⟩:=A9 hns
  obtain⟨g',R0,Rf,b,o,lw,lh,Lf⟩:=L hp
  have e:R0=R:=by have:=Lf.lr.1;rw[hr.1]at this;simpa using this.symm
  subst e
  intro Q hQ Dw
  obtain⟨e1,_,_⟩:=hblk hp Lf hQ
  subst e1
  have:=(hold R0 Lf.lr Dw).1
  have hw:=Lf.wh
  unfold aL at hw
  rw[this]at hw
  simp at hw
 ·cases hp:fH q is 0 with
  |none=>rw[hoth q hp];exact hq
  |some j=>
   obtain⟨g,R0,Rf,b,o,lw,lh,Lf⟩:=L hp
   exact absurd Lf.lr.1 (by rw[hq];simp)
end
end
section
open Go
variable [Fr]
def yf(Z:St)(ws:List Wr)(l:List Nat)(tags:List Tag):Prop:=
 (∀r∈l,∃n,(r,n)∈tags)/\∀t∈tags,fV t.1=true\/(∃R,ws.find? (λw=>w.loc.beq (.r t.1))=some (.r t.1 (some R))/\t.2=dL R.w)\/(∃R,Z.roots t.1=some R/\t.2=dL R.w)
theorem awI{w:Wr}{r:Nat}(h:w.loc.beq (.r r)=true):∃o,w=.r r o:=by
 cases w with
 |s n a=>simp[Wr.loc,Loc.beq]at h
 |r n o=>
  simp only[Wr.loc,Loc.beq]at h
  exact⟨o,by rw[bu h]⟩
theorem WE{A:Type}{z:A}{Z:St}{ws:List Wr}:∀{l:List Nat} {k:List Tag->Prog A},(zu ws l k).ends Z z->∃tags,yf Z ws l tags/\(k tags).ends Z z:=by
 intro l
 induction l with
 |nil=>intro k h;exact⟨[],⟨by simp,by simp⟩,h⟩
 |cons r l ih=>
  intro k h
  unfold zu at h
  have hadd:∀{n:Nat} {tags:List Tag},yf Z ws l tags->(fV r=true\/(∃R,ws.find? (λw=>w.loc.beq (.r r))=some (.r r (some R))/\n=dL R.w)\/(∃R,Z.roots r=some R/\n=dL R.w))->yf Z ws (r :: l) ((r,n) :: tags):=by
   intro n tags h1 h2
   refine⟨λq hq=>?_,λt ht=>?_⟩
   ·rcases bM.1 hq with h|h
    ·subst h;exact⟨n,by simp⟩
    ·obtain⟨m,hm⟩:=h1.1 q h;exact⟨m,by simp[hm]⟩
   ·rcases bM.1 ht with h|h
    ·subst h;exact h2
    ·exact h1.2 t h
  cases he:fV r with
  |true=>
   rw[he]at h
   obtain⟨tags,g1,g2⟩:=ih h
   exact⟨_,hadd g1 (.inl he),g2⟩
  |false=>
   rw[he]at h
   simp only[jI]at h
   split at h
   ·rename_i q R hf
    have hq:q=r:=by
     have:=List.find?_some hf
     obtain⟨o,ho⟩:=awI this
     simp only[Wr.r.injEq]at ho
     exact ho.1
    subst hq
    obtain⟨tags,g1,g2⟩:=ih h
    exact⟨_,hadd g1 (.inr (.inl ⟨R,hf,rfl⟩)),g2⟩
   ·exact h.elim
   ·simp only[Prog.ends]at h
    cases hr:Z.roots r with
    |none=>rw[hr]at h;exact h.elim
    |some R=>
     rw[hr]at h
     obtain⟨tags,g1,g2⟩:=ih h
     exact⟨_,hadd g1 (.inr (.inr ⟨R,hr,rfl⟩)),g2⟩
def Gt(Z:St)(d:Nat)(is:List aV)(ws:List Wr):(rs:List gJ)->Nat->Cont (iI rs)->List AV->List Wr->Prop
 | [],_,_,as,ws'=>as=[]/\ws'=[]
 |.val k exts bE :: rs,c,x,as,ws'=>∃tags as',yf Z ws (bif k.flat then []else vP (xw is exts bE)) tags/\as=.val k x.1 tags :: as'/\Gt Z d is ws rs (c+1) x.2 as' ws'
 |.own k ow exts bE :: rs,c,x,as,ws'=>∃tags as' Cb,yf Z ws (bif k.tys.all (λt=>ay t ow)then []else vP (xw is exts bE)) tags/\Z.roots (aK d c)=none/\as=.ref (aK d c) 0 :: as'/\ws'=.r (aK d c) (some (bU k x.1 ow tags .anon)) :: Cb/\Gt Z d is ws rs (c+1) x.2 as' Cb
 |.ptr t k ow exts :: rs,c,x,as,ws'=>∃tags as' Cb,yf Z ws (bif k.tys.all (λt=>ay t ow)then []else vP (xw is exts [])) tags/\Z.roots (aK d c)=none/\as=.ptr (aK d c) [] 0 :: as'/\ws'=.r (aK d c) (some (bU k x.1 ow tags (.var t))) :: Cb/\Gt Z d is ws rs (c+1) x.2 as' Cb
 |.into j p :: rs,c,x,as,ws'=>c=0/\rs=[]/\ws'=[]/\∃i r q wt ht R,is[j]?=some i/\i.wb=some (r,q,wt,ht)/\jm∉ht/\ws.find? (λw=>w.loc.beq (.r r))=some (.r r (some R))/\((p=[]/\as=[.l9 r q (dL R.w+dL R.h) (show Int from x.1).toNat])\/(p≠[]/\(((show Int from x.1)<0/\as=[.iW])\/(¬(show Int from x.1)<0/\as=[.ptr r (q++qU p (show Int from x.1)) (dL R.h)]))))
theorem axM{A:Type}{z:A}{Z:St}{d:Nat}{is:List aV}{ws:List Wr}:∀{rs:List gJ} {c:Nat} {x:Cont (iI rs)} {k:List AV->List Wr->Prog A},(xL d is ws rs c x k).ends Z z->∃as ws',Gt Z d is ws rs c x as ws'/\(k as ws').ends Z z:=by
 intro rs
 induction rs with
 |nil=>intro c x k h;exact⟨[],[],⟨rfl,rfl⟩,h⟩
 |cons p rs ih=>
  intro c x k h
  cases p with
  |val kk exts bE=>
   simp only[xL]at h
   obtain⟨tags,h1,h⟩:=WE h
   obtain⟨as,ws',h2,h⟩:=ih h
   exact⟨_,ws',⟨tags,as,h1,rfl,h2⟩,h⟩
  |own kk ow exts bE=>
   simp only[xL]at h
   obtain⟨tags,h1,h⟩:=WE h
   obtain⟨hn,h⟩:=oF h
   obtain⟨as,ws',h2,h⟩:=ih h
   exact⟨_,_,⟨tags,as,ws',h1,hn,rfl,rfl,h2⟩,h⟩
  |ptr t kk ow exts=>
   simp only[xL]at h
   obtain⟨tags,h1,h⟩:=WE h
   obtain⟨hn,h⟩:=oF h
   obtain⟨as,ws',h2,h⟩:=ih h
   exact⟨_,_,⟨tags,as,ws',h1,hn,rfl,rfl,h2⟩,h⟩
  |into j q=>
   simp only[xL]at h
   rcases bB h with⟨hc,h⟩|⟨_,h⟩
   ·simp only[bf,List.isEmpty_iff]at hc
    split at h
    ·rename_i i hi
     split at h
     ·rename_i r q' wt ht hw
      split at h
      ·rename_i r' R hf
       rcases bB h with⟨_,h⟩|⟨dN,h⟩
       ·exact h.elim
       have hb:=List.find?_some hf
       simp only[Wr.loc,Loc.beq]at hb
       have hb:=bu hb
       subst hb
       cases q with
       |nil=>exact⟨_,_,⟨bu hc.1,hc.2,rfl,i,r',q',wt,ht,R,hi,hw,gF.1 dN,hf,.inl ⟨rfl,rfl⟩⟩,h⟩
       |cons t q=>
        rcases h with⟨hb2,h⟩|⟨hb2,h⟩
        ·exact⟨_,_,⟨bu hc.1,hc.2,rfl,i,r',q',wt,ht,R,hi,hw,gF.1 dN,hf,.inr ⟨by simp,.inl ⟨of_decide_eq_true hb2,rfl⟩⟩⟩,h⟩
        ·exact⟨_,_,⟨bu hc.1,hc.2,rfl,i,r',q',wt,ht,R,hi,hw,gF.1 dN,hf,.inr ⟨by simp,.inr ⟨of_decide_eq_false hb2,rfl⟩⟩⟩,h⟩
      ·exact h.elim
     ·exact h.elim
    ·exact h.elim
   ·exact h.elim
theorem Ww{n:Nat}{l:List Nat}:n∈l->n∈vP l:=by
 induction l with
 |nil=>simp
 |cons m l ih=>
  intro h
  unfold vP
  cases hm:ay m l with
  |true=>
   simp only[fT]
   rcases bM.1 h with h|h
   ·subst h;exact ih (fF.1 hm)
   ·exact ih h
  |false=>
   simp only[jI]
   rcases bM.1 h with h|h
   ·subst h;simp
   ·simp[ih h]
section
variable {P:Program}{T:bK}{cx:Cx}{Z:St}{J:aJ}{F:List Nat}{a:Act}{w w':World}{ps:List aM}{c:Cont (kin ps)}{vs:List Value}{is:List aV}{gs:List GA}
theorem Xq{exts bE:List Nat}{Tg U:List Tag}{l:List Nat}(ht:pK exts bE Tg=true)(hU:∀r∈l,∃n,(r,n)∈U)(hl:∀r∈xw is exts bE,r∈l) :
  (∀j n,(gK j,n)∈Tg->∀i,is[j]?=some i->∀t∈i.ids,∃n',(t.1,n')∈U)/\(∀m n,(aG m,n)∈Tg->∀i q,is[m]?=some i->i.wb=some q->∃n',(q.1,n')∈U):=by
 refine⟨λj n hn i hi t ht'=>?_,λm n hn i q hi hq=>?_⟩
 ·have h1:=dV.1 ht _ hn
  simp only[uG,fT]at h1
  have h2:gK j / 4=j:=by unfold gK;omega
  rw[h2,fF]at h1
  refine hU _ (hl _ ?_)
  unfold xw
  refine bV _ (mW.2 ⟨j,h1,?_⟩)
  rw[hi]
  exact d_.2 ⟨t,ht',rfl⟩
 ·have h1:=dV.1 ht _ hn
  have h2:Nat.beq (aG m%4) 0=true:=by unfold aG;simp
  simp only[Il,jI,h2,fT]at h1
  rw[ahm,fF]at h1
  refine hU _ (hl _ ?_)
  unfold xw
  refine bG _ (mW.2 ⟨m,h1,?_⟩)
  simp[hi,hq]
theorem agO{d c c':Nat}(h:aK d c=aK d c'):c=c':=by unfold aK at h;omega
theorem alP(H:Rel cx Z J F a w)(hJ:sj cx Z J F a w ps c vs is gs){dF:St}{cz:aJ}{Ff:List Nat}{af:Act}(Hf:Rel (iN cx Z J F w ps c is gs) dF cz Ff af w'){jZ:St}{d:Nat}{ws:List Wr} :
  ∀{rs:List gJ} {ci:Nat} {x:Cont (iI rs)} {as:List AV} {ws':List Wr} {us:List Value} {az:List (List Nat)} {Z':St} {J':aJ},Rel cx Z' J' az.flatten a w'->u_ Z J is gs dF cz Ff Z' J' az.flatten->
   ym (iN cx Z J F w ps c is gs) dF cz Ff w' rs x us az->Gt jZ d is ws rs ci x as ws'->(∀l tags,yf jZ ws l tags->fI Z' tags)->(∀cj,ci<=cj->jZ.roots (aK d cj)=none->Z'.roots (aK d cj)=none)->(∀b∈az.flatten,b∈Ff)->
   (ci=0->(∃j0 p0,rs=[.into j0 p0])->∀(j:Nat) (i:aV) (r:Nat) (q:List Stp) (wt ht:List TypeId) (R:Root) (b:Option Addr) (n cp m:Nat),is[j]?=some i->i.wb=some (r,q,wt,ht)->jm∉ht->ws.find? (λw=>w.loc.beq (.r r))=some (.r r (some R))->m<=n->aW (iN cx Z J F w ps c is gs) dF cz Ff w' (.ref (aG j) 0) (.slice b n cp)->
    aW cx Z' J' az.flatten w' (.l9 r q (dL R.w+dL R.h) m) (.slice b m cp)/\dK Z' (.l9 r q (dL R.w+dL R.h) m))->
   (ci=0->(∃j0 p0,rs=[.into j0 p0])->∀(j:Nat) (i:aV) (r:Nat) (q:List Stp) (wt ht:List TypeId) (R:Root) (p:List (Option Nat)) (m:Int) (v:Value),is[j]?=some i->i.wb=some (r,q,wt,ht)->jm∉ht->ws.find? (λw=>w.loc.beq (.r r))=some (.r r (some R))->¬m<0->Qu dF cz w' j p m v->
    aW cx Z' J' az.flatten w' (.ptr r (q++qU p m) (dL R.h)) v/\dK Z' (.ptr r (q++qU p m) (dL R.h)))->
   ∃J'',Rel cx (aF ws' Z') J'' [] a w'/\h_ cx (aF ws' Z') J'' [] w' as us/\(∀v∈as,dK (aF ws' Z') v)/\(aF ws' Z').slots=Z'.slots/\u_ Z J is gs dF cz Ff (aF ws' Z') J'' []/\
    (∀u v,dK Z' u->aW cx Z' J' az.flatten w' u v->aW cx (aF ws' Z') J'' [] w' u v)/\(∀t,qw Z' t->qw (aF ws' Z') t)/\(∀u,dK Z' u->dK (aF ws' Z') u):=by
 intro rs
 induction rs with
 |nil=>
  intro ci x as ws' us az Z' J' H' B hL hW _ _ _ _ _
  obtain⟨rfl,rfl⟩:=hW
  cases us with
  |cons _ _=>exact hL.elim
  |nil=>cases az with
   |cons _ _=>exact hL.elim
   |nil=>exact⟨J',H',trivial,by simp,rfl,B,λ_ _ _ h=>h,λ_ h=>h,λ_ h=>h⟩
 |cons p rs ih=>
  intro ci x as ws' us az Z' J' H' B hL hW eD hfr hFf hcut sS
  cases us with
  |nil=>cases p<;>exact hL.elim
  |cons u us=>
   cases az with
   |nil=>cases p<;>exact hL.elim
   |cons fo az=>
    cases p with
    |val k exts bE=>
     obtain⟨⟨rfl,Tg,cs,h1,h2,h3⟩,h4⟩:=hL
     obtain⟨tags,as',hN,rfl,hW⟩:=hW
     simp only[pX,iA]at H' B hFf
     obtain⟨J'',k1,k2,k3,k4,k5,k6,k7,k8⟩:=ih H' B h4 hW eD (λcj hc=>hfr cj (by omega)) hFf (λh=>absurd h (Nat.succ_ne_zero _)) (λh=>absurd h (Nat.succ_ne_zero _))
     refine⟨J'',k1,⟨λ_=>⟨cs,h2,?_⟩,k2⟩,?_,k4,k5,by simpa using k6,k7,k8⟩
     ·cases hf:k.flat with
      |true=>exact lC hf h3
      |false=>
       rw[hf]at hN h1
       obtain⟨b1,b2⟩:=Xq (is:=is) (h1.resolve_left (by simp)) hN.1 (λr hr=>Ww hr)
       exact ku (λ_ _=>rfl) (λb hb=>JZ H hJ Hf k5 b1 b2 hb) h3
     ·intro v hv
      rcases bM.1 hv with h|h
      ·subst h;exact λt ht=>k7 t (eD _ _ hN t ht)
      ·exact k3 v h
    |own k ow exts bE=>
     obtain⟨⟨Tg,cs,own,h1,h2,h3,h5⟩,h4⟩:=hL
     obtain⟨tags,as',Cb,hN,hn,rfl,rfl,hW⟩:=hW
     simp only[pX]at H' B hFf
     obtain⟨bH,fd,hpm,hO⟩:=wS (own':=ow) (λt ht hm=>h2 t ht hm) h5
     have hnd:=dJ.1 H'.gL
     have yS:=dJ.1 (hpm.nodup hnd.1)
     have hk:(bU k x.1 ow tags .anon false).kind=.anon:=rfl
     have hn':=hfr ci (bZ _) hn
     have AY:∀b∈bH,b∈fo:=λb hb=>hpm.mem_iff.2 (bV _ hb)
     obtain⟨q1,q2⟩:=CU (R':=bU k x.1 ow tags .anon false) H' hn' (oK d ci) rfl (by simp[bU]) (eD _ _ hN) (0,0) cs bH az.flatten
      (λb hb=>by rw[qb hk]at hb;exact⟨bV _ (AY b hb),λh=>hnd.2.2 b (AY b hb) b h rfl⟩) (by rw[qb hk];exact yS.1) (λb hb=>bG _ hb) hnd.2.1
      (λ_=>by
       rw[qb hk]
       show Ow (hp w') ow _ k x.1 cs bH
       cases hall:(k.tys.all λt=>ay t ow)with
       |true=>exact lU (oQ (nA hall)) hO
       |false=>
        rw[hall]at hN h1
        obtain⟨b1,b2⟩:=Xq (is:=is) (h1.resolve_left (by simp)) hN.1 (λr hr=>Ww hr)
        refine dR (λ_ _=>rfl) (λb hb=>?_) (λ_ _=>rfl) hO
        rcases hb with hb|hb
        ·exact .inl (JZ H hJ Hf B b1 b2 hb)
        ·have hbf:b∈fo:=hpm.mem_iff.2 (bG _ hb)
         exact .inr ⟨bV _ hbf,λh=>hnd.2.2 b hbf b h rfl,λh=>yS.2.2 b h b hb rfl⟩) (eY h5) (λb o hb=>by rw[FK hk]at hb;simp at hb)
     have hB2:u_ Z J is gs dF cz Ff (aO Z' (aK d ci) (bU k x.1 ow tags .anon false)) (bn J' (aK d ci) (0,0) cs bH) az.flatten:=by
      refine⟨λq Q b hq hb=>?_,λb hb=>hFf b (bG _ hb)⟩
      rcases uM hq with⟨rfl,rfl,_⟩|⟨e,hq'⟩
      ·rw[qc,qb hk]at hb
       exact .inl (hFf b (bV _ (AY b hb)))
      ·rw[(kR (Z:=Z') (J:=J') (R:=bU k x.1 ow tags .anon false) e).blk]at hb
       exact B.blk q Q b hq' hb
     have xg:∀u v,dK Z' u->aW cx Z' J' (fo++az.flatten) w' u v->aW cx (aO Z' (aK d ci) (bU k x.1 ow tags .anon false)) (bn J' (aK d ci) (0,0) cs bH) az.flatten w' u v:=λu v hu hv=>
      q2.av H' (λr R hr hs=>absurd (kR (λe=>by have:=hr.1;rw[e,hn']at this;simp at this)) hs) (λr R hr hs=>absurd (kR (λe=>by have:=hr.1;rw[e,hn']at this;simp at this)) hs) hu hv
     obtain⟨J'',k1,k2,k3,k4,k5,k6,k7,k8⟩:=ih (ci:=ci+1) q1 hB2 h4 hW (λl tags hN t ht=>q2.tag (eD l tags hN t ht)) (λcj hc h=>by
      rw[jA]
      ·exact hfr cj (by omega) h
      ·intro e;have:=agO e;omega) (λb hb=>hFf b (bG _ hb)) (λh=>absurd h (Nat.succ_ne_zero _)) (λh=>absurd h (Nat.succ_ne_zero _))
     have hroot:(aO Z' (aK d ci) (bU k x.1 ow tags .anon false)).roots (aK d ci)=some (bU k x.1 ow tags .anon false):=fQ ..
     have H7:dK (aO Z' (aK d ci) (bU k x.1 ow tags .anon false)) (.ref (aK d ci) 0):=⟨_,hroot,.inr (dW _)⟩
     refine⟨J'',k1,⟨k6 _ _ H7 (ag1 h3),k2⟩,?_,k4,k5,λu v hu hv=>?_,λt ht=>k7 t (q2.tag ht),λu hu=>k8 u (q2.dK hu)⟩
     ·intro v hv
      rcases bM.1 hv with h|h
      ·subst h
       exact k8 _ H7
      ·exact k3 v h
     ·exact k6 u v (q2.dK hu) (xg u v hu hv)
    |ptr t k ow exts=>
     obtain⟨⟨b0,o0,Tg,cs,own,fU,h3,rfl,h1,h2,hmem,h5⟩,h4⟩:=hL
     obtain⟨tags,as',Cb,hN,hn,rfl,rfl,hW⟩:=hW
     simp only[pX]at H' B hFf
     obtain⟨bH,fd,hpm,hO⟩:=wS (own':=ow) (λt ht hm=>h2 t ht hm) h5
     have hnd:=dJ.1 H'.gL
     have pE:=jO.1 hnd.1
     have yS:=dJ.1 (hpm.nodup pE.2)
     have hk:(bU k x.1 ow tags (.var t) false).kind=.var t:=rfl
     have hn':=hfr ci (bZ _) hn
     have AY:∀b∈b0 :: bH,b∈b0 :: fU:=λb hb=>by
      rcases bM.1 hb with h|h
      ·rw[h];exact jE
      ·exact jD _ (hpm.mem_iff.2 (bV _ h))
     obtain⟨q1,q2⟩:=CU (R':=bU k x.1 ow tags (.var t) false) H' hn' (oK d ci) rfl (by simp[bU]) (eD _ _ hN) (b0,o0) cs bH az.flatten
      (λb hb=>by rw[C9 hk]at hb;exact⟨bV _ (AY b hb),λh=>hnd.2.2 b (AY b hb) b h rfl⟩) (by rw[C9 hk];exact jO.2 ⟨λh=>pE.1 (hpm.mem_iff.2 (bV _ h)),yS.1⟩) (λb hb=>bG _ hb) hnd.2.1
      (λ_=>by
       rw[C9 hk]
       show Ow (hp w') ow _ k x.1 cs bH
       cases hall:(k.tys.all λt=>ay t ow)with
       |true=>exact lU (oQ (nA hall)) hO
       |false=>
        rw[hall]at hN h1
        obtain⟨b1,b2⟩:=Xq (is:=is) (h1.resolve_left (by simp)) hN.1 (λr hr=>Ww hr)
        refine dR (λ_ _=>rfl) (λb hb=>?_) (λ_ _=>rfl) hO
        rcases hb with hb|hb
        ·exact .inl (JZ H hJ Hf B b1 b2 hb)
        ·have hbf:b∈b0 :: fU:=jD _ (hpm.mem_iff.2 (bG _ hb))
         exact .inr ⟨bV _ hbf,λh=>hnd.2.2 b hbf b h rfl,λh=>by
          rcases bM.1 h with h|h
          ·subst h;exact pE.1 (hpm.mem_iff.2 (bG _ hb))
          ·exact yS.2.2 b h b hb rfl⟩) (eY h5) (λb o hb=>by
       rw[ai1 hk]at hb
       simp only[ak,bS]at hb
       obtain⟨rfl,rfl⟩:=hb
       obtain⟨m1,arr,e,lo,hi,m2,m3,m4,m5⟩:=hmem
       exact⟨m1,arr,e,lo,hi,m2,m3,m4,λu hu=>by rw[m5];rw[hk]at hu;simpa using hu⟩)
     have hB2:u_ Z J is gs dF cz Ff (aO Z' (aK d ci) (bU k x.1 ow tags (.var t) false)) (bn J' (aK d ci) (b0,o0) cs bH) az.flatten:=by
      refine⟨λq Q b hq hb=>?_,λb hb=>hFf b (bG _ hb)⟩
      rcases uM hq with⟨rfl,rfl,_⟩|⟨e,hq'⟩
      ·rw[qc,C9 hk]at hb
       exact .inl (hFf b (bV _ (AY b hb)))
      ·rw[(kR (Z:=Z') (J:=J') (R:=bU k x.1 ow tags (.var t) false) e).blk]at hb
       exact B.blk q Q b hq' hb
     have xg:∀u v,dK Z' u->aW cx Z' J' ((b0 :: fU)++az.flatten) w' u v->aW cx (aO Z' (aK d ci) (bU k x.1 ow tags (.var t) false)) (bn J' (aK d ci) (b0,o0) cs bH) az.flatten w' u v:=λu v hu hv=>
      q2.av H' (λr R hr hs=>absurd (kR (λe=>by have:=hr.1;rw[e,hn']at this;simp at this)) hs) (λr R hr hs=>absurd (kR (λe=>by have:=hr.1;rw[e,hn']at this;simp at this)) hs) hu hv
     obtain⟨J'',k1,k2,k3,k4,k5,k6,k7,k8⟩:=ih (ci:=ci+1) q1 hB2 h4 hW (λl tags hN t ht=>q2.tag (eD l tags hN t ht)) (λcj hc h=>by
      rw[jA]
      ·exact hfr cj (by omega) h
      ·intro e;have:=agO e;omega) (λb hb=>hFf b (bG _ hb)) (λh=>absurd h (Nat.succ_ne_zero _)) (λh=>absurd h (Nat.succ_ne_zero _))
     have hroot:(aO Z' (aK d ci) (bU k x.1 ow tags (.var t) false)).roots (aK d ci)=some (bU k x.1 ow tags (.var t) false):=fQ ..
     have H7:dK (aO Z' (aK d ci) (bU k x.1 ow tags (.var t) false)) (.ptr (aK d ci) [] 0):=⟨_,hroot,.inr (dW _)⟩
     refine⟨J'',k1,⟨k6 _ _ H7 (by rw[h3];exact awX),k2⟩,?_,k4,k5,λu v hu hv=>?_,λt ht=>k7 t (q2.tag ht),λu hu=>k8 u (q2.dK hu)⟩
     ·intro v hv
      rcases bM.1 hv with h|h
      ·subst h
       exact k8 _ H7
      ·exact k3 v h
     ·exact k6 u v (q2.dK hu) (xg u v hu hv)
    |into j q=>
     obtain⟨⟨rfl,hI⟩,h4⟩:=hL
     obtain⟨hci,rfl,rfl,i,r,q',wt,ht,R,g1,g2,g0,g3,hA⟩:=hW
     cases us with
     |cons _ _=>exact h4.elim
     |nil=>
      cases az with
      |cons _ _=>exact h4.elim
      |nil=>
       have key:∃av,as=[av]/\aW cx Z' J' [] w' av u/\dK Z' av:=by
        simp only[pX,K7,jf]at hcut sS
        rcases hA with⟨hp,rfl⟩|⟨hp,hA⟩
        ·rcases hI with⟨_,b,n,cp,e1,e2,e3⟩|⟨hp',_⟩
         ·obtain⟨k1,k2⟩:=hcut hci ⟨_,_,rfl⟩ j i r q' wt ht R b n cp _ g1 g2 g0 g3 e2 e3
          exact⟨_,rfl,by rw[e1];exact k1,k2⟩
         ·exact absurd hp hp'
        ·rcases hI with⟨hp',_⟩|⟨_,hI⟩
         ·exact absurd hp' hp
         ·rcases hA with⟨hm,rfl⟩|⟨hm,rfl⟩
          ·rcases hI with⟨_,hv⟩|⟨hm',_⟩
           ·exact⟨_,rfl,hv,trivial⟩
           ·exact absurd hm (by omega)
          ·obtain⟨k1,k2⟩:=sS hci ⟨_,_,rfl⟩ j i r q' wt ht R q _ u g1 g2 g0 g3 hm hI
           exact⟨_,rfl,k1,k2⟩
       obtain⟨av,rfl,k1,k2⟩:=key
       simp only[pX,K7,jf]at H' B
       refine⟨J',H',⟨k1,trivial⟩,λv hv=>?_,rfl,B,λ_ _ _ h=>?_,λ_ h=>h,λ_ h=>h⟩
       ·simp only[gY]at hv
        subst hv
        exact k2
       ·simp only[pX,K7,jf]at h
        exact h
end
end
section
open Go
variable [Fr]
section
variable {P:Program}{T:bK}{cx:Cx}{Z:St}{J:aJ}{F:List Nat}{a:Act}{w w':World}
theorem aji:∀{ps:List aM} {c:Cont (kin ps)} {vs:List Value} {is:List aV} {ts:List (Value×dS)},qB cx Z J F a w ps c vs is ts->
  is.flatMap aV.ws=dA ts/\(∀q∈ts,qa cx Z J F w q.1 q.2)/\(∀t∈mP ts,∃(j:Nat) (i:aV) (k:K) (ow:List TypeId),ps[j]?=some (.own k ow)/\is[j]?=some i/\t∈i.ids)/\vs.length=ps.length/\is.length=ps.length:=by
 intro ps
 induction ps with
 |nil=>
  intro c vs is ts h
  cases vs with
  |cons _ _=>exact h.elim
  |nil=>cases is with
   |cons _ _=>exact h.elim
   |nil=>cases ts with
    |cons _ _=>exact h.elim
    |nil=>exact⟨rfl,by simp,by simp[mP],rfl,rfl⟩
 |cons p ps ih=>
  intro c vs is ts h
  cases vs with
  |nil=>cases p<;>exact h.elim
  |cons v vs=>
   cases is with
   |nil=>cases p<;>exact h.elim
   |cons i is=>
    have hshift:∀{ts:List (Value×dS)},(∀t∈mP ts,∃(j:Nat) (i:aV) (k:K) (ow:List TypeId),ps[j]?=some (.own k ow)/\is[j]?=some i/\t∈i.ids)->∀t∈mP ts,∃(j:Nat) (i':aV) (k:K) (ow:List TypeId),(p :: ps)[j]?=some (.own k ow)/\(i :: is)[j]?=some i'/\t∈i'.ids:=by
     intro ts h t ht
     obtain⟨j,i',k,ow,h1,h2,h3⟩:=h t ht
     exact⟨j+1,i',k,ow,by simpa using h1,by simpa using h2,h3⟩
    cases p with
    |val k bE=>obtain⟨⟨_,h1,_⟩,h6⟩:=h;obtain⟨g1,g2,g3,g4,g5⟩:=ih h6;exact⟨by simp[h1,g1],g2,hshift g3,by simp[g4],by simp[g5]⟩
    |ro k=>obtain⟨⟨_,h1,_⟩,h6⟩:=h;obtain⟨g1,g2,g3,g4,g5⟩:=ih h6;exact⟨by simp[h1,g1],g2,hshift g3,by simp[g4],by simp[g5]⟩
    |rw k ow wt ht=>obtain⟨⟨r,R,p,hP,_⟩,h6⟩:=h;obtain⟨g1,g2,g3,g4,g5⟩:=ih h6;exact⟨by simp[hP.ws,g1],g2,hshift g3,by simp[g4],by simp[g5]⟩
    |dQ k ow wt=>obtain⟨⟨r,R,p,hP,_⟩,h6⟩:=h;obtain⟨g1,g2,g3,g4,g5⟩:=ih h6;exact⟨by simp[hP.ws,g1],g2,hshift g3,by simp[g4],by simp[g5]⟩
    |fn f ks=>obtain⟨⟨_,h1,_⟩,h6⟩:=h;obtain⟨g1,g2,g3,g4,g5⟩:=ih h6;exact⟨by simp[h1,g1],g2,hshift g3,by simp[g4],by simp[g5]⟩
    |own k ow=>
     cases ts with
     |nil=>exact h.elim
     |cons q ts=>
      obtain⟨⟨h1,h2,h3,h4,h5⟩,h6⟩:=h
      obtain⟨g1,g2,g3,g4,g5⟩:=ih h6
      refine⟨?_,?_,?_,by simp[g4],by simp[g5]⟩
      ·rw[h3];simp[g1,dA]
      ·intro q' hq
       rcases bM.1 hq with h|h
       ·subst h;rw[h1];exact h2
       ·exact g2 q' h
      ·intro t ht
       simp only[mP,kP,dh]at ht
       rcases ht with ht|ht
       ·exact⟨0,i,k,ow,rfl,rfl,by rw[h3];exact ht⟩
       ·exact hshift g3 t ht
    |into j q=>obtain⟨⟨_,h1,_⟩,h6⟩:=h;obtain⟨g1,g2,g3,g4,g5⟩:=ih h6;exact⟨by simp[h1,g1],g2,hshift g3,by simp[g4],by simp[g5]⟩
def QX(is:List aV)(p:aM)(i:aV):Prop:=
 (∃(k:K) (bE:List Nat),p=.val k bE/\(∀m∈bE,∃q:aV,is[m]?=some q/\q.wb≠none)/\∀t∈i.ids,(∃(n:Nat) (j':aV),fH t.1 is 0=some n/\n∈bE/\is[n]?=some j'/\∀b∈j'.bt,b∉k.tys)\/(fH t.1 is 0=none/\t.1∉is.flatMap λj=>j.ws.flatMap Wr.dZ))\/
  ((∀k bE,p≠.val k bE)/\∀t∈i.ids,t.1∉is.flatMap aV.touched)
theorem ayJ{is:List aV}:∀{ps:List aM} {l:List aV},zJ is ps l=true->∀(j:Nat) (p:aM) (i:aV),ps[j]?=some p->l[j]?=some i->QX is p i:=by
 intro ps
 induction ps with
 |nil=>intro l _ j p i hp;simp at hp
 |cons p ps ih=>
  intro l h j q i hq hi
  cases l with
  |nil=>cases p<;>simp[zJ]at h
  |cons x l=>
   have hhead:(j=0->q=p/\i=x):=by
    intro e
    subst e
    simp only[rA,ak]at hq hi
    exact⟨hq.symm,hi.symm⟩
   have Bd:zJ is ps l=true->j≠0->QX is q i:=by
    intro h hj
    obtain⟨j',rfl⟩:∃j',j=j'+1:=⟨j-1,by omega⟩
    exact ih h j' q i (by simpa using hq) (by simpa using hi)
   have hother:(∀(k:K) (bE:List Nat),p≠.val k bE)->(x.ids.all (λt=>!ay t.1 (is.flatMap aV.touched))&&zJ is ps l)=true->QX is q i:=by
    intro hp hx
    rw[bf]at hx
    by_cases hj:j=0
    ·obtain⟨e1,e2⟩:=hhead hj
     rw[e1,e2]
     refine .inr ⟨hp,λt ht=>?_⟩
     have:=dV.1 hx.1 t ht
     simpa[gF]using this
    ·exact Bd hx.2 hj
   cases p with
   |val k bE=>
    simp only[zJ,bf]at h
    by_cases hj:j=0
    ·obtain⟨rfl,rfl⟩:=hhead hj
     refine .inl ⟨k,bE,rfl,λm hm=>?_,λt ht=>?_⟩
     ·have:=dV.1 h.1.1 m hm
      cases hmi:is[m]? with
      |none=>rw[hmi]at this;simp at this
      |some q=>
       rw[hmi]at this
       refine⟨q,rfl,λe=>?_⟩
       simp[e]at this
     ·have:=dV.1 h.1.2 t ht
      cases hpo:fH t.1 is 0 with
      |none=>
       rw[hpo]at this
       refine .inr ⟨rfl,?_⟩
       simpa[gF]using this
      |some n=>
       rw[hpo]at this
       simp only[bf]at this
       cases hni:is[n]? with
       |none=>rw[hni]at this;simp at this
       |some j'=>
        rw[hni]at this
        refine .inl ⟨n,j',rfl,fF.1 this.1,hni,λb hb=>?_⟩
        have h2:=dV.1 this.2 b hb
        simpa[gF]using h2
    ·exact Bd h.2 hj
   |ro k=>exact hother (by simp) h
   |rw k ow wt ht=>exact hother (by simp) h
   |dQ k ow wt=>exact hother (by simp) h
   |own k ow=>exact hother (by simp) h
   |fn f ks=>exact hother (by simp) h
   |into j q=>exact hother (by simp) h
theorem ai9{Z1:St}{gp:Bool}:∀{ps:List aM} {is:List aV} {c:Cont (gM ps)} {ws:List Wr},(∀i∈is,∀r q,i.wb=some (r,q)->Z1.roots r=Z.roots r)->nI gp Z ps is c ws->nI gp Z1 ps is c ws:=by
 intro ps
 induction ps with
 |nil=>
  intro is c ws _ h
  cases is with
  |nil=>exact h
  |cons _ _=>exact h.elim
 |cons p ps ih=>
  intro is c ws hr h
  cases is with
  |nil=>cases p<;>exact h.elim
  |cons i is=>
   have hr':∀i∈is,∀r q,i.wb=some (r,q)->Z1.roots r=Z.roots r:=λi hi=>hr i (by simp[hi])
   cases p with
   |rw kk ow wG ht0=>obtain⟨r,p,wt,ht,R,z,ws',h1,h2,h3,h4,h5⟩:=h;exact⟨r,p,wt,ht,R,z,ws',h1,by rw[hr i (by simp) r _ h1];exact h2,h3,h4,ih hr' h5⟩
   |dQ kk ow wG=>obtain⟨r,p,wt,ht,R,z,ws',h1,h2,h3,h4,h5⟩:=h;exact⟨r,p,wt,ht,R,z,ws',h1,by rw[hr i (by simp) r _ h1];exact h2,h3,h4,ih hr' h5⟩
   |val _ _=>exact ih hr' h
   |ro _=>exact ih hr' h
   |own _ _=>exact ih hr' h
   |fn _ _=>exact ih hr' h
   |into _ _=>exact ih hr' h
theorem al0{as:List AV}{us:List Value}(h:h_ cx Z J F w as us):iZ cx Z J F w (Q9 as) (uY us):=by
 cases as with
 |nil=>cases us with
  |nil=>exact⟨[],rfl,trivial⟩
  |cons _ _=>exact h.elim
 |cons x as=>cases us with
  |nil=>exact h.elim
  |cons u us=>
   cases as with
   |nil=>cases us with
    |nil=>exact h.1
    |cons _ _=>exact h.2.elim
   |cons y as=>cases us with
    |nil=>exact h.2.elim
    |cons u' us=>exact⟨u :: u' :: us,rfl,h⟩
theorem alZ{as:List AV}(h:∀v∈as,dK Z v):mZ Z (Q9 as):=by
 cases as with
 |nil=>exact λa ha=>by simp at ha
 |cons x as=>cases as with
  |nil=>exact h x (by simp)
  |cons y as=>exact h
theorem aw6{A:Type}{f g:A->List Nat}:∀{l:List A},(∀x∈l,(g x).Sublist (f x))->(l.flatMap f).Nodup->(l.flatMap g).Nodup:=by
 intro l hs h
 refine h.sublist ?_
 clear h
 induction l with
 |nil=>simp
 |cons x l ih=>
  simp only[kP]
  exact(hs x (by simp)).append (ih (λy hy=>hs y (by simp[hy])))
theorem aon{A:Type}{f:A->List Nat}:∀{l:List A} {x:A},x∈l->(l.flatMap f).Nodup->(f x).Nodup:=by
 intro l
 induction l with
 |nil=>intro x hx;simp at hx
 |cons y l ih=>
  intro x hx h
  simp only[kP]at h
  have n:=dJ.1 h
  rcases bM.1 hx with h1|h1
  ·subst h1;exact n.1
  ·exact ih h1 n.2.1
theorem ve.mono{f:FuncId}{args:Array Value}{R R':Value->World->Prop}(h:ve P f args w R)(hr:∀v w',R v w'->R' v w'):ve P f args w R':=by
 rcases h with⟨h1,h2⟩|⟨v,w',h1,h2⟩
 ·exact .inl ⟨h1,h2.mono λe w' ⟨v,he,h⟩=>⟨v,he,hr _ _ h⟩⟩
 ·exact .inr ⟨v,w',h1,hr _ _ h2⟩
theorem awx{wD:List aM}{all:List aV}:∀{ps:List aM} {is:List aV},BH wD all ps is=true->∀(j m:Nat) (p:List (Option Nat)) (i:aV) (r:Nat) (q:List Stp),ps[j]?=some (.into m p)->is[j]?=some i->i.lie=some (r,q)->
  ∃(k:K) (ow wt ht:List TypeId) (i':aV) (q':List Stp) (u:List TypeId×List TypeId),wD[m]?=some (.rw k ow wt ht)/\all[m]?=some i'/\i'.wb=some (r,q',u)/\q=q'++q.drop (q.length-p.length):=by
 intro ps
 induction ps with
 |nil=>intro is _ j m p i r q h1;simp at h1
 |cons p0 ps ih=>
  intro is h j m p i r q h1 h2 h3
  cases is with
  |nil=>simp at h2
  |cons i0 is=>
   cases j with
   |succ j=>
    have h':BH wD all ps is=true:=by
     cases p0 with
     |into _ _=>simp only[BH,bf]at h;exact h.2
     |_=>exact h
    exact ih h' j m p i r q (by simpa using h1) (by simpa using h2) h3
   |zero=>
    simp only[rA,ak]at h1 h2
    subst h1 h2
    simp only[BH,bf]at h
    have h:=h.1
    unfold agL at h
    rw[h3]at h
    simp only at h
    cases hm:wD[m]? with
    |none=>rw[hm]at h;simp at h
    |some p1=>
     rw[hm]at h
     cases ha:all[m]? with
     |none=>rw[ha]at h;cases p1<;>simp at h
     |some b=>
      rw[ha]at h
      cases p1 with
      |rw k ow wt ht=>
       simp only at h
       cases hw:b.wb with
       |none=>rw[hw]at h;simp at h
       |some u=>
        obtain⟨r',q',u1,u2⟩:=u
        rw[hw]at h
        simp only[bf]at h
        obtain⟨⟨⟨c1,c2⟩,c3⟩,c4⟩:=h
        have e1:=bu c1
        have e2:=bu c2
        have e3:=JJ c3 (by rw[yX c4,yX (OI c3 c4)])
        subst e1
        refine⟨k,ow,wt,ht,b,q',(u1,u2),rfl,rfl,hw,?_⟩
        have e4:q.length-p.length=q'.length:=by omega
        rw[e4]
        conv=>rhs;rw[e3]
        rw[<-e3]
        exact(Ab q'.length q).symm.trans (by rw[<-e3])
      |_=>simp at h
theorem amv{n:Nat}{E:Entry}(hE:bg P n E)(H:Rel cx Z J F a w){dst:Option Nat}{mF:List AV}{vs:List Value}(hl:h_ cx Z J F w mF vs)(Hy:∀v∈mF,dK Z v)(hdn:∀d,dst=some d->d<cx.nt){ws:List Wr}
  (h:(Ry n E dst mF λws=>(.ret ws:Prog (List Wr))).ends Z ws):ve P E.f vs.toArray w λv w'=>∃J' F',Rel cx (aF ws Z) J' F' (a.put dst v) w':=by
 unfold Ry at h
 obtain⟨c,is,ts,hG,h⟩:=aoy H hl Hy h
 obtain⟨gw,gt,gtt,gl1,gl2⟩:=aji hG
 rcases bB h with⟨hc,h⟩|⟨_,h⟩
 ·rw[bf,bf,bf]at hc
  obtain⟨⟨⟨hap,ho⟩,hvo⟩,hlo⟩:=hc
  have hnd:=Gy.1 hap
  have hone:∀(j j':Nat) (i i':aV) (r:Nat) (u u':List Stp×List TypeId×List TypeId),is[j]?=some i->is[j']?=some i'->i.wb=some (r,u)->i'.wb=some (r,u')->j=j':=by
   intro j j' i i' r u u' h1 h2 h3 h4
   refine j6 λhne=>?_
   exact flatMap_apart hnd h1 h2 hne r (by unfold aV.touched;rw[h3];simp) (by unfold aV.touched;rw[h4];simp)
  obtain⟨out,hout,h⟩:=h
  obtain⟨mU,hB,h⟩:=al1 h
  have hvs:=ayJ hvo
  have DK:(dA ts).flatMap Wr.dZ=is.flatMap λi=>i.ws.flatMap Wr.dZ:=by rw[<-gw,List.flatMap_assoc]
  have ap5:((dA ts).flatMap Wr.dZ).Nodup:=by
   rw[DK]
   exact aw6 (λi _=>by unfold aV.touched;exact List.sublist_append_right _ _) hnd
  have ap6:∀r,r∈(dA ts).flatMap Wr.dZ->r∈is.flatMap aV.touched:=by
   intro r hr
   rw[DK]at hr
   obtain⟨i,hi,h1⟩:=mW.1 hr
   exact mW.2 ⟨i,hi,by unfold aV.touched;exact bG _ h1⟩
  have ach:∀(m:Nat) (i:aV) r q,is[m]?=some i->i.wb=some (r,q)->r∉(dA ts).flatMap Wr.dZ:=by
   intro m i r q hi hw hr
   rw[DK]at hr
   obtain⟨i',hi',h1⟩:=mW.1 hr
   obtain⟨m',hm',he⟩:=wQ.1 hi'
   have hi2:is[m']?=some i':=by rw[fG hm',he]
   have ht1:r∈i.touched:=by unfold aV.touched;rw[hw];simp
   by_cases e:m=m'
   ·subst e
    rw[hi]at hi2
    simp only[ak]at hi2
    subst hi2
    have:=aon hi' hnd
    unfold aV.touched at this
    rw[hw]at this
    simp only[gX,iA]at this
    exact(jO.1 this).1 h1
   ·exact flatMap_apart hnd hi hi2 e r ht1 (by unfold aV.touched;exact bG _ h1)
  have Mo:∀(j:Nat) (i:aV),is[j]?=some i->∀t∈i.ids,t.1∉(dA ts).flatMap Wr.dZ:=by
   intro j i hi t ht hr
   have hj:j<E.ps.length:=by have:=(oh.1 hi).1;omega
   rcases hvs j E.ps[j] i (fG hj) hi with⟨k,bE,_,_,h1⟩|⟨_,h1⟩
   ·rcases h1 t ht with⟨n,j',h2,_,_,_⟩|⟨_,h2⟩
    ·obtain⟨i',q,_,h3,h4⟩:=wC h2
     simp only[Nat.sub_zero]at h3
     exact ach n i' t.1 q h3 h4 hr
    ·exact h2 (by rw[<-DK];exact hr)
   ·exact h1 t ht (ap6 _ hr)
  obtain⟨a_,F1,hs,H1,hA1,yR,hnF1,ay4,hS1,_,hV1,aqg,apQ⟩:=takes ts H gt ap5 (λt ht=>by
   obtain⟨j,i,k,ow,h1,h2,h3⟩:=gtt t ht
   exact Mo j i h2 t h3)
  have aoS:∀i∈is,∀t∈i.ids,Same Z J (aF (dA ts) Z) a_ t.1:=by
   intro i hi t ht
   obtain⟨j,hj,he⟩:=wQ.1 hi
   exact hS1 _ (Mo j i (by rw[fG hj,he]) t ht)
  have Sw:∀i∈is,∀r q,i.wb=some (r,q)->Same Z J (aF (dA ts) Z) a_ r:=by
   intro i hi r q hw
   obtain⟨j,hj,he⟩:=wQ.1 hi
   exact hS1 _ (ach j i r q (by rw[fG hj,he]) hw)
  have abO:=awx hlo
  obtain⟨gs,hJ,hfl⟩:=alY H1 hV1 hG hA1 aoS Sw (λj m p i r q h1 h2 h3=>by
   obtain⟨_,_,_,_,i',q',u,_,g2,g3,_⟩:=abO j m p i r q h1 h2 h3
   exact Sw i' (p9 g2) r _ g3)
  obtain⟨lv,li,lg,hat⟩:=hJ.at (i0:=0)
  have hA:Apart cx (aF (dA ts) Z) a_ F1 w E.ps is gs:=by
   refine⟨hone,by rw[hfl];exact yR,λj p i r n hp hi hn m i' q hm hq=>?_,λj p hp m hm=>?_,abO⟩
   ·rcases hvs j p i hp hi with⟨k,bE,h0,_,h1⟩|⟨_,h1⟩
    ·rcases h1 (r,n) hn with⟨n',j',h2,h3,h4,h5⟩|⟨h2,_⟩
     ·obtain⟨xu,q',_,h6,h7⟩:=wC h2
      simp only[Nat.sub_zero]at h6
      have e:=hone n' m xu i' r q' q h6 hm h7 hq
      subst e
      rw[hm]at h4
      simp only[ak]at h4
      subst h4
      subst h0
      exact⟨h3,k,bE,rfl,h5⟩
     ·exact absurd hq (ahl h2 i' (p9 hm) q)
    ·refine absurd ?_ (h1 (r,n) hn)
     exact mW.2 ⟨i',p9 hm,by unfold aV.touched;rw[hq];simp⟩
   ·have hj:j<is.length:=by have:=(oh.1 hp).1;omega
    rcases hvs j p is[j] hp (fG hj)with⟨k,bE,h0,h1,_⟩|⟨h0,_⟩
    ·subst h0
     obtain⟨q,h2,h3⟩:=h1 m hm
     cases hw:q.wb with
     |none=>exact absurd hw h3
     |some u=>exact⟨q,u,h2,hw⟩
    ·cases p with
     |val k bE=>exact absurd rfl (h0 k bE)
     |_=>simp[BP]at hm
  have hinit:=aqB H1 hJ hA
  have apX:Li (iN cx (aF (dA ts) Z) a_ F1 w E.ps c is gs) E.ps:=axn H1 hJ
  refine(hE c out hout _ _ vs.toArray w rfl rfl (by simpa using gl1) apX hinit).mono ?_
  rintro v w' ⟨dF,cz,Ff,af,us,az,Hf,hv,hRL,hfn,AX,hOL⟩
  have hB1:nI (!uR is) (aF (dA ts) Z) E.ps is (Cont.snd (iI E.rs) (gM E.ps) out) mU:=ai9 (λi hi r q hw=>(Sw i hi r q hw).root) hB
  obtain⟨gB,H2,G9,hsl2,HZ,H_,apj,yU⟩:∃gB,Rel cx (aF mU (aF (dA ts) Z)) gB az.flatten a w'/\u_ (aF (dA ts) Z) a_ is gs dF cz Ff (aF mU (aF (dA ts) Z)) gB az.flatten/\(aF mU (aF (dA ts) Z)).slots=(aF (dA ts) Z).slots/\
    (∀q,(aF (dA ts) Z).roots q=none->(aF mU (aF (dA ts) Z)).roots q=none)/\(∀t,qw (aF (dA ts) Z) t->qw (aF mU (aF (dA ts) Z)) t)/\
    (∀r R,mU.find? (λw=>w.loc.beq (.r r))=some (.r r (some R))->(aF mU (aF (dA ts) Z)).roots r=some R)/\
    ((∀(j:Nat) (i:aV) (r:Nat) (q:List Stp) (wt ht:List TypeId),jm∉ht->is[j]?=some i->i.wb=some (r,q,wt,ht)->∃Rf R' R,dF.roots (aG j)=some Rf/\cZ dF Rf/\Rf.g=0/\mU=[.r r (some R')]/\(aF (dA ts) Z).roots r=some R/\bW q R'.k R'.x/\(∀t∈aC q R'.k,ay t R'.own=true)/\aD q R'.k R'.x=some ⟨Rf.k,Rf.x⟩/\
     (cZ (aF mU (aF (dA ts) Z)) R'->∃wh,aR (hp w') q R'.k (gB.hdr r) (aL gB R' r)=some (cz.hdr (aG j),wh)))\/∀p∈E.rs,OM p=true):=by
   cases ho1:uR is with
   |true=>
    rw[ho1,gI]at hB1
    obtain⟨gB,H2,G9,hsl2,HZ,H_,DV,yU⟩:=al5 H1 hJ ho1 Hf hB1 hOL AX hfn
    refine⟨gB,H2,G9,hsl2,HZ,H_,λr R hf=>?_,.inl yU⟩
    rcases DV with rfl|⟨r',R',rfl⟩
    ·simp at hf
    ·have hm:=List.mem_of_find?_eq_some hf
     simp only[gY,Wr.r.injEq,ak]at hm
     obtain⟨h1,h2⟩:=hm
     rw[h1,h2]
     exact fQ ..
   |false=>
    rw[ho1]at hB1 ho
    rw[kr]at hB1
    simp only[Kt,bf]at ho
    obtain⟨gB,H2,G9,hsl2,HZ,H_,hf2⟩:=al3 H1 hJ hA ho.1.1 (dV.1 ho.1.2) Hf hB1 hOL AX hfn
    exact⟨gB,H2,G9,hsl2,HZ,H_,hf2,.inr (dV.1 ho.2)⟩
  have apR:∀l tags,yf Z mU l tags->fI (aF mU (aF (dA ts) Z)) tags:=by
   intro l tags hN t ht
   rcases hN.2 t ht with h|⟨R,hf,hn⟩|⟨R,hr,hn⟩
   ·exact .inl h
   ·exact .inr ⟨R,apj _ _ hf,.inr (by rw[hn];exact bZ _)⟩
   ·exact H_ t (aqg t (.inr ⟨R,hr,.inr (by rw[hn];exact bZ _)⟩))
  cases dst with
  |none=>
   simp only at h
   rw[bC h,mY,gw]
   exact⟨gB,_,H2⟩
  |some d=>
   simp only at h
   obtain⟨as,ws3,hW,h⟩:=axM h
   rw[bC h,mY,mY,mY,gw]
   obtain⟨α3,k1,k2,k3,k4,_⟩:=alP H1 hJ Hf H2 G9 hRL hW apR (λcj _ hn=>HZ _ (apQ _ hn)) AX (λ_ hin j i r q wt ht R b n cp m g1 g2 g0 g3 g4 g5=>by
    have yU:=yU.resolve_right λhn=>by obtain⟨j0,p0,e⟩:=hin;have:=hn (.into j0 p0) (by rw[e];simp);simp[OM]at this
    obtain⟨Rf,R',R0,p1,p2,p3,p4,p5,p6,p7,pg,p8⟩:=yU j i r q wt ht g0 g1 g2
    have eR:R=R':=by
     rw[p4]at g3
     simp[Wr.loc,Loc.beq]at g3
     exact g3.symm
    subst eR
    have hroot:(aF mU (aF (dA ts) Z)).roots r=some R:=by
     rw[p4];exact fQ ..
    refine⟨⟨b,cp,rfl,λR2 hR2 hv2 _ dd hdd=>?_⟩,R,hroot,.inr (bZ _)⟩
    rw[hroot]at hR2
    simp only[ak]at hR2
    subst hR2
    obtain⟨wh,mK⟩:=p8 hv2
    obtain⟨hk,ji⟩:=g5 Rf ⟨p1,p2.1⟩ p3
    have hh:cz.hdr (aG j)=[.slice b n cp]:=by
     unfold VC at ji
     split at ji
     ·simp at ji
     ·exact ji.1
    exact⟨p6,p7,n,wh,by rw[<-hh];exact mK,g4⟩) (λ_ hin j i r q wt ht R p m v g1 g2 g0 g3 hm hI=>by
    have yU:=yU.resolve_right λhn=>by obtain⟨j0,p0,e⟩:=hin;have:=hn (.into j0 p0) (by rw[e];simp);simp[OM]at this
    obtain⟨Rf,R',R0,p1,p2,p3,p4,p5,p6,p7,pg,p8⟩:=yU j i r q wt ht g0 g1 g2
    have eR:R=R':=by
     rw[p4]at g3
     simp[Wr.loc,Loc.beq]at g3
     exact g3.symm
    subst eR
    have hroot:(aF mU (aF (dA ts) Z)).roots r=some R:=by
     rw[p4];exact fQ ..
    rcases hI with⟨h,_⟩|⟨_,R1,cs,b,o,q1,q2,q3,q4,q5⟩
    ·exact absurd h hm
    have e1:R1=Rf:=by have:=q1.1;rw[p1]at this;simpa using this.symm
    subst e1
    refine⟨⟨⟨b,o,q5⟩,λR2 hR2 hv2 _ _ _=>?_⟩,R,hroot,.inr (bZ _)⟩
    rw[hroot]at hR2
    simp only[ak]at hR2
    subst hR2
    obtain⟨wh,mK⟩:=p8 hv2
    refine⟨Lg q pg p6 q2,cs,b,o,?_,q5⟩
    rw[JR q pg mK]
    exact(WA _ _ q3 q4).1 wh)
   refine⟨α3,[],?_⟩
   rw[hv]
   exact k1.put (hdn d rfl) (alZ k3) (al0 k2)
 ·exact h.elim
end
end
section
open Go
variable [Fr]
section
variable {P:Program}{T:bK}{cx:Cx}{Z:St}{J:aJ}{F:List Nat}{a:Act}{w:World}{o:Oper}{ws:List Wr}{hi:Hint}{n:Nat}
def PL(P:Program)(cx:Cx)(o:Oper)(a:Act)(w:World)(Z':St):Prop:=
 ∀(K:Act->World->Prop) (Q:Exit->Act->World->Prop),(∀J' F' a' w',Rel cx Z' J' F' a' w'->K a' w')->o.wp P a w K Q
theorem dG.toW{Z':St}(h:dG P cx o a w Z'):PL P cx o a w Z':=λK Q hK=>h.wp hK
def wI(P:Program)(n:Nat)(hi:Hint):Prop:=∀q∈hi.calls,bg P n q.2.2
theorem aof{f d:Nat}:∀{l:List (Nat×Option Nat×Entry)} {E:Entry},yM f d l=some E->∃q∈l,q.2.2=E:=by
 intro l
 induction l with
 |nil=>intro E h;simp[yM]at h
 |cons q l ih=>
  intro E h
  obtain⟨g,od,E'⟩:=q
  cases od with
  |none=>
   unfold yM at h
   cases hb:Nat.beq f g with
   |true=>rw[hb]at h;simp only[fT,ak]at h;exact⟨_,jE,h⟩
   |false=>
    rw[hb]at h
    obtain⟨q,h1,h2⟩:=ih h
    exact⟨q,jD _ h1,h2⟩
  |some e=>
   unfold yM at h
   cases hb:(Nat.beq f g&&Nat.beq d e)with
   |true=>rw[hb]at h;simp only[fT,ak]at h;exact⟨_,jE,h⟩
   |false=>
    rw[hb]at h
    obtain⟨q,h1,h2⟩:=ih h
    exact⟨q,jD _ h1,h2⟩
theorem awC{l m:List AV}{vs us:List Value}(h1:h_ cx Z J F w l vs)(h2:h_ cx Z J F w m us):h_ cx Z J F w (l++m) (vs++us):=by
 induction l generalizing vs with
 |nil=>cases vs with
  |nil=>exact h2
  |cons _ _=>exact h1.elim
 |cons x l ih=>cases vs with
  |nil=>exact h1.elim
  |cons v vs=>exact⟨h1.1,ih h1.2⟩
theorem aaf:∀{cs:List (TypeId×Dat×List Tag)} {vs:List Value},m_ cx Z J F w cs vs->h_ cx Z J F w (cs.map λq=>.fC q.1 q.2.1.1 q.2.1.2 q.2.2) vs
 | [],[],_=>trivial
 |_ :: _,_ :: _,h=>⟨h.1,aaf h.2⟩
 | [],_ :: _,h=>h.elim
 |_ :: _,[],h=>h.elim
theorem aac(hC:wI P n hi)(H:Rel cx Z J F a w){c:Call}(ho:o.op=.call c)(hdn:∀d,o.dst=some d->d<cx.nt)(h:(LF hi n o.dst c λws=>(.ret ws:Prog (List Wr))).ends Z ws):PL P cx o a w (aF ws Z):=by
 intro K Q hK
 unfold LF at h
 split at h
 ·rename_i f ao9
  obtain⟨fv,h1,h2,h⟩:=jh H h
  cases fv with
  |fn f' caps=>
   simp only at h
   obtain⟨us,e1,e2⟩:=h1
   obtain⟨l,h3,h4,h⟩:=vR H h
   cases hf:yM f' (o.dst.getD 0) hi.calls with
   |none=>rw[hf]at h;exact h.elim
   |some E=>
    rw[hf]at h
    simp only at h
    rcases bB h with⟨hb,h9⟩|⟨_,h⟩
    ·have hEf:E.f=f':=bu hb
     clear h
     subst hEf
     obtain⟨q,hq,rfl⟩:=aof hf
     have hcall:=amv (hC q hq) H (awC h3 (aaf e2)) (λv hv=>by
      rcases dh.1 hv with h|h
      ·exact h4 v h
      ·obtain⟨cc,hcc,rfl⟩:=d_.1 h
       exact h2 cc hcc) hdn h9
     have hargs:(c.args.toList.map a.eval++us).toArray=c.args.map a.eval++us.toArray:=by
      apply rW
      simp
     rw[hargs]at hcall
     have hrun:(execOp a.eval o).run P w=(callFunc q.2.2.f (c.args.map a.eval++us.toArray)).run P w:=by
      simp only[execOp,ho,resolve,ao9,e1,Deferred.ofValue,dH,eH,eZ,invoke,Array.empty_append]
     unfold Oper.wp
     rw[hrun]
     rcases hcall with⟨g1,g2⟩|⟨v,w',g1,J',F',g2⟩
     ·rw[g1]
      refine g2.mono λe w' he=>?_
      obtain⟨v,rfl,J',F',hR⟩:=he
      exact hK _ _ _ _ hR
     ·rw[g1]
      exact hK _ _ _ _ g2
    ·exact h.elim
  |_=>exact h.elim
 ·exact h.elim
theorem aiz(hT:eU P T)(hSt:vJ P T)(hC:wI P n hi)(H:Rel cx Z J F a w)(hnt:hi.nt=cx.nt)(h:(zC T hi n o λws=>(.ret ws:Prog (List Wr))).ends Z ws):PL P cx o a w (aF ws Z):=by
 unfold zC at h
 cases hd:o.dst with
 |none=>
  rw[hd]at h
  simp only at h
  unfold aiy at h
  split at h
  ·rename_i t x v ho
   exact(anE hT H hd ho h).toW
  ·rename_i c ho
   split at h
   ·rename_i hcb
    obtain⟨vs,h1,h2,h⟩:=vR H h
    split at h
    ·split at h
     ·rename_i ht0
      obtain⟨v,w',J',r1,r2⟩:=ana hT H ho hcb h1 ht0 h
      refine(show dG P cx o a w (aF ws Z)from⟨v,w',J',[],.inl r1,?_⟩).toW
      rw[hd]
      exact r2
     ·exact h.elim
    ·exact h.elim
   ·exact aac hC H ho (by rw[hd];simp) (by rw[hd];exact h)
  ·exact h.elim
 |some d=>
  rw[hd]at h
  simp only at h
  rcases bB h with⟨hb,h⟩|⟨_,h⟩
  ·have hdn:d<cx.nt:=by
    rw[<-hnt]
    unfold Nat.blt at hb
    exact Lb hb
   rcases bB h with⟨_,h⟩|⟨_,h⟩
   ·exact(anD hT H hd hdn h).toW
   rcases bB h with⟨_,h⟩|⟨_,h⟩
   ·exact(anB hT H hd hdn h).toW
   unfold aix at h
   cases ho:o.op with
   |move x=>rw[ho]at h;exact(anr H hd hdn ho h).toW
   |assign x=>rw[ho]at h;exact(am5 (L:=OH hi d) H hd hdn ho h).toW
   |pick c x y=>rw[ho]at h;exact(anw H hd hdn ho h).toW
   |alloc t=>rw[ho]at h;exact(am1 hT H hd hdn ho h).toW
   |box t x=>rw[ho]at h;exact(am8 H hd hdn ho h).toW
   |build t ps=>rw[ho]at h;exact(aaB hT H hd hdn h ho).toW
   |buildSlice t l ps=>rw[ho]at h;exact(am9 (L:=OH hi d) hT H hd hdn h ho).toW
   |load t x=>rw[ho]at h;exact(ann hT H hd hdn ho h).toW
   |nilCheck x=>rw[ho]at h;exact(ant H hd hdn ho h).toW
   |binOp op t x y t2=>rw[ho]at h;exact(am6 hT hSt H hd hdn ho h).toW
   |unOp op t x=>rw[ho]at h;exact(anG H hd hdn ho h).toW
   |convert s t x=>rw[ho]at h;exact(anc hT H hd hdn ho h).toW
   |field t x n=>rw[ho]at h;exact(anh hT H hd hdn ho h).toW
   |fieldAddr t x n=>rw[ho]at h;exact(ani hT H hd hdn ho h).toW
   |indexAddr t x y=>rw[ho]at h;exact(ank hT H hd hdn ho h).toW
   |index t x y=>rw[ho]at h;exact(anj hT H hd hdn ho h).toW
   |extract x i=>rw[ho]at h;exact(ang H hd hdn ho h).toW
   |makeSlice t x y=>rw[ho]at h;exact(anq hT H hd hdn h ho).toW
   |makeFunc f first caps=>
    rw[ho]at h
    cases f with
    |func f=>exact(anp H hd hdn ho h).toW
    |_=>exact h.elim
   |slice t x lo hi2 mx=>rw[ho]at h;exact(anA hT H hd hdn h ho).toW
   |call c=>
    rw[ho]at h
    simp only at h
    split at h
    ·rename_i hcb;exact(anl hT H hd hdn ho hcb h).toW
    ·rename_i hcb;exact(am4 hT H hd hdn ho hcb h).toW
    ·rename_i hcb;exact(aaC (mx:=false) H hd hdn ho hcb h).toW
    ·rename_i hcb;exact(aaC (mx:=true) H hd hdn ho hcb h).toW
    ·exact aac hC H ho (by rw[hd];intro d2 e;simp only[ak]at e;subst e;exact hdn) (by rw[hd];exact h)
    ·exact h.elim
   |_=>rw[ho]at h;exact h.elim
  ·exact h.elim
end
end
section
open Go
variable [Fr]
def Prog.mH{J:Type}:Prog J->St->List Loc->J->List Loc->Prop
 |.ret a,_,l,x,l'=>x=a/\l'=l
 |.fail,_,_,_,_=>False
 |.slot n k,Z,l,x,l'=>(k (Z.slots n)).mH Z (.s n :: l) x l'
 |.root r k,Z,l,x,l'=>(k (Z.roots r)).mH Z (.r r :: l) x l'
 |.dX c _ k,Z,l,x,l'=>c/\k.mH Z l x l'
 |.br c t e,Z,l,x,l'=>(c=true/\t.mH Z l x l')\/(c=false/\e.mH Z l x l')
 |.opt _ o k,Z,l,x,l'=>∃b,o=some b/\(k b).mH Z l x l'
theorem aic{J R:Type}(p:Prog J){Z:St}{l:List Loc}{K:J->List Loc->Option R}{r:R}(h:p.tT Z l K=some r):∃x l',p.mH Z l x l'/\K x l'=some r:=by
 induction p generalizing l with
 |ret a=>exact⟨a,l,⟨rfl,rfl⟩,h⟩
 |fail=>simp[Prog.tT]at h
 |slot n k ih=>exact ih _ h
 |root n k ih=>exact ih _ h
 |dX c d k ih=>
  simp only[Prog.tT]at h
  split at h
  ·rename_i hc
   obtain⟨x,l',h1,h2⟩:=ih h
   exact⟨x,l',⟨hc,h1⟩,h2⟩
  ·simp at h
 |br c t e qj qi=>
  simp only[Prog.tT]at h
  cases c with
  |true=>
   simp only[bL]at h
   obtain⟨x,l',h1,h2⟩:=qj h
   exact⟨x,l',.inl ⟨rfl,h1⟩,h2⟩
  |false=>
   simp only[bP,bI]at h
   obtain⟨x,l',h1,h2⟩:=qi h
   exact⟨x,l',.inr ⟨rfl,h1⟩,h2⟩
 |opt β o k ih=>
  simp only[Prog.tT]at h
  cases o with
  |none=>simp at h
  |some b=>
   simp only[aQ]at h
   obtain⟨x,l',h1,h2⟩:=ih b h
   exact⟨x,l',⟨b,rfl,h1⟩,h2⟩
theorem aaO{J:Type}(p:Prog J){Z:St}{l l':List Loc}{x:J}(h:p.mH Z l x l'):p.ends Z x:=by
 induction p generalizing l with
 |ret a=>exact h.1
 |fail=>exact h.elim
 |slot n k ih=>exact ih _ h
 |root n k ih=>exact ih _ h
 |dX c d k ih=>exact⟨h.1,ih h.2⟩
 |br c t e qj qi=>exact h.imp (λh=>⟨h.1,qj h.2⟩) (λh=>⟨h.1,qi h.2⟩)
 |opt β o k ih=>obtain⟨b,h1,h2⟩:=h;exact⟨b,h1,ih b h2⟩
theorem aaP{J:Type}(p:Prog J){Z:St}{x:J}(h:p.ends Z x):∀l,∃l',p.mH Z l x l':=by
 induction p with
 |ret a=>exact λl=>⟨l,h,rfl⟩
 |fail=>exact h.elim
 |slot n k ih=>exact λl=>ih _ h _
 |root n k ih=>exact λl=>ih _ h _
 |dX c d k ih=>exact λl=>(ih h.2 l).imp λ_ h'=>⟨h.1,h'⟩
 |br c t e qj qi=>
  intro l
  rcases h with h|h
  ·exact(qj h.2 l).imp λ_ h'=>.inl ⟨h.1,h'⟩
  ·exact(qi h.2 l).imp λ_ h'=>.inr ⟨h.1,h'⟩
 |opt β o k ih=>obtain⟨b,h1,h2⟩:=h;exact λl=>(ih b h2 l).imp λ_ h'=>⟨b,h1,h'⟩
theorem Sa{J:Type}(p:Prog J){Z:St}{l l':List Loc}{x:J}(h:p.mH Z l x l'):∀y∈l,y∈l':=by
 induction p generalizing l with
 |ret a=>rw[h.2];exact λ_ h=>h
 |fail=>exact h.elim
 |slot n k ih=>exact λy hy=>ih _ h y (by simp[hy])
 |root n k ih=>exact λy hy=>ih _ h y (by simp[hy])
 |dX c d k ih=>exact ih h.2
 |br c t e qj qi=>rcases h with h|h;exact qj h.2;exact qi h.2
 |opt β o k ih=>obtain⟨b,h1,h2⟩:=h;exact ih b h2
def agree(Z τ:St):Loc->Prop
 |.s n=>τ.slots n=Z.slots n
 |.r n=>τ.roots n=Z.roots n
theorem aaN{J:Type}(p:Prog J){Z τ:St}{l l':List Loc}{x:J}(h:p.mH Z l x l')(ha:∀y∈l',agree Z τ y):p.mH τ l x l':=by
 induction p generalizing l with
 |ret a=>exact h
 |fail=>exact h.elim
 |slot n k ih=>
  have h':(k (Z.slots n)).mH Z (.s n :: l) x l':=h
  have:=ha (.s n) (Sa _ h' _ jE)
  show(k (τ.slots n)).mH τ _ _ _
  rw[show τ.slots n=Z.slots n from this]
  exact ih _ h
 |root n k ih=>
  have h':(k (Z.roots n)).mH Z (.r n :: l) x l':=h
  have:=ha (.r n) (Sa _ h' _ jE)
  show(k (τ.roots n)).mH τ _ _ _
  rw[show τ.roots n=Z.roots n from this]
  exact ih _ h
 |dX c d k ih=>exact⟨h.1,ih h.2⟩
 |br c t e qj qi=>exact h.imp (λh=>⟨h.1,qj h.2⟩) (λh=>⟨h.1,qi h.2⟩)
 |opt β o k ih=>obtain⟨b,h1,h2⟩:=h;exact⟨b,h1,ih b h2⟩
theorem agP{a b:Loc}:a.beq b=true↔a=b:=by
 cases a<;>cases b<;>simp[Loc.beq]
theorem agX{x:Loc}{l:List Loc}:EW x l=true↔x∈l:=by
 induction l with
 |nil=>simp[EW]
 |cons y l ih=>
  simp only[EW,bM]
  cases h:x.beq y with
  |true=>simp[agP.1 h]
  |false=>
   have:x≠y:=λe=>by rw[e]at h;rw[(agP (a:=y) (b:=y)).2 rfl]at h;simp at h
   simp[this,ih]
theorem ZN{a b:List Loc}:LB a b=true↔∀x∈a,x∉b:=by
 unfold LB
 rw[dV]
 refine⟨λh x hx hb=>?_,λh x hx=>?_⟩
 ·have:=h x hx
  rw[agX.2 hb]at this
  simp at this
 ·cases hm:EW x b with
  |false=>rfl
  |true=>exact absurd (agX.1 hm) (h x hx)
theorem Q8(wr:Wr)(Z:St){y:Loc}(h:y≠wr.loc):agree Z (wr.app Z) y:=by
 cases wr with
 |s n a=>
  cases y with
  |s m=>exact upd_ne _ _ (λe=>h (by rw[e];rfl))
  |r m=>rfl
 |r n o=>
  cases o with
  |none=>
   cases y with
   |s m=>rfl
   |r m=>exact upd_ne _ _ (λe=>h (by rw[e];rfl))
  |some R=>
   cases y with
   |s m=>rfl
   |r m=>exact upd_ne _ _ (λe=>h (by rw[e];rfl))
theorem alR{Z τ ρ:St}{y:Loc}(h1:agree Z τ y)(h2:agree τ ρ y):agree Z ρ y:=by
 cases y with
 |s n=>exact h2.trans h1
 |r n=>exact h2.trans h1
theorem CX:∀(ws:List Wr) (Z:St) {y:Loc},y∉ws.map Wr.loc->agree Z (aF ws Z) y
 | [],Z,y,_=>by cases y<;>rfl
 |w :: ws,Z,y,h=>by
  simp only[jo,bM,not_or]at h
  exact alR (Q8 w Z h.1) (CX ws _ h.2)
theorem St.ext'{Z τ:St}(h:∀y,agree Z τ y):τ=Z:=by
 obtain⟨s,r⟩:=Z
 obtain⟨s',r'⟩:=τ
 have h1:s'=s:=funext λn=>h (.s n)
 have h2:r'=r:=funext λn=>h (.r n)
 subst h1
 subst h2
 rfl
theorem ZQ(w:Wr)(Z τ:St):agree (w.app Z) (w.app τ) w.loc:=by
 cases w with
 |s n a=>show upd τ.slots n a n=upd Z.slots n a n;rw[upd_same,upd_same]
 |r n o=>cases o<;>(show upd _ n _ n=upd _ n _ n;rw[upd_same,upd_same])
theorem alV(w:Wr){Z τ:St}{y:Loc}(h:agree Z τ y):agree (w.app Z) (w.app τ) y:=by
 by_cases e:y=w.loc
 ·subst e;exact ZQ w Z τ
 ·have h1:=Q8 w Z e
  have h2:=Q8 w τ e
  cases y with
  |s n=>exact h2.trans (h.trans h1.symm)
  |r n=>exact h2.trans (h.trans h1.symm)
theorem Q5:∀(ws:List Wr) {Z τ:St} {y:Loc},agree Z τ y->agree (aF ws Z) (aF ws τ) y
 | [],_,_,_,h=>h
 |w :: ws,_,_,_,h=>Q5 ws (alV w h)
theorem ZP:∀(ws:List Wr) {Z τ:St} {y:Loc},y∈ws.map Wr.loc->agree (aF ws Z) (aF ws τ) y
 | [],_,_,_,h=>by simp at h
 |w :: ws,Z,τ,y,h=>by
  simp only[jo,bM]at h
  by_cases e:y∈ws.map Wr.loc
  ·exact ZP ws e
  ·have e2:y=w.loc:=h.resolve_right e
   subst e2
   exact Q5 ws (ZQ w Z τ)
theorem alU{u v:List Wr}(h:∀x∈u.map Wr.loc,x∉v.map Wr.loc)(Z:St):aF u (aF v Z)=aF v (aF u Z):=by
 refine St.ext' λy=>?_
 by_cases hu:y∈u.map Wr.loc
 ·have h1:agree (aF u Z) (aF v (aF u Z)) y:=CX v _ (h y hu)
  have h2:agree (aF u Z) (aF u (aF v Z)) y:=ZP u hu
  cases y with
  |s n=>exact h2.trans h1.symm
  |r n=>exact h2.trans h1.symm
 ·have h1:agree (aF v Z) (aF u (aF v Z)) y:=CX u _ hu
  have h2:agree (aF v Z) (aF v (aF u Z)) y:=by
   refine Q5 v ?_
   have:=CX u Z hu
   cases y with
   |s n=>exact this
   |r n=>exact this
  cases y with
  |s n=>exact h1.trans h2.symm
  |r n=>exact h1.trans h2.symm
section
variable {P:Program}{T:bK}{hi:Hint}{n:Nat}{ops:Array Oper}
inductive wR(T:bK)(hi:Hint)(n:Nat)(ops:Array Oper)(o:Oper)(Z:St):List Wr->List Loc->Prop
 |plain (ws:List Wr) (rd:List Loc) (hg:guardOf ops o=none) (h:(zC T hi n o λws=>(.ret ws:Prog (List Wr))).mH Z [] ws rd):wR T hi n ops o Z ws rd
 |done (s:Nat) (want:Bool) (tg:List Tag) (ws:List Wr) (rd:List Loc) (hg:guardOf ops o=some (some s,want)) (hs:Z.slots s=.one (.val .bool want tg)) (h:(zC T hi n o λws=>(.ret ws:Prog (List Wr))).mH Z [.s s] ws rd):wR T hi n ops o Z ws rd
 |skip (s:Nat) (want:Bool) (hg:guardOf ops o=some (some s,want)) (hs:(∃tg,Z.slots s=.one (.val .bool (!want) tg))\/Z.slots s=.mQ []) (hd:Av hi o=true):wR T hi n ops o Z (zB o) [.s s]
theorem wR.agree{o:Oper}{Z τ:St}{ws:List Wr}{rd:List Loc}(h:wR T hi n ops o Z ws rd)(ha:∀y∈rd,Ow.agree Z τ y):wR T hi n ops o τ ws rd:=by
 cases h with
 |plain _ _ hg h=>exact .plain ws rd hg (aaN _ h ha)
 |done s want tg _ _ hg hs h=>
  have:=ha (.s s) (Sa _ h _ jE)
  exact .done s want tg ws rd hg (by rw[show τ.slots s=Z.slots s from this];exact hs) (aaN _ h ha)
 |skip s want hg hs hd=>
  have:=ha (.s s) (by simp)
  exact .skip s want hg (by rw[show τ.slots s=Z.slots s from this];exact hs) hd
theorem ah1{Z:St}{s:Nat}{b:Bool}{tg:List Tag}(h:Z.slots s=.one (.val .bool b tg)):refine Z s b tg=Z:=by
 unfold refine
 have:upd Z.slots s (.one (.val .bool b tg))=Z.slots:=by
  funext m
  by_cases e:m=s
  ·subst e;rw[upd_same,h]
  ·rw[upd_ne _ _ e]
 rw[this]
theorem aba{R:Type}{o:Oper}{Z:St}{go skip:List Loc->St->Option R}{r:R}(h:guarded Z ops o go skip=some r) :
  (guardOf ops o=none/\go [] Z=some r)\/(∃s want tg,guardOf ops o=some (some s,want)/\Z.slots s=.one (.val .bool want tg)/\go [.s s] Z=some r)\/
  (∃s want,guardOf ops o=some (some s,want)/\((∃tg,Z.slots s=.one (.val .bool (!want) tg))\/Z.slots s=.mQ [])/\skip [.s s] Z=some r):=by
 unfold guarded at h
 cases hg:guardOf ops o with
 |none=>rw[hg]at h;exact .inl ⟨rfl,h⟩
 |some q=>
  obtain⟨os,want⟩:=q
  rw[hg]at h
  cases os with
  |none=>simp at h
  |some s=>
   simp only at h
   refine .inr ?_
   split at h
   ·rename_i b tg hs
    cases b with
    |true=>
     simp only[bL]at h
     rw[ah1 hs]at h
     cases want with
     |true=>exact .inl ⟨s,true,tg,rfl,hs,h⟩
     |false=>exact .inr ⟨s,false,rfl,.inl ⟨tg,hs⟩,h⟩
    |false=>
     simp only[bP,bI]at h
     rw[ah1 hs]at h
     cases want with
     |true=>exact .inr ⟨s,true,rfl,.inl ⟨tg,hs⟩,h⟩
     |false=>exact .inl ⟨s,false,tg,rfl,hs,h⟩
   ·rename_i hs
    exact .inr ⟨s,want,rfl,.inr hs,h⟩
   ·simp at h
variable {cx:Cx}{Z:St}{J:aJ}{F:List Nat}{a:Act}{w:World}
theorem Rel.skipped(H:Rel cx Z J F a w){o:Oper}(hnt:hi.nt=cx.nt)(hd:Av hi o=true):Rel cx (aF (zB o) Z) J F (a.put o.dst undef) w:=by
 unfold zB Av at *
 cases ho:o.dst with
 |none=>exact H
 |some d=>
  rw[ho]at hd
  have hdn:d<cx.nt:=by
   rw[<-hnt]
   have:Nat.blt d hi.nt=true:=hd
   unfold Nat.blt at this
   exact Lb this
  exact H.put hdn (λa ha=>by simp at ha) ⟨[],rfl,trivial⟩
theorem OW(hT:eU P T)(hSt:vJ P T)(hC:wI P n hi)(H:Rel cx Z J F a w)(hnt:hi.nt=cx.nt){i:Nat}{o:Oper}(ho:ops[i]?=some o){ws:List Wr}{rd:List Loc}(h:wR T hi n ops o Z ws rd)
  {K:Act->World->Prop} {Q:Exit->Act->World->Prop} (hK:∀J' F' a' w',Rel cx (aF ws Z) J' F' a' w'->K a' w'):wpOp P ops Q i K a w:=by
 unfold wpOp
 simp only[ho]
 have acj:∀{s:Nat} {want:Bool},guardOf ops o=some (some s,want)->∃g,o.guard=some (g,want)/\(ops[g]?).bind (·.dst)=some s:=by
  intro s want hg
  unfold guardOf at hg
  cases hgd:o.guard with
  |none=>rw[hgd]at hg;simp at hg
  |some q=>
   obtain⟨g,wt⟩:=q
   rw[hgd]at hg
   simp only[ak,bS]at hg
   exact⟨g,by rw[hg.2],hg.1⟩
 have acf:∀{s:Nat} {v:Value},a.tmps.getD s undef=v->(∃b,v=.bool b)->a.tmps[s]?=some v:=by
  rintro s v h ⟨b,rfl⟩
  rw[zL]at h
  cases hs:a.tmps[s]? with
  |none=>rw[hs]at h;simp[undef]at h
  |some u=>rw[hs]at h;simpa using h
 cases h with
 |plain _ _ hg h=>
  have hw:Region.wanted o (yielded ops a.tmps)=true:=by
   unfold Region.wanted
   unfold guardOf at hg
   cases hgd:o.guard with
   |none=>rfl
   |some q=>rw[hgd]at hg;simp at hg
  rw[aj hw]
  exact .inl (aiz hT hSt hC H hnt (aaO _ h) K Q hK)
 |done s want tg _ _ hg hs h=>
  have hw:Region.wanted o (yielded ops a.tmps)=true:=by
   obtain⟨g,h1,h2⟩:=acj hg
   unfold Region.wanted
   rw[h1]
   have hb:=H.slots s
   rw[hs]at hb
   have:=FI (show aW cx Z J F w (.val .bool want tg) _ from hb)
   have h3:=acf this ⟨_,rfl⟩
   show(yielded ops a.tmps g==some want)=true
   unfold yielded
   rw[h2]
   simp only[aQ,h3]
   simp
  rw[aj hw]
  exact .inl (aiz hT hSt hC H hnt (aaO _ h) K Q hK)
 |skip s want hg hs hd=>
  have hw:Region.wanted o (yielded ops a.tmps)=false:=by
   obtain⟨g,h1,h2⟩:=acj hg
   unfold Region.wanted
   rw[h1]
   have hb:=H.slots s
   show(yielded ops a.tmps g==some want)=false
   unfold yielded
   rw[h2]
   rcases hs with⟨tg,hs⟩|hs
   ·rw[hs]at hb
    have:=FI (show aW cx Z J F w (.val .bool (!want) tg) _ from hb)
    have h3:=acf this ⟨_,rfl⟩
    simp only[aQ,h3]
    cases want<;>rfl
   ·rw[hs]at hb
    obtain⟨vs,h3,h4⟩:=hb
    cases vs with
    |cons _ _=>exact h4.elim
    |nil=>
     rw[zL]at h3
     simp only[aQ]
     cases hs2:a.tmps[s]? with
     |none=>rfl
     |some u=>
      rw[hs2]at h3
      simp only[su]at h3
      subst h3
      rfl
  rw[ah (by rw[hw];simp)]
  exact hK _ _ _ _ (H.skipped hnt hd)
theorem an6(hT:eU P T)(hSt:vJ P T)(hC:wI P n hi)(hnt:hi.nt=cx.nt){R:Type}{K:St->Option R}{r:R}{Q:Exit->Act->World->Prop}(hQ:∀Z' J' F' a' w',K Z'=some r->Rel cx Z' J' F' a' w'->Q .normal a' w') :
  ∀(l:List Oper) (i:Nat) {Z:St} {J:aJ} {F:List Nat} {a:Act} {w:World},ops.toList.drop i=l->GY T hi n ops l Z K=some r->Rel cx Z J F a w->wpOps P ops Q (List.range' i l.length) a w:=by
 intro l
 induction l with
 |nil=>intro i Z J F a w _ h H;exact hQ _ _ _ _ _ h H
 |cons o l ih=>
  intro i Z J F a w hl h H
  have hoi:ops[i]?=some o:=by
   have:=congrArg (λl=>l[0]?) hl
   simpa using this
  have hl':ops.toList.drop (i+1)=l:=by
   have:=congrArg List.tail hl
   simpa using this
  simp only[iy,List.range'_succ]
  rw[wpOps_cons]
  unfold GY at h
  rcases aba h with⟨hg,h⟩|⟨s,want,tg,hg,hs,h⟩|⟨s,want,hg,hs,h⟩
  ·obtain⟨ws,h1,h2⟩:=zA _ h
   obtain⟨rd,h3⟩:∃rd,(zC T hi n o λws=>(.ret ws:Prog (List Wr))).mH Z [] ws rd:=aaP _ h1 []
   exact OW hT hSt hC H hnt hoi (.plain ws rd hg h3) (λJ' F' a' w' H'=>ih (i+1) hl' h2 H')
  ·obtain⟨ws,h1,h2⟩:=zA _ h
   obtain⟨rd,h3⟩:∃rd,(zC T hi n o λws=>(.ret ws:Prog (List Wr))).mH Z [.s s] ws rd:=aaP _ h1 _
   exact OW hT hSt hC H hnt hoi (.done s want tg ws rd hg hs h3) (λJ' F' a' w' H'=>ih (i+1) hl' h2 H')
  ·cases hd:Av hi o with
   |false=>rw[hd]at h;simp at h
   |true=>
    rw[hd]at h
    exact OW hT hSt hC H hnt hoi (.skip s want hg hs hd) (λJ' F' a' w' H'=>ih (i+1) hl' h H')
end
end
section
open Go
variable [Fr]
section
variable {P:Program}{T:bK}{hi:Hint}{n:Nat}{ops:Array Oper}{cx:Cx}{Z:St}{J:aJ}{F:List Nat}{a:Act}{w:World}
structure Ev where
 i:Nat
 ws:List Wr
 rd:List Loc
def Ev.wr(e:Ev):List Loc:=e.ws.map Wr.loc
def Ch(ops:Array Oper)(j i:Nat):Prop:=leads ops 7 j i=true
theorem agJ{ops:Array Oper}:∀{f:Nat} {j i:Nat},leads ops f j i=true->leads ops (f+1) j i=true
 |0,_,_,h=>by simp[leads]at h
 |f+1,j,i,h=>by
  unfold leads at h ⊢
  simp only[og,List.any_eq_true,bf]at h ⊢
  rcases h with h|⟨b,hb,h1,h2⟩
  ·exact .inl h
  ·exact .inr ⟨b,hb,h1,agJ h2⟩
theorem agK{ops:Array Oper}{L:Nat->Prop}(hcl:∀b,L b->∀c∈binders ops b,L c):∀{f:Nat} {j i:Nat},leads ops f j i=true->(∀c∈binders ops i,L c)->L j
 |0,_,_,h,_=>by simp[leads]at h
 |f+1,j,i,h,hi=>by
  unfold leads at h
  simp only[og,List.any_eq_true,bf]at h
  rcases h with h|⟨b,hb,_,h2⟩
  ·exact hi j (fF.1 h)
  ·exact agK hcl h2 (hcl b (hi b hb))
def Gd(e e':Ev):Prop:=(∀x∈e.wr,x∉e'.rd++e'.wr)/\∀x∈e.rd,x∉e'.wr
def xR(T:bK)(hi:Hint)(n:Nat)(ops:Array Oper):List Ev->St->St->Prop
 | [],Z,τ=>τ=Z
 |e :: l,Z,τ=>(∃o,ops[e.i]?=some o/\wR T hi n ops o Z e.ws e.rd)/\xR T hi n ops l (aF e.ws Z) τ
def CR(ops:Array Oper):List Ev->Prop
 | []=>True
 |e :: l=>(∀e'∈l,Ch ops e.i e'.i\/Gd e e')/\CR ops l
theorem amG{e e':Ev}{l:List Ev}{τ:St}(hi':Gd e e')(h:xR T hi n ops (e :: e' :: l) Z τ):xR T hi n ops (e' :: e :: l) Z τ:=by
 obtain⟨⟨o,ho,h1⟩,⟨o',ho',h2⟩,h3⟩:=h
 have ha:∀y∈e'.rd,Ow.agree (aF e.ws Z) Z y:=by
  intro y hy
  have:=CX e.ws Z (y:=y) (λhm=>hi'.1 y hm (bV _ hy))
  cases y with
  |s n=>exact this.symm
  |r n=>exact this.symm
 have hb:∀y∈e.rd,Ow.agree Z (aF e'.ws Z) y:=λy hy=>CX e'.ws Z (hi'.2 y hy)
 refine⟨⟨o',ho',h2.agree ha⟩,⟨o,ho,h1.agree hb⟩,?_⟩
 rw[alU (u:=e.ws) (v:=e'.ws) (λx hx hx'=>hi'.1 x hx (bG _ hx'))]
 exact h3
theorem amF{e:Ev}{l:List Ev}:∀{pre:List Ev} {Z τ:St},(∀x∈pre,Gd x e)->xR T hi n ops (pre++e :: l) Z τ->xR T hi n ops (e :: (pre++l)) Z τ:=by
 intro pre
 induction pre with
 |nil=>intro Z τ _ h;exact h
 |cons x pre ih=>
  intro Z τ hx h
  refine amG (hx x (by simp)) ?_
  obtain⟨h1,h2⟩:=h
  exact⟨h1,ih (λy hy=>hx y (by simp[hy])) h2⟩
theorem axl{e:Ev}{l:List Ev}:∀{pre:List Ev},CR ops (pre++e :: l)->CR ops (pre++l)/\∀x∈pre,Ch ops x.i e.i\/Gd x e:=by
 intro pre
 induction pre with
 |nil=>intro h;exact⟨h.2,by simp⟩
 |cons x pre ih=>
  intro h
  obtain⟨g1,g2⟩:=ih h.2
  refine⟨⟨λe' he'=>h.1 e' ?_,g1⟩,λy hy=>?_⟩
  ·rcases dh.1 he' with h|h
   ·exact bV _ h
   ·exact bG _ (jD _ h)
  ·rcases bM.1 hy with h'|h'
   ·subst h';exact h.1 e (by simp)
   ·exact g2 y h'
theorem anJ{e:Eff}{l:List Eff}(h:yI ops e l=true):(∀b∈binders ops e.i,b<e.i)/\∀b∈l,Ch ops b.i e.i\/((∀x∈b.wr,x∉e.rd++e.wr)/\∀x∈b.rd,x∉e.wr):=by
 unfold yI at h
 simp only[bf,dV]at h
 refine⟨λb hb=>?_,λb hb=>?_⟩
 ·have:=h.1 b hb
  unfold Nat.blt at this
  exact Lb this
 ·have:=h.2 b hb
  rw[og,og,bf]at this
  rcases this with h1|⟨h1,h2⟩|h1
  ·exact .inl (by unfold Ch leads;rw[h1];rfl)
  ·exact .inr ⟨ZN.1 h1,ZN.1 h2⟩
  ·exact .inl (agJ h1)
theorem an4{R:Type}{K:St->Option R}{r:R}:∀(l:List Oper) (i:Nat) (es:List Eff) {Z:St},ops.toList.drop i=l->AA T hi n ops l i es Z K=some r->
  ∃(evs:List Ev) (τ:St),K τ=some r/\xR T hi n ops evs Z τ/\CR ops evs/\evs.map (·.i)=List.range' i l.length/\(∀e∈evs,∀b∈binders ops e.i,b<e.i)/\
   ∀e∈evs,∀b∈es,Ch ops b.i e.i\/((∀x∈b.wr,x∉e.rd++e.wr)/\∀x∈b.rd,x∉e.wr):=by
 intro l
 induction l with
 |nil=>intro i es Z _ h;exact⟨[],Z,h,rfl,trivial,rfl,by simp,by simp⟩
 |cons o l ih=>
  intro i es Z hl h
  have hoi:ops[i]?=some o:=by
   have:=congrArg (λl=>l[0]?) hl
   simpa using this
  have hl':ops.toList.drop (i+1)=l:=by
   have:=congrArg List.tail hl
   simpa using this
  have step:∀{ws:List Wr} {rd:List Loc},wR T hi n ops o Z ws rd->yI ops ⟨i,rd,ws.map Wr.loc⟩ es=true->AA T hi n ops l (i+1) (⟨i,rd,ws.map Wr.loc⟩ :: es) (aF ws Z) K=some r->
    ∃(evs:List Ev) (τ:St),K τ=some r/\xR T hi n ops evs Z τ/\CR ops evs/\evs.map (·.i)=List.range' i (l.length+1)/\(∀e∈evs,∀b∈binders ops e.i,b<e.i)/\
     ∀e∈evs,∀b∈es,Ch ops b.i e.i\/((∀x∈b.wr,x∉e.rd++e.wr)/\∀x∈b.rd,x∉e.wr):=by
   intro ws rd hab hok h
   obtain⟨evs,τ,g1,g2,g3,g4,g5,g6⟩:=ih (i+1) _ hl' h
   obtain⟨k1,k2⟩:=anJ hok
   refine⟨⟨i,ws,rd⟩ :: evs,τ,g1,⟨⟨o,hoi,hab⟩,g2⟩,⟨λe' he'=>?_,g3⟩,?_,?_,?_⟩
   ·exact g6 e' he' ⟨i,rd,ws.map Wr.loc⟩ (by simp)
   ·rw[List.range'_succ,jo,g4]
   ·intro e he
    rcases bM.1 he with h|h
    ·subst h;exact k1
    ·exact g5 e h
   ·intro e he b hb
    rcases bM.1 he with h|h
    ·subst h;exact k2 b hb
    ·exact g6 e h b (by simp[hb])
  simp only[iy]
  unfold AA at h
  rcases aba h with⟨hg,h⟩|⟨s,want,tg,hg,hs,h⟩|⟨s,want,hg,hs,h⟩
  ·obtain⟨ws,rd,h1,h2⟩:=aic _ h
   cases hok:yI ops ⟨i,rd,ws.map Wr.loc⟩ es with
   |false=>rw[hok]at h2;simp at h2
   |true=>rw[hok]at h2;exact step (.plain ws rd hg h1) hok h2
  ·obtain⟨ws,rd,h1,h2⟩:=aic _ h
   cases hok:yI ops ⟨i,rd,ws.map Wr.loc⟩ es with
   |false=>rw[hok]at h2;simp at h2
   |true=>rw[hok]at h2;exact step (.done s want tg ws rd hg hs h1) hok h2
  ·cases hok:(Av hi o&&yI ops ⟨i,[.s s],(zB o).map Wr.loc⟩ es)with
   |false=>rw[hok]at h;simp at h
   |true=>
    rw[hok]at h
    rw[bf]at hok
    exact step (.skip s want hg hs hok.1) hok.2 h
theorem amE(hT:eU P T)(hSt:vJ P T)(hC:wI P n hi)(hnt:hi.nt=cx.nt){Q:Exit->Act->World->Prop}{τ:St}(hQ:∀J' F' a' w',Rel cx τ J' F' a' w'->Q .normal a' w') :
  ∀(m:Nat) (evs:List Ev) (listed:Array Bool) {Z:St} {J:aJ} {F:List Nat} {a:Act} {w:World},evs.length=m->xR T hi n ops evs Z τ->CR ops evs->(evs.map (·.i)).Pairwise (· < ·)->(∀e∈evs,∀b∈binders ops e.i,b<e.i)->
   listed.size=ops.size->(∀j,j<ops.size->(listed.getD j false=false↔j∈evs.map (·.i)))->(∀e∈evs,e.i<ops.size)->(∀b,listed.getD b false=true->∀c∈binders ops b,listed.getD c false=true)->Rel cx Z J F a w->wpAny P .any ops Q m listed a w:=by
 intro m
 induction m with
 |zero=>
  intro evs listed Z J F a w hl hc _ _ _ hsz hlist _ _ H
  have:evs=[]:=rz hl
  subst this
  have hc':τ=Z:=hc
  subst hc'
  refine⟨?_,hQ _ _ _ _ H⟩
  cases hr:Region.ready .any ops listed with
  |nil=>rfl
  |cons j l=>
   have hj:j∈Region.ready .any ops listed:=by rw[hr];simp
   obtain⟨h0,o,ho,_⟩:=mem_ready.1 hj
   have hlt:=(Array.getElem?_eq_some_iff.1 ho).1
   have:listed.getD j false=false:=by
    have hj2:j<listed.size:=by omega
    simp[hj2]at h0 ⊢
    exact h0
   exact absurd ((hlist j hlt).1 this) (by simp)
 |succ m ih=>
  intro evs listed Z J F a w hl hc hp hsort hbind hsz hlist hlt hcl H
  refine⟨λhr=>?_,λj hj=>?_⟩
  ·
   exfalso
   cases evs with
   |nil=>simp at hl
   |cons e evs=>
    obtain⟨⟨o,ho,_⟩,_⟩:=hc
    have he:e.i∈Region.ready .any ops listed:=by
     rw[mem_ready]
     have hei:=hlt e (by simp)
     have hun:=(hlist e.i hei).2 (by simp)
     refine⟨?_,o,ho,λq hq hb=>?_⟩
     ·have hj2:e.i<listed.size:=by omega
      simp[hj2]at hun ⊢
      exact hun
     ·have hm:q.on∈binders ops e.i:=by
       unfold binders
       rw[ho]
       simp only[su,d_,jg]
       exact⟨q,⟨Array.mem_toList_iff.2 hq,hb⟩,rfl⟩
      have hlt2:=hbind e (by simp) q.on hm
      cases hb2:listed.getD q.on false with
      |true=>rfl
      |false=>
       have:=(hlist q.on (by omega)).1 hb2
       simp only[jo,bM]at this
       rcases this with h|h
       ·omega
       ·have hlt3:e.i<q.on:=by simpa using (List.pairwise_cons.1 hsort).1 q.on h
        omega
    rw[hr]at he
    simp at he
  ·obtain⟨h0,o,ho,hall⟩:=mem_ready.1 hj
   have hjlt:=(Array.getElem?_eq_some_iff.1 ho).1
   have hj2:j<listed.size:=by omega
   have hun:listed.getD j false=false:=by
    simp[hj2]at h0 ⊢
    exact h0
   have hjm:=(hlist j hjlt).1 hun
   obtain⟨e,he,hej⟩:=d_.1 hjm
   obtain⟨pre,post,hsplit⟩:=List.append_of_mem he
   subst hsplit
   subst hej
   obtain⟨p1,p2⟩:=axl hp
   have hle:∀c∈binders ops e.i,listed.getD c false=true:=by
    intro c h
    unfold binders at h
    rw[ho]at h
    simp only[su,d_,jg]at h
    obtain⟨q,⟨hq,hb⟩,hon⟩:=h
    rw[<-hon]
    exact hall q (Array.mem_toList_iff.1 hq) hb
   have hpre:∀x∈pre,Gd x e:=by
    intro x hx
    rcases p2 x hx with h|h
    ·exfalso
     have hl2:=agK (L:=λb=>listed.getD b false=true) hcl h hle
     have hxi:=hlt x (by simp[hx])
     have:=(hlist x.i hxi).2 (by simp only[Aa,dh,d_];exact .inl ⟨x,hx,rfl⟩)
     rw[hl2]at this
     simp at this
    ·exact h
   have hc2:=amF hpre hc
   obtain⟨⟨o',ho',hab⟩,hc3⟩:=hc2
   rw[ho]at ho'
   simp only[ak]at ho'
   subst ho'
   have acd:(pre.map (·.i)++e.i :: post.map (·.i)).Pairwise (· < ·):=by simpa using hsort
   have hsub:(pre++post).Sublist (pre++e :: post):=Zj (List.sublist_cons_self _ _) _
   refine OW hT hSt hC H hnt ho hab (λJ' F' a' w' H'=>?_)
   refine ih (pre++post) (listed.setIfInBounds e.i true) (by simp at hl ⊢;omega) hc3 p1 (hsort.sublist (hsub.map _)) (λx hx=>hbind x (hsub.subset hx)) (by simpa using hsz) (λk hk=>?_) (λx hx=>hlt x (hsub.subset hx)) ?_ H'
   rotate_left
   ·intro b hb c hc4
    have hset:∀k,listed.getD k false=true->(listed.setIfInBounds e.i true).getD k false=true:=λk hk=>by
     by_cases hke:k=e.i
     ·subst hke;simp[hj2]
     ·rw[getD_set_ne false (Ne.symm hke)];exact hk
    by_cases hbe:b=e.i
    ·subst hbe;exact hset c (hle c hc4)
    ·rw[getD_set_ne false (Ne.symm hbe)]at hb
     exact hset c (hcl b hb c hc4)
   have hnot:e.i∉(pre++post).map (·.i):=by
    intro hm
    rw[Aa,dh]at hm
    rcases hm with h|h
    ·have:=(List.pairwise_append.1 acd).2.2 e.i h e.i (by simp)
     omega
    ·have:=(List.pairwise_cons.1 (List.pairwise_append.1 acd).2.1).1 e.i h
     omega
   by_cases hke:k=e.i
   ·subst hke
    constructor
    ·intro h
     exfalso
     simp[hj2]at h
    ·intro h;exact absurd h hnot
   ·rw[getD_set_ne false (Ne.symm hke),hlist k hk]
    simp only[Aa,jo,dh,bM]
    constructor
    ·rintro(h|h|h)
     ·exact .inl h
     ·exact absurd h hke
     ·exact .inr h
    ·rintro(h|h)
     ·exact .inl h
     ·exact .inr (.inr h)
theorem an5(hT:eU P T)(hSt:vJ P T)(hC:wI P n hi)(hnt:hi.nt=cx.nt){R:Type}{K:St->Option R}{r:R}{Q:Exit->Act->World->Prop}(hQ:∀Z' J' F' a' w',K Z'=some r->Rel cx Z' J' F' a' w'->Q .normal a' w')
  (h:AA T hi n ops ops.toList 0 [] Z K=some r) (H:Rel cx Z J F a w):wpAny P .any ops Q ops.size (Array.replicate ops.size false) a w:=by
 obtain⟨evs,τ,h1,h2,h3,h4,h5,_⟩:=an4 ops.toList 0 [] (by simp) h
 rw[PI,<-List.range_eq_range']at h4
 refine amE hT hSt hC hnt (λJ' F' a' w' H'=>hQ _ _ _ _ _ h1 H') ops.size evs _ ?_ h2 h3 ?_ h5 (by simp) (λj hj=>?_) (λe he=>?_) (λb hb=>?_) H
 rotate_left 4
 ·exfalso;by_cases hbs:b<ops.size<;>simp[hbs]at hb
 ·have:=congrArg List.length h4;simpa using this
 ·rw[h4];exact List.pairwise_lt_range
 ·rw[h4];simp[hj]
 ·have:e.i∈evs.map (·.i):=d_.2 ⟨e,he,rfl⟩
  rw[h4]at this
  exact List.mem_range.1 this
end
end
section
open Go
variable [Fr]
abbrev Ag:=List (Nat×K×List TypeId×List TypeId)
structure QI(cx:Cx)(fB:Ag):Prop where
 par:∀j pi,cx.par j=some pi->(pi.kp=true\/∃q,pi.base=some q)->∃q,ng (aG j) fB=some q
 ptr:∀j p ts v,cx.ptrs j p ts v->∃k l,ng (aG j) fB=some (k,l)/\ts=iR p k
 ref:∀j v,cx.refs j v->∃q,ng (aG j) fB=some q
theorem yA{A:Type}{b:Bool}{x:Option A}{d:A}(h:(bif b then x else none)=some d):b=true/\x=some d:=by
 cases b with
 |true=>exact⟨rfl,h⟩
 |false=>exact absurd h (by simp)
def nH.Bf:nH->List Nat
 |.val _ ids=>ids
 |.fC _ _ ids=>ids
 |.fn _ caps=>caps.flatMap λc=>c.2.2
 |_=>[]
def oJ(rs:List Nat)(i:Nat):Prop:=fV i=true\/i∈rs
structure p_(Z:St)(fB:Ag)(rs:List Nat)(r:Nat)(R R':Root):Prop where
 live:aY Z r R
 valid:cZ Z R
 form:∃ow tg ew eh,R'={ R with own:=ow,tags:=tg,w:=[],h:=[],g:=0,ew:=ew,eh:=eh }/\(∀t∈R.k.tys,ay t ow=ay t R.own)
 tags:∀t∈R.tags,oJ rs t.1->(t.1,0)∈R'.tags
 aiI:∀t∈R'.tags,t.2=0/\oJ rs t.1/\t.1≠r
 log:∀k wt ht,ng r fB=some (k,wt,ht)->R.k=k/\R'.ew=wt/\R'.eh=ht/\(∀t∈R.w,t∈wt)/\(∀t∈R.ew,t∈wt)/\(∀t∈R.h,t∈ht)/\(∀t∈R.eh,t∈ht)/\R.g=0
structure oz(Z:St)(fB:Ag)(rs:List Nat)(Z':St):Prop where
 roots:∀r R',Z'.roots r=some R'->r∈rs/\fV r=false/\∃R,p_ Z fB rs r R R'
 made:∀r∈rs,∃R',Z'.roots r=some R'
 slots:∀s,Z'.slots s=.one .undef\/∃sh av d,Z.slots s=.one av/\rG Z rs sh av=some d/\Z'.slots s=.one (JP sh d)/\∀i∈sh.Bf,oJ rs i
 fB:∀r q,ng r fB=some q->r∈rs
theorem EP{rs:List Nat}:∀{l:List Tag} {r:Nat},r∈kW rs l↔(∃n,(r,n)∈l)/\oJ rs r
 | [],r=>by simp[kW]
 |(q,m) :: l,r=>by
  have ih:=EP (rs:=rs) (l:=l) (r:=r)
  unfold kW
  cases hb:(fV q||ay q rs) && !ay q (kW rs l)with
  |true=>
   simp only[fT,bM]
   simp only[bf,og,fF]at hb
   constructor
   ·rintro(h|h)
    ·subst h
     exact⟨⟨m,.inl rfl⟩,hb.1⟩
    ·obtain⟨⟨n,hn⟩,h2⟩:=ih.1 h
     exact⟨⟨n,.inr hn⟩,h2⟩
   ·rintro⟨⟨n,h|h⟩,h2⟩
    ·exact .inl (by simpa using congrArg Prod.fst h)
    ·exact .inr (ih.2 ⟨⟨n,h⟩,h2⟩)
  |false=>
   simp only[jI]
   constructor
   ·intro h
    obtain⟨⟨n,hn⟩,h2⟩:=ih.1 h
    exact⟨⟨n,.tail _ hn⟩,h2⟩
   ·rintro⟨⟨n,h⟩,h2⟩
    rcases bM.1 h with h|h
    ·have e:r=q:=by simpa using congrArg Prod.fst h
     subst e
     cases hm:ay r (kW rs l)with
     |true=>exact fF.1 hm
     |false=>
      exfalso
      rw[hm]at hb
      simp only[kr,Bool.and_true,PK]at hb
      rcases h2 with h2|h2
      ·rw[hb.1]at h2;simp at h2
      ·rw[fF.2 h2]at hb;simp at hb
    ·exact ih.2 ⟨⟨n,h⟩,h2⟩
section
variable {P:Program}{T:bK}{cx:Cx}{Z Z':St}{J:aJ}{F:List Nat}{a:Act}{w:World}{fB:Ag}{rs:List Nat}
theorem p_.kind{r:Nat}{R R':Root}(h:p_ Z fB rs r R R'):R'.kind=R.kind/\R'.k=R.k/\R'.w=[]/\R'.h=[]/\R'.g=0/\R'.cu=R.cu:=by
 obtain⟨ow,tg,ew,eh,rfl,_⟩:=h.form
 exact⟨rfl,rfl,rfl,rfl,rfl,rfl⟩
theorem p_.blk{r:Nat}{R R':Root}(h:p_ Z fB rs r R R'):blk J R' r=blk J R r/\aL J R' r=aL J R r:=by
 have hk:=h.kind.1
 unfold Ow.blk aL
 rw[hk]
 exact⟨rfl,rfl⟩
theorem oz.aN(hB:oz Z fB rs Z'){U U':List Tag}(hU:∀t∈U,oJ rs t.1->∃n,(t.1,n)∈U'){b:Nat}(h:aN cx Z J F w U b):aN cx Z' J F w U' b:=by
 obtain⟨h1,h2,h3,h4,h5⟩:=h
 refine⟨h1,h2,h3,λr R' hr hb=>?_,λhlt=>?_⟩
 ·obtain⟨g1,g2,R,g3⟩:=hB.roots r R' hr.1
  rw[g3.blk.1]at hb
  obtain⟨n,hn⟩:=h4 r R g3.live hb
  exact hU _ hn (.inr g1)
 ·rcases h5 hlt with⟨j,n,g1,g2⟩|h
  ·obtain⟨n',hn'⟩:=hU _ g1 (.inl (uG j))
   exact .inl ⟨j,n',hn',g2⟩
  ·exact .inr h
theorem oz.kZ(hB:oz Z fB rs Z'){U U':List Tag}(hU:∀t∈U,oJ rs t.1->∃n,(t.1,n)∈U'){b:Nat}(h:kZ Z J F w U b):kZ Z' J F w U' b:=by
 obtain⟨h1,h2,h4⟩:=h
 refine⟨h1,h2,λr R' hr hb=>?_⟩
 obtain⟨g1,g2,R,g3⟩:=hB.roots r R' hr.1
 rw[g3.blk.1]at hb
 obtain⟨n,hn⟩:=h4 r R g3.live hb
 exact hU _ hn (.inr g1)
theorem Pj{tags:List Tag}{ids:List Nat}(h:mM (kW rs tags) ids=true):∀t∈tags,oJ rs t.1->∃n,(t.1,n)∈ids.map λr=>((r,0):Tag):=by
 intro t ht hi
 refine⟨0,d_.2 ⟨t.1,Fz.1 h _ (EP.2 ⟨⟨t.2,ht⟩,hi⟩),rfl⟩⟩
theorem oz.fI(hB:oz Z fB rs Z'){ids:List Nat}(h:∀i∈ids,oJ rs i):fI Z' (ids.map λr=>((r,0):Tag)):=by
 intro t ht
 obtain⟨i,h1,rfl⟩:=d_.1 ht
 rcases h i h1 with h|h
 ·exact .inl h
 ·obtain⟨R',hR⟩:=hB.made i h
  exact .inr ⟨R',hR,.inr (dW _)⟩
theorem oz.ro(hB:oz Z fB rs Z'){bt:TypeId}{k:K}{x:El k}{tags:List Tag}{ids:List Nat}{v:Value}(hs:mM (kW rs tags) ids=true)(hc:cO Z (bt :: k.tys) tags=true)(hE:Dj bt ids=true)
  (h:uX cx Z J F w bt k x tags v):uX cx Z' J F w bt k x (ids.map λr=>((r,0):Tag)) v:=by
 obtain⟨h1,h2⟩:=h
 obtain⟨b,o,cs,e1,e2,e3,e4,e5⟩:=h2 hc
 refine⟨h1,λ_=>⟨b,o,cs,e1,e2,ku (λ_ _=>rfl) (λb hb=>hB.aN (Pj hs) hb) e3,hB.kZ (Pj hs) e4,?_⟩⟩
 rcases e5 with⟨g1,g2⟩|h
 ·refine .inl ⟨g1,λt ht=>?_⟩
  obtain⟨i,h1,rfl⟩:=d_.1 ht
  unfold Dj at hE
  rw[g1]at hE
  simp only[show Nat.beq SENT SENT=true from rfl,gI,Kt,dV]at hE
  exact hE i h1
 ·exact .inr h
theorem oz.caps(hB:oz Z fB rs Z'):∀{cs:List (TypeId×K×List Nat)} {l:List (TypeId×Dat×List Tag)} {d:Cont (Ap cs)} {vs:List Value},wY Z rs cs l=some d->(∀i∈cs.flatMap (λc=>c.2.2),oJ rs i)->m_ cx Z J F w l vs->
  m_ cx Z' J F w (JQ cs d) vs/\∀c∈JQ cs d,Ow.fI Z' c.2.2
 | [],[],_,[],_,_,_=>⟨trivial,by intro c hc;exact absurd hc (by simp[JQ])⟩
 | [],_ :: _,_,_,h,_,_=>by simp[wY]at h
 |_ :: _,[],_,_,h,_,_=>by simp[wY]at h
 | [],[],_,_ :: _,_,_,h=>h.elim
 |_ :: _,_ :: _,_,[],_,_,h=>h.elim
 |(t,k,ids) :: cs,(t',d,tags) :: l,c,v :: vs,h,hi,hv=>by
  simp only[wY]at h
  cases hb:Nat.beq t t'&&cO Z (t :: k.tys) tags&&mM (kW rs tags) ids&&Dj t ids with
  |false=>rw[hb]at h;simp at h
  |true=>
   rw[hb]at h
   simp only[fT]at h
   simp only[bf]at hb
   obtain⟨⟨⟨b1,b2⟩,b3⟩,b4⟩:=hb
   have:=bu b1
   subst this
   cases hck:b_ d.1 k d.2 with
   |none=>rw[hck]at h;simp at h
   |some x=>
    rw[hck]at h
    cases hcs:wY Z rs cs l with
    |none=>rw[hcs]at h;simp at h
    |some y=>
     rw[hcs]at h
     have h2:((x,y):Cont (Ap ((t,k,ids) :: cs)))=c:=kJ h
     subst h2
     obtain⟨dk,dx⟩:=d
     obtain⟨e,ex⟩:=iJ hck
     simp only at e
     subst e
     simp only at ex
     subst ex
     have Mo:∀i∈ids,oJ rs i:=λi h=>hi i (by simp[h])
     obtain⟨g1,g2⟩:=hB.caps (vs:=vs) hcs (λi h=>hi i (by
      rw[kP];exact bG _ h)) hv.2
     refine⟨⟨hB.ro b3 b2 b4 hv.1,g1⟩,λq hq=>?_⟩
     rcases bM.1 hq with h|h
     ·subst h;exact hB.fI Mo
     ·exact g2 q h
theorem oz.av(H:Rel cx Z J F a w)(hB:oz Z fB rs Z'){sh:nH}{av:AV}{d:Cont sh.ks}{v:Value}(hct:rG Z rs sh av=some d)(hi:∀i∈sh.Bf,oJ rs i)(hv:aW cx Z J F w av v) :
  aW cx Z' J F w (JP sh d) v/\dK Z' (JP sh d):=by
 cases sh with
 |undef=>exact⟨trivial,trivial⟩
 |val k ids=>
  cases av with
  |val k' x tags=>
   simp only[rG]at hct
   cases hb:cO Z k.tys tags&&mM (kW rs tags) ids with
   |false=>rw[hb]at hct;simp at hct
   |true=>
    rw[hb]at hct
    simp only[fT]at hct
    simp only[bf]at hb
    cases hck:b_ k' k x with
    |none=>rw[hck]at hct;simp at hct
    |some y=>
     rw[hck]at hct
     have h2:((y,()):Cont (nH.val k ids).ks)=d:=kJ hct
     subst h2
     obtain⟨e,ex⟩:=iJ hck
     subst e
     simp only at ex
     subst ex
     refine⟨λ_=>?_,hB.fI hi⟩
     obtain⟨cs,g1,g2⟩:=hv (.inr hb.1)
     exact⟨cs,g1,ku (λ_ _=>rfl) (λb hb2=>hB.aN (Pj hb.2) hb2) g2⟩
  |_=>simp[rG]at hct
 |eX=>
  cases av with
  |eX=>
   exact⟨hv,trivial⟩
  |_=>simp[rG]at hct
 |ref r=>
  cases av with
  |ref r' g=>
   obtain⟨hb,_⟩:=yA (show(bif Nat.beq r r'&&ay r rs&&(match Z.roots r with|some R=>Nat.beq R.g g|none=>false)then some ()else none)=some d from hct)
   simp only[bf]at hb
   obtain⟨⟨b1,b2⟩,b3⟩:=hb
   have:=bu b1
   subst this
   obtain⟨R',hR'⟩:=hB.made r (fF.1 b2)
   refine⟨λQ hQ _=>?_,R',hR',.inr (dW _)⟩
   obtain⟨_,_,R,g3⟩:=hB.roots r Q hQ.1
   rw[g3.live.1]at b3
   obtain⟨f1,f2⟩:=hv R g3.live (bu b3)
   obtain⟨k1,k2,_⟩:=g3.kind
   exact⟨k1.trans f1,by rw[k2];exact f2⟩
  |_=>simp[rG]at hct
 |ptr r p=>
  cases av with
  |ptr r' q n=>
   obtain⟨hb,SE⟩:=yA (A:=Cont (aM.into 0 p).kin) (x:=idxOf p q) (show(bif Nat.beq r r'&&ay r rs&&(match Z.roots r with|some R=>clean R.h n (iR q R.k)|none=>false)then idxOf p q else none)=some d from hct)
   simp only[bf]at hb
   obtain⟨⟨b1,b2⟩,b3⟩:=hb
   have:=bu b1
   subst this
   have hpq:=MB SE
   obtain⟨R',hR'⟩:=hB.made r (fF.1 b2)
   show aW cx Z' J F w (.ptr r (pathOf p d) 0) v/\dK Z' (.ptr r (pathOf p d) 0)
   rw[hpq]
   refine⟨⟨hv.1,λQ hQ lZ _ hpt hg=>?_⟩,R',hR',.inr (dW _)⟩
   obtain⟨_,_,R,g3⟩:=hB.roots r Q hQ
   rw[g3.live.1]at b3
   have hw:=(p_.blk (J:=J) g3).2
   obtain⟨ow,tg,ew,eh,rfl,hown⟩:=g3.form
   obtain⟨f1,f2⟩:=hv.2 R g3.live.1 g3.valid b3 (λt ht=>by rw[<-hown t (zw q t ht)];exact hpt t ht) hg
   exact⟨f1,by rw[hw];exact f2⟩
  |_=>simp[rG]at hct
 |fC bt k ids=>
  cases av with
  |fC Rp k' x tags=>
   simp only[rG]at hct
   cases hb:Nat.beq bt Rp&&cO Z (bt :: k.tys) tags&&mM (kW rs tags) ids&&Dj bt ids with
   |false=>rw[hb]at hct;simp at hct
   |true=>
    rw[hb]at hct
    simp only[fT]at hct
    simp only[bf]at hb
    obtain⟨⟨⟨b1,b2⟩,b3⟩,b4⟩:=hb
    have:=bu b1
    subst this
    cases hck:b_ k' k x with
    |none=>rw[hck]at hct;simp at hct
    |some y=>
     rw[hck]at hct
     have h2:((y,()):Cont (nH.fC bt k ids).ks)=d:=kJ hct
     subst h2
     obtain⟨e,ex⟩:=iJ hck
     subst e
     simp only at ex
     subst ex
     exact⟨hB.ro b3 b2 b4 hv,hB.fI hi⟩
  |_=>simp[rG]at hct
 |iW=>
  cases av with
  |iW=>
   exact⟨hv,trivial⟩
  |_=>simp[rG]at hct
 |fn f cs=>
  cases av with
  |fn f' caps=>
   obtain⟨hb,SE⟩:=yA (A:=Cont (Ap cs)) (x:=wY Z rs cs caps) (show(bif Nat.beq f f' then wY Z rs cs caps else none)=some d from hct)
   have:=bu hb
   subst this
   obtain⟨vs,e,hc⟩:=hv
   obtain⟨g1,g2⟩:=hB.caps SE hi hc
   exact⟨⟨vs,e,g1⟩,g2⟩
  |_=>simp[rG]at hct
end
end
end Go.Proofs.YtgppmpedglhhfaaGreatDoor.Ow
