/- A verified reading of translated code, part F of 7. No condition. -/
import Derived.Test.YtgppmpedglhhfaaGreatDoorOwE
set_option linter.unusedSectionVars false
set_option linter.unusedVariables false
set_option linter.unusedSimpArgs false
namespace Go.Proofs.YtgppmpedglhhfaaGreatDoor.Ow
section
open Go
variable [Fr]
section
variable {P:Program}{T:bF}{cx:Cx}{Z:St}{J:aF}{F:List Nat}{a:Act}{w:World}{ps:List aH}{c:Cont (kin ps)}{vs:List Value}{is:List aQ}{gs:List GA}
theorem uB{j:Nat}{g:GA}(h:gs[j]?=some g):(qa gs).loc (aC j)=g.base.getD (0,0)/\(qa gs).hdr (aC j)=g.cs/\(qa gs).fo (aC j)=g.fo:=by
 simp[qa,Zu,h]
theorem RD.blk{j:Nat}{R:Root}{g:GA}{i:aQ}{p:aH}(D:RD cx Z J F w ps vs is gs j R g i p):blk (qa gs) R (aC j)=fT g:=by
 obtain⟨h1,h2,h3⟩:=uB D.hg
 unfold Ow.blk fT aK
 rw[h1,h3]
 rcases D.kind with⟨hk,_,_,b,o,hb,_⟩|⟨hk,hb,_⟩
 ·rw[hk,hb];rfl
 ·rw[hk,hb]
theorem RD.wh{j:Nat}{R:Root}{g:GA}{i:aQ}{p:aH}(D:RD cx Z J F w ps vs is gs j R g i p):aK (qa gs) R (aC j)=g.base:=by
 obtain⟨h1,h2,h3⟩:=uB D.hg
 unfold aK
 rw[h1]
 rcases D.kind with⟨hk,_,_,b,o,hb,_⟩|⟨hk,hb,_⟩
 ·rw[hk,hb];rfl
 ·rw[hk,hb]
theorem RD.live{j:Nat}{R:Root}{g:GA}{i:aQ}{p:aH}(D:RD cx Z J F w ps vs is gs j R g i p):R.bV=false:=by
 unfold Root.bV
 rcases D.kind with⟨hk,_⟩|⟨hk,_⟩<;>rw[hk]
theorem aii(H:Rel cx Z J F a w)(hJ:qY cx Z J F a w ps c vs is gs)(hA:Apart cx Z J F w ps is gs):Rel (iB cx Z J F w ps c is gs) (f_ ps c) (qa gs) [] ⟨vs.toArray,[]⟩ w:=by
 obtain⟨lv,li,lg,hat⟩:=hJ.at (i0:=0)
 simp only[jN]at hat
 have hroot:∀{r:Nat} {R:Root},(f_ ps c).roots r=some R->∃j g i p,r=aC j/\RD cx Z J F w ps vs is gs j R g i p:=by
  intro r R h
  obtain⟨j,p,h1,h2⟩:=amG (show iY (jd ps 0 c) r=some R from h)
  simp only[jN]at h1
  subst h1
  obtain⟨cj,v,i,g,e1,e2,e3,e4,e5,e6⟩:=hat j p h2
  have hR:jF p j cj=some R:=by rw[<-e6];exact h
  exact⟨j,g,i,p,rfl,Ej e4 e3 e2 h2 e1 hR⟩
 have ahS:∀{j:Nat} {R:Root},(f_ ps c).roots (aC j)=some R->∃g i p,RD cx Z J F w ps vs is gs j R g i p:=by
  intro j R h
  obtain⟨j',g,i,p,h1,h2⟩:=hroot h
  have:=Zv h1
  subst this
  exact⟨g,i,p,h2⟩
 have hmk:∀{j:Nat} {g:GA},gs[j]?=some g->(g.ow=true\/g.wb=true)->∃R i p,(f_ ps c).roots (aC j)=some R/\RD cx Z J F w ps vs is gs j R g i p:=by
  intro j g hg hh
  have hj:j<ps.length:=by have:=(nL.1 hg).1;omega
  obtain⟨cj,v,i,g',e1,e2,e3,e4,e5,e6⟩:=hat j ps[j] (gK hj)
  rw[hg]at e3
  simp only[aa]at e3
  subst e3
  obtain⟨R,hR⟩:=Iz j e4 hh
  have hr:(f_ ps c).roots (aC j)=some R:=by show iY (jd ps 0 c) (aC j)=some R;rw[e6,hR]
  exact⟨R,i,ps[j],hr,Ej e4 hg e2 (gK hj) e1 hR⟩
 have hgj:∀{j:Nat} {g:GA},gs[j]?=some g->∃p cj v i,ps[j]?=some p/\vs[j]?=some v/\is[j]?=some i/\qz cx Z J F a w p cj v i g:=by
  intro j g hg
  have hj:j<ps.length:=by have:=(nL.1 hg).1;omega
  obtain⟨cj,v,i,g',e1,e2,e3,e4,_⟩:=hat j ps[j] (gK hj)
  rw[hg]at e3
  simp only[aa]at e3
  subst e3
  exact⟨ps[j],cj,v,i,gK hj,e1,e2,e4⟩
 have zi:∀{j:Nat} {g:GA} {b:Nat},gs[j]?=some g->b∈fT g->(g.ow=true/\b∈F)\/(g.wb=true/\∃i r R q,is[j]?=some i/\i.wb=some (r,q)/\aU Z r R/\b∈blk J R r):=by
  intro j g b hg hb
  obtain⟨p,cj,v,i,e1,e2,e3,e4⟩:=hgj hg
  rcases(oG H e4).1 b hb with h|⟨h,r,R,q,h1⟩
  ·exact .inl h
  ·exact .inr ⟨h,i,r,R,q,e3,h1⟩
 have hmn:∀{j:Nat} {g:GA} {b:Nat},gs[j]?=some g->b∈fT g->mine cx w b:=by
  intro j g b hg hb
  rcases zi hg hb with⟨_,h⟩|⟨_,i,r,R,q,_,_,h1,h2⟩
  ·exact H.fl b h
  ·exact(H.roots r R h1).mine b h2
 have hlt:∀{j:Nat} {g:GA} {b:Nat},gs[j]?=some g->b∈fT g->b<w.heap.size:=λhg hb=>(hmn hg hb).1
 have We:∀{j:Nat} {g:GA} {b:Nat},gs[j]?=some g->g.ow=true->b∈fT g->b∈g.fo:=by
  intro j g b hg ho hb
  obtain⟨p,cj,v,i,e1,e2,e3,e4⟩:=hgj hg
  unfold fT at hb
  cases hbase:g.base with
  |none=>rw[hbase]at hb;simpa using hb
  |some q=>
   exfalso
   obtain⟨q1,q2⟩:=q
   obtain⟨r,R,q,_,_,_,_,h1,_⟩:=(oG H e4).2.1 q1 q2 hbase
   have hw:g.wb=true:=(oG H e4).2.2.2.2 (by rw[h1];simp)
   obtain⟨_,h⟩:=e4
   cases p<;>first|(obtain⟨g1,g2,_⟩:=h;rw[ho]at g1;simp at g1;done)|(obtain⟨g1,g2,_⟩:=h;rw[hw]at g2;simp at g2;done)|exact h.elim
 have VH:∀{j j':Nat} {g g':GA} {b:Nat},gs[j]?=some g->gs[j']?=some g'->j≠j'->b∈fT g->b∉fT g':=by
  intro j j' g g' b hg hg' hne hb hb'
  rcases zi hg hb with⟨ho,h⟩|⟨hw,i,r,R,q,i1,w1,h1,h2⟩
  ·rcases zi hg' hb' with⟨ho',h'⟩|⟨_,i',r',R',q',_,_,h1',h2'⟩
   ·refine flatMap_apart hA.own hg hg' hne b ?_ ?_
    ·rw[ho];exact We hg ho hb
    ·rw[ho'];exact We hg' ho' hb'
   ·exact H.dM r' R' h1' b h2' h
  ·rcases zi hg' hb' with⟨_,h'⟩|⟨_,i',r',R',q',i2,w2,h1',h2'⟩
   ·exact H.dM r R h1 b h2 h'
   ·by_cases e:r=r'
    ·subst e
     exact hne (hA.one j j' i i' r q q' i1 i2 w1 w2)
    ·exact H.jc r R r' R' h1 h1' e b h2 h2'
 have hnd:∀{j:Nat} {R:Root} {g:GA} {i:aQ} {p:aH},RD cx Z J F w ps vs is gs j R g i p->(fT g).Nodup:=by
  intro j R g i p D
  unfold fT
  rcases D.kind with⟨_,_,_,b,o,hb,hno⟩|⟨_,hb,_⟩
  ·rw[hb];exact jB.2 ⟨hno,D.nd⟩
  ·rw[hb];exact D.nd
 have NS:∀{j m:Nat} {i:aQ} {p:aH} {g:GA} {b:Nat},is[j]?=some i->ps[j]?=some p->kG Z J F w i.ids b->gs[m]?=some g->b∈fT g->m∈zN p/\(∃k bB,p=.val k bB/\∀i',is[m]?=some i'->∀t∈i'.bt,t∉k.tys):=by
  intro j m i p g b hi hp hb hg hbf
  rcases zi hg hbf with⟨_,h⟩|⟨_,i',r,R,q,h0,h1,h2,h3⟩
  ·exact absurd h hb.2.1
  ·obtain⟨n,hn⟩:=hb.2.2 r R h2 h3
   obtain⟨g1,k,bB,g2,g3⟩:=hA.bB j p i r n hp hi hn m i' q h0 h1
   refine⟨g1,k,bB,g2,λvU h=>?_⟩
   rw[h0]at h
   simp only[aa]at h
   subst h
   exact g3
 have Nj:∀{j:Nat} {i:aQ} {p:aH} {b:Nat},is[j]?=some i->ps[j]?=some p->aO cx Z J F w i.ids b->(∀k bB,p=.val k bB->∃t∈k.tys,kr (hp w) b t)->(iB cx Z J F w ps c is gs).ext j b:=by
  intro j i p b hi hp hb ht
  refine⟨⟨i,hi,hb⟩,λm g q hg hbase e=>?_⟩
  have hbf:b∈fT g:=by unfold fT;rw[hbase,e];simp
  obtain⟨_,k,bB,h1,h2⟩:=NS hi hp hb.q hg hbf
  obtain⟨p',cj,v,i',e1,e2,e3,e4⟩:=hgj hg
  obtain⟨r,R,q',arr,e',lo,hi',f1,f2,f3,f4,f5,f6,f7,f8⟩:=(oG H e4).2.1 q.1 q.2 (by rw[hbase])
  rcases f8 with⟨f8,f9,f10⟩|f8
  ·obtain⟨t,ht1,ht2⟩:=ht k bB h1
   have ht2:=H.zR (hmn hg hbf) ht2
   rw[e]at ht2
   unfold h_ at ht2
   rw[f4]at ht2
   simp only[aa]at ht2
   cases hbt:i'.bt with
   |nil=>exact f9 hbt
   |cons t0 l=>
    have hm:t0∈i'.bt:=by rw[hbt];simp
    exact h2 i' e3 t0 hm (by rw[f8 t0 hm,ht2];exact ht1)
  ·exact hb.2.2.1 (e▸f8)
 have NF:∀{j:Nat} {i:aQ} {p:aH} {b:Nat} {T:List Tag},is[j]?=some i->ps[j]?=some p->(iB cx Z J F w ps c is gs).ext j b->(gB j,0)∈T->(∀n∈zN p,(aC n,0)∈T)->aO (iB cx Z J F w ps c is gs) (f_ ps c) (qa gs) [] w T b:=by
  intro j i p b T hi hp hb ht hpr
  obtain⟨⟨i',hi',hok⟩,hno⟩:=hb
  rw[hi]at hi'
  simp only[aa]at hi'
  subst hi'
  refine⟨hok.1,by simp,?_,λr R hr hbr=>?_,λ_=>.inl ⟨j,0,ht,⟨i,hi,hok⟩,hno⟩⟩
  ·rintro⟨m,pi,o,n,h1,h2⟩
   simp only[iB]at h1
   cases hgm:gs[m]? with
   |none=>rw[hgm]at h1;simp at h1
   |some g=>
    cases hpm:ps[m]? with
    |none=>rw[hgm,hpm]at h1;simp at h1
    |some pm=>
     rw[hgm,hpm]at h1
     simp only at h1
     cases hh:(g.ow||g.wb)with
     |false=>rw[hh]at h1;simp at h1
     |true=>
      rw[hh]at h1
      simp only[fJ,aa]at h1
      subst h1
      simp only at h2
      cases hbase:g.base with
      |none=>rw[hbase]at h2;simp at h2
      |some q=>
       rw[hbase]at h2
       simp only[gz,aa,bK]at h2
       exact hno m g q hgm hbase h2.1.symm
  ·obtain⟨m,g,im,pm,h1,D⟩:=hroot hr.1
   subst h1
   rw[D.blk]at hbr
   exact⟨0,hpr m (NS hi hp hok.q D.hg hbr).1⟩
 have ahD:∀{j:Nat} {i:aQ} {p:aH} {b:Nat},is[j]?=some i->ps[j]?=some p->(∀k bB,p≠.val k bB)->kG Z J F w i.ids b->kG (f_ ps c) (qa gs) [] w [(gB j,0)] b:=by
  intro j i p b hi hp Bn hb
  refine⟨hb.1,by simp,λr R hr hbr=>?_⟩
  obtain⟨m,g,im,pm,h1,D⟩:=hroot hr.1
  subst h1
  rw[D.blk]at hbr
  obtain⟨_,k,bB,h2,_⟩:=NS hi hp hb D.hg hbr
  exact absurd h2 (Bn k bB)
 have hpar:∀{j:Nat} {pi:G8},(iB cx Z J F w ps c is gs).par j=some pi->∃g p,gs[j]?=some g/\ps[j]?=some p/\(g.ow=true\/g.wb=true)/\pi=⟨g.base.map λq=>(q.1,q.2,n_ p),fT g,g.wb⟩:=by
  intro j pi h1
  simp only[iB]at h1
  cases hgm:gs[j]? with
  |none=>rw[hgm]at h1;simp at h1
  |some g=>
   cases hpm:ps[j]? with
   |none=>rw[hgm,hpm]at h1;simp at h1
   |some pm=>
    rw[hgm,hpm]at h1
    simp only at h1
    cases hh:(g.ow||g.wb)with
    |false=>rw[hh]at h1;simp at h1
    |true=>
     rw[hh]at h1
     simp only[fJ,aa]at h1
     exact⟨g,pm,rfl,rfl,by simpa using hh,h1.symm⟩
 have Wi:∀{j:Nat} {R:Root} {g:GA} {i:aQ} {p:aH},RD cx Z J F w ps vs is gs j R g i p->(iB cx Z J F w ps c is gs).par j=some ⟨g.base.map λq=>(q.1,q.2,n_ p),fT g,g.wb⟩:=by
  intro j R g i p D
  simp only[iB]
  rw[D.hg,D.hq]
  have:(g.ow||g.wb)=true:=by simpa using D.held
  simp only[this,fJ]
 have hsame:∀{j:Nat} {R R':Root},(f_ ps c).roots (aC j)=some R->(f_ ps c).roots (aC j)=some R'->R'=R:=λh1 h2=>by rw[h1]at h2;simpa using h2.symm
 have oH:∀{j:Nat} {g:GA} {p:aH} {b o:Nat},gs[j]?=some g->ps[j]?=some p->g.base=some (b,o)->∃arr e lo hi,hp w b=some (.cells arr e (lo,hi))/\iE arr.size lo hi/\o+n_ p<=arr.size/\Cells (hp w) b o g.cs:=by
  intro j g p b o hg hp hb
  obtain⟨p',cj,v,i,e1,e2,e3,e4⟩:=hgj hg
  rw[hp]at e1
  simp only[aa]at e1
  subst e1
  obtain⟨r,R,q',arr,e',lo,hi',f1,f2,f3,f4,f5,f6,f7,f8⟩:=(oG H e4).2.1 b o hb
  exact⟨arr,e',lo,hi',f4,f5,f6,f7⟩
 have Wp:∀s,iL (iB cx Z J F w ps c is gs) (f_ ps c) (qa gs) [] w ((f_ ps c).slots s) (vs.toArray.getD s undef)/\mG (f_ ps c) ((f_ ps c).slots s):=by
  intro s
  rcases YZ ps 0 c s with h|⟨j,p,cj0,hj,hps,hs0⟩
  ·have:(f_ ps c).slots s=.one .undef:=h
   rw[this]
   exact⟨trivial,trivial⟩
  ·simp only[jN]at hj
   subst hj
   obtain⟨cj,v,i,g,e1,e2,e3,e4,e5,e6⟩:=hat s p hps
   have hsl:(f_ ps c).slots s=.one (xI p s cj):=e5
   have hvs:vs.toArray.getD s undef=v:=by
    rw[x9]
    simp[e1]
   rw[hsl,hvs]
   have hro:∀{k:K} {x:El k} {v:Value} {b o:Nat} {cs:List Value},(∀k bB,p≠.val k bB)->v=.pointer (some ⟨b,o,none⟩)->Cells (hp w) b o cs->Vw (hp w) (aO cx Z J F w i.ids) k x cs->kG Z J F w i.ids b->zN p=[]->
     tX (iB cx Z J F w ps c is gs) (f_ ps c) (qa gs) [] w SENT k x [(gB s,0)] v:=by
    intro k x v b o cs Bn hv hC hV hq hpr
    refine⟨⟨b,o,hv⟩,λ_=>⟨b,o,cs,hv,hC,jO (λ_ _=>rfl) (λb hb=>?_) hV,ahD e2 hps Bn hq,.inl ⟨rfl,λt ht=>by simp only[gW]at ht;subst ht;exact sU s⟩⟩⟩
    exact NF e2 hps (Nj e2 hps hb (λk bB h=>absurd h (Bn k bB))) (by simp) (by rw[hpr];simp)
   have NL:∀{R:Root},jF p s cj=some R->dB (f_ ps c) (.ref (aC s) 0)/\dB (f_ ps c) (.ptr (aC s) [] 0):=by
    intro R hR
    have hr:(f_ ps c).roots (aC s)=some R:=by show iY (jd ps 0 c) (aC s)=some R;rw[e6,hR]
    exact⟨⟨R,hr,.inr (dY _)⟩,⟨R,hr,.inr (dY _)⟩⟩
   have VJ:fC (f_ ps c) [(gB s,0)]:=λt ht=>by simp only[gW]at ht;subst ht;exact .inl (sU s)
   have qL:∀{R:Root},jF p s cj=some R->R.kind=.anon->aR (iB cx Z J F w ps c is gs) (f_ ps c) (qa gs) [] w (.ref (aC s) 0) v:=by
    intro R hR hk Q hQ _
    have hr:(f_ ps c).roots (aC s)=some R:=by show iY (jd ps 0 c) (aC s)=some R;rw[e6,hR]
    have D:=Ej e4 e3 e2 hps e1 hR
    have hQR:=hsame hr hQ.1
    subst hQR
    rcases D.kind with⟨hk',_⟩|⟨_,_,hV⟩
    ·rw[hk]at hk';simp at hk'
    ·refine⟨hk,?_⟩
     rw[(uB D.hg).2.1,<-e4.1]
     exact hV
   cases p with
   |val k bB=>
    obtain⟨h0,h1,h2,h3,h4,h5,h6,h7⟩:=e4
    refine⟨λhc=>⟨g.cs,h6,?_⟩,?_⟩
    ·cases hf:k.flat with
     |true=>exact kL hf h7
     |false=>
      rw[show(xI (.val k bB) s cj)=.val k cj.1 ((gB s,0) :: bB.map λj=>(aC j,0)) by simp[xI,hf]]at *
      refine jO (λ_ _=>rfl) (λb hb=>?_) (De k.tys (λ_ h=>h) h7)
      refine NF e2 hps (Nj e2 hps hb.1 (λk' apG h=>by simp only[aH.val.injEq]at h;obtain⟨rfl,_⟩:=h;exact hb.2)) (by simp) (λn hn=>by exact ji _ (eD.2 ⟨n,hn,rfl⟩))
    ·intro t ht
     cases hf:k.flat with
     |true=>simp[xI,hf]at ht
     |false=>
      simp only[xI,hf,jr,bH,eD]at ht
      rcases ht with ht|⟨m,hm,ht⟩
      ·subst ht;exact .inl (sU s)
      ·subst ht
       obtain⟨i',q,f1,f2⟩:=hA.prw s _ hps m hm
       have hm':m<gs.length:=by have:=(nL.1 f1).1;omega
       obtain⟨p',cj',v',vU,k1,k2,k3,k4⟩:=hgj (gK hm')
       rw[f1]at k3
       simp only[aa]at k3
       subst k3
       obtain⟨R,_,_,hR,_⟩:=hmk (gK hm') (.inr ((oG H k4).2.2.2.2 (by rw[f2];simp)))
       exact .inr ⟨R,hR,.inr (dY _)⟩
   |ro k=>
    obtain⟨h0,h1,h2,h3,h4,h5,b,o,h6,h7,h8,h9⟩:=e4
    exact⟨hro (by simp) h6 h7 h8 h9 rfl,VJ⟩
   |rw k ow wt ht=>
    obtain⟨R,hR⟩:=Iz s e4 (.inr e4.2.2.1)
    have hr:(f_ ps c).roots (aC s)=some R:=by show iY (jd ps 0 c) (aC s)=some R;rw[e6,hR]
    have D:=Ej e4 e3 e2 hps e1 hR
    obtain⟨h0,h1,h2,r,R0,q,b,o,h3,h4,h5,h6,h7,_⟩:=e4
    refine⟨⟨⟨b,o,h6⟩,λQ hQ _ _ _ _=>⟨trivial,g.cs,b,o,?_,h6⟩⟩,(NL hR).2⟩
    have hQR:=hsame hr hQ
    subst hQR
    simp only[aN]
    rw[D.wh,h7,(uB D.hg).2.1]
   |dH k ow wt=>
    obtain⟨R,hR⟩:=Iz s e4 (.inr e4.2.2.1)
    exact⟨qL hR (by simp only[jF,aa]at hR;subst hR;rfl),(NL hR).1⟩
   |own k ow=>
    obtain⟨R,hR⟩:=Iz s e4 (.inl e4.2.1)
    exact⟨qL hR (by simp only[jF,aa]at hR;subst hR;rfl),(NL hR).1⟩
   |fn f ks=>
    obtain⟨h0,h1,h2,h3,h4,h5,us,h6,h7⟩:=e4
    have agQ:∀(ks:List K) (c0:Cont ks) (us:List Value),qz.FZ cx Z J F w ks c0 us i.ids->mH (iB cx Z J F w ps c is gs) (f_ ps c) (qa gs) [] w (eU.AP s ks c0) us:=by
     intro ks
     induction ks with
     |nil=>intro c0 us h;cases us with
      |nil=>exact trivial
      |cons _ _=>exact h.elim
     |cons k ks ih=>intro c0 us h;cases us with
      |nil=>exact h.elim
      |cons u us=>
       obtain⟨⟨b,o,cs,g1,g2,g3,g4⟩,g5⟩:=h
       exact⟨hro (by simp) g1 g2 g3 g4 rfl,ih c0.2 us g5⟩
    have agR:∀(ks:List K) (c0:Cont ks),∀q∈eU.AP s ks c0,fC (f_ ps c) q.2.2:=by
     intro ks
     induction ks with
     |nil=>intro c0 q hq;simp[eU.AP]at hq
     |cons k ks ih=>
      intro c0 q hq
      rcases bH.1 hq with h|h
      ·subst h;exact VJ
      ·exact ih c0.2 q h
    exact⟨⟨us,h6,agQ ks cj us h7⟩,agR ks cj⟩
   |into j q=>
    obtain⟨h0,h1,h2,h3,h4,h5,h6⟩:=e4
    cases q with
    |nil=>
     rcases h6 with⟨_,_,b,h6⟩|⟨h6,_⟩
     ·exact⟨⟨b,h6⟩,trivial⟩
     ·exact absurd rfl h6
    |cons t q=>
     rcases h6 with⟨h6,_⟩|⟨_,r,q',R,cs,b,o,l1,l2,l3,l4,l5,l6,l7⟩
     ·simp at h6
     ·obtain⟨k,ow,wt,ht,i',q1,u,m1,m2,m3,m4⟩:=hA.lie s j (t :: q) i r q' hps e2 l1
      obtain⟨cj',v',vU,g',f1,f2,f3,f4,f5,f6⟩:=hat j _ m1
      rw[m2]at f2
      simp only[aa]at f2
      subst f2
      have f4':=f4
      obtain⟨_,_,_,r2,R2,p2,b2,o2,hP,_,hn,_,hgb,_⟩:=f4'
      have hw:=hP.wb
      rw[m3]at hw
      simp only[aa,bK]at hw
      obtain⟨rfl,rfl,_⟩:=hw
      have hRR:R2=R:=by have:=hP.lv.1;rw[l2.1]at this;simpa using this.symm
      subst hRR
      rw[l7]at m4
      have hr0:(f_ ps c).roots (aC j)=jF (.rw k ow wt ht) j cj':=f6
      have D:=Ej f4 f3 m2 m1 f1 rfl
      refine⟨⟨⟨b,o,l6⟩,λQ hQ _ _ _ _=>?_⟩,⟨_,hr0,.inr (dY _)⟩⟩
      rw[hr0]at hQ
      simp only[jF,aa]at hQ
      have e7:(qa gs).hdr (aC j)=g'.cs:=(uB f3).2.1
      have e8:=D.wh
      rw[hQ]at e8
      subst hQ
      rw[m4]at l3 l5
      refine⟨adA q1 hP.get l3,cs,b,o,?_,l6⟩
      rw[e7,e8,<-l5,Fb q1 hP.get hn,hgb]
      rfl
 constructor
 ·rfl
 ·exact dY _
 ·intro j pi b o n hj hb
  obtain⟨g,p,hg,hp,hh,rfl⟩:=hpar hj
  obtain⟨R,i,p',hr,D⟩:=hmk hg hh
  have:p'=p:=by have:=D.hq;rw[hp]at this;simpa using this.symm
  subst this
  simp only at hb
  cases hbase:g.base with
  |none=>rw[hbase]at hb;simp at hb
  |some q=>
   rw[hbase]at hb
   simp only[gz,aa,bK]at hb
   obtain⟨rfl,rfl,rfl⟩:=hb
   rcases D.kind with⟨hk,hs,_⟩|⟨_,hn,_⟩
   ·refine⟨R,⟨hr,D.live⟩,hk,?_,hs.symm⟩
    rw[(uB hg).1,hbase]
    rfl
   ·rw[hbase]at hn;simp at hn
 ·intro r R hr hk
  obtain⟨j,g,i,p,rfl,D⟩:=hroot hr.1
  rcases D.kind with⟨_,hs,_,b,o,hb,_⟩|⟨hk',_⟩
  ·refine⟨j,_,n_ p,rfl,Wi D,?_⟩
   rw[(uB D.hg).1,hb]
   rfl
  ·rw[hk]at hk';simp at hk'
 ·exact λs=>(Wp s).1
 ·exact λs=>(Wp s).2
 ·intro r R hr
  obtain⟨j,g,i,p,rfl,D⟩:=hroot hr.1
  obtain⟨a1,a2,a3⟩:=uB D.hg
  refine⟨λ_=>?_,by rw[a2];exact eO D.ow,λb o hb=>?_,by rw[D.blk];exact hnd D,λb hb=>?_⟩
  ·rw[a2,a3]
   have dU:=D.tags
   cases hall:(R.k.tys.all λt=>ah t R.own)with
   |true=>exact lq (om (mQ hall)) D.ow
   |false=>
    rw[hall]at dU
    refine dK (λ_ _=>rfl) (λb hb=>?_) (λ_ _=>rfl) D.ow
    exact NF D.hi D.hq (Nj D.hi D.hq hb (λk bB h=>absurd h (D.am9 k bB))) (by rw[dU];simp) (by rw[D.bB];simp)
  ·rw[D.wh]at hb
   obtain⟨arr,e,lo,hi,m1,m2,m3,m4⟩:=oH D.hg D.hq hb
   rw[a2]
   rcases D.kind with⟨hk,hs,_⟩|⟨_,hn,_⟩
   ·exact⟨m4,arr,e,lo,hi,m1,m2,by rw[<-hs];exact m3,λt ht=>by rw[hk]at ht;simp at ht⟩
   ·rw[hb]at hn;simp at hn
  ·rw[D.blk]at hb
   exact⟨hlt D.hg hb,.inr ⟨j,_,Wi D,hb⟩⟩
 ·intro r R hr
  obtain⟨j,g,i,p,rfl,D⟩:=hroot hr
  have dU:=D.tags
  refine⟨λt ht=>?_,En j,λn hn=>?_⟩
  ·rw[dU]at ht
   cases hall:(R.k.tys.all λt=>ah t R.own)with
   |true=>rw[hall]at ht;simp at ht
   |false=>rw[hall]at ht;simp only[jr,gW]at ht;subst ht;exact .inl (sU j)
  ·rw[dU]at hn
   cases hall:(R.k.tys.all λt=>ah t R.own)with
   |true=>rw[hall]at hn;simp at hn
   |false=>rw[hall]at hn;simp only[jr,gW,bK]at hn;unfold aC gB at hn;omega
 ·intro r R r' R' hr hr' hne b hb
  obtain⟨j,g,i,p,rfl,D⟩:=hroot hr.1
  obtain⟨j',g',i',p',rfl,D'⟩:=hroot hr'.1
  rw[D.blk]at hb
  rw[D'.blk]
  exact VH D.hg D'.hg (λe=>hne (by rw[e])) hb
 ·intro b hb;simp at hb
 ·exact lM
 ·intro r R _ b _ h;simp at h
 ·refine⟨rfl,rfl,rfl,bT _,λ_ _ _=>rfl,λj pi b o n hj hb=>?_⟩
  obtain⟨g,p,hg,hp,hh,rfl⟩:=hpar hj
  simp only at hb
  cases hbase:g.base with
  |none=>rw[hbase]at hb;simp at hb
  |some q=>
   rw[hbase]at hb
   simp only[gz,aa,bK]at hb
   obtain⟨rfl,rfl,rfl⟩:=hb
   obtain⟨arr,e,lo,hi,m1,_⟩:=oH hg hp (b:=q.1) (o:=q.2) (by rw[hbase])
   exact j_.of_same _ _ m1 rfl
 ·intro j pi hj hk
  obtain⟨g,p,hg,hp,hh,rfl⟩:=hpar hj
  obtain⟨R,i,p',hr,D⟩:=hmk hg hh
  refine⟨R,hr,λ_ b hb _=>.inr ⟨rfl,by simp,λq Q hq hbq=>?_⟩⟩
  obtain⟨j',g',i',p'',rfl,D'⟩:=hroot hq.1
  rw[D'.blk]at hbq
  by_cases e:j'=j
  ·rw[e]
  ·exact absurd hb (VH D'.hg hg e hbq)
 ·refine⟨λj pi hj b hb=>?_,λb hb=>⟨?_,λj pi hj hbl=>?_⟩,λb hb=>H.fixed hb⟩
  ·obtain⟨g,p,hg,hp,hh,rfl⟩:=hpar hj
   exact hlt hg hb
  ·exact uu (H.pJ.2.1 b hb).1 H.frame.2.2.2.1
  ·obtain⟨g,p,hg,hp,hh,rfl⟩:=hpar hj
   exact H.Zd (hmn hg hbl) hb
 ·intro j q ts v hv
  obtain⟨g,R0,c0,b,o,h1,h2,h3,h4,h5,h6,h7,h8⟩:=hv
  refine⟨⟨b,o,h8⟩,R0,h3,λ_=>⟨⟨b,o,h8⟩,λQ hQ _ _ _ _=>?_⟩⟩
  have hQR:=hsame (show(f_ ps c).roots (aC j)=some R0 from h3) hQ
  subst hQR
  obtain⟨g',i',p',D⟩:=ahS hQ
  have:g'=g:=by have:=D.hg;rw[h1]at this;simpa using this.symm
  subst this
  refine⟨h6,c0,b,o,?_,h8⟩
  rw[D.wh,(uB D.hg).2.1]
  exact h7
 ·intro j v hv
  obtain⟨g,h1,h2,h3,h4⟩:=hv
  obtain⟨R,i,p,hr,D⟩:=hmk h1 (.inr h4)
  refine⟨⟨R,hr⟩,λQ hQ _=>?_⟩
  have hQR:=hsame hr hQ.1
  subst hQR
  rcases D.kind with⟨_,_,_,b,o,hb,_⟩|⟨hk,_,hV⟩
  ·rw[h3]at hb;simp at hb
  ·refine⟨hk,?_⟩
   rw[(uB D.hg).2.1,<-h2]
   exact hV
end
end
section
open Go
variable [Fr]
def K_(Z:St)(J:aF)(w:World)(j:Nat)(p:List (Option Nat))(m:Int)(v:Value):Prop:=
 (m<0/\v=.pointer none)\/(0<=m/\∃R cs b o,aU Z (aC j) R/\bM (ql p m) R.k R.x/\az (ql p m) R.k≠[]/\aN (hp w) (ql p m) R.k (J.hdr (aC j)) (aK J R (aC j))=some (cs,some (b,o))/\v=.pointer (some ⟨b,o,none⟩))
def wS(cx:Cx)(Z:St)(J:aF)(F:List Nat)(w:World):(rs:List eF)->Cont (iq rs)->List Value->List (List Nat)->Prop
 | [],_,[],[]=>True
 |.val k exts bB :: rs,c,v :: vs,fo :: au=>(fo=[]/\∃T cs,(k.flat=true\/oN exts bB T=true)/\VC k v cs/\Vw (hp w) (aO cx Z J F w T) k c.1 cs)/\wS cx Z J F w rs c.2 vs au
 |.own k ow exts bB :: rs,c,v :: vs,fo :: au=>(∃T cs own,((k.tys.all λt=>ah t ow)=true\/oN exts bB T=true)/\(∀t∈k.tys,ah t ow=true->ah t own=true)/\VC k v cs/\Ow (hp w) own (aO cx Z J F w T) k c.1 cs fo)/\wS cx Z J F w rs c.2 vs au
 |.ptr t k ow exts :: rs,c,v :: vs,fo :: au=>(∃b o T cs own bE,v=.pointer (some ⟨b,o,none⟩)/\fo=b :: bE/\((k.tys.all λt=>ah t ow)=true\/oN exts [] T=true)/\(∀t∈k.tys,ah t ow=true->ah t own=true)/\
   (Cells (hp w) b o cs/\∃arr e lo hi,hp w b=some (.cells arr e (lo,hi))/\iE arr.size lo hi/\o+k.size<=arr.size/\e=t)/\Ow (hp w) own (aO cx Z J F w T) k c.1 cs bE)/\wS cx Z J F w rs c.2 vs au
 |.into j p :: rs,c,v :: vs,fo :: au=>(fo=[]/\((p=[]/\∃b n cp,v=.slice b (show Int from c.1).toNat cp/\(show Int from c.1).toNat<=n/\aR cx Z J F w (.ref (aC j) 0) (.slice b n cp))\/(p≠[]/\K_ Z J w j p (show Int from c.1) v)))/\wS cx Z J F w rs c.2 vs au
 |_,_,_,_=>False
def Da(Z:St)(k:K)(x:El k)(ow wt ht:List TypeId)(j:Nat):Prop:=
 ∃R,Z.roots (aC j)=some R/\cz Z R/\(∃e:R.k=k,x=e▸R.x)/\tN k R.own ow=true/\zI R (some (wt,ht))=true/\((k.tys.all λt=>ah t ow)=true\/oN [j] [] R.tags=true)
def m_(Z:St):(ps:List aH)->Nat->Cont (gF ps)->Prop
 | [],_,_=>True
 |.rw k ow wt ht :: ps,j,c=>Da Z k c.1 ow wt ht j/\m_ Z ps (j+1) c.2
 |.dH k ow wt :: ps,j,c=>Da Z k c.1 ow wt k.tys j/\m_ Z ps (j+1) c.2
 |.val _ _ :: ps,j,c=>m_ Z ps (j+1) c
 |.ro _ :: ps,j,c=>m_ Z ps (j+1) c
 |.own _ _ :: ps,j,c=>m_ Z ps (j+1) c
 |.fn _ _ :: ps,j,c=>m_ Z ps (j+1) c
 |.into _ _ :: ps,j,c=>m_ Z ps (j+1) c
def tY:List Value->Value
 | [v]=>v
 |vs=>.tuple vs.toArray
def Post(cx:Cx)(ps:List aH)(rs:List eF)(out:Cont (iq rs++gF ps))(v:Value)(w':World):Prop:=
 ∃Z J F a vs au,Rel cx Z J F a w'/\v=tY vs/\wS cx Z J F w' rs (Cont.fst _ _ out) vs au/\au.flatten.Nodup/\(∀b∈au.flatten,b∈F)/\m_ Z ps 0 (Cont.snd _ _ out)
def uh(P:Program)(f:FuncId)(args:Array Value)(w:World)(R:Value->World->Prop):Prop:=
 ((callFunc f args).run P w=.ok (.enter f args) w/\Calls P f args w λe w'=>∃v,e=.returned v/\R v w')\/∃v w',(callFunc f args).run P w=.ok (.value v) w'/\R v w'
def wK(ps:List aH)(j:Nat)(k:K):Prop:=∃ow wt ht,ps[j]?=some (.rw k ow wt ht)\/ps[j]?=some (.dH k ow wt)
structure G9(cx:Cx)(ps:List aH):Prop where
 par:∀j pi,cx.par j=some pi->pi.kp=true->∃k,wK ps j k
 ptr:∀j p ts v,cx.ptrs j p ts v->∃k,wK ps j k/\ts=iD p k
 ref:∀j v,cx.refs j v->∃k,wK ps j k
def bC(P:Program)(n:Nat)(E:Entry):Prop:=
 ∀(c:Cont (kin E.ps)) (out:Cont (iq E.rs++gF E.ps)),E.F n c=some out->∀(cx:Cx) (J:aF) (args:Array Value) (w:World),cx.nt=0->cx.w0=w->args.size=E.ps.length->G9 cx E.ps->
  Rel cx (f_ E.ps c) J [] ⟨args,[]⟩ w->uh P E.f args w (Post cx E.ps E.rs out)
section
variable {P:Program}{T:bF}{cx:Cx}{Z:St}{J:aF}{F:List Nat}{a:Act}{w w':World}{ps:List aH}{c:Cont (kin ps)}{vs:List Value}{is:List aQ}{gs:List GA}
structure ug(Z:St)(J:aF)(is:List aQ)(gs:List GA)(dm:St)(bX:aF)(Ff:List Nat)(Z':St)(J':aF)(F':List Nat):Prop where
 blk:∀q Q b,aU Z' q Q->b∈blk J' Q q->b∈Ff\/(∃Q0,aU Z q Q0/\b∈Ow.blk J Q0 q/\∀(m:Nat) (g:GA),gs[m]?=some g->b∉g.fo)\/
  ∃(m:Nat) (i:aQ) (R:Root) (u:List Stp×List TypeId×List TypeId),is[m]?=some i/\i.wb=some (q,u)/\aU dm (aC m) R/\b∈Ow.blk bX R (aC m)
 F:∀b∈F',b∈Ff
theorem vF(H:Rel cx Z J F a w)(hJ:qY cx Z J F a w ps c vs is gs){j:Nat}{pi:G8}(h:(iB cx Z J F w ps c is gs).par j=some pi):∃g p cj v i,gs[j]?=some g/\ps[j]?=some p/\is[j]?=some i/\qz cx Z J F a w p cj v i g/\(g.ow=true\/g.wb=true)/\pi=⟨g.base.map λq=>(q.1,q.2,n_ p),fT g,g.wb⟩:=by
 obtain⟨lv,li,lg,hat⟩:=hJ.at (i0:=0)
 simp only[iB]at h
 cases hgm:gs[j]? with
 |none=>rw[hgm]at h;simp at h
 |some g=>
  cases hpm:ps[j]? with
  |none=>rw[hgm,hpm]at h;simp at h
  |some pm=>
   rw[hgm,hpm]at h
   simp only at h
   cases hh:(g.ow||g.wb)with
   |false=>rw[hh]at h;simp at h
   |true=>
    rw[hh]at h
    simp only[fJ,aa]at h
    obtain⟨cj,v,i,g',e1,e2,e3,e4,_⟩:=hat j pm hpm
    rw[hgm]at e3
    simp only[aa]at e3
    subst e3
    exact⟨g,pm,cj,v,i,rfl,rfl,e2,e4,by simpa using hh,h.symm⟩
theorem ano(H:Rel cx Z J F a w)(hJ:qY cx Z J F a w ps c vs is gs):G9 (iB cx Z J F w ps c is gs) ps:=by
 obtain⟨lv,li,lg,hat⟩:=hJ.at (i0:=0)
 simp only[jN]at hat
 have Nv:∀{j:Nat} {g:GA},gs[j]?=some g->g.wb=true->∃p cj,ps[j]?=some p/\iY (jd ps 0 c) (aC j)=jF p j cj/\((∃k ow wt ht,p=.rw k ow wt ht)\/∃k ow wt,p=.dH k ow wt):=by
  intro j g hg hw
  have hj:j<ps.length:=by have:=(nL.1 hg).1;omega
  obtain⟨cj,v,i,g',e1,e2,e3,e4,e5,e6⟩:=hat j ps[j] (gK hj)
  rw[hg]at e3
  simp only[aa]at e3
  subst e3
  refine⟨ps[j],cj,gK hj,e6,?_⟩
  obtain⟨k,x,ow,wt,ht,r,R,q,wh,h,_⟩:=aoN e4 hw
  rcases h with⟨h,_⟩|⟨h,_⟩
  ·exact .inl ⟨k,ow,wt,ht,h⟩
  ·exact .inr ⟨k,ow,wt,h⟩
 have hk:∀{j:Nat} {g:GA},gs[j]?=some g->g.wb=true->∃k,wK ps j k/\∃R0,iY (jd ps 0 c) (aC j)=some R0/\R0.k=k:=by
  intro j g hg hw
  obtain⟨p,cj,h1,h2,h3⟩:=Nv hg hw
  rcases h3 with⟨k,ow,wt,ht,rfl⟩|⟨k,ow,wt,rfl⟩
  ·exact⟨k,⟨ow,wt,ht,.inl h1⟩,_,h2,rfl⟩
  ·exact⟨k,⟨ow,wt,[],.inr h1⟩,_,h2,rfl⟩
 refine⟨λj pi hj hkp=>?_,λj q ts v hv=>?_,λj v hv=>?_⟩
 ·obtain⟨g,p,cj,v,i,e1,e2,e3,e4,e5,rfl⟩:=vF H hJ hj
  obtain⟨k,h,_⟩:=hk e1 hkp
  exact⟨k,h⟩
 ·obtain⟨g,R0,c0,b,o,h1,h2,h3,h4,_⟩:=hv
  obtain⟨k,h,R1,h5,h6⟩:=hk h1 h2
  rw[h3]at h5
  simp only[aa]at h5
  subst h5
  exact⟨k,h,by rw[h4,h6]⟩
 ·obtain⟨g,h1,_,_,h2⟩:=hv
  obtain⟨k,h,_⟩:=hk h1 h2
  exact⟨k,h⟩
theorem Fu(H:Rel cx Z J F a w)(hJ:qY cx Z J F a w ps c vs is gs){dm:St}{bX:aF}{Ff:List Nat}{af:Act}(Hf:Rel (iB cx Z J F w ps c is gs) dm bX Ff af w'){Z':St}{J':aF}{F':List Nat}
  (B:ug Z J is gs dm bX Ff Z' J' F') {Tg U:List Tag} (Vt:∀j n,(gB j,n)∈Tg->∀i,is[j]?=some i->∀t∈i.ids,∃n',(t.1,n')∈U) (hU2:∀m n,(aC m,n)∈Tg->∀i q,is[m]?=some i->i.wb=some q->∃n',(q.1,n')∈U)
  {b:Nat} (hb:aO (iB cx Z J F w ps c is gs) dm bX Ff w' Tg b):aO cx Z' J' F' w' U b:=by
 obtain⟨hb1,hb2,hb3,hb4,hb5⟩:=hb
 have hcl:w.heap.size<=b\/(b<w.heap.size/\∃j n i,(gB j,n)∈Tg/\is[j]?=some i/\aO cx Z J F w i.ids b)\/(b<w.heap.size/\∃(j:Nat) (g:GA),gs[j]?=some g/\b∈g.fo/\((g.ow=true/\b∈F)\/(g.wb=true/\∃r R,aU Z r R/\b∈J.fo r))):=by
  by_cases hlt:b<w.heap.size
  ·refine .inr ?_
   rcases hb5 hlt with⟨j,n,h1,⟨i,h2,h3⟩,_⟩|⟨j,pi,h1,h2⟩
   ·exact .inl ⟨hlt,j,n,i,h1,h2,h3⟩
   ·refine .inr ⟨hlt,?_⟩
    obtain⟨g,p,cj,v,i,e1,e2,e3,e4,e5,rfl⟩:=vF H hJ h1
    simp only at h2
    have hfo:b∈g.fo:=by
     unfold fT at h2
     cases hbase:g.base with
     |none=>rw[hbase]at h2;simpa using h2
     |some q=>
      rw[hbase]at h2
      simp only[iR,jq,bH]at h2
      rcases h2 with h2|h2
      ·exact absurd ⟨j,_,q.2,n_ p,h1,by rw[hbase,h2];rfl⟩ hb3
      ·exact h2
    refine⟨j,g,e1,hfo,?_⟩
    rcases(oG H e4).1 b (by unfold fT;exact bD _ hfo)with h|⟨h,_⟩
    ·exact .inl h
    ·obtain⟨r,R,q,_,f2,f3⟩:=(oG H e4).2.2.1 b hfo h
     exact .inr ⟨h,r,R,f2,f3⟩
  ·exact .inl (Nat.le_of_not_lt hlt)
 refine⟨hb1,λh=>hb2 (B.F b h),?_,?_,?_⟩
 ·intro hbase
  have hlt:b<w.heap.size:=by
   obtain⟨j,pi,o,n,h1,h2⟩:=hbase
   obtain⟨Q,hQ,hk,hl,_⟩:=H.jT j pi b o n h1 h2
   exact((H.roots _ _ hQ).mine b (by simp[Ow.blk,aK,hk,hl])).1
  rcases hcl with h|⟨_,j,n,i,_,_,h⟩|⟨_,j,g,h1,h2,h⟩
  ·omega
  ·exact h.2.2.1 hbase
  ·rcases h with⟨_,h⟩|⟨_,r,R,h3,h4⟩
   ·exact yh H h hbase
   ·exact xu H h3 h4 hbase
 ·intro q Q hq hbq
  rcases B.blk q Q b hq hbq with h|⟨Q0,h1,h2,h3⟩|⟨m,i,R,u,h1,h2,h3,h4⟩
  ·exact absurd h hb2
  ·have hlt:=((H.roots q Q0 h1).mine b h2).1
   rcases hcl with h|⟨_,j,n,i,g1,g2,g3⟩|⟨_,j,g,g1,g2,_⟩
   ·omega
   ·obtain⟨n',hn'⟩:=g3.2.2.2.1 q Q0 h1 h2
    exact Vt j n g1 i g2 _ hn'
   ·exact absurd g2 (h3 j g g1)
  ·obtain⟨n,hn⟩:=hb4 (aC m) R h3 h4
   exact hU2 m n hn i _ h1 h2
 ·intro h0
  have hlt:b<w.heap.size:=uu h0 H.frame.2.2.2.1
  have jE:Ow.mine cx w b->(∃j n,(gB j,n)∈U/\cx.ext j b)\/∃j pi,cx.par j=some pi/\b∈pi.bl:=λhm=>by
   rcases hm.2 with h|⟨j,pi,h1,h2⟩
   ·omega
   ·exact .inr ⟨j,pi,h1,h2⟩
  rcases hcl with h|⟨_,j,n,i,g1,g2,g3⟩|⟨_,j,g,g1,g2,g3⟩
  ·omega
  ·rcases g3.2.2.2.2 h0 with⟨j',n',f1,f2⟩|h
   ·obtain⟨n2,hn2⟩:=Vt j n g1 i g2 _ f1
    exact .inl ⟨j',n2,hn2,f2⟩
   ·exact .inr h
  ·rcases g3 with⟨_,h⟩|⟨_,r,R,h3,h4⟩
   ·exact jE (H.fl b h)
   ·exact jE ((H.roots r R h3).mine b (bD _ h4))
end
end
section
open Go
variable [Fr]
def mY(gp:Bool)(Z:St):(ps:List aH)->List aQ->Cont (gF ps)->List Wr->Prop
 | [],[],_,ws=>ws=[]
 |.rw k _ _ _ :: ps,i :: is,c,ws=>∃r p wt ht R z ws',i.wb=some (r,p,wt,ht)/\Z.roots r=some R/\bJ p R.k R.x ⟨k,c.1⟩=some z/\ws=.r r (some { R with k:=z.1,x:=z.2,w:=(fU R p :: wt)++R.w,h:=(bif gp then k.tys else [])++(ht++R.h) }) :: ws'/\mY gp Z ps is c.2 ws'
 |.dH k _ _ :: ps,i :: is,c,ws=>∃r p wt ht R z ws',i.wb=some (r,p,wt,ht)/\Z.roots r=some R/\bJ p R.k R.x ⟨k,c.1⟩=some z/\ws=.r r (some { R with k:=z.1,x:=z.2,w:=(SENT :: (k.tys++wt))++R.w,h:=(bif gp then k.tys else [])++(ht++R.h) }) :: ws'/\mY gp Z ps is c.2 ws'
 |.val _ _ :: ps,_ :: is,c,ws=>mY gp Z ps is c ws
 |.ro _ :: ps,_ :: is,c,ws=>mY gp Z ps is c ws
 |.own _ _ :: ps,_ :: is,c,ws=>mY gp Z ps is c ws
 |.fn _ _ :: ps,_ :: is,c,ws=>mY gp Z ps is c ws
 |.into _ _ :: ps,_ :: is,c,ws=>mY gp Z ps is c ws
 |_,_,_,_=>False
theorem adU{A:Type}{z:A}{Z:St}{gp:Bool}:∀{ps:List aH} {is:List aQ} {c:Cont (gF ps)} {k:List Wr->Prog A},(yN gp ps is c k).ends Z z->∃ws,mY gp Z ps is c ws/\(k ws).ends Z z:=by
 intro ps
 induction ps with
 |nil=>
  intro is c k h
  cases is with
  |nil=>exact⟨[],rfl,h⟩
  |cons _ _=>exact h.elim
 |cons p ps ih=>
  intro is c k h
  cases is with
  |nil=>cases p<;>exact h.elim
  |cons i is=>
   cases p with
   |rw kk ow uT ht0=>
    obtain⟨ids,wb,ws0,bt,amv⟩:=i
    cases wb with
    |none=>exact h.elim
    |some q=>
     obtain⟨r,p,wt,ht⟩:=q
     simp only[yN,Prog.ends]at h
     cases hr:Z.roots r with
     |none=>rw[hr]at h;exact h.elim
     |some R=>
      rw[hr]at h
      simp only at h
      cases hz:bJ p R.k R.x ⟨kk,c.1⟩with
      |none=>rw[hz]at h;exact h.elim
      |some z=>
       rw[hz]at h
       obtain⟨ws,g1,g2⟩:=ih h
       exact⟨_,⟨r,p,wt,ht,R,z,ws,rfl,hr,hz,rfl,g1⟩,g2⟩
   |dH kk ow uT=>
    obtain⟨ids,wb,ws0,bt,amv⟩:=i
    cases wb with
    |none=>exact h.elim
    |some q=>
     obtain⟨r,p,wt,ht⟩:=q
     simp only[yN,Prog.ends]at h
     cases hr:Z.roots r with
     |none=>rw[hr]at h;exact h.elim
     |some R=>
      rw[hr]at h
      simp only at h
      cases hz:bJ p R.k R.x ⟨kk,c.1⟩with
      |none=>rw[hz]at h;exact h.elim
      |some z=>
       rw[hz]at h
       obtain⟨ws,g1,g2⟩:=ih h
       exact⟨_,⟨r,p,wt,ht,R,z,ws,rfl,hr,hz,rfl,g1⟩,g2⟩
   |val _ _=>exact ih h
   |ro _=>exact ih h
   |own _ _=>exact ih h
   |fn _ _=>exact ih h
   |into _ _=>exact ih h
theorem Uc{Z:St}{gp:Bool}:∀{ps:List aH} {is:List aQ} {c:Cont (gF ps)} {ws:List Wr},(∀i∈is,i.wb=none)->mY gp Z ps is c ws->ws=[]:=by
 intro ps
 induction ps with
 |nil=>
  intro is c ws _ h
  cases is with
  |nil=>exact h
  |cons _ _=>exact h.elim
 |cons p ps ih=>
  intro is c ws hn h
  cases is with
  |nil=>cases p<;>exact h.elim
  |cons i is=>
   have hn':∀i∈is,i.wb=none:=λi hi=>hn i (by simp[hi])
   have h0:=hn i (by simp)
   cases p with
   |rw kk ow uT ht0=>obtain⟨r,p,wt,ht,R,z,ws',h1,_⟩:=h;rw[h0]at h1;simp at h1
   |dH kk ow uT=>obtain⟨r,p,wt,ht,R,z,ws',h1,_⟩:=h;rw[h0]at h1;simp at h1
   |val _ _=>exact ih hn' h
   |ro _=>exact ih hn' h
   |own _ _=>exact ih hn' h
   |fn _ _=>exact ih hn' h
   |into _ _=>exact ih hn' h
theorem Zm{i:aQ}{is:List aQ}(h:tK (i :: is)=true):(i.wb=none/\tK is=true)\/(i.wb≠none/\∀i'∈is,i'.wb=none):=by
 unfold tK at h
 cases hw:i.wb with
 |none=>rw[hw]at h;exact .inl ⟨rfl,h⟩
 |some q=>
  rw[hw]at h
  refine .inr ⟨by simp,λi' hi=>?_⟩
  have:=dX.1 h i' hi
  cases hw':i'.wb with
  |none=>rfl
  |some _=>rw[hw']at this;simp at this
theorem adX{Z dm:St}:∀{ps:List aH} {is:List aQ} {c:Cont (gF ps)} {ws:List Wr} {j0:Nat},tK is=true->(∀(m:Nat) (p:aH) (i:aQ),ps[m]?=some p->is[m]?=some i->(∀k ow wt ht,p≠.rw k ow wt ht)->(∀k ow wt,p≠.dH k ow wt)->i.wb=none)->
  mY false Z ps is c ws->m_ dm ps j0 c->(ws=[]/\∀i∈is,i.wb=none)\/
  ∃(j:Nat) (i:aQ) (k:K) (x:El k) (ow wt ht:List TypeId) (r:Nat) (p:List Stp) (R:Root) (z:Dat) (iJ ht':List TypeId),is[j]?=some i/\i.wb=some (r,p,iJ,ht')/\Z.roots r=some R/\bJ p R.k R.x ⟨k,x⟩=some z/\Da dm k x ow wt ht (j0+j)/\(∀(m:Nat) (i':aQ),m≠j->is[m]?=some i'->i'.wb=none)/\
   ((ps[j]?=some (.rw k ow wt ht)/\ws=[.r r (some { R with k:=z.1,x:=z.2,w:=(fU R p :: iJ)++R.w,h:=ht'++R.h })])\/(ps[j]?=some (.dH k ow wt)/\ht=k.tys/\ws=[.r r (some { R with k:=z.1,x:=z.2,w:=(SENT :: (k.tys++iJ))++R.w,h:=ht'++R.h })])):=by
 intro ps
 induction ps with
 |nil=>
  intro is c ws j0 _ _ hB _
  cases is with
  |nil=>exact .inl ⟨hB,by simp⟩
  |cons _ _=>exact hB.elim
 |cons p ps ih=>
  intro is c ws j0 h1 hal hB hO
  cases is with
  |nil=>cases p<;>exact hB.elim
  |cons i is=>
   have Ir:∀(m:Nat) (p:aH) (i:aQ),ps[m]?=some p->is[m]?=some i->(∀k ow wt ht,p≠.rw k ow wt ht)->(∀k ow wt,p≠.dH k ow wt)->i.wb=none:=λm p i hp hi=>hal (m+1) p i (by simpa using hp) (by simpa using hi)
   have hrest:∀{c':Cont (gF ps)} {ws':List Wr},i.wb=none->mY false Z ps is c' ws'->m_ dm ps (j0+1) c'->(ws'=[]/\∀i'∈i :: is,i'.wb=none)\/
     ∃(j:Nat) (i':aQ) (k:K) (x:El k) (ow wt ht:List TypeId) (r:Nat) (q:List Stp) (R:Root) (z:Dat) (iJ ht':List TypeId),(i :: is)[j]?=some i'/\i'.wb=some (r,q,iJ,ht')/\Z.roots r=some R/\bJ q R.k R.x ⟨k,x⟩=some z/\Da dm k x ow wt ht (j0+j)/\(∀(m:Nat) (vU:aQ),m≠j->(i :: is)[m]?=some vU->vU.wb=none)/\
      (((p :: ps)[j]?=some (.rw k ow wt ht)/\ws'=[.r r (some { R with k:=z.1,x:=z.2,w:=(fU R q :: iJ)++R.w,h:=ht'++R.h })])\/((p :: ps)[j]?=some (.dH k ow wt)/\ht=k.tys/\ws'=[.r r (some { R with k:=z.1,x:=z.2,w:=(SENT :: (k.tys++iJ))++R.w,h:=ht'++R.h })])):=by
    intro c' ws' hw hB hO
    have ho:tK is=true:=by
     rcases Zm h1 with⟨_,h⟩|⟨h,_⟩
     ·exact h
     ·exact absurd hw h
    rcases ih ho Ir hB hO with⟨e,h⟩|⟨j,i',k,x,ow,wt,ht,r,q,R,z,iJ,ht',e1,e2,e3,e4,e5,e6,e7⟩
    ·refine .inl ⟨e,λi' hi=>?_⟩
     rcases bH.1 hi with h'|h'
     ·subst h';exact hw
     ·exact h i' h'
    ·refine .inr ⟨j+1,i',k,x,ow,wt,ht,r,q,R,z,iJ,ht',by simpa using e1,e2,e3,e4,by rw[show j0+(j+1)=j0+1+j by omega];exact e5,λm vU hm hi=>?_,by simpa using e7⟩
     cases m with
     |zero=>simp only[qC,aa]at hi;subst hi;exact hw
     |succ m=>exact e6 m vU (by omega) (by simpa using hi)
   have hnw:∀{iJ:Option (Nat×List Stp×List TypeId×List TypeId)},i.wb=iJ->iJ≠none->∀i'∈is,i'.wb=none:=by
    intro iJ he hne
    rcases Zm h1 with⟨h,_⟩|⟨_,h⟩
    ·rw[he]at h;exact absurd h hne
    ·exact h
   cases p with
   |rw kk ow uT ht0=>
    obtain⟨r,q,wt,ht,R,z,ws',g1,g2,g3,g4,g5⟩:=hB
    have hn:=hnw g1 (by simp)
    have:=Uc hn g5
    subst this
    refine .inr ⟨0,i,kk,c.1,ow,uT,ht0,r,q,R,z,wt,ht,rfl,g1,g2,g3,hO.1,λm i' hm hi=>?_,.inl ⟨rfl,g4⟩⟩
    cases m with
    |zero=>exact absurd rfl hm
    |succ m=>exact hn i' (pX (by simpa using hi))
   |dH kk ow uT=>
    obtain⟨r,q,wt,ht,R,z,ws',g1,g2,g3,g4,g5⟩:=hB
    have hn:=hnw g1 (by simp)
    have:=Uc hn g5
    subst this
    refine .inr ⟨0,i,kk,c.1,ow,uT,kk.tys,r,q,R,z,wt,ht,rfl,g1,g2,g3,hO.1,λm i' hm hi=>?_,.inr ⟨rfl,rfl,g4⟩⟩
    cases m with
    |zero=>exact absurd rfl hm
    |succ m=>exact hn i' (pX (by simpa using hi))
   |val k bB=>exact hrest (hal 0 _ i rfl rfl (by simp) (by simp)) hB hO
   |ro k=>exact hrest (hal 0 _ i rfl rfl (by simp) (by simp)) hB hO
   |own k ow=>exact hrest (hal 0 _ i rfl rfl (by simp) (by simp)) hB hO
   |fn f ks=>exact hrest (hal 0 _ i rfl rfl (by simp) (by simp)) hB hO
   |into j q=>exact hrest (hal 0 _ i rfl rfl (by simp) (by simp)) hB hO
end
section
open Go
variable [Fr]
section
variable {P:Program}{T:bF}{cx:Cx}{Z:St}{J:aF}{F:List Nat}{a:Act}{w w':World}{ps:List aH}{c:Cont (kin ps)}{vs:List Value}{is:List aQ}{gs:List GA}
theorem Cj{l m:List Nat}:lZ l m=true↔∀t∈l,t∈m:=by
 unfold lZ
 rw[dX]
 simp[fA]
theorem P9(h:Heap):∀(q:List Stp) {k:K} {cs:List Value} {wh:Option (Nat×Nat)} {c0:List Value} {w0:Option (Nat×Nat)},az q k≠[]->aN h q k cs wh=some (c0,w0)->(∀bZ,aN h q k cs bZ=some (c0,w0))/\∃b o,w0=some (b,o):=by
 intro q
 induction q with
 |nil=>intro k cs wh c0 w0 h1;simp[az]at h1
 |cons s q ih=>
  intro k cs wh c0 w0 h1 h2
  cases s with
  |aP n=>
   cases k with
   |st c=>
    simp only[aN]at h2 ⊢
    cases ho:bI n c with
    |none=>rw[ho]at h2;simp at h2
    |some p=>
     obtain⟨off,k'⟩:=p
     rw[ho]at h2
     simp only at h2 ⊢
     have hk:az.jQ n c=some k':=by
      have:∀(n:Nat) {c:K} {off:Nat} {k':K},bI n c=some (off,k')->az.jQ n c=some k':=by
       intro n
       induction n with
       |zero=>intro c off k' h;cases c<;>simp_all[bI,az.jQ]
       |succ n ih=>
        intro c off k' h
        cases c with
        |pair a b=>
         simp only[bI]at h
         cases h5:bI n b with
         |none=>rw[h5]at h;simp at h
         |some q=>
          rw[h5]at h
          simp only[aa,bK]at h
          simp only[az.jQ]
          exact ih (by rw[h5,<-h.2])
        |_=>simp[bI]at h
      exact this n ho
     have hpt:az (.aP n :: q) (.st c)=az q k':=by simp[az,hk]
     rw[hpt]at h1
     obtain⟨g1,g2⟩:=ih h1 h2
     exact⟨λbZ=>g1 _,g2⟩
   |_=>simp[aN]at h2
  |idx i=>
   cases k with
   |sl e k=>
    simp only[aN]at h2 ⊢
    split at h2
    ·rename_i ad _ _
     refine⟨λbZ=>h2,?_⟩
     have key:∀(q:List Stp) {k:K} {cs:List Value} {p:Nat×Nat} {c0:List Value} {w0:Option (Nat×Nat)},aN h q k cs (some p)=some (c0,w0)->∃b o,w0=some (b,o):=by
      intro q
      induction q with
      |nil=>intro k cs p c0 w0 h;simp only[aN,aa,bK]at h;exact⟨p.1,p.2,h.2.symm⟩
      |cons s q ih=>
       intro k cs p c0 w0 h
       cases s with
       |aP n=>
        cases k with
        |st c=>
         simp only[aN]at h
         cases ho:bI n c with
         |none=>rw[ho]at h;simp at h
         |some q2=>rw[ho]at h;exact ih h
        |_=>simp[aN]at h
       |idx i=>
        cases k with
        |sl e k=>
         simp only[aN]at h
         split at h
         ·exact ih h
         ·simp at h
        |_=>simp[aN]at h
     exact key q h2
    ·simp at h2
   |_=>simp[aN]at h2
theorem Ud(H:Rel cx Z J F a w){dm:St}{bX:aF}{Ff G:List Nat}{r j:Nat}{R Rf R':Root}{i:aQ}{u:List Stp×List TypeId×List TypeId}{g:GA}{rest:List Nat}{fZ:aF}{lw lh:List Nat}(hr:aU Z r R)(hi:is[j]?=some i)(hw:i.wb=some (r,u))(hlf:aU dm (aC j) Rf)
  (hg:gs[j]?=some g) (hpr:(J.fo r).Perm (g.fo++rest)) (hoth:∀(m:Nat) (gm:GA),m≠j->gs[m]?=some gm->∀b∈gm.fo,b∈F)
  (T:gL cx Z J F w (aL Z r R') fZ G w' (jG r lw) (jG r lh)) (hblk:∀b∈Ow.blk fZ R' r,(∃o,aK J R r=some (b,o))\/b∈bX.fo (aC j)\/b∈rest) (hG:∀b∈G,b∈Ff):ug Z J is gs dm bX Ff (aL Z r R') fZ G:=by
 have hK:=H.roots r R hr
 have Bl:=hK.nd
 rw[iN,rJ]at Bl
 have xB:=dA.1 (hpr.nodup Bl.2)
 have NB:∀{q:Nat} {Q:Root} {b:Nat},aU Z q Q->b∈Ow.blk J Q q->b∉g.fo->∀(m:Nat) (gm:GA),gs[m]?=some gm->b∉gm.fo:=by
  intro q Q b hq hb hno m gm hm oH
  by_cases e:m=j
  ·subst e
   rw[hg]at hm
   simp only[aa]at hm
   subst hm
   exact hno oH
  ·exact H.dM q Q hq b hb (hoth m gm e hm b oH)
 refine⟨λq Q b hq hb=>?_,hG⟩
 by_cases e:q=r
 ·subst e
  obtain⟨rfl,_⟩:=nE hq
  rcases hblk b hb with⟨o,h⟩|h|h
  ·have hbb:b∈Ow.blk J R q:=by rw[iN,kW];exact .inl ⟨o,h⟩
   exact .inr (.inl ⟨R,hr,hbb,NB hr hbb (λh'=>Bl.1 b o h (hpr.mem_iff.2 (bP _ h')))⟩)
  ·exact .inr (.inr ⟨j,i,Rf,u,hi,hw,hlf,bD _ h⟩)
  ·have hbb:b∈Ow.blk J R q:=bD _ (hpr.mem_iff.2 (bD _ h))
   exact .inr (.inl ⟨R,hr,hbb,NB hr hbb (λh'=>xB.2.2 b h' b h rfl)⟩)
 ·have hq':=(PN e).1 hq
  obtain⟨Q2,g1,g2⟩:=T.old q Q hq'.1
  have hS:Same Z J (aL Z r R') fZ q:=by
   refine jI λhns=>?_
   rw[jf Z R' e,hq'.1]at g1
   simp only[aa]at g1
   subst g1
   rcases g2 with⟨h1,_⟩|⟨_,h2⟩
   ·rw[hq'.2]at h1;simp at h1
   ·rcases h2.2.2.2.2.2.2 with h3|⟨_,_,h3⟩
    ·rw[rM _ e,rM _ e]at h3;simp at h3
    ·exact hns h3
  rw[hS.blk]at hb
  refine .inr (.inl ⟨Q,hq',hb,NB hq' hb (λh'=>?_)⟩)
  exact H.jc r R q Q hr hq' (Ne.symm e) b (bD _ (hpr.mem_iff.2 (bP _ h'))) hb
theorem aok:∀(p:List Stp) {k:K} {x:El k} {t z:Dat},bM p k x->bJ p k x t=some z->aA p z.1 z.2=some t/\bM p z.1 z.2/\az p z.1=az p k:=by
 intro p
 induction p with
 |nil=>
  intro k x t z _ hz
  simp only[bJ,aa]at hz
  subst hz
  exact⟨rfl,trivial,rfl⟩
 |cons s p ih=>
  intro k x t z hp hz
  cases s with
  |aP n=>
   cases k with
   |st c=>
    simp only[bJ]at hz
    simp only[bM]at hp
    cases hg:aM n c x with
    |none=>rw[hg]at hz;simp at hz
    |some s=>
     rw[hg]at hz hp
     simp only at hz hp
     cases hs:bJ p s.1 s.2 t with
     |none=>rw[hs]at hz;simp at hz
     |some u=>
      rw[hs]at hz
      simp only at hz
      cases hcp:dh n c x u with
      |none=>rw[hcp]at hz;simp at hz
      |some y=>
       rw[hcp]at hz
       simp only[aa]at hz
       subst hz
       obtain⟨h1,h2,h3⟩:=ih hp hs
       have hg2:=Dn n hcp
       refine⟨?_,?_,?_⟩
       ·show aA (.aP n :: p) (.st y.1) y.2=some t
        simp only[aA,hg2]
        exact h1
       ·show bM (.aP n :: p) (.st y.1) y.2
        simp only[bM,hg2]
        exact h2
       ·show az (.aP n :: p) (.st y.1)=_
        simp only[az,jK n hg2,jK n hg]
        exact h3
   |_=>exact hp.elim
  |idx i=>
   cases k with
   |sl e k=>
    simp only[bJ]at hz
    obtain⟨hp0,hp1,hp2⟩:=hp
    cases hs:bJ p k ((show List (El k)from x).getD i.toNat k.zero) t with
    |none=>rw[hs]at hz;simp at hz
    |some u=>
     rw[hs]at hz
     simp only at hz
     cases hc:bR u.1 k u.2 with
     |none=>rw[hc]at hz;simp at hz
     |some y=>
      rw[hc]at hz
      simp only[aa]at hz
      subst hz
      obtain⟨ek,ey⟩:=iw hc
      obtain⟨uk,ux⟩:=u
      simp only at ek
      subst ek
      simp only at ey
      subst ey
      obtain⟨h1,h2,h3⟩:=ih hp2 hs
      have hlt:i.toNat < @List.length (El uk) x:=by
       have:i<((@List.length (El uk) x:Nat):Int):=hp1
       omega
      have hgd:(show List (El uk)from(show List (El uk)from x).set i.toNat y).getD i.toNat uk.zero=y:=by
       have hl2:i.toNat<(@List.set (El uk) x i.toNat y).length:=by rw[List.length_set];exact hlt
       exact(mM hl2).trans (List.getElem_set_self hl2)
      refine⟨?_,⟨hp0,?_,?_⟩,?_⟩
      ·simp only[aA]
       rw[hgd]
       exact h1
      ·have:i<((@List.length (El uk) x:Nat):Int):=hp1
       simpa using this
      ·rw[hgd]
       exact h2
      ·rfl
   |_=>exact hp.elim
theorem adY(H:Rel cx Z J F a w)(hJ:qY cx Z J F a w ps c vs is gs)(ho:tK is=true){dm:St}{bX:aF}{Ff:List Nat}{af:Act}(Hf:Rel (iB cx Z J F w ps c is gs) dm bX Ff af w')
  {c':Cont (gF ps)} {ws:List Wr} (hB:mY false Z ps is c' ws) (hO:m_ dm ps 0 c') {G:List Nat} (hG:∀b∈G,b∈Ff) (hGn:G.Nodup) :
  ∃fZ,Rel cx (aB ws Z) fZ G a w'/\ug Z J is gs dm bX Ff (aB ws Z) fZ G/\(aB ws Z).slots=Z.slots/\(∀q,Z.roots q=none->(aB ws Z).roots q=none)/\(∀t,pO Z t->pO (aB ws Z) t)/\(ws=[]\/∃r R,ws=[.r r (some R)])/\
   ∀(j:Nat) (i:aQ) (r:Nat) (q:List Stp) (wt ht:List TypeId),iZ∉ht->is[j]?=some i->i.wb=some (r,q,wt,ht)->∃Rf R' R,dm.roots (aC j)=some Rf/\cz dm Rf/\Rf.g=0/\ws=[.r r (some R')]/\Z.roots r=some R/\bM q R'.k R'.x/\(∀t∈az q R'.k,ah t R'.own=true)/\aA q R'.k R'.x=some ⟨Rf.k,Rf.x⟩/\
    (cz (aB ws Z) R'->∃wh,aN (hp w') q R'.k (fZ.hdr r) (aK fZ R' r)=some (bX.hdr (aC j),wh)):=by
 obtain⟨lv,li,lg,hat⟩:=hJ.at (i0:=0)
 simp only[jN]at hat
 obtain⟨f1,f2,f3,f4,f5,f6⟩:=Hf.frame
 have hgj:∀{j:Nat} {g:GA},gs[j]?=some g->∃p cj v i,ps[j]?=some p/\vs[j]?=some v/\is[j]?=some i/\qz cx Z J F a w p cj v i g:=by
  intro j g hg
  have hj:j<ps.length:=by have:=(nL.1 hg).1;omega
  obtain⟨cj,v,i,g',e1,e2,e3,e4,_⟩:=hat j ps[j] (gK hj)
  rw[hg]at e3
  simp only[aa]at e3
  subst e3
  exact⟨ps[j],cj,v,i,gK hj,e1,e2,e4⟩
 have nT:∀b,b<w.heap.size->hp w' b≠hp w b->∃(j:Nat) (g:GA),gs[j]?=some g/\b∈fT g/\(g.ow=true\/g.wb=true):=by
  intro b hb hne
  refine jI λhno=>hne (f5 b hb λj pi hj hbl=>?_)
  obtain⟨g,p,cj,v,i,e1,e2,e3,e4,e5,rfl⟩:=vF H hJ hj
  exact hno ⟨j,g,e1,hbl,e5⟩
 have jE:∀b∈Ff,b<w'.heap.size/\(w.heap.size<=b\/∃(j:Nat) (g:GA),gs[j]?=some g/\b∈fT g/\(g.ow=true\/g.wb=true)):=by
  intro b hb
  obtain⟨h1,h2⟩:=Hf.fl b hb
  refine⟨h1,h2.imp id ?_⟩
  rintro⟨j,pi,h3,h4⟩
  obtain⟨g,p,cj,v,i,e1,e2,e3,e4,e5,rfl⟩:=vF H hJ h3
  exact⟨j,g,e1,h4,e5⟩
 have hal:∀(m:Nat) (p:aH) (i:aQ),ps[m]?=some p->is[m]?=some i->(∀k ow wt ht,p≠.rw k ow wt ht)->(∀k ow wt,p≠.dH k ow wt)->i.wb=none:=by
  intro m p i hp hi h1 h2
  obtain⟨cj,v,i',g,e1,e2,e3,e4,_⟩:=hat m p hp
  rw[hi]at e2
  simp only[aa]at e2
  subst e2
  obtain⟨_,e4⟩:=e4
  cases p with
  |val k bB=>exact e4.2.2.1
  |ro k=>exact e4.2.2.1
  |own k ow=>exact e4.2.2.1
  |fn f ks=>exact e4.2.2.1
  |rw k ow wt ht=>exact absurd rfl (h1 k ow wt ht)
  |dH k ow wt=>exact absurd rfl (h2 k ow wt)
  |into j q=>exact e4.2.2.1
 have Bw:∀{m:Nat} {g:GA} {i:aQ},gs[m]?=some g->is[m]?=some i->i.wb=none->g.wb=false:=by
  intro m g i hg hi hn
  obtain⟨p,cj,v,i',e1,e2,e3,e4⟩:=hgj hg
  rw[hi]at e3
  simp only[aa]at e3
  subst e3
  cases hw:g.wb with
  |false=>rfl
  |true=>exact absurd hn ((oG H e4).2.2.2.1 hw)
 have zu:∀{m:Nat} {g:GA} {b:Nat},gs[m]?=some g->g.wb=false->b∈fT g->b∈F:=by
  intro m g b hg hw hb
  obtain⟨p,cj,v,i,e1,e2,e3,e4⟩:=hgj hg
  rcases(oG H e4).1 b hb with⟨_,h⟩|⟨h,_⟩
  ·exact h
  ·rw[hw]at h;simp at h
 rcases adX (j0:=0) ho hal hB hO with⟨rfl,hnone⟩|⟨j,i,k,x,ow,wt,ht,r,p,R,z,iJ,ht',e1,e2,e3,e4,e5,e6,e7⟩
 ·
  have hnw:∀{m:Nat} {g:GA},gs[m]?=some g->g.wb=false:=by
   intro m g hg
   obtain⟨p,cj,v,i,g1,g2,g3,g4⟩:=hgj hg
   exact Bw hg g3 (hnone i (pX g3))
  have T:=BO (w':=w') (F':=G) H ⟨f1,f2,f3⟩ f4 (λb hb hne=>by obtain⟨j,g,h1,h2,_⟩:=nT b hb hne;exact zu h1 (hnw h1) h2)
   (λb hb=>by
    obtain⟨h1,h2⟩:=jE b (hG b hb)
    rcases h2 with h2|⟨j,g,h3,h4,_⟩
    ·exact .inr ⟨h2,h1⟩
    ·exact .inl (zu h3 (hnw h3) h4)) hGn
  refine⟨J,H.mem T,⟨λq Q b hq hb=>.inr (.inl ⟨Q,hq,hb,λm g hg hbg=>?_⟩),hG⟩,rfl,λq h=>h,λt h=>h,.inl rfl,λj i r q wt ht _ hi hw=>by rw[hnone i (pX hi)]at hw;simp at hw⟩
  exact H.dM q Q hq b hb (zu hg (hnw hg) (bD _ hbg))
 ·
  have hj:j<ps.length:=by rcases e7 with⟨h,_⟩|⟨h,_⟩<;>exact(nL.1 h).1
  obtain⟨g,hg⟩:∃g,gs[j]?=some g:=⟨gs[j]'(by omega),gK _⟩
  obtain⟨p0,cj,v,i',g1,g2,g3,g4⟩:=hgj hg
  rw[e1]at g3
  simp only[aa]at g3
  subst g3
  obtain⟨cj2,v2,i2,gg2,a1,a2,a3,a4,a5,a6⟩:=hat j p0 g1
  obtain⟨x0,wh,rest,hP,lX,hOw,hfo,hgn,hpr,fM,hwf,hgo,hbase,hps,hwt,hht,hR0⟩:∃(x0:El k) (wh:Option (Nat×Nat)) (rest:List Nat),wQ cx Z J w k x0 ow i iJ ht' r R p/\aN (hp w) p R.k (J.hdr r) (aK J R r)=some (g.cs,wh)/\Ow (hp w) R.own (aO cx Z J F w R.tags) k x0 g.cs g.fo/\(∀b∈g.fo,b∈J.fo r)/\g.fo.Nodup/\
    (J.fo r).Perm (g.fo++rest)/\(∀b o,wh=some (b,o)->b∈rest\/∃o0,aK J R r=some (b,o0)/\o0<=o/\o+k.size<=o0+R.k.size)/\(∀b o,wh=some (b,o)->b∉g.fo)/\
    (∀{t z:Dat} {tags':List Tag} {lw lh:List TypeId} {kp:Bool} {ft F':List Nat} {cs':List Value} {w':World},yJ cx Z J F w r R p ⟨k,x0⟩ R.own g.cs wh g.fo rest t z tags' lw lh kp ft F' cs' w'->
     ∃J',Rel cx (aL Z r (fV R z R.own tags' lw lh kp)) J' F' a w'/\gL cx Z J F w (aL Z r (fV R z R.own tags' lw lh kp)) J' F' w' (jG r lw) (jG r lh)/\(∀b∈Ow.blk J' (fV R z R.own tags' lw lh kp) r,(∃o,aK J R r=some (b,o))\/b∈ft\/b∈rest)/\
      (iZ∉lh->cz (aL Z r (fV R z R.own tags' lw lh kp)) (fV R z R.own tags' lw lh kp)->aN (hp w') p z.1 (J'.hdr r) (aK J' (fV R z R.own tags' lw lh kp) r)=some (cs',wh))/\∀b∈ft,b∈J'.fo r)/\
    ((∃b o,wh=some (b,o)/\g.base=some (b,o))\/(g.base=none/\VC k g.v g.cs))/\(n_ p0=k.size\/g.base=none)/\(iJ=wt)/\(ht'=ht)/\
    (∃R0,iY (jd ps 0 c) (aC j)=some R0/\R0.k=k/\HEq R0.x x0/\R0.own=ow):=by
   have h4:qz cx Z J F a w p0 cj2 v2 i2 gg2:=a4
   rw[hg]at a3
   simp only[aa]at a3
   subst a3
   rw[e1]at a2
   simp only[aa]at a2
   subst a2
   rcases e7 with⟨h,_⟩|⟨h,ahj,_⟩
   ·rw[g1]at h
    simp only[aa]at h
    subst h
    obtain⟨hv0,h1,h2,r1,R1,q1,b,o,h3,h4',h5,h6,h7,h8,h9,h10,h11,rest,h12,Ba,Bb,Bc⟩:=h4
    have hwb:=h3.wb
    rw[e2]at hwb
    simp only[aa,bK]at hwb
    obtain⟨rfl,rfl,rfl,rfl⟩:=hwb
    have hRR:R1=R:=by have:=h3.lv.1;rw[e3]at this;simpa using this.symm
    subst hRR
    refine⟨cj2.1,some (b,o),rest,h3,h5,h8,h9,h10,h12,Ba,Bb,Bc,.inl ⟨b,o,rfl,h7⟩,.inl rfl,rfl,rfl,?_⟩
    rw[a6]
    exact⟨_,rfl,rfl,HEq.rfl,rfl⟩
   ·rw[g1]at h
    simp only[aa]at h
    subst h
    obtain⟨hv0,h1,h2,r1,R1,q1,wh,h3,h4',h5,h6,h7,h8,h9,h10,rest,h12,Ba,Bb,Bc⟩:=h4
    have hwb:=h3.wb
    rw[e2]at hwb
    simp only[aa,bK]at hwb
    obtain⟨rfl,rfl,rfl,rfl⟩:=hwb
    have hRR:R1=R:=by have:=h3.lv.1;rw[e3]at this;simpa using this.symm
    subst hRR
    refine⟨cj2.1,wh,rest,h3,h5,h8,h9,h10,h12,Ba,Bb,Bc,.inr ⟨h7,hv0▸h6⟩,.inr h7,rfl,ahj.symm,?_⟩
    rw[a6]
    exact⟨_,rfl,rfl,HEq.rfl,rfl⟩
  subst hwt
  subst hht
  rw[jN]at e5
  obtain⟨lw,ahu,ahv,ahw,hws⟩:∃lw:List TypeId,(∀e∈iJ,e∈lw)/\lw≠[]/\(g.base≠none->fU R p∈lw)/\ws=[.r r (some (fV R z R.own R.tags lw ht' R.keep))]:=by
   rcases e7 with⟨h,hw⟩|⟨h,hh,hw⟩
   ·exact⟨fU R p :: iJ,λe he=>by simp[he],by simp,λ_=>by simp,hw⟩
   ·refine⟨SENT :: (k.tys++iJ),λe he=>by simp[he],by simp,λhb=>?_,by rw[hw,hh];rfl⟩
    rw[g1]at h
    simp only[aa]at h
    subst h
    exact absurd (g4.2.2.2 |> λ⟨_,_,_,_,_,_,_,_,hb,_⟩=>hb) hb
  subst hws
  obtain⟨Rf,uK,vT,⟨ek,ex⟩,Bg,kC,oK⟩:=e5
  have hlf:aU dm (aC j) Rf:=⟨uK,vT.1⟩
  subst ek
  simp only at ex
  subst ex
  have Kf:=Hf.roots (aC j) Rf hlf
  have hgw:g.wb=true:=(oG H g4).2.2.2.2 (by rw[e2];simp)
  have xC:(iB cx Z J F w ps c is gs).par j=some ⟨g.base.map λq=>(q.1,q.2,n_ p0),fT g,g.wb⟩:=by
   simp only[iB]
   rw[hg,g1]
   simp[hgw]
  unfold zI at kC
  simp only[bg,Cj]at kC
  obtain⟨⟨⟨⟨l1,l2⟩,l3⟩,l4⟩,l5⟩:=kC
  have hg0:Rf.g=0:=a_ l5
  have hkind:aK bX Rf (aC j)=g.base/\(g.base=none->bX.hdr (aC j)=g.cs):=by
   rcases hbase with⟨b,o,_,hb⟩|⟨hb,hV⟩
   ·obtain⟨Q,hQ,hk,hl,_⟩:=Hf.jT j _ b o (n_ p0) xC (by simp[hb])
    have hQR:Q=Rf:=by have:=hQ.1;rw[uK]at this;simpa using this.symm
    subst hQR
    refine⟨?_,λh=>by rw[hb]at h;simp at h⟩
    unfold aK
    rw[hk,hl,hb]
   ·have hrf:=(Hf.sW j g.v ⟨g,hg,rfl,hb,hgw⟩).2 Rf hlf hg0
    refine⟨by unfold aK;rw[hrf.1,hb],λ_=>?_⟩
    have h1:=hrf.2.cells
    have h2:=hV.cells
    rw[<-h1,h2]
  obtain⟨IP,VE⟩:=hkind
  have VA:Ow.blk bX Rf (aC j)=(match g.base with|some q=>[q.1] | none=>[])++bX.fo (aC j):=by
   unfold Ow.blk
   rw[IP]
   cases g.base<;>rfl
  have D6:(bX.fo (aC j)).Nodup:=(dA.1 (VA▸Kf.nd)).2.1
  have ahr:(bX.hdr (aC j)).length=Rf.k.size:=Kf.len
  have hK:=H.roots r R hP.lv
  have Bl:=hK.nd
  rw[iN,rJ]at Bl
  have VO:∀b,b∈J.fo r↔b∈g.fo\/b∈rest:=λb=>by rw[hpr.mem_iff,cZ]
  have xB:=dA.1 (hpr.nodup Bl.2)
  have hcells:∀b o,wh=some (b,o)->Cells (hp w') b o (bX.hdr (aC j))/\j_ (hp w) (hp w') b o Rf.k.size:=by
   intro b o hw
   obtain⟨m1,_,m2,⟨arr,e,lo,hi,m3,m4,m5,m6⟩,_⟩:=tQ H hP.lv hP.vl hP.get hP.pin hP.own (by rw[lX,hw])
   rcases hbase with⟨b',o',hw',hb⟩|⟨hb,_⟩
   ·rw[hw]at hw'
    simp only[aa,bK]at hw'
    obtain⟨rfl,rfl⟩:=hw'
    have hm:=Kf.mem b o (by rw[IP,hb])
    have hsz:n_ p0=Rf.k.size:=by
     rcases hps with h|h
     ·exact h
     ·rw[hb]at h;simp at h
    have:=f6 j _ b o (n_ p0) xC (by simp[hb])
    rw[hsz]at this
    exact⟨hm.1,this⟩
   ·have hlt:=(hK.mine b m2).1
    have hsame:hp w' b=hp w b:=by
     refine jI λhne=>?_
     obtain⟨m,gm,h1,h2,h3⟩:=nT b hlt hne
     by_cases e:m=j
     ·subst e
      rw[hg]at h1
      simp only[aa]at h1
      subst h1
      unfold fT at h2
      rw[hb]at h2
      exact hwf b o hw (by simpa using h2)
     ·have hgm:gm.wb=false:=by
       obtain⟨pm,cm,vm,im,k1,k2,k3,k4⟩:=hgj h1
       exact Bw h1 k3 (e6 m im e k3)
      exact H.dM r R hP.lv b m2 (zu h1 hgm h2)
    rw[VE hb]
    exact⟨m1.congr hsame,j_.of_same _ _ m3 hsame⟩
  have hwho:∀b,(w.heap.size<=b\/∃(j:Nat) (g:GA),gs[j]?=some g/\b∈fT g/\(g.ow=true\/g.wb=true))->(∀o,g.base≠some (b,o))->b<w'.heap.size->b∈g.fo\/b∈F\/(w.heap.size<=b/\b<w'.heap.size):=by
   intro b hb hnb hlt
   rcases hb with hb|⟨m,gm,h1,h2,h3⟩
   ·exact .inr (.inr ⟨hb,hlt⟩)
   ·by_cases e:m=j
    ·subst e
     rw[hg]at h1
     simp only[aa]at h1
     subst h1
     unfold fT at h2
     cases hbb:g.base with
     |none=>rw[hbb]at h2;exact .inl (by simpa using h2)
     |some q=>
      rw[hbb]at h2
      simp only[iR,jq,bH]at h2
      rcases h2 with h2|h2
      ·exact absurd (by rw[hbb,h2]) (hnb q.2)
      ·exact .inl h2
    ·have hgm:gm.wb=false:=by
      obtain⟨pm,cm,vm,im,k1,k2,k3,k4⟩:=hgj h1
      exact Bw h1 k3 (e6 m im e k3)
     exact .inr (.inl (zu h1 hgm h2))
  have zi:∀b∈g.fo,b∈fT g:=λb hb=>bD _ hb
  have Nz:∀b∈g.fo,¬kV (iB cx Z J F w ps c is gs) b:=by
   rintro b hb ⟨m,pi,o,n,h1,h2⟩
   obtain⟨gm,pm,cm,vm,im,k1,k2,k3,k4,k5,rfl⟩:=vF H hJ h1
   simp only at h2
   cases oH:gm.base with
   |none=>rw[oH]at h2;simp at h2
   |some q=>
    rw[oH]at h2
    simp only[gz,aa,bK]at h2
    have VR:gm.wb=true:=by
     obtain⟨_,_,_,_,_,_,_,hw,_⟩:=(oG H k4).2.1 q.1 q.2 (by rw[oH])
     exact(oG H k4).2.2.2.2 (by rw[hw];simp)
    by_cases e:m=j
    ·subst e
     rw[hg]at k1
     simp only[aa]at k1
     subst k1
     rcases hbase with⟨b',o',hw',hb'⟩|⟨hb',_⟩
     ·rw[oH]at hb'
      simp only[aa]at hb'
      subst hb'
      exact hwf b' o' hw' (by have:=h2.1;simp only at this;rw[this];exact hb)
     ·rw[oH]at hb';simp at hb'
    ·have:=Bw k1 k3 (e6 m im e k3)
     rw[this]at VR
     simp at VR
  have hkb:∀b∈g.fo,(∃e∈lw,h_ (hp w) b=some e)\/(hp w' b=hp w b/\b∉Ff/\∀q Q,aU dm q Q->b∈Ow.blk bX Q q->q=aC j):=by
   intro b hb
   obtain⟨R2,h1,h2⟩:=Hf.rG j _ xC (by simp[hgw])
   rw[uK]at h1
   simp only[aa]at h1
   subst h1
   rcases h2 vT.1 b (zi b hb) (Nz b hb)with⟨e,h3,h4⟩|h
   ·refine .inl ⟨e,ahu e ?_,h3⟩
    rcases h4 with h4|h4
    ·exact l1 e h4
    ·exact l2 e h4
   ·exact .inr h
  have agL:∀b∈bX.fo (aC j),∀o,g.base≠some (b,o):=by
   intro b hb o hbb
   have:=VA▸Kf.nd
   rw[hbb]at this
   simp only[iR,jq]at this
   exact(jB.1 this).1 hb
  have agm:∀b∈Ff,∀o,g.base≠some (b,o):=λb hb o hbb=>yh Hf hb ⟨j,_,o,n_ p0,xC,by simp[hbb]⟩
  have hoth:∀(m:Nat) (gm:GA),m≠j->gs[m]?=some gm->∀b∈gm.fo,b∈F:=by
   intro m gm e hm b hb
   obtain⟨pm,cm,vm,im,k1,k2,k3,k4⟩:=hgj hm
   exact zu hm (Bw hm k3 (e6 m im e k3)) (bD _ hb)
  have hPT:yJ cx Z J F w r R p ⟨Rf.k,x0⟩ R.own g.cs wh g.fo rest ⟨Rf.k,Rf.x⟩ z R.tags lw ht' R.keep (bX.fo (aC j)) G (bX.hdr (aC j)) w':=by
   refine⟨e4,rfl,λ_ h=>h,⟨f1,f2,f3⟩,f4,?_,hcells,?_,ahr,.inl ahv,⟨λ_ h=>h,(H.fu r R e3).1,(H.fu r R e3).2.2⟩,?_,D6,?_,hGn,?_,.inl rfl,.inl rfl,?_,?_⟩
   ·intro b hb hne
    obtain⟨m,gm,h1,h2,h3⟩:=nT b hb hne
    by_cases e:m=j
    ·subst e
     rw[hg]at h1
     simp only[aa]at h1
     subst h1
     unfold fT at h2
     rcases cZ.1 h2 with h2|h2
     ·cases hbb:g.base with
      |none=>rw[hbb]at h2;simp at h2
      |some q=>
       rw[hbb]at h2
       simp only[gW]at h2
       rcases hbase with⟨b',o',hw',hb'⟩|⟨hb',_⟩
       ·rw[hbb]at hb'
        simp only[aa]at hb'
        subst hb'
        simp only at h2
        exact .inr (.inr ⟨o',by rw[h2];exact hw',ahw (by rw[hbb];simp)⟩)
       ·rw[hbb]at hb';simp at hb'
     ·rcases hkb b h2 with h|h
      ·exact .inr (.inl ⟨h2,h⟩)
      ·exact absurd h.1 hne
    ·have hgm:gm.wb=false:=by
      obtain⟨pm,cm,vm,im,k1,k2,k3,k4⟩:=hgj h1
      exact Bw h1 k3 (e6 m im e k3)
     exact .inl (zu h1 hgm h2)
   ·intro hw
    rcases hbase with⟨b',o',hw',_⟩|⟨hb',_⟩
    ·rw[hw]at hw';simp at hw'
    ·exact VE hb'
   ·intro b hb
    have hbl:b∈Ow.blk bX Rf (aC j):=bD _ hb
    obtain⟨m1,m2⟩:=Kf.mine b hbl
    refine hwho b (m2.imp id ?_) (agL b hb) m1
    rintro⟨m,pi,h3,h4⟩
    obtain⟨gm,pm,cm,vm,im,k1,k2,k3,k4,k5,rfl⟩:=vF H hJ h3
    exact⟨m,gm,k1,h4,k5⟩
   ·intro b hb
    obtain⟨m1,m2⟩:=jE b (hG b hb)
    rcases hwho b m2 (agm b (hG b hb)) m1 with h|h|h
    ·rcases hkb b h with h'|h'
     ·exact .inr (.inr ⟨h,h'⟩)
     ·exact absurd (hG b hb) h'.2.1
    ·exact .inl h
    ·exact .inr (.inl h)
   ·intro b hb Nf
    exact Hf.dM (aC j) Rf hlf b (bD _ hb) (hG b Nf)
   ·intro ahh q c0 w0 b_ qM hnq _
    by_cases hpt:az q Rf.k=[]
    ·exact Fe (own:=R.own) q b_ (λt ht=>by rw[hpt]at ht;simp at ht) hnq
    ·obtain⟨hany,b,o,hw0⟩:=P9 _ q hpt hnq
     subst hw0
     have hq:q≠[]:=λe=>hpt (by rw[e];simp[az])
     have ahI:iD q Rf.k=iZ :: az q Rf.k:=by
      cases q with
      |nil=>exact absurd rfl hq
      |cons s q=>rfl
     have hto:∀t∈az q Rf.k,ah t ow=true:=λt ht=>by
      have h1:=dX.1 hP.just t (xO q t ht)
      have h2:=(qM t ht).1
      have h1':ah t R.own=ah t ow:=by simpa using h1
      rw[<-h1',h2]
     obtain⟨R0,r1,r2,r3,r4⟩:=hR0
     have rD:(iB cx Z J F w ps c is gs).ptrs j q (iD q Rf.k) (.pointer (some ⟨b,o,none⟩)):=by
      refine⟨g,R0,c0,b,o,hg,hgw,r1,by rw[r2],λt ht=>by rw[r4];exact hto t (r2▸ht),?_,?_,rfl⟩
      ·obtain⟨G_,Tx,_,_,_,_,_,_,_,_,_,_⟩:=R0
       simp only at r2 r3
       subst r2
       rw[eq_of_heq r3]
       exact b_
      ·rw[r2];exact hany _
     obtain⟨_,R2,h1,h2⟩:=Hf.sV j q _ _ rD
     rw[uK]at h1
     simp only[aa]at h1
     subst h1
     have hno:∀t∈ht',t∉iD q Rf.k:=by
      intro t ht hm
      rw[ahI]at hm
      rcases bH.1 hm with h|h
      ·exact ahh (h▸ht)
      ·exact(qM t h).2 ht
     obtain⟨q1,cs,b',o',q2,q3⟩:=(h2 (λt ht hm=>hno t (l4 t hm) ht)).2 Rf uK vT (by
       unfold clean
       rw[dX]
       intro t ht
       have:t∈Rf.h:=Li ht
       simp only[jU,gq]
       exact hno t (l3 t this))
      (λt ht=>by
       have h1:=dX.1 Bg t (xO q t ht)
       have h1':ah t Rf.own=ah t ow:=by simpa using h1
       rw[h1']
       exact hto t ht)
      (by rw[zb q (y:=x0)];exact Tu q b_)
     simp only[Value.pointer.injEq,aa,oP,dZ]at q3
     obtain⟨rfl,rfl⟩:=q3
     exact⟨q1,cs,(P9 _ q hpt q2).1 _⟩
   ·intro J' Tn hblk _
    have Vm:=Kf.ow vT
    have hsame:∀t∈Rf.k.tys,ah t R.own=ah t Rf.own:=λt ht=>by
     have h1:=dX.1 hP.just t ht
     have h2:=dX.1 Bg t ht
     have h1':ah t R.own=ah t ow:=by simpa using h1
     have h2':ah t Rf.own=ah t ow:=by simpa using h2
     rw[h1',h2']
    refine q8 hsame ?_
    rcases oK with hall|oK
    ·refine lq (om (λt ht=>?_)) Vm
     have h2:=dX.1 Bg t ht
     have h2':ah t Rf.own=ah t ow:=by simpa using h2
     rw[h2']
     exact mQ hall t ht
    ·refine dK (λ_ _=>rfl) (λb hb=>?_) (λ_ _=>rfl) Vm
     refine Fu H hJ Hf (Ud H hP.lv e1 e2 hlf hg hpr hoth Tn hblk hG) (λj' n hn i' hi' t ht=>?_) (λm n hn=>?_) hb
     ·have h1:=dX.1 oK _ hn
      simp only[sU,fJ]at h1
      have h2:gB j' / 4=j':=by unfold gB;omega
      rw[h2,fA,gW]at h1
      subst h1
      rw[e1]at hi'
      simp only[aa]at hi'
      subst hi'
      rw[hP.ids]at ht
      exact⟨t.2,ht⟩
     ·have h1:=dX.1 oK _ hn
      have h2:Nat.beq (aC m%4) 0=true:=by unfold aC;simp
      simp only[En,jr,h2,fJ]at h1
      simp[ah]at h1
  obtain⟨fZ,hR2,M_,hb2,NC,_⟩:=hgo hPT
  refine⟨fZ,hR2,Ud H hP.lv e1 e2 hlf hg hpr hoth M_ hb2 hG,rfl,λq hq=>?_,λt ht=>M_.tag ht,.inr ⟨_,_,rfl⟩,λj' i' r' q' uT ht0 ahi hi' hw'=>?_⟩
  rotate_left
  ·have ej:j'=j:=by
    refine jI λhne=>?_
    rw[e6 j' i' hne hi']at hw'
    simp at hw'
   subst ej
   rw[e1]at hi'
   simp only[aa]at hi'
   subst hi'
   rw[e2]at hw'
   simp only[aa,bK]at hw'
   obtain⟨rfl,rfl,rfl,rfl⟩:=hw'
   obtain⟨s1,s2,s3⟩:=aok p hP.pin e4
   exact⟨Rf,_,R,uK,vT,hg0,rfl,e3,s2,λt ht=>hP.own t (by rw[<-s3];exact ht),s1,λhv'=>⟨wh,NC ahi hv'⟩⟩
  have hne:q≠r:=λe=>by rw[e,e3]at hq;simp at hq
  show(aL Z r _).roots q=none
  rw[jf Z _ hne]
  exact hq
end
theorem uO{r:Nat}:∀{is:List aQ} {n m:Nat},fB r is n=some m->∃i q,n<=m/\is[m-n]?=some i/\i.wb=some (r,q):=by
 intro is
 induction is with
 |nil=>intro n m h;simp[fB]at h
 |cons i is ih=>
  intro n m h
  unfold fB at h
  have hrec:fB r is (n+1)=some m->∃i' q,n<=m/\(i :: is)[m-n]?=some i'/\i'.wb=some (r,q):=by
   intro h
   obtain⟨i',q,h1,h2,h3⟩:=ih h
   refine⟨i',q,by omega,?_,h3⟩
   have:m-n=(m-(n+1))+1:=by omega
   rw[this]
   simpa using h2
  cases hw:i.wb with
  |none=>rw[hw]at h;exact hrec h
  |some q=>
   rw[hw]at h
   simp only at h
   cases hb:Nat.beq r q.1 with
   |true=>
    rw[hb]at h
    simp only[fJ,aa]at h
    subst h
    exact⟨i,q.2,bT _,by simp,by rw[hw,a_ hb]⟩
   |false=>rw[hb]at h;exact hrec h
theorem Zt{r:Nat}:∀{is:List aQ} {n:Nat},fB r is n=none->∀i∈is,∀q,i.wb≠some (r,q):=by
 intro is
 induction is with
 |nil=>intro n _ i hi;simp at hi
 |cons i is ih=>
  intro n h i' hi' q he
  unfold fB at h
  rcases bH.1 hi' with h'|h'
  ·subst h'
   rw[he]at h
   simp at h
  ·cases hw:i.wb with
   |none=>rw[hw]at h;exact ih h i' h' q he
   |some q'=>
    rw[hw]at h
    simp only at h
    cases hb:Nat.beq r q'.1 with
    |true=>rw[hb]at h;simp at h
    |false=>rw[hb]at h;exact ih h i' h' q he
def Ap(is:List aQ):Prop:=∀(j j':Nat) (i i':aQ) (r:Nat) (u u':List Stp×List TypeId×List TypeId),is[j]?=some i->is[j']?=some i'->i.wb=some (r,u)->i'.wb=some (r,u')->j=j'
theorem Ap.tail{i:aQ}{is:List aQ}(h:Ap (i :: is)):Ap is:=λj j' i1 i2 r u u' h1 h2 h3 h4=>by
 have:=h (j+1) (j'+1) i1 i2 r u u' (by simpa using h1) (by simpa using h2) h3 h4
 omega
theorem Ap.none{i:aQ}{is:List aQ}(h:Ap (i :: is)){r:Nat}{u:List Stp×List TypeId×List TypeId}(hw:i.wb=some (r,u))(n:Nat):fB r is n=none:=by
 cases hp:fB r is n with
 |none=>rfl
 |some m=>
  obtain⟨i',q,h1,h2,h3⟩:=uO hp
  have:=h 0 (m-n+1) i i' r u q rfl (by simpa using h2) hw h3
  omega
structure zV(gp:Bool)(Z dm:St)(ps:List aH)(is:List aQ)(Z2:St)(j0 q j:Nat):Prop where
 ex:∃(i:aQ) (k:K) (x:El k) (ow wt ht:List TypeId) (p:List Stp) (R:Root) (z:Dat) (iJ ht':List TypeId),j0<=j/\is[j-j0]?=some i/\ps[j-j0]?=some (.rw k ow wt ht)/\i.wb=some (q,p,iJ,ht')/\Z.roots q=some R/\bJ p R.k R.x ⟨k,x⟩=some z/\Da dm k x ow wt ht j/\
  Z2.roots q=some { R with k:=z.1,x:=z.2,w:=(fU R p :: iJ)++R.w,h:=(bif gp then k.tys else [])++(ht'++R.h) }
theorem zV.up{gp:Bool}{Z dm:St}{p:aH}{ps:List aH}{i:aQ}{is:List aQ}{Z2:St}{j0 q j:Nat}(h:zV gp Z dm ps is Z2 (j0+1) q j):zV gp Z dm (p :: ps) (i :: is) Z2 j0 q j:=by
 obtain⟨i',k,x,ow,wt,ht,p',R,z,iJ,ht',h0,h1,h2,h3⟩:=h
 have e:j-j0=(j-(j0+1))+1:=by omega
 exact⟨i',k,x,ow,wt,ht,p',R,z,iJ,ht',by omega,by rw[e];simpa using h1,by rw[e];simpa using h2,h3⟩
theorem adV{gp:Bool}{Z dm:St}:∀{ps:List aH} {is:List aQ} {c:Cont (gF ps)} {ws:List Wr} {j0:Nat} {jH:St},mY gp Z ps is c ws->Ap is->(∀p∈ps,Fq p=true)->m_ dm ps j0 c->
  (∀(m:Nat) (p:aH) (i:aQ),ps[m]?=some p->is[m]?=some i->(∀k ow wt ht,p≠.rw k ow wt ht)->(∀k ow wt,p≠.dH k ow wt)->i.wb=none)->
  (aB ws jH).slots=jH.slots/\(∀q,fB q is j0=none->(aB ws jH).roots q=jH.roots q)/\(∀q j,fB q is j0=some j->zV gp Z dm ps is (aB ws jH) j0 q j)/\
   ∀q R,ws.find? (λw=>w.loc.beq (.r q))=some (.r q (some R))->(aB ws jH).roots q=some R:=by
 intro ps
 induction ps with
 |nil=>
  intro is c ws j0 jH h _ _ _ _
  cases is with
  |nil=>
   have e:ws=[]:=h
   subst e
   exact⟨rfl,λ_ _=>rfl,λq j hq=>by simp[fB]at hq,λq R hf=>by simp at hf⟩
  |cons _ _=>exact h.elim
 |cons p ps ih=>
  intro is c ws j0 jH h hon hnb hO hal
  cases is with
  |nil=>cases p<;>exact h.elim
  |cons i is=>
   have V8:=hon.tail
   have hnb':∀p∈ps,Fq p=true:=λp hp=>hnb p (by simp[hp])
   have Ir:∀(m:Nat) (p:aH) (i:aQ),ps[m]?=some p->is[m]?=some i->(∀k ow wt ht,p≠.rw k ow wt ht)->(∀k ow wt,p≠.dH k ow wt)->i.wb=none:=λm p i hp hi=>hal (m+1) p i (by simpa using hp) (by simpa using hi)
   have D_:∀{c':Cont (gF ps)},i.wb=none->mY gp Z ps is c' ws->m_ dm ps (j0+1) c'->(aB ws jH).slots=jH.slots/\(∀q,fB q (i :: is) j0=none->(aB ws jH).roots q=jH.roots q)/\(∀q j,fB q (i :: is) j0=some j->zV gp Z dm (p :: ps) (i :: is) (aB ws jH) j0 q j)/\
     ∀q R,ws.find? (λw=>w.loc.beq (.r q))=some (.r q (some R))->(aB ws jH).roots q=some R:=by
    intro c' hw hB hO
    obtain⟨g1,g2,g3,g4⟩:=ih (jH:=jH) hB V8 hnb' hO Ir
    have e:∀q,fB q (i :: is) j0=fB q is (j0+1):=λq=>by
     show(match i.wb with|some (r',_)=>bif Nat.beq q r' then some j0 else fB q is (j0+1)|none=>fB q is (j0+1))=_
     rw[hw]
    exact⟨g1,λq hq=>g2 q (by rw[<-e];exact hq),λq j hq=>(g3 q j (by rw[<-e];exact hq)).up,g4⟩
   cases p with
   |rw k ow wt ht=>
    obtain⟨r,p,iJ,ht',R,z,ws',h1,h2,h3,rfl,h5⟩:=h
    obtain⟨o_,hO2⟩:=hO
    obtain⟨g1,g2,g3,g4⟩:=ih (jH:=aL jH r { R with k:=z.1,x:=z.2,w:=(fU R p :: iJ)++R.w,h:=(bif gp then k.tys else [])++(ht'++R.h) }) h5 V8 hnb' hO2 Ir
    have e:∀q,fB q (i :: is) j0=bif Nat.beq q r then some j0 else fB q is (j0+1):=λq=>by
     show(match i.wb with|some (r',_)=>bif Nat.beq q r' then some j0 else fB q is (j0+1)|none=>fB q is (j0+1))=_
     rw[h1]
    have hr:(aB ws' (aL jH r { R with k:=z.1,x:=z.2,w:=(fU R p :: iJ)++R.w,h:=(bif gp then k.tys else [])++(ht'++R.h) })).roots r=some { R with k:=z.1,x:=z.2,w:=(fU R p :: iJ)++R.w,h:=(bif gp then k.tys else [])++(ht'++R.h) }:=
     (g2 r (hon.none h1 _)).trans (fF ..)
    have hne:∀{q:Nat},Nat.beq q r=false->q≠r:=λh e=>by subst e;simp at h
    refine⟨g1,λq hq=>?_,λq j hq=>?_,λq R' hf=>?_⟩
    ·rw[e]at hq
     cases hb:Nat.beq q r with
     |true=>rw[hb]at hq;simp at hq
     |false=>
      rw[hb]at hq
      exact(g2 q hq).trans (jf _ _ (hne hb))
    ·rw[e]at hq
     cases hb:Nat.beq q r with
     |true=>
      rw[hb]at hq
      simp only[fJ,aa]at hq
      subst hq
      have nV:=a_ hb
      subst nV
      exact⟨i,k,c.1,ow,wt,ht,p,R,z,iJ,ht',bT _,by simp,by simp,h1,h2,h3,o_,hr⟩
     |false=>
      rw[hb]at hq
      exact(g3 q j hq).up
    ·simp only[List.find?_cons,Wr.loc,Loc.beq]at hf
     cases hb:Nat.beq r q with
     |true=>
      rw[hb]at hf
      simp only[aa,Wr.r.injEq]at hf
      obtain⟨rfl,rfl⟩:=hf
      exact hr
     |false=>
      rw[hb]at hf
      exact g4 q R' hf
   |dH k ow wt=>have:=hnb _ (jl ..);simp[Fq]at this
   |val k bB=>exact D_ (hal 0 _ i rfl rfl (by simp) (by simp)) h hO
   |ro k=>exact D_ (hal 0 _ i rfl rfl (by simp) (by simp)) h hO
   |own k ow=>exact D_ (hal 0 _ i rfl rfl (by simp) (by simp)) h hO
   |fn f ks=>exact D_ (hal 0 _ i rfl rfl (by simp) (by simp)) h hO
   |into j q=>exact D_ (hal 0 _ i rfl rfl (by simp) (by simp)) h hO
section
variable {P:Program}{T:bF}{cx:Cx}{Z:St}{J:aF}{F:List Nat}{a:Act}{w w':World}{ps:List aH}{c:Cont (kin ps)}{vs:List Value}{is:List aQ}{gs:List GA}
structure wL(cx:Cx)(Z:St)(J:aF)(w:World)(is:List aQ)(gs:List GA)(dm:St)(bX:aF)(Ff:List Nat)(w':World)(Z2:St)(q j:Nat)(g:GA)(R Rf:Root)(b o:Nat)(lw lh:List TypeId):Prop where
 gj:gs[j]?=some g
 gw:g.wb=true
 lr:aU Z q R
 vr:cz Z R
 wh:aK J R q=some (b,o)
 base:g.base=some (b,o)
 fo:∀b'∈g.fo,b'∈J.fo q
 bfo:b∉g.fo
 lf:aU dm (aC j) Rf
 vf:cz dm Rf
 r2:Z2.roots q=some (fV R ⟨Rf.k,Rf.x⟩ R.own R.tags lw lh R.keep)
 sz:R.k=Rf.k
 QX:aK bX Rf (aC j)=some (b,o)
 lw0:lw≠[]
 gap:∀t∈Rf.k.tys,t∈lh
 keep:∀b'∈g.fo,(∃e∈lw,h_ (hp w) b'=some e)\/(hp w' b'=hp w b'/\b'∉Ff/\∀q' Q,aU dm q' Q->b'∈Ow.blk bX Q q'->q'=aC j)
 bty:(∃e∈lw,h_ (hp w) b=some e)\/(kV cx b/\lw≠[])
 own:∀t∈Rf.k.tys,ah t R.own=ah t Rf.own
 tags:(∀t∈Rf.k.tys,ah t Rf.own=true)\/oN [j] [] Rf.tags=true
 ids:∃i u,is[j]?=some i/\i.wb=some (q,u)/\i.ids=R.tags
 same:j_ (hp w) (hp w') b o Rf.k.size
theorem ams(H:Rel cx Z J F a w)(hJ:qY cx Z J F a w ps c vs is gs)(hA:Apart cx Z J F w ps is gs)(hw:QY is=true){dm:St}{bX:aF}{Ff:List Nat}{af:Act}(Hf:Rel (iB cx Z J F w ps c is gs) dm bX Ff af w'){Z2:St}{q j:Nat}(h:zV true Z dm ps is Z2 0 q j) :
  ∃g R Rf b o lw lh,wL cx Z J w is gs dm bX Ff w' Z2 q j g R Rf b o lw lh:=by
 obtain⟨lv,li,lg,hat⟩:=hJ.at (i0:=0)
 simp only[jN]at hat
 obtain⟨f1,f2,f3,f4,f5,f6⟩:=Hf.frame
 obtain⟨i,k,x,ow,wt,ht,p,R,z,iJ,ht',_,e1,e2,e3,e4,e5,e6,e7⟩:=h
 rw[Nat.sub_zero]at e1 e2
 have hp0:p=[]:=by
  have:=dX.1 hw i (pX e1)
  rw[e3]at this
  simpa using this
 subst hp0
 simp only[bJ,aa]at e5
 subst e5
 obtain⟨cj,v,i',g,a1,a2,a3,a4,a5,a6⟩:=hat j _ e2
 rw[e1]at a2
 simp only[aa]at a2
 subst a2
 obtain⟨hv0,h1,h2,r1,R1,q1,b,o,h3,h4',h5,h6,h7,h8,h9,h10,h11,rest,h12,Ba,Bb,Bc⟩:=id a4
 have hwb:=h3.wb
 rw[e3]at hwb
 simp only[aa,bK]at hwb
 obtain⟨rfl,rfl,rfl,rfl⟩:=hwb
 have hRR:R1=R:=by have:=h3.lv.1;rw[e4]at this;simpa using this.symm
 subst hRR
 obtain⟨Rf,uK,vT,⟨ek,ex⟩,Bg,kC,oK⟩:=e6
 have hlf:aU dm (aC j) Rf:=⟨uK,vT.1⟩
 subst ek
 simp only at ex
 subst ex
 have hget:=h3.get
 simp only[aA,aa]at hget
 have hRk:R1.k=Rf.k:=congrArg (λd:Dat=>d.1) hget
 simp only[aN,aa,bK]at h5
 obtain⟨hcs,fM⟩:=h5
 have hgw:g.wb=true:=h2
 have xC:(iB cx Z J F w ps c is gs).par j=some ⟨g.base.map λq=>(q.1,q.2,n_ (.rw Rf.k ow iJ ht')),fT g,g.wb⟩:=by
  simp only[iB]
  rw[a3,e2]
  simp[hgw]
 have Kf:=Hf.roots (aC j) Rf hlf
 unfold zI at kC
 simp only[bg,Cj]at kC
 obtain⟨⟨⟨⟨l1,l2⟩,l3⟩,l4⟩,l5⟩:=kC
 have IP:aK bX Rf (aC j)=some (b,o):=by
  obtain⟨Q,hQ,hk,hl,_⟩:=Hf.jT j _ b o (n_ (.rw Rf.k ow iJ ht')) xC (by simp[h7])
  have hQR:Q=Rf:=by have:=hQ.1;rw[uK]at this;simpa using this.symm
  subst hQR
  unfold aK
  rw[hk,hl]
 have Nz:∀b'∈g.fo,¬kV (iB cx Z J F w ps c is gs) b':=by
  rintro b' hb' ⟨m,pi,o',n,hm,hbs⟩
  obtain⟨gm,pm,cm,vm,im,k1,k2,k3,k4,k5,rfl⟩:=vF H hJ hm
  simp only at hbs
  cases oH:gm.base with
  |none=>rw[oH]at hbs;simp at hbs
  |some u=>
   rw[oH]at hbs
   simp only[gz,aa,bK]at hbs
   obtain⟨rm,Rm,qm,_,_,_,_,w1,w2,w3,_⟩:=(oG H k4).2.1 u.1 u.2 (by rw[oH])
   by_cases e:m=j
   ·subst e
    rw[a3]at k1
    simp only[aa]at k1
    subst k1
    rw[oH]at h7
    simp only[aa]at h7
    exact h11 (by rw[show b=u.1 by rw[h7],hbs.1];exact hb')
   ·by_cases er:rm=q
    ·exact e (hA.one m j im i rm qm _ k3 e1 w1 (by rw[er];exact e3))
    ·exact H.jc rm Rm q R1 w2 h3.lv er u.1 w3 (by rw[hbs.1];exact bD _ (h9 b' hb'))
 refine⟨g,R1,Rf,b,o,fU R1 [] :: iJ,Rf.k.tys++ht',a3,hgw,h3.lv,h3.vl,fM,h7,h9,h11,hlf,vT,by rw[e7];simp[fV],hRk,IP,by simp,λt ht=>bP _ ht,λb' hb'=>?_,?_,λt ht=>?_,?_,⟨i,_,e1,e3,h3.ids⟩,f6 j _ b o _ xC (by rw[h7];rfl)⟩
 ·obtain⟨R2,g1,g2⟩:=Hf.rG j _ xC (by simp[hgw])
  rw[uK]at g1
  simp only[aa]at g1
  subst g1
  rcases g2 vT.1 b' (bD _ hb') (Nz b' hb')with⟨e,g3,g4⟩|g
  ·refine .inl ⟨e,ji _ ?_,g3⟩
   rcases g4 with g4|g4
   ·exact l1 e g4
   ·exact l2 e g4
  ·exact .inr g
 ·obtain⟨_,_,_,⟨arr,e,lo,hi,m3,m4,m5,m6⟩,_⟩:=tQ H h3.lv h3.vl h3.get h3.pin h3.own (cs1:=J.hdr q) (b:=b) (o:=o) (by simp only[aN];rw[fM])
  rcases m6 with⟨m6,_⟩|⟨m6,_⟩
  ·exact .inl ⟨e,by rw[<-m6];simp,by unfold h_;rw[m3]⟩
  ·exact .inr ⟨m6,by simp⟩
 ·have g1:=dX.1 h3.just t ht
  have g2:=dX.1 Bg t ht
  have g1':ah t R1.own=ah t ow:=by simpa using g1
  have g2':ah t Rf.own=ah t ow:=by simpa using g2
  rw[g1',g2']
 ·rcases oK with hall|oK
  ·refine .inl λt ht=>?_
   have g2:=dX.1 Bg t ht
   have g2':ah t Rf.own=ah t ow:=by simpa using g2
   rw[g2']
   exact mQ hall t ht
  ·exact .inr oK
end
section
variable {P:Program}{T:bF}{cx:Cx}{Z:St}{J:aF}{F:List Nat}{a:Act}{w w':World}{ps:List aH}{c:Cont (kin ps)}{vs:List Value}{is:List aQ}{gs:List GA}
def ng(J bX:aF)(is:List aQ):aF where
 loc:=J.loc
 hdr:=λq=>match fB q is 0 with|some j=>bX.hdr (aC j)|none=>J.hdr q
 fo:=λq=>match fB q is 0 with|some j=>bX.fo (aC j)|none=>J.fo q
def vZ(Z Z2:St)(f:Root->List Nat)(q:Nat):List Nat:=match Z.roots q,Z2.roots q with
 |some R,some R2=>(f R2).take ((f R2).length-(f R).length)
 |_,_=>[]
theorem adW(H:Rel cx Z J F a w)(hJ:qY cx Z J F a w ps c vs is gs)(hA:Apart cx Z J F w ps is gs)(hw:QY is=true)(hnb:∀p∈ps,Fq p=true){dm:St}{bX:aF}{Ff:List Nat}{af:Act}(Hf:Rel (iB cx Z J F w ps c is gs) dm bX Ff af w')
  {c':Cont (gF ps)} {ws:List Wr} (hB:mY true Z ps is c' ws) (hO:m_ dm ps 0 c') {G:List Nat} (hG:∀b∈G,b∈Ff) (hGn:G.Nodup) :
  ∃fZ,Rel cx (aB ws Z) fZ G a w'/\ug Z J is gs dm bX Ff (aB ws Z) fZ G/\(aB ws Z).slots=Z.slots/\(∀q,Z.roots q=none->(aB ws Z).roots q=none)/\(∀t,pO Z t->pO (aB ws Z) t)/\
   ∀r R,ws.find? (λw=>w.loc.beq (.r r))=some (.r r (some R))->(aB ws Z).roots r=some R:=by
 obtain⟨lv,li,lg,hat⟩:=hJ.at (i0:=0)
 simp only[jN]at hat
 obtain⟨f1,f2,f3,f4,f5,f6⟩:=Hf.frame
 have hgj:∀{j:Nat} {g:GA},gs[j]?=some g->∃p cj v i,ps[j]?=some p/\vs[j]?=some v/\is[j]?=some i/\qz cx Z J F a w p cj v i g:=by
  intro j g hg
  have hj:j<ps.length:=by have:=(nL.1 hg).1;omega
  obtain⟨cj,v,i,g',e1,e2,e3,e4,_⟩:=hat j ps[j] (gK hj)
  rw[hg]at e3
  simp only[aa]at e3
  subst e3
  exact⟨ps[j],cj,v,i,gK hj,e1,e2,e4⟩
 have nT:∀b,b<w.heap.size->hp w' b≠hp w b->∃(j:Nat) (g:GA),gs[j]?=some g/\b∈fT g/\(g.ow=true\/g.wb=true):=by
  intro b hb hne
  refine jI λhno=>hne (f5 b hb λj pi hj hbl=>?_)
  obtain⟨g,p,cj,v,i,e1,e2,e3,e4,e5,rfl⟩:=vF H hJ hj
  exact hno ⟨j,g,e1,hbl,e5⟩
 have hwho:∀{b:Nat},mine (iB cx Z J F w ps c is gs) w' b->b<w'.heap.size/\(w.heap.size<=b\/∃(j:Nat) (g:GA),gs[j]?=some g/\b∈fT g/\(g.ow=true\/g.wb=true)):=by
  rintro b ⟨h1,h2⟩
  refine⟨h1,h2.imp id ?_⟩
  rintro⟨j,pi,h3,h4⟩
  obtain⟨g,p,cj,v,i,e1,e2,e3,e4,e5,rfl⟩:=vF H hJ h3
  exact⟨j,g,e1,h4,e5⟩
 have hal:∀(m:Nat) (p:aH) (i:aQ),ps[m]?=some p->is[m]?=some i->(∀k ow wt ht,p≠.rw k ow wt ht)->(∀k ow wt,p≠.dH k ow wt)->i.wb=none:=by
  intro m p i hp hi h1 h2
  obtain⟨cj,v,i',g,e1,e2,e3,e4,_⟩:=hat m p hp
  rw[hi]at e2
  simp only[aa]at e2
  subst e2
  obtain⟨_,e4⟩:=e4
  cases p with
  |val k bB=>exact e4.2.2.1
  |ro k=>exact e4.2.2.1
  |own k ow=>exact e4.2.2.1
  |fn f ks=>exact e4.2.2.1
  |rw k ow wt ht=>exact absurd rfl (h1 k ow wt ht)
  |dH k ow wt=>exact absurd rfl (h2 k ow wt)
  |into j q=>exact e4.2.2.1
 obtain⟨hsl,hoth,Nv,hfind⟩:=adV (jH:=Z) hB (λj j' i i' r u u' h1 h2 h3 h4=>hA.one j j' i i' r u u' h1 h2 h3 h4) hnb hO hal
 generalize hs2:aB ws Z=Z2 at *
 have L:∀{q j:Nat},fB q is 0=some j->∃g R Rf b o lw lh,wL cx Z J w is gs dm bX Ff w' Z2 q j g R Rf b o lw lh:=λhq=>ams H hJ hA hw Hf (Nv _ _ hq)
 have hpar:∀{m:Nat} {i:aQ} {q:Nat} {u},is[m]?=some i->i.wb=some (q,u)->fB q is 0=some m:=by
  intro m i q u hi hwb
  cases hp:fB q is 0 with
  |none=>exact absurd hwb (Zt hp i (pX hi) u)
  |some m'=>
   obtain⟨i',u',_,h2,h3⟩:=uO hp
   rw[Nat.sub_zero]at h2
   rw[hA.one m' m i' i q u' u h2 hi h3 hwb]
 have NT:∀{m:Nat} {g:GA} {b:Nat},gs[m]?=some g->b∈fT g->(g.ow=true\/g.wb=true)->b∈F\/∃q R Rf bb o lw lh,fB q is 0=some m/\wL cx Z J w is gs dm bX Ff w' Z2 q m g R Rf bb o lw lh/\(b=bb\/b∈g.fo):=by
  intro m g b hg hb _
  obtain⟨p,cj,v,i,e1,e2,e3,e4⟩:=hgj hg
  rcases(oG H e4).1 b hb with⟨_,h⟩|⟨h,r,R0,u,h1,_,_⟩
  ·exact .inl h
  ·have hp:=hpar e3 h1
   obtain⟨g',R,Rf,bb,o,lw,lh,Lf⟩:=L hp
   have hgg:g'=g:=by have:=Lf.gj;rw[hg]at this;simpa using this.symm
   subst hgg
   refine .inr ⟨r,R,Rf,bb,o,lw,lh,hp,Lf,?_⟩
   unfold fT at hb
   rw[Lf.base]at hb
   simpa using hb
 have hblk:∀{q j:Nat} {g:GA} {R Rf:Root} {b o:Nat} {lw lh:List TypeId},fB q is 0=some j->wL cx Z J w is gs dm bX Ff w' Z2 q j g R Rf b o lw lh->∀{Q:Root},aU Z2 q Q->Q=fV R ⟨Rf.k,Rf.x⟩ R.own R.tags lw lh R.keep/\Ow.blk (ng J bX is) Q q=Ow.blk bX Rf (aC j)/\aK (ng J bX is) Q q=some (b,o):=by
  intro q j g R Rf b o lw lh hq Lf Q hQ
  have e:Q=fV R ⟨Rf.k,Rf.x⟩ R.own R.tags lw lh R.keep:=by have:=hQ.1;rw[Lf.r2]at this;simpa using this.symm
  have fM:aK (ng J bX is) Q q=some (b,o):=by
   rw[<-Lf.wh,e]
   rfl
  refine⟨e,?_,fM⟩
  unfold Ow.blk
  rw[fM,Lf.QX]
  simp only[ng,hq]
 have hsame:∀{q:Nat},fB q is 0=none->Same Z J Z2 (ng J bX is) q:=λ{q} hq=>⟨hoth q hq,rfl,by simp only[ng,hq],by simp only[ng,hq]⟩
 have zn:∀{q:Nat},¬Same Z J Z2 (ng J bX is) q->∃j,fB q is 0=some j:=by
  intro q hns
  cases hp:fB q is 0 with
  |none=>exact absurd (hsame hp) hns
  |some j=>exact⟨j,rfl⟩
 have kC:∀{q j:Nat} {g:GA} {R Rf:Root} {b o:Nat} {lw lh:List TypeId},wL cx Z J w is gs dm bX Ff w' Z2 q j g R Rf b o lw lh->vZ Z Z2 Root.w q=lw/\vZ Z Z2 Root.h q=lh:=by
  intro q j g R Rf b o lw lh Lf
  unfold vZ
  rw[Lf.lr.1,Lf.r2]
  simp[fV]
 have IK:∀{q:Nat},fB q is 0=none->vZ Z Z2 Root.w q=[]/\vZ Z Z2 Root.h q=[]:=by
  intro q hq
  unfold vZ
  rw[hoth q hq]
  cases Z.roots q<;>simp
 have htag:∀t,pO Z t->pO Z2 t:=by
  intro t ht
  rcases ht with h|⟨R,h1,h2⟩
  ·exact .inl h
  ·cases hp:fB t.1 is 0 with
   |none=>exact .inr ⟨R,by rw[hoth _ hp];exact h1,h2⟩
   |some j=>
    obtain⟨g,R0,Rf,b,o,lw,lh,Lf⟩:=L hp
    have e:R0=R:=by have:=Lf.lr.1;rw[h1]at this;simpa using this.symm
    subst e
    refine .inr ⟨_,Lf.r2,?_⟩
    rcases h2 with h2|h2
    ·rw[Lf.lr.2]at h2;simp at h2
    ·right
     simp only[fV,nY,d_]at h2 ⊢
     omega
 have hmem:∀{q j:Nat} {g:GA} {R Rf:Root} {b o:Nat} {lw lh:List TypeId},wL cx Z J w is gs dm bX Ff w' Z2 q j g R Rf b o lw lh->b∈Ow.blk J R q/\∀b'∈g.fo,b'∈Ow.blk J R q:=by
  intro q j g R Rf b o lw lh Lf
  refine⟨?_,λb' hb'=>bD _ (Lf.fo b' hb')⟩
  unfold Ow.blk
  rw[Lf.wh]
  simp
 have hbf:∀{q j:Nat} {g:GA} {R Rf:Root} {b o:Nat} {lw lh:List TypeId},wL cx Z J w is gs dm bX Ff w' Z2 q j g R Rf b o lw lh->b∈Ow.blk bX Rf (aC j):=by
  intro q j g R Rf b o lw lh Lf
  unfold Ow.blk
  rw[Lf.QX]
  simp
 have NI:∀{j m:Nat},aC j=aC m->j=m:=λ{j m} h=>by unfold aC at h;omega
 have VP:∀{b:Nat},mine (iB cx Z J F w ps c is gs) w' b->(∀{q j:Nat} {g:GA} {R Rf:Root} {bb o:Nat} {lw lh:List TypeId},fB q is 0=some j->wL cx Z J w is gs dm bX Ff w' Z2 q j g R Rf bb o lw lh->b≠bb/\(b∈g.fo->∃e∈lw,h_ (hp w) b=some e))->
   b∈F\/(w.heap.size<=b/\b<w'.heap.size)\/∃r R,aU Z r R/\b∈Ow.blk J R r/\Loose cx Z2 (vZ Z Z2 Root.w) w r b:=by
  intro b hm hno
  obtain⟨h1,h2|⟨j,g,h2,h3,h4⟩⟩:=hwho hm
  ·exact .inr (.inl ⟨h2,h1⟩)
  ·rcases NT h2 h3 h4 with h|⟨q,R,Rf,bb,o,lw,lh,hq,Lf,h⟩
   ·exact .inl h
   ·obtain⟨n1,n2⟩:=hno hq Lf
    rcases h with h|h
    ·exact absurd h n1
    ·refine .inr (.inr ⟨q,R,Lf.lr,(hmem Lf).2 b h,.inr (.inl ?_)⟩)
     rw[(kC Lf).1]
     exact n2 h
 have T:gL cx Z J F w Z2 (ng J bX is) G w' (vZ Z Z2 Root.w) (vZ Z Z2 Root.h):=by
  refine⟨hsl,⟨f1,f2,f3⟩,f4,λr R hr=>?_,λr R' h hns=>?_,λr R' h1 h2=>?_,λb hb hne=>?_,λb hb=>?_,hGn,λr R' hr hns b hb Nf=>?_,λr R r' R' hr hr' hne hns ahC b hb hb'=>?_,λj pi b o n hj hb hne=>?_,λr R R' h1 h2 hd=>?_⟩
  ·cases hp:fB r is 0 with
   |none=>
    refine⟨R,by rw[hoth r hp];exact hr,?_⟩
    cases hd:R.bV with
    |true=>exact .inl ⟨rfl,by intro hk;simp[Root.bV,hk]at hd⟩
    |false=>exact .inr ⟨rfl,by rw[(IK hp).1];rfl,by rw[(IK hp).2];rfl,bT _,rfl,rfl,λ_=>rfl,.inr ⟨(IK hp).1,(IK hp).2,hsame hp⟩⟩
   |some j=>
    obtain⟨g,R0,Rf,b,o,lw,lh,Lf⟩:=L hp
    have e:R0=R:=by have:=Lf.lr.1;rw[hr]at this;simpa using this.symm
    subst e
    refine⟨_,Lf.r2,.inr ⟨Lf.lr.2,by rw[(kC Lf).1];rfl,by rw[(kC Lf).2];rfl,bT _,rfl,rfl,λ_=>?_,.inl (.inl (by rw[(kC Lf).1];exact Lf.lw0))⟩⟩
    show Rf.k.size=_
    rw[<-Lf.sz]
  ·obtain⟨j,hp⟩:=zn hns
   obtain⟨g,R0,Rf,b,o,lw,lh,Lf⟩:=L hp
   rw[Lf.r2]at h
   simp only[aa]at h
   subst h
   obtain⟨g1,g2,g3⟩:=H.fu r R0 Lf.lr.1
   exact⟨λt ht=>htag t (g1 t ht),g2,g3⟩
  ·cases hp:fB r is 0 with
   |none=>rw[hoth r hp,h1]at h2;simp at h2
   |some j=>
    obtain⟨g,R0,Rf,b,o,lw,lh,Lf⟩:=L hp
    exact absurd Lf.lr.1 (by rw[h1];simp)
  ·obtain⟨j,g,h1,h2,h3⟩:=nT b hb hne
   rcases NT h1 h2 h3 with h|⟨q,R,Rf,bb,o,lw,lh,hq,Lf,h⟩
   ·exact .inl h
   ·refine .inr ⟨q,R,Lf.lr,?_,?_⟩
    ·rcases h with rfl|h
     ·exact(hmem Lf).1
     ·exact(hmem Lf).2 b h
    ·unfold Loose
     rw[(kC Lf).1]
     rcases h with rfl|h
     ·exact .inr Lf.bty
     ·rcases Lf.keep b h with h|h
      ·exact .inr (.inl h)
      ·exact absurd h.1 hne
  ·rcases hb with⟨r,R',hr,hb,hno⟩|hb
   ·cases hp:fB r is 0 with
    |none=>
     rw[(hsame hp).blk]at hb
     exact absurd ⟨R',((hsame hp).live R').1 hr,hb⟩ hno
    |some j=>
     obtain⟨g,R0,Rf,b0,o,lw,lh,Lf⟩:=L hp
     obtain⟨e1,e2,_⟩:=hblk hp Lf hr
     rw[e2]at hb
     refine VP ((Hf.roots (aC j) Rf Lf.lf).mine b hb) λ{q m g' R1 Hg bb o1 lw1 lh1} hq sD=>?_
     have hmj:∀{b'},b'=b->b'∈Ow.blk bX Hg (aC m)->m=j:=λ{b'} e h=>by
      subst e
      refine jI λhne=>?_
      exact Hf.jc (aC m) Hg (aC j) Rf sD.lf Lf.lf (λe=>hne (NI e)) b' h hb
     refine⟨λe=>?_,λhfo=>?_⟩
     ·have:=hmj e.symm (hbf sD)
      subst this
      obtain⟨i1,u1,x1,x2⟩:=uO hp
      obtain⟨i2,u2,y1,y2⟩:=uO hq
      rw[x2.1]at y2
      have hii:i1=i2:=by simpa using y2.1
      subst hii
      have hrq:r=q:=by have:=x2.2;rw[y2.2]at this;simp only[aa,bK]at this;exact this.1.symm
      subst hrq
      refine hno ⟨R1,sD.lr,?_⟩
      rw[e]
      exact(hmem sD).1
     ·rcases sD.keep b hfo with h|⟨_,_,h⟩
      ·exact h
      ·exfalso
       have:=NI (h (aC j) Rf Lf.lf hb)
       subst this
       obtain⟨i1,u1,x1,x2⟩:=uO hp
       obtain⟨i2,u2,y1,y2⟩:=uO hq
       rw[x2.1]at y2
       have hii:i1=i2:=by simpa using y2.1
       subst hii
       have hrq:r=q:=by have:=x2.2;rw[y2.2]at this;simp only[aa,bK]at this;exact this.1.symm
       subst hrq
       exact hno ⟨R1,sD.lr,(hmem sD).2 b hfo⟩
   ·refine VP (Hf.fl b (hG b hb)) λ{q m g' R1 Hg bb o1 lw1 lh1} hq sD=>⟨λe=>?_,λhfo=>?_⟩
    ·subst e
     exact Hf.dM (aC m) Hg sD.lf b (hbf sD) (hG b hb)
    ·rcases sD.keep b hfo with h|⟨_,h,_⟩
     ·exact h
     ·exact absurd (hG b hb) h
  ·obtain⟨j,hp⟩:=zn hns
   obtain⟨g,R0,Rf,b0,o,lw,lh,Lf⟩:=L hp
   obtain⟨_,e2,_⟩:=hblk hp Lf hr
   rw[e2]at hb
   exact Hf.dM (aC j) Rf Lf.lf b hb (hG b Nf)
  ·obtain⟨j,hp⟩:=zn hns
   obtain⟨j',hp'⟩:=zn ahC
   obtain⟨g,R0,Rf,b0,o,lw,lh,Lf⟩:=L hp
   obtain⟨g',R0',Rf',b0',o',lw',lh',Ta⟩:=L hp'
   obtain⟨_,e2,_⟩:=hblk hp Lf hr
   obtain⟨_,e2',_⟩:=hblk hp' Ta hr'
   rw[e2]at hb
   rw[e2']at hb'
   refine Hf.jc (aC j) Rf (aC j') Rf' Lf.lf Ta.lf (λe=>hne ?_) b hb hb'
   have:=NI e
   subst this
   obtain⟨i1,u1,x1,x2⟩:=uO hp
   obtain⟨i2,u2,y1,y2⟩:=uO hp'
   rw[x2.1]at y2
   have hii:i1=i2:=by simpa using y2.1
   subst hii
   have:=x2.2
   rw[y2.2]at this
   simp only[aa,bK]at this
   exact this.1.symm
  ·obtain⟨Q,hQ,hk,hl,hs⟩:=H.jT j pi b o n hj hb
   have hwb:aK J Q (aC j)=some (b,o):=by unfold aK;rw[hk,hl]
   have hbb:b∈Ow.blk J Q (aC j):=by unfold Ow.blk;rw[hwb];simp
   obtain⟨m,g,h1,h2,h3⟩:=nT b ((H.roots _ Q hQ).mine b hbb).1 hne
   obtain⟨_,_,_,_,_,f6'⟩:=H.frame
   have h0:=f6' j pi b o n hj hb
   rcases NT h1 h2 h3 with h|⟨q,R,Rf,bb,o1,lw,lh,hq,Lf,h⟩
   ·exact absurd h (H.dM _ Q hQ b hbb)
   ·have hbR:b∈Ow.blk J R q:=by
     rcases h with rfl|h
     ·exact(hmem Lf).1
     ·exact(hmem Lf).2 b h
    have eq:q=aC j:=jI λe=>H.jc q R (aC j) Q Lf.lr hQ e b hbR hbb
    subst eq
    have eR:R=Q:=by have:=Lf.lr.1;rw[hQ.1]at this;simpa using this.symm
    subst eR
    have hw2:=Lf.wh
    rw[hwb]at hw2
    simp only[aa,bK]at hw2
    obtain⟨rfl,rfl⟩:=hw2
    exact h0.widen Lf.same (bT _) (by rw[<-Lf.sz];omega)
  ·cases hp:fB r is 0 with
   |none=>
    rw[hoth r hp,h1]at h2
    simp only[aa]at h2
    subst h2
    exact⟨rfl,rfl⟩
   |some j=>
    obtain⟨g,R0,Rf,b,o,lw,lh,Lf⟩:=L hp
    have e:R0=R:=by have:=Lf.lr.1;rw[h1]at this;simpa using this.symm
    subst e
    rw[Lf.r2]at h2
    simp only[aa]at h2
    subst h2
    exact⟨rfl,rfl⟩
 have B:ug Z J is gs dm bX Ff Z2 (ng J bX is) G:=by
  refine⟨λq Q b hq hb=>?_,hG⟩
  cases hp:fB q is 0 with
  |none=>
   rw[(hsame hp).blk]at hb
   have hq':=((hsame hp).live Q).1 hq
   refine .inr (.inl ⟨Q,hq',hb,λm g hg hbg=>?_⟩)
   obtain⟨p,cj,v,i,e1,e2,e3,e4⟩:=hgj hg
   rcases(oG H e4).1 b (bD _ hbg)with⟨_,h⟩|⟨h,r,R0,u,h1,h2,h3⟩
   ·exact H.dM q Q hq' b hb h
   ·refine H.jc q Q r R0 hq' h2 (λe=>?_) b hb h3
    subst e
    rw[hpar e3 h1]at hp
    simp at hp
  |some j=>
   obtain⟨g,R0,Rf,b0,o,lw,lh,Lf⟩:=L hp
   obtain⟨_,e2,_⟩:=hblk hp Lf hq
   rw[e2]at hb
   obtain⟨i,u,i1,i2,_⟩:=Lf.ids
   exact .inr (.inr ⟨j,i,Rf,u,i1,i2,Lf.lf,hb⟩)
 refine⟨ng J bX is,H.turn T (λr R hr hns=>?_) (λr R hr hns p n v hn hold=>?_) (λr R hr hns g v hg hold=>?_),B,hsl,λq hq=>?_,htag,hfind⟩
 ·obtain⟨j,hp⟩:=zn hns
  obtain⟨g,R0,Rf,b,o,lw,lh,Lf⟩:=L hp
  obtain⟨e1,e2,e3⟩:=hblk hp Lf hr
  subst e1
  have Kf:=Hf.roots (aC j) Rf Lf.lf
  have ML:(ng J bX is).hdr r=bX.hdr (aC j):=by simp only[ng,hp]
  have efo:(ng J bX is).fo r=bX.fo (aC j):=by simp only[ng,hp]
  refine⟨λ_=>?_,?_,λb' o' hb'=>?_,?_⟩
  ·rw[ML,efo]
   show Ow (Ow.hp w') R0.own (aO cx Z2 (ng J bX is) G w' R0.tags) Rf.k Rf.x (bX.hdr (aC j)) (bX.fo (aC j))
   refine q8 Lf.own ?_
   rcases Lf.tags with hall|oK
   ·exact lq (om hall) (Kf.ow Lf.vf)
   ·refine dK (λ_ _=>rfl) (λb hb=>?_) (λ_ _=>rfl) (Kf.ow Lf.vf)
    obtain⟨i,u,i1,i2,i3⟩:=Lf.ids
    refine Fu H hJ Hf B (λj' n hn i' hi' t ht=>?_) (λm n hn=>?_) hb
    ·have h1:=dX.1 oK _ hn
     simp only[sU,fJ]at h1
     have h2:gB j' / 4=j':=by unfold gB;omega
     rw[h2,fA,gW]at h1
     subst h1
     rw[i1]at hi'
     simp only[aa]at hi'
     subst hi'
     rw[i3]at ht
     exact⟨t.2,ht⟩
    ·have h1:=dX.1 oK _ hn
     have h2:Nat.beq (aC m%4) 0=true:=by unfold aC;simp
     simp only[En,jr,h2,fJ]at h1
     simp[ah]at h1
  ·rw[ML]
   exact Kf.len
  ·rw[e3]at hb'
   simp only[aa,bK]at hb'
   obtain⟨rfl,rfl⟩:=hb'
   obtain⟨m1,arr,e,lo,hi,m2,m3,m4,_⟩:=Kf.mem b o Lf.QX
   rw[ML]
   refine⟨m1,arr,e,lo,hi,m2,m3,m4,λt ht=>?_⟩
   obtain⟨_,T9,e0,lo0,hi0,k1,k2,k3,k4⟩:=(H.roots r R0 Lf.lr).mem b o Lf.wh
   obtain⟨a1,a2,te,fr,s1,s2,_⟩:=Lf.same
   rw[k1]at s1
   rw[m2]at s2
   simp only[aa,Obj.cells.injEq]at s1 s2
   rw[s2.2.1,<-s1.2.1]
   exact k4 t ht
  ·rw[e2]
   exact Kf.nd
 ·obtain⟨j,hp⟩:=zn hns
  obtain⟨g,R0,Rf,b,o,lw,lh,Lf⟩:=L hp
  have e:R0=R:=by have:=Lf.lr.1;rw[hr.1]at this;simpa using this.symm
  subst e
  refine⟨hold.1,λQ hQ lF hcl hty hsome=>?_⟩
  obtain⟨e1,_,e3⟩:=hblk hp Lf ⟨hQ,lF.1⟩
  subst e1
  have hcl':clean (lh++R0.h) n (iD p Rf.k)=true:=hcl
  rw[yS hn]at hcl'
  by_cases hpt:az p Rf.k=[]
  ·have hk:az p R0.k=[]:=by rw[Lf.sz];exact hpt
   have hpk:iD p R0.k=iD p Rf.k:=by rw[Lf.sz]
   obtain⟨q1,cs,b',o',q2,q3⟩:=hold.2 R0 hr.1 Lf.vr (by rw[hpk];exact hcl'.2) (λt ht=>by rw[hk]at ht;simp at ht) (by
    have hs:(aA p Rf.k Rf.x).isSome=true:=hsome
    obtain⟨G_,Tx,_,_,_,_,_,_,_,_,_,_⟩:=R0
    have e:G_=Rf.k:=Lf.sz
    subst e
    rw[zb p (y:=Rf.x)]
    exact hs)
   have hN:∃c1,bM p Rf.k Rf.x/\aN (Ow.hp w') p Rf.k ((ng J bX is).hdr r) (aK J R0 r)=some (c1,some (b',o')):=by
    have hs:(aA p Rf.k Rf.x).isSome=true:=hsome
    obtain⟨G_,Tx,_,_,_,_,_,_,_,_,_,_⟩:=R0
    have e:G_=Rf.k:=Lf.sz
    subst e
    obtain⟨n1,c1,n2⟩:=Fe (own:=[]) (h':=Ow.hp w') (y:=Rf.x) (cs':=(ng J bX is).hdr r) p q1 (λt ht=>by rw[hpt]at ht;simp at ht) q2
    exact⟨c1,n1,n2⟩
   obtain⟨c1,n1,n2⟩:=hN
   exact⟨n1,c1,b',o',by rw[e3,<-Lf.wh];exact n2,q3⟩
  ·exfalso
   obtain⟨t,ht⟩:=List.exists_mem_of_ne_nil _ hpt
   refine hcl'.1 t (Lf.gap t (xO p t ht)) ?_
   cases p with
   |nil=>simp[az]at ht
   |cons s p=>exact ji _ ht
 ·obtain⟨j,hp⟩:=zn hns
  obtain⟨g',R0,Rf,b,o,lw,lh,Lf⟩:=L hp
  have e:R0=R:=by have:=Lf.lr.1;rw[hr.1]at this;simpa using this.symm
  subst e
  intro Q hQ Bf
  obtain⟨e1,_,_⟩:=hblk hp Lf hQ
  subst e1
  have:=(hold R0 Lf.lr Bf).1
  have hw:=Lf.wh
  unfold aK at hw
  rw[this]at hw
  simp at hw
 ·cases hp:fB q is 0 with
  |none=>rw[hoth q hp];exact hq
  |some j=>
   obtain⟨g,R0,Rf,b,o,lw,lh,Lf⟩:=L hp
   exact absurd Lf.lr.1 (by rw[hq];simp)
end
end
section
open Go
variable [Fr]
def wN(Z:St)(ws:List Wr)(l:List Nat)(tags:List Tag):Prop:=
 (∀r∈l,∃n,(r,n)∈tags)/\∀t∈tags,fO t.1=true\/(∃R,ws.find? (λw=>w.loc.beq (.r t.1))=some (.r t.1 (some R))/\t.2=dz R.w)\/(∃R,Z.roots t.1=some R/\t.2=dz R.w)
theorem amF{w:Wr}{r:Nat}(h:w.loc.beq (.r r)=true):∃o,w=.r r o:=by
 cases w with
 |s n a=>simp[Wr.loc,Loc.beq]at h
 |r n o=>
  simp only[Wr.loc,Loc.beq]at h
  exact⟨o,by rw[a_ h]⟩
theorem Qb{A:Type}{z:A}{Z:St}{ws:List Wr}:∀{l:List Nat} {k:List Tag->Prog A},(xM ws l k).ends Z z->∃tags,wN Z ws l tags/\(k tags).ends Z z:=by
 intro l
 induction l with
 |nil=>intro k h;exact⟨[],⟨by simp,by simp⟩,h⟩
 |cons r l ih=>
  intro k h
  unfold xM at h
  have hadd:∀{n:Nat} {tags:List Tag},wN Z ws l tags->(fO r=true\/(∃R,ws.find? (λw=>w.loc.beq (.r r))=some (.r r (some R))/\n=dz R.w)\/(∃R,Z.roots r=some R/\n=dz R.w))->wN Z ws (r :: l) ((r,n) :: tags):=by
   intro n tags h1 h2
   refine⟨λq hq=>?_,λt ht=>?_⟩
   ·rcases bH.1 hq with h|h
    ·subst h;exact⟨n,by simp⟩
    ·obtain⟨m,hm⟩:=h1.1 q h;exact⟨m,by simp[hm]⟩
   ·rcases bH.1 ht with h|h
    ·subst h;exact h2
    ·exact h1.2 t h
  cases he:fO r with
  |true=>
   rw[he]at h
   obtain⟨tags,g1,g2⟩:=ih h
   exact⟨_,hadd g1 (.inl he),g2⟩
  |false=>
   rw[he]at h
   simp only[jr]at h
   split at h
   ·rename_i q R hf
    have hq:q=r:=by
     have:=List.find?_some hf
     obtain⟨o,ho⟩:=amF this
     simp only[Wr.r.injEq]at ho
     exact ho.1
    subst hq
    obtain⟨tags,g1,g2⟩:=ih h
    exact⟨_,hadd g1 (.inr (.inl ⟨R,hf,rfl⟩)),g2⟩
   ·exact h.elim
   ·simp only[Prog.ends]at h
    cases hr:Z.roots r with
    |none=>rw[hr]at h;exact h.elim
    |some R=>
     rw[hr]at h
     obtain⟨tags,g1,g2⟩:=ih h
     exact⟨_,hadd g1 (.inr (.inr ⟨R,hr,rfl⟩)),g2⟩
def Dc(Z:St)(d:Nat)(is:List aQ)(ws:List Wr):(rs:List eF)->Nat->Cont (iq rs)->List AV->List Wr->Prop
 | [],_,_,as,ws'=>as=[]/\ws'=[]
 |.val k exts bB :: rs,c,x,as,ws'=>∃tags as',wN Z ws (bif k.flat then []else uF (vV is exts bB)) tags/\as=.val k x.1 tags :: as'/\Dc Z d is ws rs (c+1) x.2 as' ws'
 |.own k ow exts bB :: rs,c,x,as,ws'=>∃tags as' zS,wN Z ws (bif k.tys.all (λt=>ah t ow)then []else uF (vV is exts bB)) tags/\Z.roots (aG d c)=none/\as=.ref (aG d c) 0 :: as'/\ws'=.r (aG d c) (some (bL k x.1 ow tags .anon)) :: zS/\Dc Z d is ws rs (c+1) x.2 as' zS
 |.ptr t k ow exts :: rs,c,x,as,ws'=>∃tags as' zS,wN Z ws (bif k.tys.all (λt=>ah t ow)then []else uF (vV is exts [])) tags/\Z.roots (aG d c)=none/\as=.ptr (aG d c) [] 0 :: as'/\ws'=.r (aG d c) (some (bL k x.1 ow tags (.var t))) :: zS/\Dc Z d is ws rs (c+1) x.2 as' zS
 |.into j p :: rs,c,x,as,ws'=>c=0/\rs=[]/\ws'=[]/\∃i r q wt ht R,is[j]?=some i/\i.wb=some (r,q,wt,ht)/\iZ∉ht/\ws.find? (λw=>w.loc.beq (.r r))=some (.r r (some R))/\((p=[]/\as=[.lH r q (dz R.w+dz R.h) (show Int from x.1).toNat])\/(p≠[]/\(((show Int from x.1)<0/\as=[.iI])\/(¬(show Int from x.1)<0/\as=[.ptr r (q++ql p (show Int from x.1)) (dz R.h)]))))
theorem anJ{A:Type}{z:A}{Z:St}{d:Nat}{is:List aQ}{ws:List Wr}:∀{rs:List eF} {c:Nat} {x:Cont (iq rs)} {k:List AV->List Wr->Prog A},(wz d is ws rs c x k).ends Z z->∃as ws',Dc Z d is ws rs c x as ws'/\(k as ws').ends Z z:=by
 intro rs
 induction rs with
 |nil=>intro c x k h;exact⟨[],[],⟨rfl,rfl⟩,h⟩
 |cons p rs ih=>
  intro c x k h
  cases p with
  |val kk exts bB=>
   simp only[wz]at h
   obtain⟨tags,h1,h⟩:=Qb h
   obtain⟨as,ws',h2,h⟩:=ih h
   exact⟨_,ws',⟨tags,as,h1,rfl,h2⟩,h⟩
  |own kk ow exts bB=>
   simp only[wz]at h
   obtain⟨tags,h1,h⟩:=Qb h
   obtain⟨hn,h⟩:=nS h
   obtain⟨as,ws',h2,h⟩:=ih h
   exact⟨_,_,⟨tags,as,ws',h1,hn,rfl,rfl,h2⟩,h⟩
  |ptr t kk ow exts=>
   simp only[wz]at h
   obtain⟨tags,h1,h⟩:=Qb h
   obtain⟨hn,h⟩:=nS h
   obtain⟨as,ws',h2,h⟩:=ih h
   exact⟨_,_,⟨tags,as,ws',h1,hn,rfl,rfl,h2⟩,h⟩
  |into j q=>
   simp only[wz]at h
   rcases bz h with⟨hc,h⟩|⟨_,h⟩
   ·simp only[bg,List.isEmpty_iff]at hc
    split at h
    ·rename_i i hi
     split at h
     ·rename_i r q' wt ht hw
      split at h
      ·rename_i r' R hf
       rcases bz h with⟨_,h⟩|⟨dQ,h⟩
       ·exact h.elim
       have hb:=List.find?_some hf
       simp only[Wr.loc,Loc.beq]at hb
       have hb:=a_ hb
       subst hb
       cases q with
       |nil=>exact⟨_,_,⟨a_ hc.1,hc.2,rfl,i,r',q',wt,ht,R,hi,hw,gq.1 dQ,hf,.inl ⟨rfl,rfl⟩⟩,h⟩
       |cons t q=>
        rcases h with⟨hb2,h⟩|⟨hb2,h⟩
        ·exact⟨_,_,⟨a_ hc.1,hc.2,rfl,i,r',q',wt,ht,R,hi,hw,gq.1 dQ,hf,.inr ⟨by simp,.inl ⟨of_decide_eq_true hb2,rfl⟩⟩⟩,h⟩
        ·exact⟨_,_,⟨a_ hc.1,hc.2,rfl,i,r',q',wt,ht,R,hi,hw,gq.1 dQ,hf,.inr ⟨by simp,.inr ⟨of_decide_eq_false hb2,rfl⟩⟩⟩,h⟩
      ·exact h.elim
     ·exact h.elim
    ·exact h.elim
   ·exact h.elim
theorem PY{n:Nat}{l:List Nat}:n∈l->n∈uF l:=by
 induction l with
 |nil=>simp
 |cons m l ih=>
  intro h
  unfold uF
  cases hm:ah m l with
  |true=>
   simp only[fJ]
   rcases bH.1 h with h|h
   ·subst h;exact ih (fA.1 hm)
   ·exact ih h
  |false=>
   simp only[jr]
   rcases bH.1 h with h|h
   ·subst h;simp
   ·simp[ih h]
section
variable {P:Program}{T:bF}{cx:Cx}{Z:St}{J:aF}{F:List Nat}{a:Act}{w w':World}{ps:List aH}{c:Cont (kin ps)}{vs:List Value}{is:List aQ}{gs:List GA}
theorem QJ{exts bB:List Nat}{Tg U:List Tag}{l:List Nat}(ht:oN exts bB Tg=true)(hU:∀r∈l,∃n,(r,n)∈U)(hl:∀r∈vV is exts bB,r∈l) :
  (∀j n,(gB j,n)∈Tg->∀i,is[j]?=some i->∀t∈i.ids,∃n',(t.1,n')∈U)/\(∀m n,(aC m,n)∈Tg->∀i q,is[m]?=some i->i.wb=some q->∃n',(q.1,n')∈U):=by
 refine⟨λj n hn i hi t ht'=>?_,λm n hn i q hi hq=>?_⟩
 ·have h1:=dX.1 ht _ hn
  simp only[sU,fJ]at h1
  have h2:gB j / 4=j:=by unfold gB;omega
  rw[h2,fA]at h1
  refine hU _ (hl _ ?_)
  unfold vV
  refine bP _ (nN.2 ⟨j,h1,?_⟩)
  rw[hi]
  exact eD.2 ⟨t,ht',rfl⟩
 ·have h1:=dX.1 ht _ hn
  have h2:Nat.beq (aC m%4) 0=true:=by unfold aC;simp
  simp only[En,jr,h2,fJ]at h1
  rw[Zu,fA]at h1
  refine hU _ (hl _ ?_)
  unfold vV
  refine bD _ (nN.2 ⟨m,h1,?_⟩)
  simp[hi,hq]
theorem YT{d c c':Nat}(h:aG d c=aG d c'):c=c':=by unfold aG at h;omega
theorem adH(H:Rel cx Z J F a w)(hJ:qY cx Z J F a w ps c vs is gs){dm:St}{bX:aF}{Ff:List Nat}{af:Act}(Hf:Rel (iB cx Z J F w ps c is gs) dm bX Ff af w'){jH:St}{d:Nat}{ws:List Wr} :
  ∀{rs:List eF} {ci:Nat} {x:Cont (iq rs)} {as:List AV} {ws':List Wr} {us:List Value} {au:List (List Nat)} {Z':St} {J':aF},Rel cx Z' J' au.flatten a w'->ug Z J is gs dm bX Ff Z' J' au.flatten->
   wS (iB cx Z J F w ps c is gs) dm bX Ff w' rs x us au->Dc jH d is ws rs ci x as ws'->(∀l tags,wN jH ws l tags->fC Z' tags)->(∀cj,ci<=cj->jH.roots (aG d cj)=none->Z'.roots (aG d cj)=none)->(∀b∈au.flatten,b∈Ff)->
   (ci=0->(∃j0 p0,rs=[.into j0 p0])->∀(j:Nat) (i:aQ) (r:Nat) (q:List Stp) (wt ht:List TypeId) (R:Root) (b:Option Addr) (n cp m:Nat),is[j]?=some i->i.wb=some (r,q,wt,ht)->iZ∉ht->ws.find? (λw=>w.loc.beq (.r r))=some (.r r (some R))->m<=n->aR (iB cx Z J F w ps c is gs) dm bX Ff w' (.ref (aC j) 0) (.slice b n cp)->
    aR cx Z' J' au.flatten w' (.lH r q (dz R.w+dz R.h) m) (.slice b m cp)/\dB Z' (.lH r q (dz R.w+dz R.h) m))->
   (ci=0->(∃j0 p0,rs=[.into j0 p0])->∀(j:Nat) (i:aQ) (r:Nat) (q:List Stp) (wt ht:List TypeId) (R:Root) (p:List (Option Nat)) (m:Int) (v:Value),is[j]?=some i->i.wb=some (r,q,wt,ht)->iZ∉ht->ws.find? (λw=>w.loc.beq (.r r))=some (.r r (some R))->¬m<0->K_ dm bX w' j p m v->
    aR cx Z' J' au.flatten w' (.ptr r (q++ql p m) (dz R.h)) v/\dB Z' (.ptr r (q++ql p m) (dz R.h)))->
   ∃J'',Rel cx (aB ws' Z') J'' [] a w'/\gU cx (aB ws' Z') J'' [] w' as us/\(∀v∈as,dB (aB ws' Z') v)/\(aB ws' Z').slots=Z'.slots/\ug Z J is gs dm bX Ff (aB ws' Z') J'' []/\
    (∀u v,dB Z' u->aR cx Z' J' au.flatten w' u v->aR cx (aB ws' Z') J'' [] w' u v)/\(∀t,pO Z' t->pO (aB ws' Z') t)/\(∀u,dB Z' u->dB (aB ws' Z') u):=by
 intro rs
 induction rs with
 |nil=>
  intro ci x as ws' us au Z' J' H' B hL hW _ _ _ _ _
  obtain⟨rfl,rfl⟩:=hW
  cases us with
  |cons _ _=>exact hL.elim
  |nil=>cases au with
   |cons _ _=>exact hL.elim
   |nil=>exact⟨J',H',trivial,by simp,rfl,B,λ_ _ _ h=>h,λ_ h=>h,λ_ h=>h⟩
 |cons p rs ih=>
  intro ci x as ws' us au Z' J' H' B hL hW dU hfr hFf hcut rD
  cases us with
  |nil=>cases p<;>exact hL.elim
  |cons u us=>
   cases au with
   |nil=>cases p<;>exact hL.elim
   |cons fo au=>
    cases p with
    |val k exts bB=>
     obtain⟨⟨rfl,Tg,cs,h1,h2,h3⟩,h4⟩:=hL
     obtain⟨tags,as',hN,rfl,hW⟩:=hW
     simp only[oW,jq]at H' B hFf
     obtain⟨J'',k1,k2,k3,k4,k5,k6,k7,k8⟩:=ih H' B h4 hW dU (λcj hc=>hfr cj (by omega)) hFf (λh=>absurd h (Nat.succ_ne_zero _)) (λh=>absurd h (Nat.succ_ne_zero _))
     refine⟨J'',k1,⟨λ_=>⟨cs,h2,?_⟩,k2⟩,?_,k4,k5,by simpa using k6,k7,k8⟩
     ·cases hf:k.flat with
      |true=>exact kL hf h3
      |false=>
       rw[hf]at hN h1
       obtain⟨b1,b2⟩:=QJ (is:=is) (h1.resolve_left (by simp)) hN.1 (λr hr=>PY hr)
       exact jO (λ_ _=>rfl) (λb hb=>Fu H hJ Hf k5 b1 b2 hb) h3
     ·intro v hv
      rcases bH.1 hv with h|h
      ·subst h;exact λt ht=>k7 t (dU _ _ hN t ht)
      ·exact k3 v h
    |own k ow exts bB=>
     obtain⟨⟨Tg,cs,own,h1,h2,h3,h5⟩,h4⟩:=hL
     obtain⟨tags,as',zS,hN,hn,rfl,rfl,hW⟩:=hW
     simp only[oW]at H' B hFf
     obtain⟨bE,fd,hpm,hO⟩:=vo (own':=ow) (λt ht hm=>h2 t ht hm) h5
     have hnd:=dA.1 H'.gD
     have xB:=dA.1 (hpm.nodup hnd.1)
     have hk:(bL k x.1 ow tags .anon false).kind=.anon:=rfl
     have hn':=hfr ci (bT _) hn
     have zh:∀b∈bE,b∈fo:=λb hb=>hpm.mem_iff.2 (bP _ hb)
     obtain⟨q1,q2⟩:=Av (R':=bL k x.1 ow tags .anon false) H' hn' (nX d ci) rfl (by simp[bL]) (dU _ _ hN) (0,0) cs bE au.flatten
      (λb hb=>by rw[o7 hk]at hb;exact⟨bP _ (zh b hb),λh=>hnd.2.2 b (zh b hb) b h rfl⟩) (by rw[o7 hk];exact xB.1) (λb hb=>bD _ hb) hnd.2.1
      (λ_=>by
       rw[o7 hk]
       show Ow (hp w') ow _ k x.1 cs bE
       cases hall:(k.tys.all λt=>ah t ow)with
       |true=>exact lq (om (mQ hall)) hO
       |false=>
        rw[hall]at hN h1
        obtain⟨b1,b2⟩:=QJ (is:=is) (h1.resolve_left (by simp)) hN.1 (λr hr=>PY hr)
        refine dK (λ_ _=>rfl) (λb hb=>?_) (λ_ _=>rfl) hO
        rcases hb with hb|hb
        ·exact .inl (Fu H hJ Hf B b1 b2 hb)
        ·have hbf:b∈fo:=hpm.mem_iff.2 (bD _ hb)
         exact .inr ⟨bP _ hbf,λh=>hnd.2.2 b hbf b h rfl,λh=>xB.2.2 b h b hb rfl⟩) (eO h5) (λb o hb=>by rw[Cs hk]at hb;simp at hb)
     have hB2:ug Z J is gs dm bX Ff (aL Z' (aG d ci) (bL k x.1 ow tags .anon false)) (aW J' (aG d ci) (0,0) cs bE) au.flatten:=by
      refine⟨λq Q b hq hb=>?_,λb hb=>hFf b (bD _ hb)⟩
      rcases tq hq with⟨rfl,rfl,_⟩|⟨e,hq'⟩
      ·rw[o8,o7 hk]at hb
       exact .inl (hFf b (bP _ (zh b hb)))
      ·rw[(kg (Z:=Z') (J:=J') (R:=bL k x.1 ow tags .anon false) e).blk]at hb
       exact B.blk q Q b hq' hb
     have vO:∀u v,dB Z' u->aR cx Z' J' (fo++au.flatten) w' u v->aR cx (aL Z' (aG d ci) (bL k x.1 ow tags .anon false)) (aW J' (aG d ci) (0,0) cs bE) au.flatten w' u v:=λu v hu hv=>
      q2.av H' (λr R hr hs=>absurd (kg (λe=>by have:=hr.1;rw[e,hn']at this;simp at this)) hs) (λr R hr hs=>absurd (kg (λe=>by have:=hr.1;rw[e,hn']at this;simp at this)) hs) hu hv
     obtain⟨J'',k1,k2,k3,k4,k5,k6,k7,k8⟩:=ih (ci:=ci+1) q1 hB2 h4 hW (λl tags hN t ht=>q2.tag (dU l tags hN t ht)) (λcj hc h=>by
      rw[jf]
      ·exact hfr cj (by omega) h
      ·intro e;have:=YT e;omega) (λb hb=>hFf b (bD _ hb)) (λh=>absurd h (Nat.succ_ne_zero _)) (λh=>absurd h (Nat.succ_ne_zero _))
     have hroot:(aL Z' (aG d ci) (bL k x.1 ow tags .anon false)).roots (aG d ci)=some (bL k x.1 ow tags .anon false):=fF ..
     have D9:dB (aL Z' (aG d ci) (bL k x.1 ow tags .anon false)) (.ref (aG d ci) 0):=⟨_,hroot,.inr (dY _)⟩
     refine⟨J'',k1,⟨k6 _ _ D9 (Y7 h3),k2⟩,?_,k4,k5,λu v hu hv=>?_,λt ht=>k7 t (q2.tag ht),λu hu=>k8 u (q2.dB hu)⟩
     ·intro v hv
      rcases bH.1 hv with h|h
      ·subst h
       exact k8 _ D9
      ·exact k3 v h
     ·exact k6 u v (q2.dB hu) (vO u v hu hv)
    |ptr t k ow exts=>
     obtain⟨⟨b0,o0,Tg,cs,own,fK,h3,rfl,h1,h2,hmem,h5⟩,h4⟩:=hL
     obtain⟨tags,as',zS,hN,hn,rfl,rfl,hW⟩:=hW
     simp only[oW]at H' B hFf
     obtain⟨bE,fd,hpm,hO⟩:=vo (own':=ow) (λt ht hm=>h2 t ht hm) h5
     have hnd:=dA.1 H'.gD
     have oI:=jB.1 hnd.1
     have xB:=dA.1 (hpm.nodup oI.2)
     have hk:(bL k x.1 ow tags (.var t) false).kind=.var t:=rfl
     have hn':=hfr ci (bT _) hn
     have zh:∀b∈b0 :: bE,b∈b0 :: fK:=λb hb=>by
      rcases bH.1 hb with h|h
      ·rw[h];exact jl
      ·exact ji _ (hpm.mem_iff.2 (bP _ h))
     obtain⟨q1,q2⟩:=Av (R':=bL k x.1 ow tags (.var t) false) H' hn' (nX d ci) rfl (by simp[bL]) (dU _ _ hN) (b0,o0) cs bE au.flatten
      (λb hb=>by rw[AL hk]at hb;exact⟨bP _ (zh b hb),λh=>hnd.2.2 b (zh b hb) b h rfl⟩) (by rw[AL hk];exact jB.2 ⟨λh=>oI.1 (hpm.mem_iff.2 (bP _ h)),xB.1⟩) (λb hb=>bD _ hb) hnd.2.1
      (λ_=>by
       rw[AL hk]
       show Ow (hp w') ow _ k x.1 cs bE
       cases hall:(k.tys.all λt=>ah t ow)with
       |true=>exact lq (om (mQ hall)) hO
       |false=>
        rw[hall]at hN h1
        obtain⟨b1,b2⟩:=QJ (is:=is) (h1.resolve_left (by simp)) hN.1 (λr hr=>PY hr)
        refine dK (λ_ _=>rfl) (λb hb=>?_) (λ_ _=>rfl) hO
        rcases hb with hb|hb
        ·exact .inl (Fu H hJ Hf B b1 b2 hb)
        ·have hbf:b∈b0 :: fK:=ji _ (hpm.mem_iff.2 (bD _ hb))
         exact .inr ⟨bP _ hbf,λh=>hnd.2.2 b hbf b h rfl,λh=>by
          rcases bH.1 h with h|h
          ·subst h;exact oI.1 (hpm.mem_iff.2 (bD _ hb))
          ·exact xB.2.2 b h b hb rfl⟩) (eO h5) (λb o hb=>by
       rw[aaT hk]at hb
       simp only[aa,bK]at hb
       obtain⟨rfl,rfl⟩:=hb
       obtain⟨m1,arr,e,lo,hi,m2,m3,m4,m5⟩:=hmem
       exact⟨m1,arr,e,lo,hi,m2,m3,m4,λu hu=>by rw[m5];rw[hk]at hu;simpa using hu⟩)
     have hB2:ug Z J is gs dm bX Ff (aL Z' (aG d ci) (bL k x.1 ow tags (.var t) false)) (aW J' (aG d ci) (b0,o0) cs bE) au.flatten:=by
      refine⟨λq Q b hq hb=>?_,λb hb=>hFf b (bD _ hb)⟩
      rcases tq hq with⟨rfl,rfl,_⟩|⟨e,hq'⟩
      ·rw[o8,AL hk]at hb
       exact .inl (hFf b (bP _ (zh b hb)))
      ·rw[(kg (Z:=Z') (J:=J') (R:=bL k x.1 ow tags (.var t) false) e).blk]at hb
       exact B.blk q Q b hq' hb
     have vO:∀u v,dB Z' u->aR cx Z' J' ((b0 :: fK)++au.flatten) w' u v->aR cx (aL Z' (aG d ci) (bL k x.1 ow tags (.var t) false)) (aW J' (aG d ci) (b0,o0) cs bE) au.flatten w' u v:=λu v hu hv=>
      q2.av H' (λr R hr hs=>absurd (kg (λe=>by have:=hr.1;rw[e,hn']at this;simp at this)) hs) (λr R hr hs=>absurd (kg (λe=>by have:=hr.1;rw[e,hn']at this;simp at this)) hs) hu hv
     obtain⟨J'',k1,k2,k3,k4,k5,k6,k7,k8⟩:=ih (ci:=ci+1) q1 hB2 h4 hW (λl tags hN t ht=>q2.tag (dU l tags hN t ht)) (λcj hc h=>by
      rw[jf]
      ·exact hfr cj (by omega) h
      ·intro e;have:=YT e;omega) (λb hb=>hFf b (bD _ hb)) (λh=>absurd h (Nat.succ_ne_zero _)) (λh=>absurd h (Nat.succ_ne_zero _))
     have hroot:(aL Z' (aG d ci) (bL k x.1 ow tags (.var t) false)).roots (aG d ci)=some (bL k x.1 ow tags (.var t) false):=fF ..
     have D9:dB (aL Z' (aG d ci) (bL k x.1 ow tags (.var t) false)) (.ptr (aG d ci) [] 0):=⟨_,hroot,.inr (dY _)⟩
     refine⟨J'',k1,⟨k6 _ _ D9 (by rw[h3];exact am0),k2⟩,?_,k4,k5,λu v hu hv=>?_,λt ht=>k7 t (q2.tag ht),λu hu=>k8 u (q2.dB hu)⟩
     ·intro v hv
      rcases bH.1 hv with h|h
      ·subst h
       exact k8 _ D9
      ·exact k3 v h
     ·exact k6 u v (q2.dB hu) (vO u v hu hv)
    |into j q=>
     obtain⟨⟨rfl,hI⟩,h4⟩:=hL
     obtain⟨hci,rfl,rfl,i,r,q',wt,ht,R,g1,g2,g0,g3,hA⟩:=hW
     cases us with
     |cons _ _=>exact h4.elim
     |nil=>
      cases au with
      |cons _ _=>exact h4.elim
      |nil=>
       have key:∃av,as=[av]/\aR cx Z' J' [] w' av u/\dB Z' av:=by
        simp only[oW,GQ,jJ]at hcut rD
        rcases hA with⟨hp,rfl⟩|⟨hp,hA⟩
        ·rcases hI with⟨_,b,n,cp,e1,e2,e3⟩|⟨hp',_⟩
         ·obtain⟨k1,k2⟩:=hcut hci ⟨_,_,rfl⟩ j i r q' wt ht R b n cp _ g1 g2 g0 g3 e2 e3
          exact⟨_,rfl,by rw[e1];exact k1,k2⟩
         ·exact absurd hp hp'
        ·rcases hI with⟨hp',_⟩|⟨_,hI⟩
         ·exact absurd hp' hp
         ·rcases hA with⟨hm,rfl⟩|⟨hm,rfl⟩
          ·rcases hI with⟨_,hv⟩|⟨hm',_⟩
           ·exact⟨_,rfl,hv,trivial⟩
           ·exact absurd hm (by omega)
          ·obtain⟨k1,k2⟩:=rD hci ⟨_,_,rfl⟩ j i r q' wt ht R q _ u g1 g2 g0 g3 hm hI
           exact⟨_,rfl,k1,k2⟩
       obtain⟨av,rfl,k1,k2⟩:=key
       simp only[oW,GQ,jJ]at H' B
       refine⟨J',H',⟨k1,trivial⟩,λv hv=>?_,rfl,B,λ_ _ _ h=>?_,λ_ h=>h,λ_ h=>h⟩
       ·simp only[gW]at hv
        subst hv
        exact k2
       ·simp only[oW,GQ,jJ]at h
        exact h
end
end
section
open Go
variable [Fr]
section
variable {P:Program}{T:bF}{cx:Cx}{Z:St}{J:aF}{F:List Nat}{a:Act}{w w':World}
theorem aa7:∀{ps:List aH} {c:Cont (kin ps)} {vs:List Value} {is:List aQ} {ts:List (Value×dS)},pU cx Z J F a w ps c vs is ts->
  is.flatMap aQ.ws=cO ts/\(∀q∈ts,p_ cx Z J F w q.1 q.2)/\(∀t∈l_ ts,∃(j:Nat) (i:aQ) (k:K) (ow:List TypeId),ps[j]?=some (.own k ow)/\is[j]?=some i/\t∈i.ids)/\vs.length=ps.length/\is.length=ps.length:=by
 intro ps
 induction ps with
 |nil=>
  intro c vs is ts h
  cases vs with
  |cons _ _=>exact h.elim
  |nil=>cases is with
   |cons _ _=>exact h.elim
   |nil=>cases ts with
    |cons _ _=>exact h.elim
    |nil=>exact⟨rfl,by simp,by simp[l_],rfl,rfl⟩
 |cons p ps ih=>
  intro c vs is ts h
  cases vs with
  |nil=>cases p<;>exact h.elim
  |cons v vs=>
   cases is with
   |nil=>cases p<;>exact h.elim
   |cons i is=>
    have hshift:∀{ts:List (Value×dS)},(∀t∈l_ ts,∃(j:Nat) (i:aQ) (k:K) (ow:List TypeId),ps[j]?=some (.own k ow)/\is[j]?=some i/\t∈i.ids)->∀t∈l_ ts,∃(j:Nat) (i':aQ) (k:K) (ow:List TypeId),(p :: ps)[j]?=some (.own k ow)/\(i :: is)[j]?=some i'/\t∈i'.ids:=by
     intro ts h t ht
     obtain⟨j,i',k,ow,h1,h2,h3⟩:=h t ht
     exact⟨j+1,i',k,ow,by simpa using h1,by simpa using h2,h3⟩
    cases p with
    |val k bB=>obtain⟨⟨_,h1,_⟩,h6⟩:=h;obtain⟨g1,g2,g3,g4,g5⟩:=ih h6;exact⟨by simp[h1,g1],g2,hshift g3,by simp[g4],by simp[g5]⟩
    |ro k=>obtain⟨⟨_,h1,_⟩,h6⟩:=h;obtain⟨g1,g2,g3,g4,g5⟩:=ih h6;exact⟨by simp[h1,g1],g2,hshift g3,by simp[g4],by simp[g5]⟩
    |rw k ow wt ht=>obtain⟨⟨r,R,p,hP,_⟩,h6⟩:=h;obtain⟨g1,g2,g3,g4,g5⟩:=ih h6;exact⟨by simp[hP.ws,g1],g2,hshift g3,by simp[g4],by simp[g5]⟩
    |dH k ow wt=>obtain⟨⟨r,R,p,hP,_⟩,h6⟩:=h;obtain⟨g1,g2,g3,g4,g5⟩:=ih h6;exact⟨by simp[hP.ws,g1],g2,hshift g3,by simp[g4],by simp[g5]⟩
    |fn f ks=>obtain⟨⟨_,h1,_⟩,h6⟩:=h;obtain⟨g1,g2,g3,g4,g5⟩:=ih h6;exact⟨by simp[h1,g1],g2,hshift g3,by simp[g4],by simp[g5]⟩
    |own k ow=>
     cases ts with
     |nil=>exact h.elim
     |cons q ts=>
      obtain⟨⟨h1,h2,h3,h4,h5⟩,h6⟩:=h
      obtain⟨g1,g2,g3,g4,g5⟩:=ih h6
      refine⟨?_,?_,?_,by simp[g4],by simp[g5]⟩
      ·rw[h3];simp[g1,cO]
      ·intro q' hq
       rcases bH.1 hq with h|h
       ·subst h;rw[h1];exact h2
       ·exact g2 q' h
      ·intro t ht
       simp only[l_,kK,cZ]at ht
       rcases ht with ht|ht
       ·exact⟨0,i,k,ow,rfl,rfl,by rw[h3];exact ht⟩
       ·exact hshift g3 t ht
    |into j q=>obtain⟨⟨_,h1,_⟩,h6⟩:=h;obtain⟨g1,g2,g3,g4,g5⟩:=ih h6;exact⟨by simp[h1,g1],g2,hshift g3,by simp[g4],by simp[g5]⟩
def LD(is:List aQ)(p:aH)(i:aQ):Prop:=
 (∃(k:K) (bB:List Nat),p=.val k bB/\(∀m∈bB,∃q:aQ,is[m]?=some q/\q.wb≠none)/\∀t∈i.ids,(∃(n:Nat) (j':aQ),fB t.1 is 0=some n/\n∈bB/\is[n]?=some j'/\∀b∈j'.bt,b∉k.tys)\/(fB t.1 is 0=none/\t.1∉is.flatMap λj=>j.ws.flatMap Wr.dR))\/
  ((∀k bB,p≠.val k bB)/\∀t∈i.ids,t.1∉is.flatMap aQ.touched)
theorem aoK{is:List aQ}:∀{ps:List aH} {l:List aQ},xZ is ps l=true->∀(j:Nat) (p:aH) (i:aQ),ps[j]?=some p->l[j]?=some i->LD is p i:=by
 intro ps
 induction ps with
 |nil=>intro l _ j p i hp;simp at hp
 |cons p ps ih=>
  intro l h j q i hq hi
  cases l with
  |nil=>cases p<;>simp[xZ]at h
  |cons x l=>
   have hhead:(j=0->q=p/\i=x):=by
    intro e
    subst e
    simp only[qC,aa]at hq hi
    exact⟨hq.symm,hi.symm⟩
   have zy:xZ is ps l=true->j≠0->LD is q i:=by
    intro h hj
    obtain⟨j',rfl⟩:∃j',j=j'+1:=⟨j-1,by omega⟩
    exact ih h j' q i (by simpa using hq) (by simpa using hi)
   have hother:(∀(k:K) (bB:List Nat),p≠.val k bB)->(x.ids.all (λt=>!ah t.1 (is.flatMap aQ.touched))&&xZ is ps l)=true->LD is q i:=by
    intro hp hx
    rw[bg]at hx
    by_cases hj:j=0
    ·obtain⟨e1,e2⟩:=hhead hj
     rw[e1,e2]
     refine .inr ⟨hp,λt ht=>?_⟩
     have:=dX.1 hx.1 t ht
     simpa[gq]using this
    ·exact zy hx.2 hj
   cases p with
   |val k bB=>
    simp only[xZ,bg]at h
    by_cases hj:j=0
    ·obtain⟨rfl,rfl⟩:=hhead hj
     refine .inl ⟨k,bB,rfl,λm hm=>?_,λt ht=>?_⟩
     ·have:=dX.1 h.1.1 m hm
      cases VX:is[m]? with
      |none=>rw[VX]at this;simp at this
      |some q=>
       rw[VX]at this
       refine⟨q,rfl,λe=>?_⟩
       simp[e]at this
     ·have:=dX.1 h.1.2 t ht
      cases hpo:fB t.1 is 0 with
      |none=>
       rw[hpo]at this
       refine .inr ⟨rfl,?_⟩
       simpa[gq]using this
      |some n=>
       rw[hpo]at this
       simp only[bg]at this
       cases hni:is[n]? with
       |none=>rw[hni]at this;simp at this
       |some j'=>
        rw[hni]at this
        refine .inl ⟨n,j',rfl,fA.1 this.1,hni,λb hb=>?_⟩
        have h2:=dX.1 this.2 b hb
        simpa[gq]using h2
    ·exact zy h.2 hj
   |ro k=>exact hother (by simp) h
   |rw k ow wt ht=>exact hother (by simp) h
   |dH k ow wt=>exact hother (by simp) h
   |own k ow=>exact hother (by simp) h
   |fn f ks=>exact hother (by simp) h
   |into j q=>exact hother (by simp) h
theorem aa0{Z1:St}{gp:Bool}:∀{ps:List aH} {is:List aQ} {c:Cont (gF ps)} {ws:List Wr},(∀i∈is,∀r q,i.wb=some (r,q)->Z1.roots r=Z.roots r)->mY gp Z ps is c ws->mY gp Z1 ps is c ws:=by
 intro ps
 induction ps with
 |nil=>
  intro is c ws _ h
  cases is with
  |nil=>exact h
  |cons _ _=>exact h.elim
 |cons p ps ih=>
  intro is c ws hr h
  cases is with
  |nil=>cases p<;>exact h.elim
  |cons i is=>
   have hr':∀i∈is,∀r q,i.wb=some (r,q)->Z1.roots r=Z.roots r:=λi hi=>hr i (by simp[hi])
   cases p with
   |rw kk ow uT ht0=>obtain⟨r,p,wt,ht,R,z,ws',h1,h2,h3,h4,h5⟩:=h;exact⟨r,p,wt,ht,R,z,ws',h1,by rw[hr i (by simp) r _ h1];exact h2,h3,h4,ih hr' h5⟩
   |dH kk ow uT=>obtain⟨r,p,wt,ht,R,z,ws',h1,h2,h3,h4,h5⟩:=h;exact⟨r,p,wt,ht,R,z,ws',h1,by rw[hr i (by simp) r _ h1];exact h2,h3,h4,ih hr' h5⟩
   |val _ _=>exact ih hr' h
   |ro _=>exact ih hr' h
   |own _ _=>exact ih hr' h
   |fn _ _=>exact ih hr' h
   |into _ _=>exact ih hr' h
theorem adT{as:List AV}{us:List Value}(h:gU cx Z J F w as us):iL cx Z J F w (LQ as) (tY us):=by
 cases as with
 |nil=>cases us with
  |nil=>exact⟨[],rfl,trivial⟩
  |cons _ _=>exact h.elim
 |cons x as=>cases us with
  |nil=>exact h.elim
  |cons u us=>
   cases as with
   |nil=>cases us with
    |nil=>exact h.1
    |cons _ _=>exact h.2.elim
   |cons y as=>cases us with
    |nil=>exact h.2.elim
    |cons u' us=>exact⟨u :: u' :: us,rfl,h⟩
theorem adS{as:List AV}(h:∀v∈as,dB Z v):mG Z (LQ as):=by
 cases as with
 |nil=>exact λa ha=>by simp at ha
 |cons x as=>cases as with
  |nil=>exact h x (by simp)
  |cons y as=>exact h
theorem am8{A:Type}{f g:A->List Nat}:∀{l:List A},(∀x∈l,(g x).Sublist (f x))->(l.flatMap f).Nodup->(l.flatMap g).Nodup:=by
 intro l hs h
 refine h.sublist ?_
 clear h
 induction l with
 |nil=>simp
 |cons x l ih=>
  simp only[kK]
  exact(hs x (by simp)).append (ih (λy hy=>hs y (by simp[hy])))
theorem af4{A:Type}{f:A->List Nat}:∀{l:List A} {x:A},x∈l->(l.flatMap f).Nodup->(f x).Nodup:=by
 intro l
 induction l with
 |nil=>intro x hx;simp at hx
 |cons y l ih=>
  intro x hx h
  simp only[kK]at h
  have n:=dA.1 h
  rcases bH.1 hx with h1|h1
  ·subst h1;exact n.1
  ·exact ih h1 n.2.1
theorem uh.mono{f:FuncId}{args:Array Value}{R R':Value->World->Prop}(h:uh P f args w R)(hr:∀v w',R v w'->R' v w'):uh P f args w R':=by
 rcases h with⟨h1,h2⟩|⟨v,w',h1,h2⟩
 ·exact .inl ⟨h1,h2.mono λe w' ⟨v,he,h⟩=>⟨v,he,hr _ _ h⟩⟩
 ·exact .inr ⟨v,w',h1,hr _ _ h2⟩
theorem amw{uP:List aH}{all:List aQ}:∀{ps:List aH} {is:List aQ},zH uP all ps is=true->∀(j m:Nat) (p:List (Option Nat)) (i:aQ) (r:Nat) (q:List Stp),ps[j]?=some (.into m p)->is[j]?=some i->i.lie=some (r,q)->
  ∃(k:K) (ow wt ht:List TypeId) (i':aQ) (q':List Stp) (u:List TypeId×List TypeId),uP[m]?=some (.rw k ow wt ht)/\all[m]?=some i'/\i'.wb=some (r,q',u)/\q=q'++q.drop (q.length-p.length):=by
 intro ps
 induction ps with
 |nil=>intro is _ j m p i r q h1;simp at h1
 |cons p0 ps ih=>
  intro is h j m p i r q h1 h2 h3
  cases is with
  |nil=>simp at h2
  |cons i0 is=>
   cases j with
   |succ j=>
    have h':zH uP all ps is=true:=by
     cases p0 with
     |into _ _=>simp only[zH,bg]at h;exact h.2
     |_=>exact h
    exact ih h' j m p i r q (by simpa using h1) (by simpa using h2) h3
   |zero=>
    simp only[qC,aa]at h1 h2
    subst h1 h2
    simp only[zH,bg]at h
    have h:=h.1
    unfold YQ at h
    rw[h3]at h
    simp only at h
    cases hm:uP[m]? with
    |none=>rw[hm]at h;simp at h
    |some p1=>
     rw[hm]at h
     cases ha:all[m]? with
     |none=>rw[ha]at h;cases p1<;>simp at h
     |some b=>
      rw[ha]at h
      cases p1 with
      |rw k ow wt ht=>
       simp only at h
       cases hw:b.wb with
       |none=>rw[hw]at h;simp at h
       |some u=>
        obtain⟨r',q',u1,u2⟩:=u
        rw[hw]at h
        simp only[bg]at h
        obtain⟨⟨⟨c1,c2⟩,c3⟩,c4⟩:=h
        have e1:=a_ c1
        have e2:=a_ c2
        have e3:=EX c3 (by rw[xG c4,xG (JM c3 c4)])
        subst e1
        refine⟨k,ow,wt,ht,b,q',(u1,u2),rfl,rfl,hw,?_⟩
        have e4:q.length-p.length=q'.length:=by omega
        rw[e4]
        conv=>rhs;rw[e3]
        rw[<-e3]
        exact(Am q'.length q).symm.trans (by rw[<-e3])
      |_=>simp at h
theorem aef{n:Nat}{E:Entry}(hE:bC P n E)(H:Rel cx Z J F a w){dst:Option Nat}{lT:List AV}{vs:List Value}(hl:gU cx Z J F w lT vs)(DY:∀v∈lT,dB Z v)(hdn:∀d,dst=some d->d<cx.nt){ws:List Wr}
  (h:(Mi n E dst lT λws=>(.ret ws:Prog (List Wr))).ends Z ws):uh P E.f vs.toArray w λv w'=>∃J' F',Rel cx (aB ws Z) J' F' (a.put dst v) w':=by
 unfold Mi at h
 obtain⟨c,is,ts,hG,h⟩:=agd H hl DY h
 obtain⟨gw,gt,gtt,gl1,gl2⟩:=aa7 hG
 rcases bz h with⟨hc,h⟩|⟨_,h⟩
 ·rw[bg,bg,bg]at hc
  obtain⟨⟨⟨hap,ho⟩,hvo⟩,hlo⟩:=hc
  have hnd:=Dk.1 hap
  have hone:∀(j j':Nat) (i i':aQ) (r:Nat) (u u':List Stp×List TypeId×List TypeId),is[j]?=some i->is[j']?=some i'->i.wb=some (r,u)->i'.wb=some (r,u')->j=j':=by
   intro j j' i i' r u u' h1 h2 h3 h4
   refine jI λhne=>?_
   exact flatMap_apart hnd h1 h2 hne r (by unfold aQ.touched;rw[h3];simp) (by unfold aQ.touched;rw[h4];simp)
  obtain⟨out,hout,h⟩:=h
  obtain⟨mh,hB,h⟩:=adU h
  have hvs:=aoK hvo
  have Bq:(cO ts).flatMap Wr.dR=is.flatMap λi=>i.ws.flatMap Wr.dR:=by rw[<-gw,List.flatMap_assoc]
  have ahO:((cO ts).flatMap Wr.dR).Nodup:=by
   rw[Bq]
   exact am8 (λi _=>by unfold aQ.touched;exact List.sublist_append_right _ _) hnd
  have ahP:∀r,r∈(cO ts).flatMap Wr.dR->r∈is.flatMap aQ.touched:=by
   intro r hr
   rw[Bq]at hr
   obtain⟨i,hi,h1⟩:=nN.1 hr
   exact nN.2 ⟨i,hi,by unfold aQ.touched;exact bD _ h1⟩
  have Wv:∀(m:Nat) (i:aQ) r q,is[m]?=some i->i.wb=some (r,q)->r∉(cO ts).flatMap Wr.dR:=by
   intro m i r q hi hw hr
   rw[Bq]at hr
   obtain⟨i',hi',h1⟩:=nN.1 hr
   obtain⟨m',hm',he⟩:=u_.1 hi'
   have hi2:is[m']?=some i':=by rw[gK hm',he]
   have ht1:r∈i.touched:=by unfold aQ.touched;rw[hw];simp
   by_cases e:m=m'
   ·subst e
    rw[hi]at hi2
    simp only[aa]at hi2
    subst hi2
    have:=af4 hi' hnd
    unfold aQ.touched at this
    rw[hw]at this
    simp only[iR,jq]at this
    exact(jB.1 this).1 h1
   ·exact flatMap_apart hnd hi hi2 e r ht1 (by unfold aQ.touched;exact bD _ h1)
  have IG:∀(j:Nat) (i:aQ),is[j]?=some i->∀t∈i.ids,t.1∉(cO ts).flatMap Wr.dR:=by
   intro j i hi t ht hr
   have hj:j<E.ps.length:=by have:=(nL.1 hi).1;omega
   rcases hvs j E.ps[j] i (gK hj) hi with⟨k,bB,_,_,h1⟩|⟨_,h1⟩
   ·rcases h1 t ht with⟨n,j',h2,_,_,_⟩|⟨_,h2⟩
    ·obtain⟨i',q,_,h3,h4⟩:=uO h2
     simp only[Nat.sub_zero]at h3
     exact Wv n i' t.1 q h3 h4 hr
    ·exact h2 (by rw[<-Bq];exact hr)
   ·exact h1 t ht (ahP _ hr)
  obtain⟨aV,F1,hs,H1,hA1,xA,hnF1,ao8,hS1,_,hV1,ah0,ahz⟩:=takes ts H gt ahO (λt ht=>by
   obtain⟨j,i,k,ow,h1,h2,h3⟩:=gtt t ht
   exact IG j i h2 t h3)
  have agx:∀i∈is,∀t∈i.ids,Same Z J (aB (cO ts) Z) aV t.1:=by
   intro i hi t ht
   obtain⟨j,hj,he⟩:=u_.1 hi
   exact hS1 _ (IG j i (by rw[gK hj,he]) t ht)
  have M9:∀i∈is,∀r q,i.wb=some (r,q)->Same Z J (aB (cO ts) Z) aV r:=by
   intro i hi r q hw
   obtain⟨j,hj,he⟩:=u_.1 hi
   exact hS1 _ (Wv j i r q (by rw[gK hj,he]) hw)
  have VV:=amw hlo
  obtain⟨gs,hJ,hfl⟩:=adR H1 hV1 hG hA1 agx M9 (λj m p i r q h1 h2 h3=>by
   obtain⟨_,_,_,_,i',q',u,_,g2,g3,_⟩:=VV j m p i r q h1 h2 h3
   exact M9 i' (pX g2) r _ g3)
  obtain⟨lv,li,lg,hat⟩:=hJ.at (i0:=0)
  have hA:Apart cx (aB (cO ts) Z) aV F1 w E.ps is gs:=by
   refine⟨hone,by rw[hfl];exact xA,λj p i r n hp hi hn m i' q hm hq=>?_,λj p hp m hm=>?_,VV⟩
   ·rcases hvs j p i hp hi with⟨k,bB,h0,_,h1⟩|⟨_,h1⟩
    ·rcases h1 (r,n) hn with⟨n',j',h2,h3,h4,h5⟩|⟨h2,_⟩
     ·obtain⟨vU,q',_,h6,h7⟩:=uO h2
      simp only[Nat.sub_zero]at h6
      have e:=hone n' m vU i' r q' q h6 hm h7 hq
      subst e
      rw[hm]at h4
      simp only[aa]at h4
      subst h4
      subst h0
      exact⟨h3,k,bB,rfl,h5⟩
     ·exact absurd hq (Zt h2 i' (pX hm) q)
    ·refine absurd ?_ (h1 (r,n) hn)
     exact nN.2 ⟨i',pX hm,by unfold aQ.touched;rw[hq];simp⟩
   ·have hj:j<is.length:=by have:=(nL.1 hp).1;omega
    rcases hvs j p is[j] hp (gK hj)with⟨k,bB,h0,h1,_⟩|⟨h0,_⟩
    ·subst h0
     obtain⟨q,h2,h3⟩:=h1 m hm
     cases hw:q.wb with
     |none=>exact absurd hw h3
     |some u=>exact⟨q,u,h2,hw⟩
    ·cases p with
     |val k bB=>exact absurd rfl (h0 k bB)
     |_=>simp[zN]at hm
  have hinit:=aii H1 hJ hA
  have ahG:G9 (iB cx (aB (cO ts) Z) aV F1 w E.ps c is gs) E.ps:=ano H1 hJ
  refine(hE c out hout _ _ vs.toArray w rfl rfl (by simpa using gl1) ahG hinit).mono ?_
  rintro v w' ⟨dm,bX,Ff,af,us,au,Hf,hv,hRL,hfn,zf,Vl⟩
  have hB1:mY (!tK is) (aB (cO ts) Z) E.ps is (Cont.snd (iq E.rs) (gF E.ps) out) mh:=aa0 (λi hi r q hw=>(M9 i hi r q hw).root) hB
  obtain⟨fZ,H2,DJ,hsl2,D7,Eb,ag4,xD⟩:∃fZ,Rel cx (aB mh (aB (cO ts) Z)) fZ au.flatten a w'/\ug (aB (cO ts) Z) aV is gs dm bX Ff (aB mh (aB (cO ts) Z)) fZ au.flatten/\(aB mh (aB (cO ts) Z)).slots=(aB (cO ts) Z).slots/\
    (∀q,(aB (cO ts) Z).roots q=none->(aB mh (aB (cO ts) Z)).roots q=none)/\(∀t,pO (aB (cO ts) Z) t->pO (aB mh (aB (cO ts) Z)) t)/\
    (∀r R,mh.find? (λw=>w.loc.beq (.r r))=some (.r r (some R))->(aB mh (aB (cO ts) Z)).roots r=some R)/\
    ((∀(j:Nat) (i:aQ) (r:Nat) (q:List Stp) (wt ht:List TypeId),iZ∉ht->is[j]?=some i->i.wb=some (r,q,wt,ht)->∃Rf R' R,dm.roots (aC j)=some Rf/\cz dm Rf/\Rf.g=0/\mh=[.r r (some R')]/\(aB (cO ts) Z).roots r=some R/\bM q R'.k R'.x/\(∀t∈az q R'.k,ah t R'.own=true)/\aA q R'.k R'.x=some ⟨Rf.k,Rf.x⟩/\
     (cz (aB mh (aB (cO ts) Z)) R'->∃wh,aN (hp w') q R'.k (fZ.hdr r) (aK fZ R' r)=some (bX.hdr (aC j),wh)))\/∀p∈E.rs,JP p=true):=by
   cases ho1:tK is with
   |true=>
    rw[ho1,iM]at hB1
    obtain⟨fZ,H2,DJ,hsl2,D7,Eb,Bz,xD⟩:=adY H1 hJ ho1 Hf hB1 Vl zf hfn
    refine⟨fZ,H2,DJ,hsl2,D7,Eb,λr R hf=>?_,.inl xD⟩
    rcases Bz with rfl|⟨r',R',rfl⟩
    ·simp at hf
    ·have hm:=List.mem_of_find?_eq_some hf
     simp only[gW,Wr.r.injEq,aa]at hm
     obtain⟨h1,h2⟩:=hm
     rw[h1,h2]
     exact fF ..
   |false=>
    rw[ho1]at hB1 ho
    rw[mq]at hB1
    simp only[FX,bg]at ho
    obtain⟨fZ,H2,DJ,hsl2,D7,Eb,hf2⟩:=adW H1 hJ hA ho.1.1 (dX.1 ho.1.2) Hf hB1 Vl zf hfn
    exact⟨fZ,H2,DJ,hsl2,D7,Eb,hf2,.inr (dX.1 ho.2)⟩
  have ahA:∀l tags,wN Z mh l tags->fC (aB mh (aB (cO ts) Z)) tags:=by
   intro l tags hN t ht
   rcases hN.2 t ht with h|⟨R,hf,hn⟩|⟨R,hr,hn⟩
   ·exact .inl h
   ·exact .inr ⟨R,ag4 _ _ hf,.inr (by rw[hn];exact bT _)⟩
   ·exact Eb t (ah0 t (.inr ⟨R,hr,.inr (by rw[hn];exact bT _)⟩))
  cases dst with
  |none=>
   simp only at h
   rw[bu h,mF,gw]
   exact⟨fZ,_,H2⟩
  |some d=>
   simp only at h
   obtain⟨as,ws3,hW,h⟩:=anJ h
   rw[bu h,mF,mF,mF,gw]
   obtain⟨α3,k1,k2,k3,k4,_⟩:=adH H1 hJ Hf H2 DJ hRL hW ahA (λcj _ hn=>D7 _ (ahz _ hn)) zf (λ_ hin j i r q wt ht R b n cp m g1 g2 g0 g3 g4 g5=>by
    have xD:=xD.resolve_right λhn=>by obtain⟨j0,p0,e⟩:=hin;have:=hn (.into j0 p0) (by rw[e];simp);simp[JP]at this
    obtain⟨Rf,R',R0,p1,p2,p3,p4,p5,p6,p7,pg,p8⟩:=xD j i r q wt ht g0 g1 g2
    have eR:R=R':=by
     rw[p4]at g3
     simp[Wr.loc,Loc.beq]at g3
     exact g3.symm
    subst eR
    have hroot:(aB mh (aB (cO ts) Z)).roots r=some R:=by
     rw[p4];exact fF ..
    refine⟨⟨b,cp,rfl,λR2 hR2 hv2 _ dd hdd=>?_⟩,R,hroot,.inr (bT _)⟩
    rw[hroot]at hR2
    simp only[aa]at hR2
    subst hR2
    obtain⟨wh,lX⟩:=p8 hv2
    obtain⟨hk,iX⟩:=g5 Rf ⟨p1,p2.1⟩ p3
    have hh:bX.hdr (aC j)=[.slice b n cp]:=by
     unfold VC at iX
     split at iX
     ·simp at iX
     ·exact iX.1
    exact⟨p6,p7,n,wh,by rw[<-hh];exact lX,g4⟩) (λ_ hin j i r q wt ht R p m v g1 g2 g0 g3 hm hI=>by
    have xD:=xD.resolve_right λhn=>by obtain⟨j0,p0,e⟩:=hin;have:=hn (.into j0 p0) (by rw[e];simp);simp[JP]at this
    obtain⟨Rf,R',R0,p1,p2,p3,p4,p5,p6,p7,pg,p8⟩:=xD j i r q wt ht g0 g1 g2
    have eR:R=R':=by
     rw[p4]at g3
     simp[Wr.loc,Loc.beq]at g3
     exact g3.symm
    subst eR
    have hroot:(aB mh (aB (cO ts) Z)).roots r=some R:=by
     rw[p4];exact fF ..
    rcases hI with⟨h,_⟩|⟨_,R1,cs,b,o,q1,q2,q3,q4,q5⟩
    ·exact absurd h hm
    have e1:R1=Rf:=by have:=q1.1;rw[p1]at this;simpa using this.symm
    subst e1
    refine⟨⟨⟨b,o,q5⟩,λR2 hR2 hv2 _ _ _=>?_⟩,R,hroot,.inr (bT _)⟩
    rw[hroot]at hR2
    simp only[aa]at hR2
    subst hR2
    obtain⟨wh,lX⟩:=p8 hv2
    refine⟨G7 q pg p6 q2,cs,b,o,?_,q5⟩
    rw[Fb q pg lX]
    exact(P9 _ _ q3 q4).1 wh)
   refine⟨α3,[],?_⟩
   rw[hv]
   exact k1.put (hdn d rfl) (adS k3) (adT k2)
 ·exact h.elim
end
end
section
open Go
variable [Fr]
section
variable {P:Program}{T:bF}{cx:Cx}{Z:St}{J:aF}{F:List Nat}{a:Act}{w:World}{o:Oper}{ws:List Wr}{hi:Hint}{n:Nat}
def KA(P:Program)(cx:Cx)(o:Oper)(a:Act)(w:World)(Z':St):Prop:=
 ∀(K:Act->World->Prop) (Q:Exit->Act->World->Prop),(∀J' F' a' w',Rel cx Z' J' F' a' w'->K a' w')->o.wp P a w K Q
theorem dn.toW{Z':St}(h:dn P cx o a w Z'):KA P cx o a w Z':=λK Q hK=>h.wp hK
def uV(P:Program)(n:Nat)(hi:Hint):Prop:=∀q∈hi.calls,bC P n q.2.2
theorem afW{f d:Nat}:∀{l:List (Nat×Option Nat×Entry)} {E:Entry},xm f d l=some E->∃q∈l,q.2.2=E:=by
 intro l
 induction l with
 |nil=>intro E h;simp[xm]at h
 |cons q l ih=>
  intro E h
  obtain⟨g,od,E'⟩:=q
  cases od with
  |none=>
   unfold xm at h
   cases hb:Nat.beq f g with
   |true=>rw[hb]at h;simp only[fJ,aa]at h;exact⟨_,jl,h⟩
   |false=>
    rw[hb]at h
    obtain⟨q,h1,h2⟩:=ih h
    exact⟨q,ji _ h1,h2⟩
  |some e=>
   unfold xm at h
   cases hb:(Nat.beq f g&&Nat.beq d e)with
   |true=>rw[hb]at h;simp only[fJ,aa]at h;exact⟨_,jl,h⟩
   |false=>
    rw[hb]at h
    obtain⟨q,h1,h2⟩:=ih h
    exact⟨q,ji _ h1,h2⟩
theorem amz{l m:List AV}{vs us:List Value}(h1:gU cx Z J F w l vs)(h2:gU cx Z J F w m us):gU cx Z J F w (l++m) (vs++us):=by
 induction l generalizing vs with
 |nil=>cases vs with
  |nil=>exact h2
  |cons _ _=>exact h1.elim
 |cons x l ih=>cases vs with
  |nil=>exact h1.elim
  |cons v vs=>exact⟨h1.1,ih h1.2⟩
theorem Un:∀{cs:List (TypeId×Dat×List Tag)} {vs:List Value},mH cx Z J F w cs vs->gU cx Z J F w (cs.map λq=>.eY q.1 q.2.1.1 q.2.1.2 q.2.2) vs
 | [],[],_=>trivial
 |_ :: _,_ :: _,h=>⟨h.1,Un h.2⟩
 | [],_ :: _,h=>h.elim
 |_ :: _,[],h=>h.elim
theorem Uk(hC:uV P n hi)(H:Rel cx Z J F a w){c:Call}(ho:o.op=.call c)(hdn:∀d,o.dst=some d->d<cx.nt)(h:(H6 hi n o.dst c λws=>(.ret ws:Prog (List Wr))).ends Z ws):KA P cx o a w (aB ws Z):=by
 intro K Q hK
 unfold H6 at h
 split at h
 ·rename_i f agP
  obtain⟨fv,h1,h2,h⟩:=iW H h
  cases fv with
  |fn f' caps=>
   simp only at h
   obtain⟨us,e1,e2⟩:=h1
   obtain⟨l,h3,h4,h⟩:=uH H h
   cases hf:xm f' (o.dst.getD 0) hi.calls with
   |none=>rw[hf]at h;exact h.elim
   |some E=>
    rw[hf]at h
    simp only at h
    rcases bz h with⟨hb,h9⟩|⟨_,h⟩
    ·have hEf:E.f=f':=a_ hb
     clear h
     subst hEf
     obtain⟨q,hq,rfl⟩:=afW hf
     have hcall:=aef (hC q hq) H (amz h3 (Un e2)) (λv hv=>by
      rcases cZ.1 hv with h|h
      ·exact h4 v h
      ·obtain⟨cc,hcc,rfl⟩:=eD.1 h
       exact h2 cc hcc) hdn h9
     have hargs:(c.args.toList.map a.eval++us).toArray=c.args.map a.eval++us.toArray:=by
      apply qV
      simp
     rw[hargs]at hcall
     have hrun:(execOp a.eval o).run P w=(callFunc q.2.2.f (c.args.map a.eval++us.toArray)).run P w:=by
      simp only[execOp,ho,resolve,agP,e1,Deferred.ofValue,dG,dW,eZ,invoke,Array.empty_append]
     unfold Oper.wp
     rw[hrun]
     rcases hcall with⟨g1,g2⟩|⟨v,w',g1,J',F',g2⟩
     ·rw[g1]
      refine g2.mono λe w' he=>?_
      obtain⟨v,rfl,J',F',hR⟩:=he
      exact hK _ _ _ _ hR
     ·rw[g1]
      exact hK _ _ _ _ g2
    ·exact h.elim
  |_=>exact h.elim
 ·exact h.elim
theorem aay(hT:eG P T)(hSt:uy P T)(hC:uV P n hi)(H:Rel cx Z J F a w)(hnt:hi.nt=cx.nt)(h:(xR T hi n o λws=>(.ret ws:Prog (List Wr))).ends Z ws):KA P cx o a w (aB ws Z):=by
 unfold xR at h
 cases hd:o.dst with
 |none=>
  rw[hd]at h
  simp only at h
  unfold aax at h
  split at h
  ·rename_i t x v ho
   exact(afl hT H hd ho h).toW
  ·rename_i c ho
   split at h
   ·rename_i hcb
    obtain⟨vs,h1,h2,h⟩:=uH H h
    split at h
    ·split at h
     ·rename_i ht0
      obtain⟨v,w',J',r1,r2⟩:=aeV hT H ho hcb h1 ht0 h
      refine(show dn P cx o a w (aB ws Z)from⟨v,w',J',[],.inl r1,?_⟩).toW
      rw[hd]
      exact r2
     ·exact h.elim
    ·exact h.elim
   ·exact Uk hC H ho (by rw[hd];simp) (by rw[hd];exact h)
  ·exact h.elim
 |some d=>
  rw[hd]at h
  simp only at h
  rcases bz h with⟨hb,h⟩|⟨_,h⟩
  ·have hdn:d<cx.nt:=by
    rw[<-hnt]
    unfold Nat.blt at hb
    exact GY hb
   rcases bz h with⟨_,h⟩|⟨_,h⟩
   ·exact(afk hT H hd hdn h).toW
   rcases bz h with⟨_,h⟩|⟨_,h⟩
   ·exact(afi hT H hd hdn h).toW
   unfold aaw at h
   cases ho:o.op with
   |move x=>rw[ho]at h;exact(afa H hd hdn ho h).toW
   |assign x=>rw[ho]at h;exact(aeP (L:=JL hi d) H hd hdn ho h).toW
   |pick c x y=>rw[ho]at h;exact(afe H hd hdn ho h).toW
   |alloc t=>rw[ho]at h;exact(aeL hT H hd hdn ho h).toW
   |box t x=>rw[ho]at h;exact(aeS H hd hdn ho h).toW
   |build t ps=>rw[ho]at h;exact(UH hT H hd hdn h ho).toW
   |buildSlice t l ps=>rw[ho]at h;exact(aeT (L:=JL hi d) hT H hd hdn h ho).toW
   |load t x=>rw[ho]at h;exact(ae7 hT H hd hdn ho h).toW
   |nilCheck x=>rw[ho]at h;exact(afb H hd hdn ho h).toW
   |binOp op t x y t2=>rw[ho]at h;exact(aeQ hT hSt H hd hdn ho h).toW
   |unOp op t x=>rw[ho]at h;exact(afn H hd hdn ho h).toW
   |convert s t x=>rw[ho]at h;exact(aeX hT H hd hdn ho h).toW
   |field t x n=>rw[ho]at h;exact(ae1 hT H hd hdn ho h).toW
   |fieldAddr t x n=>rw[ho]at h;exact(ae2 hT H hd hdn ho h).toW
   |indexAddr t x y=>rw[ho]at h;exact(ae4 hT H hd hdn ho h).toW
   |index t x y=>rw[ho]at h;exact(ae3 hT H hd hdn ho h).toW
   |extract x i=>rw[ho]at h;exact(ae0 H hd hdn ho h).toW
   |makeSlice t x y=>rw[ho]at h;exact(ae_ hT H hd hdn h ho).toW
   |makeFunc f first caps=>
    rw[ho]at h
    cases f with
    |func f=>exact(ae9 H hd hdn ho h).toW
    |_=>exact h.elim
   |slice t x lo hi2 mx=>rw[ho]at h;exact(afh hT H hd hdn h ho).toW
   |call c=>
    rw[ho]at h
    simp only at h
    split at h
    ·rename_i hcb;exact(ae5 hT H hd hdn ho hcb h).toW
    ·rename_i hcb;exact(aeO hT H hd hdn ho hcb h).toW
    ·rename_i hcb;exact(UI (mx:=false) H hd hdn ho hcb h).toW
    ·rename_i hcb;exact(UI (mx:=true) H hd hdn ho hcb h).toW
    ·exact Uk hC H ho (by rw[hd];intro d2 e;simp only[aa]at e;subst e;exact hdn) (by rw[hd];exact h)
    ·exact h.elim
   |_=>rw[ho]at h;exact h.elim
  ·exact h.elim
end
end
section
open Go
variable [Fr]
def Prog.lU{J:Type}:Prog J->St->List Loc->J->List Loc->Prop
 |.ret a,_,l,x,l'=>x=a/\l'=l
 |.fail,_,_,_,_=>False
 |.slot n k,Z,l,x,l'=>(k (Z.slots n)).lU Z (.s n :: l) x l'
 |.root r k,Z,l,x,l'=>(k (Z.roots r)).lU Z (.r r :: l) x l'
 |.dO c _ k,Z,l,x,l'=>c/\k.lU Z l x l'
 |.br c t e,Z,l,x,l'=>(c=true/\t.lU Z l x l')\/(c=false/\e.lU Z l x l')
 |.opt _ o k,Z,l,x,l'=>∃b,o=some b/\(k b).lU Z l x l'
theorem aaa{J R:Type}(p:Prog J){Z:St}{l:List Loc}{K:J->List Loc->Option R}{r:R}(h:p.rX Z l K=some r):∃x l',p.lU Z l x l'/\K x l'=some r:=by
 induction p generalizing l with
 |ret a=>exact⟨a,l,⟨rfl,rfl⟩,h⟩
 |fail=>simp[Prog.rX]at h
 |slot n k ih=>exact ih _ h
 |root n k ih=>exact ih _ h
 |dO c d k ih=>
  simp only[Prog.rX]at h
  split at h
  ·rename_i hc
   obtain⟨x,l',h1,h2⟩:=ih h
   exact⟨x,l',⟨hc,h1⟩,h2⟩
  ·simp at h
 |br c t e pF pE=>
  simp only[Prog.rX]at h
  cases c with
  |true=>
   simp only[bQ]at h
   obtain⟨x,l',h1,h2⟩:=pF h
   exact⟨x,l',.inl ⟨rfl,h1⟩,h2⟩
  |false=>
   simp only[bY,bO]at h
   obtain⟨x,l',h1,h2⟩:=pE h
   exact⟨x,l',.inr ⟨rfl,h1⟩,h2⟩
 |opt β o k ih=>
  simp only[Prog.rX]at h
  cases o with
  |none=>simp at h
  |some b=>
   simp only[bf]at h
   obtain⟨x,l',h1,h2⟩:=ih b h
   exact⟨x,l',⟨b,rfl,h1⟩,h2⟩
theorem UX{J:Type}(p:Prog J){Z:St}{l l':List Loc}{x:J}(h:p.lU Z l x l'):p.ends Z x:=by
 induction p generalizing l with
 |ret a=>exact h.1
 |fail=>exact h.elim
 |slot n k ih=>exact ih _ h
 |root n k ih=>exact ih _ h
 |dO c d k ih=>exact⟨h.1,ih h.2⟩
 |br c t e pF pE=>exact h.imp (λh=>⟨h.1,pF h.2⟩) (λh=>⟨h.1,pE h.2⟩)
 |opt β o k ih=>obtain⟨b,h1,h2⟩:=h;exact⟨b,h1,ih b h2⟩
theorem UY{J:Type}(p:Prog J){Z:St}{x:J}(h:p.ends Z x):∀l,∃l',p.lU Z l x l':=by
 induction p with
 |ret a=>exact λl=>⟨l,h,rfl⟩
 |fail=>exact h.elim
 |slot n k ih=>exact λl=>ih _ h _
 |root n k ih=>exact λl=>ih _ h _
 |dO c d k ih=>exact λl=>(ih h.2 l).imp λ_ h'=>⟨h.1,h'⟩
 |br c t e pF pE=>
  intro l
  rcases h with h|h
  ·exact(pF h.2 l).imp λ_ h'=>.inl ⟨h.1,h'⟩
  ·exact(pE h.2 l).imp λ_ h'=>.inr ⟨h.1,h'⟩
 |opt β o k ih=>obtain⟨b,h1,h2⟩:=h;exact λl=>(ih b h2 l).imp λ_ h'=>⟨b,h1,h'⟩
theorem MO{J:Type}(p:Prog J){Z:St}{l l':List Loc}{x:J}(h:p.lU Z l x l'):∀y∈l,y∈l':=by
 induction p generalizing l with
 |ret a=>rw[h.2];exact λ_ h=>h
 |fail=>exact h.elim
 |slot n k ih=>exact λy hy=>ih _ h y (by simp[hy])
 |root n k ih=>exact λy hy=>ih _ h y (by simp[hy])
 |dO c d k ih=>exact ih h.2
 |br c t e pF pE=>rcases h with h|h;exact pF h.2;exact pE h.2
 |opt β o k ih=>obtain⟨b,h1,h2⟩:=h;exact ih b h2
def agree(Z τ:St):Loc->Prop
 |.s n=>τ.slots n=Z.slots n
 |.r n=>τ.roots n=Z.roots n
theorem UW{J:Type}(p:Prog J){Z τ:St}{l l':List Loc}{x:J}(h:p.lU Z l x l')(ha:∀y∈l',agree Z τ y):p.lU τ l x l':=by
 induction p generalizing l with
 |ret a=>exact h
 |fail=>exact h.elim
 |slot n k ih=>
  have h':(k (Z.slots n)).lU Z (.s n :: l) x l':=h
  have:=ha (.s n) (MO _ h' _ jl)
  show(k (τ.slots n)).lU τ _ _ _
  rw[show τ.slots n=Z.slots n from this]
  exact ih _ h
 |root n k ih=>
  have h':(k (Z.roots n)).lU Z (.r n :: l) x l':=h
  have:=ha (.r n) (MO _ h' _ jl)
  show(k (τ.roots n)).lU τ _ _ _
  rw[show τ.roots n=Z.roots n from this]
  exact ih _ h
 |dO c d k ih=>exact⟨h.1,ih h.2⟩
 |br c t e pF pE=>exact h.imp (λh=>⟨h.1,pF h.2⟩) (λh=>⟨h.1,pE h.2⟩)
 |opt β o k ih=>obtain⟨b,h1,h2⟩:=h;exact⟨b,h1,ih b h2⟩
theorem YU{a b:Loc}:a.beq b=true↔a=b:=by
 cases a<;>cases b<;>simp[Loc.beq]
theorem Y3{x:Loc}{l:List Loc}:BN x l=true↔x∈l:=by
 induction l with
 |nil=>simp[BN]
 |cons y l ih=>
  simp only[BN,bH]
  cases h:x.beq y with
  |true=>simp[YU.1 h]
  |false=>
   have:x≠y:=λe=>by rw[e]at h;rw[(YU (a:=y) (b:=y)).2 rfl]at h;simp at h
   simp[this,ih]
theorem TS{a b:List Loc}:Hz a b=true↔∀x∈a,x∉b:=by
 unfold Hz
 rw[dX]
 refine⟨λh x hx hb=>?_,λh x hx=>?_⟩
 ·have:=h x hx
  rw[Y3.2 hb]at this
  simp at this
 ·cases hm:BN x b with
  |false=>rfl
  |true=>exact absurd (Y3.1 hm) (h x hx)
theorem LP(wr:Wr)(Z:St){y:Loc}(h:y≠wr.loc):agree Z (wr.app Z) y:=by
 cases wr with
 |s n a=>
  cases y with
  |s m=>exact upd_ne _ _ (λe=>h (by rw[e];rfl))
  |r m=>rfl
 |r n o=>
  cases o with
  |none=>
   cases y with
   |s m=>rfl
   |r m=>exact upd_ne _ _ (λe=>h (by rw[e];rfl))
  |some R=>
   cases y with
   |s m=>rfl
   |r m=>exact upd_ne _ _ (λe=>h (by rw[e];rfl))
theorem adJ{Z τ ρ:St}{y:Loc}(h1:agree Z τ y)(h2:agree τ ρ y):agree Z ρ y:=by
 cases y with
 |s n=>exact h2.trans h1
 |r n=>exact h2.trans h1
theorem Az:∀(ws:List Wr) (Z:St) {y:Loc},y∉ws.map Wr.loc->agree Z (aB ws Z) y
 | [],Z,y,_=>by cases y<;>rfl
 |w :: ws,Z,y,h=>by
  simp only[jh,bH,not_or]at h
  exact adJ (LP w Z h.1) (Az ws _ h.2)
theorem St.ext'{Z τ:St}(h:∀y,agree Z τ y):τ=Z:=by
 obtain⟨s,r⟩:=Z
 obtain⟨s',r'⟩:=τ
 have h1:s'=s:=funext λn=>h (.s n)
 have h2:r'=r:=funext λn=>h (.r n)
 subst h1
 subst h2
 rfl
theorem TV(w:Wr)(Z τ:St):agree (w.app Z) (w.app τ) w.loc:=by
 cases w with
 |s n a=>show upd τ.slots n a n=upd Z.slots n a n;rw[upd_same,upd_same]
 |r n o=>cases o<;>(show upd _ n _ n=upd _ n _ n;rw[upd_same,upd_same])
theorem adN(w:Wr){Z τ:St}{y:Loc}(h:agree Z τ y):agree (w.app Z) (w.app τ) y:=by
 by_cases e:y=w.loc
 ·subst e;exact TV w Z τ
 ·have h1:=LP w Z e
  have h2:=LP w τ e
  cases y with
  |s n=>exact h2.trans (h.trans h1.symm)
  |r n=>exact h2.trans (h.trans h1.symm)
theorem LJ:∀(ws:List Wr) {Z τ:St} {y:Loc},agree Z τ y->agree (aB ws Z) (aB ws τ) y
 | [],_,_,_,h=>h
 |w :: ws,_,_,_,h=>LJ ws (adN w h)
theorem TU:∀(ws:List Wr) {Z τ:St} {y:Loc},y∈ws.map Wr.loc->agree (aB ws Z) (aB ws τ) y
 | [],_,_,_,h=>by simp at h
 |w :: ws,Z,τ,y,h=>by
  simp only[jh,bH]at h
  by_cases e:y∈ws.map Wr.loc
  ·exact TU ws e
  ·have e2:y=w.loc:=h.resolve_right e
   subst e2
   exact LJ ws (TV w Z τ)
theorem adM{u v:List Wr}(h:∀x∈u.map Wr.loc,x∉v.map Wr.loc)(Z:St):aB u (aB v Z)=aB v (aB u Z):=by
 refine St.ext' λy=>?_
 by_cases hu:y∈u.map Wr.loc
 ·have h1:agree (aB u Z) (aB v (aB u Z)) y:=Az v _ (h y hu)
  have h2:agree (aB u Z) (aB u (aB v Z)) y:=TU u hu
  cases y with
  |s n=>exact h2.trans h1.symm
  |r n=>exact h2.trans h1.symm
 ·have h1:agree (aB v Z) (aB u (aB v Z)) y:=Az u _ hu
  have h2:agree (aB v Z) (aB v (aB u Z)) y:=by
   refine LJ v ?_
   have:=Az u Z hu
   cases y with
   |s n=>exact this
   |r n=>exact this
  cases y with
  |s n=>exact h1.trans h2.symm
  |r n=>exact h1.trans h2.symm
section
variable {P:Program}{T:bF}{hi:Hint}{n:Nat}{ops:Array Oper}
inductive vk(T:bF)(hi:Hint)(n:Nat)(ops:Array Oper)(o:Oper)(Z:St):List Wr->List Loc->Prop
 |plain (ws:List Wr) (rd:List Loc) (hg:guardOf ops o=none) (h:(xR T hi n o λws=>(.ret ws:Prog (List Wr))).lU Z [] ws rd):vk T hi n ops o Z ws rd
 |done (s:Nat) (want:Bool) (tg:List Tag) (ws:List Wr) (rd:List Loc) (hg:guardOf ops o=some (some s,want)) (hs:Z.slots s=.one (.val .bool want tg)) (h:(xR T hi n o λws=>(.ret ws:Prog (List Wr))).lU Z [.s s] ws rd):vk T hi n ops o Z ws rd
 |skip (s:Nat) (want:Bool) (hg:guardOf ops o=some (some s,want)) (hs:(∃tg,Z.slots s=.one (.val .bool (!want) tg))\/Z.slots s=.mg []) (hd:yU hi o=true):vk T hi n ops o Z (xQ o) [.s s]
theorem vk.agree{o:Oper}{Z τ:St}{ws:List Wr}{rd:List Loc}(h:vk T hi n ops o Z ws rd)(ha:∀y∈rd,Ow.agree Z τ y):vk T hi n ops o τ ws rd:=by
 cases h with
 |plain _ _ hg h=>exact .plain ws rd hg (UW _ h ha)
 |done s want tg _ _ hg hs h=>
  have:=ha (.s s) (MO _ h _ jl)
  exact .done s want tg ws rd hg (by rw[show τ.slots s=Z.slots s from this];exact hs) (UW _ h ha)
 |skip s want hg hs hd=>
  have:=ha (.s s) (by simp)
  exact .skip s want hg (by rw[show τ.slots s=Z.slots s from this];exact hs) hd
theorem ZZ{Z:St}{s:Nat}{b:Bool}{tg:List Tag}(h:Z.slots s=.one (.val .bool b tg)):refine Z s b tg=Z:=by
 unfold refine
 have:upd Z.slots s (.one (.val .bool b tg))=Z.slots:=by
  funext m
  by_cases e:m=s
  ·subst e;rw[upd_same,h]
  ·rw[upd_ne _ _ e]
 rw[this]
theorem Vi{R:Type}{o:Oper}{Z:St}{go skip:List Loc->St->Option R}{r:R}(h:guarded Z ops o go skip=some r) :
  (guardOf ops o=none/\go [] Z=some r)\/(∃s want tg,guardOf ops o=some (some s,want)/\Z.slots s=.one (.val .bool want tg)/\go [.s s] Z=some r)\/
  (∃s want,guardOf ops o=some (some s,want)/\((∃tg,Z.slots s=.one (.val .bool (!want) tg))\/Z.slots s=.mg [])/\skip [.s s] Z=some r):=by
 unfold guarded at h
 cases hg:guardOf ops o with
 |none=>rw[hg]at h;exact .inl ⟨rfl,h⟩
 |some q=>
  obtain⟨os,want⟩:=q
  rw[hg]at h
  cases os with
  |none=>simp at h
  |some s=>
   simp only at h
   refine .inr ?_
   split at h
   ·rename_i b tg hs
    cases b with
    |true=>
     simp only[bQ]at h
     rw[ZZ hs]at h
     cases want with
     |true=>exact .inl ⟨s,true,tg,rfl,hs,h⟩
     |false=>exact .inr ⟨s,false,rfl,.inl ⟨tg,hs⟩,h⟩
    |false=>
     simp only[bY,bO]at h
     rw[ZZ hs]at h
     cases want with
     |true=>exact .inr ⟨s,true,rfl,.inl ⟨tg,hs⟩,h⟩
     |false=>exact .inl ⟨s,false,tg,rfl,hs,h⟩
   ·rename_i hs
    exact .inr ⟨s,want,rfl,.inr hs,h⟩
   ·simp at h
variable {cx:Cx}{Z:St}{J:aF}{F:List Nat}{a:Act}{w:World}
theorem Rel.skipped(H:Rel cx Z J F a w){o:Oper}(hnt:hi.nt=cx.nt)(hd:yU hi o=true):Rel cx (aB (xQ o) Z) J F (a.put o.dst undef) w:=by
 unfold xQ yU at *
 cases ho:o.dst with
 |none=>exact H
 |some d=>
  rw[ho]at hd
  have hdn:d<cx.nt:=by
   rw[<-hnt]
   have:Nat.blt d hi.nt=true:=hd
   unfold Nat.blt at this
   exact GY this
  exact H.put hdn (λa ha=>by simp at ha) ⟨[],rfl,trivial⟩
theorem JS(hT:eG P T)(hSt:uy P T)(hC:uV P n hi)(H:Rel cx Z J F a w)(hnt:hi.nt=cx.nt){i:Nat}{o:Oper}(ho:ops[i]?=some o){ws:List Wr}{rd:List Loc}(h:vk T hi n ops o Z ws rd)
  {K:Act->World->Prop} {Q:Exit->Act->World->Prop} (hK:∀J' F' a' w',Rel cx (aB ws Z) J' F' a' w'->K a' w'):wpOp P ops Q i K a w:=by
 unfold wpOp
 simp only[ho]
 have Wx:∀{s:Nat} {want:Bool},guardOf ops o=some (some s,want)->∃g,o.guard=some (g,want)/\(ops[g]?).bind (·.dst)=some s:=by
  intro s want hg
  unfold guardOf at hg
  cases hgd:o.guard with
  |none=>rw[hgd]at hg;simp at hg
  |some q=>
   obtain⟨g,wt⟩:=q
   rw[hgd]at hg
   simp only[aa,bK]at hg
   exact⟨g,by rw[hg.2],hg.1⟩
 have Wt:∀{s:Nat} {v:Value},a.tmps.getD s undef=v->(∃b,v=.bool b)->a.tmps[s]?=some v:=by
  rintro s v h ⟨b,rfl⟩
  rw[x9]at h
  cases hs:a.tmps[s]? with
  |none=>rw[hs]at h;simp[undef]at h
  |some u=>rw[hs]at h;simpa using h
 cases h with
 |plain _ _ hg h=>
  have hw:Region.wanted o (yielded ops a.tmps)=true:=by
   unfold Region.wanted
   unfold guardOf at hg
   cases hgd:o.guard with
   |none=>rfl
   |some q=>rw[hgd]at hg;simp at hg
  rw[ak hw]
  exact .inl (aay hT hSt hC H hnt (UX _ h) K Q hK)
 |done s want tg _ _ hg hs h=>
  have hw:Region.wanted o (yielded ops a.tmps)=true:=by
   obtain⟨g,h1,h2⟩:=Wx hg
   unfold Region.wanted
   rw[h1]
   have hb:=H.slots s
   rw[hs]at hb
   have:=Cr (show aR cx Z J F w (.val .bool want tg) _ from hb)
   have h3:=Wt this ⟨_,rfl⟩
   show(yielded ops a.tmps g==some want)=true
   unfold yielded
   rw[h2]
   simp only[bf,h3]
   simp
  rw[ak hw]
  exact .inl (aay hT hSt hC H hnt (UX _ h) K Q hK)
 |skip s want hg hs hd=>
  have hw:Region.wanted o (yielded ops a.tmps)=false:=by
   obtain⟨g,h1,h2⟩:=Wx hg
   unfold Region.wanted
   rw[h1]
   have hb:=H.slots s
   show(yielded ops a.tmps g==some want)=false
   unfold yielded
   rw[h2]
   rcases hs with⟨tg,hs⟩|hs
   ·rw[hs]at hb
    have:=Cr (show aR cx Z J F w (.val .bool (!want) tg) _ from hb)
    have h3:=Wt this ⟨_,rfl⟩
    simp only[bf,h3]
    cases want<;>rfl
   ·rw[hs]at hb
    obtain⟨vs,h3,h4⟩:=hb
    cases vs with
    |cons _ _=>exact h4.elim
    |nil=>
     rw[x9]at h3
     simp only[bf]
     cases hs2:a.tmps[s]? with
     |none=>rfl
     |some u=>
      rw[hs2]at h3
      simp only[sF]at h3
      subst h3
      rfl
  rw[aj (by rw[hw];simp)]
  exact hK _ _ _ _ (H.skipped hnt hd)
theorem afM(hT:eG P T)(hSt:uy P T)(hC:uV P n hi)(hnt:hi.nt=cx.nt){R:Type}{K:St->Option R}{r:R}{Q:Exit->Act->World->Prop}(hQ:∀Z' J' F' a' w',K Z'=some r->Rel cx Z' J' F' a' w'->Q .normal a' w') :
  ∀(l:List Oper) (i:Nat) {Z:St} {J:aF} {F:List Nat} {a:Act} {w:World},ops.toList.drop i=l->Dy T hi n ops l Z K=some r->Rel cx Z J F a w->wpOps P ops Q (List.range' i l.length) a w:=by
 intro l
 induction l with
 |nil=>intro i Z J F a w _ h H;exact hQ _ _ _ _ _ h H
 |cons o l ih=>
  intro i Z J F a w hl h H
  have hoi:ops[i]?=some o:=by
   have:=congrArg (λl=>l[0]?) hl
   simpa using this
  have hl':ops.toList.drop (i+1)=l:=by
   have:=congrArg List.tail hl
   simpa using this
  simp only[iT,List.range'_succ]
  rw[wpOps_cons]
  unfold Dy at h
  rcases Vi h with⟨hg,h⟩|⟨s,want,tg,hg,hs,h⟩|⟨s,want,hg,hs,h⟩
  ·obtain⟨ws,h1,h2⟩:=xP _ h
   obtain⟨rd,h3⟩:∃rd,(xR T hi n o λws=>(.ret ws:Prog (List Wr))).lU Z [] ws rd:=UY _ h1 []
   exact JS hT hSt hC H hnt hoi (.plain ws rd hg h3) (λJ' F' a' w' H'=>ih (i+1) hl' h2 H')
  ·obtain⟨ws,h1,h2⟩:=xP _ h
   obtain⟨rd,h3⟩:∃rd,(xR T hi n o λws=>(.ret ws:Prog (List Wr))).lU Z [.s s] ws rd:=UY _ h1 _
   exact JS hT hSt hC H hnt hoi (.done s want tg ws rd hg hs h3) (λJ' F' a' w' H'=>ih (i+1) hl' h2 H')
  ·cases hd:yU hi o with
   |false=>rw[hd]at h;simp at h
   |true=>
    rw[hd]at h
    exact JS hT hSt hC H hnt hoi (.skip s want hg hs hd) (λJ' F' a' w' H'=>ih (i+1) hl' h H')
end
end
section
open Go
variable [Fr]
section
variable {P:Program}{T:bF}{hi:Hint}{n:Nat}{ops:Array Oper}{cx:Cx}{Z:St}{J:aF}{F:List Nat}{a:Act}{w:World}
structure Ev where
 i:Nat
 ws:List Wr
 rd:List Loc
def Ev.wr(e:Ev):List Loc:=e.ws.map Wr.loc
def zW(ops:Array Oper)(j i:Nat):Prop:=leads ops 7 j i=true
theorem YO{ops:Array Oper}:∀{f:Nat} {j i:Nat},leads ops f j i=true->leads ops (f+1) j i=true
 |0,_,_,h=>by simp[leads]at h
 |f+1,j,i,h=>by
  unfold leads at h ⊢
  simp only[nI,List.any_eq_true,bg]at h ⊢
  rcases h with h|⟨b,hb,h1,h2⟩
  ·exact .inl h
  ·exact .inr ⟨b,hb,h1,YO h2⟩
theorem YP{ops:Array Oper}{L:Nat->Prop}(hcl:∀b,L b->∀c∈binders ops b,L c):∀{f:Nat} {j i:Nat},leads ops f j i=true->(∀c∈binders ops i,L c)->L j
 |0,_,_,h,_=>by simp[leads]at h
 |f+1,j,i,h,hi=>by
  unfold leads at h
  simp only[nI,List.any_eq_true,bg]at h
  rcases h with h|⟨b,hb,_,h2⟩
  ·exact hi j (fA.1 h)
  ·exact YP hcl h2 (hcl b (hi b hb))
def CU(e e':Ev):Prop:=(∀x∈e.wr,x∉e'.rd++e'.wr)/\∀x∈e.rd,x∉e'.wr
def wD(T:bF)(hi:Hint)(n:Nat)(ops:Array Oper):List Ev->St->St->Prop
 | [],Z,τ=>τ=Z
 |e :: l,Z,τ=>(∃o,ops[e.i]?=some o/\vk T hi n ops o Z e.ws e.rd)/\wD T hi n ops l (aB e.ws Z) τ
def Ar(ops:Array Oper):List Ev->Prop
 | []=>True
 |e :: l=>(∀e'∈l,zW ops e.i e'.i\/CU e e')/\Ar ops l
theorem aer{e e':Ev}{l:List Ev}{τ:St}(hi':CU e e')(h:wD T hi n ops (e :: e' :: l) Z τ):wD T hi n ops (e' :: e :: l) Z τ:=by
 obtain⟨⟨o,ho,h1⟩,⟨o',ho',h2⟩,h3⟩:=h
 have ha:∀y∈e'.rd,Ow.agree (aB e.ws Z) Z y:=by
  intro y hy
  have:=Az e.ws Z (y:=y) (λhm=>hi'.1 y hm (bP _ hy))
  cases y with
  |s n=>exact this.symm
  |r n=>exact this.symm
 have hb:∀y∈e.rd,Ow.agree Z (aB e'.ws Z) y:=λy hy=>Az e'.ws Z (hi'.2 y hy)
 refine⟨⟨o',ho',h2.agree ha⟩,⟨o,ho,h1.agree hb⟩,?_⟩
 rw[adM (u:=e.ws) (v:=e'.ws) (λx hx hx'=>hi'.1 x hx (bD _ hx'))]
 exact h3
theorem aep{e:Ev}{l:List Ev}:∀{pre:List Ev} {Z τ:St},(∀x∈pre,CU x e)->wD T hi n ops (pre++e :: l) Z τ->wD T hi n ops (e :: (pre++l)) Z τ:=by
 intro pre
 induction pre with
 |nil=>intro Z τ _ h;exact h
 |cons x pre ih=>
  intro Z τ hx h
  refine aer (hx x (by simp)) ?_
  obtain⟨h1,h2⟩:=h
  exact⟨h1,ih (λy hy=>hx y (by simp[hy])) h2⟩
theorem anm{e:Ev}{l:List Ev}:∀{pre:List Ev},Ar ops (pre++e :: l)->Ar ops (pre++l)/\∀x∈pre,zW ops x.i e.i\/CU x e:=by
 intro pre
 induction pre with
 |nil=>intro h;exact⟨h.2,by simp⟩
 |cons x pre ih=>
  intro h
  obtain⟨g1,g2⟩:=ih h.2
  refine⟨⟨λe' he'=>h.1 e' ?_,g1⟩,λy hy=>?_⟩
  ·rcases cZ.1 he' with h|h
   ·exact bP _ h
   ·exact bD _ (ji _ h)
  ·rcases bH.1 hy with h'|h'
   ·subst h';exact h.1 e (by simp)
   ·exact g2 y h'
theorem afq{e:Eff}{l:List Eff}(h:xg ops e l=true):(∀b∈binders ops e.i,b<e.i)/\∀b∈l,zW ops b.i e.i\/((∀x∈b.wr,x∉e.rd++e.wr)/\∀x∈b.rd,x∉e.wr):=by
 unfold xg at h
 simp only[bg,dX]at h
 refine⟨λb hb=>?_,λb hb=>?_⟩
 ·have:=h.1 b hb
  unfold Nat.blt at this
  exact GY this
 ·have:=h.2 b hb
  rw[nI,nI,bg]at this
  rcases this with h1|⟨h1,h2⟩|h1
  ·exact .inl (by unfold zW leads;rw[h1];rfl)
  ·exact .inr ⟨TS.1 h1,TS.1 h2⟩
  ·exact .inl (YO h1)
theorem afK{R:Type}{K:St->Option R}{r:R}:∀(l:List Oper) (i:Nat) (es:List Eff) {Z:St},ops.toList.drop i=l->yX T hi n ops l i es Z K=some r->
  ∃(evs:List Ev) (τ:St),K τ=some r/\wD T hi n ops evs Z τ/\Ar ops evs/\evs.map (·.i)=List.range' i l.length/\(∀e∈evs,∀b∈binders ops e.i,b<e.i)/\
   ∀e∈evs,∀b∈es,zW ops b.i e.i\/((∀x∈b.wr,x∉e.rd++e.wr)/\∀x∈b.rd,x∉e.wr):=by
 intro l
 induction l with
 |nil=>intro i es Z _ h;exact⟨[],Z,h,rfl,trivial,rfl,by simp,by simp⟩
 |cons o l ih=>
  intro i es Z hl h
  have hoi:ops[i]?=some o:=by
   have:=congrArg (λl=>l[0]?) hl
   simpa using this
  have hl':ops.toList.drop (i+1)=l:=by
   have:=congrArg List.tail hl
   simpa using this
  have step:∀{ws:List Wr} {rd:List Loc},vk T hi n ops o Z ws rd->xg ops ⟨i,rd,ws.map Wr.loc⟩ es=true->yX T hi n ops l (i+1) (⟨i,rd,ws.map Wr.loc⟩ :: es) (aB ws Z) K=some r->
    ∃(evs:List Ev) (τ:St),K τ=some r/\wD T hi n ops evs Z τ/\Ar ops evs/\evs.map (·.i)=List.range' i (l.length+1)/\(∀e∈evs,∀b∈binders ops e.i,b<e.i)/\
     ∀e∈evs,∀b∈es,zW ops b.i e.i\/((∀x∈b.wr,x∉e.rd++e.wr)/\∀x∈b.rd,x∉e.wr):=by
   intro ws rd hab hok h
   obtain⟨evs,τ,g1,g2,g3,g4,g5,g6⟩:=ih (i+1) _ hl' h
   obtain⟨k1,k2⟩:=afq hok
   refine⟨⟨i,ws,rd⟩ :: evs,τ,g1,⟨⟨o,hoi,hab⟩,g2⟩,⟨λe' he'=>?_,g3⟩,?_,?_,?_⟩
   ·exact g6 e' he' ⟨i,rd,ws.map Wr.loc⟩ (by simp)
   ·rw[List.range'_succ,jh,g4]
   ·intro e he
    rcases bH.1 he with h|h
    ·subst h;exact k1
    ·exact g5 e h
   ·intro e he b hb
    rcases bH.1 he with h|h
    ·subst h;exact k2 b hb
    ·exact g6 e h b (by simp[hb])
  simp only[iT]
  unfold yX at h
  rcases Vi h with⟨hg,h⟩|⟨s,want,tg,hg,hs,h⟩|⟨s,want,hg,hs,h⟩
  ·obtain⟨ws,rd,h1,h2⟩:=aaa _ h
   cases hok:xg ops ⟨i,rd,ws.map Wr.loc⟩ es with
   |false=>rw[hok]at h2;simp at h2
   |true=>rw[hok]at h2;exact step (.plain ws rd hg h1) hok h2
  ·obtain⟨ws,rd,h1,h2⟩:=aaa _ h
   cases hok:xg ops ⟨i,rd,ws.map Wr.loc⟩ es with
   |false=>rw[hok]at h2;simp at h2
   |true=>rw[hok]at h2;exact step (.done s want tg ws rd hg hs h1) hok h2
  ·cases hok:(yU hi o&&xg ops ⟨i,[.s s],(xQ o).map Wr.loc⟩ es)with
   |false=>rw[hok]at h;simp at h
   |true=>
    rw[hok]at h
    rw[bg]at hok
    exact step (.skip s want hg hs hok.1) hok.2 h
theorem aeo(hT:eG P T)(hSt:uy P T)(hC:uV P n hi)(hnt:hi.nt=cx.nt){Q:Exit->Act->World->Prop}{τ:St}(hQ:∀J' F' a' w',Rel cx τ J' F' a' w'->Q .normal a' w') :
  ∀(m:Nat) (evs:List Ev) (listed:Array Bool) {Z:St} {J:aF} {F:List Nat} {a:Act} {w:World},evs.length=m->wD T hi n ops evs Z τ->Ar ops evs->(evs.map (·.i)).Pairwise (· < ·)->(∀e∈evs,∀b∈binders ops e.i,b<e.i)->
   listed.size=ops.size->(∀j,j<ops.size->(listed.getD j false=false↔j∈evs.map (·.i)))->(∀e∈evs,e.i<ops.size)->(∀b,listed.getD b false=true->∀c∈binders ops b,listed.getD c false=true)->Rel cx Z J F a w->wpAny P .any ops Q m listed a w:=by
 intro m
 induction m with
 |zero=>
  intro evs listed Z J F a w hl hc _ _ _ hsz hlist _ _ H
  have:evs=[]:=qB hl
  subst this
  have hc':τ=Z:=hc
  subst hc'
  refine⟨?_,hQ _ _ _ _ H⟩
  cases hr:Region.ready .any ops listed with
  |nil=>rfl
  |cons j l=>
   have hj:j∈Region.ready .any ops listed:=by rw[hr];simp
   obtain⟨h0,o,ho,_⟩:=mem_ready.1 hj
   have hlt:=(Array.getElem?_eq_some_iff.1 ho).1
   have:listed.getD j false=false:=by
    have hj2:j<listed.size:=by omega
    simp[hj2]at h0 ⊢
    exact h0
   exact absurd ((hlist j hlt).1 this) (by simp)
 |succ m ih=>
  intro evs listed Z J F a w hl hc hp hsort hbind hsz hlist hlt hcl H
  refine⟨λhr=>?_,λj hj=>?_⟩
  ·
   exfalso
   cases evs with
   |nil=>simp at hl
   |cons e evs=>
    obtain⟨⟨o,ho,_⟩,_⟩:=hc
    have he:e.i∈Region.ready .any ops listed:=by
     rw[mem_ready]
     have hei:=hlt e (by simp)
     have hun:=(hlist e.i hei).2 (by simp)
     refine⟨?_,o,ho,λq hq hb=>?_⟩
     ·have hj2:e.i<listed.size:=by omega
      simp[hj2]at hun ⊢
      exact hun
     ·have hm:q.on∈binders ops e.i:=by
       unfold binders
       rw[ho]
       simp only[sF,eD,iU]
       exact⟨q,⟨Array.mem_toList_iff.2 hq,hb⟩,rfl⟩
      have hlt2:=hbind e (by simp) q.on hm
      cases hb2:listed.getD q.on false with
      |true=>rfl
      |false=>
       have:=(hlist q.on (by omega)).1 hb2
       simp only[jh,bH]at this
       rcases this with h|h
       ·omega
       ·have hlt3:e.i<q.on:=by simpa using (List.pairwise_cons.1 hsort).1 q.on h
        omega
    rw[hr]at he
    simp at he
  ·obtain⟨h0,o,ho,hall⟩:=mem_ready.1 hj
   have hjlt:=(Array.getElem?_eq_some_iff.1 ho).1
   have hj2:j<listed.size:=by omega
   have hun:listed.getD j false=false:=by
    simp[hj2]at h0 ⊢
    exact h0
   have hjm:=(hlist j hjlt).1 hun
   obtain⟨e,he,hej⟩:=eD.1 hjm
   obtain⟨pre,post,hsplit⟩:=List.append_of_mem he
   subst hsplit
   subst hej
   obtain⟨p1,p2⟩:=anm hp
   have hle:∀c∈binders ops e.i,listed.getD c false=true:=by
    intro c h
    unfold binders at h
    rw[ho]at h
    simp only[sF,eD,iU]at h
    obtain⟨q,⟨hq,hb⟩,hon⟩:=h
    rw[<-hon]
    exact hall q (Array.mem_toList_iff.1 hq) hb
   have hpre:∀x∈pre,CU x e:=by
    intro x hx
    rcases p2 x hx with h|h
    ·exfalso
     have hl2:=YP (L:=λb=>listed.getD b false=true) hcl h hle
     have hxi:=hlt x (by simp[hx])
     have:=(hlist x.i hxi).2 (by simp only[Aj,cZ,eD];exact .inl ⟨x,hx,rfl⟩)
     rw[hl2]at this
     simp at this
    ·exact h
   have hc2:=aep hpre hc
   obtain⟨⟨o',ho',hab⟩,hc3⟩:=hc2
   rw[ho]at ho'
   simp only[aa]at ho'
   subst ho'
   have Wq:(pre.map (·.i)++e.i :: post.map (·.i)).Pairwise (· < ·):=by simpa using hsort
   have hsub:(pre++post).Sublist (pre++e :: post):=Td (List.sublist_cons_self _ _) _
   refine JS hT hSt hC H hnt ho hab (λJ' F' a' w' H'=>?_)
   refine ih (pre++post) (listed.setIfInBounds e.i true) (by simp at hl ⊢;omega) hc3 p1 (hsort.sublist (hsub.map _)) (λx hx=>hbind x (hsub.subset hx)) (by simpa using hsz) (λk hk=>?_) (λx hx=>hlt x (hsub.subset hx)) ?_ H'
   rotate_left
   ·intro b hb c hc4
    have hset:∀k,listed.getD k false=true->(listed.setIfInBounds e.i true).getD k false=true:=λk hk=>by
     by_cases hke:k=e.i
     ·subst hke;simp[hj2]
     ·rw[getD_set_ne false (Ne.symm hke)];exact hk
    by_cases hbe:b=e.i
    ·subst hbe;exact hset c (hle c hc4)
    ·rw[getD_set_ne false (Ne.symm hbe)]at hb
     exact hset c (hcl b hb c hc4)
   have hnot:e.i∉(pre++post).map (·.i):=by
    intro hm
    rw[Aj,cZ]at hm
    rcases hm with h|h
    ·have:=(List.pairwise_append.1 Wq).2.2 e.i h e.i (by simp)
     omega
    ·have:=(List.pairwise_cons.1 (List.pairwise_append.1 Wq).2.1).1 e.i h
     omega
   by_cases hke:k=e.i
   ·subst hke
    constructor
    ·intro h
     exfalso
     simp[hj2]at h
    ·intro h;exact absurd h hnot
   ·rw[getD_set_ne false (Ne.symm hke),hlist k hk]
    simp only[Aj,jh,cZ,bH]
    constructor
    ·rintro(h|h|h)
     ·exact .inl h
     ·exact absurd h hke
     ·exact .inr h
    ·rintro(h|h)
     ·exact .inl h
     ·exact .inr (.inr h)
theorem afL(hT:eG P T)(hSt:uy P T)(hC:uV P n hi)(hnt:hi.nt=cx.nt){R:Type}{K:St->Option R}{r:R}{Q:Exit->Act->World->Prop}(hQ:∀Z' J' F' a' w',K Z'=some r->Rel cx Z' J' F' a' w'->Q .normal a' w')
  (h:yX T hi n ops ops.toList 0 [] Z K=some r) (H:Rel cx Z J F a w):wpAny P .any ops Q ops.size (Array.replicate ops.size false) a w:=by
 obtain⟨evs,τ,h1,h2,h3,h4,h5,_⟩:=afK ops.toList 0 [] (by simp) h
 rw[Ky,<-List.range_eq_range']at h4
 refine aeo hT hSt hC hnt (λJ' F' a' w' H'=>hQ _ _ _ _ _ h1 H') ops.size evs _ ?_ h2 h3 ?_ h5 (by simp) (λj hj=>?_) (λe he=>?_) (λb hb=>?_) H
 rotate_left 4
 ·exfalso;by_cases hbs:b<ops.size<;>simp[hbs]at hb
 ·have:=congrArg List.length h4;simpa using this
 ·rw[h4];exact List.pairwise_lt_range
 ·rw[h4];simp[hj]
 ·have:e.i∈evs.map (·.i):=eD.2 ⟨e,he,rfl⟩
  rw[h4]at this
  exact List.mem_range.1 this
end
end
section
open Go
variable [Fr]
abbrev yI:=List (Nat×K×List TypeId×List TypeId)
structure Lp(cx:Cx)(eX:yI):Prop where
 par:∀j pi,cx.par j=some pi->(pi.kp=true\/∃q,pi.base=some q)->∃q,mJ (aC j) eX=some q
 ptr:∀j p ts v,cx.ptrs j p ts v->∃k l,mJ (aC j) eX=some (k,l)/\ts=iD p k
 ref:∀j v,cx.refs j v->∃q,mJ (aC j) eX=some q
theorem wZ{A:Type}{b:Bool}{x:Option A}{d:A}(h:(bif b then x else none)=some d):b=true/\x=some d:=by
 cases b with
 |true=>exact⟨rfl,h⟩
 |false=>exact absurd h (by simp)
def mX.zB:mX->List Nat
 |.val _ ids=>ids
 |.eY _ _ ids=>ids
 |.fn _ caps=>caps.flatMap λc=>c.2.2
 |_=>[]
def nW(rs:List Nat)(i:Nat):Prop:=fO i=true\/i∈rs
structure oZ(Z:St)(eX:yI)(rs:List Nat)(r:Nat)(R R':Root):Prop where
 live:aU Z r R
 valid:cz Z R
 form:∃ow tg ew eh,R'={ R with own:=ow,tags:=tg,w:=[],h:=[],g:=0,ew:=ew,eh:=eh }/\(∀t∈R.k.tys,ah t ow=ah t R.own)
 tags:∀t∈R.tags,nW rs t.1->(t.1,0)∈R'.tags
 aaE:∀t∈R'.tags,t.2=0/\nW rs t.1/\t.1≠r
 log:∀k wt ht,mJ r eX=some (k,wt,ht)->R.k=k/\R'.ew=wt/\R'.eh=ht/\(∀t∈R.w,t∈wt)/\(∀t∈R.ew,t∈wt)/\(∀t∈R.h,t∈ht)/\(∀t∈R.eh,t∈ht)/\R.g=0
structure nP(Z:St)(eX:yI)(rs:List Nat)(Z':St):Prop where
 roots:∀r R',Z'.roots r=some R'->r∈rs/\fO r=false/\∃R,oZ Z eX rs r R R'
 made:∀r∈rs,∃R',Z'.roots r=some R'
 slots:∀s,Z'.slots s=.one .undef\/∃sh av d,Z.slots s=.one av/\qH Z rs sh av=some d/\Z'.slots s=.one (E_ sh d)/\∀i∈sh.zB,nW rs i
 eX:∀r q,mJ r eX=some q->r∈rs
theorem BG{rs:List Nat}:∀{l:List Tag} {r:Nat},r∈kD rs l↔(∃n,(r,n)∈l)/\nW rs r
 | [],r=>by simp[kD]
 |(q,m) :: l,r=>by
  have ih:=BG (rs:=rs) (l:=l) (r:=r)
  unfold kD
  cases hb:(fO q||ah q rs) && !ah q (kD rs l)with
  |true=>
   simp only[fJ,bH]
   simp only[bg,nI,fA]at hb
   constructor
   ·rintro(h|h)
    ·subst h
     exact⟨⟨m,.inl rfl⟩,hb.1⟩
    ·obtain⟨⟨n,hn⟩,h2⟩:=ih.1 h
     exact⟨⟨n,.inr hn⟩,h2⟩
   ·rintro⟨⟨n,h|h⟩,h2⟩
    ·exact .inl (by simpa using congrArg Prod.fst h)
    ·exact .inr (ih.2 ⟨⟨n,h⟩,h2⟩)
  |false=>
   simp only[jr]
   constructor
   ·intro h
    obtain⟨⟨n,hn⟩,h2⟩:=ih.1 h
    exact⟨⟨n,.tail _ hn⟩,h2⟩
   ·rintro⟨⟨n,h⟩,h2⟩
    rcases bH.1 h with h|h
    ·have e:r=q:=by simpa using congrArg Prod.fst h
     subst e
     cases hm:ah r (kD rs l)with
     |true=>exact fA.1 hm
     |false=>
      exfalso
      rw[hm]at hb
      simp only[mq,Bool.and_true,Kz]at hb
      rcases h2 with h2|h2
      ·rw[hb.1]at h2;simp at h2
      ·rw[fA.2 h2]at hb;simp at hb
    ·exact ih.2 ⟨⟨n,h⟩,h2⟩
section
variable {P:Program}{T:bF}{cx:Cx}{Z Z':St}{J:aF}{F:List Nat}{a:Act}{w:World}{eX:yI}{rs:List Nat}
theorem oZ.kind{r:Nat}{R R':Root}(h:oZ Z eX rs r R R'):R'.kind=R.kind/\R'.k=R.k/\R'.w=[]/\R'.h=[]/\R'.g=0/\R'.bV=R.bV:=by
 obtain⟨ow,tg,ew,eh,rfl,_⟩:=h.form
 exact⟨rfl,rfl,rfl,rfl,rfl,rfl⟩
theorem oZ.blk{r:Nat}{R R':Root}(h:oZ Z eX rs r R R'):blk J R' r=blk J R r/\aK J R' r=aK J R r:=by
 have hk:=h.kind.1
 unfold Ow.blk aK
 rw[hk]
 exact⟨rfl,rfl⟩
theorem nP.aO(hB:nP Z eX rs Z'){U U':List Tag}(hU:∀t∈U,nW rs t.1->∃n,(t.1,n)∈U'){b:Nat}(h:aO cx Z J F w U b):aO cx Z' J F w U' b:=by
 obtain⟨h1,h2,h3,h4,h5⟩:=h
 refine⟨h1,h2,h3,λr R' hr hb=>?_,λhlt=>?_⟩
 ·obtain⟨g1,g2,R,g3⟩:=hB.roots r R' hr.1
  rw[g3.blk.1]at hb
  obtain⟨n,hn⟩:=h4 r R g3.live hb
  exact hU _ hn (.inr g1)
 ·rcases h5 hlt with⟨j,n,g1,g2⟩|h
  ·obtain⟨n',hn'⟩:=hU _ g1 (.inl (sU j))
   exact .inl ⟨j,n',hn',g2⟩
  ·exact .inr h
theorem nP.kG(hB:nP Z eX rs Z'){U U':List Tag}(hU:∀t∈U,nW rs t.1->∃n,(t.1,n)∈U'){b:Nat}(h:kG Z J F w U b):kG Z' J F w U' b:=by
 obtain⟨h1,h2,h4⟩:=h
 refine⟨h1,h2,λr R' hr hb=>?_⟩
 obtain⟨g1,g2,R,g3⟩:=hB.roots r R' hr.1
 rw[g3.blk.1]at hb
 obtain⟨n,hn⟩:=h4 r R g3.live hb
 exact hU _ hn (.inr g1)
theorem Kc{tags:List Tag}{ids:List Nat}(h:lZ (kD rs tags) ids=true):∀t∈tags,nW rs t.1->∃n,(t.1,n)∈ids.map λr=>((r,0):Tag):=by
 intro t ht hi
 refine⟨0,eD.2 ⟨t.1,Cj.1 h _ (BG.2 ⟨⟨t.2,ht⟩,hi⟩),rfl⟩⟩
theorem nP.fC(hB:nP Z eX rs Z'){ids:List Nat}(h:∀i∈ids,nW rs i):fC Z' (ids.map λr=>((r,0):Tag)):=by
 intro t ht
 obtain⟨i,h1,rfl⟩:=eD.1 ht
 rcases h i h1 with h|h
 ·exact .inl h
 ·obtain⟨R',hR⟩:=hB.made i h
  exact .inr ⟨R',hR,.inr (dY _)⟩
theorem nP.ro(hB:nP Z eX rs Z'){bt:TypeId}{k:K}{x:El k}{tags:List Tag}{ids:List Nat}{v:Value}(hs:lZ (kD rs tags) ids=true)(hc:cu Z (bt :: k.tys) tags=true)(hE:AY bt ids=true)
  (h:tX cx Z J F w bt k x tags v):tX cx Z' J F w bt k x (ids.map λr=>((r,0):Tag)) v:=by
 obtain⟨h1,h2⟩:=h
 obtain⟨b,o,cs,e1,e2,e3,e4,e5⟩:=h2 hc
 refine⟨h1,λ_=>⟨b,o,cs,e1,e2,jO (λ_ _=>rfl) (λb hb=>hB.aO (Kc hs) hb) e3,hB.kG (Kc hs) e4,?_⟩⟩
 rcases e5 with⟨g1,g2⟩|h
 ·refine .inl ⟨g1,λt ht=>?_⟩
  obtain⟨i,h1,rfl⟩:=eD.1 ht
  unfold AY at hE
  rw[g1]at hE
  simp only[show Nat.beq SENT SENT=true from rfl,iM,FX,dX]at hE
  exact hE i h1
 ·exact .inr h
theorem nP.caps(hB:nP Z eX rs Z'):∀{cs:List (TypeId×K×List Nat)} {l:List (TypeId×Dat×List Tag)} {d:Cont (yQ cs)} {vs:List Value},vI Z rs cs l=some d->(∀i∈cs.flatMap (λc=>c.2.2),nW rs i)->mH cx Z J F w l vs->
  mH cx Z' J F w (Fa cs d) vs/\∀c∈Fa cs d,Ow.fC Z' c.2.2
 | [],[],_,[],_,_,_=>⟨trivial,by intro c hc;exact absurd hc (by simp[Fa])⟩
 | [],_ :: _,_,_,h,_,_=>by simp[vI]at h
 |_ :: _,[],_,_,h,_,_=>by simp[vI]at h
 | [],[],_,_ :: _,_,_,h=>h.elim
 |_ :: _,_ :: _,_,[],_,_,h=>h.elim
 |(t,k,ids) :: cs,(t',d,tags) :: l,c,v :: vs,h,hi,hv=>by
  simp only[vI]at h
  cases hb:Nat.beq t t'&&cu Z (t :: k.tys) tags&&lZ (kD rs tags) ids&&AY t ids with
  |false=>rw[hb]at h;simp at h
  |true=>
   rw[hb]at h
   simp only[fJ]at h
   simp only[bg]at hb
   obtain⟨⟨⟨b1,b2⟩,b3⟩,b4⟩:=hb
   have:=a_ b1
   subst this
   cases hck:bR d.1 k d.2 with
   |none=>rw[hck]at h;simp at h
   |some x=>
    rw[hck]at h
    cases hcs:vI Z rs cs l with
    |none=>rw[hcs]at h;simp at h
    |some y=>
     rw[hcs]at h
     have h2:((x,y):Cont (yQ ((t,k,ids) :: cs)))=c:=jV h
     subst h2
     obtain⟨dk,dx⟩:=d
     obtain⟨e,ex⟩:=iw hck
     simp only at e
     subst e
     simp only at ex
     subst ex
     have IG:∀i∈ids,nW rs i:=λi h=>hi i (by simp[h])
     obtain⟨g1,g2⟩:=hB.caps (vs:=vs) hcs (λi h=>hi i (by
      rw[kK];exact bD _ h)) hv.2
     refine⟨⟨hB.ro b3 b2 b4 hv.1,g1⟩,λq hq=>?_⟩
     rcases bH.1 hq with h|h
     ·subst h;exact hB.fC IG
     ·exact g2 q h
theorem nP.av(H:Rel cx Z J F a w)(hB:nP Z eX rs Z'){sh:mX}{av:AV}{d:Cont sh.ks}{v:Value}(hct:qH Z rs sh av=some d)(hi:∀i∈sh.zB,nW rs i)(hv:aR cx Z J F w av v) :
  aR cx Z' J F w (E_ sh d) v/\dB Z' (E_ sh d):=by
 cases sh with
 |undef=>exact⟨trivial,trivial⟩
 |val k ids=>
  cases av with
  |val k' x tags=>
   simp only[qH]at hct
   cases hb:cu Z k.tys tags&&lZ (kD rs tags) ids with
   |false=>rw[hb]at hct;simp at hct
   |true=>
    rw[hb]at hct
    simp only[fJ]at hct
    simp only[bg]at hb
    cases hck:bR k' k x with
    |none=>rw[hck]at hct;simp at hct
    |some y=>
     rw[hck]at hct
     have h2:((y,()):Cont (mX.val k ids).ks)=d:=jV hct
     subst h2
     obtain⟨e,ex⟩:=iw hck
     subst e
     simp only at ex
     subst ex
     refine⟨λ_=>?_,hB.fC hi⟩
     obtain⟨cs,g1,g2⟩:=hv (.inr hb.1)
     exact⟨cs,g1,jO (λ_ _=>rfl) (λb hb2=>hB.aO (Kc hb.2) hb2) g2⟩
  |_=>simp[qH]at hct
 |eH=>
  cases av with
  |eH=>
   exact⟨hv,trivial⟩
  |_=>simp[qH]at hct
 |ref r=>
  cases av with
  |ref r' g=>
   obtain⟨hb,_⟩:=wZ (show(bif Nat.beq r r'&&ah r rs&&(match Z.roots r with|some R=>Nat.beq R.g g|none=>false)then some ()else none)=some d from hct)
   simp only[bg]at hb
   obtain⟨⟨b1,b2⟩,b3⟩:=hb
   have:=a_ b1
   subst this
   obtain⟨R',hR'⟩:=hB.made r (fA.1 b2)
   refine⟨λQ hQ _=>?_,R',hR',.inr (dY _)⟩
   obtain⟨_,_,R,g3⟩:=hB.roots r Q hQ.1
   rw[g3.live.1]at b3
   obtain⟨f1,f2⟩:=hv R g3.live (a_ b3)
   obtain⟨k1,k2,_⟩:=g3.kind
   exact⟨k1.trans f1,by rw[k2];exact f2⟩
  |_=>simp[qH]at hct
 |ptr r p=>
  cases av with
  |ptr r' q n=>
   obtain⟨hb,Ng⟩:=wZ (A:=Cont (aH.into 0 p).kin) (x:=idxOf p q) (show(bif Nat.beq r r'&&ah r rs&&(match Z.roots r with|some R=>clean R.h n (iD q R.k)|none=>false)then idxOf p q else none)=some d from hct)
   simp only[bg]at hb
   obtain⟨⟨b1,b2⟩,b3⟩:=hb
   have:=a_ b1
   subst this
   have hpq:=IU Ng
   obtain⟨R',hR'⟩:=hB.made r (fA.1 b2)
   show aR cx Z' J F w (.ptr r (pathOf p d) 0) v/\dB Z' (.ptr r (pathOf p d) 0)
   rw[hpq]
   refine⟨⟨hv.1,λQ hQ lF _ hpt hg=>?_⟩,R',hR',.inr (dY _)⟩
   obtain⟨_,_,R,g3⟩:=hB.roots r Q hQ
   rw[g3.live.1]at b3
   have hw:=(oZ.blk (J:=J) g3).2
   obtain⟨ow,tg,ew,eh,rfl,hown⟩:=g3.form
   obtain⟨f1,f2⟩:=hv.2 R g3.live.1 g3.valid b3 (λt ht=>by rw[<-hown t (xO q t ht)];exact hpt t ht) hg
   exact⟨f1,by rw[hw];exact f2⟩
  |_=>simp[qH]at hct
 |eY bt k ids=>
  cases av with
  |eY Ma k' x tags=>
   simp only[qH]at hct
   cases hb:Nat.beq bt Ma&&cu Z (bt :: k.tys) tags&&lZ (kD rs tags) ids&&AY bt ids with
   |false=>rw[hb]at hct;simp at hct
   |true=>
    rw[hb]at hct
    simp only[fJ]at hct
    simp only[bg]at hb
    obtain⟨⟨⟨b1,b2⟩,b3⟩,b4⟩:=hb
    have:=a_ b1
    subst this
    cases hck:bR k' k x with
    |none=>rw[hck]at hct;simp at hct
    |some y=>
     rw[hck]at hct
     have h2:((y,()):Cont (mX.eY bt k ids).ks)=d:=jV hct
     subst h2
     obtain⟨e,ex⟩:=iw hck
     subst e
     simp only at ex
     subst ex
     exact⟨hB.ro b3 b2 b4 hv,hB.fC hi⟩
  |_=>simp[qH]at hct
 |iI=>
  cases av with
  |iI=>
   exact⟨hv,trivial⟩
  |_=>simp[qH]at hct
 |fn f cs=>
  cases av with
  |fn f' caps=>
   obtain⟨hb,Ng⟩:=wZ (A:=Cont (yQ cs)) (x:=vI Z rs cs caps) (show(bif Nat.beq f f' then vI Z rs cs caps else none)=some d from hct)
   have:=a_ hb
   subst this
   obtain⟨vs,e,hc⟩:=hv
   obtain⟨g1,g2⟩:=hB.caps Ng hi hc
   exact⟨⟨vs,e,g1⟩,g2⟩
  |_=>simp[qH]at hct
end
end
end Go.Proofs.YtgppmpedglhhfaaGreatDoor.Ow
