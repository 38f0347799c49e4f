/- A verified reading of translated code, part F of 7. No condition. -/
import Derived.Test.YtplpeegfeajkkaaGreatDoorOwE
set_option linter.unusedSectionVars false
set_option linter.unusedVariables false
set_option linter.unusedSimpArgs false
namespace Go.Proofs.YtplpeegfeajkkaaGreatDoor.Ow
section
open Go
variable [Fr]
section
variable {P:Program}{T:bL}{cx:Cx}{Z:St}{J:aO}{F:List Nat}{a:Act}{w:World}{ps:List aD}{c:Cont (kin ps)}{vs:List Value}{is:List bI}{gs:List GA}
theorem xk{j:Nat}{g:GA}(h:gs[j]?=some g):(sF gs).loc (aa j)=g.base.getD (0,0)/\(sF gs).hdr (aa j)=g.cs/\(sF gs).fo (aa j)=g.fo:=by
 simp[sF,acG,h]
theorem RD.blk{j:Nat}{R:Root}{g:GA}{i:bI}{p:aD}(D:RD cx Z J F w ps vs is gs j R g i p):blk (sF gs) R (aa j)=iT g:=by
 obtain⟨h1,h2,h3⟩:=xk D.hg
 unfold Ow.blk iT aS
 rw[h1,h3]
 rcases D.kind with⟨hk,_,_,b,o,hb,_⟩|⟨hk,hb,_⟩
 ·rw[hk,hb];rfl
 ·rw[hk,hb]
theorem RD.wh{j:Nat}{R:Root}{g:GA}{i:bI}{p:aD}(D:RD cx Z J F w ps vs is gs j R g i p):aS (sF gs) R (aa j)=g.base:=by
 obtain⟨h1,h2,h3⟩:=xk D.hg
 unfold aS
 rw[h1]
 rcases D.kind with⟨hk,_,_,b,o,hb,_⟩|⟨hk,hb,_⟩
 ·rw[hk,hb];rfl
 ·rw[hk,hb]
theorem RD.live{j:Nat}{R:Root}{g:GA}{i:bI}{p:aD}(D:RD cx Z J F w ps vs is gs j R g i p):R.cZ=false:=by
 unfold Root.cZ
 rcases D.kind with⟨hk,_⟩|⟨hk,_⟩<;>rw[hk]
theorem apl(H:Rel cx Z J F a w)(hJ:wU cx Z J F a w ps c vs is gs)(hA:Apart cx Z J F w ps is gs):Rel (kE cx Z J F w ps c is gs) (fu ps c) (sF gs) [] ⟨vs.toArray,[]⟩ w:=by
 obtain⟨lv,li,lg,hat⟩:=hJ.at (i0:=0)
 simp only[nR]at hat
 have hroot:∀{r:Nat} {R:Root},(fu ps c).roots r=some R->∃j g i p,r=aa j/\RD cx Z J F w ps vs is gs j R g i p:=by
  intro r R h
  obtain⟨j,p,h1,h2⟩:=ap8 (show iJ (iI ps 0 c) r=some R from h)
  simp only[nR]at h1
  subst h1
  obtain⟨cj,v,i,g,e1,e2,e3,e4,e5,e6⟩:=hat j p h2
  have hR:kG p j cj=some R:=by rw[<-e6];exact h
  exact⟨j,g,i,p,rfl,JF e4 e3 e2 h2 e1 hR⟩
 have aoZ:∀{j:Nat} {R:Root},(fu ps c).roots (aa j)=some R->∃g i p,RD cx Z J F w ps vs is gs j R g i p:=by
  intro j R h
  obtain⟨j',g,i,p,h1,h2⟩:=hroot h
  have:=acH h1
  subst this
  exact⟨g,i,p,h2⟩
 have hmk:∀{j:Nat} {g:GA},gs[j]?=some g->(g.ow=true\/g.wb=true)->∃R i p,(fu ps c).roots (aa j)=some R/\RD cx Z J F w ps vs is gs j R g i p:=by
  intro j g hg hh
  have hj:j<ps.length:=by have:=(qB.1 hg).1;omega
  obtain⟨cj,v,i,g',e1,e2,e3,e4,e5,e6⟩:=hat j ps[j] (jl hj)
  rw[hg]at e3
  simp only[au]at e3
  subst e3
  obtain⟨R,hR⟩:=NH j e4 hh
  have hr:(fu ps c).roots (aa j)=some R:=by show iJ (iI ps 0 c) (aa j)=some R;rw[e6,hR]
  exact⟨R,i,ps[j],hr,JF e4 hg e2 (jl hj) e1 hR⟩
 have hgj:∀{j:Nat} {g:GA},gs[j]?=some g->∃p cj v i,ps[j]?=some p/\vs[j]?=some v/\is[j]?=some i/\uM cx Z J F a w p cj v i g:=by
  intro j g hg
  have hj:j<ps.length:=by have:=(qB.1 hg).1;omega
  obtain⟨cj,v,i,g',e1,e2,e3,e4,_⟩:=hat j ps[j] (jl hj)
  rw[hg]at e3
  simp only[au]at e3
  subst e3
  exact⟨ps[j],cj,v,i,jl hj,e1,e2,e4⟩
 have Ct:∀{j:Nat} {g:GA} {b:Nat},gs[j]?=some g->b∈iT g->(g.ow=true/\b∈F)\/(g.wb=true/\∃i r R q,is[j]?=some i/\i.wb=some (r,q)/\aX Z r R/\b∈blk J R r):=by
  intro j g b hg hb
  obtain⟨p,cj,v,i,e1,e2,e3,e4⟩:=hgj hg
  rcases(sM H e4).1 b hb with h|⟨h,r,R,q,h1⟩
  ·exact .inl h
  ·exact .inr ⟨h,i,r,R,q,e3,h1⟩
 have hmn:∀{j:Nat} {g:GA} {b:Nat},gs[j]?=some g->b∈iT g->mine cx w b:=by
  intro j g b hg hb
  rcases Ct hg hb with⟨_,h⟩|⟨_,i,r,R,q,_,_,h1,h2⟩
  ·exact H.fl b h
  ·exact(H.roots r R h1).mine b h2
 have hlt:∀{j:Nat} {g:GA} {b:Nat},gs[j]?=some g->b∈iT g->b<w.heap.size:=λhg hb=>(hmn hg hb).1
 have abd:∀{j:Nat} {g:GA} {b:Nat},gs[j]?=some g->g.ow=true->b∈iT g->b∈g.fo:=by
  intro j g b hg ho hb
  obtain⟨p,cj,v,i,e1,e2,e3,e4⟩:=hgj hg
  unfold iT at hb
  cases hbase:g.base with
  |none=>rw[hbase]at hb;simpa using hb
  |some q=>
   exfalso
   obtain⟨q1,q2⟩:=q
   obtain⟨r,R,q,_,_,_,_,h1,_⟩:=(sM H e4).2.1 q1 q2 hbase
   have hw:g.wb=true:=(sM H e4).2.2.2.2 (by rw[h1];simp)
   obtain⟨_,h⟩:=e4
   cases p<;>first|(obtain⟨g1,g2,_⟩:=h;rw[ho]at g1;simp at g1;done)|(obtain⟨g1,g2,_⟩:=h;rw[hw]at g2;simp at g2;done)|exact h.elim
 have aaN:∀{j j':Nat} {g g':GA} {b:Nat},gs[j]?=some g->gs[j']?=some g'->j≠j'->b∈iT g->b∉iT g':=by
  intro j j' g g' b hg hg' hne hb hb'
  rcases Ct hg hb with⟨ho,h⟩|⟨hw,i,r,R,q,_,_,h1,h2⟩
  ·rcases Ct hg' hb' with⟨ho',h'⟩|⟨_,i',r',R',q',_,_,h1',h2'⟩
   ·refine flatMap_apart hA.own hg hg' hne b ?_ ?_
    ·rw[ho];exact abd hg ho hb
    ·rw[ho'];exact abd hg' ho' hb'
   ·exact H.fI r' R' h1' b h2' h
  ·rcases Ct hg' hb' with⟨_,h'⟩|⟨hw',_⟩
   ·exact H.fI r R h1 b h2 h'
   ·exact hne (hA.one j j' g g' hg hg' hw hw')
 have hnd:∀{j:Nat} {R:Root} {g:GA} {i:bI} {p:aD},RD cx Z J F w ps vs is gs j R g i p->(iT g).Nodup:=by
  intro j R g i p D
  unfold iT
  rcases D.kind with⟨_,_,_,b,o,hb,hno⟩|⟨_,hb,_⟩
  ·rw[hb];exact jg.2 ⟨hno,D.nd⟩
  ·rw[hb];exact D.nd
 have TR:∀{j m:Nat} {i:bI} {p:aD} {g:GA} {b:Nat},is[j]?=some i->ps[j]?=some p->mH Z J F w i.ids b->gs[m]?=some g->b∈iT g->m∈CW p/\(∃k bJ,p=.val k bJ/\∀i',is[m]?=some i'->∀t∈i'.bt,t∉k.tys):=by
  intro j m i p g b hi hp hb hg hbf
  rcases Ct hg hbf with⟨_,h⟩|⟨_,i',r,R,q,h0,h1,h2,h3⟩
  ·exact absurd h hb.2.1
  ·obtain⟨n,hn⟩:=hb.2.2 r R h2 h3
   obtain⟨g1,k,bJ,g2,g3⟩:=hA.bJ j p i r n hp hi hn m i' q h0 h1
   refine⟨g1,k,bJ,g2,λAi h=>?_⟩
   rw[h0]at h
   simp only[au]at h
   subst h
   exact g3
 have Ta:∀{j:Nat} {i:bI} {p:aD} {b:Nat},is[j]?=some i->ps[j]?=some p->bK cx Z J F w i.ids b->(∀k bJ,p=.val k bJ->∃t∈k.tys,mh (hp w) b t)->(kE cx Z J F w ps c is gs).ext j b:=by
  intro j i p b hi hp hb ht
  refine⟨⟨i,hi,hb⟩,λm g q hg hbase e=>?_⟩
  have hbf:b∈iT g:=by unfold iT;rw[hbase,e];simp
  obtain⟨_,k,bJ,h1,h2⟩:=TR hi hp hb.q hg hbf
  obtain⟨p',cj,v,i',e1,e2,e3,e4⟩:=hgj hg
  obtain⟨r,R,q',arr,e',lo,hi',f1,f2,f3,f4,f5,f6,f7,f8⟩:=(sM H e4).2.1 q.1 q.2 (by rw[hbase])
  rcases f8 with⟨f8,f9,f10⟩|f8
  ·obtain⟨t,ht1,ht2⟩:=ht k bJ h1
   have ht2:=H.C_ (hmn hg hbf) ht2
   rw[e]at ht2
   unfold jM at ht2
   rw[f4]at ht2
   simp only[au]at ht2
   cases hbt:i'.bt with
   |nil=>exact f9 hbt
   |cons t0 l=>
    have hm:t0∈i'.bt:=by rw[hbt];simp
    exact h2 i' e3 t0 hm (by rw[f8 t0 hm,ht2];exact ht1)
  ·exact hb.2.2.1 (e▸f8)
 have TD:∀{j:Nat} {i:bI} {p:aD} {b:Nat} {T:List Tag},is[j]?=some i->ps[j]?=some p->(kE cx Z J F w ps c is gs).ext j b->(jy j,0)∈T->(∀n∈CW p,(aa n,0)∈T)->bK (kE cx Z J F w ps c is gs) (fu ps c) (sF gs) [] w T b:=by
  intro j i p b T hi hp hb ht hpr
  obtain⟨⟨i',hi',hok⟩,hno⟩:=hb
  rw[hi]at hi'
  simp only[au]at hi'
  subst hi'
  refine⟨hok.1,by simp,?_,λr R hr hbr=>?_,λ_=>.inl ⟨j,0,ht,⟨i,hi,hok⟩,hno⟩⟩
  ·rintro⟨m,pi,o,n,h1,h2⟩
   simp only[kE]at h1
   cases hgm:gs[m]? with
   |none=>rw[hgm]at h1;simp at h1
   |some g=>
    cases hpm:ps[m]? with
    |none=>rw[hgm,hpm]at h1;simp at h1
    |some pm=>
     rw[hgm,hpm]at h1
     simp only at h1
     cases hh:(g.ow||g.wb)with
     |false=>rw[hh]at h1;simp at h1
     |true=>
      rw[hh]at h1
      simp only[gP,au]at h1
      subst h1
      simp only at h2
      cases hbase:g.base with
      |none=>rw[hbase]at h2;simp at h2
      |some q=>
       rw[hbase]at h2
       simp only[o_,au,bZ]at h2
       exact hno m g q hgm hbase h2.1.symm
  ·obtain⟨m,g,im,pm,h1,D⟩:=hroot hr.1
   subst h1
   rw[D.blk]at hbr
   exact⟨0,hpr m (TR hi hp hok.q D.hg hbr).1⟩
 have aoM:∀{j:Nat} {i:bI} {p:aD} {b:Nat},is[j]?=some i->ps[j]?=some p->(∀k bJ,p≠.val k bJ)->mH Z J F w i.ids b->mH (fu ps c) (sF gs) [] w [(jy j,0)] b:=by
  intro j i p b hi hp EW hb
  refine⟨hb.1,by simp,λr R hr hbr=>?_⟩
  obtain⟨m,g,im,pm,h1,D⟩:=hroot hr.1
  subst h1
  rw[D.blk]at hbr
  obtain⟨_,k,bJ,h2,_⟩:=TR hi hp hb D.hg hbr
  exact absurd h2 (EW k bJ)
 have hpar:∀{j:Nat} {pi:D8},(kE cx Z J F w ps c is gs).par j=some pi->∃g p,gs[j]?=some g/\ps[j]?=some p/\(g.ow=true\/g.wb=true)/\pi=⟨g.base.map λq=>(q.1,q.2,rR p),iT g,g.wb⟩:=by
  intro j pi h1
  simp only[kE]at h1
  cases hgm:gs[j]? with
  |none=>rw[hgm]at h1;simp at h1
  |some g=>
   cases hpm:ps[j]? with
   |none=>rw[hgm,hpm]at h1;simp at h1
   |some pm=>
    rw[hgm,hpm]at h1
    simp only at h1
    cases hh:(g.ow||g.wb)with
    |false=>rw[hh]at h1;simp at h1
    |true=>
     rw[hh]at h1
     simp only[gP,au]at h1
     exact⟨g,pm,rfl,rfl,by simpa using hh,h1.symm⟩
 have abf:∀{j:Nat} {R:Root} {g:GA} {i:bI} {p:aD},RD cx Z J F w ps vs is gs j R g i p->(kE cx Z J F w ps c is gs).par j=some ⟨g.base.map λq=>(q.1,q.2,rR p),iT g,g.wb⟩:=by
  intro j R g i p D
  simp only[kE]
  rw[D.hg,D.hq]
  have:(g.ow||g.wb)=true:=by simpa using D.held
  simp only[this,gP]
 have hsame:∀{j:Nat} {R R':Root},(fu ps c).roots (aa j)=some R->(fu ps c).roots (aa j)=some R'->R'=R:=λh1 h2=>by rw[h1]at h2;simpa using h2.symm
 have vZ:∀{j:Nat} {g:GA} {p:aD} {b o:Nat},gs[j]?=some g->ps[j]?=some p->g.base=some (b,o)->∃arr e lo hi,hp w b=some (.cells arr e (lo,hi))/\jq arr.size lo hi/\o+rR p<=arr.size/\Cells (hp w) b o g.cs:=by
  intro j g p b o hg hp hb
  obtain⟨p',cj,v,i,e1,e2,e3,e4⟩:=hgj hg
  rw[hp]at e1
  simp only[au]at e1
  subst e1
  obtain⟨r,R,q',arr,e',lo,hi',f1,f2,f3,f4,f5,f6,f7,f8⟩:=(sM H e4).2.1 b o hb
  exact⟨arr,e',lo,hi',f4,f5,f6,f7⟩
 have abn:∀s,jo (kE cx Z J F w ps c is gs) (fu ps c) (sF gs) [] w ((fu ps c).slots s) (vs.toArray.getD s undef)/\nI (fu ps c) ((fu ps c).slots s):=by
  intro s
  rcases ab1 ps 0 c s with h|⟨j,p,cj0,hj,hps,hs0⟩
  ·have:(fu ps c).slots s=.one .undef:=h
   rw[this]
   exact⟨trivial,trivial⟩
  ·simp only[nR]at hj
   subst hj
   obtain⟨cj,v,i,g,e1,e2,e3,e4,e5,e6⟩:=hat s p hps
   have hsl:(fu ps c).slots s=.one (Am p s cj):=e5
   have hvs:vs.toArray.getD s undef=v:=by
    rw[Gi]
    simp[e1]
   rw[hsl,hvs]
   have hro:∀{k:K} {x:El k} {v:Value} {b o:Nat} {cs:List Value},(∀k bJ,p≠.val k bJ)->v=.pointer (some ⟨b,o,none⟩)->Cells (hp w) b o cs->Vw (hp w) (bK cx Z J F w i.ids) k x cs->mH Z J F w i.ids b->CW p=[]->
     wJ (kE cx Z J F w ps c is gs) (fu ps c) (sF gs) [] w SENT k x [(jy s,0)] v:=by
    intro k x v b o cs EW hv hC hV hq hpr
    refine⟨⟨b,o,hv⟩,λ_=>⟨b,o,cs,hv,hC,lJ (λ_ _=>rfl) (λb hb=>?_) hV,aoM e2 hps EW hq,.inl ⟨rfl,λt ht=>by simp only[iD]at ht;subst ht;exact uY s⟩⟩⟩
    exact TD e2 hps (Ta e2 hps hb (λk bJ h=>absurd h (EW k bJ))) (by simp) (by rw[hpr];simp)
   have TL:∀{R:Root},kG p s cj=some R->dV (fu ps c) (.ref (aa s) 0)/\dV (fu ps c) (.ptr (aa s) [] 0):=by
    intro R hR
    have hr:(fu ps c).roots (aa s)=some R:=by show iJ (iI ps 0 c) (aa s)=some R;rw[e6,hR]
    exact⟨⟨R,hr,.inr (fQ _)⟩,⟨R,hr,.inr (fQ _)⟩⟩
   have aaP:gB (fu ps c) [(jy s,0)]:=λt ht=>by simp only[iD]at ht;subst ht;exact .inl (uY s)
   have qN:∀{R:Root},kG p s cj=some R->R.kind=.anon->a_ (kE cx Z J F w ps c is gs) (fu ps c) (sF gs) [] w (.ref (aa s) 0) v:=by
    intro R hR hk Q hQ _
    have hr:(fu ps c).roots (aa s)=some R:=by show iJ (iI ps 0 c) (aa s)=some R;rw[e6,hR]
    have D:=JF e4 e3 e2 hps e1 hR
    have hQR:=hsame hr hQ.1
    subst hQR
    rcases D.kind with⟨hk',_⟩|⟨_,_,hV⟩
    ·rw[hk]at hk';simp at hk'
    ·refine⟨hk,?_⟩
     rw[(xk D.hg).2.1,<-e4.1]
     exact hV
   cases p with
   |val k bJ=>
    obtain⟨h0,h1,h2,h3,h4,h5,h6,h7⟩:=e4
    refine⟨λhc=>⟨g.cs,h6,?_⟩,?_⟩
    ·cases hf:k.flat with
     |true=>exact nG hf h7
     |false=>
      rw[show(Am (.val k bJ) s cj)=.val k cj.1 ((jy s,0) :: bJ.map λj=>(aa j,0)) by simp[Am,hf]]at *
      refine lJ (λ_ _=>rfl) (λb hb=>?_) (IB k.tys (λ_ h=>h) h7)
      refine TD e2 hps (Ta e2 hps hb.1 (λk' aue h=>by simp only[aD.val.injEq]at h;obtain⟨rfl,_⟩:=h;exact hb.2)) (by simp) (λn hn=>by exact jD _ (fP.2 ⟨n,hn,rfl⟩))
    ·intro t ht
     cases hf:k.flat with
     |true=>simp[Am,hf]at ht
     |false=>
      simp only[Am,hf,jV,bW,fP]at ht
      rcases ht with ht|⟨m,hm,ht⟩
      ·subst ht;exact .inl (uY s)
      ·subst ht
       obtain⟨i',q,f1,f2⟩:=hA.prw s _ hps m hm
       have hm':m<gs.length:=by have:=(qB.1 f1).1;omega
       obtain⟨p',cj',v',Ai,k1,k2,k3,k4⟩:=hgj (jl hm')
       rw[f1]at k3
       simp only[au]at k3
       subst k3
       obtain⟨R,_,_,hR,_⟩:=hmk (jl hm') (.inr ((sM H k4).2.2.2.2 (by rw[f2];simp)))
       exact .inr ⟨R,hR,.inr (fQ _)⟩
   |ro k=>
    obtain⟨h0,h1,h2,h3,h4,h5,b,o,h6,h7,h8,h9⟩:=e4
    exact⟨hro (by simp) h6 h7 h8 h9 rfl,aaP⟩
   |rw k ow wt ht=>
    obtain⟨R,hR⟩:=NH s e4 (.inr e4.2.2.1)
    have hr:(fu ps c).roots (aa s)=some R:=by show iJ (iI ps 0 c) (aa s)=some R;rw[e6,hR]
    have D:=JF e4 e3 e2 hps e1 hR
    obtain⟨h0,h1,h2,r,R0,q,b,o,h3,h4,h5,h6,h7,_⟩:=e4
    refine⟨⟨⟨b,o,h6⟩,λQ hQ _ _ _ _=>⟨trivial,g.cs,b,o,?_,h6⟩⟩,(TL hR).2⟩
    have hQR:=hsame hr hQ
    subst hQR
    simp only[aW]
    rw[D.wh,h7,(xk D.hg).2.1]
   |bO k ow wt=>
    obtain⟨R,hR⟩:=NH s e4 (.inr e4.2.2.1)
    exact⟨qN hR (by simp only[kG,au]at hR;subst hR;rfl),(TL hR).1⟩
   |own k ow=>
    obtain⟨R,hR⟩:=NH s e4 (.inl e4.2.1)
    exact⟨qN hR (by simp only[kG,au]at hR;subst hR;rfl),(TL hR).1⟩
   |fn f ks=>
    obtain⟨h0,h1,h2,h3,h4,h5,us,h6,h7⟩:=e4
    have anT:∀(ks:List K) (c0:Cont ks) (us:List Value),uM.KE cx Z J F w ks c0 us i.ids->nJ (kE cx Z J F w ps c is gs) (fu ps c) (sF gs) [] w (iU.yx s ks c0) us:=by
     intro ks
     induction ks with
     |nil=>intro c0 us h;cases us with
      |nil=>exact trivial
      |cons _ _=>exact h.elim
     |cons k ks ih=>intro c0 us h;cases us with
      |nil=>exact h.elim
      |cons u us=>
       obtain⟨⟨b,o,cs,g1,g2,g3,g4⟩,g5⟩:=h
       exact⟨hro (by simp) g1 g2 g3 g4 rfl,ih c0.2 us g5⟩
    have anU:∀(ks:List K) (c0:Cont ks),∀q∈iU.yx s ks c0,gB (fu ps c) q.2.2:=by
     intro ks
     induction ks with
     |nil=>intro c0 q hq;simp[iU.yx]at hq
     |cons k ks ih=>
      intro c0 q hq
      rcases bW.1 hq with h|h
      ·subst h;exact aaP
      ·exact ih c0.2 q h
    exact⟨⟨us,h6,anT ks cj us h7⟩,anU ks cj⟩
   |into j q=>
    obtain⟨h0,h1,h2,h3,h4,h5,h6⟩:=e4
    cases q with
    |nil=>
     rcases h6 with⟨_,_,b,h6⟩|⟨h6,_⟩
     ·exact⟨⟨b,h6⟩,trivial⟩
     ·exact absurd rfl h6
    |cons t q=>
     rcases h6 with⟨h6,_⟩|⟨_,r,q',R,cs,b,o,l1,l2,l3,l4,l5,l6,l7⟩
     ·simp at h6
     ·obtain⟨k,ow,wt,ht,i',q1,u,m1,m2,m3,m4⟩:=hA.lie s j (t :: q) i r q' hps e2 l1
      obtain⟨cj',v',Ai,g',f1,f2,f3,f4,f5,f6⟩:=hat j _ m1
      rw[m2]at f2
      simp only[au]at f2
      subst f2
      have f4':=f4
      obtain⟨_,_,_,r2,R2,p2,b2,o2,hP,_,hn,_,hgb,_⟩:=f4'
      have hw:=hP.wb
      rw[m3]at hw
      simp only[au,bZ]at hw
      obtain⟨rfl,rfl,_⟩:=hw
      have hRR:R2=R:=by have:=hP.lv.1;rw[l2.1]at this;simpa using this.symm
      subst hRR
      rw[l7]at m4
      have hr0:(fu ps c).roots (aa j)=kG (.rw k ow wt ht) j cj':=f6
      have D:=JF f4 f3 m2 m1 f1 rfl
      refine⟨⟨⟨b,o,l6⟩,λQ hQ _ _ _ _=>?_⟩,⟨_,hr0,.inr (fQ _)⟩⟩
      rw[hr0]at hQ
      simp only[kG,au]at hQ
      have e7:(sF gs).hdr (aa j)=g'.cs:=(xk f3).2.1
      have e8:=D.wh
      rw[hQ]at e8
      subst hQ
      rw[m4]at l3 l5
      refine⟨akh q1 hP.get l3,cs,b,o,?_,l6⟩
      rw[e7,e8,<-l5,J2 q1 hP.get hn,hgb]
      rfl
 constructor
 ·rfl
 ·exact fQ _
 ·intro j pi b o n hj hb
  obtain⟨g,p,hg,hp,hh,rfl⟩:=hpar hj
  obtain⟨R,i,p',hr,D⟩:=hmk hg hh
  have:p'=p:=by have:=D.hq;rw[hp]at this;simpa using this.symm
  subst this
  simp only at hb
  cases hbase:g.base with
  |none=>rw[hbase]at hb;simp at hb
  |some q=>
   rw[hbase]at hb
   simp only[o_,au,bZ]at hb
   obtain⟨rfl,rfl,rfl⟩:=hb
   rcases D.kind with⟨hk,hs,_⟩|⟨_,hn,_⟩
   ·refine⟨R,⟨hr,D.live⟩,hk,?_,hs.symm⟩
    rw[(xk hg).1,hbase]
    rfl
   ·rw[hbase]at hn;simp at hn
 ·intro r R hr hk
  obtain⟨j,g,i,p,rfl,D⟩:=hroot hr.1
  rcases D.kind with⟨_,hs,_,b,o,hb,_⟩|⟨hk',_⟩
  ·refine⟨j,_,rR p,rfl,abf D,?_⟩
   rw[(xk D.hg).1,hb]
   rfl
  ·rw[hk]at hk';simp at hk'
 ·exact λs=>(abn s).1
 ·exact λs=>(abn s).2
 ·intro r R hr
  obtain⟨j,g,i,p,rfl,D⟩:=hroot hr.1
  obtain⟨a1,a2,a3⟩:=xk D.hg
  refine⟨λ_=>?_,by rw[a2];exact fU D.ow,λb o hb=>?_,by rw[D.blk];exact hnd D,λb hb=>?_⟩
  ·rw[a2,a3]
   have fE:=D.tags
   cases hall:(R.k.tys.all λt=>ah t R.own)with
   |true=>exact jU (kU (pM hall)) D.ow
   |false=>
    rw[hall]at fE
    refine eO (λ_ _=>rfl) (λb hb=>?_) (λ_ _=>rfl) D.ow
    exact TD D.hi D.hq (Ta D.hi D.hq hb (λk bJ h=>absurd h (D.aqH k bJ))) (by rw[fE];simp) (by rw[D.bJ];simp)
  ·rw[D.wh]at hb
   obtain⟨arr,e,lo,hi,m1,m2,m3,m4⟩:=vZ D.hg D.hq hb
   rw[a2]
   rcases D.kind with⟨hk,hs,_⟩|⟨_,hn,_⟩
   ·exact⟨m4,arr,e,lo,hi,m1,m2,by rw[<-hs];exact m3,λt ht=>by rw[hk]at ht;simp at ht⟩
   ·rw[hb]at hn;simp at hn
  ·rw[D.blk]at hb
   exact⟨hlt D.hg hb,.inr ⟨j,_,abf D,hb⟩⟩
 ·intro r R hr
  obtain⟨j,g,i,p,rfl,D⟩:=hroot hr
  have fE:=D.tags
  refine⟨λt ht=>?_,Ao j,λn hn=>?_⟩
  ·rw[fE]at ht
   cases hall:(R.k.tys.all λt=>ah t R.own)with
   |true=>rw[hall]at ht;simp at ht
   |false=>rw[hall]at ht;simp only[jV,iD]at ht;subst ht;exact .inl (uY j)
  ·rw[fE]at hn
   cases hall:(R.k.tys.all λt=>ah t R.own)with
   |true=>rw[hall]at hn;simp at hn
   |false=>rw[hall]at hn;simp only[jV,iD,bZ]at hn;unfold aa jy at hn;omega
 ·intro r R r' R' hr hr' hne b hb
  obtain⟨j,g,i,p,rfl,D⟩:=hroot hr.1
  obtain⟨j',g',i',p',rfl,D'⟩:=hroot hr'.1
  rw[D.blk]at hb
  rw[D'.blk]
  exact aaN D.hg D'.hg (λe=>hne (by rw[e])) hb
 ·intro b hb;simp at hb
 ·exact lZ
 ·intro r R _ b _ h;simp at h
 ·refine⟨rfl,rfl,rfl,bV _,λ_ _ _=>rfl,λj pi b o n hj hb=>?_⟩
  obtain⟨g,p,hg,hp,hh,rfl⟩:=hpar hj
  simp only at hb
  cases hbase:g.base with
  |none=>rw[hbase]at hb;simp at hb
  |some q=>
   rw[hbase]at hb
   simp only[o_,au,bZ]at hb
   obtain⟨rfl,rfl,rfl⟩:=hb
   obtain⟨arr,e,lo,hi,m1,_⟩:=vZ hg hp (b:=q.1) (o:=q.2) (by rw[hbase])
   exact mU.of_same _ _ m1 rfl
 ·intro j pi hj hk
  obtain⟨g,p,hg,hp,hh,rfl⟩:=hpar hj
  obtain⟨R,i,p',hr,D⟩:=hmk hg hh
  refine⟨R,hr,λ_ b hb _=>.inr ⟨rfl,by simp,λq Q hq hbq=>?_⟩⟩
  obtain⟨j',g',i',p'',rfl,D'⟩:=hroot hq.1
  rw[D'.blk]at hbq
  by_cases e:j'=j
  ·rw[e]
  ·exact absurd hb (aaN D'.hg hg e hbq)
 ·refine⟨λj pi hj b hb=>?_,λb hb=>⟨?_,λj pi hj hbl=>?_⟩,λb hb=>H.fixed hb⟩
  ·obtain⟨g,p,hg,hp,hh,rfl⟩:=hpar hj
   exact hlt hg hb
  ·exact x_ (H.mJ.2.1 b hb).1 H.frame.2.2.2.1
  ·obtain⟨g,p,hg,hp,hh,rfl⟩:=hpar hj
   exact H.acn (hmn hg hbl) hb
 ·intro j q ts v hv
  obtain⟨g,R0,c0,b,o,h1,h2,h3,h4,h5,h6,h7,h8⟩:=hv
  refine⟨⟨b,o,h8⟩,R0,h3,λ_=>⟨⟨b,o,h8⟩,λQ hQ _ _ _ _=>?_⟩⟩
  have hQR:=hsame (show(fu ps c).roots (aa j)=some R0 from h3) hQ
  subst hQR
  obtain⟨g',i',p',D⟩:=aoZ hQ
  have:g'=g:=by have:=D.hg;rw[h1]at this;simpa using this.symm
  subst this
  refine⟨h6,c0,b,o,?_,h8⟩
  rw[D.wh,(xk D.hg).2.1]
  exact h7
 ·intro j v hv
  obtain⟨g,h1,h2,h3,h4⟩:=hv
  obtain⟨R,i,p,hr,D⟩:=hmk h1 (.inr h4)
  refine⟨⟨R,hr⟩,λQ hQ _=>?_⟩
  have hQR:=hsame hr hQ.1
  subst hQR
  rcases D.kind with⟨_,_,_,b,o,hb,_⟩|⟨hk,_,hV⟩
  ·rw[h3]at hb;simp at hb
  ·refine⟨hk,?_⟩
   rw[(xk D.hg).2.1,<-h2]
   exact hV
end
end
section
open Go
variable [Fr]
def Qj(Z:St)(J:aO)(w:World)(j:Nat)(p:List (Option Nat))(m:Int)(v:Value):Prop:=
 (m<0/\v=.pointer none)\/(0<=m/\∃R cs b o,aX Z (aa j) R/\bX (sZ p m) R.k R.x/\az (sZ p m) R.k≠[]/\aW (hp w) (sZ p m) R.k (J.hdr (aa j)) (aS J R (aa j))=some (cs,some (b,o))/\v=.pointer (some ⟨b,o,none⟩))
def uQ(cx:Cx)(Z:St)(J:aO)(F:List Nat)(w:World):(rs:List bN)->Cont (eU rs)->List Value->List (List Nat)->Prop
 | [],_,[],[]=>True
 |.val k exts bJ :: rs,c,v :: vs,fo :: ay=>(fo=[]/\∃T cs,(k.flat=true\/rU exts bJ T=true)/\VC k v cs/\Vw (hp w) (bK cx Z J F w T) k c.1 cs)/\uQ cx Z J F w rs c.2 vs ay
 |.own k ow exts bJ :: rs,c,v :: vs,fo :: ay=>(∃T cs own,((k.tys.all λt=>ah t ow)=true\/rU exts bJ T=true)/\(∀t∈k.tys,ah t ow=true->ah t own=true)/\VC k v cs/\Ow (hp w) own (bK cx Z J F w T) k c.1 cs fo)/\uQ cx Z J F w rs c.2 vs ay
 |.ptr t k ow exts :: rs,c,v :: vs,fo :: ay=>(∃b o T cs own aM,v=.pointer (some ⟨b,o,none⟩)/\fo=b :: aM/\((k.tys.all λt=>ah t ow)=true\/rU exts [] T=true)/\(∀t∈k.tys,ah t ow=true->ah t own=true)/\
   (Cells (hp w) b o cs/\∃arr e lo hi,hp w b=some (.cells arr e (lo,hi))/\jq arr.size lo hi/\o+k.size<=arr.size/\e=t)/\Ow (hp w) own (bK cx Z J F w T) k c.1 cs aM)/\uQ cx Z J F w rs c.2 vs ay
 |.into j p :: rs,c,v :: vs,fo :: ay=>(fo=[]/\((p=[]/\∃b n cp,v=.slice b (show Int from c.1).toNat cp/\(show Int from c.1).toNat<=n/\a_ cx Z J F w (.ref (aa j) 0) (.slice b n cp))\/(p≠[]/\Qj Z J w j p (show Int from c.1) v)))/\uQ cx Z J F w rs c.2 vs ay
 |_,_,_,_=>False
def M4(Z:St)(k:K)(x:El k)(ow wt ht:List TypeId)(j:Nat):Prop:=
 ∃R,Z.roots (aa j)=some R/\dF Z R/\(∃e:R.k=k,x=e▸R.x)/\wF k R.own ow=true/\xE R (some (wt,ht))=true/\((k.tys.all λt=>ah t ow)=true\/rU [j] [] R.tags=true)
def rZ(Z:St):(ps:List aD)->Nat->Cont (gI ps)->Prop
 | [],_,_=>True
 |.rw k ow wt ht :: ps,j,c=>M4 Z k c.1 ow wt ht j/\rZ Z ps (j+1) c.2
 |.bO k ow wt :: ps,j,c=>M4 Z k c.1 ow wt k.tys j/\rZ Z ps (j+1) c.2
 |.val _ _ :: ps,j,c=>rZ Z ps (j+1) c
 |.ro _ :: ps,j,c=>rZ Z ps (j+1) c
 |.own _ _ :: ps,j,c=>rZ Z ps (j+1) c
 |.fn _ _ :: ps,j,c=>rZ Z ps (j+1) c
 |.into _ _ :: ps,j,c=>rZ Z ps (j+1) c
def C8:List Value->Value
 | [v]=>v
 |vs=>.tuple vs.toArray
def Post(cx:Cx)(ps:List aD)(rs:List bN)(out:Cont (eU rs++gI ps))(v:Value)(w':World):Prop:=
 ∃Z J F a vs ay,Rel cx Z J F a w'/\v=C8 vs/\uQ cx Z J F w' rs (Cont.fst _ _ out) vs ay/\ay.flatten.Nodup/\(∀b∈ay.flatten,b∈F)/\rZ Z ps 0 (Cont.snd _ _ out)
def De(P:Program)(f:FuncId)(args:Array Value)(w:World)(R:Value->World->Prop):Prop:=
 ((callFunc f args).run P w=.ok (.enter f args) w/\Calls P f args w λe w'=>∃v,e=.returned v/\R v w')\/∃v w',(callFunc f args).run P w=.ok (.value v) w'/\R v w'
def wW(ps:List aD)(j:Nat)(k:K):Prop:=∃ow wt ht,ps[j]?=some (.rw k ow wt ht)\/ps[j]?=some (.bO k ow wt)
structure D9(cx:Cx)(ps:List aD):Prop where
 par:∀j pi,cx.par j=some pi->pi.kp=true->∃k,wW ps j k
 ptr:∀j p ts v,cx.ptrs j p ts v->∃k,wW ps j k/\ts=iL p k
 ref:∀j v,cx.refs j v->∃k,wW ps j k
def aA(P:Program)(n:Nat)(E:Entry):Prop:=
 ∀(c:Cont (kin E.ps)) (out:Cont (eU E.rs++gI E.ps)),E.F n c=some out->∀(cx:Cx) (J:aO) (args:Array Value) (w:World),cx.nt=0->cx.w0=w->args.size=E.ps.length->D9 cx E.ps->
  Rel cx (fu E.ps c) J [] ⟨args,[]⟩ w->De P E.f args w (Post cx E.ps E.rs out)
section
variable {P:Program}{T:bL}{cx:Cx}{Z:St}{J:aO}{F:List Nat}{a:Act}{w w':World}{ps:List aD}{c:Cont (kin ps)}{vs:List Value}{is:List bI}{gs:List GA}
structure AY(Z:St)(J:aO)(is:List bI)(gs:List GA)(jT:St)(iB:aO)(Ff:List Nat)(Z':St)(J':aO)(F':List Nat):Prop where
 blk:∀q Q b,aX Z' q Q->b∈blk J' Q q->b∈Ff\/(∃Q0,aX Z q Q0/\b∈Ow.blk J Q0 q/\∀(m:Nat) (g:GA),gs[m]?=some g->b∉g.fo)\/
  ∃(m:Nat) (i:bI) (R:Root) (u:List Stp×List TypeId×List TypeId),is[m]?=some i/\i.wb=some (q,u)/\aX jT (aa m) R/\b∈Ow.blk iB R (aa m)
 F:∀b∈F',b∈Ff
theorem Er(H:Rel cx Z J F a w)(hJ:wU cx Z J F a w ps c vs is gs){j:Nat}{pi:D8}(h:(kE cx Z J F w ps c is gs).par j=some pi):∃g p cj v i,gs[j]?=some g/\ps[j]?=some p/\is[j]?=some i/\uM cx Z J F a w p cj v i g/\(g.ow=true\/g.wb=true)/\pi=⟨g.base.map λq=>(q.1,q.2,rR p),iT g,g.wb⟩:=by
 obtain⟨lv,li,lg,hat⟩:=hJ.at (i0:=0)
 simp only[kE]at h
 cases hgm:gs[j]? with
 |none=>rw[hgm]at h;simp at h
 |some g=>
  cases hpm:ps[j]? with
  |none=>rw[hgm,hpm]at h;simp at h
  |some pm=>
   rw[hgm,hpm]at h
   simp only at h
   cases hh:(g.ow||g.wb)with
   |false=>rw[hh]at h;simp at h
   |true=>
    rw[hh]at h
    simp only[gP,au]at h
    obtain⟨cj,v,i,g',e1,e2,e3,e4,_⟩:=hat j pm hpm
    rw[hgm]at e3
    simp only[au]at e3
    subst e3
    exact⟨g,pm,cj,v,i,rfl,rfl,e2,e4,by simpa using hh,h.symm⟩
theorem aqZ(H:Rel cx Z J F a w)(hJ:wU cx Z J F a w ps c vs is gs):D9 (kE cx Z J F w ps c is gs) ps:=by
 obtain⟨lv,li,lg,hat⟩:=hJ.at (i0:=0)
 simp only[nR]at hat
 have NQ:∀{j:Nat} {g:GA},gs[j]?=some g->g.wb=true->∃p cj,ps[j]?=some p/\iJ (iI ps 0 c) (aa j)=kG p j cj/\((∃k ow wt ht,p=.rw k ow wt ht)\/∃k ow wt,p=.bO k ow wt):=by
  intro j g hg hw
  have hj:j<ps.length:=by have:=(qB.1 hg).1;omega
  obtain⟨cj,v,i,g',e1,e2,e3,e4,e5,e6⟩:=hat j ps[j] (jl hj)
  rw[hg]at e3
  simp only[au]at e3
  subst e3
  refine⟨ps[j],cj,jl hj,e6,?_⟩
  obtain⟨k,x,ow,wt,ht,r,R,q,wh,h,_⟩:=atx e4 hw
  rcases h with⟨h,_⟩|⟨h,_⟩
  ·exact .inl ⟨k,ow,wt,ht,h⟩
  ·exact .inr ⟨k,ow,wt,h⟩
 have hk:∀{j:Nat} {g:GA},gs[j]?=some g->g.wb=true->∃k,wW ps j k/\∃R0,iJ (iI ps 0 c) (aa j)=some R0/\R0.k=k:=by
  intro j g hg hw
  obtain⟨p,cj,h1,h2,h3⟩:=NQ hg hw
  rcases h3 with⟨k,ow,wt,ht,rfl⟩|⟨k,ow,wt,rfl⟩
  ·exact⟨k,⟨ow,wt,ht,.inl h1⟩,_,h2,rfl⟩
  ·exact⟨k,⟨ow,wt,[],.inr h1⟩,_,h2,rfl⟩
 refine⟨λj pi hj hkp=>?_,λj q ts v hv=>?_,λj v hv=>?_⟩
 ·obtain⟨g,p,cj,v,i,e1,e2,e3,e4,e5,rfl⟩:=Er H hJ hj
  obtain⟨k,h,_⟩:=hk e1 hkp
  exact⟨k,h⟩
 ·obtain⟨g,R0,c0,b,o,h1,h2,h3,h4,_⟩:=hv
  obtain⟨k,h,R1,h5,h6⟩:=hk h1 h2
  rw[h3]at h5
  simp only[au]at h5
  subst h5
  exact⟨k,h,by rw[h4,h6]⟩
 ·obtain⟨g,h1,_,_,h2⟩:=hv
  obtain⟨k,h,_⟩:=hk h1 h2
  exact⟨k,h⟩
theorem Oy(H:Rel cx Z J F a w)(hJ:wU cx Z J F a w ps c vs is gs){jT:St}{iB:aO}{Ff:List Nat}{af:Act}(Hf:Rel (kE cx Z J F w ps c is gs) jT iB Ff af w'){Z':St}{J':aO}{F':List Nat}
  (B:AY Z J is gs jT iB Ff Z' J' F') {Tg U:List Tag} (hU1:∀j n,(jy j,n)∈Tg->∀i,is[j]?=some i->∀t∈i.ids,∃n',(t.1,n')∈U) (hU2:∀m n,(aa m,n)∈Tg->∀i q,is[m]?=some i->i.wb=some q->∃n',(q.1,n')∈U)
  {b:Nat} (hb:bK (kE cx Z J F w ps c is gs) jT iB Ff w' Tg b):bK cx Z' J' F' w' U b:=by
 obtain⟨hb1,hb2,hb3,hb4,hb5⟩:=hb
 have hcl:w.heap.size<=b\/(b<w.heap.size/\∃j n i,(jy j,n)∈Tg/\is[j]?=some i/\bK cx Z J F w i.ids b)\/(b<w.heap.size/\∃(j:Nat) (g:GA),gs[j]?=some g/\b∈g.fo/\((g.ow=true/\b∈F)\/(g.wb=true/\∃r R,aX Z r R/\b∈J.fo r))):=by
  by_cases hlt:b<w.heap.size
  ·refine .inr ?_
   rcases hb5 hlt with⟨j,n,h1,⟨i,h2,h3⟩,_⟩|⟨j,pi,h1,h2⟩
   ·exact .inl ⟨hlt,j,n,i,h1,h2,h3⟩
   ·refine .inr ⟨hlt,?_⟩
    obtain⟨g,p,cj,v,i,e1,e2,e3,e4,e5,rfl⟩:=Er H hJ h1
    simp only at h2
    have hfo:b∈g.fo:=by
     unfold iT at h2
     cases hbase:g.base with
     |none=>rw[hbase]at h2;simpa using h2
     |some q=>
      rw[hbase]at h2
      simp only[kY,ru,bW]at h2
      rcases h2 with h2|h2
      ·exact absurd ⟨j,_,q.2,rR p,h1,by rw[hbase,h2];rfl⟩ hb3
      ·exact h2
    refine⟨j,g,e1,hfo,?_⟩
    rcases(sM H e4).1 b (by unfold iT;exact bH _ hfo)with h|⟨h,_⟩
    ·exact .inl h
    ·obtain⟨r,R,q,_,f2,f3⟩:=(sM H e4).2.2.1 b hfo h
     exact .inr ⟨h,r,R,f2,f3⟩
  ·exact .inl (Nat.le_of_not_lt hlt)
 refine⟨hb1,λh=>hb2 (B.F b h),?_,?_,?_⟩
 ·intro hbase
  have hlt:b<w.heap.size:=by
   obtain⟨j,pi,o,n,h1,h2⟩:=hbase
   obtain⟨Q,hQ,hk,hl,_⟩:=H.kI j pi b o n h1 h2
   exact((H.roots _ _ hQ).mine b (by simp[Ow.blk,aS,hk,hl])).1
  rcases hcl with h|⟨_,j,n,i,_,_,h⟩|⟨_,j,g,h1,h2,h⟩
  ·omega
  ·exact h.2.2.1 hbase
  ·rcases h with⟨_,h⟩|⟨_,r,R,h3,h4⟩
   ·exact Bh H h hbase
   ·exact Ac H h3 h4 hbase
 ·intro q Q hq hbq
  rcases B.blk q Q b hq hbq with h|⟨Q0,h1,h2,h3⟩|⟨m,i,R,u,h1,h2,h3,h4⟩
  ·exact absurd h hb2
  ·have hlt:=((H.roots q Q0 h1).mine b h2).1
   rcases hcl with h|⟨_,j,n,i,g1,g2,g3⟩|⟨_,j,g,g1,g2,_⟩
   ·omega
   ·obtain⟨n',hn'⟩:=g3.2.2.2.1 q Q0 h1 h2
    exact hU1 j n g1 i g2 _ hn'
   ·exact absurd g2 (h3 j g g1)
  ·obtain⟨n,hn⟩:=hb4 (aa m) R h3 h4
   exact hU2 m n hn i _ h1 h2
 ·intro h0
  have hlt:b<w.heap.size:=x_ h0 H.frame.2.2.2.1
  have jQ:Ow.mine cx w b->(∃j n,(jy j,n)∈U/\cx.ext j b)\/∃j pi,cx.par j=some pi/\b∈pi.bl:=λhm=>by
   rcases hm.2 with h|⟨j,pi,h1,h2⟩
   ·omega
   ·exact .inr ⟨j,pi,h1,h2⟩
  rcases hcl with h|⟨_,j,n,i,g1,g2,g3⟩|⟨_,j,g,g1,g2,g3⟩
  ·omega
  ·rcases g3.2.2.2.2 h0 with⟨j',n',f1,f2⟩|h
   ·obtain⟨n2,hn2⟩:=hU1 j n g1 i g2 _ f1
    exact .inl ⟨j',n2,hn2,f2⟩
   ·exact .inr h
  ·rcases g3 with⟨_,h⟩|⟨_,r,R,h3,h4⟩
   ·exact jQ (H.fl b h)
   ·exact jQ ((H.roots r R h3).mine b (bH _ h4))
end
end
section
open Go
variable [Fr]
def qV(Z:St):(ps:List aD)->List bI->Cont (gI ps)->List Wr->Prop
 | [],[],_,ws=>ws=[]
 |.rw k _ _ _ :: ps,i :: is,c,ws=>∃r p wt ht R z ws',i.wb=some (r,p,wt,ht)/\Z.roots r=some R/\dz p R.k R.x ⟨k,c.1⟩=some z/\ws=.r r (some { R with k:=z.1,x:=z.2,w:=(iV R p :: wt)++R.w,h:=ht++R.h }) :: ws'/\qV Z ps is c.2 ws'
 |.bO k _ _ :: ps,i :: is,c,ws=>∃r p wt ht R z ws',i.wb=some (r,p,wt,ht)/\Z.roots r=some R/\dz p R.k R.x ⟨k,c.1⟩=some z/\ws=.r r (some { R with k:=z.1,x:=z.2,w:=(SENT :: (k.tys++wt))++R.w,h:=ht++R.h }) :: ws'/\qV Z ps is c.2 ws'
 |.val _ _ :: ps,_ :: is,c,ws=>qV Z ps is c ws
 |.ro _ :: ps,_ :: is,c,ws=>qV Z ps is c ws
 |.own _ _ :: ps,_ :: is,c,ws=>qV Z ps is c ws
 |.fn _ _ :: ps,_ :: is,c,ws=>qV Z ps is c ws
 |.into _ _ :: ps,_ :: is,c,ws=>qV Z ps is c ws
 |_,_,_,_=>False
theorem akI{A:Type}{z:A}{Z:St}:∀{ps:List aD} {is:List bI} {c:Cont (gI ps)} {k:List Wr->Prog A},(BU ps is c k).ends Z z->∃ws,qV Z ps is c ws/\(k ws).ends Z z:=by
 intro ps
 induction ps with
 |nil=>
  intro is c k h
  cases is with
  |nil=>exact⟨[],rfl,h⟩
  |cons _ _=>exact h.elim
 |cons p ps ih=>
  intro is c k h
  cases is with
  |nil=>cases p<;>exact h.elim
  |cons i is=>
   cases p with
   |rw kk ow xN ht0=>
    obtain⟨ids,wb,ws0,bt,apR⟩:=i
    cases wb with
    |none=>exact h.elim
    |some q=>
     obtain⟨r,p,wt,ht⟩:=q
     simp only[BU,Prog.ends]at h
     cases hr:Z.roots r with
     |none=>rw[hr]at h;exact h.elim
     |some R=>
      rw[hr]at h
      simp only at h
      cases hz:dz p R.k R.x ⟨kk,c.1⟩with
      |none=>rw[hz]at h;exact h.elim
      |some z=>
       rw[hz]at h
       obtain⟨ws,g1,g2⟩:=ih h
       exact⟨_,⟨r,p,wt,ht,R,z,ws,rfl,hr,hz,rfl,g1⟩,g2⟩
   |bO kk ow xN=>
    obtain⟨ids,wb,ws0,bt,apR⟩:=i
    cases wb with
    |none=>exact h.elim
    |some q=>
     obtain⟨r,p,wt,ht⟩:=q
     simp only[BU,Prog.ends]at h
     cases hr:Z.roots r with
     |none=>rw[hr]at h;exact h.elim
     |some R=>
      rw[hr]at h
      simp only at h
      cases hz:dz p R.k R.x ⟨kk,c.1⟩with
      |none=>rw[hz]at h;exact h.elim
      |some z=>
       rw[hz]at h
       obtain⟨ws,g1,g2⟩:=ih h
       exact⟨_,⟨r,p,wt,ht,R,z,ws,rfl,hr,hz,rfl,g1⟩,g2⟩
   |val _ _=>exact ih h
   |ro _=>exact ih h
   |own _ _=>exact ih h
   |fn _ _=>exact ih h
   |into _ _=>exact ih h
theorem Ze{Z:St}:∀{ps:List aD} {is:List bI} {c:Cont (gI ps)} {ws:List Wr},(∀i∈is,i.wb=none)->qV Z ps is c ws->ws=[]:=by
 intro ps
 induction ps with
 |nil=>
  intro is c ws _ h
  cases is with
  |nil=>exact h
  |cons _ _=>exact h.elim
 |cons p ps ih=>
  intro is c ws hn h
  cases is with
  |nil=>cases p<;>exact h.elim
  |cons i is=>
   have hn':∀i∈is,i.wb=none:=λi hi=>hn i (by simp[hi])
   have h0:=hn i (by simp)
   cases p with
   |rw kk ow xN ht0=>obtain⟨r,p,wt,ht,R,z,ws',h1,_⟩:=h;rw[h0]at h1;simp at h1
   |bO kk ow xN=>obtain⟨r,p,wt,ht,R,z,ws',h1,_⟩:=h;rw[h0]at h1;simp at h1
   |val _ _=>exact ih hn' h
   |ro _=>exact ih hn' h
   |own _ _=>exact ih hn' h
   |fn _ _=>exact ih hn' h
   |into _ _=>exact ih hn' h
theorem J8{i:bI}{is:List bI}(h:yT (i :: is)=true):(i.wb=none/\yT is=true)\/(i.wb≠none/\∀i'∈is,i'.wb=none):=by
 unfold yT at h
 cases hw:i.wb with
 |none=>rw[hw]at h;exact .inl ⟨rfl,h⟩
 |some q=>
  rw[hw]at h
  refine .inr ⟨by simp,λi' hi=>?_⟩
  have:=eX.1 h i' hi
  cases hw':i'.wb with
  |none=>rfl
  |some _=>rw[hw']at this;simp at this
theorem akJ{Z jT:St}:∀{ps:List aD} {is:List bI} {c:Cont (gI ps)} {ws:List Wr} {j0:Nat},yT is=true->(∀(m:Nat) (p:aD) (i:bI),ps[m]?=some p->is[m]?=some i->(∀k ow wt ht,p≠.rw k ow wt ht)->(∀k ow wt,p≠.bO k ow wt)->i.wb=none)->
  qV Z ps is c ws->rZ jT ps j0 c->(ws=[]/\∀i∈is,i.wb=none)\/
  ∃(j:Nat) (i:bI) (k:K) (x:El k) (ow wt ht:List TypeId) (r:Nat) (p:List Stp) (R:Root) (z:Dat) (eG ht':List TypeId),is[j]?=some i/\i.wb=some (r,p,eG,ht')/\Z.roots r=some R/\dz p R.k R.x ⟨k,x⟩=some z/\M4 jT k x ow wt ht (j0+j)/\(∀(m:Nat) (i':bI),m≠j->is[m]?=some i'->i'.wb=none)/\
   ((ps[j]?=some (.rw k ow wt ht)/\ws=[.r r (some { R with k:=z.1,x:=z.2,w:=(iV R p :: eG)++R.w,h:=ht'++R.h })])\/(ps[j]?=some (.bO k ow wt)/\ht=k.tys/\ws=[.r r (some { R with k:=z.1,x:=z.2,w:=(SENT :: (k.tys++eG))++R.w,h:=ht'++R.h })])):=by
 intro ps
 induction ps with
 |nil=>
  intro is c ws j0 _ _ hB _
  cases is with
  |nil=>exact .inl ⟨hB,by simp⟩
  |cons _ _=>exact hB.elim
 |cons p ps ih=>
  intro is c ws j0 h1 hal hB hO
  cases is with
  |nil=>cases p<;>exact hB.elim
  |cons i is=>
   have anH:∀(m:Nat) (p:aD) (i:bI),ps[m]?=some p->is[m]?=some i->(∀k ow wt ht,p≠.rw k ow wt ht)->(∀k ow wt,p≠.bO k ow wt)->i.wb=none:=λm p i hp hi=>hal (m+1) p i (by simpa using hp) (by simpa using hi)
   have hrest:∀{c':Cont (gI ps)} {ws':List Wr},i.wb=none->qV Z ps is c' ws'->rZ jT ps (j0+1) c'->(ws'=[]/\∀i'∈i :: is,i'.wb=none)\/
     ∃(j:Nat) (i':bI) (k:K) (x:El k) (ow wt ht:List TypeId) (r:Nat) (q:List Stp) (R:Root) (z:Dat) (eG ht':List TypeId),(i :: is)[j]?=some i'/\i'.wb=some (r,q,eG,ht')/\Z.roots r=some R/\dz q R.k R.x ⟨k,x⟩=some z/\M4 jT k x ow wt ht (j0+j)/\(∀(m:Nat) (Ai:bI),m≠j->(i :: is)[m]?=some Ai->Ai.wb=none)/\
      (((p :: ps)[j]?=some (.rw k ow wt ht)/\ws'=[.r r (some { R with k:=z.1,x:=z.2,w:=(iV R q :: eG)++R.w,h:=ht'++R.h })])\/((p :: ps)[j]?=some (.bO k ow wt)/\ht=k.tys/\ws'=[.r r (some { R with k:=z.1,x:=z.2,w:=(SENT :: (k.tys++eG))++R.w,h:=ht'++R.h })])):=by
    intro c' ws' hw hB hO
    have ho:yT is=true:=by
     rcases J8 h1 with⟨_,h⟩|⟨h,_⟩
     ·exact h
     ·exact absurd hw h
    rcases ih ho anH hB hO with⟨e,h⟩|⟨j,i',k,x,ow,wt,ht,r,q,R,z,eG,ht',e1,e2,e3,e4,e5,e6,e7⟩
    ·refine .inl ⟨e,λi' hi=>?_⟩
     rcases bW.1 hi with h'|h'
     ·subst h';exact hw
     ·exact h i' h'
    ·refine .inr ⟨j+1,i',k,x,ow,wt,ht,r,q,R,z,eG,ht',by simpa using e1,e2,e3,e4,by rw[show j0+(j+1)=j0+1+j by omega];exact e5,λm Ai hm hi=>?_,by simpa using e7⟩
     cases m with
     |zero=>simp only[qA,au]at hi;subst hi;exact hw
     |succ m=>exact e6 m Ai (by omega) (by simpa using hi)
   have hnw:∀{eG:Option (Nat×List Stp×List TypeId×List TypeId)},i.wb=eG->eG≠none->∀i'∈is,i'.wb=none:=by
    intro eG he hne
    rcases J8 h1 with⟨h,_⟩|⟨_,h⟩
    ·rw[he]at h;exact absurd h hne
    ·exact h
   cases p with
   |rw kk ow xN ht0=>
    obtain⟨r,q,wt,ht,R,z,ws',g1,g2,g3,g4,g5⟩:=hB
    have hn:=hnw g1 (by simp)
    have:=Ze hn g5
    subst this
    refine .inr ⟨0,i,kk,c.1,ow,xN,ht0,r,q,R,z,wt,ht,rfl,g1,g2,g3,hO.1,λm i' hm hi=>?_,.inl ⟨rfl,g4⟩⟩
    cases m with
    |zero=>exact absurd rfl hm
    |succ m=>exact hn i' (rq (by simpa using hi))
   |bO kk ow xN=>
    obtain⟨r,q,wt,ht,R,z,ws',g1,g2,g3,g4,g5⟩:=hB
    have hn:=hnw g1 (by simp)
    have:=Ze hn g5
    subst this
    refine .inr ⟨0,i,kk,c.1,ow,xN,kk.tys,r,q,R,z,wt,ht,rfl,g1,g2,g3,hO.1,λm i' hm hi=>?_,.inr ⟨rfl,rfl,g4⟩⟩
    cases m with
    |zero=>exact absurd rfl hm
    |succ m=>exact hn i' (rq (by simpa using hi))
   |val k bJ=>exact hrest (hal 0 _ i rfl rfl (by simp) (by simp)) hB hO
   |ro k=>exact hrest (hal 0 _ i rfl rfl (by simp) (by simp)) hB hO
   |own k ow=>exact hrest (hal 0 _ i rfl rfl (by simp) (by simp)) hB hO
   |fn f ks=>exact hrest (hal 0 _ i rfl rfl (by simp) (by simp)) hB hO
   |into j q=>exact hrest (hal 0 _ i rfl rfl (by simp) (by simp)) hB hO
end
section
open Go
variable [Fr]
section
variable {P:Program}{T:bL}{cx:Cx}{Z:St}{J:aO}{F:List Nat}{a:Act}{w w':World}{ps:List aD}{c:Cont (kin ps)}{vs:List Value}{is:List bI}{gs:List GA}
theorem rT{l m:List Nat}:iM l m=true↔∀t∈l,t∈m:=by
 unfold iM
 rw[eX]
 simp[dh]
theorem Uy(h:Heap):∀(q:List Stp) {k:K} {cs:List Value} {wh:Option (Nat×Nat)} {c0:List Value} {w0:Option (Nat×Nat)},az q k≠[]->aW h q k cs wh=some (c0,w0)->(∀dm,aW h q k cs dm=some (c0,w0))/\∃b o,w0=some (b,o):=by
 intro q
 induction q with
 |nil=>intro k cs wh c0 w0 h1;simp[az]at h1
 |cons s q ih=>
  intro k cs wh c0 w0 h1 h2
  cases s with
  |aY n=>
   cases k with
   |st c=>
    simp only[aW]at h2 ⊢
    cases ho:bR n c with
    |none=>rw[ho]at h2;simp at h2
    |some p=>
     obtain⟨off,k'⟩:=p
     rw[ho]at h2
     simp only at h2 ⊢
     have hk:az.lu n c=some k':=by
      have:∀(n:Nat) {c:K} {off:Nat} {k':K},bR n c=some (off,k')->az.lu n c=some k':=by
       intro n
       induction n with
       |zero=>intro c off k' h;cases c<;>simp_all[bR,az.lu]
       |succ n ih=>
        intro c off k' h
        cases c with
        |pair a b=>
         simp only[bR]at h
         cases h5:bR n b with
         |none=>rw[h5]at h;simp at h
         |some q=>
          rw[h5]at h
          simp only[au,bZ]at h
          simp only[az.lu]
          exact ih (by rw[h5,<-h.2])
        |_=>simp[bR]at h
      exact this n ho
     have hpt:az (.aY n :: q) (.st c)=az q k':=by simp[az,hk]
     rw[hpt]at h1
     obtain⟨g1,g2⟩:=ih h1 h2
     exact⟨λdm=>g1 _,g2⟩
   |_=>simp[aW]at h2
  |idx i=>
   cases k with
   |sl e k=>
    simp only[aW]at h2 ⊢
    split at h2
    ·rename_i ad _ _
     refine⟨λdm=>h2,?_⟩
     have key:∀(q:List Stp) {k:K} {cs:List Value} {p:Nat×Nat} {c0:List Value} {w0:Option (Nat×Nat)},aW h q k cs (some p)=some (c0,w0)->∃b o,w0=some (b,o):=by
      intro q
      induction q with
      |nil=>intro k cs p c0 w0 h;simp only[aW,au,bZ]at h;exact⟨p.1,p.2,h.2.symm⟩
      |cons s q ih=>
       intro k cs p c0 w0 h
       cases s with
       |aY n=>
        cases k with
        |st c=>
         simp only[aW]at h
         cases ho:bR n c with
         |none=>rw[ho]at h;simp at h
         |some q2=>rw[ho]at h;exact ih h
        |_=>simp[aW]at h
       |idx i=>
        cases k with
        |sl e k=>
         simp only[aW]at h
         split at h
         ·exact ih h
         ·simp at h
        |_=>simp[aW]at h
     exact key q h2
    ·simp at h2
   |_=>simp[aW]at h2
theorem Zf(H:Rel cx Z J F a w){jT:St}{iB:aO}{Ff G:List Nat}{r j:Nat}{R Rf R':Root}{i:bI}{u:List Stp×List TypeId×List TypeId}{g:GA}{rest:List Nat}{jY:aO}{lw lh:List Nat}(hr:aX Z r R)(hi:is[j]?=some i)(hw:i.wb=some (r,u))(hlf:aX jT (aa j) Rf)
  (hg:gs[j]?=some g) (hpr:(J.fo r).Perm (g.fo++rest)) (hoth:∀(m:Nat) (gm:GA),m≠j->gs[m]?=some gm->∀b∈gm.fo,b∈F)
  (T:iO cx Z J F w (aR Z r R') jY G w' (kH r lw) (kH r lh)) (hblk:∀b∈Ow.blk jY R' r,(∃o,aS J R r=some (b,o))\/b∈iB.fo (aa j)\/b∈rest) (hG:∀b∈G,b∈Ff):AY Z J is gs jT iB Ff (aR Z r R') jY G:=by
 have hK:=H.roots r R hr
 have EU:=hK.nd
 rw[jF,u7]at EU
 have Ah:=dH.1 (hpr.nodup EU.2)
 have TA:∀{q:Nat} {Q:Root} {b:Nat},aX Z q Q->b∈Ow.blk J Q q->b∉g.fo->∀(m:Nat) (gm:GA),gs[m]?=some gm->b∉gm.fo:=by
  intro q Q b hq hb hno m gm hm vZ
  by_cases e:m=j
  ·subst e
   rw[hg]at hm
   simp only[au]at hm
   subst hm
   exact hno vZ
  ·exact H.fI q Q hq b hb (hoth m gm e hm b vZ)
 refine⟨λq Q b hq hb=>?_,hG⟩
 by_cases e:q=r
 ·subst e
  obtain⟨rfl,_⟩:=pK hq
  rcases hblk b hb with⟨o,h⟩|h|h
  ·have hbb:b∈Ow.blk J R q:=by rw[jF,nu];exact .inl ⟨o,h⟩
   exact .inr (.inl ⟨R,hr,hbb,TA hr hbb (λh'=>EU.1 b o h (hpr.mem_iff.2 (bQ _ h')))⟩)
  ·exact .inr (.inr ⟨j,i,Rf,u,hi,hw,hlf,bH _ h⟩)
  ·have hbb:b∈Ow.blk J R q:=bH _ (hpr.mem_iff.2 (bH _ h))
   exact .inr (.inl ⟨R,hr,hbb,TA hr hbb (λh'=>Ah.2.2 b h' b h rfl)⟩)
 ·have hq':=(Uh e).1 hq
  obtain⟨Q2,g1,g2⟩:=T.old q Q hq'.1
  have hS:Same Z J (aR Z r R') jY q:=by
   refine kD λhns=>?_
   rw[jR Z R' e,hq'.1]at g1
   simp only[au]at g1
   subst g1
   rcases g2 with⟨h1,_⟩|⟨_,h2⟩
   ·rw[hq'.2]at h1;simp at h1
   ·rcases h2.2.2.2.2.2.2 with h3|⟨_,_,h3⟩
    ·rw[u_ _ e,u_ _ e]at h3;simp at h3
    ·exact hns h3
  rw[hS.blk]at hb
  refine .inr (.inl ⟨Q,hq',hb,TA hq' hb (λh'=>?_)⟩)
  exact H.lN r R q Q hr hq' (Ne.symm e) b (bH _ (hpr.mem_iff.2 (bQ _ h'))) hb
theorem asP:∀(p:List Stp) {k:K} {x:El k} {t z:Dat},bX p k x->dz p k x t=some z->aB p z.1 z.2=some t/\bX p z.1 z.2/\az p z.1=az p k:=by
 intro p
 induction p with
 |nil=>
  intro k x t z _ hz
  simp only[dz,au]at hz
  subst hz
  exact⟨rfl,trivial,rfl⟩
 |cons s p ih=>
  intro k x t z hp hz
  cases s with
  |aY n=>
   cases k with
   |st c=>
    simp only[dz]at hz
    simp only[bX]at hp
    cases hg:aU n c x with
    |none=>rw[hg]at hz;simp at hz
    |some s=>
     rw[hg]at hz hp
     simp only at hz hp
     cases hs:dz p s.1 s.2 t with
     |none=>rw[hs]at hz;simp at hz
     |some u=>
      rw[hs]at hz
      simp only at hz
      cases hcp:dP n c x u with
      |none=>rw[hcp]at hz;simp at hz
      |some y=>
       rw[hcp]at hz
       simp only[au]at hz
       subst hz
       obtain⟨h1,h2,h3⟩:=ih hp hs
       have hg2:=IM n hcp
       refine⟨?_,?_,?_⟩
       ·show aB (.aY n :: p) (.st y.1) y.2=some t
        simp only[aB,hg2]
        exact h1
       ·show bX (.aY n :: p) (.st y.1) y.2
        simp only[bX,hg2]
        exact h2
       ·show az (.aY n :: p) (.st y.1)=_
        simp only[az,kL n hg2,kL n hg]
        exact h3
   |_=>exact hp.elim
  |idx i=>
   cases k with
   |sl e k=>
    simp only[dz]at hz
    obtain⟨hp0,hp1,hp2⟩:=hp
    cases hs:dz p k ((show List (El k)from x).getD i.toNat k.zero) t with
    |none=>rw[hs]at hz;simp at hz
    |some u=>
     rw[hs]at hz
     simp only at hz
     cases hc:b_ u.1 k u.2 with
     |none=>rw[hc]at hz;simp at hz
     |some y=>
      rw[hc]at hz
      simp only[au]at hz
      subst hz
      obtain⟨ek,ey⟩:=ji hc
      obtain⟨uk,ux⟩:=u
      simp only at ek
      subst ek
      simp only at ey
      subst ey
      obtain⟨h1,h2,h3⟩:=ih hp2 hs
      have hlt:i.toNat < @List.length (El uk) x:=by
       have:i<((@List.length (El uk) x:Nat):Int):=hp1
       omega
      have hgd:(show List (El uk)from(show List (El uk)from x).set i.toNat y).getD i.toNat uk.zero=y:=by
       have hl2:i.toNat<(@List.set (El uk) x i.toNat y).length:=by rw[List.length_set];exact hlt
       exact(oP hl2).trans (List.getElem_set_self hl2)
      refine⟨?_,⟨hp0,?_,?_⟩,?_⟩
      ·simp only[aB]
       rw[hgd]
       exact h1
      ·have:i<((@List.length (El uk) x:Nat):Int):=hp1
       simpa using this
      ·rw[hgd]
       exact h2
      ·rfl
   |_=>exact hp.elim
theorem akK(H:Rel cx Z J F a w)(hJ:wU cx Z J F a w ps c vs is gs)(ho:yT is=true){jT:St}{iB:aO}{Ff:List Nat}{af:Act}(Hf:Rel (kE cx Z J F w ps c is gs) jT iB Ff af w')
  {c':Cont (gI ps)} {ws:List Wr} (hB:qV Z ps is c' ws) (hO:rZ jT ps 0 c') {G:List Nat} (hG:∀b∈G,b∈Ff) (hGn:G.Nodup) :
  ∃jY,Rel cx (aL ws Z) jY G a w'/\AY Z J is gs jT iB Ff (aL ws Z) jY G/\(aL ws Z).slots=Z.slots/\(∀q,Z.roots q=none->(aL ws Z).roots q=none)/\(∀t,y8 Z t->y8 (aL ws Z) t)/\(ws=[]\/∃r R,ws=[.r r (some R)])/\
   ∀(j:Nat) (i:bI) (r:Nat) (q:List Stp) (wt ht:List TypeId),jC∉ht->is[j]?=some i->i.wb=some (r,q,wt,ht)->∃Rf R' R,jT.roots (aa j)=some Rf/\dF jT Rf/\Rf.g=0/\ws=[.r r (some R')]/\Z.roots r=some R/\bX q R'.k R'.x/\(∀t∈az q R'.k,ah t R'.own=true)/\aB q R'.k R'.x=some ⟨Rf.k,Rf.x⟩/\
    (dF (aL ws Z) R'->∃wh,aW (hp w') q R'.k (jY.hdr r) (aS jY R' r)=some (iB.hdr (aa j),wh)):=by
 obtain⟨lv,li,lg,hat⟩:=hJ.at (i0:=0)
 simp only[nR]at hat
 obtain⟨f1,f2,f3,f4,f5,f6⟩:=Hf.frame
 have hgj:∀{j:Nat} {g:GA},gs[j]?=some g->∃p cj v i,ps[j]?=some p/\vs[j]?=some v/\is[j]?=some i/\uM cx Z J F a w p cj v i g:=by
  intro j g hg
  have hj:j<ps.length:=by have:=(qB.1 hg).1;omega
  obtain⟨cj,v,i,g',e1,e2,e3,e4,_⟩:=hat j ps[j] (jl hj)
  rw[hg]at e3
  simp only[au]at e3
  subst e3
  exact⟨ps[j],cj,v,i,jl hj,e1,e2,e4⟩
 have sO:∀b,b<w.heap.size->hp w' b≠hp w b->∃(j:Nat) (g:GA),gs[j]?=some g/\b∈iT g/\(g.ow=true\/g.wb=true):=by
  intro b hb hne
  refine kD λhno=>hne (f5 b hb λj pi hj hbl=>?_)
  obtain⟨g,p,cj,v,i,e1,e2,e3,e4,e5,rfl⟩:=Er H hJ hj
  exact hno ⟨j,g,e1,hbl,e5⟩
 have jQ:∀b∈Ff,b<w'.heap.size/\(w.heap.size<=b\/∃(j:Nat) (g:GA),gs[j]?=some g/\b∈iT g/\(g.ow=true\/g.wb=true)):=by
  intro b hb
  obtain⟨h1,h2⟩:=Hf.fl b hb
  refine⟨h1,h2.imp id ?_⟩
  rintro⟨j,pi,h3,h4⟩
  obtain⟨g,p,cj,v,i,e1,e2,e3,e4,e5,rfl⟩:=Er H hJ h3
  exact⟨j,g,e1,h4,e5⟩
 have hal:∀(m:Nat) (p:aD) (i:bI),ps[m]?=some p->is[m]?=some i->(∀k ow wt ht,p≠.rw k ow wt ht)->(∀k ow wt,p≠.bO k ow wt)->i.wb=none:=by
  intro m p i hp hi h1 h2
  obtain⟨cj,v,i',g,e1,e2,e3,e4,_⟩:=hat m p hp
  rw[hi]at e2
  simp only[au]at e2
  subst e2
  obtain⟨_,e4⟩:=e4
  cases p with
  |val k bJ=>exact e4.2.2.1
  |ro k=>exact e4.2.2.1
  |own k ow=>exact e4.2.2.1
  |fn f ks=>exact e4.2.2.1
  |rw k ow wt ht=>exact absurd rfl (h1 k ow wt ht)
  |bO k ow wt=>exact absurd rfl (h2 k ow wt)
  |into j q=>exact e4.2.2.1
 have Fa:∀{m:Nat} {g:GA} {i:bI},gs[m]?=some g->is[m]?=some i->i.wb=none->g.wb=false:=by
  intro m g i hg hi hn
  obtain⟨p,cj,v,i',e1,e2,e3,e4⟩:=hgj hg
  rw[hi]at e3
  simp only[au]at e3
  subst e3
  cases hw:g.wb with
  |false=>rfl
  |true=>exact absurd hn ((sM H e4).2.2.2.1 hw)
 have Cz:∀{m:Nat} {g:GA} {b:Nat},gs[m]?=some g->g.wb=false->b∈iT g->b∈F:=by
  intro m g b hg hw hb
  obtain⟨p,cj,v,i,e1,e2,e3,e4⟩:=hgj hg
  rcases(sM H e4).1 b hb with⟨_,h⟩|⟨h,_⟩
  ·exact h
  ·rw[hw]at h;simp at h
 rcases akJ (j0:=0) ho hal hB hO with⟨rfl,hnone⟩|⟨j,i,k,x,ow,wt,ht,r,p,R,z,eG,ht',e1,e2,e3,e4,e5,e6,e7⟩
 ·
  have hnw:∀{m:Nat} {g:GA},gs[m]?=some g->g.wb=false:=by
   intro m g hg
   obtain⟨p,cj,v,i,g1,g2,g3,g4⟩:=hgj hg
   exact Fa hg g3 (hnone i (rq g3))
  have T:=FE (w':=w') (F':=G) H ⟨f1,f2,f3⟩ f4 (λb hb hne=>by obtain⟨j,g,h1,h2,_⟩:=sO b hb hne;exact Cz h1 (hnw h1) h2)
   (λb hb=>by
    obtain⟨h1,h2⟩:=jQ b (hG b hb)
    rcases h2 with h2|⟨j,g,h3,h4,_⟩
    ·exact .inr ⟨h2,h1⟩
    ·exact .inl (Cz h3 (hnw h3) h4)) hGn
  refine⟨J,H.mem T,⟨λq Q b hq hb=>.inr (.inl ⟨Q,hq,hb,λm g hg hbg=>?_⟩),hG⟩,rfl,λq h=>h,λt h=>h,.inl rfl,λj i r q wt ht _ hi hw=>by rw[hnone i (rq hi)]at hw;simp at hw⟩
  exact H.fI q Q hq b hb (Cz hg (hnw hg) (bH _ hbg))
 ·
  have hj:j<ps.length:=by rcases e7 with⟨h,_⟩|⟨h,_⟩<;>exact(qB.1 h).1
  obtain⟨g,hg⟩:∃g,gs[j]?=some g:=⟨gs[j]'(by omega),jl _⟩
  obtain⟨p0,cj,v,i',g1,g2,g3,g4⟩:=hgj hg
  rw[e1]at g3
  simp only[au]at g3
  subst g3
  obtain⟨cj2,v2,i2,gg2,a1,a2,a3,a4,a5,a6⟩:=hat j p0 g1
  obtain⟨x0,wh,rest,hP,og,hOw,hfo,hgn,hpr,iH,hwf,hgo,hbase,hps,hwt,hht,hR0⟩:∃(x0:El k) (wh:Option (Nat×Nat)) (rest:List Nat),zG cx Z J w k x0 ow i eG ht' r R p/\aW (hp w) p R.k (J.hdr r) (aS J R r)=some (g.cs,wh)/\Ow (hp w) R.own (bK cx Z J F w R.tags) k x0 g.cs g.fo/\(∀b∈g.fo,b∈J.fo r)/\g.fo.Nodup/\
    (J.fo r).Perm (g.fo++rest)/\(∀b o,wh=some (b,o)->b∈rest\/∃o0,aS J R r=some (b,o0)/\o0<=o/\o+k.size<=o0+R.k.size)/\(∀b o,wh=some (b,o)->b∉g.fo)/\
    (∀{t z:Dat} {tags':List Tag} {lw lh:List TypeId} {kp:Bool} {ft F':List Nat} {cs':List Value} {w':World},BJ cx Z J F w r R p ⟨k,x0⟩ R.own g.cs wh g.fo rest t z tags' lw lh kp ft F' cs' w'->
     ∃J',Rel cx (aR Z r (je R z R.own tags' lw lh kp)) J' F' a w'/\iO cx Z J F w (aR Z r (je R z R.own tags' lw lh kp)) J' F' w' (kH r lw) (kH r lh)/\(∀b∈Ow.blk J' (je R z R.own tags' lw lh kp) r,(∃o,aS J R r=some (b,o))\/b∈ft\/b∈rest)/\
      (jC∉lh->dF (aR Z r (je R z R.own tags' lw lh kp)) (je R z R.own tags' lw lh kp)->aW (hp w') p z.1 (J'.hdr r) (aS J' (je R z R.own tags' lw lh kp) r)=some (cs',wh))/\∀b∈ft,b∈J'.fo r)/\
    ((∃b o,wh=some (b,o)/\g.base=some (b,o))\/(g.base=none/\VC k g.v g.cs))/\(rR p0=k.size\/g.base=none)/\(eG=wt)/\(ht'=ht)/\
    (∃R0,iJ (iI ps 0 c) (aa j)=some R0/\R0.k=k/\HEq R0.x x0/\R0.own=ow):=by
   have h4:uM cx Z J F a w p0 cj2 v2 i2 gg2:=a4
   rw[hg]at a3
   simp only[au]at a3
   subst a3
   rw[e1]at a2
   simp only[au]at a2
   subst a2
   rcases e7 with⟨h,_⟩|⟨h,aop,_⟩
   ·rw[g1]at h
    simp only[au]at h
    subst h
    obtain⟨hv0,h1,h2,r1,R1,q1,b,o,h3,h4',h5,h6,h7,h8,h9,h10,h11,rest,h12,Sr,Su,Sv⟩:=h4
    have hwb:=h3.wb
    rw[e2]at hwb
    simp only[au,bZ]at hwb
    obtain⟨rfl,rfl,rfl,rfl⟩:=hwb
    have hRR:R1=R:=by have:=h3.lv.1;rw[e3]at this;simpa using this.symm
    subst hRR
    refine⟨cj2.1,some (b,o),rest,h3,h5,h8,h9,h10,h12,Sr,Su,Sv,.inl ⟨b,o,rfl,h7⟩,.inl rfl,rfl,rfl,?_⟩
    rw[a6]
    exact⟨_,rfl,rfl,HEq.rfl,rfl⟩
   ·rw[g1]at h
    simp only[au]at h
    subst h
    obtain⟨hv0,h1,h2,r1,R1,q1,wh,h3,h4',h5,h6,h7,h8,h9,h10,rest,h12,Sr,Su,Sv⟩:=h4
    have hwb:=h3.wb
    rw[e2]at hwb
    simp only[au,bZ]at hwb
    obtain⟨rfl,rfl,rfl,rfl⟩:=hwb
    have hRR:R1=R:=by have:=h3.lv.1;rw[e3]at this;simpa using this.symm
    subst hRR
    refine⟨cj2.1,wh,rest,h3,h5,h8,h9,h10,h12,Sr,Su,Sv,.inr ⟨h7,hv0▸h6⟩,.inr h7,rfl,aop.symm,?_⟩
    rw[a6]
    exact⟨_,rfl,rfl,HEq.rfl,rfl⟩
  subst hwt
  subst hht
  rw[nR]at e5
  obtain⟨lw,aoD,aoE,aoF,hws⟩:∃lw:List TypeId,(∀e∈eG,e∈lw)/\lw≠[]/\(g.base≠none->iV R p∈lw)/\ws=[.r r (some (je R z R.own R.tags lw ht' R.keep))]:=by
   rcases e7 with⟨h,hw⟩|⟨h,hh,hw⟩
   ·exact⟨iV R p :: eG,λe he=>by simp[he],by simp,λ_=>by simp,hw⟩
   ·refine⟨SENT :: (k.tys++eG),λe he=>by simp[he],by simp,λhb=>?_,by rw[hw,hh];rfl⟩
    rw[g1]at h
    simp only[au]at h
    subst h
    exact absurd (g4.2.2.2 |> λ⟨_,_,_,_,_,_,_,_,hb,_⟩=>hb) hb
  subst hws
  obtain⟨Rf,EL,Jy,⟨ek,ex⟩,Tu,nM,oV⟩:=e5
  have hlf:aX jT (aa j) Rf:=⟨EL,Jy.1⟩
  subst ek
  simp only at ex
  subst ex
  have Kf:=Hf.roots (aa j) Rf hlf
  have hgw:g.wb=true:=(sM H g4).2.2.2.2 (by rw[e2];simp)
  have NW:(kE cx Z J F w ps c is gs).par j=some ⟨g.base.map λq=>(q.1,q.2,rR p0),iT g,g.wb⟩:=by
   simp only[kE]
   rw[hg,g1]
   simp[hgw]
  unfold xE at nM
  simp only[bB,rT]at nM
  obtain⟨⟨⟨⟨l1,l2⟩,l3⟩,l4⟩,l5⟩:=nM
  have hg0:Rf.g=0:=bD l5
  have hkind:aS iB Rf (aa j)=g.base/\(g.base=none->iB.hdr (aa j)=g.cs):=by
   rcases hbase with⟨b,o,_,hb⟩|⟨hb,hV⟩
   ·obtain⟨Q,hQ,hk,hl,_⟩:=Hf.kI j _ b o (rR p0) NW (by simp[hb])
    have hQR:Q=Rf:=by have:=hQ.1;rw[EL]at this;simpa using this.symm
    subst hQR
    refine⟨?_,λh=>by rw[hb]at h;simp at h⟩
    unfold aS
    rw[hk,hl,hb]
   ·have hrf:=(Hf.rM j g.v ⟨g,hg,rfl,hb,hgw⟩).2 Rf hlf hg0
    refine⟨by unfold aS;rw[hrf.1,hb],λ_=>?_⟩
    have h1:=hrf.2.cells
    have h2:=hV.cells
    rw[<-h1,h2]
  obtain⟨abv,aaK⟩:=hkind
  have aaH:Ow.blk iB Rf (aa j)=(match g.base with|some q=>[q.1] | none=>[])++iB.fo (aa j):=by
   unfold Ow.blk
   rw[abv]
   cases g.base<;>rfl
  have Jt:(iB.fo (aa j)).Nodup:=(dH.1 (aaH▸Kf.nd)).2.1
  have aoA:(iB.hdr (aa j)).length=Rf.k.size:=Kf.len
  have hK:=H.roots r R hP.lv
  have EU:=hK.nd
  rw[jF,u7]at EU
  have aaU:∀b,b∈J.fo r↔b∈g.fo\/b∈rest:=λb=>by rw[hpr.mem_iff,dD]
  have Ah:=dH.1 (hpr.nodup EU.2)
  have hcells:∀b o,wh=some (b,o)->Cells (hp w') b o (iB.hdr (aa j))/\mU (hp w) (hp w') b o Rf.k.size:=by
   intro b o hw
   obtain⟨m1,_,m2,⟨arr,e,lo,hi,m3,m4,m5,m6⟩,_⟩:=xG H hP.lv hP.vl hP.get hP.pin hP.own (by rw[og,hw])
   rcases hbase with⟨b',o',hw',hb⟩|⟨hb,_⟩
   ·rw[hw]at hw'
    simp only[au,bZ]at hw'
    obtain⟨rfl,rfl⟩:=hw'
    have hm:=Kf.mem b o (by rw[abv,hb])
    have hsz:rR p0=Rf.k.size:=by
     rcases hps with h|h
     ·exact h
     ·rw[hb]at h;simp at h
    have:=f6 j _ b o (rR p0) NW (by simp[hb])
    rw[hsz]at this
    exact⟨hm.1,this⟩
   ·have hlt:=(hK.mine b m2).1
    have hsame:hp w' b=hp w b:=by
     refine kD λhne=>?_
     obtain⟨m,gm,h1,h2,h3⟩:=sO b hlt hne
     by_cases e:m=j
     ·subst e
      rw[hg]at h1
      simp only[au]at h1
      subst h1
      unfold iT at h2
      rw[hb]at h2
      exact hwf b o hw (by simpa using h2)
     ·have hgm:gm.wb=false:=by
       obtain⟨pm,cm,vm,im,k1,k2,k3,k4⟩:=hgj h1
       exact Fa h1 k3 (e6 m im e k3)
      exact H.fI r R hP.lv b m2 (Cz h1 hgm h2)
    rw[aaK hb]
    exact⟨m1.congr hsame,mU.of_same _ _ m3 hsame⟩
  have hwho:∀b,(w.heap.size<=b\/∃(j:Nat) (g:GA),gs[j]?=some g/\b∈iT g/\(g.ow=true\/g.wb=true))->(∀o,g.base≠some (b,o))->b<w'.heap.size->b∈g.fo\/b∈F\/(w.heap.size<=b/\b<w'.heap.size):=by
   intro b hb hnb hlt
   rcases hb with hb|⟨m,gm,h1,h2,h3⟩
   ·exact .inr (.inr ⟨hb,hlt⟩)
   ·by_cases e:m=j
    ·subst e
     rw[hg]at h1
     simp only[au]at h1
     subst h1
     unfold iT at h2
     cases hbb:g.base with
     |none=>rw[hbb]at h2;exact .inl (by simpa using h2)
     |some q=>
      rw[hbb]at h2
      simp only[kY,ru,bW]at h2
      rcases h2 with h2|h2
      ·exact absurd (by rw[hbb,h2]) (hnb q.2)
      ·exact .inl h2
    ·have hgm:gm.wb=false:=by
      obtain⟨pm,cm,vm,im,k1,k2,k3,k4⟩:=hgj h1
      exact Fa h1 k3 (e6 m im e k3)
     exact .inr (.inl (Cz h1 hgm h2))
  have Ct:∀b∈g.fo,b∈iT g:=λb hb=>bH _ hb
  have aoG:∀b∈g.fo,¬oh (kE cx Z J F w ps c is gs) b:=by
   rintro b hb ⟨m,pi,o,n,h1,h2⟩
   obtain⟨gm,pm,cm,vm,im,k1,k2,k3,k4,k5,rfl⟩:=Er H hJ h1
   simp only at h2
   cases vZ:gm.base with
   |none=>rw[vZ]at h2;simp at h2
   |some q=>
    rw[vZ]at h2
    simp only[o_,au,bZ]at h2
    have aaW:gm.wb=true:=by
     obtain⟨_,_,_,_,_,_,_,hw,_⟩:=(sM H k4).2.1 q.1 q.2 (by rw[vZ])
     exact(sM H k4).2.2.2.2 (by rw[hw];simp)
    by_cases e:m=j
    ·subst e
     rw[hg]at k1
     simp only[au]at k1
     subst k1
     rcases hbase with⟨b',o',hw',hb'⟩|⟨hb',_⟩
     ·rw[vZ]at hb'
      simp only[au]at hb'
      subst hb'
      exact hwf b' o' hw' (by have:=h2.1;simp only at this;rw[this];exact hb)
     ·rw[vZ]at hb';simp at hb'
    ·have:=Fa k1 k3 (e6 m im e k3)
     rw[this]at aaW
     simp at aaW
  have hkb:∀b∈g.fo,(∃e∈lw,jM (hp w) b=some e)\/(hp w' b=hp w b/\b∉Ff/\∀q Q,aX jT q Q->b∈Ow.blk iB Q q->q=aa j):=by
   intro b hb
   obtain⟨R2,h1,h2⟩:=Hf.qj j _ NW (by simp[hgw])
   rw[EL]at h1
   simp only[au]at h1
   subst h1
   rcases h2 Jy.1 b (Ct b hb) (aoG b hb)with⟨e,h3,h4⟩|h
   ·refine .inl ⟨e,aoD e ?_,h3⟩
    rcases h4 with h4|h4
    ·exact l1 e h4
    ·exact l2 e h4
   ·exact .inr h
  have anN:∀b∈iB.fo (aa j),∀o,g.base≠some (b,o):=by
   intro b hb o hbb
   have:=aaH▸Kf.nd
   rw[hbb]at this
   simp only[kY,ru]at this
   exact(jg.1 this).1 hb
  have ank:∀b∈Ff,∀o,g.base≠some (b,o):=λb hb o hbb=>Bh Hf hb ⟨j,_,o,rR p0,NW,by simp[hbb]⟩
  have hoth:∀(m:Nat) (gm:GA),m≠j->gs[m]?=some gm->∀b∈gm.fo,b∈F:=by
   intro m gm e hm b hb
   obtain⟨pm,cm,vm,im,k1,k2,k3,k4⟩:=hgj hm
   exact Cz hm (Fa hm k3 (e6 m im e k3)) (bH _ hb)
  have hPT:BJ cx Z J F w r R p ⟨Rf.k,x0⟩ R.own g.cs wh g.fo rest ⟨Rf.k,Rf.x⟩ z R.tags lw ht' R.keep (iB.fo (aa j)) G (iB.hdr (aa j)) w':=by
   refine⟨e4,rfl,λ_ h=>h,⟨f1,f2,f3⟩,f4,?_,hcells,?_,aoA,.inl aoE,⟨λ_ h=>h,(H.gz r R e3).1,(H.gz r R e3).2.2⟩,?_,Jt,?_,hGn,?_,.inl rfl,.inl rfl,?_,?_⟩
   ·intro b hb hne
    obtain⟨m,gm,h1,h2,h3⟩:=sO b hb hne
    by_cases e:m=j
    ·subst e
     rw[hg]at h1
     simp only[au]at h1
     subst h1
     unfold iT at h2
     rcases dD.1 h2 with h2|h2
     ·cases hbb:g.base with
      |none=>rw[hbb]at h2;simp at h2
      |some q=>
       rw[hbb]at h2
       simp only[iD]at h2
       rcases hbase with⟨b',o',hw',hb'⟩|⟨hb',_⟩
       ·rw[hbb]at hb'
        simp only[au]at hb'
        subst hb'
        simp only at h2
        exact .inr (.inr ⟨o',by rw[h2];exact hw',aoF (by rw[hbb];simp)⟩)
       ·rw[hbb]at hb';simp at hb'
     ·rcases hkb b h2 with h|h
      ·exact .inr (.inl ⟨h2,h⟩)
      ·exact absurd h.1 hne
    ·have hgm:gm.wb=false:=by
      obtain⟨pm,cm,vm,im,k1,k2,k3,k4⟩:=hgj h1
      exact Fa h1 k3 (e6 m im e k3)
     exact .inl (Cz h1 hgm h2)
   ·intro hw
    rcases hbase with⟨b',o',hw',_⟩|⟨hb',_⟩
    ·rw[hw]at hw';simp at hw'
    ·exact aaK hb'
   ·intro b hb
    have hbl:b∈Ow.blk iB Rf (aa j):=bH _ hb
    obtain⟨m1,m2⟩:=Kf.mine b hbl
    refine hwho b (m2.imp id ?_) (anN b hb) m1
    rintro⟨m,pi,h3,h4⟩
    obtain⟨gm,pm,cm,vm,im,k1,k2,k3,k4,k5,rfl⟩:=Er H hJ h3
    exact⟨m,gm,k1,h4,k5⟩
   ·intro b hb
    obtain⟨m1,m2⟩:=jQ b (hG b hb)
    rcases hwho b m2 (ank b (hG b hb)) m1 with h|h|h
    ·rcases hkb b h with h'|h'
     ·exact .inr (.inr ⟨h,h'⟩)
     ·exact absurd (hG b hb) h'.2.1
    ·exact .inl h
    ·exact .inr (.inl h)
   ·intro b hb hbG
    exact Hf.fI (aa j) Rf hlf b (bH _ hb) (hG b hbG)
   ·intro Jn q c0 w0 dn uB hnq _
    by_cases hpt:az q Rf.k=[]
    ·exact Ov (own:=R.own) q dn (λt ht=>by rw[hpt]at ht;simp at ht) hnq
    ·obtain⟨hany,b,o,hw0⟩:=Uy _ q hpt hnq
     subst hw0
     have hq:q≠[]:=λe=>hpt (by rw[e];simp[az])
     have aoQ:iL q Rf.k=jC :: az q Rf.k:=by
      cases q with
      |nil=>exact absurd rfl hq
      |cons s q=>rfl
     have hto:∀t∈az q Rf.k,ah t ow=true:=λt ht=>by
      have h1:=eX.1 hP.just t (CV q t ht)
      have h2:=(uB t ht).1
      have h1':ah t R.own=ah t ow:=by simpa using h1
      rw[<-h1',h2]
     obtain⟨R0,r1,r2,r3,r4⟩:=hR0
     have qL:(kE cx Z J F w ps c is gs).ptrs j q (iL q Rf.k) (.pointer (some ⟨b,o,none⟩)):=by
      refine⟨g,R0,c0,b,o,hg,hgw,r1,by rw[r2],λt ht=>by rw[r4];exact hto t (r2▸ht),?_,?_,rfl⟩
      ·obtain⟨R0k,R0x,_,_,_,_,_,_,_,_,_,_⟩:=R0
       simp only at r2 r3
       subst r2
       rw[eq_of_heq r3]
       exact dn
      ·rw[r2];exact hany _
     obtain⟨_,R2,h1,h2⟩:=Hf.rJ j q _ _ qL
     rw[EL]at h1
     simp only[au]at h1
     subst h1
     have hno:∀t∈ht',t∉iL q Rf.k:=by
      intro t ht hm
      rw[aoQ]at hm
      rcases bW.1 hm with h|h
      ·exact Jn (h▸ht)
      ·exact(uB t h).2 ht
     obtain⟨q1,cs,b',o',q2,q3⟩:=(h2 (λt ht hm=>hno t (l4 t hm) ht)).2 Rf EL Jy (by
       unfold clean
       rw[eX]
       intro t ht
       have:t∈Rf.h:=MU ht
       simp only[lI,gJ]
       exact hno t (l3 t this))
      (λt ht=>by
       have h1:=eX.1 Tu t (CV q t ht)
       have h1':ah t Rf.own=ah t ow:=by simpa using h1
       rw[h1']
       exact hto t ht)
      (by rw[EJ q (y:=x0)];exact YM q dn)
     simp only[Value.pointer.injEq,au,qU,fM]at q3
     obtain⟨rfl,rfl⟩:=q3
     exact⟨q1,cs,(Uy _ q hpt q2).1 _⟩
   ·intro J' Tn hblk _
    have hOf:=Kf.ow Jy
    have hsame:∀t∈Rf.k.tys,ah t R.own=ah t Rf.own:=λt ht=>by
     have h1:=eX.1 hP.just t ht
     have h2:=eX.1 Tu t ht
     have h1':ah t R.own=ah t ow:=by simpa using h1
     have h2':ah t Rf.own=ah t ow:=by simpa using h2
     rw[h1',h2']
    refine vM hsame ?_
    rcases oV with hall|oV
    ·refine jU (kU (λt ht=>?_)) hOf
     have h2:=eX.1 Tu t ht
     have h2':ah t Rf.own=ah t ow:=by simpa using h2
     rw[h2']
     exact pM hall t ht
    ·refine eO (λ_ _=>rfl) (λb hb=>?_) (λ_ _=>rfl) hOf
     refine Oy H hJ Hf (Zf H hP.lv e1 e2 hlf hg hpr hoth Tn hblk hG) (λj' n hn i' hi' t ht=>?_) (λm n hn=>?_) hb
     ·have h1:=eX.1 oV _ hn
      simp only[uY,gP]at h1
      have h2:jy j' / 4=j':=by unfold jy;omega
      rw[h2,dh,iD]at h1
      subst h1
      rw[e1]at hi'
      simp only[au]at hi'
      subst hi'
      rw[hP.ids]at ht
      exact⟨t.2,ht⟩
     ·have h1:=eX.1 oV _ hn
      have h2:Nat.beq (aa m%4) 0=true:=by unfold aa;simp
      simp only[Ao,jV,h2,gP]at h1
      simp[ah]at h1
  obtain⟨jY,hR2,SN,hb2,TB,_⟩:=hgo hPT
  refine⟨jY,hR2,Zf H hP.lv e1 e2 hlf hg hpr hoth SN hb2 hG,rfl,λq hq=>?_,λt ht=>SN.tag ht,.inr ⟨_,_,rfl⟩,λj' i' r' q' xN ht0 aoo hi' hw'=>?_⟩
  rotate_left
  ·have ej:j'=j:=by
    refine kD λhne=>?_
    rw[e6 j' i' hne hi']at hw'
    simp at hw'
   subst ej
   rw[e1]at hi'
   simp only[au]at hi'
   subst hi'
   rw[e2]at hw'
   simp only[au,bZ]at hw'
   obtain⟨rfl,rfl,rfl,rfl⟩:=hw'
   obtain⟨s1,s2,s3⟩:=asP p hP.pin e4
   exact⟨Rf,_,R,EL,Jy,hg0,rfl,e3,s2,λt ht=>hP.own t (by rw[<-s3];exact ht),s1,λhv'=>⟨wh,TB aoo hv'⟩⟩
  have hne:q≠r:=λe=>by rw[e,e3]at hq;simp at hq
  show(aR Z r _).roots q=none
  rw[jR Z _ hne]
  exact hq
end
end
section
open Go
variable [Fr]
def zA(Z:St)(ws:List Wr)(l:List Nat)(tags:List Tag):Prop:=
 (∀r∈l,∃n,(r,n)∈tags)/\∀t∈tags,gZ t.1=true\/(∃R,ws.find? (λw=>w.loc.beq (.r t.1))=some (.r t.1 (some R))/\t.2=dR R.w)\/(∃R,Z.roots t.1=some R/\t.2=dR R.w)
theorem ap7{w:Wr}{r:Nat}(h:w.loc.beq (.r r)=true):∃o,w=.r r o:=by
 cases w with
 |s n a=>simp[Wr.loc,Loc.beq]at h
 |r n o=>
  simp only[Wr.loc,Loc.beq]at h
  exact⟨o,by rw[bD h]⟩
theorem UB{A:Type}{z:A}{Z:St}{ws:List Wr}:∀{l:List Nat} {k:List Tag->Prog A},(Ay ws l k).ends Z z->∃tags,zA Z ws l tags/\(k tags).ends Z z:=by
 intro l
 induction l with
 |nil=>intro k h;exact⟨[],⟨by simp,by simp⟩,h⟩
 |cons r l ih=>
  intro k h
  unfold Ay at h
  have hadd:∀{n:Nat} {tags:List Tag},zA Z ws l tags->(gZ r=true\/(∃R,ws.find? (λw=>w.loc.beq (.r r))=some (.r r (some R))/\n=dR R.w)\/(∃R,Z.roots r=some R/\n=dR R.w))->zA Z ws (r :: l) ((r,n) :: tags):=by
   intro n tags h1 h2
   refine⟨λq hq=>?_,λt ht=>?_⟩
   ·rcases bW.1 hq with h|h
    ·subst h;exact⟨n,by simp⟩
    ·obtain⟨m,hm⟩:=h1.1 q h;exact⟨m,by simp[hm]⟩
   ·rcases bW.1 ht with h|h
    ·subst h;exact h2
    ·exact h1.2 t h
  cases he:gZ r with
  |true=>
   rw[he]at h
   obtain⟨tags,g1,g2⟩:=ih h
   exact⟨_,hadd g1 (.inl he),g2⟩
  |false=>
   rw[he]at h
   simp only[jV]at h
   split at h
   ·rename_i q R hf
    have hq:q=r:=by
     have:=List.find?_some hf
     obtain⟨o,ho⟩:=ap7 this
     simp only[Wr.r.injEq]at ho
     exact ho.1
    subst hq
    obtain⟨tags,g1,g2⟩:=ih h
    exact⟨_,hadd g1 (.inr (.inl ⟨R,hf,rfl⟩)),g2⟩
   ·exact h.elim
   ·simp only[Prog.ends]at h
    cases hr:Z.roots r with
    |none=>rw[hr]at h;exact h.elim
    |some R=>
     rw[hr]at h
     obtain⟨tags,g1,g2⟩:=ih h
     exact⟨_,hadd g1 (.inr (.inr ⟨R,hr,rfl⟩)),g2⟩
def Iy(Z:St)(d:Nat)(is:List bI)(ws:List Wr):(rs:List bN)->Nat->Cont (eU rs)->List AV->List Wr->Prop
 | [],_,_,as,ws'=>as=[]/\ws'=[]
 |.val k exts bJ :: rs,c,x,as,ws'=>∃tags as',zA Z ws (bif k.flat then []else xq (yK is exts bJ)) tags/\as=.val k x.1 tags :: as'/\Iy Z d is ws rs (c+1) x.2 as' ws'
 |.own k ow exts bJ :: rs,c,x,as,ws'=>∃tags as' Da,zA Z ws (bif k.tys.all (λt=>ah t ow)then []else xq (yK is exts bJ)) tags/\Z.roots (aN d c)=none/\as=.ref (aN d c) 0 :: as'/\ws'=.r (aN d c) (some (bP k x.1 ow tags .anon)) :: Da/\Iy Z d is ws rs (c+1) x.2 as' Da
 |.ptr t k ow exts :: rs,c,x,as,ws'=>∃tags as' Da,zA Z ws (bif k.tys.all (λt=>ah t ow)then []else xq (yK is exts [])) tags/\Z.roots (aN d c)=none/\as=.ptr (aN d c) [] 0 :: as'/\ws'=.r (aN d c) (some (bP k x.1 ow tags (.var t))) :: Da/\Iy Z d is ws rs (c+1) x.2 as' Da
 |.into j p :: rs,c,x,as,ws'=>c=0/\rs=[]/\ws'=[]/\∃i r q wt ht R,is[j]?=some i/\i.wb=some (r,q,wt,ht)/\jC∉ht/\ws.find? (λw=>w.loc.beq (.r r))=some (.r r (some R))/\((p=[]/\as=[.nN r q (dR R.w+dR R.h) (show Int from x.1).toNat])\/(p≠[]/\(((show Int from x.1)<0/\as=[.jA])\/(¬(show Int from x.1)<0/\as=[.ptr r (q++sZ p (show Int from x.1)) (dR R.h)]))))
theorem arj{A:Type}{z:A}{Z:St}{d:Nat}{is:List bI}{ws:List Wr}:∀{rs:List bN} {c:Nat} {x:Cont (eU rs)} {k:List AV->List Wr->Prog A},(oq d is ws rs c x k).ends Z z->∃as ws',Iy Z d is ws rs c x as ws'/\(k as ws').ends Z z:=by
 intro rs
 induction rs with
 |nil=>intro c x k h;exact⟨[],[],⟨rfl,rfl⟩,h⟩
 |cons p rs ih=>
  intro c x k h
  cases p with
  |val kk exts bJ=>
   simp only[oq]at h
   obtain⟨tags,h1,h⟩:=UB h
   obtain⟨as,ws',h2,h⟩:=ih h
   exact⟨_,ws',⟨tags,as,h1,rfl,h2⟩,h⟩
  |own kk ow exts bJ=>
   simp only[oq]at h
   obtain⟨tags,h1,h⟩:=UB h
   obtain⟨hn,h⟩:=qd h
   obtain⟨as,ws',h2,h⟩:=ih h
   exact⟨_,_,⟨tags,as,ws',h1,hn,rfl,rfl,h2⟩,h⟩
  |ptr t kk ow exts=>
   simp only[oq]at h
   obtain⟨tags,h1,h⟩:=UB h
   obtain⟨hn,h⟩:=qd h
   obtain⟨as,ws',h2,h⟩:=ih h
   exact⟨_,_,⟨tags,as,ws',h1,hn,rfl,rfl,h2⟩,h⟩
  |into j q=>
   simp only[oq]at h
   rcases bF h with⟨hc,h⟩|⟨_,h⟩
   ·simp only[bB,List.isEmpty_iff]at hc
    split at h
    ·rename_i i hi
     split at h
     ·rename_i r q' wt ht hw
      split at h
      ·rename_i r' R hf
       rcases bF h with⟨_,h⟩|⟨fq,h⟩
       ·exact h.elim
       have hb:=List.find?_some hf
       simp only[Wr.loc,Loc.beq]at hb
       have hb:=bD hb
       subst hb
       cases q with
       |nil=>exact⟨_,_,⟨bD hc.1,hc.2,rfl,i,r',q',wt,ht,R,hi,hw,gJ.1 fq,hf,.inl ⟨rfl,rfl⟩⟩,h⟩
       |cons t q=>
        rcases h with⟨hb2,h⟩|⟨hb2,h⟩
        ·exact⟨_,_,⟨bD hc.1,hc.2,rfl,i,r',q',wt,ht,R,hi,hw,gJ.1 fq,hf,.inr ⟨by simp,.inl ⟨of_decide_eq_true hb2,rfl⟩⟩⟩,h⟩
        ·exact⟨_,_,⟨bD hc.1,hc.2,rfl,i,r',q',wt,ht,R,hi,hw,gJ.1 fq,hf,.inr ⟨by simp,.inr ⟨of_decide_eq_false hb2,rfl⟩⟩⟩,h⟩
      ·exact h.elim
     ·exact h.elim
    ·exact h.elim
   ·exact h.elim
theorem Ut{n:Nat}{l:List Nat}:n∈l->n∈xq l:=by
 induction l with
 |nil=>simp
 |cons m l ih=>
  intro h
  unfold xq
  cases hm:ah m l with
  |true=>
   simp only[gP]
   rcases bW.1 h with h|h
   ·subst h;exact ih (dh.1 hm)
   ·exact ih h
  |false=>
   simp only[jV]
   rcases bW.1 h with h|h
   ·subst h;simp
   ·simp[ih h]
section
variable {P:Program}{T:bL}{cx:Cx}{Z:St}{J:aO}{F:List Nat}{a:Act}{w w':World}{ps:List aD}{c:Cont (kin ps)}{vs:List Value}{is:List bI}{gs:List GA}
theorem Vm{exts bJ:List Nat}{Tg U:List Tag}{l:List Nat}(ht:rU exts bJ Tg=true)(hU:∀r∈l,∃n,(r,n)∈U)(hl:∀r∈yK is exts bJ,r∈l) :
  (∀j n,(jy j,n)∈Tg->∀i,is[j]?=some i->∀t∈i.ids,∃n',(t.1,n')∈U)/\(∀m n,(aa m,n)∈Tg->∀i q,is[m]?=some i->i.wb=some q->∃n',(q.1,n')∈U):=by
 refine⟨λj n hn i hi t ht'=>?_,λm n hn i q hi hq=>?_⟩
 ·have h1:=eX.1 ht _ hn
  simp only[uY,gP]at h1
  have h2:jy j / 4=j:=by unfold jy;omega
  rw[h2,dh]at h1
  refine hU _ (hl _ ?_)
  unfold yK
  refine bQ _ (jZ.2 ⟨j,h1,?_⟩)
  rw[hi]
  exact fP.2 ⟨t,ht',rfl⟩
 ·have h1:=eX.1 ht _ hn
  have h2:Nat.beq (aa m%4) 0=true:=by unfold aa;simp
  simp only[Ao,jV,h2,gP]at h1
  rw[acG,dh]at h1
  refine hU _ (hl _ ?_)
  unfold yK
  refine bH _ (jZ.2 ⟨m,h1,?_⟩)
  simp[hi,hq]
theorem abV{d c c':Nat}(h:aN d c=aN d c'):c=c':=by unfold aN at h;omega
theorem akr(H:Rel cx Z J F a w)(hJ:wU cx Z J F a w ps c vs is gs){jT:St}{iB:aO}{Ff:List Nat}{af:Act}(Hf:Rel (kE cx Z J F w ps c is gs) jT iB Ff af w'){Gh:St}{d:Nat}{ws:List Wr} :
  ∀{rs:List bN} {ci:Nat} {x:Cont (eU rs)} {as:List AV} {ws':List Wr} {us:List Value} {ay:List (List Nat)} {Z':St} {J':aO},Rel cx Z' J' ay.flatten a w'->AY Z J is gs jT iB Ff Z' J' ay.flatten->
   uQ (kE cx Z J F w ps c is gs) jT iB Ff w' rs x us ay->Iy Gh d is ws rs ci x as ws'->(∀l tags,zA Gh ws l tags->gB Z' tags)->(∀cj,ci<=cj->Gh.roots (aN d cj)=none->Z'.roots (aN d cj)=none)->(∀b∈ay.flatten,b∈Ff)->
   (ci=0->∀(j:Nat) (i:bI) (r:Nat) (q:List Stp) (wt ht:List TypeId) (R:Root) (b:Option Addr) (n cp m:Nat),is[j]?=some i->i.wb=some (r,q,wt,ht)->jC∉ht->ws.find? (λw=>w.loc.beq (.r r))=some (.r r (some R))->m<=n->a_ (kE cx Z J F w ps c is gs) jT iB Ff w' (.ref (aa j) 0) (.slice b n cp)->
    a_ cx Z' J' ay.flatten w' (.nN r q (dR R.w+dR R.h) m) (.slice b m cp)/\dV Z' (.nN r q (dR R.w+dR R.h) m))->
   (ci=0->∀(j:Nat) (i:bI) (r:Nat) (q:List Stp) (wt ht:List TypeId) (R:Root) (p:List (Option Nat)) (m:Int) (v:Value),is[j]?=some i->i.wb=some (r,q,wt,ht)->jC∉ht->ws.find? (λw=>w.loc.beq (.r r))=some (.r r (some R))->¬m<0->Qj jT iB w' j p m v->
    a_ cx Z' J' ay.flatten w' (.ptr r (q++sZ p m) (dR R.h)) v/\dV Z' (.ptr r (q++sZ p m) (dR R.h)))->
   ∃J'',Rel cx (aL ws' Z') J'' [] a w'/\iP cx (aL ws' Z') J'' [] w' as us/\(∀v∈as,dV (aL ws' Z') v)/\(aL ws' Z').slots=Z'.slots/\AY Z J is gs jT iB Ff (aL ws' Z') J'' []/\
    (∀u v,dV Z' u->a_ cx Z' J' ay.flatten w' u v->a_ cx (aL ws' Z') J'' [] w' u v)/\(∀t,y8 Z' t->y8 (aL ws' Z') t)/\(∀u,dV Z' u->dV (aL ws' Z') u):=by
 intro rs
 induction rs with
 |nil=>
  intro ci x as ws' us ay Z' J' H' B hL hW _ _ _ _ _
  obtain⟨rfl,rfl⟩:=hW
  cases us with
  |cons _ _=>exact hL.elim
  |nil=>cases ay with
   |cons _ _=>exact hL.elim
   |nil=>exact⟨J',H',trivial,by simp,rfl,B,λ_ _ _ h=>h,λ_ h=>h,λ_ h=>h⟩
 |cons p rs ih=>
  intro ci x as ws' us ay Z' J' H' B hL hW fE hfr hFf hcut qL
  cases us with
  |nil=>cases p<;>exact hL.elim
  |cons u us=>
   cases ay with
   |nil=>cases p<;>exact hL.elim
   |cons fo ay=>
    cases p with
    |val k exts bJ=>
     obtain⟨⟨rfl,Tg,cs,h1,h2,h3⟩,h4⟩:=hL
     obtain⟨tags,as',hN,rfl,hW⟩:=hW
     simp only[nO,ru]at H' B hFf
     obtain⟨J'',k1,k2,k3,k4,k5,k6,k7,k8⟩:=ih H' B h4 hW fE (λcj hc=>hfr cj (by omega)) hFf (λh=>absurd h (Nat.succ_ne_zero _)) (λh=>absurd h (Nat.succ_ne_zero _))
     refine⟨J'',k1,⟨λ_=>⟨cs,h2,?_⟩,k2⟩,?_,k4,k5,by simpa using k6,k7,k8⟩
     ·cases hf:k.flat with
      |true=>exact nG hf h3
      |false=>
       rw[hf]at hN h1
       obtain⟨b1,b2⟩:=Vm (is:=is) (h1.resolve_left (by simp)) hN.1 (λr hr=>Ut hr)
       exact lJ (λ_ _=>rfl) (λb hb=>Oy H hJ Hf k5 b1 b2 hb) h3
     ·intro v hv
      rcases bW.1 hv with h|h
      ·subst h;exact λt ht=>k7 t (fE _ _ hN t ht)
      ·exact k3 v h
    |own k ow exts bJ=>
     obtain⟨⟨Tg,cs,own,h1,h2,h3,h5⟩,h4⟩:=hL
     obtain⟨tags,as',Da,hN,hn,rfl,rfl,hW⟩:=hW
     simp only[nO]at H' B hFf
     obtain⟨aM,fd,hpm,hO⟩:=yg (own':=ow) (λt ht hm=>h2 t ht hm) h5
     have hnd:=dH.1 H'.iw
     have Ah:=dH.1 (hpm.nodup hnd.1)
     have hk:(bP k x.1 ow tags .anon false).kind=.anon:=rfl
     have hn':=hfr ci (bV _) hn
     have Cs:∀b∈aM,b∈fo:=λb hb=>hpm.mem_iff.2 (bQ _ hb)
     obtain⟨q1,q2⟩:=Eg (R':=bP k x.1 ow tags .anon false) H' hn' (qi d ci) rfl (by simp[bP]) (fE _ _ hN) (0,0) cs aM ay.flatten
      (λb hb=>by rw[rA hk]at hb;exact⟨bQ _ (Cs b hb),λh=>hnd.2.2 b (Cs b hb) b h rfl⟩) (by rw[rA hk];exact Ah.1) (λb hb=>bH _ hb) hnd.2.1
      (λ_=>by
       rw[rA hk]
       show Ow (hp w') ow _ k x.1 cs aM
       cases hall:(k.tys.all λt=>ah t ow)with
       |true=>exact jU (kU (pM hall)) hO
       |false=>
        rw[hall]at hN h1
        obtain⟨b1,b2⟩:=Vm (is:=is) (h1.resolve_left (by simp)) hN.1 (λr hr=>Ut hr)
        refine eO (λ_ _=>rfl) (λb hb=>?_) (λ_ _=>rfl) hO
        rcases hb with hb|hb
        ·exact .inl (Oy H hJ Hf B b1 b2 hb)
        ·have hbf:b∈fo:=hpm.mem_iff.2 (bH _ hb)
         exact .inr ⟨bQ _ hbf,λh=>hnd.2.2 b hbf b h rfl,λh=>Ah.2.2 b h b hb rfl⟩) (fU h5) (λb o hb=>by rw[Gc hk]at hb;simp at hb)
     have hB2:AY Z J is gs jT iB Ff (aR Z' (aN d ci) (bP k x.1 ow tags .anon false)) (aV J' (aN d ci) (0,0) cs aM) ay.flatten:=by
      refine⟨λq Q b hq hb=>?_,λb hb=>hFf b (bH _ hb)⟩
      rcases uF hq with⟨rfl,rfl,_⟩|⟨e,hq'⟩
      ·rw[qa,rA hk]at hb
       exact .inl (hFf b (bQ _ (Cs b hb)))
      ·rw[(l9 (Z:=Z') (J:=J') (R:=bP k x.1 ow tags .anon false) e).blk]at hb
       exact B.blk q Q b hq' hb
     have vY:∀u v,dV Z' u->a_ cx Z' J' (fo++ay.flatten) w' u v->a_ cx (aR Z' (aN d ci) (bP k x.1 ow tags .anon false)) (aV J' (aN d ci) (0,0) cs aM) ay.flatten w' u v:=λu v hu hv=>
      q2.av H' (λr R hr hs=>absurd (l9 (λe=>by have:=hr.1;rw[e,hn']at this;simp at this)) hs) (λr R hr hs=>absurd (l9 (λe=>by have:=hr.1;rw[e,hn']at this;simp at this)) hs) hu hv
     obtain⟨J'',k1,k2,k3,k4,k5,k6,k7,k8⟩:=ih (ci:=ci+1) q1 hB2 h4 hW (λl tags hN t ht=>q2.tag (fE l tags hN t ht)) (λcj hc h=>by
      rw[jR]
      ·exact hfr cj (by omega) h
      ·intro e;have:=abV e;omega) (λb hb=>hFf b (bH _ hb)) (λh=>absurd h (Nat.succ_ne_zero _)) (λh=>absurd h (Nat.succ_ne_zero _))
     have hroot:(aR Z' (aN d ci) (bP k x.1 ow tags .anon false)).roots (aN d ci)=some (bP k x.1 ow tags .anon false):=fG ..
     have Jv:dV (aR Z' (aN d ci) (bP k x.1 ow tags .anon false)) (.ref (aN d ci) 0):=⟨_,hroot,.inr (fQ _)⟩
     refine⟨J'',k1,⟨k6 _ _ Jv (acg h3),k2⟩,?_,k4,k5,λu v hu hv=>?_,λt ht=>k7 t (q2.tag ht),λu hu=>k8 u (q2.dV hu)⟩
     ·intro v hv
      rcases bW.1 hv with h|h
      ·subst h
       exact k8 _ Jv
      ·exact k3 v h
     ·exact k6 u v (q2.dV hu) (vY u v hu hv)
    |ptr t k ow exts=>
     obtain⟨⟨b0,o0,Tg,cs,own,gX,h3,rfl,h1,h2,hmem,h5⟩,h4⟩:=hL
     obtain⟨tags,as',Da,hN,hn,rfl,rfl,hW⟩:=hW
     simp only[nO]at H' B hFf
     obtain⟨aM,fd,hpm,hO⟩:=yg (own':=ow) (λt ht hm=>h2 t ht hm) h5
     have hnd:=dH.1 H'.iw
     have kC:=jg.1 hnd.1
     have Ah:=dH.1 (hpm.nodup kC.2)
     have hk:(bP k x.1 ow tags (.var t) false).kind=.var t:=rfl
     have hn':=hfr ci (bV _) hn
     have Cs:∀b∈b0 :: aM,b∈b0 :: gX:=λb hb=>by
      rcases bW.1 hb with h|h
      ·rw[h];exact jE
      ·exact jD _ (hpm.mem_iff.2 (bQ _ h))
     obtain⟨q1,q2⟩:=Eg (R':=bP k x.1 ow tags (.var t) false) H' hn' (qi d ci) rfl (by simp[bP]) (fE _ _ hN) (b0,o0) cs aM ay.flatten
      (λb hb=>by rw[Eo hk]at hb;exact⟨bQ _ (Cs b hb),λh=>hnd.2.2 b (Cs b hb) b h rfl⟩) (by rw[Eo hk];exact jg.2 ⟨λh=>kC.1 (hpm.mem_iff.2 (bQ _ h)),Ah.1⟩) (λb hb=>bH _ hb) hnd.2.1
      (λ_=>by
       rw[Eo hk]
       show Ow (hp w') ow _ k x.1 cs aM
       cases hall:(k.tys.all λt=>ah t ow)with
       |true=>exact jU (kU (pM hall)) hO
       |false=>
        rw[hall]at hN h1
        obtain⟨b1,b2⟩:=Vm (is:=is) (h1.resolve_left (by simp)) hN.1 (λr hr=>Ut hr)
        refine eO (λ_ _=>rfl) (λb hb=>?_) (λ_ _=>rfl) hO
        rcases hb with hb|hb
        ·exact .inl (Oy H hJ Hf B b1 b2 hb)
        ·have hbf:b∈b0 :: gX:=jD _ (hpm.mem_iff.2 (bH _ hb))
         exact .inr ⟨bQ _ hbf,λh=>hnd.2.2 b hbf b h rfl,λh=>by
          rcases bW.1 h with h|h
          ·subst h;exact kC.1 (hpm.mem_iff.2 (bH _ hb))
          ·exact Ah.2.2 b h b hb rfl⟩) (fU h5) (λb o hb=>by
       rw[aeO hk]at hb
       simp only[au,bZ]at hb
       obtain⟨rfl,rfl⟩:=hb
       obtain⟨m1,arr,e,lo,hi,m2,m3,m4,m5⟩:=hmem
       exact⟨m1,arr,e,lo,hi,m2,m3,m4,λu hu=>by rw[m5];rw[hk]at hu;simpa using hu⟩)
     have hB2:AY Z J is gs jT iB Ff (aR Z' (aN d ci) (bP k x.1 ow tags (.var t) false)) (aV J' (aN d ci) (b0,o0) cs aM) ay.flatten:=by
      refine⟨λq Q b hq hb=>?_,λb hb=>hFf b (bH _ hb)⟩
      rcases uF hq with⟨rfl,rfl,_⟩|⟨e,hq'⟩
      ·rw[qa,Eo hk]at hb
       exact .inl (hFf b (bQ _ (Cs b hb)))
      ·rw[(l9 (Z:=Z') (J:=J') (R:=bP k x.1 ow tags (.var t) false) e).blk]at hb
       exact B.blk q Q b hq' hb
     have vY:∀u v,dV Z' u->a_ cx Z' J' ((b0 :: gX)++ay.flatten) w' u v->a_ cx (aR Z' (aN d ci) (bP k x.1 ow tags (.var t) false)) (aV J' (aN d ci) (b0,o0) cs aM) ay.flatten w' u v:=λu v hu hv=>
      q2.av H' (λr R hr hs=>absurd (l9 (λe=>by have:=hr.1;rw[e,hn']at this;simp at this)) hs) (λr R hr hs=>absurd (l9 (λe=>by have:=hr.1;rw[e,hn']at this;simp at this)) hs) hu hv
     obtain⟨J'',k1,k2,k3,k4,k5,k6,k7,k8⟩:=ih (ci:=ci+1) q1 hB2 h4 hW (λl tags hN t ht=>q2.tag (fE l tags hN t ht)) (λcj hc h=>by
      rw[jR]
      ·exact hfr cj (by omega) h
      ·intro e;have:=abV e;omega) (λb hb=>hFf b (bH _ hb)) (λh=>absurd h (Nat.succ_ne_zero _)) (λh=>absurd h (Nat.succ_ne_zero _))
     have hroot:(aR Z' (aN d ci) (bP k x.1 ow tags (.var t) false)).roots (aN d ci)=some (bP k x.1 ow tags (.var t) false):=fG ..
     have Jv:dV (aR Z' (aN d ci) (bP k x.1 ow tags (.var t) false)) (.ptr (aN d ci) [] 0):=⟨_,hroot,.inr (fQ _)⟩
     refine⟨J'',k1,⟨k6 _ _ Jv (by rw[h3];exact aqx),k2⟩,?_,k4,k5,λu v hu hv=>?_,λt ht=>k7 t (q2.tag ht),λu hu=>k8 u (q2.dV hu)⟩
     ·intro v hv
      rcases bW.1 hv with h|h
      ·subst h
       exact k8 _ Jv
      ·exact k3 v h
     ·exact k6 u v (q2.dV hu) (vY u v hu hv)
    |into j q=>
     obtain⟨⟨rfl,hI⟩,h4⟩:=hL
     obtain⟨hci,rfl,rfl,i,r,q',wt,ht,R,g1,g2,g0,g3,hA⟩:=hW
     cases us with
     |cons _ _=>exact h4.elim
     |nil=>
      cases ay with
      |cons _ _=>exact h4.elim
      |nil=>
       have key:∃av,as=[av]/\a_ cx Z' J' [] w' av u/\dV Z' av:=by
        simp only[nO,MN,iq]at hcut qL
        rcases hA with⟨hp,rfl⟩|⟨hp,hA⟩
        ·rcases hI with⟨_,b,n,cp,e1,e2,e3⟩|⟨hp',_⟩
         ·obtain⟨k1,k2⟩:=hcut hci j i r q' wt ht R b n cp _ g1 g2 g0 g3 e2 e3
          exact⟨_,rfl,by rw[e1];exact k1,k2⟩
         ·exact absurd hp hp'
        ·rcases hI with⟨hp',_⟩|⟨_,hI⟩
         ·exact absurd hp' hp
         ·rcases hA with⟨hm,rfl⟩|⟨hm,rfl⟩
          ·rcases hI with⟨_,hv⟩|⟨hm',_⟩
           ·exact⟨_,rfl,hv,trivial⟩
           ·exact absurd hm (by omega)
          ·obtain⟨k1,k2⟩:=qL hci j i r q' wt ht R q _ u g1 g2 g0 g3 hm hI
           exact⟨_,rfl,k1,k2⟩
       obtain⟨av,rfl,k1,k2⟩:=key
       simp only[nO,MN,iq]at H' B
       refine⟨J',H',⟨k1,trivial⟩,λv hv=>?_,rfl,B,λ_ _ _ h=>?_,λ_ h=>h,λ_ h=>h⟩
       ·simp only[iD]at hv
        subst hv
        exact k2
       ·simp only[nO,MN,iq]at h
        exact h
end
end
section
open Go
variable [Fr]
section
variable {P:Program}{T:bL}{cx:Cx}{Z:St}{J:aO}{F:List Nat}{a:Act}{w w':World}
theorem ae4:∀{ps:List aD} {c:Cont (kin ps)} {vs:List Value} {is:List bI} {ts:List (Value×fC)},rY cx Z J F a w ps c vs is ts->
  is.flatMap bI.ws=fB ts/\(∀q∈ts,su cx Z J F w q.1 q.2)/\(∀t∈oz ts,∃(j:Nat) (i:bI) (k:K) (ow:List TypeId),ps[j]?=some (.own k ow)/\is[j]?=some i/\t∈i.ids)/\vs.length=ps.length/\is.length=ps.length:=by
 intro ps
 induction ps with
 |nil=>
  intro c vs is ts h
  cases vs with
  |cons _ _=>exact h.elim
  |nil=>cases is with
   |cons _ _=>exact h.elim
   |nil=>cases ts with
    |cons _ _=>exact h.elim
    |nil=>exact⟨rfl,by simp,by simp[oz],rfl,rfl⟩
 |cons p ps ih=>
  intro c vs is ts h
  cases vs with
  |nil=>cases p<;>exact h.elim
  |cons v vs=>
   cases is with
   |nil=>cases p<;>exact h.elim
   |cons i is=>
    have hshift:∀{ts:List (Value×fC)},(∀t∈oz ts,∃(j:Nat) (i:bI) (k:K) (ow:List TypeId),ps[j]?=some (.own k ow)/\is[j]?=some i/\t∈i.ids)->∀t∈oz ts,∃(j:Nat) (i':bI) (k:K) (ow:List TypeId),(p :: ps)[j]?=some (.own k ow)/\(i :: is)[j]?=some i'/\t∈i'.ids:=by
     intro ts h t ht
     obtain⟨j,i',k,ow,h1,h2,h3⟩:=h t ht
     exact⟨j+1,i',k,ow,by simpa using h1,by simpa using h2,h3⟩
    cases p with
    |val k bJ=>obtain⟨⟨_,h1,_⟩,h6⟩:=h;obtain⟨g1,g2,g3,g4,g5⟩:=ih h6;exact⟨by simp[h1,g1],g2,hshift g3,by simp[g4],by simp[g5]⟩
    |ro k=>obtain⟨⟨_,h1,_⟩,h6⟩:=h;obtain⟨g1,g2,g3,g4,g5⟩:=ih h6;exact⟨by simp[h1,g1],g2,hshift g3,by simp[g4],by simp[g5]⟩
    |rw k ow wt ht=>obtain⟨⟨r,R,p,hP,_⟩,h6⟩:=h;obtain⟨g1,g2,g3,g4,g5⟩:=ih h6;exact⟨by simp[hP.ws,g1],g2,hshift g3,by simp[g4],by simp[g5]⟩
    |bO k ow wt=>obtain⟨⟨r,R,p,hP,_⟩,h6⟩:=h;obtain⟨g1,g2,g3,g4,g5⟩:=ih h6;exact⟨by simp[hP.ws,g1],g2,hshift g3,by simp[g4],by simp[g5]⟩
    |fn f ks=>obtain⟨⟨_,h1,_⟩,h6⟩:=h;obtain⟨g1,g2,g3,g4,g5⟩:=ih h6;exact⟨by simp[h1,g1],g2,hshift g3,by simp[g4],by simp[g5]⟩
    |own k ow=>
     cases ts with
     |nil=>exact h.elim
     |cons q ts=>
      obtain⟨⟨h1,h2,h3,h4,h5⟩,h6⟩:=h
      obtain⟨g1,g2,g3,g4,g5⟩:=ih h6
      refine⟨?_,?_,?_,by simp[g4],by simp[g5]⟩
      ·rw[h3];simp[g1,fB]
      ·intro q' hq
       rcases bW.1 hq with h|h
       ·subst h;rw[h1];exact h2
       ·exact g2 q' h
      ·intro t ht
       simp only[oz,mP,dD]at ht
       rcases ht with ht|ht
       ·exact⟨0,i,k,ow,rfl,rfl,by rw[h3];exact ht⟩
       ·exact hshift g3 t ht
    |into j q=>obtain⟨⟨_,h1,_⟩,h6⟩:=h;obtain⟨g1,g2,g3,g4,g5⟩:=ih h6;exact⟨by simp[h1,g1],g2,hshift g3,by simp[g4],by simp[g5]⟩
theorem acF{r:Nat}:∀{is:List bI} {n m:Nat},vg r is n=some m->∃i q,n<=m/\is[m-n]?=some i/\i.wb=some (r,q):=by
 intro is
 induction is with
 |nil=>intro n m h;simp[vg]at h
 |cons i is ih=>
  intro n m h
  unfold vg at h
  have hrec:vg r is (n+1)=some m->∃i' q,n<=m/\(i :: is)[m-n]?=some i'/\i'.wb=some (r,q):=by
   intro h
   obtain⟨i',q,h1,h2,h3⟩:=ih h
   refine⟨i',q,by omega,?_,h3⟩
   have:m-n=(m-(n+1))+1:=by omega
   rw[this]
   simpa using h2
  cases hw:i.wb with
  |none=>rw[hw]at h;exact hrec h
  |some q=>
   rw[hw]at h
   simp only at h
   cases hb:Nat.beq r q.1 with
   |true=>
    rw[hb]at h
    simp only[gP,au]at h
    subst h
    exact⟨i,q.2,bV _,by simp,by rw[hw,bD hb]⟩
   |false=>rw[hb]at h;exact hrec h
theorem aqX{r:Nat}:∀{is:List bI} {n:Nat},vg r is n=none->∀i∈is,∀q,i.wb≠some (r,q):=by
 intro is
 induction is with
 |nil=>intro n _ i hi;simp at hi
 |cons i is ih=>
  intro n h i' hi q he
  unfold vg at h
  rcases bW.1 hi with h'|h'
  ·subst h'
   rw[he]at h
   simp at h
  ·cases hw:i.wb with
   |none=>rw[hw]at h;exact ih h i' h' q he
   |some q'=>
    rw[hw]at h
    simp only at h
    cases hb:Nat.beq r q'.1 with
    |true=>rw[hb]at h;simp at h
    |false=>rw[hb]at h;exact ih h i' h' q he
theorem acy:∀{is:List bI} {j j':Nat} {i i':bI},yT is=true->is[j]?=some i->is[j']?=some i'->i.wb≠none->i'.wb≠none->j=j':=by
 intro is
 induction is with
 |nil=>intro j j' i i' _ h;simp at h
 |cons x is ih=>
  intro j j' i i' ho h1 h2 h3 h4
  cases j with
  |zero=>
   simp only[qA,au]at h1
   subst h1
   cases j' with
   |zero=>rfl
   |succ j'=>
    rcases J8 ho with⟨h,_⟩|⟨_,h⟩
    ·exact absurd h h3
    ·exact absurd (h i' (rq (by simpa using h2))) h4
  |succ j=>
   cases j' with
   |zero=>
    simp only[qA,au]at h2
    subst h2
    rcases J8 ho with⟨h,_⟩|⟨_,h⟩
    ·exact absurd h h4
    ·exact absurd (h i (rq (by simpa using h1))) h3
   |succ j'=>
    rcases J8 ho with⟨_,h⟩|⟨_,h⟩
    ·have:=ih h (by simpa using h1) (by simpa using h2) h3 h4;omega
    ·exact absurd (h i (rq (by simpa using h1))) h3
def Q7(is:List bI)(p:aD)(i:bI):Prop:=
 (∃(k:K) (bJ:List Nat),p=.val k bJ/\(∀m∈bJ,∃q:bI,is[m]?=some q/\q.wb≠none)/\∀t∈i.ids,(∃(n:Nat) (j':bI),vg t.1 is 0=some n/\n∈bJ/\is[n]?=some j'/\∀b∈j'.bt,b∉k.tys)\/(vg t.1 is 0=none/\t.1∉is.flatMap λj=>j.ws.flatMap Wr.fA))\/
  ((∀k bJ,p≠.val k bJ)/\∀t∈i.ids,t.1∉is.flatMap bI.touched)
theorem atu{is:List bI}:∀{ps:List aD} {l:List bI},AU is ps l=true->∀(j:Nat) (p:aD) (i:bI),ps[j]?=some p->l[j]?=some i->Q7 is p i:=by
 intro ps
 induction ps with
 |nil=>intro l _ j p i hp;simp at hp
 |cons p ps ih=>
  intro l h j q i hq hi
  cases l with
  |nil=>cases p<;>simp[AU]at h
  |cons x l=>
   have hhead:(j=0->q=p/\i=x):=by
    intro e
    subst e
    simp only[qA,au]at hq hi
    exact⟨hq.symm,hi.symm⟩
   have abq:AU is ps l=true->j≠0->Q7 is q i:=by
    intro h hj
    obtain⟨j',rfl⟩:∃j',j=j'+1:=⟨j-1,by omega⟩
    exact ih h j' q i (by simpa using hq) (by simpa using hi)
   have hother:(∀(k:K) (bJ:List Nat),p≠.val k bJ)->(x.ids.all (λt=>!ah t.1 (is.flatMap bI.touched))&&AU is ps l)=true->Q7 is q i:=by
    intro hp hx
    rw[bB]at hx
    by_cases hj:j=0
    ·obtain⟨e1,e2⟩:=hhead hj
     rw[e1,e2]
     refine .inr ⟨hp,λt ht=>?_⟩
     have:=eX.1 hx.1 t ht
     simpa[gJ]using this
    ·exact abq hx.2 hj
   cases p with
   |val k bJ=>
    simp only[AU,bB]at h
    by_cases hj:j=0
    ·obtain⟨rfl,rfl⟩:=hhead hj
     refine .inl ⟨k,bJ,rfl,λm hm=>?_,λt ht=>?_⟩
     ·have:=eX.1 h.1.1 m hm
      cases hmi:is[m]? with
      |none=>rw[hmi]at this;simp at this
      |some q=>
       rw[hmi]at this
       refine⟨q,rfl,λe=>?_⟩
       simp[e]at this
     ·have:=eX.1 h.1.2 t ht
      cases hpo:vg t.1 is 0 with
      |none=>
       rw[hpo]at this
       refine .inr ⟨rfl,?_⟩
       simpa[gJ]using this
      |some n=>
       rw[hpo]at this
       simp only[bB]at this
       cases hni:is[n]? with
       |none=>rw[hni]at this;simp at this
       |some j'=>
        rw[hni]at this
        refine .inl ⟨n,j',rfl,dh.1 this.1,hni,λb hb=>?_⟩
        have h2:=eX.1 this.2 b hb
        simpa[gJ]using h2
    ·exact abq h.2 hj
   |ro k=>exact hother (by simp) h
   |rw k ow wt ht=>exact hother (by simp) h
   |bO k ow wt=>exact hother (by simp) h
   |own k ow=>exact hother (by simp) h
   |fn f ks=>exact hother (by simp) h
   |into j q=>exact hother (by simp) h
theorem aeZ{Z1:St}:∀{ps:List aD} {is:List bI} {c:Cont (gI ps)} {ws:List Wr},(∀i∈is,∀r q,i.wb=some (r,q)->Z1.roots r=Z.roots r)->qV Z ps is c ws->qV Z1 ps is c ws:=by
 intro ps
 induction ps with
 |nil=>
  intro is c ws _ h
  cases is with
  |nil=>exact h
  |cons _ _=>exact h.elim
 |cons p ps ih=>
  intro is c ws hr h
  cases is with
  |nil=>cases p<;>exact h.elim
  |cons i is=>
   have hr':∀i∈is,∀r q,i.wb=some (r,q)->Z1.roots r=Z.roots r:=λi hi=>hr i (by simp[hi])
   cases p with
   |rw kk ow xN ht0=>obtain⟨r,p,wt,ht,R,z,ws',h1,h2,h3,h4,h5⟩:=h;exact⟨r,p,wt,ht,R,z,ws',h1,by rw[hr i (by simp) r _ h1];exact h2,h3,h4,ih hr' h5⟩
   |bO kk ow xN=>obtain⟨r,p,wt,ht,R,z,ws',h1,h2,h3,h4,h5⟩:=h;exact⟨r,p,wt,ht,R,z,ws',h1,by rw[hr i (by simp) r _ h1];exact h2,h3,h4,ih hr' h5⟩
   |val _ _=>exact ih hr' h
   |ro _=>exact ih hr' h
   |own _ _=>exact ih hr' h
   |fn _ _=>exact ih hr' h
   |into _ _=>exact ih hr' h
theorem akH{as:List AV}{us:List Value}(h:iP cx Z J F w as us):jo cx Z J F w (Rl as) (C8 us):=by
 cases as with
 |nil=>cases us with
  |nil=>exact⟨[],rfl,trivial⟩
  |cons _ _=>exact h.elim
 |cons x as=>cases us with
  |nil=>exact h.elim
  |cons u us=>
   cases as with
   |nil=>cases us with
    |nil=>exact h.1
    |cons _ _=>exact h.2.elim
   |cons y as=>cases us with
    |nil=>exact h.2.elim
    |cons u' us=>exact⟨u :: u' :: us,rfl,h⟩
theorem akG{as:List AV}(h:∀v∈as,dV Z v):nI Z (Rl as):=by
 cases as with
 |nil=>exact λa ha=>by simp at ha
 |cons x as=>cases as with
  |nil=>exact h x (by simp)
  |cons y as=>exact h
theorem aqF{A:Type}{f g:A->List Nat}:∀{l:List A},(∀x∈l,(g x).Sublist (f x))->(l.flatMap f).Nodup->(l.flatMap g).Nodup:=by
 intro l hs h
 refine h.sublist ?_
 clear h
 induction l with
 |nil=>simp
 |cons x l ih=>
  simp only[mP]
  exact(hs x (by simp)).append (ih (λy hy=>hs y (by simp[hy])))
theorem am0{A:Type}{f:A->List Nat}:∀{l:List A} {x:A},x∈l->(l.flatMap f).Nodup->(f x).Nodup:=by
 intro l
 induction l with
 |nil=>intro x hx;simp at hx
 |cons y l ih=>
  intro x hx h
  simp only[mP]at h
  have n:=dH.1 h
  rcases bW.1 hx with h1|h1
  ·subst h1;exact n.1
  ·exact ih h1 n.2.1
theorem De.mono{f:FuncId}{args:Array Value}{R R':Value->World->Prop}(h:De P f args w R)(hr:∀v w',R v w'->R' v w'):De P f args w R':=by
 rcases h with⟨h1,h2⟩|⟨v,w',h1,h2⟩
 ·exact .inl ⟨h1,h2.mono λe w' ⟨v,he,h⟩=>⟨v,he,hr _ _ h⟩⟩
 ·exact .inr ⟨v,w',h1,hr _ _ h2⟩
theorem apS{xH:List aD}{all:List bI}:∀{ps:List aD} {is:List bI},CP xH all ps is=true->∀(j m:Nat) (p:List (Option Nat)) (i:bI) (r:Nat) (q:List Stp),ps[j]?=some (.into m p)->is[j]?=some i->i.lie=some (r,q)->
  ∃(k:K) (ow wt ht:List TypeId) (i':bI) (q':List Stp) (u:List TypeId×List TypeId),xH[m]?=some (.rw k ow wt ht)/\all[m]?=some i'/\i'.wb=some (r,q',u)/\q=q'++q.drop (q.length-p.length):=by
 intro ps
 induction ps with
 |nil=>intro is _ j m p i r q h1;simp at h1
 |cons p0 ps ih=>
  intro is h j m p i r q h1 h2 h3
  cases is with
  |nil=>simp at h2
  |cons i0 is=>
   cases j with
   |succ j=>
    have h':CP xH all ps is=true:=by
     cases p0 with
     |into _ _=>simp only[CP,bB]at h;exact h.2
     |_=>exact h
    exact ih h' j m p i r q (by simpa using h1) (by simpa using h2) h3
   |zero=>
    simp only[qA,au]at h1 h2
    subst h1 h2
    simp only[CP,bB]at h
    have h:=h.1
    unfold abQ at h
    rw[h3]at h
    simp only at h
    cases hm:xH[m]? with
    |none=>rw[hm]at h;simp at h
    |some p1=>
     rw[hm]at h
     cases ha:all[m]? with
     |none=>rw[ha]at h;cases p1<;>simp at h
     |some b=>
      rw[ha]at h
      cases p1 with
      |rw k ow wt ht=>
       simp only at h
       cases hw:b.wb with
       |none=>rw[hw]at h;simp at h
       |some u=>
        obtain⟨r',q',u1,u2⟩:=u
        rw[hw]at h
        simp only[bB]at h
        obtain⟨⟨⟨c1,c2⟩,c3⟩,c4⟩:=h
        have e1:=bD c1
        have e2:=bD c2
        have e3:=JQ c3 (by rw[Ak c4,Ak (Ou c3 c4)])
        subst e1
        refine⟨k,ow,wt,ht,b,q',(u1,u2),rfl,rfl,hw,?_⟩
        have e4:q.length-p.length=q'.length:=by omega
        rw[e4]
        conv=>rhs;rw[e3]
        rw[<-e3]
        exact(DY q'.length q).symm.trans (by rw[<-e3])
      |_=>simp at h
theorem ak2{n:Nat}{E:Entry}(hE:aA P n E)(H:Rel cx Z J F a w){dst:Option Nat}{nW:List AV}{vs:List Value}(hl:iP cx Z J F w nW vs)(Jo:∀v∈nW,dV Z v)(hdn:∀d,dst=some d->d<cx.nt){ws:List Wr}
  (h:(RF n E dst nW λws=>(.ret ws:Prog (List Wr))).ends Z ws):De P E.f vs.toArray w λv w'=>∃J' F',Rel cx (aL ws Z) J' F' (a.put dst v) w':=by
 unfold RF at h
 obtain⟨c,is,ts,hG,h⟩:=am_ H hl Jo h
 obtain⟨gw,gt,gtt,gl1,gl2⟩:=ae4 hG
 rcases bF h with⟨hc,h⟩|⟨_,h⟩
 ·rw[bB,bB,bB]at hc
  obtain⟨⟨⟨hap,ho⟩,hvo⟩,hlo⟩:=hc
  have hnd:=II.1 hap
  obtain⟨out,hout,h⟩:=h
  obtain⟨y_,hB,h⟩:=akI h
  have hvs:=atu hvo
  have EZ:(fB ts).flatMap Wr.fA=is.flatMap λi=>i.ws.flatMap Wr.fA:=by rw[<-gw,List.flatMap_assoc]
  have aoW:((fB ts).flatMap Wr.fA).Nodup:=by
   rw[EZ]
   exact aqF (λi _=>by unfold bI.touched;exact List.sublist_append_right _ _) hnd
  have aoX:∀r,r∈(fB ts).flatMap Wr.fA->r∈is.flatMap bI.touched:=by
   intro r hr
   rw[EZ]at hr
   obtain⟨i,hi,h1⟩:=jZ.1 hr
   exact jZ.2 ⟨i,hi,by unfold bI.touched;exact bH _ h1⟩
  have abu:∀(m:Nat) (i:bI) r q,is[m]?=some i->i.wb=some (r,q)->r∉(fB ts).flatMap Wr.fA:=by
   intro m i r q hi hw hr
   rw[EZ]at hr
   obtain⟨i',hi',h1⟩:=jZ.1 hr
   obtain⟨m',hm',he⟩:=qC.1 hi'
   have hi2:is[m']?=some i':=by rw[jl hm',he]
   have ht1:r∈i.touched:=by unfold bI.touched;rw[hw];simp
   by_cases e:m=m'
   ·subst e
    rw[hi]at hi2
    simp only[au]at hi2
    subst hi2
    have:=am0 hi' hnd
    unfold bI.touched at this
    rw[hw]at this
    simp only[kY,ru]at this
    exact(jg.1 this).1 h1
   ·exact flatMap_apart hnd hi hi2 e r ht1 (by unfold bI.touched;exact bH _ h1)
  have NN:∀(j:Nat) (i:bI),is[j]?=some i->∀t∈i.ids,t.1∉(fB ts).flatMap Wr.fA:=by
   intro j i hi t ht hr
   have hj:j<E.ps.length:=by have:=(qB.1 hi).1;omega
   rcases hvs j E.ps[j] i (jl hj) hi with⟨k,bJ,_,_,h1⟩|⟨_,h1⟩
   ·rcases h1 t ht with⟨n,j',h2,_,_,_⟩|⟨_,h2⟩
    ·obtain⟨i',q,_,h3,h4⟩:=acF h2
     simp only[Nat.sub_zero]at h3
     exact abu n i' t.1 q h3 h4 hr
    ·exact h2 (by rw[<-EZ];exact hr)
   ·exact h1 t ht (aoX _ hr)
  obtain⟨aP,F1,hs,H1,hA1,sS,hnF1,atU,hS1,_,hV1,ao7,aoI⟩:=takes ts H gt aoW (λt ht=>by
   obtain⟨j,i,k,ow,h1,h2,h3⟩:=gtt t ht
   exact NN j i h2 t h3)
  have anx:∀i∈is,∀t∈i.ids,Same Z J (aL (fB ts) Z) aP t.1:=by
   intro i hi t ht
   obtain⟨j,hj,he⟩:=qC.1 hi
   exact hS1 _ (NN j i (by rw[jl hj,he]) t ht)
  have SL:∀i∈is,∀r q,i.wb=some (r,q)->Same Z J (aL (fB ts) Z) aP r:=by
   intro i hi r q hw
   obtain⟨j,hj,he⟩:=qC.1 hi
   exact hS1 _ (abu j i r q (by rw[jl hj,he]) hw)
  have aaY:=apS hlo
  obtain⟨gs,hJ,hfl⟩:=akE H1 hV1 hG hA1 anx SL (λj m p i r q h1 h2 h3=>by
   obtain⟨_,_,_,_,i',q',u,_,g2,g3,_⟩:=aaY j m p i r q h1 h2 h3
   exact SL i' (rq g2) r _ g3)
  obtain⟨lv,li,lg,hat⟩:=hJ.at (i0:=0)
  have hA:Apart cx (aL (fB ts) Z) aP F1 w E.ps is gs:=by
   refine⟨λj j' g g' hg hg' hw hw'=>?_,by rw[hfl];exact sS,λj p i r n hp hi hn m i' q hm hq=>?_,λj p hp m hm=>?_,aaY⟩
   ·have hget:∀{j:Nat} {g:GA},gs[j]?=some g->g.wb=true->∃i,is[j]?=some i/\i.wb≠none:=by
     intro j g hg hw
     have hj:j<E.ps.length:=by have:=(qB.1 hg).1;omega
     obtain⟨cj,v,i,g',e1,e2,e3,e4,_⟩:=hat j E.ps[j] (jl hj)
     rw[hg]at e3
     simp only[au]at e3
     subst e3
     exact⟨i,e2,(sM H1 e4).2.2.2.1 hw⟩
    obtain⟨i,h1,h2⟩:=hget hg hw
    obtain⟨i',h3,h4⟩:=hget hg' hw'
    exact acy ho h1 h3 h2 h4
   ·rcases hvs j p i hp hi with⟨k,bJ,h0,_,h1⟩|⟨_,h1⟩
    ·rcases h1 (r,n) hn with⟨n',j',h2,h3,h4,h5⟩|⟨h2,_⟩
     ·obtain⟨Ai,q',_,h6,h7⟩:=acF h2
      simp only[Nat.sub_zero]at h6
      have e:=acy ho h6 hm (by rw[h7];simp) (by rw[hq];simp)
      subst e
      rw[hm]at h4
      simp only[au]at h4
      subst h4
      subst h0
      exact⟨h3,k,bJ,rfl,h5⟩
     ·exact absurd hq (aqX h2 i' (rq hm) q)
    ·refine absurd ?_ (h1 (r,n) hn)
     exact jZ.2 ⟨i',rq hm,by unfold bI.touched;rw[hq];simp⟩
   ·have hj:j<is.length:=by have:=(qB.1 hp).1;omega
    rcases hvs j p is[j] hp (jl hj)with⟨k,bJ,h0,h1,_⟩|⟨h0,_⟩
    ·subst h0
     obtain⟨q,h2,h3⟩:=h1 m hm
     cases hw:q.wb with
     |none=>exact absurd hw h3
     |some u=>exact⟨q,u,h2,hw⟩
    ·cases p with
     |val k bJ=>exact absurd rfl (h0 k bJ)
     |_=>simp[CW]at hm
  have hinit:=apl H1 hJ hA
  have aoO:D9 (kE cx (aL (fB ts) Z) aP F1 w E.ps c is gs) E.ps:=aqZ H1 hJ
  refine(hE c out hout _ _ vs.toArray w rfl rfl (by simpa using gl1) aoO hinit).mono ?_
  rintro v w' ⟨jT,iB,Ff,af,us,ay,Hf,hv,hRL,hfn,qK,hOL⟩
  have hB1:qV (aL (fB ts) Z) E.ps is (Cont.snd (eU E.rs) (gI E.ps) out) y_:=aeZ (λi hi r q hw=>(SL i hi r q hw).root) hB
  obtain⟨jY,H2,hBS,hsl2,aoJ,ao8,Fb,abh⟩:=akK H1 hJ ho Hf hB1 hOL qK hfn
  have aoK:∀l tags,zA Z y_ l tags->gB (aL y_ (aL (fB ts) Z)) tags:=by
   intro l tags hN t ht
   rcases hN.2 t ht with h|⟨R,hf,hn⟩|⟨R,hr,hn⟩
   ·exact .inl h
   ·rcases Fb with rfl|⟨r,R',rfl⟩
    ·simp at hf
    ·have hm:=List.mem_of_find?_eq_some hf
     simp only[iD,Wr.r.injEq,au]at hm
     obtain⟨h1,h2⟩:=hm
     refine .inr ⟨R,?_,.inr (by rw[hn];exact bV _)⟩
     rw[h1,h2]
     exact fG ..
   ·exact ao8 t (ao7 t (.inr ⟨R,hr,.inr (by rw[hn];exact bV _)⟩))
  cases dst with
  |none=>
   simp only at h
   rw[bE h,oM,gw]
   exact⟨jY,_,H2⟩
  |some d=>
   simp only at h
   obtain⟨as,ws3,hW,h⟩:=arj h
   rw[bE h,oM,oM,oM,gw]
   obtain⟨α3,k1,k2,k3,k4,_⟩:=akr H1 hJ Hf H2 hBS hRL hW aoK (λcj _ hn=>aoJ _ (aoI _ hn)) qK (λ_ j i r q wt ht R b n cp m g1 g2 g0 g3 g4 g5=>by
    obtain⟨Rf,R',R0,p1,p2,p3,p4,p5,p6,p7,pg,p8⟩:=abh j i r q wt ht g0 g1 g2
    have eR:R=R':=by
     rw[p4]at g3
     simp[Wr.loc,Loc.beq]at g3
     exact g3.symm
    subst eR
    have hroot:(aL y_ (aL (fB ts) Z)).roots r=some R:=by
     rw[p4];exact fG ..
    refine⟨⟨b,cp,rfl,λR2 hR2 hv2 _ dd hdd=>?_⟩,R,hroot,.inr (bV _)⟩
    rw[hroot]at hR2
    simp only[au]at hR2
    subst hR2
    obtain⟨wh,og⟩:=p8 hv2
    obtain⟨hk,jO⟩:=g5 Rf ⟨p1,p2.1⟩ p3
    have hh:iB.hdr (aa j)=[.slice b n cp]:=by
     unfold VC at jO
     split at jO
     ·simp at jO
     ·exact jO.1
    exact⟨p6,p7,n,wh,by rw[<-hh];exact og,g4⟩) (λ_ j i r q wt ht R p m v g1 g2 g0 g3 hm hI=>by
    obtain⟨Rf,R',R0,p1,p2,p3,p4,p5,p6,p7,pg,p8⟩:=abh j i r q wt ht g0 g1 g2
    have eR:R=R':=by
     rw[p4]at g3
     simp[Wr.loc,Loc.beq]at g3
     exact g3.symm
    subst eR
    have hroot:(aL y_ (aL (fB ts) Z)).roots r=some R:=by
     rw[p4];exact fG ..
    rcases hI with⟨h,_⟩|⟨_,R1,cs,b,o,q1,q2,q3,q4,q5⟩
    ·exact absurd h hm
    have e1:R1=Rf:=by have:=q1.1;rw[p1]at this;simpa using this.symm
    subst e1
    refine⟨⟨⟨b,o,q5⟩,λR2 hR2 hv2 _ _ _=>?_⟩,R,hroot,.inr (bV _)⟩
    rw[hroot]at hR2
    simp only[au]at hR2
    subst hR2
    obtain⟨wh,og⟩:=p8 hv2
    refine⟨M7 q pg p6 q2,cs,b,o,?_,q5⟩
    rw[J2 q pg og]
    exact(Uy _ _ q3 q4).1 wh)
   refine⟨α3,[],?_⟩
   rw[hv]
   exact k1.put (hdn d rfl) (akG k3) (akH k2)
 ·exact h.elim
end
end
section
open Go
variable [Fr]
section
variable {P:Program}{T:bL}{cx:Cx}{Z:St}{J:aO}{F:List Nat}{a:Act}{w:World}{o:Oper}{ws:List Wr}{hi:Hint}{n:Nat}
def Pk(P:Program)(cx:Cx)(o:Oper)(a:Act)(w:World)(Z':St):Prop:=
 ∀(K:Act->World->Prop) (Q:Exit->Act->World->Prop),(∀J' F' a' w',Rel cx Z' J' F' a' w'->K a' w')->o.wp P a w K Q
theorem dQ.toW{Z':St}(h:dQ P cx o a w Z'):Pk P cx o a w Z':=λK Q hK=>h.wp hK
def xQ(P:Program)(n:Nat)(hi:Hint):Prop:=∀q∈hi.calls,aA P n q.2.2
theorem amT{f d:Nat}:∀{l:List (Nat×Option Nat×Entry)} {E:Entry},Aa f d l=some E->∃q∈l,q.2.2=E:=by
 intro l
 induction l with
 |nil=>intro E h;simp[Aa]at h
 |cons q l ih=>
  intro E h
  obtain⟨g,od,E'⟩:=q
  cases od with
  |none=>
   unfold Aa at h
   cases hb:Nat.beq f g with
   |true=>rw[hb]at h;simp only[gP,au]at h;exact⟨_,jE,h⟩
   |false=>
    rw[hb]at h
    obtain⟨q,h1,h2⟩:=ih h
    exact⟨q,jD _ h1,h2⟩
  |some e=>
   unfold Aa at h
   cases hb:(Nat.beq f g&&Nat.beq d e)with
   |true=>rw[hb]at h;simp only[gP,au]at h;exact⟨_,jE,h⟩
   |false=>
    rw[hb]at h
    obtain⟨q,h1,h2⟩:=ih h
    exact⟨q,jD _ h1,h2⟩
theorem ap1{l m:List AV}{vs us:List Value}(h1:iP cx Z J F w l vs)(h2:iP cx Z J F w m us):iP cx Z J F w (l++m) (vs++us):=by
 induction l generalizing vs with
 |nil=>cases vs with
  |nil=>exact h2
  |cons _ _=>exact h1.elim
 |cons x l ih=>cases vs with
  |nil=>exact h1.elim
  |cons v vs=>exact⟨h1.1,ih h1.2⟩
theorem Zv:∀{cs:List (TypeId×Dat×List Tag)} {vs:List Value},nJ cx Z J F w cs vs->iP cx Z J F w (cs.map λq=>.gq q.1 q.2.1.1 q.2.1.2 q.2.2) vs
 | [],[],_=>trivial
 |_ :: _,_ :: _,h=>⟨h.1,Zv h.2⟩
 | [],_ :: _,h=>h.elim
 |_ :: _,[],h=>h.elim
theorem Zq(hC:xQ P n hi)(H:Rel cx Z J F a w){c:Call}(ho:o.op=.call c)(hdn:∀d,o.dst=some d->d<cx.nt)(h:(Nk hi n o.dst c λws=>(.ret ws:Prog (List Wr))).ends Z ws):Pk P cx o a w (aL ws Z):=by
 intro K Q hK
 unfold Nk at h
 split at h
 ·rename_i f anS
  obtain⟨fv,h1,h2,h⟩:=jN H h
  cases fv with
  |fn f' caps=>
   simp only at h
   obtain⟨us,e1,e2⟩:=h1
   obtain⟨l,h3,h4,h⟩:=xx H h
   cases hf:Aa f' (o.dst.getD 0) hi.calls with
   |none=>rw[hf]at h;exact h.elim
   |some E=>
    rw[hf]at h
    simp only at h
    rcases bF h with⟨hb,h9⟩|⟨_,h⟩
    ·have hEf:E.f=f':=bD hb
     clear h
     subst hEf
     obtain⟨q,hq,rfl⟩:=amT hf
     have hcall:=ak2 (hC q hq) H (ap1 h3 (Zv e2)) (λv hv=>by
      rcases dD.1 hv with h|h
      ·exact h4 v h
      ·obtain⟨cc,hcc,rfl⟩:=fP.1 h
       exact h2 cc hcc) hdn h9
     have hargs:(c.args.toList.map a.eval++us).toArray=c.args.map a.eval++us.toArray:=by
      apply vE
      simp
     rw[hargs]at hcall
     have hrun:(execOp a.eval o).run P w=(callFunc q.2.2.f (c.args.map a.eval++us.toArray)).run P w:=by
      simp only[execOp,ho,resolve,anS,e1,Deferred.ofValue,dZ,fH,gu,invoke,Array.empty_append]
     unfold Oper.wp
     rw[hrun]
     rcases hcall with⟨g1,g2⟩|⟨v,w',g1,J',F',g2⟩
     ·rw[g1]
      refine g2.mono λe w' he=>?_
      obtain⟨v,rfl,J',F',hR⟩:=he
      exact hK _ _ _ _ hR
     ·rw[g1]
      exact hK _ _ _ _ g2
    ·exact h.elim
  |_=>exact h.elim
 ·exact h.elim
theorem aet(hT:fT P T)(hSt:wZ P T)(hC:xQ P n hi)(H:Rel cx Z J F a w)(hnt:hi.nt=cx.nt)(h:(AB T hi n o λws=>(.ret ws:Prog (List Wr))).ends Z ws):Pk P cx o a w (aL ws Z):=by
 unfold AB at h
 cases hd:o.dst with
 |none=>
  rw[hd]at h
  simp only at h
  unfold aes at h
  split at h
  ·rename_i t x v ho
   exact(al_ hT H hd ho h).toW
  ·rename_i c ho
   split at h
   ·rename_i hcb
    obtain⟨vs,h1,h2,h⟩:=xx H h
    split at h
    ·split at h
     ·rename_i ht0
      obtain⟨v,w',J',r1,r2⟩:=alJ hT H ho hcb h1 ht0 h
      refine(show dQ P cx o a w (aL ws Z)from⟨v,w',J',[],.inl r1,?_⟩).toW
      rw[hd]
      exact r2
     ·exact h.elim
    ·exact h.elim
   ·exact Zq hC H ho (by rw[hd];simp) (by rw[hd];exact h)
  ·exact h.elim
 |some d=>
  rw[hd]at h
  simp only at h
  rcases bF h with⟨hb,h⟩|⟨_,h⟩
  ·have hdn:d<cx.nt:=by
    rw[<-hnt]
    unfold Nat.blt at hb
    exact MZ hb
   rcases bF h with⟨_,h⟩|⟨_,h⟩
   ·exact(al9 hT H hd hdn h).toW
   rcases bF h with⟨_,h⟩|⟨_,h⟩
   ·exact(al7 hT H hd hdn h).toW
   unfold aer at h
   cases ho:o.op with
   |move x=>rw[ho]at h;exact(alZ H hd hdn ho h).toW
   |assign x=>rw[ho]at h;exact(alD (L:=Ot hi d) H hd hdn ho h).toW
   |pick c x y=>rw[ho]at h;exact(al3 H hd hdn ho h).toW
   |alloc t=>rw[ho]at h;exact(alz hT H hd hdn ho h).toW
   |box t x=>rw[ho]at h;exact(alG H hd hdn ho h).toW
   |build t ps=>rw[ho]at h;exact(ZQ hT H hd hdn h ho).toW
   |buildSlice t l ps=>rw[ho]at h;exact(alH (L:=Ot hi d) hT H hd hdn h ho).toW
   |load t x=>rw[ho]at h;exact(alV hT H hd hdn ho h).toW
   |nilCheck x=>rw[ho]at h;exact(al0 H hd hdn ho h).toW
   |binOp op t x y t2=>rw[ho]at h;exact(alE hT hSt H hd hdn ho h).toW
   |unOp op t x=>rw[ho]at h;exact(amb H hd hdn ho h).toW
   |convert s t x=>rw[ho]at h;exact(alL hT H hd hdn ho h).toW
   |field t x n=>rw[ho]at h;exact(alP hT H hd hdn ho h).toW
   |fieldAddr t x n=>rw[ho]at h;exact(alQ hT H hd hdn ho h).toW
   |indexAddr t x y=>rw[ho]at h;exact(alS hT H hd hdn ho h).toW
   |index t x y=>rw[ho]at h;exact(alR hT H hd hdn ho h).toW
   |extract x i=>rw[ho]at h;exact(alO H hd hdn ho h).toW
   |makeSlice t x y=>rw[ho]at h;exact(alY hT H hd hdn h ho).toW
   |makeFunc f first caps=>
    rw[ho]at h
    cases f with
    |func f=>exact(alX H hd hdn ho h).toW
    |_=>exact h.elim
   |slice t x lo hi2 mx=>rw[ho]at h;exact(al6 hT H hd hdn h ho).toW
   |call c=>
    rw[ho]at h
    simp only at h
    split at h
    ·rename_i hcb;exact(alT hT H hd hdn ho hcb h).toW
    ·rename_i hcb;exact(alC hT H hd hdn ho hcb h).toW
    ·rename_i hcb;exact(ZR (mx:=false) H hd hdn ho hcb h).toW
    ·rename_i hcb;exact(ZR (mx:=true) H hd hdn ho hcb h).toW
    ·exact Zq hC H ho (by rw[hd];intro d2 e;simp only[au]at e;subst e;exact hdn) (by rw[hd];exact h)
    ·exact h.elim
   |_=>rw[ho]at h;exact h.elim
  ·exact h.elim
end
end
section
open Go
variable [Fr]
def Prog.nY{J:Type}:Prog J->St->List Loc->J->List Loc->Prop
 |.ret a,_,l,x,l'=>x=a/\l'=l
 |.fail,_,_,_,_=>False
 |.slot n k,Z,l,x,l'=>(k (Z.slots n)).nY Z (.s n :: l) x l'
 |.root r k,Z,l,x,l'=>(k (Z.roots r)).nY Z (.r r :: l) x l'
 |.eY c _ k,Z,l,x,l'=>c/\k.nY Z l x l'
 |.br c t e,Z,l,x,l'=>(c=true/\t.nY Z l x l')\/(c=false/\e.nY Z l x l')
 |.opt _ o k,Z,l,x,l'=>∃b,o=some b/\(k b).nY Z l x l'
theorem ad5{J R:Type}(p:Prog J){Z:St}{l:List Loc}{K:J->List Loc->Option R}{r:R}(h:p.vB Z l K=some r):∃x l',p.nY Z l x l'/\K x l'=some r:=by
 induction p generalizing l with
 |ret a=>exact⟨a,l,⟨rfl,rfl⟩,h⟩
 |fail=>simp[Prog.vB]at h
 |slot n k ih=>exact ih _ h
 |root n k ih=>exact ih _ h
 |eY c d k ih=>
  simp only[Prog.vB]at h
  split at h
  ·rename_i hc
   obtain⟨x,l',h1,h2⟩:=ih h
   exact⟨x,l',⟨hc,h1⟩,h2⟩
  ·simp at h
 |br c t e rH rG=>
  simp only[Prog.vB]at h
  cases c with
  |true=>
   simp only[aQ]at h
   obtain⟨x,l',h1,h2⟩:=rH h
   exact⟨x,l',.inl ⟨rfl,h1⟩,h2⟩
  |false=>
   simp only[bg,aZ]at h
   obtain⟨x,l',h1,h2⟩:=rG h
   exact⟨x,l',.inr ⟨rfl,h1⟩,h2⟩
 |opt β o k ih=>
  simp only[Prog.vB]at h
  cases o with
  |none=>simp at h
  |some b=>
   simp only[aG]at h
   obtain⟨x,l',h1,h2⟩:=ih b h
   exact⟨x,l',⟨b,rfl,h1⟩,h2⟩
theorem ZZ{J:Type}(p:Prog J){Z:St}{l l':List Loc}{x:J}(h:p.nY Z l x l'):p.ends Z x:=by
 induction p generalizing l with
 |ret a=>exact h.1
 |fail=>exact h.elim
 |slot n k ih=>exact ih _ h
 |root n k ih=>exact ih _ h
 |eY c d k ih=>exact⟨h.1,ih h.2⟩
 |br c t e rH rG=>exact h.imp (λh=>⟨h.1,rH h.2⟩) (λh=>⟨h.1,rG h.2⟩)
 |opt β o k ih=>obtain⟨b,h1,h2⟩:=h;exact⟨b,h1,ih b h2⟩
theorem Z0{J:Type}(p:Prog J){Z:St}{x:J}(h:p.ends Z x):∀l,∃l',p.nY Z l x l':=by
 induction p with
 |ret a=>exact λl=>⟨l,h,rfl⟩
 |fail=>exact h.elim
 |slot n k ih=>exact λl=>ih _ h _
 |root n k ih=>exact λl=>ih _ h _
 |eY c d k ih=>exact λl=>(ih h.2 l).imp λ_ h'=>⟨h.1,h'⟩
 |br c t e rH rG=>
  intro l
  rcases h with h|h
  ·exact(rH h.2 l).imp λ_ h'=>.inl ⟨h.1,h'⟩
  ·exact(rG h.2 l).imp λ_ h'=>.inr ⟨h.1,h'⟩
 |opt β o k ih=>obtain⟨b,h1,h2⟩:=h;exact λl=>(ih b h2 l).imp λ_ h'=>⟨b,h1,h'⟩
theorem R5{J:Type}(p:Prog J){Z:St}{l l':List Loc}{x:J}(h:p.nY Z l x l'):∀y∈l,y∈l':=by
 induction p generalizing l with
 |ret a=>rw[h.2];exact λ_ h=>h
 |fail=>exact h.elim
 |slot n k ih=>exact λy hy=>ih _ h y (by simp[hy])
 |root n k ih=>exact λy hy=>ih _ h y (by simp[hy])
 |eY c d k ih=>exact ih h.2
 |br c t e rH rG=>rcases h with h|h;exact rH h.2;exact rG h.2
 |opt β o k ih=>obtain⟨b,h1,h2⟩:=h;exact ih b h2
def agree(Z τ:St):Loc->Prop
 |.s n=>τ.slots n=Z.slots n
 |.r n=>τ.roots n=Z.roots n
theorem ZY{J:Type}(p:Prog J){Z τ:St}{l l':List Loc}{x:J}(h:p.nY Z l x l')(ha:∀y∈l',agree Z τ y):p.nY τ l x l':=by
 induction p generalizing l with
 |ret a=>exact h
 |fail=>exact h.elim
 |slot n k ih=>
  have h':(k (Z.slots n)).nY Z (.s n :: l) x l':=h
  have:=ha (.s n) (R5 _ h' _ jE)
  show(k (τ.slots n)).nY τ _ _ _
  rw[show τ.slots n=Z.slots n from this]
  exact ih _ h
 |root n k ih=>
  have h':(k (Z.roots n)).nY Z (.r n :: l) x l':=h
  have:=ha (.r n) (R5 _ h' _ jE)
  show(k (τ.roots n)).nY τ _ _ _
  rw[show τ.roots n=Z.roots n from this]
  exact ih _ h
 |eY c d k ih=>exact⟨h.1,ih h.2⟩
 |br c t e rH rG=>exact h.imp (λh=>⟨h.1,rH h.2⟩) (λh=>⟨h.1,rG h.2⟩)
 |opt β o k ih=>obtain⟨b,h1,h2⟩:=h;exact⟨b,h1,ih b h2⟩
theorem abW{a b:Loc}:a.beq b=true↔a=b:=by
 cases a<;>cases b<;>simp[Loc.beq]
theorem ab_{x:Loc}{l:List Loc}:FD x l=true↔x∈l:=by
 induction l with
 |nil=>simp[FD]
 |cons y l ih=>
  simp only[FD,bW]
  cases h:x.beq y with
  |true=>simp[abW.1 h]
  |false=>
   have:x≠y:=λe=>by rw[e]at h;rw[(abW (a:=y) (b:=y)).2 rfl]at h;simp at h
   simp[this,ih]
theorem Y5{a b:List Loc}:Nc a b=true↔∀x∈a,x∉b:=by
 unfold Nc
 rw[eX]
 refine⟨λh x hx hb=>?_,λh x hx=>?_⟩
 ·have:=h x hx
  rw[ab_.2 hb]at this
  simp at this
 ·cases hm:FD x b with
  |false=>rfl
  |true=>exact absurd (ab_.1 hm) (h x hx)
theorem Rj(wr:Wr)(Z:St){y:Loc}(h:y≠wr.loc):agree Z (wr.app Z) y:=by
 cases wr with
 |s n a=>
  cases y with
  |s m=>exact upd_ne _ _ (λe=>h (by rw[e];rfl))
  |r m=>rfl
 |r n o=>
  cases o with
  |none=>
   cases y with
   |s m=>rfl
   |r m=>exact upd_ne _ _ (λe=>h (by rw[e];rfl))
  |some R=>
   cases y with
   |s m=>rfl
   |r m=>exact upd_ne _ _ (λe=>h (by rw[e];rfl))
theorem akt{Z τ ρ:St}{y:Loc}(h1:agree Z τ y)(h2:agree τ ρ y):agree Z ρ y:=by
 cases y with
 |s n=>exact h2.trans h1
 |r n=>exact h2.trans h1
theorem Ej:∀(ws:List Wr) (Z:St) {y:Loc},y∉ws.map Wr.loc->agree Z (aL ws Z) y
 | [],Z,y,_=>by cases y<;>rfl
 |w :: ws,Z,y,h=>by
  simp only[kZ,bW,not_or]at h
  exact akt (Rj w Z h.1) (Ej ws _ h.2)
theorem St.ext'{Z τ:St}(h:∀y,agree Z τ y):τ=Z:=by
 obtain⟨s,r⟩:=Z
 obtain⟨s',r'⟩:=τ
 have h1:s'=s:=funext λn=>h (.s n)
 have h2:r'=r:=funext λn=>h (.r n)
 subst h1
 subst h2
 rfl
theorem Y8(w:Wr)(Z τ:St):agree (w.app Z) (w.app τ) w.loc:=by
 cases w with
 |s n a=>show upd τ.slots n a n=upd Z.slots n a n;rw[upd_same,upd_same]
 |r n o=>cases o<;>(show upd _ n _ n=upd _ n _ n;rw[upd_same,upd_same])
theorem akw(w:Wr){Z τ:St}{y:Loc}(h:agree Z τ y):agree (w.app Z) (w.app τ) y:=by
 by_cases e:y=w.loc
 ·subst e;exact Y8 w Z τ
 ·have h1:=Rj w Z e
  have h2:=Rj w τ e
  cases y with
  |s n=>exact h2.trans (h.trans h1.symm)
  |r n=>exact h2.trans (h.trans h1.symm)
theorem Rc:∀(ws:List Wr) {Z τ:St} {y:Loc},agree Z τ y->agree (aL ws Z) (aL ws τ) y
 | [],_,_,_,h=>h
 |w :: ws,_,_,_,h=>Rc ws (akw w h)
theorem Y7:∀(ws:List Wr) {Z τ:St} {y:Loc},y∈ws.map Wr.loc->agree (aL ws Z) (aL ws τ) y
 | [],_,_,_,h=>by simp at h
 |w :: ws,Z,τ,y,h=>by
  simp only[kZ,bW]at h
  by_cases e:y∈ws.map Wr.loc
  ·exact Y7 ws e
  ·have e2:y=w.loc:=h.resolve_right e
   subst e2
   exact Rc ws (Y8 w Z τ)
theorem akv{u v:List Wr}(h:∀x∈u.map Wr.loc,x∉v.map Wr.loc)(Z:St):aL u (aL v Z)=aL v (aL u Z):=by
 refine St.ext' λy=>?_
 by_cases hu:y∈u.map Wr.loc
 ·have h1:agree (aL u Z) (aL v (aL u Z)) y:=Ej v _ (h y hu)
  have h2:agree (aL u Z) (aL u (aL v Z)) y:=Y7 u hu
  cases y with
  |s n=>exact h2.trans h1.symm
  |r n=>exact h2.trans h1.symm
 ·have h1:agree (aL v Z) (aL u (aL v Z)) y:=Ej u _ hu
  have h2:agree (aL v Z) (aL v (aL u Z)) y:=by
   refine Rc v ?_
   have:=Ej u Z hu
   cases y with
   |s n=>exact this
   |r n=>exact this
  cases y with
  |s n=>exact h1.trans h2.symm
  |r n=>exact h1.trans h2.symm
section
variable {P:Program}{T:bL}{hi:Hint}{n:Nat}{ops:Array Oper}
inductive yf(T:bL)(hi:Hint)(n:Nat)(ops:Array Oper)(o:Oper)(Z:St):List Wr->List Loc->Prop
 |plain (ws:List Wr) (rd:List Loc) (hg:guardOf ops o=none) (h:(AB T hi n o λws=>(.ret ws:Prog (List Wr))).nY Z [] ws rd):yf T hi n ops o Z ws rd
 |done (s:Nat) (want:Bool) (tg:List Tag) (ws:List Wr) (rd:List Loc) (hg:guardOf ops o=some (some s,want)) (hs:Z.slots s=.one (.val .bool want tg)) (h:(AB T hi n o λws=>(.ret ws:Prog (List Wr))).nY Z [.s s] ws rd):yf T hi n ops o Z ws rd
 |skip (s:Nat) (want:Bool) (hg:guardOf ops o=some (some s,want)) (hs:(∃tg,Z.slots s=.one (.val .bool (!want) tg))\/Z.slots s=.mO []) (hd:Cb hi o=true):yf T hi n ops o Z (AA o) [.s s]
theorem yf.agree{o:Oper}{Z τ:St}{ws:List Wr}{rd:List Loc}(h:yf T hi n ops o Z ws rd)(ha:∀y∈rd,Ow.agree Z τ y):yf T hi n ops o τ ws rd:=by
 cases h with
 |plain _ _ hg h=>exact .plain ws rd hg (ZY _ h ha)
 |done s want tg _ _ hg hs h=>
  have:=ha (.s s) (R5 _ h _ jE)
  exact .done s want tg ws rd hg (by rw[show τ.slots s=Z.slots s from this];exact hs) (ZY _ h ha)
 |skip s want hg hs hd=>
  have:=ha (.s s) (by simp)
  exact .skip s want hg (by rw[show τ.slots s=Z.slots s from this];exact hs) hd
theorem adW{Z:St}{s:Nat}{b:Bool}{tg:List Tag}(h:Z.slots s=.one (.val .bool b tg)):refine Z s b tg=Z:=by
 unfold refine
 have:upd Z.slots s (.one (.val .bool b tg))=Z.slots:=by
  funext m
  by_cases e:m=s
  ·subst e;rw[upd_same,h]
  ·rw[upd_ne _ _ e]
 rw[this]
theorem aao{R:Type}{o:Oper}{Z:St}{go skip:List Loc->St->Option R}{r:R}(h:guarded Z ops o go skip=some r) :
  (guardOf ops o=none/\go [] Z=some r)\/(∃s want tg,guardOf ops o=some (some s,want)/\Z.slots s=.one (.val .bool want tg)/\go [.s s] Z=some r)\/
  (∃s want,guardOf ops o=some (some s,want)/\((∃tg,Z.slots s=.one (.val .bool (!want) tg))\/Z.slots s=.mO [])/\skip [.s s] Z=some r):=by
 unfold guarded at h
 cases hg:guardOf ops o with
 |none=>rw[hg]at h;exact .inl ⟨rfl,h⟩
 |some q=>
  obtain⟨os,want⟩:=q
  rw[hg]at h
  cases os with
  |none=>simp at h
  |some s=>
   simp only at h
   refine .inr ?_
   split at h
   ·rename_i b tg hs
    cases b with
    |true=>
     simp only[aQ]at h
     rw[adW hs]at h
     cases want with
     |true=>exact .inl ⟨s,true,tg,rfl,hs,h⟩
     |false=>exact .inr ⟨s,false,rfl,.inl ⟨tg,hs⟩,h⟩
    |false=>
     simp only[bg,aZ]at h
     rw[adW hs]at h
     cases want with
     |true=>exact .inr ⟨s,true,rfl,.inl ⟨tg,hs⟩,h⟩
     |false=>exact .inl ⟨s,false,tg,rfl,hs,h⟩
   ·rename_i hs
    exact .inr ⟨s,want,rfl,.inr hs,h⟩
   ·simp at h
variable {cx:Cx}{Z:St}{J:aO}{F:List Nat}{a:Act}{w:World}
theorem Rel.skipped(H:Rel cx Z J F a w){o:Oper}(hnt:hi.nt=cx.nt)(hd:Cb hi o=true):Rel cx (aL (AA o) Z) J F (a.put o.dst undef) w:=by
 unfold AA Cb at *
 cases ho:o.dst with
 |none=>exact H
 |some d=>
  rw[ho]at hd
  have hdn:d<cx.nt:=by
   rw[<-hnt]
   have:Nat.blt d hi.nt=true:=hd
   unfold Nat.blt at this
   exact MZ this
  exact H.put hdn (λa ha=>by simp at ha) ⟨[],rfl,trivial⟩
theorem OD(hT:fT P T)(hSt:wZ P T)(hC:xQ P n hi)(H:Rel cx Z J F a w)(hnt:hi.nt=cx.nt){i:Nat}{o:Oper}(ho:ops[i]?=some o){ws:List Wr}{rd:List Loc}(h:yf T hi n ops o Z ws rd)
  {K:Act->World->Prop} {Q:Exit->Act->World->Prop} (hK:∀J' F' a' w',Rel cx (aL ws Z) J' F' a' w'->K a' w'):wpOp P ops Q i K a w:=by
 unfold wpOp
 simp only[ho]
 have abx:∀{s:Nat} {want:Bool},guardOf ops o=some (some s,want)->∃g,o.guard=some (g,want)/\(ops[g]?).bind (·.dst)=some s:=by
  intro s want hg
  unfold guardOf at hg
  cases hgd:o.guard with
  |none=>rw[hgd]at hg;simp at hg
  |some q=>
   obtain⟨g,wt⟩:=q
   rw[hgd]at hg
   simp only[au,bZ]at hg
   exact⟨g,by rw[hg.2],hg.1⟩
 have abr:∀{s:Nat} {v:Value},a.tmps.getD s undef=v->(∃b,v=.bool b)->a.tmps[s]?=some v:=by
  rintro s v h ⟨b,rfl⟩
  rw[Gi]at h
  cases hs:a.tmps[s]? with
  |none=>rw[hs]at h;simp[undef]at h
  |some u=>rw[hs]at h;simpa using h
 cases h with
 |plain _ _ hg h=>
  have hw:Region.wanted o (yielded ops a.tmps)=true:=by
   unfold Region.wanted
   unfold guardOf at hg
   cases hgd:o.guard with
   |none=>rfl
   |some q=>rw[hgd]at hg;simp at hg
  rw[aj hw]
  exact .inl (aet hT hSt hC H hnt (ZZ _ h) K Q hK)
 |done s want tg _ _ hg hs h=>
  have hw:Region.wanted o (yielded ops a.tmps)=true:=by
   obtain⟨g,h1,h2⟩:=abx hg
   unfold Region.wanted
   rw[h1]
   have hb:=H.slots s
   rw[hs]at hb
   have:=Gb (show a_ cx Z J F w (.val .bool want tg) _ from hb)
   have h3:=abr this ⟨_,rfl⟩
   show(yielded ops a.tmps g==some want)=true
   unfold yielded
   rw[h2]
   simp only[aG,h3]
   simp
  rw[aj hw]
  exact .inl (aet hT hSt hC H hnt (ZZ _ h) K Q hK)
 |skip s want hg hs hd=>
  have hw:Region.wanted o (yielded ops a.tmps)=false:=by
   obtain⟨g,h1,h2⟩:=abx hg
   unfold Region.wanted
   rw[h1]
   have hb:=H.slots s
   show(yielded ops a.tmps g==some want)=false
   unfold yielded
   rw[h2]
   rcases hs with⟨tg,hs⟩|hs
   ·rw[hs]at hb
    have:=Gb (show a_ cx Z J F w (.val .bool (!want) tg) _ from hb)
    have h3:=abr this ⟨_,rfl⟩
    simp only[aG,h3]
    cases want<;>rfl
   ·rw[hs]at hb
    obtain⟨vs,h3,h4⟩:=hb
    cases vs with
    |cons _ _=>exact h4.elim
    |nil=>
     rw[Gi]at h3
     simp only[aG]
     cases hs2:a.tmps[s]? with
     |none=>rfl
     |some u=>
      rw[hs2]at h3
      simp only[tX]at h3
      subst h3
      rfl
  rw[aC (by rw[hw];simp)]
  exact hK _ _ _ _ (H.skipped hnt hd)
theorem amJ(hT:fT P T)(hSt:wZ P T)(hC:xQ P n hi)(hnt:hi.nt=cx.nt){R:Type}{K:St->Option R}{r:R}{Q:Exit->Act->World->Prop}(hQ:∀Z' J' F' a' w',K Z'=some r->Rel cx Z' J' F' a' w'->Q .normal a' w') :
  ∀(l:List Oper) (i:Nat) {Z:St} {J:aO} {F:List Nat} {a:Act} {w:World},ops.toList.drop i=l->IZ T hi n ops l Z K=some r->Rel cx Z J F a w->wpOps P ops Q (List.range' i l.length) a w:=by
 intro l
 induction l with
 |nil=>intro i Z J F a w _ h H;exact hQ _ _ _ _ _ h H
 |cons o l ih=>
  intro i Z J F a w hl h H
  have hoi:ops[i]?=some o:=by
   have:=congrArg (λl=>l[0]?) hl
   simpa using this
  have hl':ops.toList.drop (i+1)=l:=by
   have:=congrArg List.tail hl
   simpa using this
  simp only[gF,List.range'_succ]
  rw[wpOps_cons]
  unfold IZ at h
  rcases aao h with⟨hg,h⟩|⟨s,want,tg,hg,hs,h⟩|⟨s,want,hg,hs,h⟩
  ·obtain⟨ws,h1,h2⟩:=Az _ h
   obtain⟨rd,h3⟩:∃rd,(AB T hi n o λws=>(.ret ws:Prog (List Wr))).nY Z [] ws rd:=Z0 _ h1 []
   exact OD hT hSt hC H hnt hoi (.plain ws rd hg h3) (λJ' F' a' w' H'=>ih (i+1) hl' h2 H')
  ·obtain⟨ws,h1,h2⟩:=Az _ h
   obtain⟨rd,h3⟩:∃rd,(AB T hi n o λws=>(.ret ws:Prog (List Wr))).nY Z [.s s] ws rd:=Z0 _ h1 _
   exact OD hT hSt hC H hnt hoi (.done s want tg ws rd hg hs h3) (λJ' F' a' w' H'=>ih (i+1) hl' h2 H')
  ·cases hd:Cb hi o with
   |false=>rw[hd]at h;simp at h
   |true=>
    rw[hd]at h
    exact OD hT hSt hC H hnt hoi (.skip s want hg hs hd) (λJ' F' a' w' H'=>ih (i+1) hl' h H')
end
end
section
open Go
variable [Fr]
section
variable {P:Program}{T:bL}{hi:Hint}{n:Nat}{ops:Array Oper}{cx:Cx}{Z:St}{J:aO}{F:List Nat}{a:Act}{w:World}
structure Ev where
 i:Nat
 ws:List Wr
 rd:List Loc
def Ev.wr(e:Ev):List Loc:=e.ws.map Wr.loc
def Dc(ops:Array Oper)(j i:Nat):Prop:=leads ops 7 j i=true
theorem abN{ops:Array Oper}:∀{f:Nat} {j i:Nat},leads ops f j i=true->leads ops (f+1) j i=true
 |0,_,_,h=>by simp[leads]at h
 |f+1,j,i,h=>by
  unfold leads at h ⊢
  simp only[oD,List.any_eq_true,bB]at h ⊢
  rcases h with h|⟨b,hb,h1,h2⟩
  ·exact .inl h
  ·exact .inr ⟨b,hb,h1,abN h2⟩
theorem abO{ops:Array Oper}{L:Nat->Prop}(hcl:∀b,L b->∀c∈binders ops b,L c):∀{f:Nat} {j i:Nat},leads ops f j i=true->(∀c∈binders ops i,L c)->L j
 |0,_,_,h,_=>by simp[leads]at h
 |f+1,j,i,h,hi=>by
  unfold leads at h
  simp only[oD,List.any_eq_true,bB]at h
  rcases h with h|⟨b,hb,_,h2⟩
  ·exact hi j (dh.1 h)
  ·exact abO hcl h2 (hcl b (hi b hb))
def Ic(e e':Ev):Prop:=(∀x∈e.wr,x∉e'.rd++e'.wr)/\∀x∈e.rd,x∉e'.wr
def zb(T:bL)(hi:Hint)(n:Nat)(ops:Array Oper):List Ev->St->St->Prop
 | [],Z,τ=>τ=Z
 |e :: l,Z,τ=>(∃o,ops[e.i]?=some o/\yf T hi n ops o Z e.ws e.rd)/\zb T hi n ops l (aL e.ws Z) τ
def D7(ops:Array Oper):List Ev->Prop
 | []=>True
 |e :: l=>(∀e'∈l,Dc ops e.i e'.i\/Ic e e')/\D7 ops l
theorem ald{e e':Ev}{l:List Ev}{τ:St}(hi':Ic e e')(h:zb T hi n ops (e :: e' :: l) Z τ):zb T hi n ops (e' :: e :: l) Z τ:=by
 obtain⟨⟨o,ho,h1⟩,⟨o',ho',h2⟩,h3⟩:=h
 have ha:∀y∈e'.rd,Ow.agree (aL e.ws Z) Z y:=by
  intro y hy
  have:=Ej e.ws Z (y:=y) (λhm=>hi'.1 y hm (bQ _ hy))
  cases y with
  |s n=>exact this.symm
  |r n=>exact this.symm
 have hb:∀y∈e.rd,Ow.agree Z (aL e'.ws Z) y:=λy hy=>Ej e'.ws Z (hi'.2 y hy)
 refine⟨⟨o',ho',h2.agree ha⟩,⟨o,ho,h1.agree hb⟩,?_⟩
 rw[akv (u:=e.ws) (v:=e'.ws) (λx hx hx'=>hi'.1 x hx (bH _ hx'))]
 exact h3
theorem alc{e:Ev}{l:List Ev}:∀{pre:List Ev} {Z τ:St},(∀x∈pre,Ic x e)->zb T hi n ops (pre++e :: l) Z τ->zb T hi n ops (e :: (pre++l)) Z τ:=by
 intro pre
 induction pre with
 |nil=>intro Z τ _ h;exact h
 |cons x pre ih=>
  intro Z τ hx h
  refine ald (hx x (by simp)) ?_
  obtain⟨h1,h2⟩:=h
  exact⟨h1,ih (λy hy=>hx y (by simp[hy])) h2⟩
theorem aqW{e:Ev}{l:List Ev}:∀{pre:List Ev},D7 ops (pre++e :: l)->D7 ops (pre++l)/\∀x∈pre,Dc ops x.i e.i\/Ic x e:=by
 intro pre
 induction pre with
 |nil=>intro h;exact⟨h.2,by simp⟩
 |cons x pre ih=>
  intro h
  obtain⟨g1,g2⟩:=ih h.2
  refine⟨⟨λe' he'=>h.1 e' ?_,g1⟩,λy hy=>?_⟩
  ·rcases dD.1 he' with h|h
   ·exact bQ _ h
   ·exact bH _ (jD _ h)
  ·rcases bW.1 hy with h'|h'
   ·subst h';exact h.1 e (by simp)
   ·exact g2 y h'
theorem amg{e:Eff}{l:List Eff}(h:zX ops e l=true):(∀b∈binders ops e.i,b<e.i)/\∀b∈l,Dc ops b.i e.i\/((∀x∈b.wr,x∉e.rd++e.wr)/\∀x∈b.rd,x∉e.wr):=by
 unfold zX at h
 simp only[bB,eX]at h
 refine⟨λb hb=>?_,λb hb=>?_⟩
 ·have:=h.1 b hb
  unfold Nat.blt at this
  exact MZ this
 ·have:=h.2 b hb
  rw[oD,oD,bB]at this
  rcases this with h1|⟨h1,h2⟩|h1
  ·exact .inl (by unfold Dc leads;rw[h1];rfl)
  ·exact .inr ⟨Y5.1 h1,Y5.1 h2⟩
  ·exact .inl (abN h1)
theorem amH{R:Type}{K:St->Option R}{r:R}:∀(l:List Oper) (i:Nat) (es:List Eff) {Z:St},ops.toList.drop i=l->Cg T hi n ops l i es Z K=some r->
  ∃(evs:List Ev) (τ:St),K τ=some r/\zb T hi n ops evs Z τ/\D7 ops evs/\evs.map (·.i)=List.range' i l.length/\(∀e∈evs,∀b∈binders ops e.i,b<e.i)/\
   ∀e∈evs,∀b∈es,Dc ops b.i e.i\/((∀x∈b.wr,x∉e.rd++e.wr)/\∀x∈b.rd,x∉e.wr):=by
 intro l
 induction l with
 |nil=>intro i es Z _ h;exact⟨[],Z,h,rfl,trivial,rfl,by simp,by simp⟩
 |cons o l ih=>
  intro i es Z hl h
  have hoi:ops[i]?=some o:=by
   have:=congrArg (λl=>l[0]?) hl
   simpa using this
  have hl':ops.toList.drop (i+1)=l:=by
   have:=congrArg List.tail hl
   simpa using this
  have step:∀{ws:List Wr} {rd:List Loc},yf T hi n ops o Z ws rd->zX ops ⟨i,rd,ws.map Wr.loc⟩ es=true->Cg T hi n ops l (i+1) (⟨i,rd,ws.map Wr.loc⟩ :: es) (aL ws Z) K=some r->
    ∃(evs:List Ev) (τ:St),K τ=some r/\zb T hi n ops evs Z τ/\D7 ops evs/\evs.map (·.i)=List.range' i (l.length+1)/\(∀e∈evs,∀b∈binders ops e.i,b<e.i)/\
     ∀e∈evs,∀b∈es,Dc ops b.i e.i\/((∀x∈b.wr,x∉e.rd++e.wr)/\∀x∈b.rd,x∉e.wr):=by
   intro ws rd hab hok h
   obtain⟨evs,τ,g1,g2,g3,g4,g5,g6⟩:=ih (i+1) _ hl' h
   obtain⟨k1,k2⟩:=amg hok
   refine⟨⟨i,ws,rd⟩ :: evs,τ,g1,⟨⟨o,hoi,hab⟩,g2⟩,⟨λe' he'=>?_,g3⟩,?_,?_,?_⟩
   ·exact g6 e' he' ⟨i,rd,ws.map Wr.loc⟩ (by simp)
   ·rw[List.range'_succ,kZ,g4]
   ·intro e he
    rcases bW.1 he with h|h
    ·subst h;exact k1
    ·exact g5 e h
   ·intro e he b hb
    rcases bW.1 he with h|h
    ·subst h;exact k2 b hb
    ·exact g6 e h b (by simp[hb])
  simp only[gF]
  unfold Cg at h
  rcases aao h with⟨hg,h⟩|⟨s,want,tg,hg,hs,h⟩|⟨s,want,hg,hs,h⟩
  ·obtain⟨ws,rd,h1,h2⟩:=ad5 _ h
   cases hok:zX ops ⟨i,rd,ws.map Wr.loc⟩ es with
   |false=>rw[hok]at h2;simp at h2
   |true=>rw[hok]at h2;exact step (.plain ws rd hg h1) hok h2
  ·obtain⟨ws,rd,h1,h2⟩:=ad5 _ h
   cases hok:zX ops ⟨i,rd,ws.map Wr.loc⟩ es with
   |false=>rw[hok]at h2;simp at h2
   |true=>rw[hok]at h2;exact step (.done s want tg ws rd hg hs h1) hok h2
  ·cases hok:(Cb hi o&&zX ops ⟨i,[.s s],(AA o).map Wr.loc⟩ es)with
   |false=>rw[hok]at h;simp at h
   |true=>
    rw[hok]at h
    rw[bB]at hok
    exact step (.skip s want hg hs hok.1) hok.2 h
theorem alb(hT:fT P T)(hSt:wZ P T)(hC:xQ P n hi)(hnt:hi.nt=cx.nt){Q:Exit->Act->World->Prop}{τ:St}(hQ:∀J' F' a' w',Rel cx τ J' F' a' w'->Q .normal a' w') :
  ∀(m:Nat) (evs:List Ev) (listed:Array Bool) {Z:St} {J:aO} {F:List Nat} {a:Act} {w:World},evs.length=m->zb T hi n ops evs Z τ->D7 ops evs->(evs.map (·.i)).Pairwise (· < ·)->(∀e∈evs,∀b∈binders ops e.i,b<e.i)->
   listed.size=ops.size->(∀j,j<ops.size->(listed.getD j false=false↔j∈evs.map (·.i)))->(∀e∈evs,e.i<ops.size)->(∀b,listed.getD b false=true->∀c∈binders ops b,listed.getD c false=true)->Rel cx Z J F a w->wpAny P .any ops Q m listed a w:=by
 intro m
 induction m with
 |zero=>
  intro evs listed Z J F a w hl hc _ _ _ hsz hlist _ _ H
  have:evs=[]:=tV hl
  subst this
  have hc':τ=Z:=hc
  subst hc'
  refine⟨?_,hQ _ _ _ _ H⟩
  cases hr:Region.ready .any ops listed with
  |nil=>rfl
  |cons j l=>
   have hj:j∈Region.ready .any ops listed:=by rw[hr];simp
   obtain⟨h0,o,ho,_⟩:=mem_ready.1 hj
   have hlt:=(Array.getElem?_eq_some_iff.1 ho).1
   have:listed.getD j false=false:=by
    have hj2:j<listed.size:=by omega
    simp[hj2]at h0 ⊢
    exact h0
   exact absurd ((hlist j hlt).1 this) (by simp)
 |succ m ih=>
  intro evs listed Z J F a w hl hc hp hsort hbind hsz hlist hlt hcl H
  refine⟨λhr=>?_,λj hj=>?_⟩
  ·
   exfalso
   cases evs with
   |nil=>simp at hl
   |cons e evs=>
    obtain⟨⟨o,ho,_⟩,_⟩:=hc
    have he:e.i∈Region.ready .any ops listed:=by
     rw[mem_ready]
     have hei:=hlt e (by simp)
     have hun:=(hlist e.i hei).2 (by simp)
     refine⟨?_,o,ho,λq hq hb=>?_⟩
     ·have hj2:e.i<listed.size:=by omega
      simp[hj2]at hun ⊢
      exact hun
     ·have hm:q.on∈binders ops e.i:=by
       unfold binders
       rw[ho]
       simp only[tX,fP,eH]
       exact⟨q,⟨Array.mem_toList_iff.2 hq,hb⟩,rfl⟩
      have hlt2:=hbind e (by simp) q.on hm
      cases hb2:listed.getD q.on false with
      |true=>rfl
      |false=>
       have:=(hlist q.on (by omega)).1 hb2
       simp only[kZ,bW]at this
       rcases this with h|h
       ·omega
       ·have hlt3:e.i<q.on:=by simpa using (List.pairwise_cons.1 hsort).1 q.on h
        omega
    rw[hr]at he
    simp at he
  ·obtain⟨h0,o,ho,hall⟩:=mem_ready.1 hj
   have hjlt:=(Array.getElem?_eq_some_iff.1 ho).1
   have hj2:j<listed.size:=by omega
   have hun:listed.getD j false=false:=by
    simp[hj2]at h0 ⊢
    exact h0
   have hjm:=(hlist j hjlt).1 hun
   obtain⟨e,he,hej⟩:=fP.1 hjm
   obtain⟨pre,post,hsplit⟩:=List.append_of_mem he
   subst hsplit
   subst hej
   obtain⟨p1,p2⟩:=aqW hp
   have hle:∀c∈binders ops e.i,listed.getD c false=true:=by
    intro c h
    unfold binders at h
    rw[ho]at h
    simp only[tX,fP,eH]at h
    obtain⟨q,⟨hq,hb⟩,hon⟩:=h
    rw[<-hon]
    exact hall q (Array.mem_toList_iff.1 hq) hb
   have hpre:∀x∈pre,Ic x e:=by
    intro x hx
    rcases p2 x hx with h|h
    ·exfalso
     have hl2:=abO (L:=λb=>listed.getD b false=true) hcl h hle
     have hxi:=hlt x (by simp[hx])
     have:=(hlist x.i hxi).2 (by simp only[q9,dD,fP];exact .inl ⟨x,hx,rfl⟩)
     rw[hl2]at this
     simp at this
    ·exact h
   have hc2:=alc hpre hc
   obtain⟨⟨o',ho',hab⟩,hc3⟩:=hc2
   rw[ho]at ho'
   simp only[au]at ho'
   subst ho'
   have abo:(pre.map (·.i)++e.i :: post.map (·.i)).Pairwise (· < ·):=by simpa using hsort
   have hsub:(pre++post).Sublist (pre++e :: post):=QI (List.sublist_cons_self _ _) _
   refine OD hT hSt hC H hnt ho hab (λJ' F' a' w' H'=>?_)
   refine ih (pre++post) (listed.setIfInBounds e.i true) (by simp at hl ⊢;omega) hc3 p1 (hsort.sublist (hsub.map _)) (λx hx=>hbind x (hsub.subset hx)) (by simpa using hsz) (λk hk=>?_) (λx hx=>hlt x (hsub.subset hx)) ?_ H'
   rotate_left
   ·intro b hb c hc4
    have hset:∀k,listed.getD k false=true->(listed.setIfInBounds e.i true).getD k false=true:=λk hk=>by
     by_cases hke:k=e.i
     ·subst hke;simp[hj2]
     ·rw[getD_set_ne false (Ne.symm hke)];exact hk
    by_cases hbe:b=e.i
    ·subst hbe;exact hset c (hle c hc4)
    ·rw[getD_set_ne false (Ne.symm hbe)]at hb
     exact hset c (hcl b hb c hc4)
   have hnot:e.i∉(pre++post).map (·.i):=by
    intro hm
    rw[q9,dD]at hm
    rcases hm with h|h
    ·have:=(QO.1 abo).2.2 e.i h e.i (by simp)
     omega
    ·have:=(List.pairwise_cons.1 (QO.1 abo).2.1).1 e.i h
     omega
   by_cases hke:k=e.i
   ·subst hke
    constructor
    ·intro h
     exfalso
     simp[hj2]at h
    ·intro h;exact absurd h hnot
   ·rw[getD_set_ne false (Ne.symm hke),hlist k hk]
    simp only[q9,kZ,dD,bW]
    constructor
    ·rintro(h|h|h)
     ·exact .inl h
     ·exact absurd h hke
     ·exact .inr h
    ·rintro(h|h)
     ·exact .inl h
     ·exact .inr (.inr h)
theorem amI(hT:fT P T)(hSt:wZ P T)(hC:xQ P n hi)(hnt:hi.nt=cx.nt){R:Type}{K:St->Option R}{r:R}{Q:Exit->Act->World->Prop}(hQ:∀Z' J' F' a' w',K Z'=some r->Rel cx Z' J' F' a' w'->Q .normal a' w')
  (h:Cg T hi n ops ops.toList 0 [] Z K=some r) (H:Rel cx Z J F a w):wpAny P .any ops Q ops.size (Array.replicate ops.size false) a w:=by
 obtain⟨evs,τ,h1,h2,h3,h4,h5,_⟩:=amH ops.toList 0 [] (by simp) h
 rw[Pe,<-List.range_eq_range']at h4
 refine alb hT hSt hC hnt (λJ' F' a' w' H'=>hQ _ _ _ _ _ h1 H') ops.size evs _ ?_ h2 h3 ?_ h5 (by simp) (λj hj=>?_) (λe he=>?_) (λb hb=>?_) H
 rotate_left 4
 ·exfalso;by_cases hbs:b<ops.size<;>simp[hbs]at hb
 ·have:=congrArg List.length h4;simpa using this
 ·rw[h4];exact List.pairwise_lt_range
 ·rw[h4];simp[hj]
 ·have:e.i∈evs.map (·.i):=fP.2 ⟨e,he,rfl⟩
  rw[h4]at this
  exact List.mem_range.1 this
end
end
section
open Go
variable [Fr]
abbrev BI:=List (Nat×K×List TypeId×List TypeId)
structure QU(cx:Cx)(f_:BI):Prop where
 par:∀j pi,cx.par j=some pi->(pi.kp=true\/∃q,pi.base=some q)->∃q,oN (aa j) f_=some q
 ptr:∀j p ts v,cx.ptrs j p ts v->∃k l,oN (aa j) f_=some (k,l)/\ts=iL p k
 ref:∀j v,cx.refs j v->∃q,oN (aa j) f_=some q
theorem zR{A:Type}{b:Bool}{x:Option A}{d:A}(h:(bif b then x else none)=some d):b=true/\x=some d:=by
 cases b with
 |true=>exact⟨rfl,h⟩
 |false=>exact absurd h (by simp)
def o9.CJ:o9->List Nat
 |.val _ ids=>ids
 |.gq _ _ ids=>ids
 |.fn _ caps=>caps.flatMap λc=>c.2.2
 |_=>[]
def qh(rs:List Nat)(i:Nat):Prop:=gZ i=true\/i∈rs
structure rz(Z:St)(f_:BI)(rs:List Nat)(r:Nat)(R R':Root):Prop where
 live:aX Z r R
 valid:dF Z R
 form:∃ow tg ew eh,R'={ R with own:=ow,tags:=tg,w:=[],h:=[],g:=0,ew:=ew,eh:=eh }/\(∀t∈R.k.tys,ah t ow=ah t R.own)
 tags:∀t∈R.tags,qh rs t.1->(t.1,0)∈R'.tags
 aeA:∀t∈R'.tags,t.2=0/\qh rs t.1/\t.1≠r
 log:∀k wt ht,oN r f_=some (k,wt,ht)->R.k=k/\R'.ew=wt/\R'.eh=ht/\(∀t∈R.w,t∈wt)/\(∀t∈R.ew,t∈wt)/\(∀t∈R.h,t∈ht)/\(∀t∈R.eh,t∈ht)/\R.g=0
structure p9(Z:St)(f_:BI)(rs:List Nat)(Z':St):Prop where
 roots:∀r R',Z'.roots r=some R'->r∈rs/\gZ r=false/\∃R,rz Z f_ rs r R R'
 made:∀r∈rs,∃R',Z'.roots r=some R'
 slots:∀s,Z'.slots s=.one .undef\/∃sh av d,Z.slots s=.one av/\um Z rs sh av=some d/\Z'.slots s=.one (JY sh d)/\∀i∈sh.CJ,qh rs i
 f_:∀r q,oN r f_=some q->r∈rs
theorem Fx{rs:List Nat}:∀{l:List Tag} {r:Nat},r∈mD rs l↔(∃n,(r,n)∈l)/\qh rs r
 | [],r=>by simp[mD]
 |(q,m) :: l,r=>by
  have ih:=Fx (rs:=rs) (l:=l) (r:=r)
  unfold mD
  cases hb:(gZ q||ah q rs) && !ah q (mD rs l)with
  |true=>
   simp only[gP,bW]
   simp only[bB,oD,dh]at hb
   constructor
   ·rintro(h|h)
    ·subst h
     exact⟨⟨m,.inl rfl⟩,hb.1⟩
    ·obtain⟨⟨n,hn⟩,h2⟩:=ih.1 h
     exact⟨⟨n,.inr hn⟩,h2⟩
   ·rintro⟨⟨n,h|h⟩,h2⟩
    ·exact .inl (by simpa using congrArg Prod.fst h)
    ·exact .inr (ih.2 ⟨⟨n,h⟩,h2⟩)
  |false=>
   simp only[jV]
   constructor
   ·intro h
    obtain⟨⟨n,hn⟩,h2⟩:=ih.1 h
    exact⟨⟨n,.tail _ hn⟩,h2⟩
   ·rintro⟨⟨n,h⟩,h2⟩
    rcases bW.1 h with h|h
    ·have e:r=q:=by simpa using congrArg Prod.fst h
     subst e
     cases hm:ah r (mD rs l)with
     |true=>exact dh.1 hm
     |false=>
      exfalso
      rw[hm]at hb
      simp only[jf,Bool.and_true,za]at hb
      rcases h2 with h2|h2
      ·rw[hb.1]at h2;simp at h2
      ·rw[dh.2 h2]at hb;simp at hb
    ·exact ih.2 ⟨⟨n,h⟩,h2⟩
section
variable {P:Program}{T:bL}{cx:Cx}{Z Z':St}{J:aO}{F:List Nat}{a:Act}{w:World}{f_:BI}{rs:List Nat}
theorem rz.kind{r:Nat}{R R':Root}(h:rz Z f_ rs r R R'):R'.kind=R.kind/\R'.k=R.k/\R'.w=[]/\R'.h=[]/\R'.g=0/\R'.cZ=R.cZ:=by
 obtain⟨ow,tg,ew,eh,rfl,_⟩:=h.form
 exact⟨rfl,rfl,rfl,rfl,rfl,rfl⟩
theorem rz.blk{r:Nat}{R R':Root}(h:rz Z f_ rs r R R'):blk J R' r=blk J R r/\aS J R' r=aS J R r:=by
 have hk:=h.kind.1
 unfold Ow.blk aS
 rw[hk]
 exact⟨rfl,rfl⟩
theorem p9.bK(hB:p9 Z f_ rs Z'){U U':List Tag}(hU:∀t∈U,qh rs t.1->∃n,(t.1,n)∈U'){b:Nat}(h:bK cx Z J F w U b):bK cx Z' J F w U' b:=by
 obtain⟨h1,h2,h3,h4,h5⟩:=h
 refine⟨h1,h2,h3,λr R' hr hb=>?_,λhlt=>?_⟩
 ·obtain⟨g1,g2,R,g3⟩:=hB.roots r R' hr.1
  rw[g3.blk.1]at hb
  obtain⟨n,hn⟩:=h4 r R g3.live hb
  exact hU _ hn (.inr g1)
 ·rcases h5 hlt with⟨j,n,g1,g2⟩|h
  ·obtain⟨n',hn'⟩:=hU _ g1 (.inl (uY j))
   exact .inl ⟨j,n',hn',g2⟩
  ·exact .inr h
theorem p9.mH(hB:p9 Z f_ rs Z'){U U':List Tag}(hU:∀t∈U,qh rs t.1->∃n,(t.1,n)∈U'){b:Nat}(h:mH Z J F w U b):mH Z' J F w U' b:=by
 obtain⟨h1,h2,h4⟩:=h
 refine⟨h1,h2,λr R' hr hb=>?_⟩
 obtain⟨g1,g2,R,g3⟩:=hB.roots r R' hr.1
 rw[g3.blk.1]at hb
 obtain⟨n,hn⟩:=h4 r R g3.live hb
 exact hU _ hn (.inr g1)
theorem OY{tags:List Tag}{ids:List Nat}(h:iM (mD rs tags) ids=true):∀t∈tags,qh rs t.1->∃n,(t.1,n)∈ids.map λr=>((r,0):Tag):=by
 intro t ht hi
 refine⟨0,fP.2 ⟨t.1,rT.1 h _ (Fx.2 ⟨⟨t.2,ht⟩,hi⟩),rfl⟩⟩
theorem p9.gB(hB:p9 Z f_ rs Z'){ids:List Nat}(h:∀i∈ids,qh rs i):gB Z' (ids.map λr=>((r,0):Tag)):=by
 intro t ht
 obtain⟨i,h1,rfl⟩:=fP.1 ht
 rcases h i h1 with h|h
 ·exact .inl h
 ·obtain⟨R',hR⟩:=hB.made i h
  exact .inr ⟨R',hR,.inr (fQ _)⟩
theorem p9.ro(hB:p9 Z f_ rs Z'){bt:TypeId}{k:K}{x:El k}{tags:List Tag}{ids:List Nat}{v:Value}(hs:iM (mD rs tags) ids=true)(hc:dG Z (bt :: k.tys) tags=true)(hE:EB bt ids=true)
  (h:wJ cx Z J F w bt k x tags v):wJ cx Z' J F w bt k x (ids.map λr=>((r,0):Tag)) v:=by
 obtain⟨h1,h2⟩:=h
 obtain⟨b,o,cs,e1,e2,e3,e4,e5⟩:=h2 hc
 refine⟨h1,λ_=>⟨b,o,cs,e1,e2,lJ (λ_ _=>rfl) (λb hb=>hB.bK (OY hs) hb) e3,hB.mH (OY hs) e4,?_⟩⟩
 rcases e5 with⟨g1,g2⟩|h
 ·refine .inl ⟨g1,λt ht=>?_⟩
  obtain⟨i,h1,rfl⟩:=fP.1 ht
  unfold EB at hE
  rw[g1]at hE
  simp only[show Nat.beq SENT SENT=true from rfl,fK,Gj,eX]at hE
  exact hE i h1
 ·exact .inr h
theorem p9.caps(hB:p9 Z f_ rs Z'):∀{cs:List (TypeId×K×List Nat)} {l:List (TypeId×Dat×List Tag)} {d:Cont (BX cs)} {vs:List Value},yB Z rs cs l=some d->(∀i∈cs.flatMap (λc=>c.2.2),qh rs i)->nJ cx Z J F w l vs->
  nJ cx Z' J F w (JZ cs d) vs/\∀c∈JZ cs d,Ow.gB Z' c.2.2
 | [],[],_,[],_,_,_=>⟨trivial,by intro c hc;exact absurd hc (by simp[JZ])⟩
 | [],_ :: _,_,_,h,_,_=>by simp[yB]at h
 |_ :: _,[],_,_,h,_,_=>by simp[yB]at h
 | [],[],_,_ :: _,_,_,h=>h.elim
 |_ :: _,_ :: _,_,[],_,_,h=>h.elim
 |(t,k,ids) :: cs,(t',d,tags) :: l,c,v :: vs,h,hi,hv=>by
  simp only[yB]at h
  cases hb:Nat.beq t t'&&dG Z (t :: k.tys) tags&&iM (mD rs tags) ids&&EB t ids with
  |false=>rw[hb]at h;simp at h
  |true=>
   rw[hb]at h
   simp only[gP]at h
   simp only[bB]at hb
   obtain⟨⟨⟨b1,b2⟩,b3⟩,b4⟩:=hb
   have:=bD b1
   subst this
   cases hck:b_ d.1 k d.2 with
   |none=>rw[hck]at h;simp at h
   |some x=>
    rw[hck]at h
    cases hcs:yB Z rs cs l with
    |none=>rw[hcs]at h;simp at h
    |some y=>
     rw[hcs]at h
     have h2:((x,y):Cont (BX ((t,k,ids) :: cs)))=c:=jc h
     subst h2
     obtain⟨dk,dx⟩:=d
     obtain⟨e,ex⟩:=ji hck
     simp only at e
     subst e
     simp only at ex
     subst ex
     have NN:∀i∈ids,qh rs i:=λi h=>hi i (by simp[h])
     obtain⟨g1,g2⟩:=hB.caps (vs:=vs) hcs (λi h=>hi i (by
      rw[mP];exact bH _ h)) hv.2
     refine⟨⟨hB.ro b3 b2 b4 hv.1,g1⟩,λq hq=>?_⟩
     rcases bW.1 hq with h|h
     ·subst h;exact hB.gB NN
     ·exact g2 q h
theorem p9.av(H:Rel cx Z J F a w)(hB:p9 Z f_ rs Z'){sh:o9}{av:AV}{d:Cont sh.ks}{v:Value}(hct:um Z rs sh av=some d)(hi:∀i∈sh.CJ,qh rs i)(hv:a_ cx Z J F w av v) :
  a_ cx Z' J F w (JY sh d) v/\dV Z' (JY sh d):=by
 cases sh with
 |undef=>exact⟨trivial,trivial⟩
 |val k ids=>
  cases av with
  |val k' x tags=>
   simp only[um]at hct
   cases hb:dG Z k.tys tags&&iM (mD rs tags) ids with
   |false=>rw[hb]at hct;simp at hct
   |true=>
    rw[hb]at hct
    simp only[gP]at hct
    simp only[bB]at hb
    cases hck:b_ k' k x with
    |none=>rw[hck]at hct;simp at hct
    |some y=>
     rw[hck]at hct
     have h2:((y,()):Cont (o9.val k ids).ks)=d:=jc hct
     subst h2
     obtain⟨e,ex⟩:=ji hck
     subst e
     simp only at ex
     subst ex
     refine⟨λ_=>?_,hB.gB hi⟩
     obtain⟨cs,g1,g2⟩:=hv (.inr hb.1)
     exact⟨cs,g1,lJ (λ_ _=>rfl) (λb hb2=>hB.bK (OY hb.2) hb2) g2⟩
  |_=>simp[um]at hct
 |fZ=>
  cases av with
  |fZ=>
   exact⟨hv,trivial⟩
  |_=>simp[um]at hct
 |ref r=>
  cases av with
  |ref r' g=>
   obtain⟨hb,_⟩:=zR (show(bif Nat.beq r r'&&ah r rs&&(match Z.roots r with|some R=>Nat.beq R.g g|none=>false)then some ()else none)=some d from hct)
   simp only[bB]at hb
   obtain⟨⟨b1,b2⟩,b3⟩:=hb
   have:=bD b1
   subst this
   obtain⟨R',hR'⟩:=hB.made r (dh.1 b2)
   refine⟨λQ hQ _=>?_,R',hR',.inr (fQ _)⟩
   obtain⟨_,_,R,g3⟩:=hB.roots r Q hQ.1
   rw[g3.live.1]at b3
   obtain⟨f1,f2⟩:=hv R g3.live (bD b3)
   obtain⟨k1,k2,_⟩:=g3.kind
   exact⟨k1.trans f1,by rw[k2];exact f2⟩
  |_=>simp[um]at hct
 |ptr r p=>
  cases av with
  |ptr r' q n=>
   obtain⟨hb,S9⟩:=zR (A:=Cont (aD.into 0 p).kin) (x:=idxOf p q) (show(bif Nat.beq r r'&&ah r rs&&(match Z.roots r with|some R=>clean R.h n (iL q R.k)|none=>false)then idxOf p q else none)=some d from hct)
   simp only[bB]at hb
   obtain⟨⟨b1,b2⟩,b3⟩:=hb
   have:=bD b1
   subst this
   have hpq:=N_ S9
   obtain⟨R',hR'⟩:=hB.made r (dh.1 b2)
   show a_ cx Z' J F w (.ptr r (pathOf p d) 0) v/\dV Z' (.ptr r (pathOf p d) 0)
   rw[hpq]
   refine⟨⟨hv.1,λQ hQ oW _ hpt hg=>?_⟩,R',hR',.inr (fQ _)⟩
   obtain⟨_,_,R,g3⟩:=hB.roots r Q hQ
   rw[g3.live.1]at b3
   have hw:=(rz.blk (J:=J) g3).2
   obtain⟨ow,tg,ew,eh,rfl,hown⟩:=g3.form
   obtain⟨f1,f2⟩:=hv.2 R g3.live.1 g3.valid b3 (λt ht=>by rw[<-hown t (CV q t ht)];exact hpt t ht) hg
   exact⟨f1,by rw[hw];exact f2⟩
  |_=>simp[um]at hct
 |gq bt k ids=>
  cases av with
  |gq Ry k' x tags=>
   simp only[um]at hct
   cases hb:Nat.beq bt Ry&&dG Z (bt :: k.tys) tags&&iM (mD rs tags) ids&&EB bt ids with
   |false=>rw[hb]at hct;simp at hct
   |true=>
    rw[hb]at hct
    simp only[gP]at hct
    simp only[bB]at hb
    obtain⟨⟨⟨b1,b2⟩,b3⟩,b4⟩:=hb
    have:=bD b1
    subst this
    cases hck:b_ k' k x with
    |none=>rw[hck]at hct;simp at hct
    |some y=>
     rw[hck]at hct
     have h2:((y,()):Cont (o9.gq bt k ids).ks)=d:=jc hct
     subst h2
     obtain⟨e,ex⟩:=ji hck
     subst e
     simp only at ex
     subst ex
     exact⟨hB.ro b3 b2 b4 hv,hB.gB hi⟩
  |_=>simp[um]at hct
 |jA=>
  cases av with
  |jA=>
   exact⟨hv,trivial⟩
  |_=>simp[um]at hct
 |fn f cs=>
  cases av with
  |fn f' caps=>
   obtain⟨hb,S9⟩:=zR (A:=Cont (BX cs)) (x:=yB Z rs cs caps) (show(bif Nat.beq f f' then yB Z rs cs caps else none)=some d from hct)
   have:=bD hb
   subst this
   obtain⟨vs,e,hc⟩:=hv
   obtain⟨g1,g2⟩:=hB.caps S9 hi hc
   exact⟨⟨vs,e,g1⟩,g2⟩
  |_=>simp[um]at hct
end
end
section
open Go
variable [Fr]
section
variable {P:Program}{T:bL}{cx:Cx}{Z Z':St}{J:aO}{F:List Nat}{a:Act}{w:World}{f_:BI}{rs:List Nat}
theorem adV(H:Rel cx Z J F a w)(hP:QU cx f_)(hB:p9 Z f_ rs Z'):Rel cx Z' J F a w:=by
 have ER:∀{r:Nat} {R':Root},aX Z' r R'->∃R,rz Z f_ rs r R R':=λh=>by
  obtain⟨_,_,R,h⟩:=hB.roots _ _ h.1
  exact⟨R,h⟩
 have nM:∀{j:Nat} {q},oN (aa j) f_=some q->∃R R',Z'.roots (aa j)=some R'/\rz Z f_ rs (aa j) R R':=λh=>by
  obtain⟨R',hR'⟩:=hB.made _ (hB.f_ _ _ h)
  obtain⟨_,_,R,h⟩:=hB.roots _ _ hR'
  exact⟨R,R',hR',h⟩
 have hsame:∀{τ:St} {r:Nat} {R Q:Root},τ.roots r=some R->τ.roots r=some Q->Q=R:=λh1 h2=>by rw[h1]at h2;simpa using h2.symm
 refine⟨H.defs,H.sz,?_,?_,?_,?_,?_,?_,?_,H.fl,H.iw,?_,H.frame,?_,H.mJ,?_,?_⟩
 ·intro j pi b o n hj hb
  obtain⟨Q,hQ,hk,hl,hs⟩:=H.kI j pi b o n hj hb
  obtain⟨q,hq⟩:=hP.par j pi hj (.inr ⟨_,hb⟩)
  obtain⟨R,R',hR',h1⟩:=nM hq
  have:=hsame hQ.1 h1.live.1
  subst this
  obtain⟨k1,k2,_,_,_,k6⟩:=h1.kind
  exact⟨R',⟨hR',k6.trans hQ.2⟩,k1.trans hk,hl,by rw[k2];exact hs⟩
 ·intro r R' hr hk
  obtain⟨R,h1⟩:=ER hr
  exact H.sW r R h1.live (h1.kind.1.symm.trans hk)
 ·intro s
  rcases hB.slots s with h|⟨sh,av,d,h1,h2,h3,h4⟩
  ·rw[h];trivial
  ·rw[h3]
   have:=H.slots s
   rw[h1]at this
   exact(hB.av H h2 h4 this).1
 ·intro s
  rcases hB.slots s with h|⟨sh,av,d,h1,h2,h3,h4⟩
  ·rw[h];trivial
  ·rw[h3]
   have:=H.slots s
   rw[h1]at this
   exact(hB.av H h2 h4 this).2
 ·intro r R' hr
  obtain⟨R,h1⟩:=ER hr
  have O:=H.roots r R h1.live
  have hb:=(rz.blk (J:=J) h1).1
  have hw:=(rz.blk (J:=J) h1).2
  have ht:=h1.tags
  have hv:=h1.valid
  obtain⟨ow,tg,ew,eh,rfl,hown⟩:=h1.form
  refine⟨λ_=>vM hown (eO (λ_ _=>rfl) (λb hb2=>?_) (λ_ _=>rfl) (O.ow hv)),O.len,?_,?_,?_⟩
  ·exact hB.bK (λt h hi=>⟨0,ht t h hi⟩) hb2
  ·rw[hw];exact O.mem
  ·rw[hb];exact O.nd
  ·rw[hb];exact O.mine
 ·intro r R' hr
  obtain⟨g1,g2,R,h1⟩:=hB.roots r R' hr
  refine⟨λt ht=>?_,g2,λn hn=>(h1.aeA _ hn).2.2 rfl⟩
  obtain⟨f1,f2,_⟩:=h1.aeA t ht
  rcases f2 with h|h
  ·exact .inl h
  ·obtain⟨Q,hQ⟩:=hB.made _ h
   exact .inr ⟨Q,hQ,.inr (by rw[f1];exact fQ _)⟩
 ·intro r R1 r' R2 h1 h2 hne b hb
  obtain⟨Q1,g1⟩:=ER h1
  obtain⟨Q2,g2⟩:=ER h2
  rw[(rz.blk (J:=J) g1).1]at hb
  rw[(rz.blk (J:=J) g2).1]
  exact H.lN r Q1 r' Q2 g1.live g2.live hne b hb
 ·intro r R' hr b hb
  obtain⟨R,h1⟩:=ER hr
  rw[(rz.blk (J:=J) h1).1]at hb
  exact H.fI r R h1.live b hb
 ·intro j pi hj hk
  obtain⟨⟨k,wt,ht⟩,hq⟩:=hP.par j pi hj (.inl hk)
  obtain⟨R,R',hR',h1⟩:=nM hq
  obtain⟨l1,l2,l3,l4,l5,l6,l7,l8⟩:=h1.log k wt ht hq
  obtain⟨Q,hQ,hk2⟩:=H.qj j pi hj hk
  have:=hsame h1.live.1 hQ
  subst this
  refine⟨R',hR',λ_ b hb hnb=>?_⟩
  rcases hk2 h1.live.2 b hb hnb with⟨e,e1,e2⟩|⟨g1,g2,g3⟩
  ·refine .inl ⟨e,e1,.inr ?_⟩
   rw[l2]
   rcases e2 with h|h
   ·exact l4 e h
   ·exact l5 e h
  ·refine .inr ⟨g1,g2,λq Q hQ hbq=>?_⟩
   obtain⟨Q0,h2⟩:=ER hQ
   rw[(rz.blk (J:=J) h2).1]at hbq
   exact g3 q Q0 h2.live hbq
 ·intro j p ts v hv
  obtain⟨k,⟨wt,ht⟩,hq,hts⟩:=hP.ptr j p ts v hv
  obtain⟨R,R',hR',h1⟩:=nM hq
  obtain⟨l1,l2,l3,l4,l5,l6,l7,l8⟩:=h1.log k wt ht hq
  obtain⟨f1,Q,hQ,f2⟩:=H.rJ j p ts v hv
  have:=hsame h1.live.1 hQ
  subst this
  refine⟨f1,R',hR',λhno=>?_⟩
  rw[l3]at hno
  have vY:=f2 (λt h1 h2=>hno t h1 (l7 t h2))
  refine⟨f1,λQ2 vX _ _ hpt hg=>?_⟩
  have:=hsame hR' vX
  subst this
  have hw:=(rz.blk (J:=J) h1).2
  have hv1:=h1.valid
  have hr1:=h1.live.1
  obtain⟨ow,tg,ew,eh,rfl,hown⟩:=h1.form
  obtain⟨q1,q2⟩:=vY.2 Q hr1 hv1 (by
    unfold clean
    rw[eX]
    intro t ht1
    have h3:t∈Q.h:=MU ht1
    simp only[lI,gJ]
    rw[l1,<-hts]
    exact λh4=>hno t h4 (l6 t h3))
   (λt ht=>by rw[<-hown t (CV p t ht)];exact hpt t ht) hg
  exact⟨q1,by rw[hw];exact q2⟩
 ·intro j v hv
  obtain⟨⟨k,wt,ht⟩,hq⟩:=hP.ref j v hv
  obtain⟨R,R',hR',h1⟩:=nM hq
  obtain⟨l1,l2,l3,l4,l5,l6,l7,l8⟩:=h1.log k wt ht hq
  obtain⟨_,f2⟩:=H.rM j v hv
  refine⟨⟨R',hR'⟩,λQ2 vX _=>?_⟩
  have:=hsame hR' vX.1
  subst this
  obtain⟨q1,q2⟩:=f2 R h1.live l8
  obtain⟨k1,k2,_⟩:=h1.kind
  exact⟨k1.trans q1,by rw[k2];exact q2⟩
structure YQ(f_:BI)(rs:List Nat)(s:zD):Prop where
 slots:∀q∈s.ss,∀i∈q.2.CJ,qh rs i
 roots:∀q∈s.rs,q.1∈rs/\gZ q.1=false/\(∀i∈q.2.ids,qh rs i/\i≠q.1)/\q.2.log=oN q.1 f_
 keys:∀r∈rs,∃q∈s.rs,q.1=r
 f_:∀r q,oN r f_=some q->r∈rs
theorem Uv:∀{l:List (Nat×o9)} {c:Cont (uE l)},IU Z rs l=some c->∀n,mkS l c n=.one .undef\/∃sh av d,(n,sh)∈l/\Z.slots n=.one av/\um Z rs sh av=some d/\mkS l c n=.one (JY sh d)
 | [],_,_,_=>.inl rfl
 |(s,sh) :: l,c,h,n=>by
  simp only[IU]at h
  split at h
  ·rename_i av hs
   split at h
   ·rename_i x y hx hy
    have h2:Cont.app sh.ks (uE l) x y=c:=jc h
    subst h2
    simp only[mkS]
    rw[EI,F4]
    cases hb:Nat.beq n s with
    |true=>
     have:=bD hb
     subst this
     exact .inr ⟨sh,av,x,by simp,hs,hx,rfl⟩
    |false=>
     rcases Uv hy n with h|⟨sh',Rm,d,g1,g2,g3,g4⟩
     ·exact .inl h
     ·exact .inr ⟨sh',Rm,d,.tail _ g1,g2,g3,g4⟩
   ·simp at h
  ·split at h
   ·split at h
    ·rename_i d hd
     have h2:d=c:=jc h
     subst h2
     simp only[mkS]
     cases hb:Nat.beq n s with
     |true=>exact .inl rfl
     |false=>
      rcases Uv hd n with h|⟨sh',Rm,d,g1,g2,g3,g4⟩
      ·exact .inl h
      ·exact .inr ⟨sh',Rm,d,.tail _ g1,g2,g3,g4⟩
    ·simp at h
   ·simp at h
theorem arn{a b:zH}(h:UN a b=true):a=b:=by
 cases a<;>cases b<;>simp_all[UN]
theorem ace:∀{l:List (Nat×zI)} {c:Cont (xD l)},Nt Z rs l=some c->∀n R',Aw l c n=some R'->∃sh R,(n,sh)∈l/\Z.roots n=some R/\dF Z R/\iM (mD rs R.tags) sh.ids=true/\Ui R sh.log=true/\
   (∀t∈R.k.tys,ah t sh.own=ah t R.own)/\R'={ R with own:=sh.own,tags:=sh.ids.map λr=>(r,0),w:=[],h:=[],g:=0,ew:=abY sh.log,eh:=abX sh.log }
 | [],_,_,_,_,h=>by simp[Aw]at h
 |(r,sh) :: l,c,h,n,R',hm=>by
  simp only[Nt]at h
  split at h
  ·rename_i R hR
   obtain⟨hb,h⟩:=zR h
   split at h
   ·rename_i x y hx hy
    have h2:(x,y)=c:=jc h
    subst h2
    simp only[Aw]at hm
    cases hn:Nat.beq n r with
    |false=>
     rw[hn]at hm
     obtain⟨sh',R2,g1,g2⟩:=ace hy n R' hm
     exact⟨sh',R2,.tail _ g1,g2⟩
    |true=>
     rw[hn]at hm
     have:=bD hn
     subst this
     simp only[bB]at hb
     obtain⟨⟨⟨⟨⟨⟨⟨b1,b2⟩,b3⟩,b4⟩,b5⟩,b6⟩,b7⟩,b8⟩:=hb
     obtain⟨e,ex⟩:=ji hx
     refine⟨sh,R,by simp,hR,⟨by simpa using b7,b1⟩,b2,b8,λt ht=>?_,?_⟩
     ·have:=eX.1 b3 t (e▸ht)
      simp only[beq_iff_eq]at this
      exact this.symm
     ·have Rn:=arn b4
      have Ro:R.fixed=sh.fixed:=by simpa using b5
      have Rp:R.keep=sh.keep:=by simpa using b6
      obtain⟨k,ow,ids,kd,fx,kp,lg⟩:=sh
      simp only at e ex Rn Ro Rp
      obtain⟨Rk,Rx,Q3,Q4,Rw,Rh,Rg,QZ,atI,QY,QX,QW⟩:=R
      simp only at e ex Rn Ro Rp
      subst e Rn Ro Rp
      simp only at ex
      subst ex
      simp only[gP,au]at hm
      exact hm.symm
   ·simp at h
  ·simp at h
theorem acf:∀{l:List (Nat×zI)} (c:Cont (xD l)) {r:Nat},(∃q∈l,q.1=r)->∃R',Aw l c r=some R'
 | [],_,_,h=>by obtain⟨q,h,_⟩:=h;simp at h
 |(s,sh) :: l,c,r,h=>by
  simp only[Aw]
  cases hb:Nat.beq r s with
  |true=>exact⟨_,rfl⟩
  |false=>
   refine acf c.2 ?_
   obtain⟨q,h1,h2⟩:=h
   rcases bW.1 h1 with h|h
   ·subst h;simp only at h2;subst h2;simp at hb
   ·exact⟨q,h,h2⟩
theorem p9.of{s:zD}(hs:YQ f_ rs s){c:s.V}(h:Eu rs s Z=some c):p9 Z f_ rs (yR s c):=by
 unfold Eu at h
 split at h
 ·rename_i x y hx hy
  have h2:Cont.app (uE s.ss) (xD s.rs) x y=c:=jc h
  subst h2
  have e1:(yR s (Cont.app (uE s.ss) (xD s.rs) x y)).slots=mkS s.ss x:=by unfold yR;rw[EI]
  have e2:(yR s (Cont.app (uE s.ss) (xD s.rs) x y)).roots=Aw s.rs y:=by unfold yR;rw[F4]
  refine⟨λr R' hr=>?_,λr hr=>?_,λn=>?_,hs.f_⟩
  ·rw[e2]at hr
   obtain⟨sh,R,g1,g2,g3,g4,g5,g6,g7⟩:=ace hy r R' hr
   obtain⟨f1,f2,f3,f4⟩:=hs.roots _ g1
   refine⟨f1,f2,R,⟨g2,g3.1⟩,g3,⟨_,_,_,_,g7,g6⟩,?_,?_,?_⟩
   ·intro t ht hi
    rw[g7]
    obtain⟨n,hn⟩:=OY g4 t ht hi
    obtain⟨i,hi1,hi2⟩:=fP.1 hn
    simp only[bZ]at hi2
    have h0:n=0:=hi2.2.symm
    subst h0
    exact hn
   ·intro t ht
    rw[g7]at ht
    obtain⟨i,h1,rfl⟩:=fP.1 ht
    exact⟨rfl,f3 i h1⟩
   ·intro k wt ht hq
    simp only at f4
    rw[f4,hq]at g5 g7
    simp only[Ui,xE,bB,rT]at g5
    obtain⟨p1,⟨⟨⟨p2,p3⟩,p4⟩,p5⟩,p6⟩:=g5
    subst g7
    exact⟨K.eq_of_beq p1,rfl,rfl,p2,p3,p4,p5,bD p6⟩
  ·rw[e2]
   exact acf y (hs.keys r hr)
  ·rw[e1]
   rcases Uv hx n with h|⟨sh,av,d,g1,g2,g3,g4⟩
   ·exact .inl h
   ·exact .inr ⟨sh,av,d,g2,g3,g4,hs.slots _ g1⟩
 ·simp at h
theorem aej:∀{l:List (TypeId×Dat×List Tag)},∀i∈(Kl rs l).flatMap (λc=>c.2.2),qh rs i
 | [],i,h=>by simp[Kl]at h
 |(t,d,tags) :: l,i,h=>by
  simp only[Kl,mP,dD]at h
  rcases h with h|h
  ·exact(Fx.1 h).2
  ·exact aej i h
theorem Z6{rs ex:List Nat}:∀i∈IY rs ex,qh rs i:=by
 intro i hi
 unfold IY at hi
 rw[eH,oD,dh]at hi
 exact hi.2
theorem asR{ex:List Nat}{av:AV}:∀i∈(U7 rs ex av).CJ,qh rs i:=by
 intro i hi
 cases av<;>simp only[U7,o9.CJ,x9]at hi
 ·rcases dD.1 hi with hi|hi
  ·exact(Fx.1 hi).2
  ·exact Z6 i hi
 ·exact(Fx.1 hi).2
 ·exact aej i hi
theorem ael{wd:List (Nat×List Nat)}:∀{l:List Nat},∀q∈Kn wd rs Z l,∀i∈q.2.CJ,qh rs i
 | [],q,h,_,_=>by simp[Kn]at h
 |s :: l,q,h,i,hi=>by
  simp only[Kn,bW]at h
  rcases h with h|h
  ·subst h
   split at hi
   ·exact asR i hi
   ·simp[o9.CJ]at hi
  ·exact ael q h i hi
theorem aek{wd:List (Nat×List Nat)}:∀{l:List Nat} {q:List (Nat×zI)},Km wd f_ rs Z l=some q->(∀z∈q,z.1∈l/\∃R,Z.roots z.1=some R/\z.2.ids=mD rs R.tags++(IY rs (Cj (2*z.1+1) wd)).filter (λq=>!Nat.beq q z.1)/\z.2.log=oN z.1 f_)/\∀r∈l,∃z∈q,z.1=r
 | [],q,h=>by simp[Km]at h;subst h;simp
 |r :: l,q,h=>by
  simp only[Km]at h
  split at h
  ·rename_i R q' hR hq
   obtain⟨i1,i2⟩:=aek hq
   simp only[au]at h
   subst h
   refine⟨λz hz=>?_,λr' hr=>?_⟩
   ·rcases bW.1 hz with h|h
    ·subst h;exact⟨by simp,R,hR,rfl,rfl⟩
    ·obtain⟨f1,f2⟩:=i1 z h
     exact⟨.tail _ f1,f2⟩
   ·rcases bW.1 hr with h|h
    ·exact⟨_,jE,h.symm⟩
    ·obtain⟨z,z1,z2⟩:=i2 r' h
     exact⟨z,.tail _ z1,z2⟩
  ·simp at h
theorem aaa:∀{l:BI} {r:Nat} {q},oN r l=some q->∃p∈l,p.1=r
 | [],_,_,h=>by simp[oN]at h
 |(s,p) :: l,r,q,h=>by
  simp only[oN]at h
  cases hb:Nat.beq r s with
  |true=>exact⟨_,jE,(bD hb).symm⟩
  |false=>
   rw[hb]at h
   obtain⟨p',h1,h2⟩:=aaa h
   exact⟨p',.tail _ h1,h2⟩
theorem asS{wd:List (Nat×List Nat)}(H:Rel cx Z J F a w){ss:List Nat}{s:zD}(h:U9 wd f_ ss rs Z=some s):YQ f_ rs s:=by
 unfold U9 at h
 split at h
 ·rename_i q hq
  obtain⟨hb,h⟩:=zR h
  simp only[au]at h
  subst h
  obtain⟨i1,i2⟩:=aek hq
  refine⟨ael,λz hz=>?_,i2,λr q hf=>?_⟩
  ·obtain⟨f1,R,f2,f3,f4⟩:=i1 z hz
   obtain⟨_,g2,g3⟩:=H.gz _ R f2
   refine⟨f1,g2,λi hi=>?_,f4⟩
   rw[f3]at hi
   rcases dD.1 hi with hi|hi
   ·obtain⟨⟨n,hn⟩,h2⟩:=Fx.1 hi
    exact⟨h2,λe=>g3 n (e▸hn)⟩
   ·rw[eH]at hi
    refine⟨Z6 i hi.1,λe=>?_⟩
    subst e
    have:=hi.2
    simp at this
  ·obtain⟨p,p1,p2⟩:=aaa hf
   have:=eX.1 hb p p1
   rw[<-p2]
   exact dh.1 this
 ·simp at h
end
end
section
open Go
variable [Fr]
def IX:Exit->Option Ex
 |.normal=>some .normal
 |.exit i=>some (.exit i)
 |.ret=>some .ret
 |_=>none
section
variable {P:Program}{T:bL}{hi:Hint}{n:Nat}{cx:Cx}{Z:St}{J:aO}{F:List Nat}{a:Act}{w:World}{R:Type}{r:R}{ag:Option R->Option R->Option R}
def QK(cx:Cx)(K:Ex->St->Option R)(r:R)(e:Exit)(a:Act)(w:World):Prop:=∃x Z J F,IX e=some x/\K x Z=some r/\Rel cx Z J F a w
theorem least{p:Nat->Prop}(h:∃n,p n):∃m,p m/\∀k,p k->m<=k:=by
 obtain⟨n,hn⟩:=h
 induction n using Nat.strongRecOn with
 |_ n ih=>
  by_cases hk:∃k,k<n/\p k
  ·obtain⟨k,h1,h2⟩:=hk
   exact ih k h1 h2
  ·exact⟨n,hn,λk h=>Nat.le_of_not_lt λhlt=>hk ⟨k,hlt,h⟩⟩
theorem aly(hag:∀{a b z},ag a b=some z->a=some z/\b=some z)(hm:P.follows .mixedOrders=true)(hT:fT P T)(hSt:wZ P T)(hC:xQ P n hi)(hnt:hi.nt=cx.nt)(hP:QU cx hi.f_) :
  ∀(code:Code) (b:Nat) {Z:St} {J:aO} {F:List Nat} {a:Act} {w:World} {K:Ex->St->Option R},den T hi n ag b code Z K=some r->Rel cx Z J F a w->code.wp P (QK cx K r) a w:=by
 intro code
 induction code with
 |skip=>intro b Z J F a w K h H;exact wp_skip ⟨_,_,_,_,rfl,h,H⟩
 |exit id=>intro b Z J F a w K h H;exact wp_exit ⟨_,_,_,_,rfl,h,H⟩
 |ret=>intro b Z J F a w K h H;exact wp_ret ⟨_,_,_,_,rfl,h,H⟩
 |seq x y Oa JB=>
  intro b Z J F a w K h H
  refine wp_seq (wp_mono (Oa b h H) ?_)
  rintro e a' w' ⟨ex,Z',J',F',h1,h2,h3⟩
  cases e<;>simp only[IX,au,reduceCtorEq]at h1
  ·subst h1;exact JB b h2 h3
  ·subst h1;exact⟨_,_,_,_,rfl,h2,h3⟩
  ·subst h1;exact⟨_,_,_,_,rfl,h2,h3⟩
 |cond c x y Oa JB=>
  intro b Z J F a w K h H
  simp only[den]at h
  obtain⟨v0,h1,h2⟩:=Az _ h
  obtain⟨v,g1,g2,g3⟩:=jN H h1
  have ev:v0=v:=g3
  subst ev
  have hplain:((asBool v0 .ret).run Z λt=>if t=true then den T hi n ag b x Z K else den T hi n ag b y Z K)=some r->Code.wp P (.cond c x y) (QK cx K r) a w:=by
   intro h2
   obtain⟨t,h3,h4⟩:=Az _ h2
   obtain⟨b',e1,e2⟩:=Za g1 h3
   have e2':t=b':=e2
   subst e2'
   refine wp_cond (t:=t) e1 ?_
   cases t with
   |true=>exact Oa b h4 H
   |false=>exact JB b h4 H
  cases v0 with
  |pO e=>
   simp only at h2
   obtain⟨b',e1,e2⟩:=g1
   refine wp_cond (t:=b') e1 ?_
   cases b' with
   |true=>
    rw[aj (e2 rfl)]at h2
    exact Oa b (hag h2).1 H
   |false=>
    split at h2
    ·exact JB b (hag h2).2 H
    ·exact JB b h2 H
  |_=>exact hplain h2
 |block id x ih=>
  intro b Z J F a w K h H
  simp only[den]at h
  refine wp_block (wp_mono (ih id h H) ?_)
  rintro e a' w' ⟨ex,Z',J',F',h1,h2,h3⟩
  cases e<;>simp only[IX,au,reduceCtorEq]at h1
  ·subst h1;exact⟨_,_,_,_,rfl,h2,h3⟩
  ·rename_i i
   subst h1
   simp only at h2
   unfold Exit.inBlock
   simp only
   cases hb:Nat.beq i id with
   |true=>
    rw[hb]at h2
    rw[aj (bD hb)]
    exact⟨_,_,_,_,rfl,h2,h3⟩
   |false=>
    rw[hb]at h2
    rw[aC (M0 hb)]
    exact⟨_,_,_,_,rfl,h2,h3⟩
  ·subst h1;exact⟨_,_,_,_,rfl,h2,h3⟩
 |loop x ih=>
  intro b Z J F a w K h H
  simp only[den]at h
  split at h
  ·rename_i ss rs hf
   split at h
   ·rename_i s hs
    obtain⟨αl,Hl⟩:=Um hi rs H
    have hok:=asS Hl hs
    split at h
    ·rename_i c hc
     have H0:=adV Hl hP (p9.of hok hc)
     generalize hB:(λ(L:s.V->Option R) v=>den T hi n ag b x (yR s v) fun
      |.normal,Z'=>match Eu rs s (CR hi rs Z')with
       |some v'=>L v'
       |none=>none
      |e,Z'=>K e Z')=B at h
     have I9:∀(L:s.V->Option R) v,B L v=den T hi n ag b x (yR s v) fun
      |.normal,Z'=>match Eu rs s (CR hi rs Z')with
       |some v'=>L v'
       |none=>none
      |e,Z'=>K e Z':=λL v=>by rw[<-hB]
     let I:Nat->Act->World->Prop:=λm a w=>∃v J F,rounds B m v=some r/\Rel cx (yR s v) J F a w
     have hex:∀{m:Nat} {a:Act} {w:World},I m a w->∃m,I m a w:=λh=>⟨_,h⟩
     classical
     refine wp_loop (λa w=>∃m,I m a w) (λa w=>if h:∃m,I m a w then Classical.choose (least h)else 0) ⟨_,_,_,_,h,H0⟩ ?_
     intro a w hI
     rw[dif_pos hI]
     have hI2:=(Classical.choose_spec (least hI)).1
     generalize Classical.choose (least hI)=m at hI2
     obtain⟨v,J,F,h1,h2⟩:=hI2
     cases m with
     |zero=>simp[rounds]at h1
     |succ m=>
      have h1':B (rounds B m) v=some r:=h1
      rw[I9]at h1'
      refine wp_mono (ih b h1' h2) ?_
      rintro e a' w' ⟨ex,Z',J',F',g1,g2,g3⟩
      cases e<;>simp only[IX,au,reduceCtorEq]at g1
      ·subst g1
       simp only at g2
       split at g2
       ·rename_i v' hv'
        obtain⟨αm,Hm⟩:=Um hi rs g3
        have hI':I m a' w':=⟨v',_,_,g2,adV Hm hP (p9.of hok hv')⟩
        refine⟨⟨m,hI'⟩,?_⟩
        rw[dif_pos ⟨m,hI'⟩]
        exact Nat.lt_succ_of_le ((Classical.choose_spec (least ⟨m,hI'⟩)).2 m hI')
       ·simp at g2
      ·subst g1;exact⟨_,_,_,_,rfl,g2,g3⟩
      ·subst g1;exact⟨_,_,_,_,rfl,g2,g3⟩
    ·simp at h
   ·simp at h
  ·simp at h
 |region id ops draw=>
  intro b Z J F a w K h H
  simp only[den]at h
  cases draw with
  |true=>
   have H':Rel cx Z J F a { w with drawn:=w.drawn+1 }:=H.drawn (w.drawn+1)
   exact wp_region_any hm (amI hT hSt hC hnt (λZ' J' F' a' w' h1 h2=>⟨_,_,_,_,rfl,h1,h2⟩) h H')
  |false=>
   refine wp_region ?_
   have:=amJ (P:=P) (Q:=QK cx K r) hT hSt hC hnt (λZ' J' F' a' w' h1 h2=>⟨_,_,_,_,rfl,h1,h2⟩) ops.toList 0 (by simp) h H
   rw[Pe,<-List.range_eq_range']at this
   exact this
 |_=>intro b Z J F a w K h;simp[den]at h
end
end
section
open Go
variable [Fr]
def FT(a:Act):ResultVar->Sem Value
 |.tmp t=>pure (a.tmps.getD t undef)
 |.cell x t=>do loadVar t (<-asAddr (a.tmps.getD x undef))
section
variable {P:Program}{T:bL}{cx:Cx}{Z:St}{J:aO}{F:List Nat}{a:Act}{w:World}{A:Type}{z:A}
theorem ap6(hT:fT P T)(H:Rel cx Z J F a w){t:TypeId}{x:AV}{v:Value}{eP:Bool}{k:AV->Prog A}(h1:a_ cx Z J F w x v)(h2:dV Z x)(h:(yN T eP t x k).ends Z z) :
  ∃y u,(do loadVar t (<-asAddr v):Sem Value).run P w=.ok u w/\a_ cx Z J F w y u/\dV Z y/\(k y).ends Z z:=by
 have Jw:∀{b o:Nat} {u:Value},(Instr.loadAt t (.pointer (some ⟨b,o,none⟩))).run P w=.ok u w->v=.pointer (some ⟨b,o,none⟩)->(do loadVar t (<-asAddr v):Sem Value).run P w=.ok u w:=by
  intro b o u h e
  subst e
  exact h
 unfold yN at h
 split at h
 ·exact h.elim
 ·rename_i kk hty
  have ht:=hT.ty t kk hty
  obtain⟨s1,s2,s3⟩:=ht.shape
  split at h
  ·rename_i r g k0 p
   obtain⟨u,b,off,k1,e,hq,hC,ho1,hR⟩:=h1
   obtain⟨R,hr,hv,h⟩:=iA h
   rcases bF h with⟨hc,h⟩|⟨_,h⟩
   ·simp only[bB]at hc
    cases hg:aB p R.k R.x with
    |none=>rw[hg]at h;exact h.elim
    |some dd=>
     rw[hg]at h
     simp only at h
     obtain⟨dk,dx⟩:=dd
     rcases beq_true h with⟨ek,h5⟩|⟨_,h⟩
     ·simp only at ek
      subst ek
      have hk0:=K.eq_of_beq hc.1.2
      subst hk0
      obtain⟨hka,j6⟩:=hR R hr (bD hc.1.1)
      rw[j6.cells]at hC
      have hwn:aS J R r=none:=by unfold aS;rw[hka]
      obtain⟨g1,g2,g3,g4,g5⟩:=aag (h:=hp w) p hg ho1 (H.roots r R hr).len
      simp only at g1
      subst g1
      have hown:∀t∈az p R.k,ah t R.own=true:=λt ht=>by rw[g5]at ht;simp at ht
      have hn:aW (hp w) p R.k (J.hdr r) (aS J R r)=some (((J.hdr r).drop off).take k1.size,none):=by rw[hwn];exact g3
      obtain⟨bu,hO,hf⟩:=wH H hr hv hg g4 hown hn
      have hV:=wE H hr hO hf
      have hcs:Cells (hp w) b off (((J.hdr r).drop off).take k1.size):=by
       intro i hi
       have hi':i<k1.size:=by rw[OZ g2]at hi;exact hi
       have:=hC (off+i) (by omega)
       rw[nR]at this
       rw[this,MQ hi',BB]
      obtain⟨u',hu⟩:=VC.mk s1 s2 s3 hV
      have hrun:=FY (P:=P) ht hcs (nV hV) hu
      rcases bF h5 with⟨hf,h6⟩|⟨_,h6⟩
      ·exact⟨.val k1 dx [],u',Jw hrun e,λ_=>⟨_,hu,nG hf hV⟩,(λt ht=>by simp at ht),h6⟩
      ·exact⟨.eP r p R.dY,u',Jw hrun e,IL (cx:=cx) (F:=F) hr hg g4 hown hn hu,⟨R,hr.1,.inr (bV _)⟩,h6⟩
     ·exact h.elim
   ·exact h.elim
  rcases Nb H h1 h2 h with⟨r,R,p,dd,cs,b,q,hr,hv,hg,dn,hown,hn,e,h⟩|⟨bt,dd,Tg,b,q,cs,hw,e,hcs,hV,hok,hb,h⟩
  ·obtain⟨hC,⟨bu,hO,hf⟩,_⟩:=xG H hr hv hg dn hown hn
   obtain⟨dk,dx⟩:=dd
   rcases beq_true h with⟨ek,h5⟩|⟨_,h⟩
   ·simp only at ek
    subst ek
    clear h
    have h:=h5
    clear h5
    have hV:=wE H hr hO hf
    obtain⟨u,hu⟩:=VC.mk s1 s2 s3 hV
    have hrun:=FY (P:=P) ht hC (nV hV) hu
    rcases bF h with⟨_,h⟩|⟨_,h⟩
    ·exact⟨.eP r p R.dY,u,Jw hrun e,IL (cx:=cx) (F:=F) hr hg dn hown hn hu,⟨R,hr.1,.inr (bV _)⟩,h⟩
    ·exact⟨_,u,Jw hrun e,(show a_ cx Z J F w (.val dk dx _) u from λ_=>⟨cs,hu,hV⟩),FM H hr _,h⟩
   ·exact h.elim
  ·obtain⟨dk,dx⟩:=dd
   rcases beq_true h with⟨ek,h5⟩|⟨_,h⟩
   ·simp only at ek
    subst ek
    clear h
    have h:=h5
    clear h5
    obtain⟨u,hu⟩:=VC.mk s1 s2 s3 hV
    have hrun:=FY (P:=P) ht hcs (nV hV) hu
    refine⟨_,u,Jw hrun e,(show a_ cx Z J F w (.val dk dx _) u from λ_=>⟨cs,hu,?_⟩),?_,h⟩
    ·cases hf:dk.flat with
     |true=>exact nG hf hV
     |false=>exact hV
    ·cases hf:dk.flat with
     |true=>intro t ht;simp at ht
     |false=>exact hw
   ·exact h.elim
theorem Kh(hT:fT P T)(H:Rel cx Z J F a w){own:Bool}{rv:ResultVar}{k:AV->Prog A}(h:(yX T own rv k).ends Z z):∃y u,(FT a rv).run P w=.ok u w/\a_ cx Z J F w y u/\dV Z y/\(k y).ends Z z:=by
 cases rv with
 |tmp t=>
  obtain⟨v,h1,h2,h3⟩:=jN H h
  exact⟨v,_,rfl,h1,h2,h3⟩
 |cell t ty=>
  obtain⟨v,h1,h2,h3⟩:=jN H h
  exact ap6 hT H h1 h2 h3
def Bz(P:Program)(cx:Cx)(Z:St)(J:aO)(F:List Nat)(a:Act)(w:World):(rs:List bN)->List ResultVar->Cont (eU rs)->List Value->List (Value×fC)->List (List Tag)->Prop
 | [],[],_,[],[],[]=>True
 |.val k exts bJ :: rs,rv :: gK,c,v :: vs,its,tg :: jX=>((FT a rv).run P w=.ok v w/\(k.flat=true\/rU exts bJ tg=true)/\yj cx Z J F a w k c.1 tg v)/\Bz P cx Z J F a w rs gK c.2 vs its jX
 |.own k ow exts bJ :: rs,rv :: gK,c,v :: vs,it :: its,jX=>((FT a rv).run P w=.ok v w/\it.1=v/\su cx Z J F w v it.2/\(∃e:it.2.k=k,c.1=e▸it.2.x)/\iM (k.tys.filter λt=>ah t ow) it.2.own=true/\
   ((k.tys.all λt=>ah t ow)=true\/rU exts bJ it.2.tags=true))/\Bz P cx Z J F a w rs gK c.2 vs its jX
 |_,_,_,_,_,_=>False
theorem amQ(hT:fT P T)(H:Rel cx Z J F a w):∀{rs:List bN} {gK:List ResultVar} {k:Cont (eU rs)->List fC->List (List Tag)->Prog A},(z_ T rs gK k).ends Z z->
  ∃c vs its jX,Bz P cx Z J F a w rs gK c vs its jX/\(k c (its.map (·.2)) jX).ends Z z:=by
 intro rs
 induction rs with
 |nil=>
  intro gK k h
  cases gK with
  |nil=>exact⟨(),[],[],[],trivial,h⟩
  |cons _ _=>exact h.elim
 |cons r rs ih=>
  intro gK k h
  cases gK with
  |nil=>cases r<;>exact h.elim
  |cons rv gK=>
   cases r with
   |into _ _=>exact h.elim
   |ptr _ _ _ _=>exact h.elim
   |val kk exts bJ=>
    simp only[z_]at h
    obtain⟨y,u,g1,g2,g3,h⟩:=Kh hT H h
    have hgo:∀(x:El kk) (tags:List Tag),yj cx Z J F a w kk x tags u->(bif kk.flat||rU exts bJ tags then z_ T rs gK λc ts tg=>k (x,c) ts (tags :: tg)else .fail).ends Z z->
      ∃c vs its jX,Bz P cx Z J F a w (.val kk exts bJ :: rs) (rv :: gK) c vs its jX/\(k c (its.map (·.2)) jX).ends Z z:=by
     intro x tags hv h
     rcases bF h with⟨hb,h⟩|⟨_,h⟩
     ·obtain⟨c,vs,its,jX,f1,f2⟩:=ih h
      exact⟨(x,c),u :: vs,its,tags :: jX,⟨⟨g1,by simpa using hb,hv⟩,f1⟩,f2⟩
     ·exact h.elim
    have hval:(qH y λk' x tags=>match b_ k' kk x with
      |some y=>(bif kk.flat||rU exts bJ (bif kk.flat then []else tags)then z_ T rs gK λc ts tg=>k (y,c) ts ((bif kk.flat then []else tags) :: tg)else .fail)
      |none=>.fail).ends Z z->∃c vs its jX,Bz P cx Z J F a w (.val kk exts bJ :: rs) (rv :: gK) c vs its jX/\(k c (its.map (·.2)) jX).ends Z z:=by
     intro h
     obtain⟨k',x,Tg,f1,f5⟩:=Zb H g2 g3 h
     cases hc:b_ k' kk x with
     |none=>rw[hc]at f5;exact f5.elim
     |some y'=>
      rw[hc]at f5
      obtain⟨ek,ey⟩:=ji hc
      subst ek
      simp only at ey
      subst ey
      cases hf:k'.flat with
      |true=>
       rw[hf]at f5
       exact hgo _ _ (f1.flat hf H) (by rw[hf];exact f5)
      |false=>
       rw[hf]at f5
       exact hgo _ _ f1 (by rw[hf];exact f5)
    cases y with
    |fZ=>
     cases kk with
     |sl e kk=>
      obtain⟨b,rfl⟩:=g2
      exact hgo [] [] ⟨[.slice b 0 0],OW,λ_ _ _ _=>⟨b,0,0,rfl,rfl,bV _,λh=>by omega⟩⟩ h
     |_=>exact h.elim
    |undef=>exact hval h
    |val _ _ _=>exact hval h
    |ref _ _=>exact hval h
    |eP _ _ _=>exact hval h
    |ptr _ _ _=>exact hval h
    |gq _ _ _ _=>exact hval h
    |mg _ _ _ _=>exact hval h
    |pO _=>exact hval h
    |part _ _ _ _ _=>exact hval h
    |nN _ _ _ _=>exact hval h
    |sub _ _ _ _ _ _=>exact hval h
    |sel _ _ _ _ _ _=>exact hval h
    |app _ _ _ _=>exact hval h
    |jA=>exact hval h
    |fn _ _=>exact hval h
   |own kk ow exts bJ=>
    simp only[z_]at h
    obtain⟨y,u,g1,g2,g3,h⟩:=Kh hT H h
    obtain⟨tk,htk,h⟩:=AJ H g2 g3 h
    cases hc:b_ tk.k kk tk.x with
    |none=>rw[hc]at h;exact h.elim
    |some y'=>
     rw[hc]at h
     rcases bF h with⟨hb,h⟩|⟨_,h⟩
     ·simp only[bB,oD]at hb
      obtain⟨c,vs,its,jX,f1,f2⟩:=ih h
      exact⟨(y',c),u :: vs,(u,tk) :: its,jX,⟨⟨g1,rfl,htk,ji hc,hb.1,hb.2⟩,f1⟩,f2⟩
     ·exact h.elim
theorem amR{Z1:St}{aP:aO}{F1:List Nat}(H1:Rel cx Z1 aP F1 a w)(hV:Views cx Z J F w Z1 aP F1 w):∀{rs:List bN} {gK:List ResultVar} {c:Cont (eU rs)} {vs:List Value} {its:List (Value×fC)} {jX:List (List Tag)} {hs:List (List Value×List Nat)},
  Bz P cx Z J F a w rs gK c vs its jX->vJ cx Z1 aP F1 w its hs->(∀t∈jX.flatten,Same Z J Z1 aP t.1)->
  ∃ay,uQ cx Z1 aP F1 w rs c vs ay/\ay.flatten=hs.flatMap (·.2)/\(∀b∈ay.flatten,b∈F1)/\(gK.mapM (FT a)).run P w=.ok vs w:=by
 intro rs
 induction rs with
 |nil=>
  intro gK c vs its jX hs h hh _
  cases gK<;>cases vs<;>cases its<;>cases jX<;>first|exact h.elim|skip
  cases hs with
  |nil=>exact⟨[],trivial,rfl,by simp,by simp⟩
  |cons _ _=>exact hh.elim
 |cons r rs ih=>
  intro gK c vs its jX hs h hh hS
  cases r with
  |into _ _=>cases gK<;>cases vs<;>exact h.elim
  |ptr _ _ _ _=>cases gK<;>cases vs<;>exact h.elim
  |val kk exts bJ=>
   cases gK<;>cases vs<;>cases jX<;>first|exact h.elim|skip
   rename_i rv gK v vs tg jX
   obtain⟨⟨h1,h2,cs,h3,h4⟩,h5⟩:=h
   obtain⟨ay,f1,f2,f3,f4⟩:=ih h5 hh (λt ht=>hS t (by simp only[nO,dD];exact .inr ht))
   refine⟨[] :: ay,⟨⟨rfl,tg,cs,h2,h3,h4 Z1 aP F1 ⟨H1,hV,λt ht=>hS t (by simp only[nO,dD];exact .inl ht)⟩⟩,f1⟩,by simpa using f2,by simpa using f3,?_⟩
   simp[Ip,h1,f4,Result.andThen]
  |own kk ow exts bJ=>
   cases gK<;>cases vs<;>cases its<;>first|exact h.elim|skip
   rename_i rv gK v vs it its
   obtain⟨⟨h1,h2,h3,⟨e,ex⟩,h4,h5⟩,h6⟩:=h
   cases hs with
   |nil=>exact hh.elim
   |cons q hs=>
    obtain⟨⟨q1,q2,q3⟩,hh⟩:=hh
    obtain⟨ay,f1,f2,f3,f4⟩:=ih h6 hh hS
    refine⟨q.2 :: ay,⟨⟨it.2.tags,q.1,it.2.own,h5,?_,?_,?_⟩,f1⟩,by simp[f2],?_,?_⟩
    ·intro t ht hm
     exact dh.2 (rT.1 h4 t (eH.2 ⟨ht,hm⟩))
    ·rw[<-h2];subst e;exact q1
    ·subst e
     rw[ex]
     exact q2.ow q3
    ·intro b hb
     rw[nO]at hb
     rcases dD.1 hb with h|h
     ·exact q2.sub b h
     ·exact f3 b h
    ·simp[Ip,h1,f4,Result.andThen]
end
end
end Go.Proofs.YtplpeegfeajkkaaGreatDoor.Ow
