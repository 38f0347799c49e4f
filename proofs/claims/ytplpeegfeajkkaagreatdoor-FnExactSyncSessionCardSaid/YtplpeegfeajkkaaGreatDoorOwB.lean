/- A verified reading of translated code, part B of 7. No condition. -/
import Derived.Test.YtplpeegfeajkkaaGreatDoorOwA
set_option linter.unusedSectionVars false
set_option linter.unusedVariables false
set_option linter.unusedSimpArgs false
namespace Go.Proofs.YtplpeegfeajkkaaGreatDoor.Ow
section
open Go
variable [Fr]
theorem upd_same{A:Type}(f:Nat->A)(n:Nat)(v:A):upd f n v n=v:=by simp[upd]
theorem upd_ne{A:Type}(f:Nat->A){n m:Nat}(v:A)(h:m≠n):upd f n v m=f m:=by
 unfold upd
 cases h':Nat.beq m n with
 |true=>exact absurd (bD h') h
 |false=>rfl
structure Same(Z:St)(J:aO)(Z':St)(J':aO)(r:Nat):Prop where
 root:Z'.roots r=Z.roots r
 loc:J'.loc r=J.loc r
 hdr:J'.hdr r=J.hdr r
 fo:J'.fo r=J.fo r
theorem Same.wh{Z Z':St}{J J':aO}{r:Nat}(h:Same Z J Z' J' r)(R:Root):aS J' R r=aS J R r:=by unfold aS;rw[h.loc]
theorem Same.blk{Z Z':St}{J J':aO}{r:Nat}(h:Same Z J Z' J' r)(R:Root):blk J' R r=blk J R r:=by unfold Ow.blk;rw[h.wh,h.fo]
theorem Same.live{Z Z':St}{J J':aO}{r:Nat}(h:Same Z J Z' J' r)(R:Root):aX Z' r R↔aX Z r R:=by unfold aX;rw[h.root]
def Stepped(Z:St)(J:aO)(Z':St)(J':aO)(lw lh:Nat->List Nat)(r:Nat)(R R':Root):Prop:=
 R'.w=lw r++R.w/\R'.h=lh r++R.h/\R.g<=R'.g/\R'.kind=R.kind/\J'.loc r=J.loc r/\(R.kind=.par->R'.k.size=R.k.size)/\((lw r≠[]\/lh r≠[])\/(lw r=[]/\lh r=[]/\Same Z J Z' J' r))
def Loose(cx:Cx)(Z':St)(lw:Nat->List Nat)(w:World)(r b:Nat):Prop:=
 (∀R',Z'.roots r=some R'->R'.cZ=true)\/(∃e∈lw r,jM (hp w) b=some e)\/(oh cx b/\lw r≠[])
structure iO(cx:Cx)(Z:St)(J:aO)(F:List Nat)(w:World)(Z':St)(J':aO)(F':List Nat)(w':World)(lw lh:Nat->List Nat):Prop where
 slots:Z'.slots=Z.slots
 os:w'.os=w.os/\w'.tape=w.tape/\w'.output=w.output
 size:w.heap.size<=w'.heap.size
 old:∀r R,Z.roots r=some R->∃R',Z'.roots r=some R'/\((R'.cZ=true/\R.kind≠.par)\/(R.cZ=false/\Stepped Z J Z' J' lw lh r R R'))
 wr:∀r R',Z'.roots r=some R'->¬Same Z J Z' J' r->gB Z' R'.tags/\gZ r=false/\(∀n,(r,n)∉R'.tags)
 aci:∀r R',Z.roots r=none->Z'.roots r=some R'->R'.kind≠.par
 qI:∀b,b<w.heap.size->hp w' b≠hp w b->b∈F\/∃r R,aX Z r R/\b∈blk J R r/\Loose cx Z' lw w r b
 new:∀b,((∃r R',aX Z' r R'/\b∈blk J' R' r/\¬∃R,aX Z r R/\b∈blk J R r)\/b∈F')->b∈F\/(w.heap.size<=b/\b<w'.heap.size)\/∃r R,aX Z r R/\b∈blk J R r/\Loose cx Z' lw w r b
 iw:F'.Nodup
 fI:∀r R',aX Z' r R'->¬Same Z J Z' J' r->∀b∈blk J' R' r,b∉F'
 lN:∀r R r' R',aX Z' r R->aX Z' r' R'->r≠r'->¬Same Z J Z' J' r->¬Same Z J Z' J' r'->∀b∈blk J' R r,b∉blk J' R' r'
 base:∀j pi b o n,cx.par j=some pi->pi.base=some (b,o,n)->hp w' b≠hp w b->mU (hp cx.w0) (hp w') b o n
 ev:∀r R R',Z.roots r=some R->Z'.roots r=some R'->R'.cZ=false->R'.ew=R.ew/\R'.eh=R.eh
section
variable {cx:Cx}{Z:St}{J:aO}{F:List Nat}{a:Act}{w:World}{Z':St}{J':aO}{F':List Nat}{w':World}{lw lh:Nat->List Nat}
theorem iO.tag(T:iO cx Z J F w Z' J' F' w' lw lh){t:Tag}(h:y8 Z t):y8 Z' t:=by
 rcases h with h|⟨R,h1,h2⟩
 ·exact .inl h
 ·obtain⟨R',g1,g2⟩:=T.old _ R h1
  refine .inr ⟨R',g1,?_⟩
  rcases g2 with⟨g2,_⟩|⟨gd,g2,_⟩
  ·exact .inl g2
  ·rcases h2 with h2|h2
   ·rw[gd]at h2;simp at h2
   ·right
    rw[g2]
    simp only[qO,dN]at h2 ⊢
    omega
theorem iO.dV(T:iO cx Z J F w Z' J' F' w' lw lh){x:AV}(h:dV Z x):dV Z' x:=by
 have key:∀(q:Nat) (f:Root->Nat) (n:Nat),(∀R R',Stepped Z J Z' J' lw lh q R R'->f R<=f R')->(∃Q,Z.roots q=some Q/\(Q.cZ=true\/n<=f Q))->∃Q,Z'.roots q=some Q/\(Q.cZ=true\/n<=f Q):=by
  intro q f n hf ⟨Q,h1,h2⟩
  obtain⟨R',g1,g2⟩:=T.old _ Q h1
  refine⟨R',g1,?_⟩
  rcases g2 with⟨g2,_⟩|⟨gd,g2⟩
  ·exact .inl g2
  ·rcases h2 with h2|h2
   ·rw[gd]at h2;simp at h2
   ·exact .inr (nC h2 (hf _ _ g2))
 cases x with
 |undef=>trivial
 |val k x Tg=>exact λt ht=>T.tag (h t ht)
 |fZ=>trivial
 |ref q g=>exact key q (·.g) g (λR R' h=>h.2.2.1) h
 |mg q g k p=>exact key q (·.g) g (λR R' h=>h.2.2.1) h
 |eP q p n=>exact key q Root.dY n (λR R' h=>by simp only[Root.dY,h.1,h.2.1,qO,dN];omega) h
 |ptr q p n=>exact key q (λR=>dR R.h) n (λR R' h=>by simp only[h.2.1,qO,dN];omega) h
 |gq bt k x Tg=>exact λt ht=>T.tag (h t ht)
 |jA=>trivial
 |pO _=>trivial
 |part q g _ _ _=>exact key q (·.g) g (λR R' h=>h.2.2.1) h
 |nN q p n _=>exact key q Root.dY n (λR R' h=>by simp only[Root.dY,h.1,h.2.1,qO,dN];omega) h
 |sub q p n _ _ _=>exact key q Root.dY n (λR R' h=>by simp only[Root.dY,h.1,h.2.1,qO,dN];omega) h
 |sel q p n q2 _ _=>
  refine⟨key q Root.dY n (λR R' h=>by simp only[Root.dY,h.1,h.2.1,qO,dN];omega) h.1,?_⟩
  obtain⟨R,hR⟩:=h.2
  obtain⟨R',g1,_⟩:=T.old _ R hR
  exact⟨R',g1⟩
 |app q p n q2=>
  refine⟨key q Root.dY n (λR R' h=>by simp only[Root.dY,h.1,h.2.1,qO,dN];omega) h.1,?_⟩
  obtain⟨R,hR⟩:=h.2
  obtain⟨R',g1,_⟩:=T.old _ R hR
  exact⟨R',g1⟩
 |fn f cs=>exact λc hc t ht=>T.tag (h c hc t ht)
theorem iO.nI(T:iO cx Z J F w Z' J' F' w' lw lh){x:gU}(h:nI Z x):nI Z' x:=by
 cases x with
 |one a=>exact T.dV h
 |mO l=>exact λa ha=>T.dV (h a ha)
 |lit _ _ l=>exact λa ha=>T.dV (h a ha)
theorem iO.held(H:Rel cx Z J F a w)(T:iO cx Z J F w Z' J' F' w' lw lh){Tg:List Tag}{tys:List TypeId}(hw:gB Z Tg)(hc:dG Z' tys Tg=true){r n b:Nat}{R:Root}(hr:aX Z r R)(hn:(r,n)∈Tg)(hbr:b∈blk J R r)
  (hty:(∃t∈tys,mh (hp w) b t)/\¬oh cx b\/∀t∈Tg,gZ t.1=true):clean R.w n tys=true/\¬Loose cx Z' lw w r b:=by
 have hnr:gZ r=false:=(H.gz r R hr.1).2.1
 rw[zV]at hc
 rcases hc (r,n) hn with h|⟨Q,h1,h2,h3⟩
 ·simp only at h;rw[hnr]at h;simp at h
 ·obtain⟨R',g1,g2⟩:=T.old _ R hr.1
  simp only at h1 h3
  rw[g1]at h1
  simp only[au]at h1
  subst h1
  rcases g2 with⟨g2,_⟩|⟨gd,g2,_⟩
  ·rw[h2]at g2;simp at g2
  ·have hb:n<=dR R.w:=by
    rcases hw (r,n) hn with h|⟨Q,q1,q2⟩
    ·simp only at h;rw[hnr]at h;simp at h
    ·simp only at q1 q2
     rw[hr.1]at q1
     simp only[au]at q1
     subst q1
     rcases q2 with q2|q2
     ·rw[hr.2]at q2;simp at q2
     ·exact q2
   rw[g2,Et hb]at h3
   refine⟨h3.2,?_⟩
   rintro(hx|⟨e,he,hel⟩|⟨hx,_⟩)
   rotate_left 2
   ·rcases hty with⟨_,hnb⟩|hty
    ·exact hnb hx
    ·have:=hty (r,n) hn
     simp only at this
     rw[hnr]at this
     simp at this
   ·have:=hx R' g1
    rw[h2]at this
    simp at this
   ·rcases hty with⟨⟨t,ht,Jl⟩,_⟩|hty
    ·have Jl:=H.C_ ((H.roots r R hr).mine b hbr) Jl
     rw[hel]at Jl
     simp only[au]at Jl
     subst Jl
     exact h3.1 e he ht
    ·have:=hty (r,n) hn
     simp only at this
     rw[hnr]at this
     simp at this
theorem iO.views(H:Rel cx Z J F a w)(T:iO cx Z J F w Z' J' F' w' lw lh):Views cx Z J F w Z' J' F' w':=by
 intro Tg tys hw hc
 refine⟨?_,?_⟩
 ·rw[zV]
  intro t ht
  have hc':=zV.1 hc t ht
  rcases hw t ht with h|⟨R,h1,h2⟩
  ·exact .inl h
  ·cases hd:R.cZ with
   |false=>
    refine .inr ⟨R,h1,hd,?_⟩
    rcases hc' with hx|⟨Q,q1,q2,q3⟩
    ·have:=(H.gz _ _ h1).2.1
     rw[hx]at this
     simp at this
    ·obtain⟨R',g1,g2⟩:=T.old _ R h1
     rw[g1]at q1
     simp only[au]at q1
     subst q1
     rcases g2 with⟨g2,_⟩|⟨_,g2,_⟩
     ·rw[q2]at g2;simp at g2
     ·rcases h2 with h2|h2
      ·rw[hd]at h2;simp at h2
      ·rw[g2,Et h2]at q3
       exact q3.2
   |true=>
    rcases hc' with hx|⟨Q,q1,q2,q3⟩
    ·exact .inl hx
    ·obtain⟨R',g1,g2⟩:=T.old _ R h1
     rw[g1]at q1
     simp only[au]at q1
     subst q1
     rcases g2 with⟨g2,_⟩|⟨g2,_⟩
     ·rw[q2]at g2;simp at g2
     ·rw[hd]at g2;simp at g2
 ·have hQ:∀b,mH Z J F w Tg b->((∃t∈tys,mh (hp w) b t)/\¬oh cx b\/∀t∈Tg,gZ t.1=true)->mH Z' J' F' w' Tg b/\hp w' b=hp w b:=by
   intro b hb hty
   obtain⟨hb1,hb2,hb3⟩:=hb
   have hno:¬∃r R,aX Z r R/\b∈blk J R r/\Loose cx Z' lw w r b:=by
    rintro⟨r,R,hr,hbr,hl⟩
    obtain⟨n,hn⟩:=hb3 r R hr hbr
    exact(T.held H hw hc hr hn hbr hty).2 hl
   have hsame:hp w' b=hp w b:=by
    refine kD λhne=>?_
    rcases T.qI b hb1 hne with h|h
    ·exact hb2 h
    ·exact hno h
   have hnew:¬(b∈F\/(w.heap.size<=b/\b<w'.heap.size)\/∃r R,aX Z r R/\b∈blk J R r/\Loose cx Z' lw w r b):=by
    rintro(h|h|h)
    ·exact hb2 h
    ·omega
    ·exact hno h
   refine⟨⟨x_ hb1 T.size,λhF=>hnew (T.new b (.inr hF)),?_⟩,hsame⟩
   intro q Q hq hbq
   by_cases e:∃R,aX Z q R/\b∈blk J R q
   ·obtain⟨R,hR,hbR⟩:=e
    exact hb3 q R hR hbR
   ·exact absurd (T.new b (.inl ⟨q,Q,hq,hbq,e⟩)) hnew
  refine⟨λb hb hty=>?_,hQ⟩
  obtain⟨hb1,hb2,hb5,hb3,hb4⟩:=hb
  obtain⟨⟨g1,g2,g3⟩,g4⟩:=hQ b ⟨hb1,hb2,hb3⟩ (hty.imp (λh=>⟨h,hb5⟩) id)
  exact⟨⟨g1,g2,hb5,g3,hb4⟩,g4⟩
theorem iO.stay(H:Rel cx Z J F a w)(T:iO cx Z J F w Z' J' F' w' lw lh){q:Nat}{Q:Root}(hq:aX Z q Q)(hs:Same Z J Z' J' q):∀b∈blk J Q q,¬(b∈F\/(w.heap.size<=b/\b<w'.heap.size)\/∃r R,aX Z r R/\b∈blk J R r/\Loose cx Z' lw w r b):=by
 rintro b hb (h|h|⟨r,R,hr,hbr,hl⟩)
 ·exact H.fI q Q hq b hb h
 ·have:=((H.roots q Q hq).mine b hb).1;omega
 ·by_cases e:q=r
  ·subst e
   obtain⟨R',g1,g2⟩:=T.old _ Q hq.1
   have hR':R'=Q:=by
    have:=hs.root
    rw[g1,hq.1]at this
    simpa using this
   subst hR'
   rcases g2 with⟨g2,_⟩|⟨_,g2,_⟩
   ·rw[hq.2]at g2;simp at g2
   ·have hw0:lw q=[]:=by
     have:=congrArg List.length g2
     simp at this
     exact this
    rcases hl with hl|⟨e,he,_⟩|⟨_,hl⟩
    ·have:=hl R' g1
     rw[hq.2]at this
     simp at this
    ·rw[hw0]at he;simp at he
    ·exact hl hw0
  ·exact H.lN q Q r R hq hr e b hb hbr
theorem iO.other(H:Rel cx Z J F a w)(T:iO cx Z J F w Z' J' F' w' lw lh){q:Nat}{Q:Root}(hq:aX Z q Q)(hs:Same Z J Z' J' q):∀b∈blk J Q q,hp w' b=hp w b:=by
 intro b hb
 refine kD λhne=>?_
 have:=T.stay H hq hs b hb
 rcases T.qI b ((H.roots q Q hq).mine b hb).1 hne with h|h
 ·exact this (.inl h)
 ·exact this (.inr (.inr h))
theorem iO.av(H:Rel cx Z J F a w)(T:iO cx Z J F w Z' J' F' w' lw lh)
  (qL:∀r R,aX Z r R->¬Same Z J Z' J' r->∀p n v,n<=dR R.h->a_ cx Z J F w (.ptr r p n) v->a_ cx Z' J' F' w' (.ptr r p n) v)
  (qN:∀r R,aX Z r R->¬Same Z J Z' J' r->∀g v,g<=R.g->a_ cx Z J F w (.ref r g) v->a_ cx Z' J' F' w' (.ref r g) v)
  {x:AV} {v:Value} (hx:Ow.dV Z x) (h:a_ cx Z J F w x v):a_ cx Z' J' F' w' x v:=by
 have hV:=T.views H
 have og:∀{q:Nat} {Q:Root} {p:List Stp},Z.roots q=some Q->Same Z J Z' J' q->dF Z' Q->bX p Q.k Q.x->(∀t∈az p Q.k,ah t Q.own=true)->
   aW (hp w') p Q.k (J'.hdr q) (aS J' Q q)=aW (hp w) p Q.k (J.hdr q) (aS J Q q):=by
  intro q Q p hq hs hv hin hty
  have hv':=AQ hV (H.gz q Q hq).1 hv
  have hlive:aX Z q Q:=⟨hq,hv'.1⟩
  rw[hs.hdr,hs.wh]
  exact Uz p ((H.roots q Q hlive).ow hv') hin hty (λb hb=>T.other H hlive hs b (bH _ hb))
 have hlive:∀{q:Nat} {Q R':Root},Z.roots q=some Q->Z'.roots q=some R'->R'.cZ=false->aX Z q Q/\Stepped Z J Z' J' lw lh q Q R':=by
  intro q Q R' h1 h2 hd
  obtain⟨R'',g1,g2⟩:=T.old _ Q h1
  rw[h2]at g1
  simp only[au]at g1
  subst g1
  rcases g2 with⟨g2,_⟩|⟨gd,g2⟩
  ·rw[hd]at g2;simp at g2
  ·exact⟨⟨h1,gd⟩,g2⟩
 have TK:∀q g v,Ow.dV Z (.ref q g)->a_ cx Z J F w (.ref q g) v->a_ cx Z' J' F' w' (.ref q g) v:=by
  intro q g v hx h
  obtain⟨Q,h1,h2⟩:=hx
  intro R' hR' hg
  obtain⟨hl,hst⟩:=hlive h1 hR'.1 hR'.2
  by_cases e:Same Z J Z' J' q
  ·have hQ:R'=Q:=by
    have:=e.root
    rw[hR'.1,h1]at this
    simpa using this
   subst hQ
   have:=h R' hl hg
   rw[e.hdr]
   exact this
  ·rcases h2 with h2|h2
   ·rw[hl.2]at h2;simp at h2
   ·exact qN q Q hl e g v h2 h R' hR' hg
 have N8:∀{q:Nat} {Q R':Root} {n:Nat},Z.roots q=some Q->(Q.cZ=true\/n<=Q.dY)->Z'.roots q=some R'->R'.cZ=false->R'.dY=n->aX Z q Q/\Same Z J Z' J' q:=by
  intro q Q R' n h1 h2 hR' hd hn
  obtain⟨hl,hst⟩:=hlive h1 hR' hd
  obtain⟨s1,s2,_,_,_,_,s6⟩:=hst
  rcases s6 with s6|⟨_,_,e⟩
  ·exfalso
   rcases h2 with h2|h2
   ·rw[hl.2]at h2;simp at h2
   ·simp only[Root.dY,s1,s2,qO,dN]at hn h2
    rcases s6 with g5|g5<;>(have:=QN.2 g5;omega)
  ·exact⟨hl,e⟩
 cases x with
 |undef=>trivial
 |val k x Tg=>
  intro hc
  rcases hc with hc|hc
  ·obtain⟨cs,h1,h2⟩:=h (.inl hc)
   exact⟨cs,h1,nG hc h2⟩
  ·obtain⟨cs,h1,h2⟩:=h (.inr (hV Tg _ hx hc).1)
   exact⟨cs,h1,hV.vw hx hc (λ_ h=>h) h2⟩
 |fZ=>exact h
 |ref q g=>exact TK q g v hx h
 |mg q g k p=>
  obtain⟨u,b,off,k1,e1,hq,hc,e2,hr⟩:=h
  obtain⟨h1,h2⟩:=(hV [] [] (λ_ h=>by simp at h) rfl).2.2 b hq (.inr (λ_ h=>by simp at h))
  exact⟨u,b,off,k1,e1,h1,hc.congr h2,e2,TK q g u hx hr⟩
 |eP q p n=>
  obtain⟨Q,h1,h2⟩:=hx
  intro R' hR' hv hn d hd
  obtain⟨hl,hst⟩:=hlive h1 hR' hv.1
  obtain⟨s1,s2,_,_,_,_,s6⟩:=hst
  rcases s6 with s6|⟨_,_,e⟩
  ·exfalso
   rcases h2 with h2|h2
   ·rw[hl.2]at h2;simp at h2
   ·simp only[Root.dY,s1,s2,qO,dN]at hn h2
    rcases s6 with g5|g5<;>(have:=QN.2 g5;omega)
  ·have hQ:R'=Q:=by
    have:=e.root
    rw[hR',h1]at this
    simpa using this
   subst hQ
   have hv':=AQ hV (H.gz q R' h1).1 hv
   obtain⟨h1',h2',cs,wh,h3,h4⟩:=h R' h1 hv' hn d hd
   exact⟨h1',h2',cs,wh,by rw[og h1 e hv h1' h2'];exact h3,h4⟩
 |ptr q p n=>
  obtain⟨Q,h1,h2⟩:=hx
  refine⟨h.1,?_⟩
  intro R' hR' hv hn hty hs
  obtain⟨hl,hst⟩:=hlive h1 hR' hv.1
  by_cases e:Same Z J Z' J' q
  ·have hQ:R'=Q:=by
    have:=e.root
    rw[hR',h1]at this
    simpa using this
   subst hQ
   have hv':=AQ hV (H.gz q R' h1).1 hv
   obtain⟨h1',cs,b,o,h3,h4⟩:=h.2 R' h1 hv' hn hty hs
   exact⟨h1',cs,b,o,by rw[og h1 e hv h1' hty];exact h3,h4⟩
  ·rcases h2 with h2|h2
   ·rw[hl.2]at h2;simp at h2
   ·exact(qL q Q hl e p n v h2 h).2 R' hR' hv hn hty hs
 |gq bt k x Tg=>exact hV.ro hx h
 |jA=>exact h
 |pO _=>exact h
 |part q g lo hi sz=>
  obtain⟨b',b,n,c,e1,e2,e3,e4,e5,hr⟩:=h
  exact⟨b',b,n,c,e1,e2,e3,e4,e5,TK q g (.slice b n c) hx hr⟩
 |nN q p n m=>
  obtain⟨Q,h1,h2⟩:=hx
  obtain⟨b,c,ev,h⟩:=h
  refine⟨b,c,ev,?_⟩
  intro R' hR' hv hn d hd
  obtain⟨hl,e⟩:=N8 h1 h2 hR' hv.1 hn
  have hQ:R'=Q:=by
   have:=e.root
   rw[hR',h1]at this
   simpa using this
  subst hQ
  have hv':=AQ hV (H.gz q R' h1).1 hv
  obtain⟨h1',h2',n',wh,h3,h4⟩:=h R' h1 hv' hn d hd
  exact⟨h1',h2',n',wh,by rw[og h1 e hv h1' h2'];exact h3,h4⟩
 |sub q p n lo hi sz=>
  obtain⟨Q,h1,h2⟩:=hx
  obtain⟨b',b,m,c,ev,eb,e2,e3,e4,h⟩:=h
  refine⟨b',b,m,c,ev,eb,e2,e3,e4,?_⟩
  intro R' hR' hv hn d hd
  obtain⟨hl,e⟩:=N8 h1 h2 hR' hv.1 hn
  have hQ:R'=Q:=by
   have:=e.root
   rw[hR',h1]at this
   simpa using this
  subst hQ
  have hv':=AQ hV (H.gz q R' h1).1 hv
  obtain⟨h1',h2',wh,h3⟩:=h R' h1 hv' hn d hd
  exact⟨h1',h2',wh,by rw[og h1 e hv h1' h2'];exact h3⟩
 |sel q p n q2 x y=>
  obtain⟨⟨Q,h1,h2⟩,⟨Q2,h12⟩⟩:=hx
  intro R' hR' hv hn R2 hR2 hn2
  obtain⟨hl,e⟩:=N8 h1 h2 hR' hv.1 hn
  have hQ:R'=Q:=by
   have:=e.root
   rw[hR',h1]at this
   simpa using this
  subst hQ
  obtain⟨hl2,TM⟩:=hlive h12 hR2.1 hR2.2
  have e2:Same Z J Z' J' q2:=by
   obtain⟨s1,s2,_,_,_,_,s6⟩:=TM
   rcases s6 with s6|⟨_,_,e⟩
   ·exfalso
    simp only[Root.dY,s1,s2,qO,dN]at hn2
    rcases s6 with g5|g5<;>(have:=QN.2 g5;omega)
   ·exact e
  have vX:R2=Q2:=by
   have:=e2.root
   rw[hR2.1,h12]at this
   simpa using this
  subst vX
  have hv':=AQ hV (H.gz q R' h1).1 hv
  obtain⟨te,kk,xs,wh,bb,m,c,bq,m1,c1,a1,a2,a3,a4,a5,a6,a7,a8,a9⟩:=h R' h1 hv' hn R2 hl2 hn2
  refine⟨te,kk,xs,wh,bb,m,c,bq,m1,c1,a1,a2,a3,by rw[og h1 e hv a2 a3];exact a4,a5,by rw[e2.hdr];exact a6,a7,a8,λhm=>?_⟩
  obtain⟨b1,o1,b0,o0,y1,y2,y3,y4,y5⟩:=a9 hm
  have hs1:hp w' b1=hp w b1:=T.other H hl2 e2 b1 (bH _ y3)
  have hs0:hp w' b0=hp w b0:=T.other H hl e b0 (bH _ y4)
  exact⟨b1,o1,b0,o0,y1,y2,by rw[e2.fo];exact y3,by rw[e.fo];exact y4,λj i hj hi=>by rw[BZ hs1,BZ hs0];exact y5 j i hj hi⟩
 |app q p n q2=>
  obtain⟨⟨Q,h1,h2⟩,⟨Q2,h12⟩⟩:=hx
  intro R' hR' hv hn R2 hR2 hn2
  obtain⟨hl,e⟩:=N8 h1 h2 hR' hv.1 hn
  have hQ:R'=Q:=by
   have:=e.root
   rw[hR',h1]at this
   simpa using this
  subst hQ
  obtain⟨hl2,TM⟩:=hlive h12 hR2.1 hR2.2
  have e2:Same Z J Z' J' q2:=by
   obtain⟨s1,s2,_,_,_,_,s6⟩:=TM
   rcases s6 with s6|⟨_,_,e⟩
   ·exfalso
    simp only[Root.dY,s1,s2,qO,dN]at hn2
    rcases s6 with g5|g5<;>(have:=QN.2 g5;omega)
   ·exact e
  have vX:R2=Q2:=by
   have:=e2.root
   rw[hR2.1,h12]at this
   simpa using this
  subst vX
  have hv':=AQ hV (H.gz q R' h1).1 hv
  obtain⟨te,kk,xs,wh,b,m,c,ce,hq,b1,o1,c1,arr,lo,hi,a1,a2,a3,a4,a5,a6,a7,a8,a9,Ef,vS,a12,Rb,BS⟩:=h R' h1 hv' hn R2 hl2 hn2
  have hsR:∀b∈J.fo q,hp w' b=hp w b:=λb hb=>T.other H hl e b (bH _ hb)
  have hsQ:∀b∈J.fo q2,hp w' b=hp w b:=λb hb=>T.other H hl2 e2 b (bH _ hb)
  have hb1:hp w' b1=hp w b1:=by
   rcases BS with⟨_,h,_⟩|⟨_,h,_⟩
   ·exact hsR b1 h
   ·exact hsQ b1 h
  refine⟨te,kk,xs,wh,b,m,c,ce,hq,b1,o1,c1,arr,lo,hi,a1,a2,a3,by rw[og h1 e hv a2 a3];exact a4,a5,by rw[e2.hdr];exact a6,a7,a8,a9,hb1.trans Ef,vS,a12,Rb.congr hb1,?_⟩
  rcases BS with⟨z1,z2,z3⟩|⟨z1,z2,z3⟩
  ·exact .inl ⟨z1,by rw[e.fo];exact z2,z3⟩
  ·refine .inr ⟨z1,by rw[e2.fo];exact z2,λhm=>?_⟩
   obtain⟨b0,o0,y1,y2,y3⟩:=z3 hm
   exact⟨b0,o0,y1,by rw[e.fo];exact y2,λi hi'=>by rw[BZ hb1,BZ (hsR b0 y2)];exact y3 i hi'⟩
 |fn f cs=>
  obtain⟨vs,h1,h2⟩:=h
  exact⟨vs,h1,hV.caps hx h2⟩
theorem Uf{cx:Cx}{Z Z':St}{J J':aO}{F F':List Nat}{w w':World}{P:AV->Prop}(h:∀x v,P x->a_ cx Z J F w x v->a_ cx Z' J' F' w' x v) :
  ∀{l:List AV} {vs:List Value},(∀x∈l,P x)->iP cx Z J F w l vs->iP cx Z' J' F' w' l vs
 | [],[],_,_=>trivial
 |x :: l,v :: vs,hp,hl=>⟨h x v (hp x (by simp)) hl.1,Uf h (λy hy=>hp y (by simp[hy])) hl.2⟩
 | [],_ :: _,_,hl=>hl.elim
 |_ :: _,[],_,hl=>hl.elim
theorem aeV{cx:Cx}{Z Z':St}{J J':aO}{F F':List Nat}{w w':World}(h:∀x v,dV Z x->a_ cx Z J F w x v->a_ cx Z' J' F' w' x v){x:gU}{v:Value}(hx:nI Z x)(hv:jo cx Z J F w x v):jo cx Z' J' F' w' x v:=by
 cases x with
 |one a=>exact h a v hx hv
 |mO l=>
  obtain⟨vs,h1,h2⟩:=hv
  exact⟨vs,h1,Uf h hx h2⟩
 |lit _ _ l=>
  obtain⟨vs,cs,h1,h2⟩:=hv
  exact⟨vs,cs,h1,Uf h hx h2⟩
theorem Rel.turn(H:Rel cx Z J F a w)(T:iO cx Z J F w Z' J' F' w' lw lh)
  (hroot:∀r R,aX Z' r R->¬Same Z J Z' J' r->(dF Z' R->Ow (hp w') R.own (bK cx Z' J' F' w' R.tags) R.k R.x (J'.hdr r) (J'.fo r))/\(J'.hdr r).length=R.k.size/\
   (∀b o,aS J' R r=some (b,o)->Cells (hp w') b o (J'.hdr r)/\∃arr e lo hi,hp w' b=some (.cells arr e (lo,hi))/\jq arr.size lo hi/\o+R.k.size<=arr.size/\(∀t,R.kind=.var t->e=t))/\
   (blk J' R r).Nodup)
  (qL:∀r R,aX Z r R->¬Same Z J Z' J' r->∀p n v,n<=dR R.h->a_ cx Z J F w (.ptr r p n) v->a_ cx Z' J' F' w' (.ptr r p n) v)
  (qN:∀r R,aX Z r R->¬Same Z J Z' J' r->∀g v,g<=R.g->a_ cx Z J F w (.ref r g) v->a_ cx Z' J' F' w' (.ref r g) v) :
  Rel cx Z' J' F' a w':=by
 have hV:=T.views H
 have aa2:∀{r R b},aX Z r R->b∈blk J R r->mine cx w' b:=λhr hb=>by
  have:=(H.roots _ _ hr).mine _ hb
  exact⟨x_ this.1 T.size,this.2⟩
 have jQ:∀b,(b∈F\/(w.heap.size<=b/\b<w'.heap.size)\/∃r R,aX Z r R/\b∈blk J R r/\Loose cx Z' lw w r b)->mine cx w' b:=by
  rintro b (hb|hb|⟨r,R,hr,hb,_⟩)
  ·have:=H.fl b hb
   exact⟨x_ this.1 T.size,this.2⟩
  ·exact⟨hb.2,.inl (nC H.frame.2.2.2.1 hb.1)⟩
  ·exact aa2 hr hb
 have aa1:∀{r R b},aX Z' r R->b∈blk J' R r->mine cx w' b:=by
  intro r R b hr hb
  by_cases e:∃Q,aX Z r Q/\b∈blk J Q r
  ·obtain⟨Q,hQ,hbQ⟩:=e
   exact aa2 hQ hbQ
  ·exact jQ b (T.new b (.inl ⟨r,R,hr,hb,e⟩))
 have abp:∀{q Q r R b},aX Z' q Q->Same Z J Z' J' q->aX Z' r R->r≠q->b∈blk J' Q q->b∉blk J' R r:=by
  intro q Q r R b hq hs hr hne hb hb'
  have hq':=(hs.live Q).1 hq
  rw[hs.blk]at hb
  by_cases e:∃R0,aX Z r R0/\b∈blk J R0 r
  ·obtain⟨R0,h1,h2⟩:=e
   exact H.lN q Q r R0 hq' h1 (Ne.symm hne) b hb h2
  ·exact T.stay H hq' hs b hb (T.new b (.inl ⟨r,R,hr,hb',e⟩))
 constructor
 ·exact H.defs
 ·exact H.sz
 ·intro j pi b o n hj hb
  obtain⟨R,h1,h2,h3,h4⟩:=H.kI j pi b o n hj hb
  obtain⟨R',g1,g2⟩:=T.old _ R h1.1
  rcases g2 with g2|⟨_,g2⟩
  ·exact absurd h2 g2.2
  ·refine⟨R',⟨g1,?_⟩,g2.2.2.2.1.trans h2,g2.2.2.2.2.1.trans h3,(g2.2.2.2.2.2.1 h2).trans h4⟩
   unfold Root.cZ
   rw[g2.2.2.2.1,h2]
 ·intro q Q hq hk
  cases hs:Z.roots q with
  |none=>exact absurd hk (T.aci q Q hs hq.1)
  |some R=>
   obtain⟨R',g1,g2⟩:=T.old q R hs
   rw[hq.1]at g1
   simp only[au]at g1
   subst g1
   rcases g2 with⟨g2,_⟩|⟨gd,g2⟩
   ·rw[hq.2]at g2;simp at g2
   ·rw[g2.2.2.2.2.1]
    exact H.sW q R ⟨hs,gd⟩ (g2.2.2.2.1▸hk)
 ·intro s
  rw[T.slots]
  exact aeV (λx v hx h=>T.av H qL qN hx h) (H.tJ s) (H.slots s)
 ·intro s
  rw[T.slots]
  exact T.nI (H.tJ s)
 ·intro q Q hq
  by_cases e:Same Z J Z' J' q
  ·have hq':=(e.live Q).1 hq
   have K:=H.roots q Q hq'
   have hsame:=T.other H hq' e
   constructor
   ·intro hv
    have hv':=AQ hV (H.gz q Q hq'.1).1 hv
    rw[e.hdr,e.fo]
    have hO:=K.ow hv'
    obtain⟨_,g2,_⟩:=hV Q.tags Q.qR (H.gz q Q hq'.1).1 hv.2
    exact eO (λb hb=>(g2 b hb.1 (.inl hb.2)).2) (λb hb=>(g2 b hb.1 (.inl hb.2)).1) (λb hb=>hsame b (bH _ hb)) (tY Q.qR (λ_ h=>h) hO)
   ·rw[e.hdr];exact K.len
   ·intro b o hb
    rw[e.wh]at hb
    rw[e.hdr]
    obtain⟨h1,arr,te,lo,hi,h2,h3⟩:=K.mem b o hb
    have hbb:hp w' b=hp w b:=hsame b (by unfold blk;rw[hb];simp)
    exact⟨h1.congr hbb,arr,te,lo,hi,hbb.trans h2,h3⟩
   ·rw[e.blk];exact K.nd
   ·exact λb hb=>aa1 hq hb
  ·obtain⟨h1,h2,h3,h4⟩:=hroot q Q hq e
   exact⟨h1,h2,h3,h4,λb hb=>aa1 hq hb⟩
 ·intro q Q hq
  by_cases e:Same Z J Z' J' q
  ·obtain⟨h1,h2,h3⟩:=H.gz q Q (by rw[<-e.root];exact hq)
   exact⟨λt ht=>T.tag (h1 t ht),h2,h3⟩
  ·exact T.wr q Q hq e
 ·intro q Q q' Q' hq hq' hne b hb hb'
  by_cases e:Same Z J Z' J' q
  ·exact abp hq e hq' (Ne.symm hne) hb hb'
  ·by_cases e':Same Z J Z' J' q'
   ·exact abp hq' e' hq hne hb' hb
   ·exact T.lN q Q q' Q' hq hq' hne e e' b hb hb'
 ·exact λb hb=>jQ b (T.new b (.inr hb))
 ·exact T.iw
 ·intro q Q hq b hb hF
  by_cases e:Same Z J Z' J' q
  ·rw[e.blk]at hb
   exact T.stay H ((e.live Q).1 hq) e b hb (T.new b (.inr hF))
  ·exact T.fI q Q hq e b hb hF
 ·obtain⟨f1,f2,f3,f4,f5,f6⟩:=H.frame
  refine⟨T.os.1.trans f1,T.os.2.1.trans f2,T.os.2.2.trans f3,nC f4 T.size,?_,?_⟩
  ·intro b hb hno
   have:hp w' b=hp w b:=by
    refine kD λhne=>?_
    have hm:mine cx w b:=by
     rcases T.qI b (x_ hb f4) hne with h|⟨r,R,hr,h,_⟩
     ·exact H.fl b h
     ·exact(H.roots r R hr).mine b h
    rcases hm.2 with h|⟨j,pi,h1,h2⟩
    ·omega
    ·exact hno j pi h1 h2
   exact this.trans (f5 b hb hno)
  ·intro j pi b o n hj hb
   by_cases hne:hp w' b=hp w b
   ·have:=f6 j pi b o n hj hb
    obtain⟨arr,gH,e,fr,h1,h2,h3⟩:=this
    exact⟨arr,gH,e,fr,h1,hne.trans h2,h3⟩
   ·exact T.base j pi b o n hj hb hne
 ·intro j pi hj hk
  obtain⟨R,h1,h2⟩:=H.qj j pi hj hk
  obtain⟨R',g1,g2⟩:=T.old _ R h1
  refine⟨R',g1,λhd b hb hnb=>?_⟩
  rcases g2 with⟨g2,_⟩|⟨gd,g2,_⟩
  ·rw[hd]at g2;simp at g2
  ·have hev:=(T.ev _ R R' h1 g1 hd).1
   rcases h2 gd b hb hnb with⟨e,he,nM⟩|⟨hs,hF,hown⟩
   ·refine .inl ⟨e,he,?_⟩
    rw[g2,hev]
    rcases nM with h|h
    ·exact .inl (bH _ h)
    ·exact .inr h
   ·by_cases nM:∃e∈lw (aa j),jM (hp w) b=some e
    ·obtain⟨e,he,hel⟩:=nM
     exact .inl ⟨e,(ZX hs).symm.trans hel,.inl (by rw[g2];exact bQ _ he)⟩
    ·have hno:¬∃r Q,aX Z r Q/\b∈blk J Q r/\Loose cx Z' lw w r b:=by
      rintro⟨r,Q,hr,hbr,hl⟩
      have e:=hown r Q hr hbr
      subst e
      rcases hl with hl|hl|⟨hl,_⟩
      ·have:=hl R' g1
       rw[hd]at this
       simp at this
      ·exact nM hl
      ·exact hnb hl
     by_cases hlt:b<w.heap.size
     ·refine .inr ⟨?_,?_,?_⟩
      ·refine Eq.trans ?_ hs
       refine kD λhne=>?_
       rcases T.qI b hlt hne with h|h
       ·exact hF h
       ·exact hno h
      ·intro hF'
       rcases T.new b (.inr hF')with h|h|h
       ·exact hF h
       ·omega
       ·exact hno h
      ·intro q Q hq hbq
       by_cases e:∃R,aX Z q R/\b∈blk J R q
       ·obtain⟨R0,hR0,hbR⟩:=e
        exact hown q R0 hR0 hbR
       ·rcases T.new b (.inl ⟨q,Q,hq,hbq,e⟩)with h|h|h
        ·exact absurd h hF
        ·omega
        ·exact absurd h hno
     ·exact absurd (H.mJ.1 j pi hj b hb) (by have:=H.frame.2.2.2.1;omega)
 ·exact H.mJ
 ·intro j p ts v hv
  obtain⟨hvp,R,h1,h2⟩:=H.rJ j p ts v hv
  obtain⟨R',g1,g2⟩:=T.old _ R h1
  refine⟨hvp,R',g1,λht=>?_⟩
  cases hd:R'.cZ with
  |true=>
   rcases g2 with⟨_,g2⟩|⟨gd,g2⟩
   ·refine⟨hvp,λQ hQ hv'=>?_⟩
    rw[g1]at hQ
    simp only[au]at hQ
    subst hQ
    have:=hv'.1
    rw[hd]at this
    simp at this
   ·have:R'.cZ=R.cZ:=by unfold Root.cZ;rw[g2.2.2.2.1]
    rw[hd,gd]at this
    simp at this
  |false=>
   have hev:=(T.ev _ R R' h1 g1 hd).2
   exact T.av H qL qN (show Ow.dV Z (.ptr (aa j) p 0)from⟨R,h1,.inr (fQ _)⟩) (h2 (by rw[<-hev];exact ht))
 ·intro j v hv
  obtain⟨⟨R,h1⟩,h2⟩:=H.rM j v hv
  obtain⟨R',g1,_⟩:=T.old _ R h1
  exact⟨⟨R',g1⟩,T.av H qL qN (show Ow.dV Z (.ref (aa j) 0)from⟨R,h1,.inr (fQ _)⟩) h2⟩
end
def aR(Z:St)(r:Nat)(R:Root):St:={ Z with roots:=upd Z.roots r (some R) }
def aV(J:aO)(r:Nat)(loc:Nat×Nat)(hdr:List Value)(fo:List Nat):aO:=⟨upd J.loc r loc,upd J.hdr r hdr,upd J.fo r fo⟩
theorem fG(Z:St)(r:Nat)(R:Root):(aR Z r R).roots r=some R:=upd_same _ _ _
theorem jR(Z:St){r q:Nat}(R:Root)(h:q≠r):(aR Z r R).roots q=Z.roots q:=upd_ne _ _ h
theorem Uh{Z:St}{r q:Nat}{R Q:Root}(h:q≠r):aX (aR Z r R) q Q↔aX Z q Q:=by unfold aX;rw[jR Z R h]
theorem pK{Z:St}{r:Nat}{R Q:Root}(h:aX (aR Z r R) r Q):Q=R/\R.cZ=false:=by
 have h1:=h.1
 rw[fG]at h1
 simp only[au]at h1
 subst h1
 exact⟨rfl,h.2⟩
theorem l9{Z:St}{J:aO}{r q:Nat}{R:Root}{loc:Nat×Nat}{hdr:List Value}{fo:List Nat}(h:q≠r):Same Z J (aR Z r R) (aV J r loc hdr fo) q:=
 ⟨jR Z R h,upd_ne _ _ h,upd_ne _ _ h,upd_ne _ _ h⟩
theorem vN(Z:St)(J:aO)(q:Nat):Same Z J Z J q:=⟨rfl,rfl,rfl,rfl⟩
def jh(R:Root)(loc:Nat×Nat)(fo:List Nat):List Nat:=(match R.kind with
 |.var _=>[loc.1]
 |.par=>[loc.1]
 |_=>[])++fo
theorem qa{J:aO}{r:Nat}{loc:Nat×Nat}{hdr:List Value}{fo:List Nat}{Q:Root}:blk (aV J r loc hdr fo) Q r=jh Q loc fo:=by
 unfold blk jh aS aV
 simp only[upd_same]<;>cases Q.kind<;>rfl
theorem jF(J:aO)(R:Root)(r:Nat):blk J R r=jh R (J.loc r) (J.fo r):=by
 unfold blk jh aS
 cases R.kind<;>rfl
def ny(R:Root)(loc:Nat×Nat):Option (Nat×Nat):=match R.kind with
 |.var _=>some loc
 |.par=>some loc
 |_=>none
theorem wL{J:aO}{r:Nat}{loc:Nat×Nat}{hdr:List Value}{fo:List Nat}{Q:Root}:aS (aV J r loc hdr fo) Q r=ny Q loc:=by
 unfold aS ny aV
 simp only[upd_same]<;>cases Q.kind<;>rfl
theorem AX(J:aO)(R:Root)(r:Nat):aS J R r=ny R (J.loc r):=rfl
end
section
open Go
variable [Fr]
def uL(Z:St)(s:Nat->gU):St:=⟨s,Z.roots⟩
theorem IP(Z:St)(s:Nat->gU)(tys:List TypeId):∀(T:List Tag),dG (uL Z s) tys T=dG Z tys T
 | []=>rfl
 |(r,n) :: T=>by simp only[dG,IP Z s tys T];rfl
section
variable {cx:Cx}{Z:St}{J:aO}{F:List Nat}{a:Act}{w:World}
theorem acw(s:Nat->gU):bK cx (uL Z s) J F w=bK cx Z J F w:=rfl
theorem adZ(s:Nat->gU){bt:TypeId}{k:K}{x:El k}{T:List Tag}{v:Value}:wJ cx (uL Z s) J F w bt k x T v↔wJ cx Z J F w bt k x T v:=by
 unfold wJ
 rw[IP,acw]
 exact Iff.rfl
theorem Zu(s:Nat->gU):∀{cs:List (TypeId×Dat×List Tag)} {vs:List Value},nJ cx (uL Z s) J F w cs vs↔nJ cx Z J F w cs vs
 | [],[]=>Iff.rfl
 |c :: cs,v :: vs=>by simp only[nJ,adZ s,Zu s]
 | [],_ :: _=>Iff.rfl
 |_ :: _,[]=>Iff.rfl
theorem AR(s:Nat->gU){R:Root}:dF (uL Z s) R↔dF Z R:=by unfold dF;rw[IP]
theorem KD(s:Nat->gU){x:AV}{v:Value}:a_ cx (uL Z s) J F w x v↔a_ cx Z J F w x v:=by
 cases x with
 |undef=>exact Iff.rfl
 |val k x T=>simp only[a_,IP,acw]
 |fZ=>exact Iff.rfl
 |ref r g=>exact Iff.rfl
 |mg r g k p=>exact Iff.rfl
 |eP r p n=>simp only[a_,AR];exact Iff.rfl
 |ptr r p n=>simp only[a_,AR];exact Iff.rfl
 |gq bt k x T=>exact adZ s
 |jA=>exact Iff.rfl
 |pO _=>exact Iff.rfl
 |part _ _ _ _ _=>exact Iff.rfl
 |nN _ _ _ _=>simp only[a_,AR];exact Iff.rfl
 |sub _ _ _ _ _ _=>simp only[a_,AR];exact Iff.rfl
 |sel _ _ _ _ _ _=>simp only[a_,AR];exact Iff.rfl
 |app _ _ _ _=>simp only[a_,AR];exact Iff.rfl
 |fn f cs=>simp only[a_,Zu s]
theorem Ug(s:Nat->gU):∀{l:List AV} {vs:List Value},iP cx (uL Z s) J F w l vs↔iP cx Z J F w l vs
 | [],[]=>Iff.rfl
 |c :: cs,v :: vs=>by simp only[iP,KD s,Ug s]
 | [],_ :: _=>Iff.rfl
 |_ :: _,[]=>Iff.rfl
theorem VH(s:Nat->gU){x:gU}{v:Value}:jo cx (uL Z s) J F w x v↔jo cx Z J F w x v:=by
 cases x with
 |one a=>exact KD s
 |mO l=>simp only[jo,Ug s]
 |lit _ _ l=>simp only[jo,Ug s]
theorem Zd(s:Nat->gU){x:gU}:nI (uL Z s) x↔nI Z x:=by cases x<;>exact Iff.rfl
theorem Rel.put(H:Rel cx Z J F a w){d:Nat}{x:gU}{v:Value}(hd:d<cx.nt)(hw:nI Z x)(hx:jo cx Z J F w x v) :
  Rel cx (uL Z (upd Z.slots d x)) J F (a.put (some d) v) w where
 defs:=H.defs
 sz:=by simpa[Act.put]using H.sz
 kI:=H.kI
 sW:=H.sW
 slots:=by
  intro s
  rw[VH]
  show jo cx Z J F w (upd Z.slots d x s) _
  by_cases e:s=d
  ·subst e
   rw[upd_same]
   have:(a.put (some s) v).tmps.getD s undef=v:=by
    have:=H.sz
    simp[Act.put,VL (show s<a.tmps.size by omega)]
   rw[this]
   exact hx
  ·rw[upd_ne _ _ e]
   have:(a.put (some d) v).tmps.getD s undef=a.tmps.getD s undef:=by
    simp[Act.put,VK (Ne.symm e)]
   rw[this]
   exact H.slots s
 tJ:=by
  intro s
  rw[Zd]
  show nI Z (upd Z.slots d x s)
  by_cases e:s=d
  ·subst e;rw[upd_same];exact hw
  ·rw[upd_ne _ _ e];exact H.tJ s
 roots:=by
  intro r R hr
  have K:=H.roots r R hr
  exact⟨λhv=>K.ow ((AR _).1 hv),K.len,K.mem,K.nd,K.mine⟩
 gz:=H.gz
 lN:=H.lN
 fl:=H.fl
 iw:=H.iw
 fI:=H.fI
 frame:=H.frame
 qj:=H.qj
 mJ:=H.mJ
 rJ:=λj p ts v h=>let ⟨h0,R,h1,h2⟩:=H.rJ j p ts v h;⟨h0,R,h1,λht=>(KD _).2 (h2 ht)⟩
 rM:=H.rM
def dw(w:World)(n:Nat):World:={ w with drawn:=n }
theorem Zt(n:Nat):∀{cs:List (TypeId×Dat×List Tag)} {vs:List Value},nJ cx Z J F w cs vs->nJ cx Z J F (dw w n) cs vs
 | [],[],_=>trivial
 |_ :: _,_ :: _,h=>⟨h.1,Zt n h.2⟩
 | [],_ :: _,h=>h.elim
 |_ :: _,[],h=>h.elim
theorem KC(n:Nat){x:AV}{v:Value}(h:a_ cx Z J F w x v):a_ cx Z J F (dw w n) x v:=by
 cases x with
 |fn f cs=>obtain⟨vs,h1,h2⟩:=h;exact⟨vs,h1,Zt n h2⟩
 |undef=>exact h
 |val k x T=>exact h
 |fZ=>exact h
 |ref r g=>exact h
 |mg r g k p=>exact h
 |eP r p n=>exact h
 |ptr r p n=>exact h
 |gq bt k x T=>exact h
 |jA=>exact h
 |pO _=>exact h
 |part _ _ _ _ _=>exact h
 |nN _ _ _ _=>exact h
 |sub _ _ _ _ _ _=>exact h
 |sel _ _ _ _ _ _=>exact h
 |app _ _ _ _=>exact h
theorem Rel.drawn(H:Rel cx Z J F a w)(n:Nat):Rel cx Z J F a (dw w n) where
 defs:=H.defs
 sz:=H.sz
 kI:=H.kI
 sW:=H.sW
 slots:=λs=>by
  have h:=H.slots s
  generalize Z.slots s=x at h
  cases x with
  |one a=>exact KC n h
  |mO l=>
   obtain⟨vs,h1,h2⟩:=h
   refine⟨vs,h1,?_⟩
   clear h1
   induction l generalizing vs with
   |nil=>cases vs with
    |nil=>trivial
    |cons v vs=>exact h2.elim
   |cons b l ih=>cases vs with
    |nil=>exact h2.elim
    |cons v vs=>exact⟨KC n h2.1,ih vs h2.2⟩
  |lit _ _ l=>
   obtain⟨vs,cs,h1,h2⟩:=h
   refine⟨vs,cs,h1,?_⟩
   clear h1
   induction l generalizing vs with
   |nil=>cases vs with
    |nil=>trivial
    |cons v vs=>exact h2.elim
   |cons b l ih=>cases vs with
    |nil=>exact h2.elim
    |cons v vs=>exact⟨KC n h2.1,ih vs h2.2⟩
 tJ:=H.tJ
 roots:=λr R hr=>let K:=H.roots r R hr;⟨K.ow,K.len,K.mem,K.nd,K.mine⟩
 gz:=H.gz
 lN:=H.lN
 fl:=H.fl
 iw:=H.iw
 fI:=H.fI
 frame:=H.frame
 qj:=H.qj
 mJ:=H.mJ
 rJ:=λj p ts v h=>let ⟨h0,R,h1,h2⟩:=H.rJ j p ts v h;⟨h0,R,h1,λht=>KC n (h2 ht)⟩
 rM:=H.rM
def kH(r:Nat)(l:List Nat):Nat->List Nat:=λq=>if q=r then l else []
theorem FK(r:Nat)(l:List Nat):kH r l r=l:=aj rfl
theorem u_{r q:Nat}(l:List Nat)(h:q≠r):kH r l q=[]:=aC h
variable {r:Nat}{R R':Root}{hdr':List Value}{aM F':List Nat}{w':World}{lw lh:List Nat}
def QS(cx:Cx)(R':Root)(lw:List Nat)(w:World)(b:Nat):Prop:=R'.cZ=true\/(∃e∈lw,jM (hp w) b=some e)\/(oh cx b/\lw≠[])
structure vO(cx:Cx)(Z:St)(J:aO)(F:List Nat)(w:World)(r:Nat)(R R':Root)(aM F':List Nat)(w':World)(lw lh:List Nat):Prop where
 step:(R'.cZ=true/\R.kind≠.par)\/(R'.w=lw++R.w/\R'.h=lh++R.h/\R.g<=R'.g/\R'.kind=R.kind/\(R.kind=.par->R'.k.size=R.k.size)/\(lw≠[]\/lh≠[]))
 tags:gB Z R'.tags/\∀n,(r,n)∉R'.tags
 os:w'.os=w.os/\w'.tape=w.tape/\w'.output=w.output
 size:w.heap.size<=w'.heap.size
 qI:∀b,b<w.heap.size->hp w' b≠hp w b->b∈F\/(b∈blk J R r/\QS cx R' lw w b)
 new:R'.cZ=false->∀b∈jh R' (J.loc r) aM,b∈blk J R r\/b∈F\/(w.heap.size<=b/\b<w'.heap.size)
 newF:∀b∈F',b∈F\/(w.heap.size<=b/\b<w'.heap.size)\/(b∈blk J R r/\QS cx R' lw w b)
 iw:F'.Nodup
 fI:R'.cZ=false->∀b∈jh R' (J.loc r) aM,b∉F'
 base:∀j pi b o n,cx.par j=some pi->pi.base=some (b,o,n)->r=aa j->hp w' b≠hp w b->mU (hp cx.w0) (hp w') b o n
 ev:R'.cZ=false->R'.ew=R.ew/\R'.eh=R.eh
theorem uF{q:Nat}{Q:Root}(h:aX (aR Z r R') q Q):(q=r/\Q=R'/\R'.cZ=false)\/(q≠r/\aX Z q Q):=by
 by_cases e:q=r
 ·subst e
  obtain⟨h1,h2⟩:=pK h
  exact .inl ⟨rfl,h1,h2⟩
 ·exact .inr ⟨e,(Uh e).1 h⟩
theorem vO.turn(H:Rel cx Z J F a w)(hr:aX Z r R)(T:vO cx Z J F w r R R' aM F' w' lw lh) :
  iO cx Z J F w (aR Z r R') (aV J r (J.loc r) hdr' aM) F' w' (kH r lw) (kH r lh):=by
 have hsame:∀q,q≠r->Same Z J (aR Z r R') (aV J r (J.loc r) hdr' aM) q:=λq h=>l9 h
 have aaZ:∀b,QS cx R' lw w b->Loose cx (aR Z r R') (kH r lw) w r b:=by
  rintro b (h|⟨e,he,hb⟩|⟨h,hl⟩)
  ·refine .inl λQ hQ=>?_
   rw[fG]at hQ
   simp only[au]at hQ
   subst hQ
   exact h
  ·exact .inr (.inl ⟨e,by rw[FK];exact he,hb⟩)
  ·exact .inr (.inr ⟨h,by rw[FK];exact hl⟩)
 have hns:∀{q:Nat},¬Same Z J (aR Z r R') (aV J r (J.loc r) hdr' aM) q->q=r:=λ{q} h=>kD λe=>h (hsame q e)
 refine⟨rfl,T.os,T.size,?_,?_,?_,?_,?_,T.iw,?_,?_,?_,?_⟩
 ·intro q Q hQ
  by_cases e:q=r
  ·subst e
   rw[hr.1]at hQ
   simp only[au]at hQ
   subst hQ
   refine⟨R',fG ..,?_⟩
   rcases T.step with h|⟨h1,h2,h3,h4,h5,h6⟩
   ·exact .inl h
   ·exact .inr ⟨hr.2,by rw[FK];exact h1,by rw[FK];exact h2,h3,h4,by simp[aV,upd_same],h5,by rw[FK,FK];exact .inl h6⟩
  ·refine⟨Q,by rw[jR Z R' e];exact hQ,?_⟩
   cases hd:Q.cZ with
   |true=>
    refine .inl ⟨rfl,?_⟩
    intro hk
    simp[Root.cZ,hk]at hd
   |false=>exact .inr ⟨rfl,by rw[u_ lw e];rfl,by rw[u_ lh e];rfl,bV _,rfl,by simp[aV,upd_ne _ _ e],λ_=>rfl,.inr ⟨u_ lw e,u_ lh e,hsame q e⟩⟩
 ·intro q Q hQ hs
  have e:=hns hs
  subst e
  rw[fG]at hQ
  simp only[au]at hQ
  subst hQ
  refine⟨λt ht=>?_,(H.gz q R hr.1).2.1,T.tags.2⟩
  have hne:t.1≠q:=λe=>T.tags.2 t.2 (by rw[<-e];exact ht)
  rcases T.tags.1 t ht with h|⟨Q,h1,h2⟩
  ·exact .inl h
  ·exact .inr ⟨Q,by rw[jR Z R' hne];exact h1,h2⟩
 ·intro q Q hn hQ
  have e:q≠r:=λe=>by rw[e,hr.1]at hn;simp at hn
  rw[jR Z R' e,hn]at hQ
  simp at hQ
 ·intro b hb hne
  exact(T.qI b hb hne).imp id (λh=>⟨r,R,hr,h.1,aaZ b h.2⟩)
 ·rintro b (⟨q,Q,hq,hb,hno⟩|hb)
  ·rcases uF hq with⟨rfl,rfl,hd⟩|⟨e,hq'⟩
   ·rw[qa]at hb
    rcases T.new hd b hb with h|h|h
    ·exact absurd ⟨R,hr,h⟩ hno
    ·exact .inl h
    ·exact .inr (.inl h)
   ·rw[(hsame q e).blk]at hb
    exact absurd ⟨Q,hq',hb⟩ hno
  ·rcases T.newF b hb with h|h|h
   ·exact .inl h
   ·exact .inr (.inl h)
   ·exact .inr (.inr ⟨r,R,hr,h.1,aaZ b h.2⟩)
 ·intro q Q hq hs b hb
  have e:=hns hs
  subst e
  obtain⟨rfl,hd⟩:=pK hq
  rw[qa]at hb
  exact T.fI hd b hb
 ·intro q Q q' Q' hq hq' hne hs hs'
  exact absurd ((hns hs).trans (hns hs').symm) hne
 ·intro j pi b o n hj hb hne
  obtain⟨Q,hQ,hk,hl,hs⟩:=H.kI j pi b o n hj hb
  have hbq:b∈blk J Q (aa j):=by simp[blk,aS,hk,hl]
  have hm:=(H.roots _ _ hQ).mine b hbq
  rcases T.qI b hm.1 hne with h|⟨h1,_⟩
  ·exact absurd h (H.fI _ _ hQ b hbq)
  ·refine T.base j pi b o n hj hb ?_ hne
   refine kD λe=>?_
   exact H.lN _ _ _ _ hr hQ e b h1 hbq
 ·intro q Q Q' hQ hQ' hd
  by_cases e:q=r
  ·subst e
   rw[hr.1]at hQ
   rw[fG]at hQ'
   simp only[au]at hQ hQ'
   subst hQ
   subst hQ'
   exact T.ev hd
  ·rw[jR Z R' e,hQ]at hQ'
   simp only[au]at hQ'
   subst hQ'
   exact⟨rfl,rfl⟩
theorem vO.rel(H:Rel cx Z J F a w)(hr:aX Z r R)(T:vO cx Z J F w r R R' aM F' w' lw lh)
  (hroot:R'.cZ=false->(dF (aR Z r R') R'->Ow (hp w') R'.own (bK cx (aR Z r R') (aV J r (J.loc r) hdr' aM) F' w' R'.tags) R'.k R'.x hdr' aM)/\hdr'.length=R'.k.size/\
   (∀b o,ny R' (J.loc r)=some (b,o)->Cells (hp w') b o hdr'/\∃arr e lo hi,hp w' b=some (.cells arr e (lo,hi))/\jq arr.size lo hi/\o+R'.k.size<=arr.size/\(∀t,R'.kind=.var t->e=t))/\
   (jh R' (J.loc r) aM).Nodup)
  (qL:R'.cZ=false->∀p n v,n<=dR R.h->a_ cx Z J F w (.ptr r p n) v->a_ cx (aR Z r R') (aV J r (J.loc r) hdr' aM) F' w' (.ptr r p n) v)
  (qN:R'.cZ=false->∀g v,g<=R.g->a_ cx Z J F w (.ref r g) v->a_ cx (aR Z r R') (aV J r (J.loc r) hdr' aM) F' w' (.ref r g) v) :
  Rel cx (aR Z r R') (aV J r (J.loc r) hdr' aM) F' a w':=by
 have hns:∀{q:Nat},¬Same Z J (aR Z r R') (aV J r (J.loc r) hdr' aM) q->q=r:=λ{q} h=>kD λe=>h (l9 e)
 have hRq:∀{Q:Root},aX Z r Q->Q=R:=λ{Q} hQ=>by have:=hQ.1;rw[hr.1]at this;simpa using this.symm
 refine H.turn (T.turn H hr) ?_ ?_ ?_
 ·intro q Q hq hs
  have e:=hns hs
  subst e
  obtain⟨rfl,hd⟩:=pK hq
  obtain⟨h1,h2,h3,h4⟩:=hroot hd
  refine⟨λhv=>?_,?_,?_,?_⟩
  ·have:=h1 hv
   simpa[aV,upd_same]using this
  ·simpa[aV,upd_same]using h2
  ·intro b o hb
   rw[wL]at hb
   have:=h3 b o hb
   simpa[aV,upd_same]using this
  ·rw[qa];exact h4
 ·intro q Q hq hs p n v hn hv
  have e:=hns hs
  subst e
  obtain rfl:=hRq hq
  cases hd:R'.cZ with
  |false=>exact qL hd p n v hn hv
  |true=>
   refine⟨hv.1,?_⟩
   intro Q' hQ' hval
   rw[fG]at hQ'
   simp only[au]at hQ'
   subst hQ'
   have:=hval.1
   rw[hd]at this
   simp at this
 ·intro q Q hq hs g v hg hv
  have e:=hns hs
  subst e
  obtain rfl:=hRq hq
  cases hd:R'.cZ with
  |false=>exact qN hd g v hg hv
  |true=>
   intro Q' hQ'
   have:=(pK hQ').2
   rw[hd]at this
   simp at this
structure Held(cx:Cx)(Z:St)(J:aO)(F:List Nat)(w:World)(k:K)(x:El k)(own:List TypeId)(tags:List Tag)(cs:List Value)(fo:List Nat):Prop where
 ow:dG Z (bC own k) tags=true->Ow (hp w) own (bK cx Z J F w tags) k x cs fo
 wt:gB Z tags
 sub:∀b∈fo,b∈F
 nd:fo.Nodup
 len:cs.length=k.size
theorem Held.turn{Z':St}{J':aO}{lw lh:Nat->List Nat}{k:K}{x:El k}{own:List TypeId}{tags:List Tag}{cs:List Value}{fo:List Nat}
  (H:Rel cx Z J F a w) (T:iO cx Z J F w Z' J' F' w' lw lh) (h:Held cx Z J F w k x own tags cs fo) (hs:∀b∈fo,hp w' b=hp w b/\b∈F'):Held cx Z' J' F' w' k x own tags cs fo where
 ow:=λhc=>by
  obtain⟨h1,h2,_⟩:=T.views H tags _ h.wt hc
  exact eO (λb hb=>(h2 b hb.1 (.inl hb.2)).2) (λb hb=>(h2 b hb.1 (.inl hb.2)).1) (λb hb=>(hs b hb).1) (tY _ (λ_ h=>h) (h.ow h1))
 wt:=λt ht=>T.tag (h.wt t ht)
 sub:=λb hb=>(hs b hb).2
 nd:=h.nd
 len:=h.len
theorem Held.slots{k:K}{x:El k}{own:List TypeId}{tags:List Tag}{cs:List Value}{fo:List Nat}(s:Nat->gU)(h:Held cx Z J F w k x own tags cs fo):Held cx (uL Z s) J F w k x own tags cs fo:=
 ⟨λhc=>h.ow (by rw[IP]at hc;exact hc),h.wt,h.sub,h.nd,h.len⟩
end
end
section
open Go
variable [Fr]
theorem zC{h:Heap}{own:List TypeId}{ok:Nat->Prop}:∀{k:K} {x:El k} {cs:List Value} {fo:List Nat},Ow h own ok k x cs fo->∀b∈fo,∃e∈k.tys,ah e own=true/\jM h b=some e:=by
 intro k
 induction k with
 |int ik=>intro x cs fo H b hb;rw[H.1]at hb;simp at hb
 |bool=>intro x cs fo H b hb;rw[H.1]at hb;simp at hb
 |id e=>intro x cs fo H b hb;rw[H.1]at hb;simp at hb
 |str=>intro x cs fo H b hb;rw[H.1]at hb;simp at hb
 |sl e k ih=>
  intro x cs fo H b' hb'
  unfold Ow at H
  split at H
  ·rename_i hm
   obtain⟨a,n,c,e1,e2,e3,H⟩:=H
   rcases H with⟨_,h1⟩|⟨b,o,arr,lo,hi,ea,hb,hf,hs,ay,hl,hp,H⟩
   ·rw[h1]at hb';simp at hb'
   ·rcases bW.1 (hp.mem_iff.1 hb')with h|h
    ·subst h
     exact⟨e,by simp[K.tys],hm,by unfold jM;rw[hb]⟩
    ·obtain⟨l,hl1,hl2⟩:=BC.1 h
     obtain⟨i,hi,rfl⟩:=qC.1 hl1
     obtain⟨ds,_,h2⟩:=H i (by omega)
     rw[oP hi]at h2
     obtain⟨e',g1,g2⟩:=ih h2 b' hl2
     exact⟨e',by simp[K.tys,g1],g2⟩
  ·rw[H.1]at hb';simp at hb'
 |unit=>intro x cs fo H b hb;rw[H.1]at hb;simp at hb
 |pair a b iha ihb=>
  intro x cs fo H b' hb'
  obtain⟨c1,c2,f1,f2,e,hp,h1,h2⟩:=H
  rcases dD.1 (hp.mem_iff.1 hb')with h|h
  ·obtain⟨e',g1,g2⟩:=iha h1 b' h;exact⟨e',by simp[K.tys,g1],g2⟩
  ·obtain⟨e',g1,g2⟩:=ihb h2 b' h;exact⟨e',by simp[K.tys,g1],g2⟩
 |st f ih=>intro x cs fo H;exact ih (x:=x) H
 |gap n=>intro x cs fo H b hb;rw[H.1]at hb;simp at hb
theorem qm{t:Nat}{own bad:List TypeId}:ah t (fF own bad)=true↔ah t own=true/\t∉bad:=by
 rw[dh,dh]
 unfold fF
 rw[eH]
 simp[gJ]
theorem Ky{own:List TypeId}:∀{k:K} {t:TypeId},t∈k.tys->t∈bC own k\/ah t own=true:=by
 intro k
 induction k with
 |sl e k ih=>
  intro t ht
  simp only[K.tys,bW]at ht
  cases hm:ah e own with
  |true=>
   rcases ht with ht|ht
   ·subst ht;exact .inr hm
   ·exact(ih ht).imp (λh=>by simp[bC,hm,h]) id
  |false=>exact .inl (by simpa[bC,hm]using ht)
 |pair a b iha ihb=>
  intro t ht
  simp only[K.tys,dD]at ht
  rcases ht with ht|ht
  ·exact(iha ht).imp (λh=>by simp[bC,h]) id
  ·exact(ihb ht).imp (λh=>by simp[bC,h]) id
 |st f ih=>intro t ht;exact ih ht
 |_=>intro t ht;simp[K.tys]at ht
theorem VA{own:List TypeId}:∀{k:K} {t:TypeId},t∈bC own k->t∈k.tys:=by
 intro k
 induction k with
 |sl e k ih=>
  intro t ht
  cases hm:ah e own with
  |true=>simp only[bC,hm,gP]at ht;simp[K.tys,ih ht]
  |false=>simpa[bC,hm,K.tys]using ht
 |pair a b iha ihb=>
  intro t ht
  simp only[bC,dD]at ht
  simp only[K.tys,dD]
  exact ht.imp iha ihb
 |st f ih=>intro t ht;exact ih ht
 |_=>intro t ht;simp[bC]at ht
section
variable {cx:Cx}{Z:St}{J:aO}{F:List Nat}{a:Act}{w:World}{F':List Nat}{w':World}
theorem FE(H:Rel cx Z J F a w)(hos:w'.os=w.os/\w'.tape=w.tape/\w'.output=w.output)(hsize:w.heap.size<=w'.heap.size)(sO:∀b,b<w.heap.size->hp w' b≠hp w b->b∈F)
  (hnew:∀b∈F',b∈F\/(w.heap.size<=b/\b<w'.heap.size)) (hnd:F'.Nodup):iO cx Z J F w Z J F' w' (λ_=>[]) (λ_=>[]) where
 slots:=rfl
 os:=hos
 size:=hsize
 old:=λr R hr=>⟨R,hr,by
  cases hd:R.cZ with
  |true=>exact .inl ⟨rfl,by intro hk;simp[Root.cZ,hk]at hd⟩
  |false=>exact .inr ⟨rfl,rfl,rfl,bV _,rfl,rfl,λ_=>rfl,.inr ⟨rfl,rfl,vN ..⟩⟩⟩
 wr:=λr R' _ h=>absurd (vN ..) h
 aci:=λr R' h1 h2=>by rw[h1]at h2;simp at h2
 qI:=λb hb hne=>.inl (sO b hb hne)
 new:=by
  rintro b (⟨r,R',h1,h2,h3⟩|h)
  ·exact absurd ⟨R',h1,h2⟩ h3
  ·exact(hnew b h).imp id .inl
 iw:=hnd
 fI:=λr R' _ h=>absurd (vN ..) h
 lN:=λr R r' R' _ _ _ h=>absurd (vN ..) h
 base:=by
  intro j pi b o n hj hb hne
  obtain⟨Q,hQ,hk,hl,hs⟩:=H.kI j pi b o n hj hb
  have hbq:b∈blk J Q (aa j):=by simp[blk,aS,hk,hl]
  have hm:=(H.roots _ _ hQ).mine b hbq
  exact absurd (sO b hm.1 hne) (H.fI _ _ hQ b hbq)
 ev:=λr R R' h1 h2 _=>by rw[h1]at h2;simp only[au]at h2;subst h2;exact⟨rfl,rfl⟩
theorem Rel.mem(H:Rel cx Z J F a w)(T:iO cx Z J F w Z J F' w' (λ_=>[]) (λ_=>[])):Rel cx Z J F' a w':=
 H.turn T (λ_ _ _ h=>absurd (vN ..) h) (λ_ _ _ h=>absurd (vN ..) h) (λ_ _ _ h=>absurd (vN ..) h)
theorem Rel.alloc(H:Rel cx Z J F a w)(o:Obj):Rel cx Z J (w.heap.size :: F) a (w.alloc o)/\iO cx Z J F w Z J (w.heap.size :: F) (w.alloc o) (λ_=>[]) (λ_=>[]):=by
 have hs:(w.alloc o).heap.size=w.heap.size+1:=Array.size_push ..
 have T:iO cx Z J F w Z J (w.heap.size :: F) (w.alloc o) (λ_=>[]) (λ_=>[]):=FE H ⟨rfl,rfl,rfl⟩ (by omega) (λb hb hne=>absurd (CB w o hb) hne)
  (λb hb=>by rcases bW.1 hb with h|h;exact .inr ⟨by omega,by omega⟩;exact .inl h)
  (jg.2 ⟨λh=>by have:=(H.fl _ h).1;omega,H.iw⟩)
 exact⟨H.mem T,T⟩
variable {r:Nat}{R:Root}
theorem uT:iF.cZ=true:=rfl
theorem xm{R':Root}{tys:List TypeId}{T:List Tag}(h:∀n,(r,n)∉T):dG (aR Z r R') tys T=dG Z tys T:=by
 induction T with
 |nil=>rfl
 |cons t T ih=>
  obtain⟨q,n⟩:=t
  have hq:q≠r:=λe=>h n (by simp[e])
  have ih':=ih (λn hn=>h n (by simp[hn]))
  simp only[dG]
  rw[ih',jR Z R' hq]
def jm(J:aO)(r:Nat):aO:=aV J r (J.loc r) (J.hdr r) []
theorem kill(H:Rel cx Z J F a w)(hr:aX Z r R)(hk:R.kind=.anon)(hv:dF Z R) :
  Rel cx (aR Z r iF) (jm J r) (J.fo r++F) a w/\iO cx Z J F w (aR Z r iF) (jm J r) (J.fo r++F) w (kH r []) (kH r [])/\
  Held cx (aR Z r iF) (jm J r) (J.fo r++F) w R.k R.x R.own R.tags (J.hdr r) (J.fo r)/\dG (aR Z r iF) (bC R.own R.k) R.tags=true:=by
 have hb:blk J R r=J.fo r:=by simp[blk,aS,hk]
 have K:=H.roots r R hr
 have hnd:(J.fo r).Nodup:=by rw[<-hb];exact K.nd
 have T1:vO cx Z J F w r R iF [] (J.fo r++F) w [] []:=by
  refine⟨.inl ⟨rfl,by rw[hk];simp⟩,⟨λt ht=>by simp[iF]at ht,λn hn=>by simp[iF]at hn⟩,⟨rfl,rfl,rfl⟩,bV _,λb _ h=>absurd rfl h,λh=>by simp[uT]at h,?_,?_,λh=>by simp[uT]at h,λ_ _ _ _ _ _ _ _ h=>absurd rfl h,λh=>by simp[uT]at h⟩
  ·intro b hb'
   rcases dD.1 hb' with h|h
   ·exact .inr (.inr ⟨by rw[hb];exact h,.inl rfl⟩)
   ·exact .inl h
  ·exact dH.2 ⟨hnd,H.iw,λb h1 c h2 e=>H.fI r R hr b (by rw[hb];exact h1) (e▸h2)⟩
 have hT:=T1.turn (hdr':=J.hdr r) H hr
 have hnt:=(H.gz r R hr.1).2.2
 have Jj:dG (aR Z r iF) (bC R.own R.k) R.tags=true:=by rw[xm hnt];exact hv.2
 refine⟨T1.rel H hr (λh=>by simp[uT]at h) (λh=>by simp[uT]at h) (λh=>by simp[uT]at h),hT,?_,Jj⟩
 refine⟨λhc=>?_,λt ht=>hT.tag ((H.gz r R hr.1).1 t ht),λb hb=>bQ _ hb,hnd,K.len⟩
 obtain⟨h1,h2,_⟩:=hT.views H R.tags _ (H.gz r R hr.1).1 hc
 exact eO (λb hb=>(h2 b hb.1 (.inl hb.2)).2) (λb hb=>(h2 b hb.1 (.inl hb.2)).1) (λ_ _=>rfl) (tY _ (λ_ h=>h) (K.ow hv))
theorem apD(H:Rel cx Z J F a w)(hr:aX Z r R)(hk:R.kind≠.par)(hv:dF Z R) :
  Rel cx (aR Z r iF) (jm J r) (blk J R r++F) a w/\iO cx Z J F w (aR Z r iF) (jm J r) (blk J R r++F) w (kH r []) (kH r [])/\
  Held cx (aR Z r iF) (jm J r) (blk J R r++F) w R.k R.x R.own R.tags (J.hdr r) (J.fo r)/\dG (aR Z r iF) (bC R.own R.k) R.tags=true:=by
 have K:=H.roots r R hr
 have hnd:(blk J R r).Nodup:=K.nd
 have T1:vO cx Z J F w r R iF [] (blk J R r++F) w [] []:=by
  refine⟨.inl ⟨rfl,hk⟩,⟨λt ht=>by simp[iF]at ht,λn hn=>by simp[iF]at hn⟩,⟨rfl,rfl,rfl⟩,bV _,λb _ h=>absurd rfl h,λh=>by simp[uT]at h,?_,?_,λh=>by simp[uT]at h,λ_ _ _ _ _ _ _ _ h=>absurd rfl h,λh=>by simp[uT]at h⟩
  ·intro b hb'
   rcases dD.1 hb' with h|h
   ·exact .inr (.inr ⟨h,.inl rfl⟩)
   ·exact .inl h
  ·exact dH.2 ⟨hnd,H.iw,λb h1 c h2 e=>H.fI r R hr b h1 (e▸h2)⟩
 have hT:=T1.turn (hdr':=J.hdr r) H hr
 have hnt:=(H.gz r R hr.1).2.2
 have Jj:dG (aR Z r iF) (bC R.own R.k) R.tags=true:=by rw[xm hnt];exact hv.2
 refine⟨T1.rel H hr (λh=>by simp[uT]at h) (λh=>by simp[uT]at h) (λh=>by simp[uT]at h),hT,?_,Jj⟩
 refine⟨λhc=>?_,λt ht=>hT.tag ((H.gz r R hr.1).1 t ht),λb hb=>bQ _ (bH _ hb),(dH.1 hnd).2.1,K.len⟩
 obtain⟨h1,h2,_⟩:=hT.views H R.tags _ (H.gz r R hr.1).1 hc
 exact eO (λb hb=>(h2 b hb.1 (.inl hb.2)).2) (λb hb=>(h2 b hb.1 (.inl hb.2)).1) (λ_ _=>rfl) (tY _ (λ_ h=>h) (K.ow hv))
theorem EJ:∀(p:List Stp) {k:K} {x y:El k},(aB p k x).isSome=(aB p k y).isSome:=by
 intro p
 induction p with
 |nil=>intro k x y;rfl
 |cons s p ih=>
  intro k x y
  cases s with
  |aY n=>
   cases k with
   |st c=>
    simp only[aB]
    have key:∀(n:Nat) {c:K} {x y:El c},(∃s t:Dat,aU n c x=some s/\aU n c y=some t/\s.1=t.1)\/(aU n c x=none/\aU n c y=none):=by
     intro n
     induction n with
     |zero=>intro c x y;cases c<;>first|exact .inl ⟨_,_,rfl,rfl,rfl⟩|exact .inr ⟨rfl,rfl⟩
     |succ n ih=>intro c x y;cases c<;>first|exact ih|exact .inr ⟨rfl,rfl⟩
    rcases key n (c:=c) (x:=x) (y:=y)with⟨s,t,h1,h2,h3⟩|⟨h1,h2⟩
    ·rw[h1,h2]
     obtain⟨sk,sx⟩:=s
     obtain⟨tk,ty⟩:=t
     simp only at h3
     subst h3
     exact ih
    ·rw[h1,h2]
   |_=>simp[aB]
  |idx i=>
   cases k with
   |sl e k=>simp only[aB];exact ih
   |_=>simp[aB]
theorem ZA:∀(n m:Nat) {c:K} {x:El c} {u y:Dat},m≠n->dP n c x u=some y->aU m y.1 y.2=aU m c x:=by
 intro n
 induction n with
 |zero=>
  intro m c x u y hm h
  cases c with
  |pair a b=>
   simp only[dP,au]at h
   subst h
   cases m with
   |zero=>exact absurd rfl hm
   |succ m=>rfl
  |_=>simp[dP]at h
 |succ n ih=>
  intro m c x u y hm h
  cases c with
  |pair a b=>
   simp only[dP]at h
   cases h4:dP n b x.2 u with
   |none=>rw[h4]at h;simp at h
   |some y2=>
    rw[h4]at h
    simp only[au]at h
    subst h
    cases m with
    |zero=>rfl
    |succ m=>exact ih m (by omega) h4
  |_=>simp[dP]at h
theorem aez{bad:List TypeId}:∀(p q:List Stp) {k:K} {x:El k} {t d z:Dat},aB p k x=some d->dz p k x t=some z->
  (∀q',(aB q' t.1 t.2).isSome=true->(∀e∈az q' t.1,e∉bad)->az q' d.1=az q' t.1/\(aB q' d.1 d.2).isSome=true)->(aB q z.1 z.2).isSome=true->(∀e∈az q z.1,e∉bad)->
   az q k=az q z.1/\(aB q k x).isSome=true:=by
 intro p
 induction p with
 |nil=>
  intro q k x t d z hg hz ht hs hb
  simp only[dz,au]at hz
  simp only[aB,au]at hg
  subst hz
  subst hg
  exact ht q hs hb
 |cons s p ih=>
  intro q k x t d z hg hz ht hs hb
  cases s with
  |aY n=>
   cases k with
   |st c=>
    simp only[aB,dz]at hg hz
    cases hcg:aU n c x with
    |none=>rw[hcg]at hg;simp at hg
    |some s=>
     rw[hcg]at hg hz
     simp only at hg hz
     cases hs':dz p s.1 s.2 t with
     |none=>rw[hs']at hz;simp at hz
     |some u=>
      rw[hs']at hz
      simp only at hz
      cases hcp:dP n c x u with
      |none=>rw[hcp]at hz;simp at hz
      |some y=>
       rw[hcp]at hz
       simp only[au]at hz
       subst hz
       cases q with
       |nil=>exact⟨rfl,rfl⟩
       |cons s2 q=>
        cases s2 with
        |idx i=>simp[aB]at hs
        |aY m=>
         by_cases hmn:m=n
         ·subst hmn
          have e1:aU m y.1 y.2=some u:=IM m hcp
          have p1:az (.aY m :: q) (.st c)=az q s.1:=by simp[az,kL m hcg]
          have p2:az (.aY m :: q) (.st y.1)=az q u.1:=by simp[az,kL m e1]
          have hs2:(aB (.aY m :: q) (.st y.1) y.2).isSome=true:=hs
          simp only[aB,e1]at hs2
          have hb2:∀e∈az (.aY m :: q) (.st y.1),e∉bad:=hb
          rw[p2]at hb2
          obtain⟨h1,h2⟩:=ih q hg hs' ht hs2 hb2
          refine⟨?_,?_⟩
          ·show az (.aY m :: q) (.st c)=az (.aY m :: q) (.st y.1)
           rw[p1,p2,h1]
          ·simp only[aB,hcg]
           exact h2
         ·have e1:=ZA n m hmn hcp
          have hs2:(aB (.aY m :: q) (.st y.1) y.2).isSome=true:=hs
          simp only[aB,e1]at hs2
          cases hg2:aU m c x with
          |none=>rw[hg2]at hs2;simp at hs2
          |some s2=>
           refine⟨?_,?_⟩
           ·show az (.aY m :: q) (.st c)=az (.aY m :: q) (.st y.1)
            simp only[az,kL m hg2,kL m (e1.trans hg2)]
           ·simp only[aB,hg2]
            rw[hg2]at hs2
            exact hs2
   |_=>simp[aB]at hg
  |idx i=>
   cases k with
   |sl e k=>
    simp only[dz]at hz
    cases hs':dz p k ((show List (El k)from x).getD i.toNat k.zero) t with
    |none=>rw[hs']at hz;simp at hz
    |some u=>
     rw[hs']at hz
     simp only at hz
     cases hck:b_ u.1 k u.2 with
     |none=>rw[hck]at hz;simp at hz
     |some y=>
      rw[hck]at hz
      simp only[au]at hz
      subst hz
      exact⟨rfl,by rw[EJ q (y:=((show List (El k)from x).set i.toNat y))];exact hs⟩
   |_=>simp[dz]at hz
theorem Cy:∀k:K,k.hole.size=k.size:=by
 intro k
 induction k with
 |pair a b iha ihb=>simp[K.hole,K.size,iha,ihb]
 |st f ih=>simp[K.hole,K.size,ih]
 |_=>rfl
theorem akb{h:Heap}{own:List TypeId}{ok:Nat->Prop}:∀{k:K} {x:El k} {cs:List Value} {fo:List Nat},Ow h own ok k x cs fo->Ow h own ok k.hole (qg k x) cs []:=by
 intro k
 induction k with
 |int ik=>intro x cs fo H;exact⟨rfl,H.2⟩
 |bool=>intro x cs fo H;exact⟨rfl,H.2⟩
 |id e=>intro x cs fo H;exact⟨rfl,H.2⟩
 |str=>intro x cs fo H;exact⟨rfl,H.2⟩
 |sl e k ih=>intro x cs fo H;exact⟨rfl,fU H⟩
 |unit=>intro x cs fo H;exact⟨rfl,H.2⟩
 |pair a b iha ihb=>intro x cs fo H;obtain⟨c1,c2,f1,f2,e,hp,h1,h2⟩:=H;exact⟨c1,c2,[],[],e,.refl _,iha h1,ihb h2⟩
 |st f ih=>intro x cs fo H;exact ih (x:=x) H
 |gap n=>intro x cs fo H;exact⟨rfl,H.2⟩
theorem Zz:∀(n:Nat) {c:K} {x:El c},aU n c.hole (qg c x)=(aU n c x).map oQ:=by
 intro n
 induction n with
 |zero=>intro c x;cases c<;>rfl
 |succ n ih=>
  intro c x
  cases c with
  |pair a b=>simp only[K.hole,qg,aU];exact ih
  |_=>rfl
theorem ak9:∀(n:Nat) {c:K},bR n c.hole=(bR n c).map λq=>(q.1,q.2.hole):=by
 intro n
 induction n with
 |zero=>intro c;cases c<;>rfl
 |succ n ih=>
  intro c
  cases c with
  |pair a b=>
   simp only[K.hole,bR]
   rw[ih (c:=b)]
   cases bR n b with
   |none=>rfl
   |some q=>simp[Cy]
  |_=>rfl
theorem TE{h:Heap}:∀(q:List Stp) {k:K} {x:El k},(aB q k.hole (qg k x)).isSome=true->
  az q k=[]/\az q k.hole=[]/\(aB q k x).isSome=true/\bX q k.hole (qg k x)/\∀cs wh,aW h q k.hole cs wh=aW h q k cs wh:=by
 intro q
 induction q with
 |nil=>intro k x _;exact⟨by simp[az],by simp[az],rfl,trivial,λ_ _=>rfl⟩
 |cons s q ih=>
  intro k x hs
  cases s with
  |idx i=>cases k<;>simp[K.hole,aB]at hs
  |aY n=>
   cases k with
   |st c=>
    have e:aU n c.hole (qg c x)=(aU n c x).map oQ:=Zz n
    have hs':(aB (.aY n :: q) (.st c.hole) (qg c x)).isSome=true:=hs
    simp only[aB,e]at hs'
    cases hg:aU n c x with
    |none=>rw[hg]at hs';simp at hs'
    |some s=>
     rw[hg]at hs' e
     simp only[o_,oQ]at hs' e
     obtain⟨h1,h2,h3,h4,h5⟩:=ih (k:=s.1) (x:=s.2) hs'
     refine⟨by simp[az,kL n hg,h1],?_,by simp only[aB,hg];exact h3,?_,λcs wh=>?_⟩
     ·show az (.aY n :: q) (.st c.hole)=[]
      simp[az,kL n e,h2]
     ·show bX (.aY n :: q) (.st c.hole) (qg c x)
      simp only[bX,e]
      exact h4
     ·show aW h (.aY n :: q) (.st c.hole) cs wh=_
      simp only[aW]
      rw[ak9 n]
      cases ho:bR n c with
      |none=>rfl
      |some w=>
       simp only[o_]
       have hk:w.2=s.1:=by
        have key:∀(n:Nat) {c:K} {x:El c} {s:Dat} {q:Nat×K},aU n c x=some s->bR n c=some q->q.2=s.1:=by
         intro n
         induction n with
         |zero=>intro c x s q h1 h2;cases c with
          |pair a b=>simp only[aU,bR,au]at h1 h2;subst h1;subst h2;rfl
          |_=>simp[aU]at h1
         |succ n ih=>intro c x s q h1 h2;cases c with
          |pair a b=>
           simp only[aU,bR]at h1 h2
           cases h3:bR n b with
           |none=>rw[h3]at h2;simp at h2
           |some q3=>rw[h3]at h2;simp only[au]at h2;subst h2;exact ih (q:=q3) h1 h3
          |_=>simp[aU]at h1
        exact key n (c:=c) hg ho
       obtain⟨w1,w2⟩:=w
       simp only at hk
       subst hk
       simp only[Cy]
       exact h5 _ _
   |_=>simp[K.hole,aB]at hs
theorem aoN:∀(q:List Stp) {k:K} {x y:El k},az q k=[]->(aB q k x).isSome=true->az q k.hole=[]/\(aB q k.hole (qg k y)).isSome=true:=by
 intro q
 induction q with
 |nil=>intro k x y _ _;exact⟨by simp[az],rfl⟩
 |cons s q ih=>
  intro k x y h0 hs
  cases s with
  |idx i=>cases k<;>simp[az,aB]at h0 hs
  |aY n=>
   cases k with
   |st c=>
    simp only[aB]at hs
    cases hg:aU n c x with
    |none=>rw[hg]at hs;simp at hs
    |some s=>
     rw[hg]at hs
     simp only at hs
     have hp2:az (.aY n :: q) (.st c)=az q s.1:=by simp[az,kL n hg]
     rw[hp2]at h0
     have key:∀(n:Nat) {c:K} {x y:El c} {s:Dat},aU n c x=some s->∃t:Dat,aU n c y=some t/\t.1=s.1:=by
      intro n
      induction n with
      |zero=>intro c x y s h;cases c<;>first|(simp only[aU,au]at h;subst h;exact⟨_,rfl,rfl⟩)|simp[aU]at h
      |succ n ih=>intro c x y s h;cases c<;>first|exact ih h|simp[aU]at h
     obtain⟨t,g1,g2⟩:=key n (c:=c) (y:=y) hg
     obtain⟨sk,sx⟩:=s
     obtain⟨tk,ty⟩:=t
     simp only at g2
     subst g2
     obtain⟨h1,h2⟩:=ih (y:=ty) h0 hs
     have e:aU n c.hole (qg c y)=some (oQ ⟨tk,ty⟩):=by rw[Zz n,g1];rfl
     refine⟨?_,?_⟩
     ·show az (.aY n :: q) (.st c.hole)=[]
      simp[az,kL n e,oQ,h1]
     ·show(aB (.aY n :: q) (.st c.hole) (qg c y)).isSome=true
      simp only[aB,e]
      exact h2
   |_=>simp[aB]at hs
theorem atw{own:List TypeId}:∀k:K,bC own k.hole=[]:=by
 intro k
 induction k with
 |pair a b iha ihb=>simp[K.hole,bC,iha,ihb]
 |st f ih=>exact ih
 |_=>rfl
theorem cells_eq{h:Heap}{b o:Nat}{cs cs':List Value}(h1:Cells h b o cs)(h2:Cells h b o cs')(hl:cs'.length=cs.length):cs'=cs:=by
 apply Io 
 intro i
 by_cases hi:i<cs.length
 ·rw[<-h1 i hi,<-h2 i (by omega)]
 ·rw[uO (by omega),uO (by omega)]
theorem U6:∀(p:List Stp) {k:K} {x:El k} {t d z:Dat},aB p k x=some d->t.1.size=d.1.size->dz p k x t=some z->z.1.size=k.size:=by
 intro p
 induction p with
 |nil=>
  intro k x t d z hg hs hz
  simp only[aB,dz,au]at hg hz
  subst hg;subst hz;exact hs
 |cons s p ih=>
  intro k x t d z hg hs hz
  cases s with
  |aY n=>
   cases k with
   |st c=>
    simp only[aB,dz]at hg hz
    cases hcg:aU n c x with
    |none=>rw[hcg]at hg;simp at hg
    |some s=>
     rw[hcg]at hg hz
     simp only at hg hz
     cases hs':dz p s.1 s.2 t with
     |none=>rw[hs']at hz;simp at hz
     |some u=>
      rw[hs']at hz
      simp only at hz
      cases hcp:dP n c x u with
      |none=>rw[hcp]at hz;simp at hz
      |some y=>
       rw[hcp]at hz
       simp only[au]at hz
       subst hz
       have hu:=ih hg hs hs'
       have key:∀(n:Nat) {c:K} {x:El c} {s u y:Dat},aU n c x=some s->dP n c x u=some y->u.1.size=s.1.size->y.1.size=c.size:=by
        intro n
        induction n with
        |zero=>
         intro c x s u y h1 h2 e
         cases c with
         |pair a b=>simp only[aU,dP,au]at h1 h2;subst h1;subst h2;simp only at e;simp[K.size,e]
         |_=>simp[aU]at h1
        |succ n ih=>
         intro c x s u y h1 h2 e
         cases c with
         |pair a b=>
          simp only[aU,dP]at h1 h2
          cases h3:dP n b x.2 u with
          |none=>rw[h3]at h2;simp at h2
          |some y2=>rw[h3]at h2;simp only[au]at h2;subst h2;simp[K.size,ih h1 h3 e]
         |_=>simp[aU]at h1
       show y.1.size=c.size
       exact key n (c:=c) hcg hcp hu
   |_=>simp[aB]at hg
  |idx i=>
   cases k with
   |sl e k=>
    simp only[dz]at hz
    cases hs':dz p k ((show List (El k)from x).getD i.toNat k.zero) t with
    |none=>rw[hs']at hz;simp at hz
    |some u=>
     rw[hs']at hz
     simp only at hz
     cases hck:b_ u.1 k u.2 with
     |none=>rw[hck]at hz;simp at hz
     |some y=>rw[hck]at hz;simp only[au]at hz;subst hz;rfl
   |_=>simp[aB]at hg
theorem Gd{R R':Root}(h:R'.kind=R.kind)(loc:Nat×Nat):ny R' loc=ny R loc:=by unfold ny;rw[h]
theorem zT{R R':Root}(h:R'.kind=R.kind)(loc:Nat×Nat)(fo:List Nat):jh R' loc fo=jh R loc fo:=by unfold jh;rw[h]
theorem Zi(R:Root)(loc:Nat×Nat)(fo:List Nat):jh R loc fo=(match ny R loc with
 |some q=>[q.1]
 |none=>[])++fo:=by unfold jh ny;cases R.kind<;>rfl
theorem nu{R:Root}{loc:Nat×Nat}{fo:List Nat}{b:Nat}:b∈jh R loc fo↔(∃o,ny R loc=some (b,o))\/b∈fo:=by
 rw[Zi]
 cases h:ny R loc with
 |none=>simp
 |some q=>obtain⟨b0,o0⟩:=q;simp;constructor<;>(intro h;rcases h with h|h<;>simp_all)
theorem u7{R:Root}{loc:Nat×Nat}{fo:List Nat}:(jh R loc fo).Nodup↔(∀b o,ny R loc=some (b,o)->b∉fo)/\fo.Nodup:=by
 rw[Zi]
 cases h:ny R loc with
 |none=>simp
 |some q=>obtain⟨b0,o0⟩:=q;simp[jg]
theorem aps{R R':Root}(h:R'.kind=R.kind):R'.cZ=R.cZ:=by unfold Root.cZ;rw[h]
theorem YU{k k':K}{v:Value}{cs:List Value}(h:kQ k'=kQ k):VC k' v cs↔VC k v cs:=by
 cases k<;>cases k'<;>first|exact Iff.rfl|simp[kQ]at h
theorem aeh{p:List Stp}{k:K}{x:El k}{t z:Dat}(hp:p≠[])(hz:dz p k x t=some z):kQ z.1=kQ k:=by
 cases p with
 |nil=>exact absurd rfl hp
 |cons s p=>
  cases s with
  |aY n=>
   cases k with
   |st c=>
    simp only[dz]at hz
    cases hcg:aU n c x with
    |none=>rw[hcg]at hz;simp at hz
    |some s=>
     rw[hcg]at hz
     simp only at hz
     cases hs':dz p s.1 s.2 t with
     |none=>rw[hs']at hz;simp at hz
     |some u=>
      rw[hs']at hz
      simp only at hz
      cases hcp:dP n c x u with
      |none=>rw[hcp]at hz;simp at hz
      |some y=>rw[hcp]at hz;simp only[au]at hz;subst hz;rfl
   |_=>simp[dz]at hz
  |idx i=>
   cases k with
   |sl e k=>
    simp only[dz]at hz
    cases hs':dz p k ((show List (El k)from x).getD i.toNat k.zero) t with
    |none=>rw[hs']at hz;simp at hz
    |some u=>
     rw[hs']at hz
     simp only at hz
     cases hck:b_ u.1 k u.2 with
     |none=>rw[hck]at hz;simp at hz
     |some y=>rw[hck]at hz;simp only[au]at hz;subst hz;rfl
   |_=>simp[dz]at hz
theorem am8(k:K):k.tys≠[]\/uu k++k.tys≠[]:=by
 unfold uu
 cases k.tys with
 |nil=>exact .inr (by simp)
 |cons a l=>exact .inl (by simp)
def kr(R:Root)(d:Dat)(z:Dat):Root:={ R with k:=z.1,x:=z.2,w:=d.1.tys++R.w,h:=uu d.1++d.1.tys++R.h }
def mo(R:Root)(d:Dat)(z:Dat)(own':List TypeId):Root:={ kr R d z with own:=own' }
theorem CV:∀(q:List Stp) {k:K},∀t∈az q k,t∈k.tys:=by
 intro q
 induction q with
 |nil=>intro k t ht;simp[az]at ht
 |cons s q ih=>
  intro k t ht
  cases s with
  |aY n=>
   cases k with
   |st c=>
    simp only[az]at ht
    cases hc:az.lu n c with
    |none=>rw[hc]at ht;simp at ht
    |some k'=>
     rw[hc]at ht
     have h1:=ih t ht
     have:∀(n:Nat) {c k':K},az.lu n c=some k'->∀t∈k'.tys,t∈c.tys:=by
      intro n
      induction n with
      |zero=>
       intro c k' h t ht
       cases c with
       |pair a b=>simp only[az.lu,au]at h;subst h;simp[K.tys,ht]
       |_=>simp[az.lu]at h
      |succ n ih=>
       intro c k' h t ht
       cases c with
       |pair a b=>simp only[az.lu]at h;simp[K.tys,ih h t ht]
       |_=>simp[az.lu]at h
     exact this n hc t h1
   |_=>simp[az]at ht
  |idx i=>
   cases k with
   |sl e k=>
    simp only[az,bW]at ht
    rcases ht with h|h
    ·simp[K.tys,h]
    ·simp[K.tys,ih t h]
   |_=>simp[az]at ht
theorem aak{own':List TypeId}(H:Rel cx Z J F a w)(hr:aX Z r R)(hv:dF Z R){p:List Stp}{d z:Dat}(hg:aB p R.k R.x=some d)(hz:dz p R.k R.x (oQ d)=some z)(dn:bX p R.k R.x)
  (hown:∀t∈az p R.k,ah t R.own=true) (hpv:p≠[]\/∃t,R.kind=.var t) (hso:∀t∈z.1.tys,ah t own'=ah t R.own) :
  ∃cs1 dm bu rest,aW (hp w) p R.k (J.hdr r) (aS J R r)=some (cs1,dm)/\
   Rel cx (aR Z r (mo R d z own')) (aV J r (J.loc r) (J.hdr r) rest) (bu++F) a w/\
   iO cx Z J F w (aR Z r (mo R d z own')) (aV J r (J.loc r) (J.hdr r) rest) (bu++F) w (kH r d.1.tys) (kH r (uu d.1++d.1.tys))/\
   Held cx (aR Z r (mo R d z own')) (aV J r (J.loc r) (J.hdr r) rest) (bu++F) w d.1 d.2 R.own R.tags cs1 bu/\(∀tys,dG (aR Z r (mo R d z own')) tys R.tags=dG Z tys R.tags)/\(J.fo r).Perm (bu++rest):=by
 have K:=H.roots r R hr
 have hnd:=K.nd
 rw[jF,u7]at hnd
 have hO:=K.ow hv
 obtain⟨cs1,bu,rest,dm,hn,hp1,hd1,hc1,hin,hnone,hup⟩:=focus p hO (λb o e=>(K.mem b o e).1) hg dn hown hnd.2 (λb o e=>hnd.1 b o e)
 have hnt:=(H.gz r R hr.1).2.2
 have hl1:=fU hd1
 obtain⟨cs',hl',mq,hC',hN',hK'⟩:=hup.go (hp w) (bK cx Z J F w R.tags) (oQ d) cs1 [] z hz hl1 (akb hd1) (λb hb=>⟨hb,rfl⟩) (λ_ _ _=>rfl)
  (λb o e=>⟨hc1 b o e,by
   have:∃arr te fr,hp w b=some (.cells arr te fr):=by
    rcases hin b o e with⟨_,o0,ew,_⟩|⟨_,arr,te,lo,hi,h1,_⟩
    ·obtain⟨_,arr,te,lo,hi,h1,_⟩:=K.mem b o0 ew;exact⟨arr,te,_,h1⟩
    ·exact⟨arr,te,_,h1⟩
   obtain⟨arr,te,fr,h1⟩:=this
   exact mU.of_same _ _ h1 rfl⟩) (λ_=>rfl) (λ_ _ _ _=>rfl)
 have hcs:cs'=J.hdr r:=by
  cases hw:aS J R r with
  |none=>exact hN' hw
  |some q=>exact cells_eq (K.mem q.1 q.2 hw).1 (hC' q.1 q.2 hw) hl'
 rw[hcs,ru]at mq
 replace mq:=vM hso mq
 obtain⟨_,_,hNK,_⟩:=hK' d.1.tys (Cy d.1) (λq c0 w0 hq _ hn0 hs=>by
  obtain⟨_,_,_,h3,h4⟩:=TE (h:=hp w) q (x:=d.2) hs
  exact⟨h3,c0,by rw[<-hn0];exact h4 cs1 dm⟩)
 rw[hcs]at hNK
 have hkind:(mo R d z own').kind=R.kind:=rfl
 have anY:(mo R d z own').cZ=false:=hr.2
 have ES:∀b,b∈J.fo r↔b∈bu\/b∈rest:=λb=>by rw[hp1.mem_iff,dD]
 have sS:=hp1.nodup hnd.2
 have hsz:z.1.size=R.k.size:=U6 p (t:=oQ d) hg (Cy d.1) hz
 have T1:vO cx Z J F w r R (mo R d z own') rest (bu++F) w d.1.tys (uu d.1++d.1.tys):=by
  refine⟨.inr ⟨rfl,rfl,bV _,rfl,λ_=>hsz,am8 d.1⟩,⟨(H.gz r R hr.1).1,hnt⟩,⟨rfl,rfl,rfl⟩,bV _,λb _ h=>absurd rfl h,?_,?_,?_,?_,λ_ _ _ _ _ _ _ _ h=>absurd rfl h,λ_=>⟨rfl,rfl⟩⟩
  ·intro _ b hb
   rw[zT hkind,nu]at hb
   refine .inl ?_
   rw[jF,nu,ES]
   exact hb.imp id .inr
  ·intro b hb
   rcases dD.1 hb with h|h
   ·refine .inr (.inr ⟨by rw[jF,nu,ES];exact .inr (.inl h),.inr (.inl ?_)⟩)
    obtain⟨e,h1,_,h2⟩:=zC hd1 b h
    exact⟨e,h1,h2⟩
   ·exact .inl h
  ·refine dH.2 ⟨(dH.1 sS).1,H.iw,λb h1 c h2 e=>H.fI r R hr b ?_ (e▸h2)⟩
   rw[jF,nu,ES]
   exact .inr (.inl h1)
  ·intro _ b hb hF
   rw[zT hkind,nu]at hb
   rcases dD.1 hF with h|h
   ·rcases hb with⟨o,hb⟩|hb
    ·exact hnd.1 b o hb ((ES b).2 (.inl h))
    ·exact(dH.1 sS).2.2 b h b hb rfl
   ·refine H.fI r R hr b ?_ h
    rw[jF,nu,ES]
    exact hb.imp id .inr
 have hT:=T1.turn (hdr':=J.hdr r) H hr
 have Jj:∀tys,dG (aR Z r (mo R d z own')) tys R.tags=dG Z tys R.tags:=λtys=>xm hnt
 refine⟨cs1,dm,bu,rest,hn,T1.rel H hr ?_ ?_ ?_,hT,?_,Jj,hp1⟩
 ·intro _
  refine⟨λhv'=>?_,by rw[K.len];exact hsz.symm,?_,?_⟩
  ·obtain⟨h1,h2,_⟩:=hT.views H R.tags _ (H.gz r R hr.1).1 hv'.2
   exact eO (λb hb=>(h2 b hb.1 (.inl hb.2)).2) (λb hb=>(h2 b hb.1 (.inl hb.2)).1) (λ_ _=>rfl) (tY _ (λ_ h=>h) mq)
  ·intro b o hb
   have:(mo R d z own').k.size=R.k.size:=hsz
   rw[this]
   exact K.mem b o hb
  ·rw[zT hkind,u7]
   exact⟨λb o e hb=>hnd.1 b o e ((ES b).2 (.inr hb)),(dH.1 sS).2.1⟩
 ·intro _ q n v hn' hold
  refine⟨hold.1,?_⟩
  intro Q hQ oW hcl hty hsome
  have hQ':Q=mo R d z own':=by
   rw[fG]at hQ
   simpa using hQ.symm
  subst hQ'
  have Jz:aS (aV J r (J.loc r) (J.hdr r) rest) (mo R d z own') r=aS J R r:=by rw[wL,Gd hkind,<-AX]
  have Cu:(aV J r (J.loc r) (J.hdr r) rest).hdr r=J.hdr r:=by simp[aV,upd_same]
  have hh:(mo R d z own').h=(uu d.1++d.1.tys)++R.h:=rfl
  rw[hh,Et hn']at hcl
  by_cases hq:q=[]
  case neg=>
   have hpt:∀k,iL q k=jC :: az q k:=by
    intro k
    cases q with
    |nil=>exact absurd rfl hq
    |cons s q=>rfl
   rw[hpt]at hcl
   obtain⟨k1,k2⟩:=aez (bad:=d.1.tys) p q hg hz (λq' h _=>let ⟨h1,h2,h3,_⟩:=TE (h:=hp w) q' (x:=d.2) h;⟨h1.trans h2.symm,h3⟩) hsome (λe he hm=>hcl.1 e (bH _ hm) (jD _ he))
   have k1':az q R.k=az q (mo R d z own').k:=k1
   have hty':∀t∈az q R.k,ah t R.own=true:=λt ht=>by
    have ht':t∈az q z.1:=k1▸ht
    rw[<-hso t (CV q t ht')]
    exact hty t ht'
   rw[<-k1']at hcl
   obtain⟨g1,cs,b,o,g2,g3⟩:=hold.2 R hr.1 hv (by rw[hpt];exact hcl.2) hty' k2
   obtain⟨f1,c1,f2⟩:=hNK q cs (some (b,o)) g1 (λt ht=>⟨hty' t ht,λhm=>hcl.1 t (bH _ hm) (jD _ ht)⟩) g2 hsome
   rw[Jz,Cu]
   exact⟨f1,c1,b,o,f2,g3⟩
  subst hq
  obtain⟨_,cs,b,o,h1,h2⟩:=hold.2 R hr.1 hv (by simp[clean,iL,ah]) (λt ht=>by simp[az]at ht) rfl
  simp only[aW,au,bZ]at h1
  refine⟨trivial,(aV J r (J.loc r) (J.hdr r) rest).hdr r,b,o,?_,h2⟩
  simp only[aW]
  rw[wL,Gd hkind,<-AX,h1.2]
 ·intro _ g v hg' hold Q hQ NM
  obtain⟨hQ',_⟩:=pK hQ
  subst hQ'
  obtain⟨h1,h2⟩:=hold R hr NM
  refine⟨h1,?_⟩
  have:(aV J r (J.loc r) (J.hdr r) rest).hdr r=J.hdr r:=by simp[aV,upd_same]
  rw[this]
  rcases hpv with hp|⟨t,ht⟩
  ·
   cases p with
   |nil=>exact absurd rfl hp
   |cons s p=>
    exact(YU (aeh (by simp) hz)).2 h2
  ·rw[ht]at h1;simp at h1
 ·refine⟨λhc=>?_,λt ht=>hT.tag ((H.gz r R hr.1).1 t ht),λb hb=>bQ _ hb,(dH.1 sS).1,hl1⟩
  obtain⟨h1,h2,_⟩:=hT.views H R.tags _ (H.gz r R hr.1).1 hc
  exact eO (λb hb=>(h2 b hb.1 (.inl hb.2)).2) (λb hb=>(h2 b hb.1 (.inl hb.2)).1) (λ_ _=>rfl) (tY _ (λ_ h=>h) hd1)
theorem gap(H:Rel cx Z J F a w)(hr:aX Z r R)(hv:dF Z R){p:List Stp}{d z:Dat}(hg:aB p R.k R.x=some d)(hz:dz p R.k R.x (oQ d)=some z)(dn:bX p R.k R.x)
  (hown:∀t∈az p R.k,ah t R.own=true) (hpv:p≠[]\/∃t,R.kind=.var t) :
  ∃cs1 dm bu rest,aW (hp w) p R.k (J.hdr r) (aS J R r)=some (cs1,dm)/\
   Rel cx (aR Z r (kr R d z)) (aV J r (J.loc r) (J.hdr r) rest) (bu++F) a w/\
   iO cx Z J F w (aR Z r (kr R d z)) (aV J r (J.loc r) (J.hdr r) rest) (bu++F) w (kH r d.1.tys) (kH r (uu d.1++d.1.tys))/\
   Held cx (aR Z r (kr R d z)) (aV J r (J.loc r) (J.hdr r) rest) (bu++F) w d.1 d.2 R.own R.tags cs1 bu/\(∀tys,dG (aR Z r (kr R d z)) tys R.tags=dG Z tys R.tags)/\(J.fo r).Perm (bu++rest):=
 aak (own':=R.own) H hr hv hg hz dn hown hpv (λ_ _=>rfl)
end
end
section
open Go
variable [Fr]
theorem atv{own own':List TypeId}:∀{k:K},(∀t∈k.tys,ah t own'=true->ah t own=true)->∀t∈bC own k,t∈bC own' k:=by
 intro k
 induction k with
 |sl e k ih=>
  intro h t ht
  cases hm':ah e own' with
  |true=>
   have hm:=h e (by simp[K.tys]) hm'
   simp only[bC,hm,gP]at ht
   simp only[bC,hm',gP]
   exact ih (λt ht=>h t (by simp[K.tys,ht])) t ht
  |false=>
   have:=VA ht
   simpa[bC,hm',K.tys]using this
 |pair a b iha ihb=>
  intro h t ht
  simp only[bC,dD]at ht ⊢
  exact ht.imp (iha (λt ht=>h t (by simp[K.tys,ht])) t) (ihb (λt ht=>h t (by simp[K.tys,ht])) t)
 |st f ih=>intro h t ht;exact ih h t ht
 |_=>intro _ t ht;simp[bC]at ht
theorem ala{own:List TypeId}:∀(n:Nat) {c:K} {x:El c} {s u y:Dat},aU n c x=some s->dP n c x u=some y->
  (∀e∈bC own u.1,e∈bC own y.1)/\((∀e∈bC own s.1,e∈bC own u.1)->∀e∈bC own c,e∈bC own y.1):=by
 intro n
 induction n with
 |zero=>
  intro c x s u y hg hp
  cases c with
  |pair a b=>
   simp only[aU,dP,au]at hg hp
   subst hg;subst hp
   refine⟨λe he=>by simp[bC,he],λh e he=>?_⟩
   simp only[bC,dD]at he ⊢
   exact he.imp (h e) id
  |_=>simp[aU]at hg
 |succ n ih=>
  intro c x s u y hg hp
  cases c with
  |pair a b=>
   simp only[aU,dP]at hg hp
   cases h3:dP n b x.2 u with
   |none=>rw[h3]at hp;simp at hp
   |some y2=>
    rw[h3]at hp
    simp only[au]at hp
    subst hp
    obtain⟨g1,g2⟩:=ih hg h3
    refine⟨λe he=>by simp[bC,g1 e he],λh e he=>?_⟩
    simp only[bC,dD]at he ⊢
    exact he.imp id (g2 h e)
  |_=>simp[aU]at hg
theorem aeN{own:List TypeId}:∀(p:List Stp) {k:K} {x:El k} {d t z:Dat},aB p k x=some d->dz p k x t=some z->
  (∀e∈bC own t.1,e∈bC own z.1\/∃q∈az p k,ah q own=false)/\((∀e∈bC own d.1,e∈bC own t.1)->∀e∈bC own k,e∈bC own z.1):=by
 intro p
 induction p with
 |nil=>
  intro k x d t z hg hz
  simp only[aB,dz,au]at hg hz
  subst hg;subst hz
  exact⟨λe he=>.inl he,λh=>h⟩
 |cons s p ih=>
  intro k x d t z hg hz
  cases s with
  |aY n=>
   cases k with
   |st c=>
    simp only[aB,dz]at hg hz
    cases hcg:aU n c x with
    |none=>rw[hcg]at hg;simp at hg
    |some s=>
     rw[hcg]at hg hz
     simp only at hg hz
     cases hs':dz p s.1 s.2 t with
     |none=>rw[hs']at hz;simp at hz
     |some u=>
      rw[hs']at hz
      simp only at hz
      cases hcp:dP n c x u with
      |none=>rw[hcp]at hz;simp at hz
      |some y=>
       rw[hcp]at hz
       simp only[au]at hz
       subst hz
       obtain⟨g1,g2⟩:=ih hg hs'
       obtain⟨f1,f2⟩:=ala (own:=own) n hcg hcp
       have hpt:az (.aY n :: p) (.st c)=az p s.1:=by simp[az,kL n hcg]
       rw[hpt]
       exact⟨λe he=>(g1 e he).imp (f1 e) id,λh=>f2 (g2 h)⟩
   |_=>simp[aB]at hg
  |idx i=>
   cases k with
   |sl e k=>
    simp only[aB,dz]at hg hz
    cases hs':dz p k ((show List (El k)from x).getD i.toNat k.zero) t with
    |none=>rw[hs']at hz;simp at hz
    |some u=>
     rw[hs']at hz
     simp only at hz
     cases hck:b_ u.1 k u.2 with
     |none=>rw[hck]at hz;simp at hz
     |some y=>
      rw[hck]at hz
      simp only[au]at hz
      subst hz
      obtain⟨g1,g2⟩:=ih hg hs'
      have huk:u.1=k:=by
       unfold b_ at hck
       split at hck
       ·rename_i hb;exact K.eq_of_beq hb
       ·simp at hck
      refine⟨λe' he=>?_,λ_ e' he=>he⟩
      cases hm:ah e own with
      |false=>exact .inr ⟨e,by simp[az],hm⟩
      |true=>
       rcases g1 e' he with h|⟨q,h1,h2⟩
       ·exact .inl (by simp only[bC,hm,gP];rw[<-huk];exact h)
       ·exact .inr ⟨q,by simp[az,h1],h2⟩
   |_=>simp[aB]at hg
theorem ak6:∀(n:Nat) {c:K} {x y:El c} {s:Dat},aU n c x=some s->∃t:Dat,aU n c y=some t/\t.1=s.1:=by
 intro n
 induction n with
 |zero=>
  intro c x y s h
  cases c<;>first|(simp only[aU,au]at h;subst h;exact⟨_,rfl,rfl⟩)|simp[aU]at h
 |succ n ih=>
  intro c x y s h
  cases c<;>first|exact ih h|simp[aU]at h
theorem ak7:∀(n:Nat) {c:K} {x:El c} {s:Dat},aU n c x=some s->∀t∈s.1.tys,t∈c.tys:=by
 intro n
 induction n with
 |zero=>
  intro c x s h t ht
  cases c with
  |pair a b=>simp only[aU,au]at h;subst h;simp[K.tys,ht]
  |_=>simp[aU]at h
 |succ n ih=>
  intro c x s h t ht
  cases c with
  |pair a b=>simp only[aU]at h;simp[K.tys,ih h t ht]
  |_=>simp[aU]at h
theorem Ov{h h':Heap}{own:List TypeId}:∀(q:List Stp) {k:K} {x y:El k} {cs cs':List Value} {wh:Option (Nat×Nat)} {c0:List Value} {w0:Option (Nat×Nat)},
  bX q k x->(∀t∈az q k,ah t own=true/\t∉k.tys)->aW h q k cs wh=some (c0,w0)->bX q k y/\∃c1,aW h' q k cs' wh=some (c1,w0):=by
 intro q
 induction q with
 |nil=>
  intro k x y cs cs' wh c0 w0 _ _ hn
  simp only[aW,au,bZ]at hn ⊢
  exact⟨trivial,_,rfl,hn.2⟩
 |cons s q ih=>
  intro k x y cs cs' wh c0 w0 hp ht hn
  cases s with
  |aY n=>
   cases k with
   |st c=>
    simp only[bX]at hp
    cases hg:aU n c x with
    |none=>rw[hg]at hp;exact hp.elim
    |some s=>
     rw[hg]at hp
     simp only at hp
     have hpt:az (.aY n :: q) (.st c)=az q s.1:=by simp[az,kL n hg]
     rw[hpt]at ht
     obtain⟨t,g1,g2⟩:=ak6 n (c:=c) (x:=x) (y:=y) hg
     obtain⟨sk,sx⟩:=s
     obtain⟨tk,ty⟩:=t
     simp only at g2
     subst g2
     simp only[aW]at hn ⊢
     cases ho:bR n c with
     |none=>rw[ho]at hn;simp at hn
     |some q2=>
      rw[ho]at hn
      simp only at hn
      have hk2:q2.2=tk:=by
       have key:∀(n:Nat) {c:K} {x:El c} {s:Dat} {q:Nat×K},aU n c x=some s->bR n c=some q->q.2=s.1:=by
        intro n
        induction n with
        |zero=>intro c x s q h1 h2;cases c with
         |pair a b=>simp only[aU,bR,au]at h1 h2;subst h1;subst h2;rfl
         |_=>simp[aU]at h1
        |succ n ih=>intro c x s q h1 h2;cases c with
         |pair a b=>
          simp only[aU,bR]at h1 h2
          cases h3:bR n b with
          |none=>rw[h3]at h2;simp at h2
          |some q3=>rw[h3]at h2;simp only[au]at h2;subst h2;exact ih (q:=q3) h1 h3
         |_=>simp[aU]at h1
       exact key n hg ho
      obtain⟨o2,k2⟩:=q2
      simp only at hk2
      subst hk2
      simp only[bX,g1]
      exact ih hp (λt h=>⟨(ht t h).1,λh2=>(ht t h).2 (ak7 n hg t h2)⟩) hn
   |_=>simp[bX]at hp
  |idx i=>
   cases k with
   |sl e k=>exact absurd (by simp[K.tys]) (ht e (by simp[az])).2
   |_=>simp[bX]at hp
theorem Gl{h:Heap}{b o n:Nat}{arr:Array Value}{e:TypeId}{fr:Nat×Nat}(hb:h b=some (.cells arr e fr))(hl:o+n<=arr.size):Cells h b o (iW h b o n):=by
 intro i hi
 simp only[iW,nP,List.length_range]at hi ⊢
 rw[DV,MO hi]
 simp only[o_]
 unfold cellAt
 rw[hb]
 simp[show o+i<arr.size by omega]
theorem mU.widen{h0 h h':Heap}{b o n o' n':Nat}(H0:mU h0 h b o n)(H:mU h h' b o' n')(h1:o<=o')(h2:o'+n'<=o+n):mU h0 h' b o n:=by
 obtain⟨a0,a1,e,fr,g1,g2,g3,g4⟩:=H0
 obtain⟨b0,b1,e',fr',f1,f2,f3,f4⟩:=H
 rw[g2]at f1
 simp only[au,Obj.cells.injEq]at f1
 obtain⟨rfl,rfl,rfl⟩:=f1
 exact⟨a0,b1,e,fr,g1,f2,f3.trans g3,λi hi=>(f4 i (by omega)).trans (g4 i hi)⟩
theorem mG{l m:List Tag}{t:Tag}:t∈lF l m↔t∈l\/t∈m:=by
 induction l with
 |nil=>simp[lF]
 |cons s l ih=>
  obtain⟨r,n⟩:=s
  simp only[lF]
  cases h:m.any λt=>Nat.beq t.1 r&&Nat.beq t.2 n with
  |true=>
   simp only[gP,ih,bW]
   constructor
   ·intro h;exact h.imp .inr id
   ·rintro((h1|h1)|h1)
    ·subst h1
     obtain⟨t,h2,h3⟩:=List.any_eq_true.1 h
     simp only[bB]at h3
     obtain⟨tr,tn⟩:=t
     have:=bD h3.1
     have:=bD h3.2
     simp_all
    ·exact .inl h1
    ·exact .inr h1
  |false=>simp only[jV,ih,bW,or_assoc]
theorem yP{r:Nat}{l:List Tag}{t:Tag}:t∈sJ r l↔t∈l/\t.1≠r:=by
 unfold sJ
 rw[eH]
 constructor
 ·rintro⟨h1,h2⟩
  refine⟨h1,λe=>?_⟩
  rw[e]at h2
  simp at h2
 ·rintro⟨h1,h2⟩
  refine⟨h1,?_⟩
  cases hb:Nat.beq t.1 r with
  |true=>exact absurd (bD hb) h2
  |false=>rfl
section
variable {cx:Cx}{Z:St}{J:aO}{F:List Nat}{a:Act}{w:World}{r:Nat}{R:Root}
theorem CU{T T':List Tag}{b:Nat}(h:bK cx Z J F w T b)(hs:∀t∈T,t∈T'):bK cx Z J F w T' b:=
 ⟨h.1,h.2.1,h.2.2.1,λr R h1 h2=>by obtain⟨n,hn⟩:=h.2.2.2.1 r R h1 h2;exact⟨n,hs _ hn⟩,λhb=>(h.2.2.2.2 hb).imp (λ⟨j,n,h1,h2⟩=>⟨j,n,hs _ h1,h2⟩) id⟩
theorem B_{T T':List Tag}{tys aeJ:List TypeId}(h:dG Z tys T=true)(hs:∀t∈T',t∈T)(ht:∀t∈aeJ,t∈tys):dG Z aeJ T'=true:=by
 rw[zV]at h ⊢
 intro t h1
 rcases h t (hs t h1)with h|⟨R,h2,h3,h4⟩
 ·exact .inl h
 ·refine .inr ⟨R,h2,h3,?_⟩
  unfold clean at h4 ⊢
  rw[eX]at h4 ⊢
  intro x hx
  have:=h4 x hx
  simp only[lI,gJ]at this ⊢
  exact λh=>this (ht x h)
theorem Ac(H:Rel cx Z J F a w)(hr:aX Z r R){b:Nat}(hb:b∈J.fo r):¬oh cx b:=by
 rintro⟨j,pi,o,n,h1,h2⟩
 obtain⟨Q,hQ,hk,hl,_⟩:=H.kI j pi b o n h1 h2
 have hbq:b∈blk J Q (aa j):=by simp[blk,aS,hk,hl]
 have hbr:b∈blk J R r:=bH _ hb
 by_cases e:r=aa j
 ·subst e
  have hQR:Q=R:=by have:=hQ.1;rw[hr.1]at this;simpa using this.symm
  subst hQR
  have hnd:=(H.roots _ _ hr).nd
  rw[jF,u7]at hnd
  exact hnd.1 b o (by simp[ny,hk,hl]) hb
 ·exact H.lN _ _ _ _ hr hQ e b hbr hbq
theorem Bh(H:Rel cx Z J F a w){b:Nat}(hb:b∈F):¬oh cx b:=by
 rintro⟨j,pi,o,n,h1,h2⟩
 obtain⟨Q,hQ,hk,hl,_⟩:=H.kI j pi b o n h1 h2
 have hbq:b∈blk J Q (aa j):=by simp[blk,aS,hk,hl]
 exact H.fI _ _ hQ b hbq hb
def je(R:Root)(z:Dat)(own:List TypeId)(tags:List Tag)(lw lh:List TypeId)(kp:Bool):Root:=
 { R with k:=z.1,x:=z.2,own:=own,tags:=tags,w:=lw++R.w,h:=lh++R.h,keep:=kp }
theorem xG(H:Rel cx Z J F a w)(hr:aX Z r R)(hv:dF Z R){p:List Stp}{d:Dat}(hg:aB p R.k R.x=some d)(dn:bX p R.k R.x)(hown:∀t∈az p R.k,ah t R.own=true)
  {cs1:List Value} {b o:Nat} (hn:aW (hp w) p R.k (J.hdr r) (aS J R r)=some (cs1,some (b,o))) :
  Cells (hp w) b o cs1/\(∃bu,Ow (hp w) R.own (bK cx Z J F w R.tags) d.1 d.2 cs1 bu/\∀b∈bu,b∈J.fo r)/\b∈blk J R r/\(∃arr e lo hi,hp w b=some (.cells arr e (lo,hi))/\jq arr.size lo hi/\o+d.1.size<=arr.size/\((iV R p=e/\¬oh cx b)\/(oh cx b/\iV R p=SENT)))/\
   (∀b' o',aS J R r=some (b',o')->b=b'->o'<=o/\o+d.1.size<=o'+R.k.size):=by
 have K:=H.roots r R hr
 have hnd:=K.nd
 rw[jF,u7]at hnd
 obtain⟨jw,bu,rest,dm,hn',hp1,hd1,hc1,hin,hnone,hup⟩:=focus p (K.ow hv) (λb o e=>(K.mem b o e).1) hg dn hown hnd.2 (λb o e=>hnd.1 b o e)
 rw[hn]at hn'
 simp only[au,bZ]at hn'
 obtain⟨rfl,rfl⟩:=hn'
 refine⟨hc1 b o rfl,⟨bu,hd1,λb hb=>hp1.mem_iff.2 (bQ _ hb)⟩,?_,?_,?_⟩
 ·rw[jF,nu]
  rcases hin b o rfl with⟨_,o0,ew,_⟩|⟨h1,_⟩
  ·exact .inl ⟨o0,ew⟩
  ·exact .inr (hp1.mem_iff.2 (bH _ h1))
 ·rcases hin b o rfl with⟨h0,o0,ew,h1,h2⟩|⟨h1,arr,e,lo,hi,h2,h3,h4,h5⟩
  ·obtain⟨_,arr,e,lo,hi,g1,g2,g3,g4⟩:=K.mem b o0 ew
   refine⟨arr,e,lo,hi,g1,g2,by omega,?_⟩
   unfold iV
   rw[h0]
   simp only[List.getLastD_nil]
   unfold Root.bt
   cases hk:R.kind with
   |var t=>
    refine .inl ⟨(g4 t hk).symm,?_⟩
    rintro⟨j,pi,o',n',h1',h2'⟩
    obtain⟨Q,hQ,Cv,hlQ,_⟩:=H.kI j pi b o' n' h1' h2'
    have hbq:b∈blk J Q (aa j):=by simp[blk,aS,Cv,hlQ]
    have hbr:b∈blk J R r:=by rw[jF,nu];exact .inl ⟨o0,ew⟩
    by_cases e:r=aa j
    ·subst e
     have hQR:Q=R:=by have:=hQ.1;rw[hr.1]at this;simpa using this.symm
     subst hQR
     rw[hk]at Cv
     simp at Cv
    ·exact H.lN _ _ _ _ hr hQ e b hbr hbq
   |par=>
    obtain⟨j,pi,n,hj1,hj2,Tq⟩:=H.sW r R hr hk
    have:(J.loc r).1=b:=by
     have:=ew
     unfold aS at this
     rw[hk]at this
     simp only[au]at this
     rw[this]
    exact .inr ⟨⟨j,pi,_,n,hj2,by rw[Tq,this]⟩,rfl⟩
   |anon=>unfold aS at ew;rw[hk]at ew;simp at ew
   |dead=>unfold aS at ew;rw[hk]at ew;simp at ew
  ·refine⟨arr,e,lo,hi,h2,h3,h5,.inl ⟨?_,Ac H hr (hp1.mem_iff.2 (bH _ h1))⟩⟩
   unfold iV
   rw[YG,h4]
   rfl
 ·intro b' o' ew e
  subst e
  rcases hin b o rfl with⟨_,o0,R_,h1,h2⟩|⟨h1,_⟩
  ·rw[ew]at R_
   simp only[au,bZ,true_and]at R_
   subst R_
   exact⟨h1,h2⟩
  ·exact absurd (hp1.mem_iff.2 (bH _ h1)) (hnd.1 b o' ew)
end
end
section
open Go
variable [Fr]
section
variable {cx:Cx}{Z:St}{J:aO}{F:List Nat}{a:Act}{w:World}{r:Nat}{R:Root}
structure BJ(cx:Cx)(Z:St)(J:aO)(F:List Nat)(w:World)(r:Nat)(R:Root)(p:List Stp)(d:Dat)(own':List TypeId)(cs1:List Value)(dm:Option (Nat×Nat))(bu rest:List Nat)
  (t z:Dat) (tags':List Tag) (lw lh:List TypeId) (kp:Bool) (ft F':List Nat) (cs':List Value) (w':World):Prop where
 hz:dz p R.k R.x t=some z
 ht:t.1.size=d.1.size
 uD:∀e∈bC own' d.1,e∈bC own' t.1
 os:w'.os=w.os/\w'.tape=w.tape/\w'.output=w.output
 size:w.heap.size<=w'.heap.size
 qI:∀b,b<w.heap.size->hp w' b≠hp w b->b∈F\/(b∈bu/\∃e∈lw,jM (hp w) b=some e)\/(∃o,dm=some (b,o)/\iV R p∈lw)
 cells:∀b o,dm=some (b,o)->Cells (hp w') b o cs'/\mU (hp w) (hp w') b o d.1.size
 none:dm=none->cs'=cs1
 len:cs'.length=d.1.size
 log:lw≠[]\/lh≠[]
 tags:(∀t∈R.tags,t∈tags')/\gB Z tags'/\∀n,(r,n)∉tags'
 Ox:∀b∈ft,b∈bu\/b∈F\/(w.heap.size<=b/\b<w'.heap.size)
 am7:ft.Nodup
 newF:∀b∈F',b∈F\/(w.heap.size<=b/\b<w'.heap.size)\/(b∈bu/\∃e∈lw,jM (hp w) b=some e)
 ae1:F'.Nodup
 am6:∀b∈ft,b∉F'
 apw:kQ t.1=kQ d.1\/dm≠Option.none
 am9:t.1=d.1\/(∀q',(aB q' t.1 t.2).isSome=true->(∀e∈az q' t.1,e∉lh)->az q' d.1=az q' t.1/\(aB q' d.1 d.2).isSome=true)\/jC∈lh
 nav:jC∉lh->M3 (hp w) (hp w') own' d.1 d.2 cs1 dm t cs' lh
 cont:∀J',iO cx Z J F w (aR Z r (je R z own' tags' lw lh kp)) J' F' w' (kH r lw) (kH r lh)->(∀b∈blk J' (je R z own' tags' lw lh kp) r,(∃o,aS J R r=some (b,o))\/b∈ft\/b∈rest)->
  dF (aR Z r (je R z own' tags' lw lh kp)) (je R z own' tags' lw lh kp)->Ow (hp w') own' (bK cx (aR Z r (je R z own' tags' lw lh kp)) J' F' w' tags') t.1 t.2 cs' ft
theorem Rel.place(H:Rel cx Z J F a w)(hr:aX Z r R)(hv:dF Z R){p:List Stp}{d:Dat}{own':List TypeId}(hg:aB p R.k R.x=some d)(dn:bX p R.k R.x)
  (hsub:∀t,ah t own'=true->ah t R.own=true) (hown:∀t∈az p R.k,ah t own'=true) :
  ∃fd ok' bu rest cs1 dm,aW (hp w) p R.k (J.hdr r) (aS J R r)=some (cs1,dm)/\(J.fo r).Perm (bu++rest++fd)/\Ow (hp w) own' ok' d.1 d.2 cs1 bu/\(∀b∈bu++rest,∃e∈R.k.tys,ah e own'=true/\jM (hp w) b=some e)/\
   ((∀t∈R.k.tys,ah t own'=ah t R.own)->fd=[]/\Ow (hp w) own' (bK cx Z J F w R.tags) d.1 d.2 cs1 bu)/\
   (∀b o,dm=some (b,o)->b∈rest\/∃o0,aS J R r=some (b,o0)/\o0<=o/\o+d.1.size<=o0+R.k.size)/\(∀b o,dm=some (b,o)->b∉bu)/\
   ∀{t z:Dat} {tags':List Tag} {lw lh:List TypeId} {kp:Bool} {ft F':List Nat} {cs':List Value} {w':World},BJ cx Z J F w r R p d own' cs1 dm bu rest t z tags' lw lh kp ft F' cs' w'->
    ∃J',Rel cx (aR Z r (je R z own' tags' lw lh kp)) J' F' a w'/\iO cx Z J F w (aR Z r (je R z own' tags' lw lh kp)) J' F' w' (kH r lw) (kH r lh)/\(∀b∈blk J' (je R z own' tags' lw lh kp) r,(∃o,aS J R r=some (b,o))\/b∈ft\/b∈rest)/\
     (jC∉lh->dF (aR Z r (je R z own' tags' lw lh kp)) (je R z own' tags' lw lh kp)->aW (hp w') p z.1 (J'.hdr r) (aS J' (je R z own' tags' lw lh kp) r)=some (cs',dm))/\∀b∈ft,b∈J'.fo r:=by
 have K:=H.roots r R hr
 have hnd:=K.nd
 rw[jF,u7]at hnd
 have hO:=K.ow hv
 obtain⟨nZ,fd,TG,hOK,hfd0⟩:∃nZ fd,(J.fo r).Perm (nZ++fd)/\Ow (hp w) own' (λb=>(bK cx Z J F w R.tags b\/b∈fd)/\∃t∈bC own' R.k,mh (hp w) b t) R.k R.x (J.hdr r) nZ/\((∀t∈R.k.tys,ah t own'=ah t R.own)->fd=[]):=by
  by_cases hall:∀t∈R.k.tys,ah t own'=ah t R.own
  ·exact⟨J.fo r,[],by simp,tY _ (λ_ h=>h) (eO (λ_ _=>rfl) (λ_ h=>.inl h) (λ_ _=>rfl) (vM hall hO)),λ_=>rfl⟩
  ·obtain⟨nZ,fd,h1,h2⟩:=yg (own':=own') (λt _ h=>hsub t h) hO
   exact⟨nZ,fd,h1,tY _ (λ_ h=>h) h2,λh=>absurd h hall⟩
 have Tz:=TG.nodup hnd.2
 have aoi:∀b,b∈J.fo r↔b∈nZ\/b∈fd:=λb=>by rw[TG.mem_iff,dD]
 obtain⟨cs1,bu,rest,dm,hn,hp1,hd1,hc1,hin,hnone,hup⟩:=focus p hOK (λb o e=>(K.mem b o e).1) hg dn hown (dH.1 Tz).1 (λb o e hb=>hnd.1 b o e ((aoi b).2 (.inl hb)))
 have hpf:(J.fo r).Perm (bu++rest++fd):=TG.trans (tQ _ hp1)
 have hfo:∀b,b∈J.fo r↔(b∈bu\/b∈rest)\/b∈fd:=λb=>by rw[hpf.mem_iff,dD,dD]
 have ET:=hpf.nodup hnd.2
 have Js:=(dH.1 ET).1
 have ao9:=zC hOK
 have iH:∀b o,dm=some (b,o)->b∈rest\/∃o0,aS J R r=some (b,o0)/\o0<=o/\o+d.1.size<=o0+R.k.size:=by
  intro b o e
  rcases hin b o e with⟨_,o0,ew,h1,h2⟩|⟨h1,_⟩
  ·exact .inr ⟨o0,ew,h1,h2⟩
  ·exact .inl h1
 have apg:∀b o,dm=some (b,o)->b∉bu:=by
  intro b o e hb
  rcases iH b o e with h|⟨o0,ew,_⟩
  ·exact(dH.1 Js).2.2 b hb b h rfl
  ·exact hnd.1 b o0 ew ((hfo b).2 (.inl (.inl hb)))
 have apf:∀b o,dm=some (b,o)->b∉fd:=by
  intro b o e hb
  rcases iH b o e with h|⟨o0,ew,_⟩
  ·exact(dH.1 ET).2.2 b (bH _ h) b hb rfl
  ·exact hnd.1 b o0 ew ((hfo b).2 (.inr hb))
 refine⟨fd,_,bu,rest,cs1,dm,hn,hpf,hd1,λb hb=>ao9 b (hp1.mem_iff.2 hb),?_,iH,apg,?_⟩
 ·intro hall
  have h0:=hfd0 hall
  refine⟨h0,eO (λ_ _=>rfl) (λb hb=>?_) (λ_ _=>rfl) hd1⟩
  rcases hb.1 with hb|hb
  ·exact hb
  ·rw[h0]at hb;simp at hb
 intro t z tags' lw lh kp ft F' cs' w' P
 generalize hR':je R z own' tags' lw lh kp=R' at *
 have Ez:R'.k=z.1:=by rw[<-hR'];rfl
 have hkind:R'.kind=R.kind:=by rw[<-hR'];rfl
 have anY:R'.cZ=false:=by rw[aps hkind];exact hr.2
 have anu:R'.own=own':=by rw[<-hR'];rfl
 have aaz:R'.tags=tags':=by rw[<-hR'];rfl
 have hRg:R'.g=R.g:=by rw[<-hR'];rfl
 have SK:R'.w=lw++R.w:=by rw[<-hR'];rfl
 have hRh:R'.h=lh++R.h:=by rw[<-hR'];rfl
 have hsz:z.1.size=R.k.size:=U6 p hg P.ht P.hz
 have jQ:∀b,b∈bu\/b∈rest\/b∈fd\/(∃o,aS J R r=some (b,o))->b∈blk J R r:=by
  intro b hb
  rw[jF,nu,hfo]
  rcases hb with h|h|h|h
  ·exact .inr (.inl (.inl h))
  ·exact .inr (.inl (.inr h))
  ·exact .inr (.inr h)
  ·exact .inl h
 have lC:∀b∈blk J R r,b∉F:=λb hb=>H.fI r R hr b hb
 have hblt:∀b∈blk J R r,b<w.heap.size:=λb hb=>(K.mine b hb).1
 have SY:∀b∈blk J R r,b∉bu->b∉F':=λb hb hno h=>by
  rcases P.newF b h with h|h|h
  ·exact lC b hb h
  ·have:=hblt b hb;omega
  ·exact hno h.1
 have TN:∀b∈blk J R r,b∉bu->(∀o,dm≠some (b,o))->hp w' b=hp w b:=by
  intro b hb h1 h2
  refine kD λhne=>?_
  rcases P.qI b (hblt b hb) hne with h|⟨h,_⟩|⟨o,h,_⟩
  ·exact lC b hb h
  ·exact h1 h
  ·exact h2 o h
 have an_:∀b∈fd,hp w' b=hp w b:=λb hb=>TN b (jQ b (.inr (.inr (.inl hb))))
  (λh=>(dH.1 ET).2.2 b (bQ _ h) b hb rfl) (λo e=>apf b o e hb)
 have aoU:∀b∈rest,dm.map (·.1)≠some b->hp w' b=hp w b:=λb hb hne=>TN b (jQ b (.inr (.inl hb)))
  (λh=>(dH.1 Js).2.2 b h b hb rfl) (λo e=>hne (by rw[e];rfl))
 have abw:∀b o,aS J R r=some (b,o)->dm.map (·.1)≠some b->hp w' b=hp w b:=λb o e hne=>TN b (jQ b (.inr (.inr (.inr ⟨o,e⟩))))
  (λh=>hnd.1 b o e ((hfo b).2 (.inl (.inl h)))) (λo e=>hne (by rw[e];rfl))
 let hdr':=match aS J R r with
  |some (b0,o0)=>iW (hp w') b0 o0 R.k.size
  |none=>J.hdr r
 have hT1:vO cx Z J F w r R R' (ft++rest) F' w' lw lh:=by
  refine⟨.inr ⟨SK,hRh,by rw[hRg];exact bV _,hkind,λ_=>by rw[Ez];exact hsz,P.log⟩,by rw[aaz];exact P.tags.2,P.os,P.size,?_,?_,?_,P.ae1,?_,?_,λ_=>by rw[<-hR'];exact⟨rfl,rfl⟩⟩
  ·intro b hb hne
   rcases P.qI b hb hne with h|⟨h,h2⟩|⟨o,h,h2⟩
   ·exact .inl h
   ·exact .inr ⟨jQ b (.inl h),.inr (.inl h2)⟩
   ·have hbb:b∈blk J R r:=jQ b (by
     rcases iH b o h with h|⟨o0,ew,_⟩
     ·exact .inr (.inl h)
     ·exact .inr (.inr (.inr ⟨o0,ew⟩)))
    refine .inr ⟨hbb,.inr ?_⟩
    rcases hin b o h with⟨h0,o0,ew,_⟩|⟨_,arr,e,lo,hi,g1,_,g3,_⟩
    ·
     obtain⟨_,arr,e,lo,hi,g1,g2,g3,g4⟩:=K.mem b o0 ew
     unfold iV at h2
     rw[h0]at h2
     simp only[List.getLastD_nil]at h2
     cases hk:R.kind with
     |var tv=>
      refine .inl ⟨tv,?_,?_⟩
      ·unfold Root.bt at h2;rw[hk]at h2;exact h2
      ·unfold jM;rw[g1];simp[g4 tv hk]
     |par=>
      obtain⟨j,pi,n,hj1,hj2,Tq⟩:=H.sW r R hr hk
      have:(J.loc r).1=b:=by
       have:=ew
       unfold aS at this
       rw[hk]at this
       simp only[au]at this
       rw[this]
      exact .inr ⟨⟨j,pi,_,n,hj2,by rw[Tq,this]⟩,λe=>by rw[e]at h2;simp at h2⟩
     |anon=>unfold aS at ew;rw[hk]at ew;simp at ew
     |dead=>unfold aS at ew;rw[hk]at ew;simp at ew
    ·refine .inl ⟨e,?_,by unfold jM;rw[g1]⟩
     unfold iV at h2
     rw[YG,g3]at h2
     exact h2
  ·intro _ b hb
   rw[zT hkind,nu,dD]at hb
   rcases hb with⟨o,h⟩|h|h
   ·exact .inl (jQ b (.inr (.inr (.inr ⟨o,h⟩))))
   ·rcases P.Ox b h with h|h|h
    ·exact .inl (jQ b (.inl h))
    ·exact .inr (.inl h)
    ·exact .inr (.inr h)
   ·exact .inl (jQ b (.inr (.inl h)))
  ·intro b hb
   rcases P.newF b hb with h|h|h
   ·exact .inl h
   ·exact .inr (.inl h)
   ·exact .inr (.inr ⟨jQ b (.inl h.1),.inr (.inl h.2)⟩)
  ·intro _ b hb
   rw[zT hkind,nu,dD]at hb
   rcases hb with⟨o,h⟩|h|h
   ·exact SY b (jQ b (.inr (.inr (.inr ⟨o,h⟩)))) (λh1=>hnd.1 b o h ((hfo b).2 (.inl (.inl h1))))
   ·exact P.am6 b h
   ·exact SY b (jQ b (.inr (.inl h))) (λh1=>(dH.1 Js).2.2 b h1 b h rfl)
  ·intro j pi b o n hj hb E5 hne
   obtain⟨Q,hQ,hk,hl,hs⟩:=H.kI j pi b o n hj hb
   have hQR:Q=R:=by have:=hQ.1;rw[<-E5,hr.1]at this;simpa using this.symm
   subst hQR
   have hwb:aS J Q r=some (b,o):=by unfold aS;rw[hk,E5,hl]
   have hbb:=jQ b (.inr (.inr (.inr ⟨o,hwb⟩)))
   obtain⟨_,_,_,_,_,f6⟩:=H.frame
   have h0:=f6 j pi b o n hj hb
   rcases P.qI b (hblt b hbb) hne with h|⟨h,_⟩|⟨o',h,_⟩
   ·exact absurd h (lC b hbb)
   ·exact absurd ((hfo b).2 (.inl (.inl h))) (hnd.1 b o hwb)
   ·rcases iH b o' h with h1|⟨o0,ew,h1,h2⟩
    ·exact absurd ((hfo b).2 (.inl (.inr h1))) (hnd.1 b o hwb)
    ·rw[hwb]at ew
     simp only[au,bZ,true_and]at ew
     subst ew
     exact h0.widen (P.cells b o' h).2 h1 (by omega)
 have hT:=hT1.turn (hdr':=hdr') H hr
 have hblk':∀b∈blk (aV J r (J.loc r) hdr' (ft++rest)) R' r,(∃o,aS J R r=some (b,o))\/b∈ft\/b∈rest:=by
  intro b hb
  rw[qa,zT hkind,nu,dD]at hb
  exact hb
 have hwhole:dF (aR Z r R') R'->Ow (hp w') own' (bK cx (aR Z r R') (aV J r (J.loc r) hdr' (ft++rest)) F' w' tags') z.1 z.2 hdr' (ft++rest)/\
   (jC∉lh->(t.1=d.1->z.1=R.k)/\M3 (hp w) (hp w') own' R.k R.x (J.hdr r) (aS J R r) z hdr' lh/\aW (hp w') p z.1 hdr' (aS J R r)=some (cs',dm)):=by
  intro hv'
  have hcont:=P.cont _ (by rw[hR'];exact hT) (by rw[hR'];exact hblk') (by rw[hR'];exact hv')
  rw[hR']at hcont
  have uD:∀e∈bC own' R.k,e∈R'.qR:=by
   unfold Root.qR
   rw[anu,Ez]
   exact(aeN p hg P.hz).2 P.uD
  have hc2:=hv'.2
  rw[aaz]at hc2
  obtain⟨_,hV,_⟩:=hT.views H R.tags (bC own' R.k) (H.gz r R hr.1).1 (B_ hc2 P.tags.1 uD)
  have hok:∀b,((bK cx Z J F w R.tags b\/b∈fd)/\∃t∈bC own' R.k,mh (hp w) b t)->bK cx (aR Z r R') (aV J r (J.loc r) hdr' (ft++rest)) F' w' tags' b/\hp w' b=hp w b:=by
   rintro b ⟨hb,hty⟩
   rcases hb with hb|hb
   ·obtain⟨h1,h2⟩:=hV b hb (.inl hty)
    exact⟨CU h1 P.tags.1,h2⟩
   ·have hbb:=jQ b (.inr (.inr (.inl hb)))
    refine⟨⟨x_ (hblt b hbb) P.size,SY b hbb (λh1=>(dH.1 ET).2.2 b (bQ _ h1) b hb rfl),Ac H hr ((hfo b).2 (.inr hb)),?_,?_⟩,an_ b hb⟩
    ·intro q Q hq hbq
     exfalso
     rcases uF hq with⟨rfl,rfl,_⟩|⟨e,hq'⟩
     ·rcases hblk' b hbq with⟨o,h⟩|h|h
      ·exact hnd.1 b o h ((hfo b).2 (.inr hb))
      ·rcases P.Ox b h with h|h|h
       ·exact(dH.1 ET).2.2 b (bQ _ h) b hb rfl
       ·exact lC b hbb h
       ·have:=hblt b hbb;omega
      ·exact(dH.1 ET).2.2 b (bH _ h) b hb rfl
     ·rw[(l9 (J:=J) (Z:=Z) (R:=R') e).blk]at hbq
      exact H.lN _ _ _ _ hr hq' (Ne.symm e) b hbb hbq
    ·intro hb0
     rcases(K.mine b hbb).2 with h|⟨j,pi,h1,h2⟩
     ·omega
     ·exact .inr ⟨j,pi,h1,h2⟩
  obtain⟨csn,hl0,mq,hC',hN',hK'⟩:=hup.go (hp w') (bK cx (aR Z r R') (aV J r (J.loc r) hdr' (ft++rest)) F' w' tags') t cs' ft z P.hz P.len hcont hok aoU P.cells P.none abw
  have aaL:csn=hdr':=by
   cases hw:aS J R r with
   |none=>
    have:hdr'=J.hdr r:=by simp only[hdr'];rw[hw]
    rw[this]
    exact hN' hw
   |some q=>
    have:hdr'=iW (hp w') q.1 q.2 R.k.size:=by simp only[hdr'];rw[hw]
    rw[this]
    have h1:=yY (hC' q.1 q.2 hw)
    rw[hl0,K.len]at h1
    exact h1.symm
  rw[aaL]at mq
  refine⟨mq,λfq=>?_⟩
  have:=hK' lh P.ht (P.nav fq)
  rw[aaL]at this
  exact⟨this.1,this.2.2⟩
 refine⟨aV J r (J.loc r) hdr' (ft++rest),hT1.rel H hr ?_ ?_ ?_,hT,hblk',λhgn hv'=>by
  have h3:=((hwhole hv').2 hgn).2.2
  have Jz:aS (aV J r (J.loc r) hdr' (ft++rest)) R' r=aS J R r:=by rw[wL,Gd hkind,<-AX]
  have Cu:(aV J r (J.loc r) hdr' (ft++rest)).hdr r=hdr':=by simp[aV,upd_same]
  rw[Jz,Cu]
  exact h3,λb hb=>by
  have aoh:(aV J r (J.loc r) hdr' (ft++rest)).fo r=ft++rest:=by simp[aV,upd_same]
  rw[aoh]
  exact bQ _ hb⟩
 ·intro _
  refine⟨λhv'=>?_,?_,?_,?_⟩
  ·have:=(hwhole hv').1
   subst hR'
   exact this
  ·rw[Ez,hsz]
   simp only[hdr']
   cases hw:aS J R r with
   |none=>exact K.len
   |some q=>simp[iW]
  ·intro b o hb
   rw[Gd hkind,<-AX]at hb
   have hh:hdr'=iW (hp w') b o R.k.size:=by simp only[hdr'];rw[hb]
   obtain⟨_,arr,e,lo,hi,g1,g2,g3,g4⟩:=K.mem b o hb
   have hnew:∃gH,hp w' b=some (.cells gH e (lo,hi))/\gH.size=arr.size:=by
    by_cases hbw:dm.map (·.1)=some b
    ·cases TT:dm with
     |none=>rw[TT]at hbw;simp at hbw
     |some q=>
      rw[TT]at hbw
      simp only[o_,au]at hbw
      obtain⟨a1,a2,te,fr,f1,f2,f3,_⟩:=(P.cells q.1 q.2 TT).2
      rw[hbw]at f1 f2
      rw[g1]at f1
      simp only[au,Obj.cells.injEq]at f1
      obtain⟨rfl,rfl,rfl⟩:=f1
      exact⟨a2,f2,f3⟩
    ·exact⟨arr,(abw b o hb hbw).trans g1,rfl⟩
   obtain⟨gH,f1,f2⟩:=hnew
   refine⟨?_,gH,e,lo,hi,f1,by rw[f2];exact g2,by rw[f2,Ez,hsz];exact g3,λtv hk=>g4 tv (hkind▸hk)⟩
   rw[hh]
   exact Gl f1 (by rw[f2];exact g3)
  ·rw[zT hkind,u7]
   refine⟨λb o hb h=>?_,dH.2 ⟨P.am7,(dH.1 Js).2.1,λb h1 c h2 e=>?_⟩⟩
   ·have hbb:=jQ b (.inr (.inr (.inr ⟨o,hb⟩)))
    rcases dD.1 h with h|h
    ·rcases P.Ox b h with h|h|h
     ·exact hnd.1 b o hb ((hfo b).2 (.inl (.inl h)))
     ·exact lC b hbb h
     ·have:=hblt b hbb;omega
    ·exact hnd.1 b o hb ((hfo b).2 (.inl (.inr h)))
   ·subst e
    have hbb:=jQ b (.inr (.inl h2))
    rcases P.Ox b h1 with h|h|h
    ·exact(dH.1 Js).2.2 b h b h2 rfl
    ·exact lC b hbb h
    ·have:=hblt b hbb;omega
 ·intro _ q n v hn' hold
  refine⟨hold.1,?_⟩
  intro Q hQ oW hcl hty hsome
  have hQ':Q=R':=by
   rw[fG]at hQ
   simpa using hQ.symm
  subst hQ'
  have Jz:aS (aV J r (J.loc r) hdr' (ft++rest)) Q r=aS J R r:=by rw[wL,Gd hkind,<-AX]
  have Cu:(aV J r (J.loc r) hdr' (ft++rest)).hdr r=hdr':=by simp[aV,upd_same]
  rw[Jz,Cu]
  rw[hRh,Et hn']at hcl
  by_cases hq:q=[]
  ·subst hq
   obtain⟨_,cs,b,o,h1,h2⟩:=hold.2 R hr.1 hv (by simp[clean,iL,ah]) (λt ht=>by simp[az]at ht) rfl
   simp only[aW,au,bZ]at h1
   exact⟨trivial,hdr',b,o,by simp only[aW];rw[h1.2],h2⟩
  ·have hpt:∀k,iL q k=jC :: az q k:=by
    intro k
    cases q with
    |nil=>exact absurd rfl hq
    |cons s q=>rfl
   rw[hpt]at hcl
   have hgn:jC∉lh:=λhm=>hcl.1 jC hm (by simp)
   obtain⟨hk,hnk,_⟩:=(hwhole oW).2 hgn
   subst hR'
   have abg:az q R.k=az q z.1/\(aB q R.k R.x).isSome=true:=by
    rcases P.am9 with h|h|h
    ·have hk:=hk h
     obtain⟨zk,zx⟩:=z
     simp only at hk
     subst hk
     exact⟨rfl,by rw[EJ q (y:=zx)];exact hsome⟩
    ·exact aez (bad:=lh) p q hg P.hz h hsome (λe he hm=>hcl.1 e hm (jD _ he))
    ·exact absurd h hgn
   have hpe:az q (je R z own' tags' lw lh kp).k=az q R.k:=abg.1.symm
   rw[hpe]at hcl hty
   have anW:∀t∈lh,t∉jC :: az q R.k:=hcl.1
   obtain⟨g1,cs,b,o,g2,g3⟩:=hold.2 R hr.1 hv (by rw[hpt];exact hcl.2) (λt ht=>hsub t (hty t ht)) abg.2
   obtain⟨f1,c1,f2⟩:=hnk q cs (some (b,o)) g1 (λt ht=>⟨hty t ht,λh=>anW t h (jD _ ht)⟩) g2 hsome
   exact⟨f1,c1,b,o,f2,g3⟩
 ·intro _ g v hg' hold Q hQ NM
  obtain⟨hQ',_⟩:=pK hQ
  subst hQ'
  obtain⟨h1,h2⟩:=hold R hr (hRg▸NM)
  have hw:aS J R r=none:=by unfold aS;rw[h1]
  have hh:hdr'=J.hdr r:=by simp only[hdr'];rw[hw]
  have Cu:(aV J r (J.loc r) hdr' (ft++rest)).hdr r=hdr':=by simp[aV,upd_same]
  rw[Cu,hh,hkind]
  refine⟨h1,?_⟩
  rw[Ez]
  refine(YU ?_).2 h2
  by_cases hp:p=[]
  ·subst hp
   have hz:=P.hz
   simp only[dz,aB,au]at hz hg
   subst hz
   rcases P.apw with h|h
   ·rw[h,<-hg]
   ·simp only[aW,au,bZ]at hn
    rw[<-hn.2,hw]at h
    exact absurd rfl h
  ·exact aeh hp P.hz
end
end
section
open Go
variable [Fr]
theorem EF:∀{k:K},k.flat=true->k.tys=[]:=by
 intro k
 induction k with
 |sl e k ih=>intro h;simp[K.flat]at h
 |gap n=>intro h;simp[K.flat]at h
 |pair a b iha ihb=>intro h;simp only[K.flat,bB]at h;simp[K.tys,iha h.1,ihb h.2]
 |st f ih=>intro h;exact ih h
 |_=>intro _;rfl
theorem aka{h h':Heap}{own own':List TypeId}{ok ok':Nat->Prop}:∀{k:K} {x:El k} {cs:List Value} {fo:List Nat},k.flat=true->Ow h own ok k x cs fo->fo=[]/\Ow h' own' ok' k x cs []:=by
 intro k
 induction k with
 |sl e k ih=>intro x cs fo h;simp[K.flat]at h
 |gap n=>intro x cs fo h;simp[K.flat]at h
 |pair a b iha ihb=>
  intro x cs fo h H
  simp only[K.flat,bB]at h
  obtain⟨c1,c2,f1,f2,e,hp,h1,h2⟩:=H
  obtain⟨g1,k1⟩:=iha h.1 h1
  obtain⟨g2,k2⟩:=ihb h.2 h2
  subst g1;subst g2
  exact⟨hp.eq_nil,c1,c2,[],[],e,.refl _,k1,k2⟩
 |st f ih=>intro x cs fo h H;exact ih (x:=x) h H
 |int ik=>intro x cs fo _ H;exact⟨H.1,rfl,H.2⟩
 |bool=>intro x cs fo _ H;exact⟨H.1,rfl,H.2⟩
 |id e=>intro x cs fo _ H;exact⟨H.1,rfl,H.2⟩
 |str=>intro x cs fo _ H;exact⟨H.1,rfl,H.2⟩
 |unit=>intro x cs fo _ H;exact⟨H.1,rfl,H.2⟩
theorem apk{ik:IntKind}{n:Int}(h:Fh ik n=true):lH ik n:=by
 cases ik<;>simp_all[Fh,lH,Fh.Int.blt,Fh.Int.ble]
theorem ji{a b:K}{x:El a}{y:El b}(h:b_ a b x=some y):∃e:a=b,y=e▸x:=by
 unfold b_ at h
 split at h
 ·rename_i hb
  simp only[au]at h
  exact⟨K.eq_of_beq hb,h.symm⟩
 ·simp at h
section
variable {A:Type}{cx:Cx}{Z:St}{J:aO}{F:List Nat}{a:Act}{w:World}{z:A}
theorem uj{k:Prog A}{tys:List TypeId}:∀{T:List Tag},(sG T tys k).ends Z z->dG Z tys T=true/\k.ends Z z:=by
 intro T
 induction T with
 |nil=>intro h;exact⟨rfl,h⟩
 |cons t T ih=>
  obtain⟨r,n⟩:=t
  intro h
  simp only[sG]at h
  cases he:gZ r with
  |true=>
   rw[he]at h
   obtain⟨h1,h2⟩:=ih h
   exact⟨by simp[dG,he,h1],h2⟩
  |false=>
   rw[he]at h
   simp only[jV,Prog.ends]at h
   cases hr:Z.roots r with
   |none=>rw[hr]at h;exact h.elim
   |some R=>
    rw[hr]at h
    simp only at h
    cases hc:(!R.cZ&&clean R.w n tys)with
    |false=>rw[hc]at h;exact h.elim
    |true=>
     rw[hc]at h
     obtain⟨h1,h2⟩:=ih h
     exact⟨by simp only[dG,he,hr,jV];rw[hc,h1];rfl,h2⟩
theorem iA{r:Nat}{k:Root->Prog A}(h:(iY r k).ends Z z):∃R,aX Z r R/\dF Z R/\(k R).ends Z z:=by
 unfold iY at h
 simp only[Prog.ends]at h
 cases hr:Z.roots r with
 |none=>rw[hr]at h;exact h.elim
 |some R=>
  rw[hr]at h
  simp only at h
  cases hd:R.cZ with
  |true=>rw[hd]at h;exact h.elim
  |false=>
   rw[hd]at h
   obtain⟨h1,h2⟩:=uj h
   exact⟨R,⟨hr,hd⟩,⟨hd,h1⟩,h2⟩
theorem ap3(v:Value):a_ cx Z J F w (JS v) v/\dV Z (JS v):=by
 unfold JS
 split
 ·rename_i k n
  cases h:Fh k n with
  |true=>exact⟨λ_=>⟨[.int k n],⟨rfl,by simp⟩,rfl,apk h⟩,λt ht=>by simp at ht⟩
  |false=>exact⟨trivial,trivial⟩
 ·exact⟨λ_=>⟨_,⟨rfl,by simp⟩,rfl⟩,λt ht=>by simp at ht⟩
 ·rename_i s
  exact⟨λ_=>⟨_,⟨rfl,by simp⟩,s,rfl,rfl⟩,λt ht=>by simp at ht⟩
 ·exact⟨⟨none,rfl⟩,trivial⟩
 ·exact⟨rfl,trivial⟩
 ·exact⟨trivial,trivial⟩
theorem EA(H:Rel cx Z J F a w){x:Operand}{k:gU->Prog A}(h:(uV x k).ends Z z):∃v1,jo cx Z J F w v1 (a.eval x)/\nI Z v1/\(k v1).ends Z z:=by
 cases x with
 |tmp t=>exact⟨Z.slots t,H.slots t,H.tJ t,h⟩
 |const v=>obtain⟨h1,h2⟩:=ap3 (cx:=cx) (Z:=Z) (J:=J) (F:=F) (w:=w) v;exact⟨.one (JS v),h1,h2,h⟩
 |func f=>exact⟨.one (.fn f []),⟨[],rfl,trivial⟩,λc hc=>by simp at hc,h⟩
 |global g=>exact h.elim
theorem jN(H:Rel cx Z J F a w){x:Operand}{k:AV->Prog A}(h:(eZ x k).ends Z z):∃v1,a_ cx Z J F w v1 (a.eval x)/\dV Z v1/\(k v1).ends Z z:=by
 obtain⟨v1,h1,h2,h3⟩:=EA H h
 cases v1 with
 |one v=>exact⟨v,h1,h2,h3⟩
 |mO l=>exact h3.elim
 |lit _ _ _=>exact h3.elim
def evs(a:Act)(l:List (Nat×Operand)):List (Nat×Value):=l.map λp=>(p.1,a.eval p.2)
theorem R9(H:Rel cx Z J F a w):∀{l:List (Nat×Operand)} {k:List (Nat×AV)->Prog A},(xy l k).ends Z z->
  ∃vs:List (Nat×AV),vs.map (·.1)=l.map (·.1)/\iP cx Z J F w (vs.map (·.2)) ((evs a l).map (·.2))/\(∀v∈vs,dV Z v.2)/\(k vs).ends Z z:=by
 intro l
 induction l with
 |nil=>intro k h;exact⟨[],rfl,trivial,by simp,h⟩
 |cons p l ih=>
  obtain⟨n,x⟩:=p
  intro k h
  simp only[xy]at h
  obtain⟨v,h1,h2,h3⟩:=jN H h
  obtain⟨vs,g1,g2,g3,g4⟩:=ih h3
  exact⟨(n,v) :: vs,by simp[g1],⟨h1,g2⟩,by simpa using ⟨h2,λa b hb=>g3 (a,b) hb⟩,g4⟩
theorem xx(H:Rel cx Z J F a w):∀{l:List Operand} {k:List AV->Prog A},(pF l k).ends Z z->
  ∃vs:List AV,iP cx Z J F w vs (l.map a.eval)/\(∀v∈vs,dV Z v)/\(k vs).ends Z z:=by
 intro l
 induction l with
 |nil=>intro k h;exact⟨[],trivial,by simp,h⟩
 |cons x l ih=>
  intro k h
  simp only[pF]at h
  obtain⟨v,h1,h2,h3⟩:=jN H h
  obtain⟨vs,g2,g3,g4⟩:=ih h3
  exact⟨v :: vs,⟨h1,g2⟩,by simpa using ⟨h2,g3⟩,g4⟩
theorem AO{ik:IntKind}{n:Int}{T:List Tag}{v:Value}(h:a_ cx Z J F w (.val (.int ik) n T) v):v=.int ik n/\lH ik n:=by
 obtain⟨cs,h1,h2,h3⟩:=h (.inl rfl)
 obtain⟨h5,_⟩:cs=[v]/\_:=h1
 rw[h5]at h2
 simp only[jr,fM]at h2
 exact⟨h2,h3⟩
theorem Gb{b:Bool}{T:List Tag}{v:Value}(h:a_ cx Z J F w (.val .bool b T) v):v=.bool b:=by
 obtain⟨cs,h1,h2⟩:=h (.inl rfl)
 obtain⟨h5,_⟩:cs=[v]/\_:=h1
 have h2':cs=[.bool b]:=h2
 rw[h5]at h2'
 simpa using h2'
theorem AP{s:List Int}{T:List Tag}{v:Value}(h:a_ cx Z J F w (.val .str s T) v):∃B:ByteArray,v=.string B/\s=bytesOf B:=by
 obtain⟨cs,h1,B,h2,h3⟩:=h (.inl rfl)
 obtain⟨h5,_⟩:cs=[v]/\_:=h1
 rw[h5]at h2
 simp only[jr,fM]at h2
 exact⟨B,h2,h3⟩
theorem Uw{ik:IntKind}{n:Int}{T:List Tag}(h:lH ik n):a_ cx Z J F w (.val (.int ik) n T) (.int ik n):=λ_=>⟨[.int ik n],⟨rfl,by simp⟩,rfl,h⟩
theorem aqv{b:Bool}{T:List Tag}:a_ cx Z J F w (.val .bool b T) (.bool b):=λ_=>⟨[.bool b],⟨rfl,by simp⟩,rfl⟩
theorem Ux{B:ByteArray}{T:List Tag}:a_ cx Z J F w (.val .str (bytesOf B) T) (.string B):=λ_=>⟨[.string B],⟨rfl,by simp⟩,B,rfl,rfl⟩
theorem IJ{x:AV}{v:Value}{k:IntKind->Int->Prog A}(hx:a_ cx Z J F w x v)(h:(asInt x k).ends Z z):∃ik n,v=.int ik n/\lH ik n/\(k ik n).ends Z z:=by
 unfold asInt at h
 split at h
 ·rename_i ik n T
  obtain⟨h1,h2⟩:=AO hx
  exact⟨ik,n,h1,h2,h⟩
 ·exact h.elim
theorem Za{x:AV}{v:Value}{k:Bool->Prog A}(hx:a_ cx Z J F w x v)(h:(asBool x k).ends Z z):∃b,v=.bool b/\(k b).ends Z z:=by
 unfold asBool at h
 split at h
 ·rename_i b T
  exact⟨b,Gb hx,h⟩
 ·exact h.elim
theorem bK.q{T:List Tag}{b:Nat}(h:bK cx Z J F w T b):mH Z J F w T b:=⟨h.1,h.2.1,h.2.2.2.1⟩
theorem aqI{T T':List Tag}{b:Nat}(h:mH Z J F w T b)(hs:∀t∈T,t∈T'):mH Z J F w T' b:=
 ⟨h.1,h.2.1,λr R h1 h2=>by obtain⟨n,hn⟩:=h.2.2 r R h1 h2;exact⟨n,hs _ hn⟩⟩
variable {r:Nat}{R:Root}
theorem akc{h:Heap}{own:List TypeId}{ok:Nat->Prop}:∀{k:K} {x:El k} {cs:List Value} {fo:List Nat},(∀t∈k.tys,ah t own=false)->Ow h own ok k x cs fo->fo=[]:=by
 intro k
 induction k with
 |sl e k ih=>
  intro x cs fo h H
  unfold Ow at H
  rw[aC (by rw[h e (by simp[K.tys])];exact qW)]at H
  exact H.1
 |pair a b iha ihb=>
  intro x cs fo h H
  obtain⟨c1,c2,f1,f2,e,hp,h1,h2⟩:=H
  rw[iha (λt ht=>h t (by simp[K.tys,ht])) h1,ihb (λt ht=>h t (by simp[K.tys,ht])) h2]at hp
  exact hp.eq_nil
 |st f ih=>intro x cs fo h H;exact ih (x:=x) h H
 |_=>intro x cs fo _ H;exact H.1
theorem OE(R:Root)(r:Nat){k:K}(hk:k.flat=false):R.out r k=(r,dR R.w) :: R.tags\/(R.out r k=R.tags/\∀t∈k.tys,ah t R.own=false):=by
 unfold Root.out
 rw[hk,jV]
 cases h:k.tys.any λt=>ah t R.own with
 |true=>exact .inl rfl
 |false=>
  refine .inr ⟨rfl,λt ht=>?_⟩
  have:=List.any_eq_false.1 h t ht
  simpa using this
theorem aqR(H:Rel cx Z J F a w)(hr:aX Z r R){k:K}(hk:R.out r k=(r,dR R.w) :: R.tags){b:Nat}(hb:b∈J.fo r):bK cx Z J F w (R.out r k) b:=by
 have hbb:b∈blk J R r:=bH _ hb
 have hm:=(H.roots r R hr).mine b hbb
 refine⟨hm.1,H.fI r R hr b hbb,Ac H hr hb,λq Q hq hbq=>?_,λh0=>?_⟩
 ·by_cases e:q=r
  ·subst e
   exact⟨dR R.w,by rw[hk];simp⟩
  ·exact absurd hbb (H.lN q Q r R hq hr e b hbq)
 ·rcases hm.2 with h|⟨j,pi,h1,h2⟩
  ·omega
  ·exact .inr ⟨j,pi,h1,h2⟩
theorem acB{k:K}(hk:k.flat=false):∀t∈R.tags,t∈R.out r k:=λt ht=>by
 rcases OE R r hk with h|⟨h,_⟩<;>rw[h]
 ·exact jD _ ht
 ·exact ht
theorem FM(H:Rel cx Z J F a w)(hr:aX Z r R)(k:K):gB Z (R.out r k):=by
 intro t ht
 cases hk:k.flat with
 |true=>unfold Root.out at ht;rw[hk]at ht;simp at ht
 |false=>
  have h1:t=(r,dR R.w)\/t∈R.tags:=by
   rcases OE R r hk with h|⟨h,_⟩<;>rw[h]at ht
   ·exact bW.1 ht
   ·exact .inr ht
  rcases h1 with h|h
  ·subst h;exact .inr ⟨R,hr.1,.inr (bV _)⟩
  ·exact(H.gz r R hr.1).1 t h
theorem wE(H:Rel cx Z J F a w)(hr:aX Z r R){k:K}{x:El k}{cs:List Value}{bu:List Nat}(hO:Ow (hp w) R.own (bK cx Z J F w R.tags) k x cs bu)(hf:∀b∈bu,b∈J.fo r) :
  Vw (hp w) (bK cx Z J F w (R.out r k)) k x cs:=by
 cases hk:k.flat with
 |true=>exact nG hk (qE (λ_=>True) (λ_ _=>trivial) (λ_ _=>trivial) hO)
 |false=>
  rcases OE R r hk with ho|⟨_,hn⟩
  ·exact qE _ (λb hb=>CU hb (acB hk)) (λb hb=>aqR H hr ho (hf b hb)) hO
  ·exact qE _ (λb hb=>CU hb (acB hk)) (λb hb=>by rw[akc hn hO]at hb;simp at hb) hO
theorem wH(H:Rel cx Z J F a w)(hr:aX Z r R)(hv:dF Z R){p:List Stp}{d:Dat}(hg:aB p R.k R.x=some d)(dn:bX p R.k R.x)(hown:∀t∈az p R.k,ah t R.own=true)
  {cs1:List Value} {dm:Option (Nat×Nat)} (hn:aW (hp w) p R.k (J.hdr r) (aS J R r)=some (cs1,dm)) :
  ∃bu,Ow (hp w) R.own (bK cx Z J F w R.tags) d.1 d.2 cs1 bu/\∀b∈bu,b∈J.fo r:=by
 have K:=H.roots r R hr
 have hnd:=K.nd
 rw[jF,u7]at hnd
 obtain⟨jw,bu,rest,wh2,hn',hp1,hd1,hc1,hin,hnone,hup⟩:=focus p (K.ow hv) (λb o e=>(K.mem b o e).1) hg dn hown hnd.2 (λb o e=>hnd.1 b o e)
 rw[hn]at hn'
 simp only[au,bZ]at hn'
 obtain⟨rfl,rfl⟩:=hn'
 exact⟨bu,hd1,λb hb=>hp1.mem_iff.2 (bQ _ hb)⟩
theorem pM{T:List Nat}{own:List Nat}(h:(T.all λt=>ah t own)=true):∀t∈T,ah t own=true:=λt ht=>eX.1 h t ht
theorem En(H:Rel cx Z J F a w){x:AV}{v:Value}{k:(kk:K)->El kk->List Tag->Prog A}(hx:a_ cx Z J F w x v)(hw:dV Z x)(h:(qH x k).ends Z z) :
  ∃kk y T cs,VC kk v cs/\Vw (hp w) (bK cx Z J F w T) kk y cs/\gB Z T/\(k kk y T).ends Z z:=by
 cases x with
 |val kk y T=>
  obtain⟨h1,h2⟩:=uj h
  obtain⟨cs,h3,h4⟩:=hx (.inr h1)
  exact⟨kk,y,T,cs,h3,h4,hw,h2⟩
 |ref r g=>
  obtain⟨R,hr,hv,h⟩:=iA h
  cases hg:Nat.beq R.g g with
  |false=>simp only[hg,jV]at h;exact h.elim
  |true=>
   simp only[hg,gP]at h
   obtain⟨h1,h2⟩:=hx R hr (bD hg)
   exact⟨R.k,R.x,R.out r R.k,J.hdr r,h2,wE H hr ((H.roots r R hr).ow hv) (λ_ h=>h),FM H hr _,h⟩
 |eP r p n=>
  obtain⟨R,hr,hv,h⟩:=iA h
  cases hg:Nat.beq R.dY n with
  |false=>simp only[hg,jV]at h;exact h.elim
  |true=>
   simp only[hg,gP]at h
   cases fq:aB p R.k R.x with
   |none=>rw[fq]at h;exact h.elim
   |some d=>
    rw[fq]at h
    obtain⟨h1,h2,cs,wh,h3,h4⟩:=hx R hr.1 hv (bD hg) d fq
    obtain⟨bu,h5,h6⟩:=wH H hr hv fq h1 h2 h3
    exact⟨d.1,d.2,R.out r d.1,cs,h4,wE H hr h5 h6,FM H hr _,h⟩
 |undef=>exact h.elim
 |fZ=>exact h.elim
 |ptr r p n=>exact h.elim
 |gq bt kk y T=>exact h.elim
 |mg _ _ _ _=>exact h.elim
 |pO _=>exact h.elim
 |part _ _ _ _ _=>exact h.elim
 |nN _ _ _ _=>exact h.elim
 |sub _ _ _ _ _ _=>exact h.elim
 |sel _ _ _ _ _ _=>exact h.elim
 |app _ _ _ _=>exact h.elim
 |jA=>exact h.elim
 |fn f cs=>exact h.elim
theorem Nb(H:Rel cx Z J F a w){x:AV}{v:Value}{rd:Root->Nat->List Stp->Dat->Prog A}{ro:TypeId->Dat->List Tag->Prog A}(hx:a_ cx Z J F w x v)(hw:dV Z x)(h:(addrOf x rd ro).ends Z z) :
  (∃r R p d cs b o,aX Z r R/\dF Z R/\aB p R.k R.x=some d/\bX p R.k R.x/\(∀t∈az p R.k,ah t R.own=true)/\aW (hp w) p R.k (J.hdr r) (aS J R r)=some (cs,some (b,o))/\v=.pointer (some ⟨b,o,none⟩)/\(rd R r p d).ends Z z)\/
  (∃bt d T b o cs,gB Z T/\v=.pointer (some ⟨b,o,none⟩)/\Cells (hp w) b o cs/\Vw (hp w) (bK cx Z J F w T) d.1 d.2 cs/\mH Z J F w T b/\((bt=SENT/\∀t∈T,gZ t.1=true)\/(mh (hp w) b bt/\¬oh cx b))/\(ro bt d T).ends Z z):=by
 cases x with
 |ptr r p n=>
  obtain⟨R,hr,hv,h⟩:=iA h
  cases hc:(clean R.h n (iL p R.k)&&FN p R)with
  |false=>rw[hc]at h;exact h.elim
  |true=>
   rw[hc]at h
   simp only[gP]at h
   simp only[bB]at hc
   cases fq:aB p R.k R.x with
   |none=>rw[fq]at h;exact h.elim
   |some d=>
    rw[fq]at h
    have hown:=pM hc.2
    obtain⟨h1,cs,b,o,h2,h3⟩:=hx.2 R hr.1 hv hc.1 hown (by rw[fq];rfl)
    exact .inl ⟨r,R,p,d,cs,b,o,hr,hv,fq,h1,hown,h2,h3,h⟩
 |gq bt k y T=>
  obtain⟨h1,h2⟩:=uj h
  obtain⟨b,o,cs,e,hcs,hV,hok,hb⟩:=hx.2 h1
  exact .inr ⟨bt,⟨k,y⟩,T,b,o,cs,hw,e,hcs,hV,hok,hb,h2⟩
 |undef=>exact h.elim
 |fZ=>exact h.elim
 |ref r g=>exact h.elim
 |eP r p n=>exact h.elim
 |val kk y T=>exact h.elim
 |mg _ _ _ _=>exact h.elim
 |pO _=>exact h.elim
 |part _ _ _ _ _=>exact h.elim
 |nN _ _ _ _=>exact h.elim
 |sub _ _ _ _ _ _=>exact h.elim
 |sel _ _ _ _ _ _=>exact h.elim
 |app _ _ _ _=>exact h.elim
 |jA=>exact h.elim
 |fn f cs=>exact h.elim
end
end
section
open Go
variable [Fr]
theorem oM(a b:List Wr):∀Z,aL (a++b) Z=aL b (aL a Z):=by
 induction a with
 |nil=>intro Z;rfl
 |cons w a ih=>intro Z;exact ih _
theorem O6{own:List TypeId}{k:K}:∀(k0:K),(∀t∈k.tys,t∈k0.tys)->bC (k0.tys.filter λt=>ah t own) k=bC own k:=by
 intro k0
 have key:∀t∈k0.tys,ah t (k0.tys.filter λt=>ah t own)=ah t own:=by
  intro t ht
  cases h:ah t own with
  |true=>rw[dh,eH];exact⟨ht,h⟩
  |false=>
   rw[gJ,eH]
   rintro⟨_,h2⟩
   rw[h]at h2
   simp at h2
 induction k with
 |sl e k ih=>
  intro h
  simp only[bC]
  rw[key e (h e (by simp[K.tys])),ih (λt ht=>h t (by simp[K.tys,ht]))]
 |pair a b iha ihb=>intro h;simp only[bC];rw[iha (λt ht=>h t (by simp[K.tys,ht])),ihb (λt ht=>h t (by simp[K.tys,ht]))]
 |st f ih=>intro h;exact ih h
 |_=>intro _;rfl
theorem acd{own:List TypeId}{k:K}:∀t∈k.tys,ah t (k.tys.filter λt=>ah t own)=ah t own:=by
 intro t ht
 cases h:ah t own with
 |true=>rw[dh,eH];exact⟨ht,h⟩
 |false=>
  rw[gJ,eH]
  rintro⟨_,h2⟩
  rw[h]at h2
  simp at h2
theorem ak8{own:List TypeId}:∀(n:Nat) {c:K} {x:El c} {s:Dat},aU n c x=some s->∀t∈bC own s.1,t∈bC own c:=by
 intro n
 induction n with
 |zero=>
  intro c x s h t ht
  cases c with
  |pair a b=>simp only[aU,au]at h;subst h;simp[bC,ht]
  |_=>simp[aU]at h
 |succ n ih=>
  intro c x s h t ht
  cases c with
  |pair a b=>simp only[aU]at h;simp[bC,ih h t ht]
  |_=>simp[aU]at h
theorem O7{own:List TypeId}:∀(p:List Stp) {k:K} {x:El k} {d:Dat},aB p k x=some d->(∀t∈az p k,ah t own=true)->∀t∈bC own d.1,t∈bC own k:=by
 intro p
 induction p with
 |nil=>intro k x d h _;simp only[aB,au]at h;subst h;exact λ_ h=>h
 |cons s p ih=>
  intro k x d h ht
  cases s with
  |aY n=>
   cases k with
   |st c=>
    simp only[aB]at h
    cases hg:aU n c x with
    |none=>rw[hg]at h;simp at h
    |some s=>
     rw[hg]at h
     simp only at h
     have hpt:az (.aY n :: p) (.st c)=az p s.1:=by simp[az,kL n hg]
     rw[hpt]at ht
     exact λt h2=>ak8 n (c:=c) hg t (ih h ht t h2)
   |_=>simp[aB]at h
  |idx i=>
   cases k with
   |sl e k=>
    simp only[aB]at h
    intro t h2
    have:=ih h (λt h=>ht t (by simp[az,h])) t h2
    simp only[bC,ht e (by simp[az]),gP]
    exact this
   |_=>simp[aB]at h
section
variable {cx:Cx}{Z:St}{J:aO}{F:List Nat}{a:Act}{w:World}
theorem bF{b:Bool}{A:Type}{x y:Prog A}{Z:St}{z:A}(h:(bif b then x else y).ends Z z):(b=true/\x.ends Z z)\/(b=false/\y.ends Z z):=by
 cases b with
 |true=>exact .inl ⟨rfl,h⟩
 |false=>exact .inr ⟨rfl,h⟩
theorem YK{h:Heap}{own:List TypeId}{ok:Nat->Prop}:∀{k:K} {x:El k} {cs:List Value} {fo:List Nat},k.flat=true->Ow h own ok k x cs fo->fo=[]:=by
 intro k
 induction k with
 |sl e k ih=>intro x cs fo h;simp[K.flat]at h
 |gap n=>intro x cs fo h;simp[K.flat]at h
 |pair a b iha ihb=>
  intro x cs fo h H
  simp only[K.flat,bB]at h
  obtain⟨c1,c2,f1,f2,e,hp,h1,h2⟩:=H
  rw[iha h.1 h1,ihb h.2 h2]at hp
  exact hp.eq_nil
 |st f ih=>intro x cs fo h H;exact ih (x:=x) h H
 |_=>intro x cs fo _ H;exact H.1
theorem akf{h:Heap}{own:List TypeId}{ok:Nat->Prop}{e:TypeId}{kk:K}{xs:List (El kk)}{b b':Option Addr}{n c hi:Nat}{fo:List Nat}(hf:kk.flat=true)(he:ah e own=true)(hn:hi<=n)(hb':b'=b)
  (H:Ow h own ok (.sl e kk) xs [.slice b n c] fo):Ow h own ok (.sl e kk) (show List (El kk)from xs.take hi) [.slice b' hi c] fo:=by
 unfold Ow at H ⊢
 rw[aj he]at H ⊢
 obtain⟨a,n',c',e1,e2,e3,H⟩:=H
 simp only[jr,oJ,fM]at e1
 obtain⟨rfl,rfl,rfl⟩:=e1
 have hlen:(xs.take hi).length=hi:=by
  have:n=xs.length:=e2
  simp;omega
 refine⟨b,hi,c,by rw[hb'],hlen.symm,by omega,?_⟩
 rcases H with H|⟨bb,o,arr,l,u,ea,hb,hfr,hs,ay,hl,hp,H⟩
 ·exact .inl H
 ·have h0:∀l∈ay,l=[]:=by
   intro l hl'
   obtain⟨i,hi',rfl⟩:=qC.1 hl'
   have hl:ay.length=xs.length:=hl
   obtain⟨ds,_,h2⟩:=H i (by show i<xs.length;omega)
   have:=YK hf h2
   rw[<-this];simp[iR,hi']
  have hfl:ay.flatten=[]:=List.flatten_eq_nil_iff.2 h0
  have aod:(ay.take hi).flatten=[]:=List.flatten_eq_nil_iff.2 λl hl'=>h0 l (MU hl')
  refine .inr ⟨bb,o,arr,l,u,ea,hb,hfr,hs,ay.take hi,by show(ay.take hi).length=(xs.take hi).length;simp only[pX];rw[show ay.length=xs.length from hl],by rw[aod,<-hfl];exact hp,λi hi'=>?_⟩
  have hi2:i<(xs.take hi).length:=hi'
  have hi3:i<hi/\i<xs.length:=by simp at hi2;omega
  obtain⟨ds,h1,h2⟩:=H i hi3.2
  refine⟨ds,h1,?_⟩
  have e1:(show List (El kk)from xs.take hi)[i]'hi'=xs[i]'hi3.2:=by
   show(xs.take hi)[i]=_
   simp
  have e2:(ay.take hi).getD i []=ay.getD i []:=by simp[iR,MP,hi3.1]
  rw[e1,e2]
  exact h2
inductive su(cx:Cx)(Z:St)(J:aO)(F:List Nat)(w:World)(v:Value)(tk:fC):Prop
 |held (hws:tk.ws=[]) (cs:List Value) (hv:VC tk.k v cs) (h:Held cx Z J F w tk.k tk.x tk.own tk.tags cs []) (hc:dG Z (bC tk.own tk.k) tk.tags=true)
 |ref (r:Nat) (R:Root) (hr:aX Z r R) (hv:dF Z R) (e:tk=⟨R.k,R.x,R.own,R.tags,[.r r none],R.keep⟩) (hk:R.kind=.anon) (hd:VC R.k v (J.hdr r))
 |gap (r:Nat) (R:Root) (p:List Stp) (d z:Dat) (hr:aX Z r R) (hv:dF Z R) (hg:aB p R.k R.x=some d) (hz:dz p R.k R.x (oQ d)=some z) (dn:bX p R.k R.x)
   (hown:∀t∈az p R.k,ah t R.own=true) (hpv:p≠[]\/∃t,R.kind=.var t) (e:tk=⟨d.1,d.2,d.1.tys.filter (λt=>ah t R.own),R.tags,[.r r (some (kr R d z))],R.keep⟩)
   (hn:∃cs wh,aW (hp w) p R.k (J.hdr r) (aS J R r)=some (cs,wh)/\VC d.1 v cs)
 |cut (r:Nat) (R:Root) (cs:List Value) (hr:aX Z r R) (hv:dF Z R) (hk:R.kind=.anon) (e:tk.own=R.own/\tk.tags=R.tags/\tk.ws=[.r r none]/\tk.keep=R.keep) (hd:VC tk.k v cs) (hl:cs.length=tk.k.size)
   (uD:bC R.own tk.k=bC R.own R.k) (how:∀ok,Ow (hp w) R.own ok R.k R.x (J.hdr r) (J.fo r)->Ow (hp w) R.own ok tk.k tk.x cs (J.fo r))
theorem OW{e:TypeId}{k:K}{c:Option Addr}:VC (.sl e k) (.slice c 0 0) [.slice c 0 0]:=⟨rfl,by simp⟩
theorem AJ{A:Type}{z:A}(H:Rel cx Z J F a w){want:K}{x:AV}{v:Value}{k:fC->Prog A}(hx:a_ cx Z J F w x v)(hw:dV Z x)(h:(tC want x k).ends Z z) :
  ∃tk,su cx Z J F w v tk/\(k tk).ends Z z:=by
 cases x with
 |val kk y T=>
  obtain⟨h1,h2⟩:=uj h
  obtain⟨cs,h3,h4⟩:=hx (.inr h1)
  have hty:∀t∈bC [] kk,t∈kk.tys:=λt ht=>VA ht
  exact⟨⟨kk,y,[],T,[],false⟩,.held rfl cs h3 ⟨λ_=>BG (λt _=>rfl) h4,hw,λb hb=>by simp at hb,lZ,nV h4⟩ (B_ h1 (λ_ h=>h) hty),h2⟩
 |fZ=>
  obtain⟨c,rfl⟩:=hx
  unfold tC at h
  cases want with
  |sl e kk=>
   refine⟨_,.held rfl [.slice c 0 0] OW ⟨λ_=>?_,λt ht=>by simp at ht,λb hb=>by simp at hb,lZ,rfl⟩ rfl,h⟩
   unfold Ow
   rw[aj (by simp[ah])]
   exact⟨c,0,0,rfl,rfl,bV _,.inl ⟨rfl,rfl⟩⟩
  |_=>exact h.elim
 |ref r g=>
  obtain⟨R,hr,hv,h⟩:=iA h
  cases hg:(Nat.beq R.g g && !R.fixed)with
  |false=>simp only[hg,jV]at h;exact h.elim
  |true=>
   simp only[hg,gP]at h
   simp only[bB]at hg
   obtain⟨h1,h2⟩:=hx R hr (bD hg.1)
   exact⟨_,.ref r R hr hv rfl h1 h2,h⟩
 |eP r p n=>
  obtain⟨R,hr,hv,h⟩:=iA h
  cases hg:Nat.beq R.dY n with
  |false=>simp only[hg,jV]at h;exact h.elim
  |true=>
   simp only[hg,gP]at h
   cases fq:aB p R.k R.x with
   |none=>rw[fq]at h;exact h.elim
   |some d=>
    rw[fq]at h
    obtain⟨h1,h2,cs,wh,h3,h4⟩:=hx R hr.1 hv (bD hg) d fq
    cases hc:(p.all Stp.j_ && !R.fixed&&(!p.isEmpty||R.isVar))with
    |true=>
     simp only[hc,gP]at h
     cases hga:xz R p d with
     |none=>rw[hga]at h;exact h.elim
     |some R'=>
      rw[hga]at h
      unfold xz at hga
      cases hz:dz p R.k R.x (oQ d)with
      |none=>rw[hz]at hga;simp at hga
      |some zz=>
       rw[hz]at hga
       simp only[au]at hga
       subst hga
       simp only[bB,oD]at hc
       refine⟨_,.gap r R p d zz hr hv fq hz h1 h2 ?_ rfl ⟨cs,wh,h3,h4⟩,h⟩
       rcases hc.2 with h|h
       ·left;intro e;subst e;simp at h
       ·right
        unfold Root.isVar at h
        cases hk:R.kind with
        |var t=>exact⟨t,rfl⟩
        |anon=>rw[hk]at h;simp at h
        |par=>rw[hk]at h;simp at h
        |dead=>rw[hk]at h;simp at h
    |false=>
     simp only[hc,jV]at h
     obtain⟨bu,h5,h6⟩:=wH H hr hv fq h1 h2 h3
     have hV:=wE H hr h5 h6
     obtain⟨hc1,h⟩:=uj h
     exact⟨⟨d.1,d.2,[],R.out r d.1,[],false⟩,.held rfl cs h4 ⟨λ_=>BG (λt _=>rfl) hV,FM H hr _,λb hb=>by simp at hb,lZ,nV hV⟩ (B_ hc1 (λ_ h=>h) (λt ht=>VA ht)),h⟩
 |undef=>exact h.elim
 |ptr r p n=>exact h.elim
 |gq bt kk y T=>exact h.elim
 |mg _ _ _ _=>exact h.elim
 |pO _=>exact h.elim
 |part r g lo hi sz=>
  obtain⟨R,hr,hv,h⟩:=iA h
  rcases bF h with⟨hg,h5⟩|⟨_,h5⟩
  ·clear h
   simp only[bB]at hg
   obtain⟨b',b,n,c,e1,eb,e2,e3,e4,hrf⟩:=hx
   obtain⟨h1,h2⟩:=hrf R hr (bD hg.1.1)
   have hlo:lo=0:=bD hg.2
   subst hlo
   have hK:∀q:Dat,(⟨R.k,R.x⟩:Dat)=q->(match q.1,q.2 with
     |.sl e kk,xs=>bif kk.flat&&ah e R.own&&Nat.beq kk.size sz then k ⟨.sl e kk,(show List (El kk)from xs).take hi,R.own,R.tags,[.r r none],R.keep⟩else .fail
     |_,_=>Prog.fail).ends Z z->∃tk,su cx Z J F w v tk/\(k tk).ends Z z:=by
    intro q hq hh0
    obtain⟨qk,qx⟩:=q
    cases qk with
    |sl e kk=>
     simp only at hh0
     rcases bF hh0 with⟨hc,hh⟩|⟨_,hh⟩
     ·clear hh0
      simp only[bB]at hc
      have hsz:kk.size=sz:=bD hc.2
      subst hsz
      have Jg:VC (.sl e kk) (.slice b n c) (J.hdr r):=by
       have:=congrArg (λq:Dat=>VC q.1 (.slice b n c) (J.hdr r)) hq
       exact cast this h2
      have hb0:b'=b:=by
       rw[eb (.inl rfl)]
       cases b with
       |none=>rfl
       |some ad=>obtain⟨x,y,z⟩:=ad;simp[Addr.add]
      refine⟨⟨.sl e kk,(show List (El kk)from qx).take hi,R.own,R.tags,[.r r none],R.keep⟩,.cut r R [.slice b' hi c] hr hv h1 ⟨rfl,rfl,rfl,rfl⟩ ⟨by rw[e1];simp,by rw[e1];simp⟩ rfl ?_ (λok hO=>?_),hh⟩
      ·exact congrArg (λq:Dat=>bC R.own q.1) hq.symm
      ·have hO:=cast (congrArg (λq:Dat=>Ow (hp w) R.own ok q.1 q.2 (J.hdr r) (J.fo r)) hq) hO
       simp only at hO
       rw[Jg.1]at hO
       exact akf hc.1.1 hc.1.2 e3 hb0 hO
     ·exact hh.elim
    |_=>exact hh0.elim
   exact hK _ rfl h5
  ·exact h5.elim
 |nN _ _ _ _=>exact h.elim
 |sub _ _ _ _ _ _=>exact h.elim
 |sel _ _ _ _ _ _=>exact h.elim
 |app _ _ _ _=>exact h.elim
 |jA=>exact h.elim
 |fn f cs=>exact h.elim
def vJ(cx:Cx)(Z:St)(J:aO)(F:List Nat)(w:World):List (Value×fC)->List (List Value×List Nat)->Prop
 | [],[]=>True
 |it :: l,h :: hs=>(VC it.2.k it.1 h.1/\Held cx Z J F w it.2.k it.2.x it.2.own it.2.tags h.1 h.2/\dG Z (bC it.2.own it.2.k) it.2.tags=true)/\vJ cx Z J F w l hs
 |_,_=>False
def fB(l:List (Value×fC)):List Wr:=l.flatMap λit=>it.2.ws
def oz(l:List (Value×fC)):List Tag:=l.flatMap λit=>it.2.tags
theorem adY(a b:List Wr):(a++b).flatMap Wr.fA=a.flatMap Wr.fA++b.flatMap Wr.fA:=YE
theorem take1(H:Rel cx Z J F a w){v:Value}{tk:fC}(h:su cx Z J F w v tk) :
  ∃J' F' cs fo lw lh,Rel cx (aL tk.ws Z) J' F' a w/\iO cx Z J F w (aL tk.ws Z) J' F' w lw lh/\VC tk.k v cs/\Held cx (aL tk.ws Z) J' F' w tk.k tk.x tk.own tk.tags cs fo/\
   dG (aL tk.ws Z) (bC tk.own tk.k) tk.tags=true/\(∀b∈F,b∈F')/\(∀b∈fo,b∉F)/\(∀q,q∉tk.ws.flatMap Wr.fA->Same Z J (aL tk.ws Z) J' q):=by
 cases h with
 |held hws cs hv hh hc=>
  rw[hws]
  exact⟨J,F,cs,[],_,_,H,FE H ⟨rfl,rfl,rfl⟩ (bV _) (λ_ _ h=>absurd rfl h) (λb hb=>.inl hb) H.iw,hv,hh,hc,λ_ h=>h,λb hb=>by simp at hb,λq _=>vN ..⟩
 |ref r R hr hv e hk hd=>
  subst e
  obtain⟨h1,h2,h3,h4⟩:=kill H hr hk hv
  refine⟨_,_,J.hdr r,J.fo r,_,_,h1,h2,hd,h3,h4,λb hb=>bH _ hb,λb hb hF=>H.fI r R hr b (bH _ hb) hF,?_⟩
  intro q hq
  have hq':q≠r:=by simpa[Wr.fA]using hq
  exact l9 hq'
 |cut r R cs hr hv hk e hd hl uD how=>
  obtain⟨e1,e2,e3,e4⟩:=e
  obtain⟨h1,h2,h3,h4⟩:=kill H hr hk hv
  rw[e3]
  refine⟨_,_,cs,J.fo r,_,_,h1,h2,hd,?_,?_,λb hb=>bH _ hb,λb hb hF=>H.fI r R hr b (bH _ hb) hF,?_⟩
  ·rw[e1,e2]
   refine⟨λhc=>?_,h3.wt,h3.sub,h3.nd,hl⟩
   have:=h3.ow (by rw[<-uD];exact hc)
   exact how _ this
  ·rw[e1,e2]
   show dG (aR Z r iF) (bC R.own tk.k) R.tags=true
   rw[uD];exact h4
  ·intro q hq
   have hq':q≠r:=by simpa[Wr.fA]using hq
   exact l9 hq'
 |gap r R p d z hr hv hg hz dn hown hpv e hn=>
  subst e
  obtain⟨cs,wh,hn1,hn2⟩:=hn
  obtain⟨cs1,dm,bu,rest,g1,g2,g3,g4,g5,_⟩:=gap H hr hv hg hz dn hown hpv
  rw[hn1]at g1
  simp only[au,bZ]at g1
  obtain⟨rfl,rfl⟩:=g1
  have hcl:dG (aR Z r (kr R d z)) (bC R.own d.1) R.tags=true:=by
   rw[g5]
   exact B_ hv.2 (λ_ h=>h) (O7 p hg hown)
  refine⟨_,_,cs,bu,_,_,g2,g3,hn2,?_,?_,λb hb=>bH _ hb,?_,?_⟩
  ·refine⟨λhc=>?_,g4.wt,g4.sub,g4.nd,g4.len⟩
   exact vM (λt ht=>acd t ht) (g4.ow (by rw[O6 d.1 (λ_ h=>h)]at hc;exact hc))
  ·show dG (aR Z r (kr R d z)) (bC (d.1.tys.filter λt=>ah t R.own) d.1) R.tags=true
   rw[O6 d.1 (λ_ h=>h)]
   exact hcl
  ·intro b hb hF
   have:=g2.iw
   exact(dH.1 this).2.2 b hb b hF rfl
  ·intro q hq
   have hq':q≠r:=by simpa[Wr.fA]using hq
   exact l9 hq'
theorem sH{Z':St}{tys:List TypeId}{T:List Tag}(h:∀t∈T,Z'.roots t.1=Z.roots t.1):dG Z' tys T=dG Z tys T:=by
 induction T with
 |nil=>rfl
 |cons t T ih=>
  obtain⟨q,n⟩:=t
  simp only[dG]
  rw[ih (λt ht=>h t (by simp[ht])),h (q,n) (by simp)]
theorem su.stays{Z':St}{J':aO}{F':List Nat}{lw lh:Nat->List Nat}{v:Value}{tk:fC}(h:su cx Z J F w v tk)(H:Rel cx Z J F a w)(T:iO cx Z J F w Z' J' F' w lw lh)
  (hs:∀q,(q∈tk.ws.flatMap Wr.fA\/q∈tk.tags.map (·.1))->Same Z J Z' J' q):su cx Z' J' F' w v tk:=by
 cases h with
 |held hws cs hv hh hc=>
  exact .held hws cs hv (hh.turn H T (λb hb=>by simp at hb)) (by rw[sH (λt ht=>(hs t.1 (.inr (fP.2 ⟨t,ht,rfl⟩))).root)];exact hc)
 |ref r R hr hv e hk hd=>
  subst e
  have hS:=hs r (.inl (by simp[Wr.fA]))
  refine .ref r R ((hS.live R).2 hr) ⟨hv.1,?_⟩ rfl hk (by rw[hS.hdr];exact hd)
  rw[sH (λt ht=>(hs t.1 (.inr (fP.2 ⟨t,ht,rfl⟩))).root)]
  exact hv.2
 |cut r R cs hr hv hk e hd hl uD how=>
  have hS:=hs r (.inl (by rw[e.2.2.1];simp[Wr.fA]))
  refine .cut r R cs ((hS.live R).2 hr) ⟨hv.1,?_⟩ hk e hd hl uD (by rw[hS.hdr,hS.fo];exact how)
  rw[sH (λt ht=>(hs t.1 (.inr (fP.2 ⟨t,by rw[e.2.1];exact ht,rfl⟩))).root)]
  exact hv.2
 |gap r R p d z hr hv hg hz dn hown hpv e hn=>
  subst e
  have hS:=hs r (.inl (by simp[Wr.fA]))
  refine .gap r R p d z ((hS.live R).2 hr) ⟨hv.1,?_⟩ hg hz dn hown hpv rfl (by rw[hS.hdr,hS.wh];exact hn)
  rw[sH (λt ht=>(hs t.1 (.inr (fP.2 ⟨t,ht,rfl⟩))).root)]
  exact hv.2
theorem vJ.turn{Z':St}{J':aO}{F':List Nat}{lw lh:Nat->List Nat}(H:Rel cx Z J F a w)(T:iO cx Z J F w Z' J' F' w lw lh)(hF:∀b∈F,b∈F') :
  ∀{l:List (Value×fC)} {hs:List (List Value×List Nat)},(∀t∈oz l,Z'.roots t.1=Z.roots t.1)->vJ cx Z J F w l hs->vJ cx Z' J' F' w l hs
 | [],[],_,_=>trivial
 |it :: l,h :: hs,hr,hh=>by
  refine⟨⟨hh.1.1,hh.1.2.1.turn H T (λb hb=>⟨rfl,hF b (hh.1.2.1.sub b hb)⟩),?_⟩,vJ.turn H T hF (λt ht=>hr t (by simp only[oz,mP,dD];exact .inr ht)) hh.2⟩
  rw[sH (λt ht=>hr t (by simp only[oz,mP,dD];exact .inl ht))]
  exact hh.1.2.2
 | [],_ :: _,_,h=>h.elim
 |_ :: _,[],_,h=>h.elim
theorem II{l:List Nat}:Ei l=true↔l.Nodup:=by
 induction l with
 |nil=>simp[Ei]
 |cons n l ih=>simp[Ei,ih,gJ]
theorem takes:∀(l:List (Value×fC)) {Z:St} {J:aO} {F:List Nat},Rel cx Z J F a w->(∀it∈l,su cx Z J F w it.1 it.2)->((fB l).flatMap Wr.fA).Nodup->(∀t∈oz l,t.1∉(fB l).flatMap Wr.fA)->
  ∃J' F' hs,Rel cx (aL (fB l) Z) J' F' a w/\vJ cx (aL (fB l) Z) J' F' w l hs/\(hs.flatMap (·.2)).Nodup/\(∀b∈hs.flatMap (·.2),b∉F)/\(∀b∈F,b∈F')/\
   (∀q,q∉(fB l).flatMap Wr.fA->Same Z J (aL (fB l) Z) J' q)/\
   (∀k x own tags cs fo,Held cx Z J F w k x own tags cs fo->Held cx (aL (fB l) Z) J' F' w k x own tags cs fo)/\Views cx Z J F w (aL (fB l) Z) J' F' w/\(∀t,y8 Z t->y8 (aL (fB l) Z) t)/\(∀q,Z.roots q=none->(aL (fB l) Z).roots q=none):=by
 intro l
 induction l with
 |nil=>intro Z J F H _ _ _;exact⟨J,F,[],H,trivial,lZ,λb hb=>by simp at hb,λ_ h=>h,λq _=>vN ..,λ_ _ _ _ _ _ h=>h,λT tys _ h=>⟨h,λb hb _=>⟨hb,rfl⟩,λb hb _=>⟨hb,rfl⟩⟩,λ_ h=>h,λ_ h=>h⟩
 |cons it l ih=>
  intro Z J F H hT hnd fE
  have e1:fB (it :: l)=it.2.ws++fB l:=rfl
  have e2:oz (it :: l)=it.2.tags++oz l:=rfl
  rw[e1,adY]at hnd fE
  rw[e2]at fE
  obtain⟨aP,F1,cs,fo,lw,lh,H1,T1,h1,h2,h3,h4,h5,h6⟩:=take1 H (hT it (by simp))
  have hnd':=dH.1 hnd
  obtain⟨jY,F2,hs,H2,g1,g2,g3,g4,g5,g6,g7,g8,g9⟩:=ih H1 (λit' hi=>(hT it' (by simp[hi])).stays H T1 (λq hq=>by
   refine h6 q ?_
   rcases hq with hq|hq
   ·intro hq'
    exact hnd'.2.2 q hq' q (by
     rw[jZ]at hq ⊢
     obtain⟨wr,hw1,hw2⟩:=hq
     exact⟨wr,jZ.2 ⟨it',hi,hw1⟩,hw2⟩) rfl
   ·obtain⟨t,ht,rfl⟩:=fP.1 hq
    intro hq'
    exact fE t (bH _ (jZ.2 ⟨it',hi,ht⟩)) (bQ _ hq'))) hnd'.2.1
   (λt ht hq=>fE t (bH _ ht) (bH _ hq))
  rw[e1,oM]
  have hq1:∀q,q∉(it.2.ws).flatMap Wr.fA++(fB l).flatMap Wr.fA->Same Z J (aL (fB l) (aL it.2.ws Z)) jY q:=by
   intro q hq
   simp only[dD,not_or]at hq
   have s1:=h6 q hq.1
   have s2:=g5 q hq.2
   exact⟨s2.root.trans s1.root,s2.loc.trans s1.loc,s2.hdr.trans s1.hdr,s2.fo.trans s1.fo⟩
  refine⟨jY,F2,(cs,fo) :: hs,H2,⟨⟨h1,g6 _ _ _ _ _ _ h2,?_⟩,g1⟩,?_,?_,λb hb=>g4 b (h4 b hb),?_,λk x own tags cs fo hh=>g6 _ _ _ _ _ _ (hh.turn H T1 (λb hb=>⟨rfl,h4 b (hh.sub b hb)⟩)),?_,λt ht=>g8 t (T1.tag ht),?_⟩
  ·rw[sH (λt ht=>(g5 t.1 (λhq=>fE t (bQ _ ht) (bH _ hq))).root)]
   exact h3
  ·simp only[mP]
   exact dH.2 ⟨h2.nd,g2,λb hb c hc e=>g3 c hc (e▸h2.sub b hb)⟩
  ·intro b hb hF
   simp only[mP,dD]at hb
   rcases hb with hb|hb
   ·exact h5 b hb hF
   ·exact g3 b hb (h4 b hF)
  ·rw[adY]
   exact hq1
  ·intro T tys hw hc
   obtain⟨k1,k2,k3⟩:=g7 T tys (λt ht=>T1.tag (hw t ht)) hc
   obtain⟨j1,j2,j3⟩:=T1.views H T tys hw k1
   refine⟨j1,λb hb ht=>?_,λb hb ht=>?_⟩
   ·obtain⟨a1,a2⟩:=j2 b hb ht
    exact⟨(k2 b a1 ht).1,rfl⟩
   ·obtain⟨a1,a2⟩:=j3 b hb ht
    exact⟨(k3 b a1 ht).1,rfl⟩
  ·intro q hq
   refine g9 q ?_
   cases hq2:(aL it.2.ws Z).roots q with
   |none=>rfl
   |some Q=>
    exfalso
    by_cases hm:q∈(it.2.ws).flatMap Wr.fA
    ·have:=hT it (by simp)
     cases this with
     |held hws cs hv hh hc=>rw[hws]at hm;simp at hm
     |ref r R hr hv e hk hd=>rw[e]at hm;simp[Wr.fA]at hm;subst hm;rw[hr.1]at hq;simp at hq
     |cut r R cs hr hv hk e hd hl uD how=>rw[e.2.2.1]at hm;simp[Wr.fA]at hm;subst hm;rw[hr.1]at hq;simp at hq
     |gap r R p d z hr hv hg hz dn hown hpv e hn=>rw[e]at hm;simp[Wr.fA]at hm;subst hm;rw[hr.1]at hq;simp at hq
    ·rw[(h6 q hm).root,hq]at hq2
     simp at hq2
end
end
section
open Go
variable [Fr]
theorem uY(j:Nat):gZ (jy j)=true:=by simp[gZ,jy,Nat.add_mod]
theorem Nf{ws:List Wr}{T:List Tag}:zN ws T=true↔∀t∈T,t.1∉ws.flatMap Wr.fA:=by
 unfold zN
 rw[eX]
 simp[gJ]
theorem atB{ws:List Wr}{r:Nat}(h:(ws.all λw=>!w.loc.beq (.r r))=true):r∉ws.flatMap Wr.fA:=by
 rw[jZ]
 rintro⟨w,h1,h2⟩
 have:=eX.1 h w h1
 cases w with
 |s n a=>simp[Wr.fA]at h2
 |r n o=>
  simp only[Wr.fA,iD]at h2
  subst h2
  simp[Wr.loc,Loc.beq]at this
theorem Np:∀(n:Nat) {c:K} {x:El c} {s:Dat} {q:Nat×K},aU n c x=some s->bR n c=some q->q.2=s.1:=by
 intro n
 induction n with
 |zero=>intro c x s q h1 h2;cases c with
  |pair a b=>simp only[aU,bR,au]at h1 h2;subst h1;subst h2;rfl
  |_=>simp[aU]at h1
 |succ n ih=>intro c x s q h1 h2;cases c with
  |pair a b=>
   simp only[aU,bR]at h1 h2
   cases h3:bR n b with
   |none=>rw[h3]at h2;simp at h2
   |some q3=>rw[h3]at h2;simp only[au]at h2;subst h2;exact ih (q:=q3) h1 h3
  |_=>simp[aU]at h1
theorem aqB{h:Heap}:∀(p:List Stp) {k:K} {x:El k} {cs:List Value} {c1:List Value} {w1:Option (Nat×Nat)},az p k=[]->(aB p k x).isSome=true->aW h p k cs none=some (c1,w1)->w1=none:=by
 intro p
 induction p with
 |nil=>intro k x cs c1 w1 _ _ h;simp only[aW,au,bZ]at h;exact h.2.symm
 |cons s p ih=>
  intro k x cs c1 w1 h0 hs h
  cases s with
  |aY n=>
   cases k with
   |st c=>
    simp only[aB]at hs
    cases hg:aU n c x with
    |none=>rw[hg]at hs;simp at hs
    |some s=>
     rw[hg]at hs
     have hp2:az (.aY n :: p) (.st c)=az p s.1:=by simp[az,kL n hg]
     rw[hp2]at h0
     simp only[aW]at h
     cases ho:bR n c with
     |none=>rw[ho]at h;simp at h
     |some q=>
      have hk2:q.2=s.1:=Np n (c:=c) hg ho
      rw[ho]at h
      obtain⟨q1,q2⟩:=q
      simp only at hk2
      subst hk2
      exact ih h0 hs h
   |_=>simp[aB]at hs
  |idx i=>
   cases k with
   |sl e k=>simp[az]at h0
   |_=>simp[aB]at hs
theorem K.akN:∀k:K,k.beq k=true:=by
 intro k
 induction k with
 |int ik=>cases ik<;>rfl
 |sl e k ih=>simp[K.beq,ih]
 |pair a b iha ihb=>simp[K.beq,iha,ihb]
 |st f ih=>exact ih
 |gap n=>simp[K.beq]
 |id e=>simp[K.beq]
 |_=>rfl
theorem YM:∀(q:List Stp) {k:K} {x:El k},bX q k x->(aB q k x).isSome=true:=by
 intro q
 induction q with
 |nil=>intro k x _;rfl
 |cons s q ih=>
  intro k x h
  cases s with
  |aY n=>
   cases k with
   |st c=>
    simp only[bX]at h
    simp only[aB]
    cases hc:aU n c x with
    |none=>rw[hc]at h;exact h.elim
    |some d=>rw[hc]at h;exact ih h
   |_=>exact h.elim
  |idx i=>
   cases k with
   |sl e k=>exact ih h.2.2
   |_=>exact h.elim
theorem akg:∀(q:List Stp) {k:K} {x:El k},az q k=[]->(aB q k x).isSome=true->bX q k x:=by
 intro q
 induction q with
 |nil=>intro k x _ _;trivial
 |cons s q ih=>
  intro k x h0 hs
  cases s with
  |idx i=>cases k<;>simp[az,aB]at h0 hs
  |aY n=>
   cases k with
   |st c=>
    simp only[aB]at hs
    cases hg:aU n c x with
    |none=>rw[hg]at hs;simp at hs
    |some s=>
     rw[hg]at hs
     simp only at hs
     have hp2:az (.aY n :: q) (.st c)=az q s.1:=by simp[az,kL n hg]
     rw[hp2]at h0
     simp only[bX,hg]
     exact ih h0 hs
   |_=>simp[aB]at hs
section
variable {cx:Cx}{Z:St}{J:aO}{F:List Nat}{a:Act}{w:World}{r:Nat}{R:Root}
theorem asY{P:Program}{T:bL}{t:TypeId}{kk:K}{x:El kk}{lX:List TypeId}{vC:List Tag}{yA:List Value}{Cm:List Nat}{v:Value}(hT:dO P T t kk)
  (H:Rel cx Z J F a w) (hr:aX Z r R) (hv:dF Z R) {p:List Stp} {d z:Dat} (hg:aB p R.k R.x=some d) (hz:dz p R.k R.x ⟨kk,x⟩=some z) (dn:bX p R.k R.x) (hown:∀t∈az p R.k,ah t R.own=true)
  (hh:Held cx Z J F w kk x lX vC yA Cm) (hc:dG Z (bC lX kk) vC=true) (j6:VC kk v yA) (hd:d.1=kk\/d.1=kk.hole)
  (hself:kk.flat=true\/OT R r vC (bC lX kk)=true) (hbad:∀t∈az p R.k,t∉bC lX kk) (kp:Bool)
  {cs1:List Value} {b o:Nat} (hn:aW (hp w) p R.k (J.hdr r) (aS J R r)=some (cs1,some (b,o))) :
  ∃w',(Instr.storeAt t (.pointer (some ⟨b,o,none⟩)) v).run P w=.ok () w'/\∃J' F',
   Rel cx (aR Z r (je R z (fF R.own (bC lX kk)) (bif kk.flat then R.tags else lF (sJ r vC) R.tags) [iV R p] ((bif d.1.beq kk then []else uu kk)++kk.tys) kp)) J' F' a w':=by
 have K0:=H.roots r R hr
 have hnt:=H.gz r R hr.1
 have uy:=hh.ow hc
 obtain⟨_,_,hbb,⟨arr,e,lo,hi,hb,hf,hs,hlast⟩,_⟩:=xG H hr hv hg dn hown hn
 have hds:kk.size=d.1.size:=by
  rcases hd with h|h
  ·rw[h]
  ·rw[h,Cy]
 have hone:=M5 hT.gy uy
 have hrun:=aeb (o:=o) hT hb hf hh.len (by omega) j6 hone
 obtain⟨s1,s2,gH,s3,s4,s5,s6⟩:=FZ b yA w arr e (lo,hi) o hb (by rw[hh.len];omega)
 have s7:=F3 b yA w o
 refine⟨_,hrun,?_⟩
 have abb:∀t∈az p R.k,ah t (fF R.own (bC lX kk))=true:=λt ht=>qm.2 ⟨hown t ht,hbad t ht⟩
 obtain⟨fd,ok',bu,rest,jw,dm,hn',hpf,hd1,hty,_,iH,hwf,hgo⟩:=H.place hr hv (own':=fF R.own (bC lX kk)) hg dn (λt h=>(qm.1 h).1) abb
 rw[hn]at hn'
 simp only[au,bZ]at hn'
 obtain⟨rfl,rfl⟩:=hn'
 obtain⟨ft,jG,hpt,Jc⟩:=yg (own':=fF R.own (bC lX kk)) (λt ht hm=>by
  rcases Ky (own:=lX) ht with h|h
  ·exact absurd h (qm.1 hm).2
  ·exact h) (tY (bC lX kk) (λ_ h=>h) uy)
 have aa6:=hpt.nodup hh.nd
 have hft:∀b∈ft,b∈Cm:=λb hb=>hpt.mem_iff.2 (bQ _ hb)
 have Td:∀b∈jG,b∈Cm:=λb hb=>hpt.mem_iff.2 (bH _ hb)
 have lC:b∉F:=H.fI r R hr b hbb
 have aon:=zC Jc
 suffices hP:BJ cx Z J F w r R p d (fF R.own (bC lX kk)) cs1 (some (b,o)) bu rest ⟨kk,x⟩ z (bif kk.flat then R.tags else lF (sJ r vC) R.tags) [iV R p] ((bif d.1.beq kk then []else uu kk)++kk.tys) kp ft (F.filter λb=>!ah b Cm) yA (w.setCells b o yA) by
  obtain⟨J',h,_⟩:=hgo hP
  exact⟨J',_,h⟩
 have hF':∀b',b'∈F.filter (λb=>!ah b Cm)↔b'∈F/\b'∉Cm:=λb'=>by rw[eH];simp[gJ]
 refine⟨hz,hds,?_,⟨s7.1,s7.2.1,s7.2.2⟩,by omega,?_,?_,λh=>by simp at h,by rw[hh.len,hds],.inl (by simp),?_,λb' hb'=>.inr (.inl (hh.sub b' (hft b' hb'))),(dH.1 aa6).1,λb' hb'=>.inl ((hF' b').1 hb').1,H.iw.filter _,λb' hb' h=>((hF' b').1 h).2 (hft b' hb'),.inr (by simp),?_,?_,?_⟩
 ·rcases hd with h|h
  ·rw[h];exact λ_ h=>h
  ·rw[h,atw];intro t ht;simp at ht
 ·intro b' _ hne
  refine .inr (.inr ?_)
  by_cases e:b'=b
  ·subst e;exact⟨o,rfl,by simp⟩
  ·exact absurd (s1 b' e) hne
 ·intro b' o' e'
  simp only[au,bZ]at e'
  obtain⟨rfl,rfl⟩:=e'
  refine⟨λi hi=>?_,arr,gH,e,(lo,hi),hb,s3,s4,λi hi=>?_⟩
  ·unfold cellAt
   rw[s3]
   exact s5 i hi
  ·exact s6 i (by rw[hh.len,hds];exact hi)
 ·cases hfl:kk.flat with
  |true=>exact⟨λ_ h=>h,hnt.1,hnt.2.2⟩
  |false=>
   refine⟨λt ht=>mG.2 (.inr ht),λt ht=>?_,λn ht=>?_⟩
   ·rcases mG.1 ht with h|h
    ·exact hh.wt t (yP.1 h).1
    ·exact hnt.1 t h
   ·rcases mG.1 ht with h|h
    ·exact(yP.1 h).2 rfl
    ·exact hnt.2.2 n h
 ·cases hbq:d.1.beq kk with
  |true=>exact .inl (K.eq_of_beq hbq).symm
  |false=>
   have hdh:d.1=kk.hole:=hd.resolve_left (λe=>by rw[e,K.akN]at hbq;simp at hbq)
   refine .inr (.inl λq' h1 h2=>?_)
   have hnil:az q' kk=[]:=by
    cases he:az q' kk with
    |nil=>rfl
    |cons e l=>exact absurd (bH _ (CV q' e (by rw[he];simp))) (h2 e (by rw[show az q' (⟨kk,x⟩:Dat).1=az q' kk from rfl,he];simp))
   obtain⟨dk,dx⟩:=d
   simp only at hdh
   subst hdh
   obtain⟨h3,h4⟩:=aoN q' (y:=x) hnil h1
   refine⟨?_,?_⟩
   ·show az q' kk.hole=az q' kk
    rw[h3,hnil]
   ·show(aB q' kk.hole dx).isSome=true
    rw[EJ q' (y:=qg kk x)]
    exact h4
 ·intro _ q c0 w0 hpq uB hnq EY
  obtain⟨dk,dx⟩:=d
  rcases hd with ek|ek
  ·simp only at ek
   subst ek
   exact Ov q hpq (λt ht=>⟨(uB t ht).1,λh=>(uB t ht).2 (bH _ h)⟩) hnq
  ·simp only at ek
   subst ek
   have hs0:(aB q kk.hole dx).isSome=true:=YM q hpq
   rw[EJ q (y:=qg kk x)]at hs0
   obtain⟨h1,h2,h3,_,h5⟩:=TE (h:=hp w) q (x:=x) hs0
   have aoL:aW (hp w) q kk cs1 (some (b,o))=some (c0,w0):=by rw[<-h5];exact hnq
   exact Ov (own:=fF R.own (bC lX kk)) q (akg q h1 h3) (λt ht=>by rw[h1]at ht;simp at ht) aoL
 ·intro J' Tn hblk hval
  cases hfl:kk.flat with
  |true=>
   obtain⟨e1,e2⟩:=aka (h':=hp (w.setCells b o yA)) (own':=fF R.own (bC lX kk)) (ok':=bK cx (aR Z r (je R z (fF R.own (bC lX kk)) (bif kk.flat then R.tags else lF (sJ r vC) R.tags) [iV R p] ((bif d.1.beq kk then []else uu kk)++kk.tys) kp)) J' (F.filter λb=>!ah b Cm) (w.setCells b o yA) (bif true then R.tags else lF (sJ r vC) R.tags)) hfl Jc
   subst e1
   rw[hfl]at e2
   exact e2
  |false=>
   rw[hfl]at Tn hblk hval
   have E_:=hself.resolve_left (by rw[hfl];simp)
   simp only[jV]at Tn hblk hval ⊢
   generalize hR':je R z (fF R.own (bC lX kk)) (lF (sJ r vC) R.tags) [iV R p] ((bif d.1.beq kk then []else uu kk)++kk.tys) kp=R' at *
   have SK:R'.w=[iV R p]++R.w:=by rw[<-hR'];rfl
   have hRt:R'.tags=lF (sJ r vC) R.tags:=by rw[<-hR'];rfl
   have hRv:R'.qR=bC (fF R.own (bC lX kk)) z.1:=by rw[<-hR'];rfl
   have hRd:R'.cZ=false:=hval.1
   have ao4:∀t∈bC lX kk,t∈R'.qR:=by
    intro t ht
    rw[hRv]
    have h1:=atv (own:=lX) (own':=fF R.own (bC lX kk)) (k:=kk) (λt ht hm=>by
     rcases Ky (own:=lX) ht with h|h
     ·exact absurd h (qm.1 hm).2
     ·exact h) t ht
    rcases(aeN p hg hz).1 t h1 with h|⟨q,h2,h3⟩
    ·exact h
    ·rw[abb q h2]at h3;simp at h3
   have aoy:∀n,(r,n)∈vC->iV R p∉bC lX kk:=by
    intro n hn1 hl
    unfold iV at hl
    cases hpt:az p R.k with
    |nil=>
     rw[hpt]at hl
     simp only[List.getLastD_nil]at hl
     unfold OT at E_
     rw[oD]at E_
     rcases E_ with h|h
     ·have:=eX.1 h _ hn1
      simp at this
     ·unfold Root.bt at hl
      cases hk:R.kind with
      |var tv=>rw[hk]at h hl;simp only at h hl;rw[lI,gJ]at h;exact h hl
      |par=>rw[hk]at h;simp at h
      |anon=>
       rcases iH b o rfl with h1|⟨o0,ew,_⟩
       ·
        rw[hpt]at hbad
        have:=hty b (bH _ h1)
        have hne:aS J R r=none:=by unfold aS;rw[hk]
        rw[hne]at hn
        have:=aqB p hpt (by rw[hg];rfl) hn
        simp at this
       ·unfold aS at ew;rw[hk]at ew;simp at ew
      |dead=>have:=hr.2;simp[Root.cZ,hk]at this
    |cons e l=>
     rw[hpt,YG]at hl
     have:(e :: l).getLast?.getD R.bt∈(e :: l):=by
      rw[List.getLast?_eq_some_getLast (by simp)]
      exact List.getLast_mem _
     exact hbad _ (by rw[hpt];exact this) hl
   have hc':dG (aR Z r R') (bC lX kk) vC=true:=by
    rw[zV]
    intro tg fE
    by_cases e:tg.1=r
    ·refine .inr ⟨R',by rw[e];exact fG ..,hRd,?_⟩
     rw[zV]at hc
     rcases hc tg fE with h|⟨Q,h1,h2,h3⟩
     ·rw[e,hnt.2.1]at h;simp at h
     ·rw[e,hr.1]at h1
      simp only[au]at h1
      subst h1
      rw[SK]
      refine(Et ?_).2 ⟨λt ht=>?_,h3⟩
      ·rcases hh.wt tg fE with h|⟨Q,q1,q2⟩
       ·rw[e,hnt.2.1]at h;simp at h
       ·rw[e,hr.1]at q1
        simp only[au]at q1
        subst q1
        rcases q2 with q2|q2
        ·rw[hr.2]at q2;simp at q2
        ·exact q2
      ·simp only[iD]at ht
       subst ht
       exact aoy tg.2 (by rw[<-e];exact fE)
    ·have h2:=hval.2
     rw[hRt,zV]at h2
     rcases h2 tg (mG.2 (.inl (yP.2 ⟨fE,e⟩)))with h|⟨Q,h3,h4,h5⟩
     ·exact .inl h
     ·refine .inr ⟨Q,h3,h4,?_⟩
      unfold clean at h5 ⊢
      rw[eX]at h5 ⊢
      intro x hx
      have:=h5 x hx
      simp only[lI,gJ]at this ⊢
      exact λh=>this (ao4 x h)
   obtain⟨_,hV,_⟩:=Tn.views H vC (bC lX kk) hh.wt hc'
   have hsame:∀b',b'≠b->hp (w.setCells b o yA) b'=hp w b':=s1
   refine eO ?_ ?_ (λb' hb'=>hsame b' (λe=>lC (e▸hh.sub b' (hft b' hb')))) Jc
   ·rintro b' (⟨h1,h2⟩|h)
    ·exact(hV b' h1 (.inl h2)).2
    ·exact hsame b' (λe=>lC (e▸hh.sub b' (Td b' h)))
   ·rintro b' (⟨h1,h2⟩|h)
    ·obtain⟨g1,g2,g3,g4,g5⟩:=(hV b' h1 (.inl h2)).1
     refine⟨g1,g2,g3,λq Q hq hbq=>?_,λh0=>?_⟩
     ·obtain⟨n,hn1⟩:=g4 q Q hq hbq
      by_cases e:q=r
      ·exfalso
       subst e
       obtain⟨rfl,_⟩:=pK hq
       obtain⟨tt,ht1,ht2⟩:=h2
       have aco:∀e,mine cx w b'->jM (hp w) b'=some e->ah e (fF R.own (bC lX kk))=true->False:=by
        intro e hmn he hm
        have ht2:=H.C_ hmn ht2
        rw[ht2]at he
        simp only[au]at he
        subst he
        exact(qm.1 hm).2 ht1
       rcases hblk b' hbq with⟨o',h⟩|h|h
       ·unfold OT at E_
        rw[oD]at E_
        rcases E_ with h3|h3
        ·have:=eX.1 h3 _ hn1
         simp at this
        ·cases hk:R.kind with
         |var tv=>
          rw[hk]at h3
          simp only at h3
          rw[lI,gJ]at h3
          obtain⟨_,atJ,e2,lo2,hi2,f1,_,_,f4⟩:=K0.mem b' o' h
          have ht2:=H.C_ (K0.mine b' (by unfold blk;rw[h];exact jE)) ht2
          unfold jM at ht2
          rw[f1]at ht2
          simp only[au]at ht2
          exact h3 (by rw[<-f4 tv hk,ht2];exact ht1)
         |par=>rw[hk]at h3;simp at h3
         |anon=>unfold aS at h;rw[hk]at h;simp at h
         |dead=>have:=hr.2;simp[Root.cZ,hk]at this
       ·obtain⟨e,_,h3,h4⟩:=aon b' h
        exact aco e (H.fl b' (hh.sub b' (hft b' h))) h4 h3
       ·obtain⟨e,_,h3,h4⟩:=hty b' (bH _ h)
        exact aco e (K0.mine b' (bH _ (hpf.mem_iff.2 (by simp[h])))) h4 h3
      ·exact⟨n,mG.2 (.inl (yP.2 ⟨hn1,e⟩))⟩
     ·rcases g5 h0 with⟨j,n,h3,h4⟩|h3
      ·refine .inl ⟨j,n,mG.2 (.inl (yP.2 ⟨h3,?_⟩)),h4⟩
       intro e
       have:=hnt.2.1
       rw[<-e]at this
       simp only at this
       rw[uY]at this
       simp at this
      ·exact .inr h3
    ·have Jh:=hh.sub b' (Td b' h)
     have hm:=H.fl b' Jh
     refine⟨by have:=hm.1;omega,λh2=>((hF' b').1 h2).2 (Td b' h),Bh H Jh,λq Q hq hbq=>?_,λh0=>?_⟩
     ·exfalso
      rcases uF hq with⟨rfl,rfl,_⟩|⟨e,hq'⟩
      ·rcases hblk b' hbq with⟨o',h2⟩|h2|h2
       ·exact H.fI _ _ hr b' (by rw[jF,nu];exact .inl ⟨o',h2⟩) Jh
       ·exact(dH.1 aa6).2.2 b' h2 b' h rfl
       ·exact H.fI _ _ hr b' (by rw[jF,nu,hpf.mem_iff];exact .inr (by simp[h2])) Jh
      ·obtain⟨Q2,g1,g2⟩:=Tn.old q Q hq'.1
       have hns:Same Z J (aR Z r R') J' q:=by
        refine kD λhns=>?_
        rcases g2 with⟨h1,h2⟩|⟨_,h2⟩
        ·rw[jR Z R' e]at g1
         rw[hq'.1]at g1
         simp only[au]at g1
         subst g1
         rw[hq'.2]at h1
         simp at h1
        ·rcases h2.2.2.2.2.2.2 with h3|⟨_,_,h3⟩
         ·rw[u_ _ e,u_ _ e]at h3
          simp at h3
         ·exact hns h3
       rw[hns.blk]at hbq
       exact H.fI _ _ hq' b' hbq Jh
     ·rcases hm.2 with h|⟨j,pi,h1,h2⟩
      ·omega
      ·exact .inr ⟨j,pi,h1,h2⟩
end
end
section
open Go
variable [Fr]
theorem qi(d c:Nat):gZ (aN d c)=false:=by
 unfold gZ aN
 have:(4*(8*d+c)+2)%4=2:=by omega
 rw[this];rfl
section
variable {cx:Cx}{Z:St}{J:aO}{F:List Nat}{a:Act}{w:World}{r:Nat}
theorem aeB{T:List Tag}(h:gB Z T)(hn:Z.roots r=none)(hx:gZ r=false):∀n,(r,n)∉T:=by
 intro n hn2
 rcases h _ hn2 with h|⟨Q,h,_⟩
 ·simp only at h;rw[hx]at h;simp at h
 ·simp only at h;rw[hn]at h;simp at h
theorem Eg(H:Rel cx Z J F a w)(hn:Z.roots r=none)(hx:gZ r=false){R':Root}(hd:R'.cZ=false)(hk:R'.kind≠.par)(oV:gB Z R'.tags)(loc:Nat×Nat)(hdr':List Value)(aM F':List Nat)
  (hblk:∀b∈jh R' loc aM,b∈F/\b∉F') (hnd:(jh R' loc aM).Nodup) (hF':∀b∈F',b∈F) (I_:F'.Nodup)
  (how:dG Z R'.qR R'.tags=true->Ow (hp w) R'.own (λb=>bK cx Z J F w R'.tags b\/(b∈F/\b∉F'/\b∉jh R' loc aM)) R'.k R'.x hdr' aM) (hlen:hdr'.length=R'.k.size)
  (hmem:∀b o,ny R' loc=some (b,o)->Cells (hp w) b o hdr'/\∃arr e lo hi,hp w b=some (.cells arr e (lo,hi))/\jq arr.size lo hi/\o+R'.k.size<=arr.size/\(∀t,R'.kind=.var t->e=t)) :
  Rel cx (aR Z r R') (aV J r loc hdr' aM) F' a w/\iO cx Z J F w (aR Z r R') (aV J r loc hdr' aM) F' w (kH r []) (kH r []):=by
 have hns:∀{q:Nat},¬Same Z J (aR Z r R') (aV J r loc hdr' aM) q->q=r:=λ{q} h=>kD λe=>h (l9 e)
 have hold:∀{q Q},Z.roots q=some Q->q≠r:=λ{q Q} h e=>by rw[e,hn]at h;simp at h
 have T:iO cx Z J F w (aR Z r R') (aV J r loc hdr' aM) F' w (kH r []) (kH r []):=by
  refine⟨rfl,⟨rfl,rfl,rfl⟩,bV _,?_,?_,?_,λb _ h=>absurd rfl h,?_,I_,?_,?_,λ_ _ _ _ _ _ _ h=>absurd rfl h,λq Q Q' h1 h2 _=>by rw[jR Z R' (hold h1),h1]at h2;simp only[au]at h2;subst h2;exact⟨rfl,rfl⟩⟩
  ·intro q Q hQ
   have e:=hold hQ
   refine⟨Q,by rw[jR Z R' e];exact hQ,?_⟩
   cases hd:Q.cZ with
   |true=>exact .inl ⟨rfl,by intro hk;simp[Root.cZ,hk]at hd⟩
   |false=>exact .inr ⟨rfl,by rw[u_ _ e];rfl,by rw[u_ _ e];rfl,bV _,rfl,by simp[aV,upd_ne _ _ e],λ_=>rfl,.inr ⟨u_ _ e,u_ _ e,l9 e⟩⟩
  ·intro q Q hQ hs
   have e:=hns hs
   subst e
   rw[fG]at hQ
   simp only[au]at hQ
   subst hQ
   refine⟨λt ht=>?_,hx,aeB oV hn hx⟩
   have hne:t.1≠q:=λe=>aeB oV hn hx t.2 (by rw[<-e];exact ht)
   rcases oV t ht with h|⟨Q,h1,h2⟩
   ·exact .inl h
   ·exact .inr ⟨Q,by rw[jR Z R' hne];exact h1,h2⟩
  ·intro q Q hq hQ
   by_cases e:q=r
   ·subst e
    rw[fG]at hQ
    simp only[au]at hQ
    subst hQ
    exact hk
   ·rw[jR Z R' e,hq]at hQ;simp at hQ
  ·rintro b (⟨q,Q,hq,hb,hno⟩|hb)
   ·rcases uF hq with⟨rfl,rfl,_⟩|⟨e,hq'⟩
    ·rw[qa]at hb
     exact .inl (hblk b hb).1
    ·rw[(l9 (J:=J) (Z:=Z) (R:=R') e).blk]at hb
     exact absurd ⟨Q,hq',hb⟩ hno
   ·exact .inl (hF' b hb)
  ·intro q Q hq hs b hb
   have e:=hns hs
   subst e
   obtain⟨rfl,_⟩:=pK hq
   rw[qa]at hb
   exact(hblk b hb).2
  ·intro q Q q' Q' hq hq' hne hs hs'
   exact absurd ((hns hs).trans (hns hs').symm) hne
 refine⟨H.turn T ?_ ?_ ?_,T⟩
 ·intro q Q hq hs
  have e:=hns hs
  subst e
  obtain⟨rfl,_⟩:=pK hq
  refine⟨λhv=>?_,?_,?_,?_⟩
  ·have e1:(aV J q loc hdr' aM).hdr q=hdr':=by simp[aV,upd_same]
   have e2:(aV J q loc hdr' aM).fo q=aM:=by simp[aV,upd_same]
   rw[e1,e2]
   obtain⟨h1,h2,_⟩:=T.views H Q.tags _ oV hv.2
   refine eO (λ_ _=>rfl) ?_ (λ_ _=>rfl) (tY _ (λ_ h=>h) (how h1))
   rintro b ⟨hb|⟨g1,g2,g3⟩,hty⟩
   ·exact(h2 b hb (.inl hty)).1
   ·have hm:=H.fl b g1
    refine⟨hm.1,g2,Bh H g1,λq' Q' hq' hb'=>?_,λh0=>?_⟩
    ·exfalso
     rcases uF hq' with⟨rfl,rfl,_⟩|⟨e,hq2⟩
     ·rw[qa]at hb';exact g3 hb'
     ·rw[(l9 (J:=J) (Z:=Z) (R:=Q) e).blk]at hb'
      exact H.fI _ _ hq2 b hb' g1
    ·rcases hm.2 with h|⟨j,pi,h1,h2⟩
     ·omega
     ·exact .inr ⟨j,pi,h1,h2⟩
  ·simpa[aV,upd_same]using hlen
  ·intro b o hb
   rw[wL]at hb
   simpa[aV,upd_same]using hmem b o hb
  ·rw[qa];exact hnd
 ·intro q Q hq hs
  exact absurd (hns hs) (hold hq.1)
 ·intro q Q hq hs
  exact absurd (hns hs) (hold hq.1)
theorem rA{R:Root}(h:R.kind=.anon)(loc:Nat×Nat)(fo:List Nat):jh R loc fo=fo:=by simp[jh,h]
theorem Eo{R:Root}{t:TypeId}(h:R.kind=.var t)(loc:Nat×Nat)(fo:List Nat):jh R loc fo=loc.1 :: fo:=by simp[jh,h]
theorem Gc{R:Root}(h:R.kind=.anon)(loc:Nat×Nat):ny R loc=none:=by simp[ny,h]
theorem aeO{R:Root}{t:TypeId}(h:R.kind=.var t)(loc:Nat×Nat):ny R loc=some loc:=by simp[ny,h]
theorem acg{k:K}{x:El k}{own:List TypeId}{tags:List Tag}{kp:Bool}{hdr:List Value}{fo F':List Nat}{loc:Nat×Nat}{v:Value}{w:World}(h:VC k v hdr) :
  a_ cx (aR Z r (bP k x own tags .anon kp)) (aV J r loc hdr fo) F' w (.ref r 0) v:=by
 intro Q hQ _
 obtain⟨rfl,_⟩:=pK hQ
 refine⟨rfl,?_⟩
 simp only[aV,upd_same]
 exact h
theorem aqw{k:K}{x:El k}{own:List TypeId}{tags:List Tag}{kp:Bool}{hdr:List Value}{fo F':List Nat}{b:Nat}{t:TypeId}{w:World} :
  a_ cx (aR Z r (bP k x own tags (.var t) kp)) (aV J r (b,0) hdr fo) F' w (.ptr r [] 0) (.pointer (some ⟨b,0,none⟩)):=by
 refine⟨⟨b,0,rfl⟩,?_⟩
 intro Q hQ _ _ _ _
 rw[fG]at hQ
 simp only[au]at hQ
 subst hQ
 refine⟨trivial,hdr,b,0,?_,rfl⟩
 simp only[aW]
 rw[wL]
 simp[ny,bP,aV,upd_same]
theorem aqx{k:K}{x:El k}{own:List TypeId}{tags:List Tag}{kp:Bool}{hdr:List Value}{fo F':List Nat}{b o:Nat}{t:TypeId}{w:World} :
  a_ cx (aR Z r (bP k x own tags (.var t) kp)) (aV J r (b,o) hdr fo) F' w (.ptr r [] 0) (.pointer (some ⟨b,o,none⟩)):=by
 refine⟨⟨b,o,rfl⟩,?_⟩
 intro Q hQ _ _ _ _
 rw[fG]at hQ
 simp only[au]at hQ
 subst hQ
 refine⟨trivial,hdr,b,o,?_,rfl⟩
 simp only[aW]
 rw[wL]
 simp[ny,bP,aV,upd_same]
theorem F6{tk:fC}(h:gB Z tk.tags):gB Z tk.iQ:=by
 unfold fC.iQ
 split
 ·intro t ht;simp at ht
 ·exact h
theorem jU{h:Heap}{own:List TypeId}{ok ok':Nat->Prop}{k:K}{x:El k}{cs:List Value}{fo:List Nat}(hv:bC own k=[])(H:Ow h own ok k x cs fo):Ow h own ok' k x cs fo:=by
 refine eO (λ_ _=>rfl) (λb hb=>?_) (λ_ _=>rfl) (tY [] (by rw[hv];exact λ_ h=>h) H)
 obtain⟨_,t,ht,_⟩:=hb
 simp at ht
theorem Zk{P:Program}{tk:fC}{t:TypeId}{v:Value}{cs:List Value}{fo:List Nat}(H:Rel cx Z J F a w)(hn:Z.roots r=none)(hx:gZ r=false)(hh:Held cx Z J F w tk.k tk.x tk.own tk.tags cs fo)
  (hc:dG Z (bC tk.own tk.k) tk.tags=true) (hv:VC tk.k v cs) (kp:Bool) :
  (Instr.box t v).run P w=.ok (.pointer (some ⟨w.heap.size,0,none⟩)) (w.alloc (.cells v.cells t))/\
   ∃J' F',Rel cx (aR Z r (bP tk.k tk.x tk.own tk.iQ (.var t) kp)) J' F' a (w.alloc (.cells v.cells t))/\
    a_ cx (aR Z r (bP tk.k tk.x tk.own tk.iQ (.var t) kp)) J' F' (w.alloc (.cells v.cells t)) (.ptr r [] 0) (.pointer (some ⟨w.heap.size,0,none⟩)):=by
 refine⟨ad7 t v w,?_⟩
 have hcs:v.cells=cs.toArray:=by
  have:=hv.cells
  apply vE
  simpa using this
 rw[hcs]
 obtain⟨H1,T1⟩:=H.alloc (.cells cs.toArray t)
 have Tm:=hh.turn H T1 (λb hb=>⟨CB w _ (H.fl b (hh.sub b hb)).1,jD _ (hh.sub b hb)⟩)
 have hnew:hp (w.alloc (.cells cs.toArray t)) w.heap.size=some (.cells cs.toArray t (0,0)):=EX w _
 have lC:w.heap.size∉F:=λh=>by have:=(H.fl _ h).1;omega
 have hbf:w.heap.size∉fo:=λh=>lC (hh.sub _ h)
 have hk:(bP tk.k tk.x tk.own tk.iQ (.var t) kp).kind=.var t:=rfl
 obtain⟨h1,h2⟩:=Eg (R':=bP tk.k tk.x tk.own tk.iQ (.var t) kp) H1 hn hx rfl (by simp[bP]) (F6 Tm.wt) (w.heap.size,0) cs fo (F.filter λb=>!ah b fo)
  (λb hb=>by
   rw[Eo hk]at hb
   rcases bW.1 hb with h|h
   ·simp only at h;subst h
    exact⟨jE,λh=>lC (eH.1 h).1⟩
   ·refine⟨jD _ (hh.sub b h),λh2=>?_⟩
    have:=(eH.1 h2).2
    simp only[lI,gJ]at this
    exact this h)
  (by rw[Eo hk];exact jg.2 ⟨hbf,hh.nd⟩)
  (λb hb=>jD _ (eH.1 hb).1) (H.iw.filter _)
  (λhcl=>by
   show Ow _ tk.own _ tk.k tk.x cs fo
   cases hb:tk.bad with
   |nil=>exact jU hb (Tm.ow hc)
   |cons t0 l=>
    have et:(bP tk.k tk.x tk.own tk.iQ (.var t) kp).tags=tk.tags:=by
     show tk.iQ=tk.tags
     unfold fC.iQ
     rw[hb]
    rw[et]at hcl ⊢
    exact eO (λ_ _=>rfl) (λb h=>.inl h) (λ_ _=>rfl) (Tm.ow hcl)) hh.len
  (λb o hb=>by
   rw[aeO hk]at hb
   simp only[au,bZ]at hb
   obtain⟨rfl,rfl⟩:=hb
   refine⟨λi hi=>?_,cs.toArray,t,0,0,hnew,jq.zero,?_,λt' ht'=>?_⟩
   ·unfold cellAt
    rw[hnew]
    simp
   ·show 0+tk.k.size<=_
    simp[hh.len]
   ·have:zH.var t=zH.var t':=ht'
    simpa using this)
 exact⟨_,_,h1,aqw⟩
theorem Y4{k:K}{x:El k}{own:List TypeId}{tags:List Tag}{v:Value}{cs:List Value}{fo:List Nat}(H:Rel cx Z J F a w)(hn:Z.roots r=none)(hx:gZ r=false)
  (hsub:∀b∈fo,b∈F) (hnd:fo.Nodup) (hwt:gB Z tags) {F':List Nat} (hF':∀b∈F',b∈F/\b∉fo) (I_:F'.Nodup) (hlen:cs.length=k.size)
  (how:dG Z (bC own k) tags=true->Ow (hp w) own (λb=>bK cx Z J F w tags b\/(b∈F/\b∉F'/\b∉fo)) k x cs fo) (hv:VC k v cs) (kp:Bool) :
  Rel cx (aR Z r (bP k x own tags .anon kp)) (aV J r (0,0) cs fo) F' a w/\a_ cx (aR Z r (bP k x own tags .anon kp)) (aV J r (0,0) cs fo) F' w (.ref r 0) v:=by
 have hk:(bP k x own tags .anon kp).kind=.anon:=rfl
 obtain⟨h1,h2⟩:=Eg (R':=bP k x own tags .anon kp) H hn hx rfl (by simp[bP]) hwt (0,0) cs fo F'
  (λb hb=>by rw[rA hk]at hb;exact⟨hsub b hb,λh=>(hF' b h).2 hb⟩) (by rw[rA hk];exact hnd) (λb hb=>(hF' b hb).1) I_
  (λhc=>by rw[rA hk];exact how hc) hlen (λb o hb=>by rw[Gc hk]at hb;simp at hb)
 exact⟨h1,acg hv⟩
theorem Eh{k:K}{x:El k}{own:List TypeId}{tags:List Tag}{v:Value}{cs:List Value}{fo:List Nat}(H:Rel cx Z J F a w)(hn:Z.roots r=none)(hx:gZ r=false)
  (hsub:∀b∈fo,b∈F) (hnd:fo.Nodup) (hwt:gB Z tags) {F':List Nat} (hF':∀b∈F',b∈F/\b∉fo) (I_:F'.Nodup) (hlen:cs.length=k.size)
  (how:dG Z (bC own k) tags=true->Ow (hp w) own (λb=>bK cx Z J F w tags b\/(b∈F/\b∉F'/\b∉fo)) k x cs fo) (hv:VC k v cs) (kp:Bool) :
  ∃J',Rel cx (aR Z r (bP k x own tags .anon kp)) J' F' a w/\a_ cx (aR Z r (bP k x own tags .anon kp)) J' F' w (.ref r 0) v:=
 ⟨_,Y4 H hn hx hsub hnd hwt hF' I_ hlen how hv kp⟩
end
end
section
open Go
variable [Fr]
def dQ(P:Program)(cx:Cx)(o:Oper)(a:Act)(w:World)(Z':St):Prop:=
 ∃v w' J' F',((execOp a.eval o).run P w=.ok (.value v) w'\/((execOp a.eval o).run P w=.ok .skip w'/\v=undef))/\Rel cx Z' J' F' (a.put o.dst v) w'
theorem dQ.wp{P:Program}{cx:Cx}{o:Oper}{a:Act}{w:World}{Z':St}(h:dQ P cx o a w Z'){K:Act->World->Prop}{Q:Exit->Act->World->Prop}
  (hK:∀J' F' a' w',Rel cx Z' J' F' a' w'->K a' w'):o.wp P a w K Q:=by
 obtain⟨v,w',J',F',h|⟨h,rfl⟩,h2⟩:=h
 ·unfold Oper.wp;rw[h];exact hK _ _ _ _ h2
 ·unfold Oper.wp;rw[h];exact hK _ _ _ _ h2
section
variable {P:Program}{T:bL}{cx:Cx}{Z:St}{J:aO}{F:List Nat}{a:Act}{w:World}{o:Oper}{d:Nat}{ws:List Wr}
theorem fV(H:Rel cx Z J F a w)(hd:o.dst=some d)(hdn:d<cx.nt){x:gU}{v:Value}(hrun:(execOp a.eval o).run P w=.ok (.value v) w)(hx:jo cx Z J F w x v)(hw:nI Z x) :
  dQ P cx o a w (aL [.s d x] Z):=by
 refine⟨v,w,J,F,.inl hrun,?_⟩
 rw[hd]
 exact H.put hdn hw hx
theorem pE{Z1:St}{aP:aO}{F1:List Nat}{w1:World}(H:Rel cx Z1 aP F1 a w1)(hd:o.dst=some d)(hdn:d<cx.nt){x:gU}{v:Value}(hrun:(execOp a.eval o).run P w=.ok (.value v) w1)(hx:jo cx Z1 aP F1 w1 x v)(hw:nI Z1 x) :
  dQ P cx o a w (aL [.s d x] Z1):=by
 refine⟨v,w1,aP,F1,.inl hrun,?_⟩
 rw[hd]
 exact H.put hdn hw hx
theorem qd{A:Type}{z:A}{r:Nat}{k:Prog A}(h:(kF r k).ends Z z):Z.roots r=none/\k.ends Z z:=by
 unfold kF at h
 simp only[Prog.ends]at h
 cases hr:Z.roots r with
 |none=>rw[hr]at h;exact⟨rfl,h⟩
 |some R=>rw[hr]at h;exact h.elim
theorem bE{A:Type}{z x:A}(h:(Prog.ret x).ends Z z):z=x:=h
theorem alZ(H:Rel cx Z J F a w)(hd:o.dst=some d)(hdn:d<cx.nt){x:Operand}(ho:o.op=.move x)(h:(uV x λv=>(.ret [.s d v]:Prog (List Wr))).ends Z ws):dQ P cx o a w (aL ws Z):=by
 obtain⟨v,h1,h2,h3⟩:=EA H h
 rw[bE h3]
 exact fV H hd hdn (by simp[execOp,ho]) h1 h2
theorem dO.sl{t:TypeId}{e:TypeId}{k:K}(h:dO P T t (.sl e k)):P.underlying t=some (.slice e)/\dO P T e k/\0<k.size/\∃i,P.info? e=some i/\i.bytes=T.bytes e/\0<i.bytes:=by
 unfold dO jK at h
 exact⟨h.1,h.2.2.1,h.2.2.2.1,h.2.2.2.2⟩
theorem J4{e:TypeId}{k:K}{c:Option Addr}{own:List TypeId}{ok:Nat->Prop}{h:Heap}:Ow h own ok (.sl e k) ([]:List (El k)) [.slice c 0 0] []:=by
 unfold Ow
 split
 ·exact⟨c,0,0,rfl,rfl,bV _,.inl ⟨rfl,rfl⟩⟩
 ·exact⟨rfl,c,0,0,rfl,rfl,bV _,λh=>by omega⟩
theorem alD{L:K->List TypeId}(H:Rel cx Z J F a w)(hd:o.dst=some d)(hdn:d<cx.nt){x:Operand}(ho:o.op=.assign x)
  (h:(uV x fun
   |.one .fZ=>match T.ty o.type with
    |some (.sl e kk)=>.root (aN d 0) fun
     |none=>.ret [.r (aN d 0) (some (bP (.sl e kk) [] (e :: L kk) [] .anon)),.s d (.one (.ref (aN d 0) 0))]
     |some _=>.ret [.s d (.one .fZ)]
    |_=>.fail
   |v=>(.ret [.s d v]:Prog (List Wr))).ends Z ws):dQ P cx o a w (aL ws Z):=by
 obtain⟨v,h1,h2,h3⟩:=EA H h
 have hrun:(execOp a.eval o).run P w=.ok (.value (a.eval x)) w:=by simp[execOp,ho]
 have key:ws=[.s d v]->dQ P cx o a w (aL ws Z):=λe=>by rw[e];exact fV H hd hdn hrun h1 h2
 cases v with
 |mO l=>exact key (bE h3)
 |lit _ _ _=>exact key (bE h3)
 |one v=>
  cases v with
  |fZ=>
   have h1':=h1
   obtain⟨c,hc⟩:=h1
   simp only at h3
   split at h3
   ·rename_i e kk hty
    simp only[Prog.ends]at h3
    cases g1:Z.roots (aN d 0)with
    |some Q=>
     rw[g1]at h3
     exact key (bE h3)
    |none=>
    rw[g1]at h3
    have g2:=h3
    rw[bE g2]
    obtain⟨J',k1,k2⟩:=Eh (k:=.sl e kk) (x:=([]:List (El kk))) (own:=e :: L kk) (tags:=[]) (v:=a.eval x) (cs:=[.slice c 0 0]) (fo:=[]) (r:=aN d 0) (F':=F) H g1 (qi d 0) (λb hb=>by simp at hb) lZ (λt ht=>by simp at ht)
     (λb hb=>⟨hb,by simp⟩) H.iw rfl (λ_=>J4) (by rw[hc];exact OW) false
    exact pE (x:=.one (.ref (aN d 0) 0)) k1 hd hdn hrun k2 ⟨_,fG ..,.inr (fQ _)⟩
   ·exact h3.elim
  |_=>exact key (bE h3)
theorem al3(H:Rel cx Z J F a w)(hd:o.dst=some d)(hdn:d<cx.nt){c x y:Operand}(ho:o.op=.pick c x y)
  (h:(eZ c λc=>asBool c λc=>uV x λv=>uV y λu=>.br c (.ret [.s d v]) ((.ret [.s d u]):Prog (List Wr))).ends Z ws):dQ P cx o a w (aL ws Z):=by
 obtain⟨vc,h1,_,h⟩:=jN H h
 obtain⟨b,h2,h⟩:=Za h1 h
 obtain⟨v,h3,h4,h⟩:=EA H h
 obtain⟨u,h5,h6,h⟩:=EA H h
 rcases h with⟨hb,h⟩|⟨hb,h⟩
 ·rw[bE h]
  exact fV H hd hdn (by simp[execOp,ho,h2,hb,Go.asBool]) h3 h4
 ·rw[bE h]
  exact fV H hd hdn (by simp[execOp,ho,h2,hb,Go.asBool]) h5 h6
theorem dO.shape{t:TypeId}{k:K}(h:dO P T t k):(∀a b,k≠.pair a b)/\k≠.unit/\∀n,k≠.gap n:=by
 unfold dO jK at h
 refine⟨λa b e=>?_,λe=>?_,λn e=>?_⟩<;>subst e<;>exact h.elim
theorem kU{own:List TypeId}{k:K}(h:∀t∈k.tys,ah t own=true):bC own k=[]:=by
 cases he:bC own k with
 |nil=>rfl
 |cons t l=>
  exfalso
  have key:∀(k:K),(∀t∈k.tys,ah t own=true)->∀t,t∉bC own k:=by
   intro k
   induction k with
   |sl e k ih=>
    intro h t ht
    simp only[bC,h e (by simp[K.tys]),gP]at ht
    exact ih (λt ht=>h t (by simp[K.tys,ht])) t ht
   |pair a b iha ihb=>
    intro h t ht
    simp only[bC,dD]at ht
    rcases ht with ht|ht
    ·exact iha (λt ht=>h t (by simp[K.tys,ht])) t ht
    ·exact ihb (λt ht=>h t (by simp[K.tys,ht])) t ht
   |st f ih=>intro h t ht;exact ih h t ht
   |_=>intro _ t ht;simp[bC]at ht
  exact key k h t (by rw[he];simp)
theorem aqo{l:List Nat}:∀t∈l,ah t l=true:=λt ht=>dh.2 ht
theorem alz(hT:fT P T)(H:Rel cx Z J F a w)(hd:o.dst=some d)(hdn:d<cx.nt){t:TypeId}(ho:o.op=.alloc t)
  (h:(match T.ty t with
   |some kk=>kF (aN d 0) (.ret [Wr.r (aN d 0) (some (bP kk kk.zero kk.tys [] (.var t))),Wr.s d (.one (.ptr (aN d 0) [] 0))])
   |none=>(.fail:Prog (List Wr))).ends Z ws):dQ P cx o a w (aL ws Z):=by
 split at h
 ·rename_i kk hty
  have ht:=hT.ty t kk hty
  obtain⟨g1,g2⟩:=qd h
  rw[bE g2]
  obtain⟨s1,s2,s3⟩:=ht.shape
  have hz:Ow (hp w) kk.tys (bK cx Z J F w []) kk kk.zero (d_ kk) []:=KA ht.gy aqo
  obtain⟨k0,J',F',k1,k2⟩:=Zk (P:=P) (tk:=⟨kk,kk.zero,kk.tys,[],[],false⟩) (t:=t) (v:=jB kk) (cs:=d_ kk) (fo:=[]) (r:=aN d 0) H g1 (qi d 0)
   ⟨λ_=>hz,λt ht=>by simp at ht,λb hb=>by simp at hb,lZ,fU hz⟩ rfl (aeU s1 s2 s3) false
  have e0:(fC.iQ ⟨kk,kk.zero,kk.tys,[],[],false⟩)=[]:=by unfold fC.iQ;split<;>rfl
  rw[e0]at k1 k2
  exact pE (x:=.one (.ptr (aN d 0) [] 0)) k1 hd hdn (by
   have:=asx (P:=P) ht w
   simp only[execOp,ho,dZ,this,gu,fH]) k2 ⟨_,fG ..,.inr (fQ _)⟩
 ·exact h.elim
theorem al0(H:Rel cx Z J F a w)(hd:o.dst=some d)(hdn:d<cx.nt){x:Operand}(ho:o.op=.nilCheck x)
  (h:(eZ x fun
   |.ptr r p h=>.ret [.s d (.one (.ptr r p h))]
   |.gq bt kk y tags=>.ret [.s d (.one (.gq bt kk y tags))]
   |_=>(.fail:Prog (List Wr))).ends Z ws):dQ P cx o a w (aL ws Z):=by
 obtain⟨v,h1,h2,h⟩:=jN H h
 cases v with
 |ptr r p n=>
  rw[bE h]
  obtain⟨b,q,hv⟩:=h1.1
  exact fV (v:=a.eval x) H hd hdn (by simp[execOp,ho,hv]) h1 h2
 |gq bt kk y tags=>
  rw[bE h]
  obtain⟨b,q,hv⟩:=h1.1
  exact fV (v:=a.eval x) H hd hdn (by simp[execOp,ho,hv]) h1 h2
 |_=>exact h.elim
end
end
end Go.Proofs.YtplpeegfeajkkaaGreatDoor.Ow
