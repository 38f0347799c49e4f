/- A verified reading of translated code, part B of 7. No condition. -/
import Derived.Test.YtgppmpedglhhfaaGreatDoorOwA
set_option linter.unusedSectionVars false
set_option linter.unusedVariables false
set_option linter.unusedSimpArgs false
namespace Go.Proofs.YtgppmpedglhhfaaGreatDoor.Ow
section
open Go
variable [Fr]
theorem upd_same{A:Type}(f:Nat->A)(n:Nat)(v:A):upd f n v n=v:=by simp[upd]
theorem upd_ne{A:Type}(f:Nat->A){n m:Nat}(v:A)(h:m≠n):upd f n v m=f m:=by
 unfold upd
 cases h':Nat.beq m n with
 |true=>exact absurd (bu h') h
 |false=>rfl
structure Same(Z:St)(J:aJ)(Z':St)(J':aJ)(r:Nat):Prop where
 root:Z'.roots r=Z.roots r
 loc:J'.loc r=J.loc r
 hdr:J'.hdr r=J.hdr r
 fo:J'.fo r=J.fo r
theorem Same.wh{Z Z':St}{J J':aJ}{r:Nat}(h:Same Z J Z' J' r)(R:Root):aL J' R r=aL J R r:=by unfold aL;rw[h.loc]
theorem Same.blk{Z Z':St}{J J':aJ}{r:Nat}(h:Same Z J Z' J' r)(R:Root):blk J' R r=blk J R r:=by unfold Ow.blk;rw[h.wh,h.fo]
theorem Same.live{Z Z':St}{J J':aJ}{r:Nat}(h:Same Z J Z' J' r)(R:Root):aY Z' r R↔aY Z r R:=by unfold aY;rw[h.root]
def Stepped(Z:St)(J:aJ)(Z':St)(J':aJ)(lw lh:Nat->List Nat)(r:Nat)(R R':Root):Prop:=
 R'.w=lw r++R.w/\R'.h=lh r++R.h/\R.g<=R'.g/\R'.kind=R.kind/\J'.loc r=J.loc r/\(R.kind=.par->R'.k.size=R.k.size)/\((lw r≠[]\/lh r≠[])\/(lw r=[]/\lh r=[]/\Same Z J Z' J' r))
def Loose(cx:Cx)(Z':St)(lw:Nat->List Nat)(w:World)(r b:Nat):Prop:=
 (∀R',Z'.roots r=some R'->R'.cu=true)\/(∃e∈lw r,iH (hp w) b=some e)\/(lM cx b/\lw r≠[])
structure gQ(cx:Cx)(Z:St)(J:aJ)(F:List Nat)(w:World)(Z':St)(J':aJ)(F':List Nat)(w':World)(lw lh:Nat->List Nat):Prop where
 slots:Z'.slots=Z.slots
 os:w'.os=w.os/\w'.tape=w.tape/\w'.output=w.output
 size:w.heap.size<=w'.heap.size
 old:∀r R,Z.roots r=some R->∃R',Z'.roots r=some R'/\((R'.cu=true/\R.kind≠.par)\/(R.cu=false/\Stepped Z J Z' J' lw lh r R R'))
 wr:∀r R',Z'.roots r=some R'->¬Same Z J Z' J' r->fI Z' R'.tags/\fV r=false/\(∀n,(r,n)∉R'.tags)
 ag4:∀r R',Z.roots r=none->Z'.roots r=some R'->R'.kind≠.par
 o7:∀b,b<w.heap.size->hp w' b≠hp w b->b∈F\/∃r R,aY Z r R/\b∈blk J R r/\Loose cx Z' lw w r b
 new:∀b,((∃r R',aY Z' r R'/\b∈blk J' R' r/\¬∃R,aY Z r R/\b∈blk J R r)\/b∈F')->b∈F\/(w.heap.size<=b/\b<w'.heap.size)\/∃r R,aY Z r R/\b∈blk J R r/\Loose cx Z' lw w r b
 gL:F'.Nodup
 dU:∀r R',aY Z' r R'->¬Same Z J Z' J' r->∀b∈blk J' R' r,b∉F'
 jr:∀r R r' R',aY Z' r R->aY Z' r' R'->r≠r'->¬Same Z J Z' J' r->¬Same Z J Z' J' r'->∀b∈blk J' R r,b∉blk J' R' r'
 base:∀j pi b o n,cx.par j=some pi->pi.base=some (b,o,n)->hp w' b≠hp w b->kQ (hp cx.w0) (hp w') b o n
 ev:∀r R R',Z.roots r=some R->Z'.roots r=some R'->R'.cu=false->R'.ew=R.ew/\R'.eh=R.eh
section
variable {cx:Cx}{Z:St}{J:aJ}{F:List Nat}{a:Act}{w:World}{Z':St}{J':aJ}{F':List Nat}{w':World}{lw lh:Nat->List Nat}
theorem gQ.tag(T:gQ cx Z J F w Z' J' F' w' lw lh){t:Tag}(h:qw Z t):qw Z' t:=by
 rcases h with h|⟨R,h1,h2⟩
 ·exact .inl h
 ·obtain⟨R',g1,g2⟩:=T.old _ R h1
  refine .inr ⟨R',g1,?_⟩
  rcases g2 with⟨g2,_⟩|⟨gd,g2,_⟩
  ·exact .inl g2
  ·rcases h2 with h2|h2
   ·rw[gd]at h2;simp at h2
   ·right
    rw[g2]
    simp only[oL,dI]at h2 ⊢
    omega
theorem gQ.dK(T:gQ cx Z J F w Z' J' F' w' lw lh){x:AV}(h:dK Z x):dK Z' x:=by
 have key:∀(q:Nat) (f:Root->Nat) (n:Nat),(∀R R',Stepped Z J Z' J' lw lh q R R'->f R<=f R')->(∃Q,Z.roots q=some Q/\(Q.cu=true\/n<=f Q))->∃Q,Z'.roots q=some Q/\(Q.cu=true\/n<=f Q):=by
  intro q f n hf ⟨Q,h1,h2⟩
  obtain⟨R',g1,g2⟩:=T.old _ Q h1
  refine⟨R',g1,?_⟩
  rcases g2 with⟨g2,_⟩|⟨gd,g2⟩
  ·exact .inl g2
  ·rcases h2 with h2|h2
   ·rw[gd]at h2;simp at h2
   ·exact .inr (vG h2 (hf _ _ g2))
 cases x with
 |undef=>trivial
 |val k x Tg=>exact λt ht=>T.tag (h t ht)
 |eX=>trivial
 |ref q g=>exact key q (·.g) g (λR R' h=>h.2.2.1) h
 |kS q g k p=>exact key q (·.g) g (λR R' h=>h.2.2.1) h
 |dP q p n=>exact key q Root.dM n (λR R' h=>by simp only[Root.dM,h.1,h.2.1,oL,dI];omega) h
 |ptr q p n=>exact key q (λR=>dL R.h) n (λR R' h=>by simp only[h.2.1,oL,dI];omega) h
 |fC bt k x Tg=>exact λt ht=>T.tag (h t ht)
 |iW=>trivial
 |nZ _=>trivial
 |part q g _ _ _=>exact key q (·.g) g (λR R' h=>h.2.2.1) h
 |l9 q p n _=>exact key q Root.dM n (λR R' h=>by simp only[Root.dM,h.1,h.2.1,oL,dI];omega) h
 |sub q p n _ _ _=>exact key q Root.dM n (λR R' h=>by simp only[Root.dM,h.1,h.2.1,oL,dI];omega) h
 |sel q p n q2 _ _=>
  refine⟨key q Root.dM n (λR R' h=>by simp only[Root.dM,h.1,h.2.1,oL,dI];omega) h.1,?_⟩
  obtain⟨R,hR⟩:=h.2
  obtain⟨R',g1,_⟩:=T.old _ R hR
  exact⟨R',g1⟩
 |app q p n q2=>
  refine⟨key q Root.dM n (λR R' h=>by simp only[Root.dM,h.1,h.2.1,oL,dI];omega) h.1,?_⟩
  obtain⟨R,hR⟩:=h.2
  obtain⟨R',g1,_⟩:=T.old _ R hR
  exact⟨R',g1⟩
 |fn f cs=>exact λc hc t ht=>T.tag (h c hc t ht)
theorem gQ.mZ(T:gQ cx Z J F w Z' J' F' w' lw lh){x:f_}(h:mZ Z x):mZ Z' x:=by
 cases x with
 |one a=>exact T.dK h
 |mQ l=>exact λa ha=>T.dK (h a ha)
 |lit _ _ l=>exact λa ha=>T.dK (h a ha)
theorem gQ.held(H:Rel cx Z J F a w)(T:gQ cx Z J F w Z' J' F' w' lw lh){Tg:List Tag}{tys:List TypeId}(hw:fI Z Tg)(hc:cO Z' tys Tg=true){r n b:Nat}{R:Root}(hr:aY Z r R)(hn:(r,n)∈Tg)(hbr:b∈blk J R r)
  (hty:(∃t∈tys,kT (hp w) b t)/\¬lM cx b\/∀t∈Tg,fV t.1=true):clean R.w n tys=true/\¬Loose cx Z' lw w r b:=by
 have hnr:fV r=false:=(H.fE r R hr.1).2.1
 rw[wW]at hc
 rcases hc (r,n) hn with h|⟨Q,h1,h2,h3⟩
 ·simp only at h;rw[hnr]at h;simp at h
 ·obtain⟨R',g1,g2⟩:=T.old _ R hr.1
  simp only at h1 h3
  rw[g1]at h1
  simp only[ak]at h1
  subst h1
  rcases g2 with⟨g2,_⟩|⟨gd,g2,_⟩
  ·rw[h2]at g2;simp at g2
  ·have hb:n<=dL R.w:=by
    rcases hw (r,n) hn with h|⟨Q,q1,q2⟩
    ·simp only at h;rw[hnr]at h;simp at h
    ·simp only at q1 q2
     rw[hr.1]at q1
     simp only[ak]at q1
     subst q1
     rcases q2 with q2|q2
     ·rw[hr.2]at q2;simp at q2
     ·exact q2
   rw[g2,Aq hb]at h3
   refine⟨h3.2,?_⟩
   rintro(hx|⟨e,he,hel⟩|⟨hx,_⟩)
   rotate_left 2
   ·rcases hty with⟨_,hnb⟩|hty
    ·exact hnb hx
    ·have:=hty (r,n) hn
     simp only at this
     rw[hnr]at this
     simp at this
   ·have:=hx R' g1
    rw[h2]at this
    simp at this
   ·rcases hty with⟨⟨t,ht,Hu⟩,_⟩|hty
    ·have Hu:=H.BZ ((H.roots r R hr).mine b hbr) Hu
     rw[hel]at Hu
     simp only[ak]at Hu
     subst Hu
     exact h3.1 e he ht
    ·have:=hty (r,n) hn
     simp only at this
     rw[hnr]at this
     simp at this
theorem gQ.views(H:Rel cx Z J F a w)(T:gQ cx Z J F w Z' J' F' w' lw lh):Views cx Z J F w Z' J' F' w':=by
 intro Tg tys hw hc
 refine⟨?_,?_⟩
 ·rw[wW]
  intro t ht
  have hc':=wW.1 hc t ht
  rcases hw t ht with h|⟨R,h1,h2⟩
  ·exact .inl h
  ·cases hd:R.cu with
   |false=>
    refine .inr ⟨R,h1,hd,?_⟩
    rcases hc' with hx|⟨Q,q1,q2,q3⟩
    ·have:=(H.fE _ _ h1).2.1
     rw[hx]at this
     simp at this
    ·obtain⟨R',g1,g2⟩:=T.old _ R h1
     rw[g1]at q1
     simp only[ak]at q1
     subst q1
     rcases g2 with⟨g2,_⟩|⟨_,g2,_⟩
     ·rw[q2]at g2;simp at g2
     ·rcases h2 with h2|h2
      ·rw[hd]at h2;simp at h2
      ·rw[g2,Aq h2]at q3
       exact q3.2
   |true=>
    rcases hc' with hx|⟨Q,q1,q2,q3⟩
    ·exact .inl hx
    ·obtain⟨R',g1,g2⟩:=T.old _ R h1
     rw[g1]at q1
     simp only[ak]at q1
     subst q1
     rcases g2 with⟨g2,_⟩|⟨g2,_⟩
     ·rw[q2]at g2;simp at g2
     ·rw[hd]at g2;simp at g2
 ·have hQ:∀b,kZ Z J F w Tg b->((∃t∈tys,kT (hp w) b t)/\¬lM cx b\/∀t∈Tg,fV t.1=true)->kZ Z' J' F' w' Tg b/\hp w' b=hp w b:=by
   intro b hb hty
   obtain⟨hb1,hb2,hb3⟩:=hb
   have hno:¬∃r R,aY Z r R/\b∈blk J R r/\Loose cx Z' lw w r b:=by
    rintro⟨r,R,hr,hbr,hl⟩
    obtain⟨n,hn⟩:=hb3 r R hr hbr
    exact(T.held H hw hc hr hn hbr hty).2 hl
   have hsame:hp w' b=hp w b:=by
    refine j6 λhne=>?_
    rcases T.o7 b hb1 hne with h|h
    ·exact hb2 h
    ·exact hno h
   have hnew:¬(b∈F\/(w.heap.size<=b/\b<w'.heap.size)\/∃r R,aY Z r R/\b∈blk J R r/\Loose cx Z' lw w r b):=by
    rintro(h|h|h)
    ·exact hb2 h
    ·omega
    ·exact hno h
   refine⟨⟨vH hb1 T.size,λhF=>hnew (T.new b (.inr hF)),?_⟩,hsame⟩
   intro q Q hq hbq
   by_cases e:∃R,aY Z q R/\b∈blk J R q
   ·obtain⟨R,hR,hbR⟩:=e
    exact hb3 q R hR hbR
   ·exact absurd (T.new b (.inl ⟨q,Q,hq,hbq,e⟩)) hnew
  refine⟨λb hb hty=>?_,hQ⟩
  obtain⟨hb1,hb2,hb5,hb3,hb4⟩:=hb
  obtain⟨⟨g1,g2,g3⟩,g4⟩:=hQ b ⟨hb1,hb2,hb3⟩ (hty.imp (λh=>⟨h,hb5⟩) id)
  exact⟨⟨g1,g2,hb5,g3,hb4⟩,g4⟩
theorem gQ.stay(H:Rel cx Z J F a w)(T:gQ cx Z J F w Z' J' F' w' lw lh){q:Nat}{Q:Root}(hq:aY Z q Q)(hs:Same Z J Z' J' q):∀b∈blk J Q q,¬(b∈F\/(w.heap.size<=b/\b<w'.heap.size)\/∃r R,aY Z r R/\b∈blk J R r/\Loose cx Z' lw w r b):=by
 rintro b hb (h|h|⟨r,R,hr,hbr,hl⟩)
 ·exact H.dU q Q hq b hb h
 ·have:=((H.roots q Q hq).mine b hb).1;omega
 ·by_cases e:q=r
  ·subst e
   obtain⟨R',g1,g2⟩:=T.old _ Q hq.1
   have hR':R'=Q:=by
    have:=hs.root
    rw[g1,hq.1]at this
    simpa using this
   subst hR'
   rcases g2 with⟨g2,_⟩|⟨_,g2,_⟩
   ·rw[hq.2]at g2;simp at g2
   ·have hw0:lw q=[]:=by
     have:=congrArg List.length g2
     simp at this
     exact this
    rcases hl with hl|⟨e,he,_⟩|⟨_,hl⟩
    ·have:=hl R' g1
     rw[hq.2]at this
     simp at this
    ·rw[hw0]at he;simp at he
    ·exact hl hw0
  ·exact H.jr q Q r R hq hr e b hb hbr
theorem gQ.other(H:Rel cx Z J F a w)(T:gQ cx Z J F w Z' J' F' w' lw lh){q:Nat}{Q:Root}(hq:aY Z q Q)(hs:Same Z J Z' J' q):∀b∈blk J Q q,hp w' b=hp w b:=by
 intro b hb
 refine j6 λhne=>?_
 have:=T.stay H hq hs b hb
 rcases T.o7 b ((H.roots q Q hq).mine b hb).1 hne with h|h
 ·exact this (.inl h)
 ·exact this (.inr (.inr h))
theorem gQ.av(H:Rel cx Z J F a w)(T:gQ cx Z J F w Z' J' F' w' lw lh)
  (sS:∀r R,aY Z r R->¬Same Z J Z' J' r->∀p n v,n<=dL R.h->aW cx Z J F w (.ptr r p n) v->aW cx Z' J' F' w' (.ptr r p n) v)
  (rM:∀r R,aY Z r R->¬Same Z J Z' J' r->∀g v,g<=R.g->aW cx Z J F w (.ref r g) v->aW cx Z' J' F' w' (.ref r g) v)
  {x:AV} {v:Value} (hx:Ow.dK Z x) (h:aW cx Z J F w x v):aW cx Z' J' F' w' x v:=by
 have hV:=T.views H
 have mK:∀{q:Nat} {Q:Root} {p:List Stp},Z.roots q=some Q->Same Z J Z' J' q->cZ Z' Q->bW p Q.k Q.x->(∀t∈aC p Q.k,ay t Q.own=true)->
   aR (hp w') p Q.k (J'.hdr q) (aL J' Q q)=aR (hp w) p Q.k (J.hdr q) (aL J Q q):=by
  intro q Q p hq hs hv hin hty
  have hv':=zH hV (H.fE q Q hq).1 hv
  have hlive:aY Z q Q:=⟨hq,hv'.1⟩
  rw[hs.hdr,hs.wh]
  exact WB p ((H.roots q Q hlive).ow hv') hin hty (λb hb=>T.other H hlive hs b (bG _ hb))
 have hlive:∀{q:Nat} {Q R':Root},Z.roots q=some Q->Z'.roots q=some R'->R'.cu=false->aY Z q Q/\Stepped Z J Z' J' lw lh q Q R':=by
  intro q Q R' h1 h2 hd
  obtain⟨R'',g1,g2⟩:=T.old _ Q h1
  rw[h2]at g1
  simp only[ak]at g1
  subst g1
  rcases g2 with⟨g2,_⟩|⟨gd,g2⟩
  ·rw[hd]at g2;simp at g2
  ·exact⟨⟨h1,gd⟩,g2⟩
 have Tu:∀q g v,Ow.dK Z (.ref q g)->aW cx Z J F w (.ref q g) v->aW cx Z' J' F' w' (.ref q g) v:=by
  intro q g v hx h
  obtain⟨Q,h1,h2⟩:=hx
  intro R' hR' hg
  obtain⟨hl,hst⟩:=hlive h1 hR'.1 hR'.2
  by_cases e:Same Z J Z' J' q
  ·have hQ:R'=Q:=by
    have:=e.root
    rw[hR'.1,h1]at this
    simpa using this
   subst hQ
   have:=h R' hl hg
   rw[e.hdr]
   exact this
  ·rcases h2 with h2|h2
   ·rw[hl.2]at h2;simp at h2
   ·exact rM q Q hl e g v h2 h R' hR' hg
 have Mv:∀{q:Nat} {Q R':Root} {n:Nat},Z.roots q=some Q->(Q.cu=true\/n<=Q.dM)->Z'.roots q=some R'->R'.cu=false->R'.dM=n->aY Z q Q/\Same Z J Z' J' q:=by
  intro q Q R' n h1 h2 hR' hd hn
  obtain⟨hl,hst⟩:=hlive h1 hR' hd
  obtain⟨s1,s2,_,_,_,_,s6⟩:=hst
  rcases s6 with s6|⟨_,_,e⟩
  ·exfalso
   rcases h2 with h2|h2
   ·rw[hl.2]at h2;simp at h2
   ·simp only[Root.dM,s1,s2,oL,dI]at hn h2
    rcases s6 with g5|g5<;>(have:=CL.2 g5;omega)
  ·exact⟨hl,e⟩
 cases x with
 |undef=>trivial
 |val k x Tg=>
  intro hc
  rcases hc with hc|hc
  ·obtain⟨cs,h1,h2⟩:=h (.inl hc)
   exact⟨cs,h1,lC hc h2⟩
  ·obtain⟨cs,h1,h2⟩:=h (.inr (hV Tg _ hx hc).1)
   exact⟨cs,h1,hV.vw hx hc (λ_ h=>h) h2⟩
 |eX=>exact h
 |ref q g=>exact Tu q g v hx h
 |kS q g k p=>
  obtain⟨u,b,off,k1,e1,hq,hc,e2,hr⟩:=h
  obtain⟨h1,h2⟩:=(hV [] [] (λ_ h=>by simp at h) rfl).2.2 b hq (.inr (λ_ h=>by simp at h))
  exact⟨u,b,off,k1,e1,h1,hc.congr h2,e2,Tu q g u hx hr⟩
 |dP q p n=>
  obtain⟨Q,h1,h2⟩:=hx
  intro R' hR' hv hn d hd
  obtain⟨hl,hst⟩:=hlive h1 hR' hv.1
  obtain⟨s1,s2,_,_,_,_,s6⟩:=hst
  rcases s6 with s6|⟨_,_,e⟩
  ·exfalso
   rcases h2 with h2|h2
   ·rw[hl.2]at h2;simp at h2
   ·simp only[Root.dM,s1,s2,oL,dI]at hn h2
    rcases s6 with g5|g5<;>(have:=CL.2 g5;omega)
  ·have hQ:R'=Q:=by
    have:=e.root
    rw[hR',h1]at this
    simpa using this
   subst hQ
   have hv':=zH hV (H.fE q R' h1).1 hv
   obtain⟨h1',h2',cs,wh,h3,h4⟩:=h R' h1 hv' hn d hd
   exact⟨h1',h2',cs,wh,by rw[mK h1 e hv h1' h2'];exact h3,h4⟩
 |ptr q p n=>
  obtain⟨Q,h1,h2⟩:=hx
  refine⟨h.1,?_⟩
  intro R' hR' hv hn hty hs
  obtain⟨hl,hst⟩:=hlive h1 hR' hv.1
  by_cases e:Same Z J Z' J' q
  ·have hQ:R'=Q:=by
    have:=e.root
    rw[hR',h1]at this
    simpa using this
   subst hQ
   have hv':=zH hV (H.fE q R' h1).1 hv
   obtain⟨h1',cs,b,o,h3,h4⟩:=h.2 R' h1 hv' hn hty hs
   exact⟨h1',cs,b,o,by rw[mK h1 e hv h1' hty];exact h3,h4⟩
  ·rcases h2 with h2|h2
   ·rw[hl.2]at h2;simp at h2
   ·exact(sS q Q hl e p n v h2 h).2 R' hR' hv hn hty hs
 |fC bt k x Tg=>exact hV.ro hx h
 |iW=>exact h
 |nZ _=>exact h
 |part q g lo hi sz=>
  obtain⟨b',b,n,c,e1,e2,e3,e4,e5,hr⟩:=h
  exact⟨b',b,n,c,e1,e2,e3,e4,e5,Tu q g (.slice b n c) hx hr⟩
 |l9 q p n m=>
  obtain⟨Q,h1,h2⟩:=hx
  obtain⟨b,c,ev,h⟩:=h
  refine⟨b,c,ev,?_⟩
  intro R' hR' hv hn d hd
  obtain⟨hl,e⟩:=Mv h1 h2 hR' hv.1 hn
  have hQ:R'=Q:=by
   have:=e.root
   rw[hR',h1]at this
   simpa using this
  subst hQ
  have hv':=zH hV (H.fE q R' h1).1 hv
  obtain⟨h1',h2',n',wh,h3,h4⟩:=h R' h1 hv' hn d hd
  exact⟨h1',h2',n',wh,by rw[mK h1 e hv h1' h2'];exact h3,h4⟩
 |sub q p n lo hi sz=>
  obtain⟨Q,h1,h2⟩:=hx
  obtain⟨b',b,m,c,ev,eb,e2,e3,e4,h⟩:=h
  refine⟨b',b,m,c,ev,eb,e2,e3,e4,?_⟩
  intro R' hR' hv hn d hd
  obtain⟨hl,e⟩:=Mv h1 h2 hR' hv.1 hn
  have hQ:R'=Q:=by
   have:=e.root
   rw[hR',h1]at this
   simpa using this
  subst hQ
  have hv':=zH hV (H.fE q R' h1).1 hv
  obtain⟨h1',h2',wh,h3⟩:=h R' h1 hv' hn d hd
  exact⟨h1',h2',wh,by rw[mK h1 e hv h1' h2'];exact h3⟩
 |sel q p n q2 x y=>
  obtain⟨⟨Q,h1,h2⟩,⟨Q2,h12⟩⟩:=hx
  intro R' hR' hv hn R2 hR2 hn2
  obtain⟨hl,e⟩:=Mv h1 h2 hR' hv.1 hn
  have hQ:R'=Q:=by
   have:=e.root
   rw[hR',h1]at this
   simpa using this
  subst hQ
  obtain⟨hl2,Tw⟩:=hlive h12 hR2.1 hR2.2
  have e2:Same Z J Z' J' q2:=by
   obtain⟨s1,s2,_,_,_,_,s6⟩:=Tw
   rcases s6 with s6|⟨_,_,e⟩
   ·exfalso
    simp only[Root.dM,s1,s2,oL,dI]at hn2
    rcases s6 with g5|g5<;>(have:=CL.2 g5;omega)
   ·exact e
  have uC:R2=Q2:=by
   have:=e2.root
   rw[hR2.1,h12]at this
   simpa using this
  subst uC
  have hv':=zH hV (H.fE q R' h1).1 hv
  obtain⟨te,kk,xs,wh,bb,m,c,bq,m1,c1,a1,a2,a3,a4,a5,a6,a7,a8,a9⟩:=h R' h1 hv' hn R2 hl2 hn2
  refine⟨te,kk,xs,wh,bb,m,c,bq,m1,c1,a1,a2,a3,by rw[mK h1 e hv a2 a3];exact a4,a5,by rw[e2.hdr];exact a6,a7,a8,λhm=>?_⟩
  obtain⟨b1,o1,b0,o0,y1,y2,y3,y4,y5⟩:=a9 hm
  have hs1:hp w' b1=hp w b1:=T.other H hl2 e2 b1 (bG _ y3)
  have hs0:hp w' b0=hp w b0:=T.other H hl e b0 (bG _ y4)
  exact⟨b1,o1,b0,o0,y1,y2,by rw[e2.fo];exact y3,by rw[e.fo];exact y4,λj i hj hi=>by rw[yG hs1,yG hs0];exact y5 j i hj hi⟩
 |app q p n q2=>
  obtain⟨⟨Q,h1,h2⟩,⟨Q2,h12⟩⟩:=hx
  intro R' hR' hv hn R2 hR2 hn2
  obtain⟨hl,e⟩:=Mv h1 h2 hR' hv.1 hn
  have hQ:R'=Q:=by
   have:=e.root
   rw[hR',h1]at this
   simpa using this
  subst hQ
  obtain⟨hl2,Tw⟩:=hlive h12 hR2.1 hR2.2
  have e2:Same Z J Z' J' q2:=by
   obtain⟨s1,s2,_,_,_,_,s6⟩:=Tw
   rcases s6 with s6|⟨_,_,e⟩
   ·exfalso
    simp only[Root.dM,s1,s2,oL,dI]at hn2
    rcases s6 with g5|g5<;>(have:=CL.2 g5;omega)
   ·exact e
  have uC:R2=Q2:=by
   have:=e2.root
   rw[hR2.1,h12]at this
   simpa using this
  subst uC
  have hv':=zH hV (H.fE q R' h1).1 hv
  obtain⟨te,kk,xs,wh,b,m,c,ce,hq,b1,o1,c1,arr,lo,hi,a1,a2,a3,a4,a5,a6,a7,a8,a9,Gw,Q3,a12,Q4,Aj⟩:=h R' h1 hv' hn R2 hl2 hn2
  have hsR:∀b∈J.fo q,hp w' b=hp w b:=λb hb=>T.other H hl e b (bG _ hb)
  have hsQ:∀b∈J.fo q2,hp w' b=hp w b:=λb hb=>T.other H hl2 e2 b (bG _ hb)
  have hb1:hp w' b1=hp w b1:=by
   rcases Aj with⟨_,h,_⟩|⟨_,h,_⟩
   ·exact hsR b1 h
   ·exact hsQ b1 h
  refine⟨te,kk,xs,wh,b,m,c,ce,hq,b1,o1,c1,arr,lo,hi,a1,a2,a3,by rw[mK h1 e hv a2 a3];exact a4,a5,by rw[e2.hdr];exact a6,a7,a8,a9,hb1.trans Gw,Q3,a12,Q4.congr hb1,?_⟩
  rcases Aj with⟨z1,z2,z3⟩|⟨z1,z2,z3⟩
  ·exact .inl ⟨z1,by rw[e.fo];exact z2,z3⟩
  ·refine .inr ⟨z1,by rw[e2.fo];exact z2,λhm=>?_⟩
   obtain⟨b0,o0,y1,y2,y3⟩:=z3 hm
   exact⟨b0,o0,y1,by rw[e.fo];exact y2,λi hi'=>by rw[yG hb1,yG (hsR b0 y2)];exact y3 i hi'⟩
 |fn f cs=>
  obtain⟨vs,h1,h2⟩:=h
  exact⟨vs,h1,hV.caps hx h2⟩
theorem Wl{cx:Cx}{Z Z':St}{J J':aJ}{F F':List Nat}{w w':World}{P:AV->Prop}(h:∀x v,P x->aW cx Z J F w x v->aW cx Z' J' F' w' x v) :
  ∀{l:List AV} {vs:List Value},(∀x∈l,P x)->h_ cx Z J F w l vs->h_ cx Z' J' F' w' l vs
 | [],[],_,_=>trivial
 |x :: l,v :: vs,hp,hl=>⟨h x v (hp x (by simp)) hl.1,Wl h (λy hy=>hp y (by simp[hy])) hl.2⟩
 | [],_ :: _,_,hl=>hl.elim
 |_ :: _,[],_,hl=>hl.elim
theorem ai6{cx:Cx}{Z Z':St}{J J':aJ}{F F':List Nat}{w w':World}(h:∀x v,dK Z x->aW cx Z J F w x v->aW cx Z' J' F' w' x v){x:f_}{v:Value}(hx:mZ Z x)(hv:iZ cx Z J F w x v):iZ cx Z' J' F' w' x v:=by
 cases x with
 |one a=>exact h a v hx hv
 |mQ l=>
  obtain⟨vs,h1,h2⟩:=hv
  exact⟨vs,h1,Wl h hx h2⟩
 |lit _ _ l=>
  obtain⟨vs,cs,h1,h2⟩:=hv
  exact⟨vs,cs,h1,Wl h hx h2⟩
theorem Rel.turn(H:Rel cx Z J F a w)(T:gQ cx Z J F w Z' J' F' w' lw lh)
  (hroot:∀r R,aY Z' r R->¬Same Z J Z' J' r->(cZ Z' R->Ow (hp w') R.own (aN cx Z' J' F' w' R.tags) R.k R.x (J'.hdr r) (J'.fo r))/\(J'.hdr r).length=R.k.size/\
   (∀b o,aL J' R r=some (b,o)->Cells (hp w') b o (J'.hdr r)/\∃arr e lo hi,hp w' b=some (.cells arr e (lo,hi))/\iU arr.size lo hi/\o+R.k.size<=arr.size/\(∀t,R.kind=.var t->e=t))/\
   (blk J' R r).Nodup)
  (sS:∀r R,aY Z r R->¬Same Z J Z' J' r->∀p n v,n<=dL R.h->aW cx Z J F w (.ptr r p n) v->aW cx Z' J' F' w' (.ptr r p n) v)
  (rM:∀r R,aY Z r R->¬Same Z J Z' J' r->∀g v,g<=R.g->aW cx Z J F w (.ref r g) v->aW cx Z' J' F' w' (.ref r g) v) :
  Rel cx Z' J' F' a w':=by
 have hV:=T.views H
 have abS:∀{r R b},aY Z r R->b∈blk J R r->mine cx w' b:=λhr hb=>by
  have:=(H.roots _ _ hr).mine _ hb
  exact⟨vH this.1 T.size,this.2⟩
 have jT:∀b,(b∈F\/(w.heap.size<=b/\b<w'.heap.size)\/∃r R,aY Z r R/\b∈blk J R r/\Loose cx Z' lw w r b)->mine cx w' b:=by
  rintro b (hb|hb|⟨r,R,hr,hb,_⟩)
  ·have:=H.fl b hb
   exact⟨vH this.1 T.size,this.2⟩
  ·exact⟨hb.2,.inl (vG H.frame.2.2.2.1 hb.1)⟩
  ·exact abS hr hb
 have abR:∀{r R b},aY Z' r R->b∈blk J' R r->mine cx w' b:=by
  intro r R b hr hb
  by_cases e:∃Q,aY Z r Q/\b∈blk J Q r
  ·obtain⟨Q,hQ,hbQ⟩:=e
   exact abS hQ hbQ
  ·exact jT b (T.new b (.inl ⟨r,R,hr,hb,e⟩))
 have ace:∀{q Q r R b},aY Z' q Q->Same Z J Z' J' q->aY Z' r R->r≠q->b∈blk J' Q q->b∉blk J' R r:=by
  intro q Q r R b hq hs hr hne hb hb'
  have hq':=(hs.live Q).1 hq
  rw[hs.blk]at hb
  by_cases e:∃R0,aY Z r R0/\b∈blk J R0 r
  ·obtain⟨R0,h1,h2⟩:=e
   exact H.jr q Q r R0 hq' h1 (Ne.symm hne) b hb h2
  ·exact T.stay H hq' hs b hb (T.new b (.inl ⟨r,R,hr,hb',e⟩))
 constructor
 ·exact H.defs
 ·exact H.sz
 ·intro j pi b o n hj hb
  obtain⟨R,h1,h2,h3,h4⟩:=H.kG j pi b o n hj hb
  obtain⟨R',g1,g2⟩:=T.old _ R h1.1
  rcases g2 with g2|⟨_,g2⟩
  ·exact absurd h2 g2.2
  ·refine⟨R',⟨g1,?_⟩,g2.2.2.2.1.trans h2,g2.2.2.2.2.1.trans h3,(g2.2.2.2.2.2.1 h2).trans h4⟩
   unfold Root.cu
   rw[g2.2.2.2.1,h2]
 ·intro q Q hq hk
  cases hs:Z.roots q with
  |none=>exact absurd hk (T.ag4 q Q hs hq.1)
  |some R=>
   obtain⟨R',g1,g2⟩:=T.old q R hs
   rw[hq.1]at g1
   simp only[ak]at g1
   subst g1
   rcases g2 with⟨g2,_⟩|⟨gd,g2⟩
   ·rw[hq.2]at g2;simp at g2
   ·rw[g2.2.2.2.2.1]
    exact H.tK q R ⟨hs,gd⟩ (g2.2.2.2.1▸hk)
 ·intro s
  rw[T.slots]
  exact ai6 (λx v hx h=>T.av H sS rM hx h) (H.q8 s) (H.slots s)
 ·intro s
  rw[T.slots]
  exact T.mZ (H.q8 s)
 ·intro q Q hq
  by_cases e:Same Z J Z' J' q
  ·have hq':=(e.live Q).1 hq
   have K:=H.roots q Q hq'
   have hsame:=T.other H hq' e
   constructor
   ·intro hv
    have hv':=zH hV (H.fE q Q hq'.1).1 hv
    rw[e.hdr,e.fo]
    have hO:=K.ow hv'
    obtain⟨_,g2,_⟩:=hV Q.tags Q.pO (H.fE q Q hq'.1).1 hv.2
    exact dR (λb hb=>(g2 b hb.1 (.inl hb.2)).2) (λb hb=>(g2 b hb.1 (.inl hb.2)).1) (λb hb=>hsame b (bG _ hb)) (rC Q.pO (λ_ h=>h) hO)
   ·rw[e.hdr];exact K.len
   ·intro b o hb
    rw[e.wh]at hb
    rw[e.hdr]
    obtain⟨h1,arr,te,lo,hi,h2,h3⟩:=K.mem b o hb
    have hbb:hp w' b=hp w b:=hsame b (by unfold blk;rw[hb];simp)
    exact⟨h1.congr hbb,arr,te,lo,hi,hbb.trans h2,h3⟩
   ·rw[e.blk];exact K.nd
   ·exact λb hb=>abR hq hb
  ·obtain⟨h1,h2,h3,h4⟩:=hroot q Q hq e
   exact⟨h1,h2,h3,h4,λb hb=>abR hq hb⟩
 ·intro q Q hq
  by_cases e:Same Z J Z' J' q
  ·obtain⟨h1,h2,h3⟩:=H.fE q Q (by rw[<-e.root];exact hq)
   exact⟨λt ht=>T.tag (h1 t ht),h2,h3⟩
  ·exact T.wr q Q hq e
 ·intro q Q q' Q' hq hq' hne b hb hb'
  by_cases e:Same Z J Z' J' q
  ·exact ace hq e hq' (Ne.symm hne) hb hb'
  ·by_cases e':Same Z J Z' J' q'
   ·exact ace hq' e' hq hne hb' hb
   ·exact T.jr q Q q' Q' hq hq' hne e e' b hb hb'
 ·exact λb hb=>jT b (T.new b (.inr hb))
 ·exact T.gL
 ·intro q Q hq b hb hF
  by_cases e:Same Z J Z' J' q
  ·rw[e.blk]at hb
   exact T.stay H ((e.live Q).1 hq) e b hb (T.new b (.inr hF))
  ·exact T.dU q Q hq e b hb hF
 ·obtain⟨f1,f2,f3,f4,f5,f6⟩:=H.frame
  refine⟨T.os.1.trans f1,T.os.2.1.trans f2,T.os.2.2.trans f3,vG f4 T.size,?_,?_⟩
  ·intro b hb hno
   have:hp w' b=hp w b:=by
    refine j6 λhne=>?_
    have hm:mine cx w b:=by
     rcases T.o7 b (vH hb f4) hne with h|⟨r,R,hr,h,_⟩
     ·exact H.fl b h
     ·exact(H.roots r R hr).mine b h
    rcases hm.2 with h|⟨j,pi,h1,h2⟩
    ·omega
    ·exact hno j pi h1 h2
   exact this.trans (f5 b hb hno)
  ·intro j pi b o n hj hb
   by_cases hne:hp w' b=hp w b
   ·have:=f6 j pi b o n hj hb
    obtain⟨arr,fK,e,fr,h1,h2,h3⟩:=this
    exact⟨arr,fK,e,fr,h1,hne.trans h2,h3⟩
   ·exact T.base j pi b o n hj hb hne
 ·intro j pi hj hk
  obtain⟨R,h1,h2⟩:=H.sW j pi hj hk
  obtain⟨R',g1,g2⟩:=T.old _ R h1
  refine⟨R',g1,λhd b hb hnb=>?_⟩
  rcases g2 with⟨g2,_⟩|⟨gd,g2,_⟩
  ·rw[hd]at g2;simp at g2
  ·have hev:=(T.ev _ R R' h1 g1 hd).1
   rcases h2 gd b hb hnb with⟨e,he,kV⟩|⟨hs,hF,hown⟩
   ·refine .inl ⟨e,he,?_⟩
    rw[g2,hev]
    rcases kV with h|h
    ·exact .inl (bG _ h)
    ·exact .inr h
   ·by_cases kV:∃e∈lw (aG j),iH (hp w) b=some e
    ·obtain⟨e,he,hel⟩:=kV
     exact .inl ⟨e,(aaJ hs).symm.trans hel,.inl (by rw[g2];exact bV _ he)⟩
    ·have hno:¬∃r Q,aY Z r Q/\b∈blk J Q r/\Loose cx Z' lw w r b:=by
      rintro⟨r,Q,hr,hbr,hl⟩
      have e:=hown r Q hr hbr
      subst e
      rcases hl with hl|hl|⟨hl,_⟩
      ·have:=hl R' g1
       rw[hd]at this
       simp at this
      ·exact kV hl
      ·exact hnb hl
     by_cases hlt:b<w.heap.size
     ·refine .inr ⟨?_,?_,?_⟩
      ·refine Eq.trans ?_ hs
       refine j6 λhne=>?_
       rcases T.o7 b hlt hne with h|h
       ·exact hF h
       ·exact hno h
      ·intro hF'
       rcases T.new b (.inr hF')with h|h|h
       ·exact hF h
       ·omega
       ·exact hno h
      ·intro q Q hq hbq
       by_cases e:∃R,aY Z q R/\b∈blk J R q
       ·obtain⟨R0,hR0,hbR⟩:=e
        exact hown q R0 hR0 hbR
       ·rcases T.new b (.inl ⟨q,Q,hq,hbq,e⟩)with h|h|h
        ·exact absurd h hF
        ·omega
        ·exact absurd h hno
     ·exact absurd (H.ql.1 j pi hj b hb) (by have:=H.frame.2.2.2.1;omega)
 ·exact H.ql
 ·intro j p ts v hv
  obtain⟨hvp,R,h1,h2⟩:=H.uI j p ts v hv
  obtain⟨R',g1,g2⟩:=T.old _ R h1
  refine⟨hvp,R',g1,λht=>?_⟩
  cases hd:R'.cu with
  |true=>
   rcases g2 with⟨_,g2⟩|⟨gd,g2⟩
   ·refine⟨hvp,λQ hQ hv'=>?_⟩
    rw[g1]at hQ
    simp only[ak]at hQ
    subst hQ
    have:=hv'.1
    rw[hd]at this
    simp at this
   ·have:R'.cu=R.cu:=by unfold Root.cu;rw[g2.2.2.2.1]
    rw[hd,gd]at this
    simp at this
  |false=>
   have hev:=(T.ev _ R R' h1 g1 hd).2
   exact T.av H sS rM (show Ow.dK Z (.ptr (aG j) p 0)from⟨R,h1,.inr (dW _)⟩) (h2 (by rw[<-hev];exact ht))
 ·intro j v hv
  obtain⟨⟨R,h1⟩,h2⟩:=H.uJ j v hv
  obtain⟨R',g1,_⟩:=T.old _ R h1
  exact⟨⟨R',g1⟩,T.av H sS rM (show Ow.dK Z (.ref (aG j) 0)from⟨R,h1,.inr (dW _)⟩) h2⟩
end
def aO(Z:St)(r:Nat)(R:Root):St:={ Z with roots:=upd Z.roots r (some R) }
def bn(J:aJ)(r:Nat)(loc:Nat×Nat)(hdr:List Value)(fo:List Nat):aJ:=⟨upd J.loc r loc,upd J.hdr r hdr,upd J.fo r fo⟩
theorem fQ(Z:St)(r:Nat)(R:Root):(aO Z r R).roots r=some R:=upd_same _ _ _
theorem jA(Z:St){r q:Nat}(R:Root)(h:q≠r):(aO Z r R).roots q=Z.roots q:=upd_ne _ _ h
theorem Wn{Z:St}{r q:Nat}{R Q:Root}(h:q≠r):aY (aO Z r R) q Q↔aY Z q Q:=by unfold aY;rw[jA Z R h]
theorem nY{Z:St}{r:Nat}{R Q:Root}(h:aY (aO Z r R) r Q):Q=R/\R.cu=false:=by
 have h1:=h.1
 rw[fQ]at h1
 simp only[ak]at h1
 subst h1
 exact⟨rfl,h.2⟩
theorem kR{Z:St}{J:aJ}{r q:Nat}{R:Root}{loc:Nat×Nat}{hdr:List Value}{fo:List Nat}(h:q≠r):Same Z J (aO Z r R) (bn J r loc hdr fo) q:=
 ⟨jA Z R h,upd_ne _ _ h,upd_ne _ _ h,upd_ne _ _ h⟩
theorem uq(Z:St)(J:aJ)(q:Nat):Same Z J Z J q:=⟨rfl,rfl,rfl,rfl⟩
def iV(R:Root)(loc:Nat×Nat)(fo:List Nat):List Nat:=(match R.kind with
 |.var _=>[loc.1]
 |.par=>[loc.1]
 |_=>[])++fo
theorem qc{J:aJ}{r:Nat}{loc:Nat×Nat}{hdr:List Value}{fo:List Nat}{Q:Root}:blk (bn J r loc hdr fo) Q r=iV Q loc fo:=by
 unfold blk iV aL bn
 simp only[upd_same]<;>cases Q.kind<;>rfl
theorem jd(J:aJ)(R:Root)(r:Nat):blk J R r=iV R (J.loc r) (J.fo r):=by
 unfold blk iV aL
 cases R.kind<;>rfl
def lQ(R:Root)(loc:Nat×Nat):Option (Nat×Nat):=match R.kind with
 |.var _=>some loc
 |.par=>some loc
 |_=>none
theorem u6{J:aJ}{r:Nat}{loc:Nat×Nat}{hdr:List Value}{fo:List Nat}{Q:Root}:aL (bn J r loc hdr fo) Q r=lQ Q loc:=by
 unfold aL lQ bn
 simp only[upd_same]<;>cases Q.kind<;>rfl
theorem zK(J:aJ)(R:Root)(r:Nat):aL J R r=lQ R (J.loc r):=rfl
end
section
open Go
variable [Fr]
def rV(Z:St)(s:Nat->f_):St:=⟨s,Z.roots⟩
theorem GI(Z:St)(s:Nat->f_)(tys:List TypeId):∀(T:List Tag),cO (rV Z s) tys T=cO Z tys T
 | []=>rfl
 |(r,n) :: T=>by simp only[cO,GI Z s tys T];rfl
section
variable {cx:Cx}{Z:St}{J:aJ}{F:List Nat}{a:Act}{w:World}
theorem ahc(s:Nat->f_):aN cx (rV Z s) J F w=aN cx Z J F w:=rfl
theorem ah3(s:Nat->f_){bt:TypeId}{k:K}{x:El k}{T:List Tag}{v:Value}:uX cx (rV Z s) J F w bt k x T v↔uX cx Z J F w bt k x T v:=by
 unfold uX
 rw[GI,ahc]
 exact Iff.rfl
theorem aae(s:Nat->f_):∀{cs:List (TypeId×Dat×List Tag)} {vs:List Value},m_ cx (rV Z s) J F w cs vs↔m_ cx Z J F w cs vs
 | [],[]=>Iff.rfl
 |c :: cs,v :: vs=>by simp only[m_,ah3 s,aae s]
 | [],_ :: _=>Iff.rfl
 |_ :: _,[]=>Iff.rfl
theorem zI(s:Nat->f_){R:Root}:cZ (rV Z s) R↔cZ Z R:=by unfold cZ;rw[GI]
theorem Kq(s:Nat->f_){x:AV}{v:Value}:aW cx (rV Z s) J F w x v↔aW cx Z J F w x v:=by
 cases x with
 |undef=>exact Iff.rfl
 |val k x T=>simp only[aW,GI,ahc]
 |eX=>exact Iff.rfl
 |ref r g=>exact Iff.rfl
 |kS r g k p=>exact Iff.rfl
 |dP r p n=>simp only[aW,zI];exact Iff.rfl
 |ptr r p n=>simp only[aW,zI];exact Iff.rfl
 |fC bt k x T=>exact ah3 s
 |iW=>exact Iff.rfl
 |nZ _=>exact Iff.rfl
 |part _ _ _ _ _=>exact Iff.rfl
 |l9 _ _ _ _=>simp only[aW,zI];exact Iff.rfl
 |sub _ _ _ _ _ _=>simp only[aW,zI];exact Iff.rfl
 |sel _ _ _ _ _ _=>simp only[aW,zI];exact Iff.rfl
 |app _ _ _ _=>simp only[aW,zI];exact Iff.rfl
 |fn f cs=>simp only[aW,aae s]
theorem Wm(s:Nat->f_):∀{l:List AV} {vs:List Value},h_ cx (rV Z s) J F w l vs↔h_ cx Z J F w l vs
 | [],[]=>Iff.rfl
 |c :: cs,v :: vs=>by simp only[h_,Kq s,Wm s]
 | [],_ :: _=>Iff.rfl
 |_ :: _,[]=>Iff.rfl
theorem XH(s:Nat->f_){x:f_}{v:Value}:iZ cx (rV Z s) J F w x v↔iZ cx Z J F w x v:=by
 cases x with
 |one a=>exact Kq s
 |mQ l=>simp only[iZ,Wm s]
 |lit _ _ l=>simp only[iZ,Wm s]
theorem ZZ(s:Nat->f_){x:f_}:mZ (rV Z s) x↔mZ Z x:=by cases x<;>exact Iff.rfl
theorem Rel.put(H:Rel cx Z J F a w){d:Nat}{x:f_}{v:Value}(hd:d<cx.nt)(hw:mZ Z x)(hx:iZ cx Z J F w x v) :
  Rel cx (rV Z (upd Z.slots d x)) J F (a.put (some d) v) w where
 defs:=H.defs
 sz:=by simpa[Act.put]using H.sz
 kG:=H.kG
 tK:=H.tK
 slots:=by
  intro s
  rw[XH]
  show iZ cx Z J F w (upd Z.slots d x s) _
  by_cases e:s=d
  ·subst e
   rw[upd_same]
   have:(a.put (some s) v).tmps.getD s undef=v:=by
    have:=H.sz
    simp[Act.put,XL (show s<a.tmps.size by omega)]
   rw[this]
   exact hx
  ·rw[upd_ne _ _ e]
   have:(a.put (some d) v).tmps.getD s undef=a.tmps.getD s undef:=by
    simp[Act.put,XK (Ne.symm e)]
   rw[this]
   exact H.slots s
 q8:=by
  intro s
  rw[ZZ]
  show mZ Z (upd Z.slots d x s)
  by_cases e:s=d
  ·subst e;rw[upd_same];exact hw
  ·rw[upd_ne _ _ e];exact H.q8 s
 roots:=by
  intro r R hr
  have K:=H.roots r R hr
  exact⟨λhv=>K.ow ((zI _).1 hv),K.len,K.mem,K.nd,K.mine⟩
 fE:=H.fE
 jr:=H.jr
 fl:=H.fl
 gL:=H.gL
 dU:=H.dU
 frame:=H.frame
 sW:=H.sW
 ql:=H.ql
 uI:=λj p ts v h=>let ⟨h0,R,h1,h2⟩:=H.uI j p ts v h;⟨h0,R,h1,λht=>(Kq _).2 (h2 ht)⟩
 uJ:=H.uJ
def dw(w:World)(n:Nat):World:={ w with drawn:=n }
theorem aad(n:Nat):∀{cs:List (TypeId×Dat×List Tag)} {vs:List Value},m_ cx Z J F w cs vs->m_ cx Z J F (dw w n) cs vs
 | [],[],_=>trivial
 |_ :: _,_ :: _,h=>⟨h.1,aad n h.2⟩
 | [],_ :: _,h=>h.elim
 |_ :: _,[],h=>h.elim
theorem Ko(n:Nat){x:AV}{v:Value}(h:aW cx Z J F w x v):aW cx Z J F (dw w n) x v:=by
 cases x with
 |fn f cs=>obtain⟨vs,h1,h2⟩:=h;exact⟨vs,h1,aad n h2⟩
 |undef=>exact h
 |val k x T=>exact h
 |eX=>exact h
 |ref r g=>exact h
 |kS r g k p=>exact h
 |dP r p n=>exact h
 |ptr r p n=>exact h
 |fC bt k x T=>exact h
 |iW=>exact h
 |nZ _=>exact h
 |part _ _ _ _ _=>exact h
 |l9 _ _ _ _=>exact h
 |sub _ _ _ _ _ _=>exact h
 |sel _ _ _ _ _ _=>exact h
 |app _ _ _ _=>exact h
theorem Rel.drawn(H:Rel cx Z J F a w)(n:Nat):Rel cx Z J F a (dw w n) where
 defs:=H.defs
 sz:=H.sz
 kG:=H.kG
 tK:=H.tK
 slots:=λs=>by
  have h:=H.slots s
  generalize Z.slots s=x at h
  cases x with
  |one a=>exact Ko n h
  |mQ l=>
   obtain⟨vs,h1,h2⟩:=h
   refine⟨vs,h1,?_⟩
   clear h1
   induction l generalizing vs with
   |nil=>cases vs with
    |nil=>trivial
    |cons v vs=>exact h2.elim
   |cons b l ih=>cases vs with
    |nil=>exact h2.elim
    |cons v vs=>exact⟨Ko n h2.1,ih vs h2.2⟩
  |lit _ _ l=>
   obtain⟨vs,cs,h1,h2⟩:=h
   refine⟨vs,cs,h1,?_⟩
   clear h1
   induction l generalizing vs with
   |nil=>cases vs with
    |nil=>trivial
    |cons v vs=>exact h2.elim
   |cons b l ih=>cases vs with
    |nil=>exact h2.elim
    |cons v vs=>exact⟨Ko n h2.1,ih vs h2.2⟩
 q8:=H.q8
 roots:=λr R hr=>let K:=H.roots r R hr;⟨K.ow,K.len,K.mem,K.nd,K.mine⟩
 fE:=H.fE
 jr:=H.jr
 fl:=H.fl
 gL:=H.gL
 dU:=H.dU
 frame:=H.frame
 sW:=H.sW
 ql:=H.ql
 uI:=λj p ts v h=>let ⟨h0,R,h1,h2⟩:=H.uI j p ts v h;⟨h0,R,h1,λht=>Ko n (h2 ht)⟩
 uJ:=H.uJ
def jY(r:Nat)(l:List Nat):Nat->List Nat:=λq=>if q=r then l else []
theorem E5(r:Nat)(l:List Nat):jY r l r=l:=aj rfl
theorem tC{r q:Nat}(l:List Nat)(h:q≠r):jY r l q=[]:=ah h
variable {r:Nat}{R R':Root}{hdr':List Value}{bH F':List Nat}{w':World}{lw lh:List Nat}
def QH(cx:Cx)(R':Root)(lw:List Nat)(w:World)(b:Nat):Prop:=R'.cu=true\/(∃e∈lw,iH (hp w) b=some e)\/(lM cx b/\lw≠[])
structure uu(cx:Cx)(Z:St)(J:aJ)(F:List Nat)(w:World)(r:Nat)(R R':Root)(bH F':List Nat)(w':World)(lw lh:List Nat):Prop where
 step:(R'.cu=true/\R.kind≠.par)\/(R'.w=lw++R.w/\R'.h=lh++R.h/\R.g<=R'.g/\R'.kind=R.kind/\(R.kind=.par->R'.k.size=R.k.size)/\(lw≠[]\/lh≠[]))
 tags:fI Z R'.tags/\∀n,(r,n)∉R'.tags
 os:w'.os=w.os/\w'.tape=w.tape/\w'.output=w.output
 size:w.heap.size<=w'.heap.size
 o7:∀b,b<w.heap.size->hp w' b≠hp w b->b∈F\/(b∈blk J R r/\QH cx R' lw w b)
 new:R'.cu=false->∀b∈iV R' (J.loc r) bH,b∈blk J R r\/b∈F\/(w.heap.size<=b/\b<w'.heap.size)
 newF:∀b∈F',b∈F\/(w.heap.size<=b/\b<w'.heap.size)\/(b∈blk J R r/\QH cx R' lw w b)
 gL:F'.Nodup
 dU:R'.cu=false->∀b∈iV R' (J.loc r) bH,b∉F'
 base:∀j pi b o n,cx.par j=some pi->pi.base=some (b,o,n)->r=aG j->hp w' b≠hp w b->kQ (hp cx.w0) (hp w') b o n
 ev:R'.cu=false->R'.ew=R.ew/\R'.eh=R.eh
theorem uM{q:Nat}{Q:Root}(h:aY (aO Z r R') q Q):(q=r/\Q=R'/\R'.cu=false)\/(q≠r/\aY Z q Q):=by
 by_cases e:q=r
 ·subst e
  obtain⟨h1,h2⟩:=nY h
  exact .inl ⟨rfl,h1,h2⟩
 ·exact .inr ⟨e,(Wn e).1 h⟩
theorem uu.turn(H:Rel cx Z J F a w)(hr:aY Z r R)(T:uu cx Z J F w r R R' bH F' w' lw lh) :
  gQ cx Z J F w (aO Z r R') (bn J r (J.loc r) hdr' bH) F' w' (jY r lw) (jY r lh):=by
 have hsame:∀q,q≠r->Same Z J (aO Z r R') (bn J r (J.loc r) hdr' bH) q:=λq h=>kR h
 have abP:∀b,QH cx R' lw w b->Loose cx (aO Z r R') (jY r lw) w r b:=by
  rintro b (h|⟨e,he,hb⟩|⟨h,hl⟩)
  ·refine .inl λQ hQ=>?_
   rw[fQ]at hQ
   simp only[ak]at hQ
   subst hQ
   exact h
  ·exact .inr (.inl ⟨e,by rw[E5];exact he,hb⟩)
  ·exact .inr (.inr ⟨h,by rw[E5];exact hl⟩)
 have hns:∀{q:Nat},¬Same Z J (aO Z r R') (bn J r (J.loc r) hdr' bH) q->q=r:=λ{q} h=>j6 λe=>h (hsame q e)
 refine⟨rfl,T.os,T.size,?_,?_,?_,?_,?_,T.gL,?_,?_,?_,?_⟩
 ·intro q Q hQ
  by_cases e:q=r
  ·subst e
   rw[hr.1]at hQ
   simp only[ak]at hQ
   subst hQ
   refine⟨R',fQ ..,?_⟩
   rcases T.step with h|⟨h1,h2,h3,h4,h5,h6⟩
   ·exact .inl h
   ·exact .inr ⟨hr.2,by rw[E5];exact h1,by rw[E5];exact h2,h3,h4,by simp[bn,upd_same],h5,by rw[E5,E5];exact .inl h6⟩
  ·refine⟨Q,by rw[jA Z R' e];exact hQ,?_⟩
   cases hd:Q.cu with
   |true=>
    refine .inl ⟨rfl,?_⟩
    intro hk
    simp[Root.cu,hk]at hd
   |false=>exact .inr ⟨rfl,by rw[tC lw e];rfl,by rw[tC lh e];rfl,bZ _,rfl,by simp[bn,upd_ne _ _ e],λ_=>rfl,.inr ⟨tC lw e,tC lh e,hsame q e⟩⟩
 ·intro q Q hQ hs
  have e:=hns hs
  subst e
  rw[fQ]at hQ
  simp only[ak]at hQ
  subst hQ
  refine⟨λt ht=>?_,(H.fE q R hr.1).2.1,T.tags.2⟩
  have hne:t.1≠q:=λe=>T.tags.2 t.2 (by rw[<-e];exact ht)
  rcases T.tags.1 t ht with h|⟨Q,h1,h2⟩
  ·exact .inl h
  ·exact .inr ⟨Q,by rw[jA Z R' hne];exact h1,h2⟩
 ·intro q Q hn hQ
  have e:q≠r:=λe=>by rw[e,hr.1]at hn;simp at hn
  rw[jA Z R' e,hn]at hQ
  simp at hQ
 ·intro b hb hne
  exact(T.o7 b hb hne).imp id (λh=>⟨r,R,hr,h.1,abP b h.2⟩)
 ·rintro b (⟨q,Q,hq,hb,hno⟩|hb)
  ·rcases uM hq with⟨rfl,rfl,hd⟩|⟨e,hq'⟩
   ·rw[qc]at hb
    rcases T.new hd b hb with h|h|h
    ·exact absurd ⟨R,hr,h⟩ hno
    ·exact .inl h
    ·exact .inr (.inl h)
   ·rw[(hsame q e).blk]at hb
    exact absurd ⟨Q,hq',hb⟩ hno
  ·rcases T.newF b hb with h|h|h
   ·exact .inl h
   ·exact .inr (.inl h)
   ·exact .inr (.inr ⟨r,R,hr,h.1,abP b h.2⟩)
 ·intro q Q hq hs b hb
  have e:=hns hs
  subst e
  obtain⟨rfl,hd⟩:=nY hq
  rw[qc]at hb
  exact T.dU hd b hb
 ·intro q Q q' Q' hq hq' hne hs hs'
  exact absurd ((hns hs).trans (hns hs').symm) hne
 ·intro j pi b o n hj hb hne
  obtain⟨Q,hQ,hk,hl,hs⟩:=H.kG j pi b o n hj hb
  have hbq:b∈blk J Q (aG j):=by simp[blk,aL,hk,hl]
  have hm:=(H.roots _ _ hQ).mine b hbq
  rcases T.o7 b hm.1 hne with h|⟨h1,_⟩
  ·exact absurd h (H.dU _ _ hQ b hbq)
  ·refine T.base j pi b o n hj hb ?_ hne
   refine j6 λe=>?_
   exact H.jr _ _ _ _ hr hQ e b h1 hbq
 ·intro q Q Q' hQ hQ' hd
  by_cases e:q=r
  ·subst e
   rw[hr.1]at hQ
   rw[fQ]at hQ'
   simp only[ak]at hQ hQ'
   subst hQ
   subst hQ'
   exact T.ev hd
  ·rw[jA Z R' e,hQ]at hQ'
   simp only[ak]at hQ'
   subst hQ'
   exact⟨rfl,rfl⟩
theorem uu.rel(H:Rel cx Z J F a w)(hr:aY Z r R)(T:uu cx Z J F w r R R' bH F' w' lw lh)
  (hroot:R'.cu=false->(cZ (aO Z r R') R'->Ow (hp w') R'.own (aN cx (aO Z r R') (bn J r (J.loc r) hdr' bH) F' w' R'.tags) R'.k R'.x hdr' bH)/\hdr'.length=R'.k.size/\
   (∀b o,lQ R' (J.loc r)=some (b,o)->Cells (hp w') b o hdr'/\∃arr e lo hi,hp w' b=some (.cells arr e (lo,hi))/\iU arr.size lo hi/\o+R'.k.size<=arr.size/\(∀t,R'.kind=.var t->e=t))/\
   (iV R' (J.loc r) bH).Nodup)
  (sS:R'.cu=false->∀p n v,n<=dL R.h->aW cx Z J F w (.ptr r p n) v->aW cx (aO Z r R') (bn J r (J.loc r) hdr' bH) F' w' (.ptr r p n) v)
  (rM:R'.cu=false->∀g v,g<=R.g->aW cx Z J F w (.ref r g) v->aW cx (aO Z r R') (bn J r (J.loc r) hdr' bH) F' w' (.ref r g) v) :
  Rel cx (aO Z r R') (bn J r (J.loc r) hdr' bH) F' a w':=by
 have hns:∀{q:Nat},¬Same Z J (aO Z r R') (bn J r (J.loc r) hdr' bH) q->q=r:=λ{q} h=>j6 λe=>h (kR e)
 have hRq:∀{Q:Root},aY Z r Q->Q=R:=λ{Q} hQ=>by have:=hQ.1;rw[hr.1]at this;simpa using this.symm
 refine H.turn (T.turn H hr) ?_ ?_ ?_
 ·intro q Q hq hs
  have e:=hns hs
  subst e
  obtain⟨rfl,hd⟩:=nY hq
  obtain⟨h1,h2,h3,h4⟩:=hroot hd
  refine⟨λhv=>?_,?_,?_,?_⟩
  ·have:=h1 hv
   simpa[bn,upd_same]using this
  ·simpa[bn,upd_same]using h2
  ·intro b o hb
   rw[u6]at hb
   have:=h3 b o hb
   simpa[bn,upd_same]using this
  ·rw[qc];exact h4
 ·intro q Q hq hs p n v hn hv
  have e:=hns hs
  subst e
  obtain rfl:=hRq hq
  cases hd:R'.cu with
  |false=>exact sS hd p n v hn hv
  |true=>
   refine⟨hv.1,?_⟩
   intro Q' hQ' hval
   rw[fQ]at hQ'
   simp only[ak]at hQ'
   subst hQ'
   have:=hval.1
   rw[hd]at this
   simp at this
 ·intro q Q hq hs g v hg hv
  have e:=hns hs
  subst e
  obtain rfl:=hRq hq
  cases hd:R'.cu with
  |false=>exact rM hd g v hg hv
  |true=>
   intro Q' hQ'
   have:=(nY hQ').2
   rw[hd]at this
   simp at this
structure Held(cx:Cx)(Z:St)(J:aJ)(F:List Nat)(w:World)(k:K)(x:El k)(own:List TypeId)(tags:List Tag)(cs:List Value)(fo:List Nat):Prop where
 ow:cO Z (bz own k) tags=true->Ow (hp w) own (aN cx Z J F w tags) k x cs fo
 wt:fI Z tags
 sub:∀b∈fo,b∈F
 nd:fo.Nodup
 len:cs.length=k.size
theorem Held.turn{Z':St}{J':aJ}{lw lh:Nat->List Nat}{k:K}{x:El k}{own:List TypeId}{tags:List Tag}{cs:List Value}{fo:List Nat}
  (H:Rel cx Z J F a w) (T:gQ cx Z J F w Z' J' F' w' lw lh) (h:Held cx Z J F w k x own tags cs fo) (hs:∀b∈fo,hp w' b=hp w b/\b∈F'):Held cx Z' J' F' w' k x own tags cs fo where
 ow:=λhc=>by
  obtain⟨h1,h2,_⟩:=T.views H tags _ h.wt hc
  exact dR (λb hb=>(h2 b hb.1 (.inl hb.2)).2) (λb hb=>(h2 b hb.1 (.inl hb.2)).1) (λb hb=>(hs b hb).1) (rC _ (λ_ h=>h) (h.ow h1))
 wt:=λt ht=>T.tag (h.wt t ht)
 sub:=λb hb=>(hs b hb).2
 nd:=h.nd
 len:=h.len
theorem Held.slots{k:K}{x:El k}{own:List TypeId}{tags:List Tag}{cs:List Value}{fo:List Nat}(s:Nat->f_)(h:Held cx Z J F w k x own tags cs fo):Held cx (rV Z s) J F w k x own tags cs fo:=
 ⟨λhc=>h.ow (by rw[GI]at hc;exact hc),h.wt,h.sub,h.nd,h.len⟩
end
end
section
open Go
variable [Fr]
theorem Ae{h:Heap}{own:List TypeId}{ok:Nat->Prop}:∀{k:K} {x:El k} {cs:List Value} {fo:List Nat},Ow h own ok k x cs fo->∀b∈fo,∃e∈k.tys,ay e own=true/\iH h b=some e:=by
 intro k
 induction k with
 |int ik=>intro x cs fo H b hb;rw[H.1]at hb;simp at hb
 |bool=>intro x cs fo H b hb;rw[H.1]at hb;simp at hb
 |id e=>intro x cs fo H b hb;rw[H.1]at hb;simp at hb
 |str=>intro x cs fo H b hb;rw[H.1]at hb;simp at hb
 |sl e k ih=>
  intro x cs fo H b' hb'
  unfold Ow at H
  split at H
  ·rename_i hm
   obtain⟨a,n,c,e1,e2,e3,H⟩:=H
   rcases H with⟨_,h1⟩|⟨b,o,arr,lo,hi,ea,hb,hf,hs,az,hl,hp,H⟩
   ·rw[h1]at hb';simp at hb'
   ·rcases bM.1 (hp.mem_iff.1 hb')with h|h
    ·subst h
     exact⟨e,by simp[K.tys],hm,by unfold iH;rw[hb]⟩
    ·obtain⟨l,hl1,hl2⟩:=K_.1 h
     obtain⟨i,hi,rfl⟩:=wQ.1 hl1
     obtain⟨ds,_,h2⟩:=H i (by omega)
     rw[nk hi]at h2
     obtain⟨e',g1,g2⟩:=ih h2 b' hl2
     exact⟨e',by simp[K.tys,g1],g2⟩
  ·rw[H.1]at hb';simp at hb'
 |unit=>intro x cs fo H b hb;rw[H.1]at hb;simp at hb
 |pair a b iha ihb=>
  intro x cs fo H b' hb'
  obtain⟨c1,c2,f1,f2,e,hp,h1,h2⟩:=H
  rcases dh.1 (hp.mem_iff.1 hb')with h|h
  ·obtain⟨e',g1,g2⟩:=iha h1 b' h;exact⟨e',by simp[K.tys,g1],g2⟩
  ·obtain⟨e',g1,g2⟩:=ihb h2 b' h;exact⟨e',by simp[K.tys,g1],g2⟩
 |st f ih=>intro x cs fo H;exact ih (x:=x) H
 |gap n=>intro x cs fo H b hb;rw[H.1]at hb;simp at hb
theorem oM{t:Nat}{own bad:List TypeId}:ay t (eF own bad)=true↔ay t own=true/\t∉bad:=by
 rw[fF,fF]
 unfold eF
 rw[jg]
 simp[gF]
theorem Kl{own:List TypeId}:∀{k:K} {t:TypeId},t∈k.tys->t∈bz own k\/ay t own=true:=by
 intro k
 induction k with
 |sl e k ih=>
  intro t ht
  simp only[K.tys,bM]at ht
  cases hm:ay e own with
  |true=>
   rcases ht with ht|ht
   ·subst ht;exact .inr hm
   ·exact(ih ht).imp (λh=>by simp[bz,hm,h]) id
  |false=>exact .inl (by simpa[bz,hm]using ht)
 |pair a b iha ihb=>
  intro t ht
  simp only[K.tys,dh]at ht
  rcases ht with ht|ht
  ·exact(iha ht).imp (λh=>by simp[bz,h]) id
  ·exact(ihb ht).imp (λh=>by simp[bz,h]) id
 |st f ih=>intro t ht;exact ih ht
 |_=>intro t ht;simp[K.tys]at ht
theorem Xy{own:List TypeId}:∀{k:K} {t:TypeId},t∈bz own k->t∈k.tys:=by
 intro k
 induction k with
 |sl e k ih=>
  intro t ht
  cases hm:ay e own with
  |true=>simp only[bz,hm,fT]at ht;simp[K.tys,ih ht]
  |false=>simpa[bz,hm,K.tys]using ht
 |pair a b iha ihb=>
  intro t ht
  simp only[bz,dh]at ht
  simp only[K.tys,dh]
  exact ht.imp iha ihb
 |st f ih=>intro t ht;exact ih ht
 |_=>intro t ht;simp[bz]at ht
section
variable {cx:Cx}{Z:St}{J:aJ}{F:List Nat}{a:Act}{w:World}{F':List Nat}{w':World}
theorem EX(H:Rel cx Z J F a w)(hos:w'.os=w.os/\w'.tape=w.tape/\w'.output=w.output)(hsize:w.heap.size<=w'.heap.size)(oG:∀b,b<w.heap.size->hp w' b≠hp w b->b∈F)
  (hnew:∀b∈F',b∈F\/(w.heap.size<=b/\b<w'.heap.size)) (hnd:F'.Nodup):gQ cx Z J F w Z J F' w' (λ_=>[]) (λ_=>[]) where
 slots:=rfl
 os:=hos
 size:=hsize
 old:=λr R hr=>⟨R,hr,by
  cases hd:R.cu with
  |true=>exact .inl ⟨rfl,by intro hk;simp[Root.cu,hk]at hd⟩
  |false=>exact .inr ⟨rfl,rfl,rfl,bZ _,rfl,rfl,λ_=>rfl,.inr ⟨rfl,rfl,uq ..⟩⟩⟩
 wr:=λr R' _ h=>absurd (uq ..) h
 ag4:=λr R' h1 h2=>by rw[h1]at h2;simp at h2
 o7:=λb hb hne=>.inl (oG b hb hne)
 new:=by
  rintro b (⟨r,R',h1,h2,h3⟩|h)
  ·exact absurd ⟨R',h1,h2⟩ h3
  ·exact(hnew b h).imp id .inl
 gL:=hnd
 dU:=λr R' _ h=>absurd (uq ..) h
 jr:=λr R r' R' _ _ _ h=>absurd (uq ..) h
 base:=by
  intro j pi b o n hj hb hne
  obtain⟨Q,hQ,hk,hl,hs⟩:=H.kG j pi b o n hj hb
  have hbq:b∈blk J Q (aG j):=by simp[blk,aL,hk,hl]
  have hm:=(H.roots _ _ hQ).mine b hbq
  exact absurd (oG b hm.1 hne) (H.dU _ _ hQ b hbq)
 ev:=λr R R' h1 h2 _=>by rw[h1]at h2;simp only[ak]at h2;subst h2;exact⟨rfl,rfl⟩
theorem Rel.mem(H:Rel cx Z J F a w)(T:gQ cx Z J F w Z J F' w' (λ_=>[]) (λ_=>[])):Rel cx Z J F' a w':=
 H.turn T (λ_ _ _ h=>absurd (uq ..) h) (λ_ _ _ h=>absurd (uq ..) h) (λ_ _ _ h=>absurd (uq ..) h)
theorem Rel.alloc(H:Rel cx Z J F a w)(o:Obj):Rel cx Z J (w.heap.size :: F) a (w.alloc o)/\gQ cx Z J F w Z J (w.heap.size :: F) (w.alloc o) (λ_=>[]) (λ_=>[]):=by
 have hs:(w.alloc o).heap.size=w.heap.size+1:=Array.size_push ..
 have T:gQ cx Z J F w Z J (w.heap.size :: F) (w.alloc o) (λ_=>[]) (λ_=>[]):=EX H ⟨rfl,rfl,rfl⟩ (by omega) (λb hb hne=>absurd (Bc w o hb) hne)
  (λb hb=>by rcases bM.1 hb with h|h;exact .inr ⟨by omega,by omega⟩;exact .inl h)
  (jO.2 ⟨λh=>by have:=(H.fl _ h).1;omega,H.gL⟩)
 exact⟨H.mem T,T⟩
variable {r:Nat}{R:Root}
theorem sH:g_.cu=true:=rfl
theorem vO{R':Root}{tys:List TypeId}{T:List Tag}(h:∀n,(r,n)∉T):cO (aO Z r R') tys T=cO Z tys T:=by
 induction T with
 |nil=>rfl
 |cons t T ih=>
  obtain⟨q,n⟩:=t
  have hq:q≠r:=λe=>h n (by simp[e])
  have ih':=ih (λn hn=>h n (by simp[hn]))
  simp only[cO]
  rw[ih',jA Z R' hq]
def iQ(J:aJ)(r:Nat):aJ:=bn J r (J.loc r) (J.hdr r) []
theorem kill(H:Rel cx Z J F a w)(hr:aY Z r R)(hk:R.kind=.anon)(hv:cZ Z R) :
  Rel cx (aO Z r g_) (iQ J r) (J.fo r++F) a w/\gQ cx Z J F w (aO Z r g_) (iQ J r) (J.fo r++F) w (jY r []) (jY r [])/\
  Held cx (aO Z r g_) (iQ J r) (J.fo r++F) w R.k R.x R.own R.tags (J.hdr r) (J.fo r)/\cO (aO Z r g_) (bz R.own R.k) R.tags=true:=by
 have hb:blk J R r=J.fo r:=by simp[blk,aL,hk]
 have K:=H.roots r R hr
 have hnd:(J.fo r).Nodup:=by rw[<-hb];exact K.nd
 have T1:uu cx Z J F w r R g_ [] (J.fo r++F) w [] []:=by
  refine⟨.inl ⟨rfl,by rw[hk];simp⟩,⟨λt ht=>by simp[g_]at ht,λn hn=>by simp[g_]at hn⟩,⟨rfl,rfl,rfl⟩,bZ _,λb _ h=>absurd rfl h,λh=>by simp[sH]at h,?_,?_,λh=>by simp[sH]at h,λ_ _ _ _ _ _ _ _ h=>absurd rfl h,λh=>by simp[sH]at h⟩
  ·intro b hb'
   rcases dh.1 hb' with h|h
   ·exact .inr (.inr ⟨by rw[hb];exact h,.inl rfl⟩)
   ·exact .inl h
  ·exact dJ.2 ⟨hnd,H.gL,λb h1 c h2 e=>H.dU r R hr b (by rw[hb];exact h1) (e▸h2)⟩
 have hT:=T1.turn (hdr':=J.hdr r) H hr
 have hnt:=(H.fE r R hr.1).2.2
 have Hr:cO (aO Z r g_) (bz R.own R.k) R.tags=true:=by rw[vO hnt];exact hv.2
 refine⟨T1.rel H hr (λh=>by simp[sH]at h) (λh=>by simp[sH]at h) (λh=>by simp[sH]at h),hT,?_,Hr⟩
 refine⟨λhc=>?_,λt ht=>hT.tag ((H.fE r R hr.1).1 t ht),λb hb=>bV _ hb,hnd,K.len⟩
 obtain⟨h1,h2,_⟩:=hT.views H R.tags _ (H.fE r R hr.1).1 hc
 exact dR (λb hb=>(h2 b hb.1 (.inl hb.2)).2) (λb hb=>(h2 b hb.1 (.inl hb.2)).1) (λ_ _=>rfl) (rC _ (λ_ h=>h) (K.ow hv))
theorem av1(H:Rel cx Z J F a w)(hr:aY Z r R)(hk:R.kind≠.par)(hv:cZ Z R) :
  Rel cx (aO Z r g_) (iQ J r) (blk J R r++F) a w/\gQ cx Z J F w (aO Z r g_) (iQ J r) (blk J R r++F) w (jY r []) (jY r [])/\
  Held cx (aO Z r g_) (iQ J r) (blk J R r++F) w R.k R.x R.own R.tags (J.hdr r) (J.fo r)/\cO (aO Z r g_) (bz R.own R.k) R.tags=true:=by
 have K:=H.roots r R hr
 have hnd:(blk J R r).Nodup:=K.nd
 have T1:uu cx Z J F w r R g_ [] (blk J R r++F) w [] []:=by
  refine⟨.inl ⟨rfl,hk⟩,⟨λt ht=>by simp[g_]at ht,λn hn=>by simp[g_]at hn⟩,⟨rfl,rfl,rfl⟩,bZ _,λb _ h=>absurd rfl h,λh=>by simp[sH]at h,?_,?_,λh=>by simp[sH]at h,λ_ _ _ _ _ _ _ _ h=>absurd rfl h,λh=>by simp[sH]at h⟩
  ·intro b hb'
   rcases dh.1 hb' with h|h
   ·exact .inr (.inr ⟨h,.inl rfl⟩)
   ·exact .inl h
  ·exact dJ.2 ⟨hnd,H.gL,λb h1 c h2 e=>H.dU r R hr b h1 (e▸h2)⟩
 have hT:=T1.turn (hdr':=J.hdr r) H hr
 have hnt:=(H.fE r R hr.1).2.2
 have Hr:cO (aO Z r g_) (bz R.own R.k) R.tags=true:=by rw[vO hnt];exact hv.2
 refine⟨T1.rel H hr (λh=>by simp[sH]at h) (λh=>by simp[sH]at h) (λh=>by simp[sH]at h),hT,?_,Hr⟩
 refine⟨λhc=>?_,λt ht=>hT.tag ((H.fE r R hr.1).1 t ht),λb hb=>bV _ (bG _ hb),(dJ.1 hnd).2.1,K.len⟩
 obtain⟨h1,h2,_⟩:=hT.views H R.tags _ (H.fE r R hr.1).1 hc
 exact dR (λb hb=>(h2 b hb.1 (.inl hb.2)).2) (λb hb=>(h2 b hb.1 (.inl hb.2)).1) (λ_ _=>rfl) (rC _ (λ_ h=>h) (K.ow hv))
theorem AU:∀(p:List Stp) {k:K} {x y:El k},(aD p k x).isSome=(aD p k y).isSome:=by
 intro p
 induction p with
 |nil=>intro k x y;rfl
 |cons s p ih=>
  intro k x y
  cases s with
  |aU n=>
   cases k with
   |st c=>
    simp only[aD]
    have key:∀(n:Nat) {c:K} {x y:El c},(∃s t:Dat,aP n c x=some s/\aP n c y=some t/\s.1=t.1)\/(aP n c x=none/\aP n c y=none):=by
     intro n
     induction n with
     |zero=>intro c x y;cases c<;>first|exact .inl ⟨_,_,rfl,rfl,rfl⟩|exact .inr ⟨rfl,rfl⟩
     |succ n ih=>intro c x y;cases c<;>first|exact ih|exact .inr ⟨rfl,rfl⟩
    rcases key n (c:=c) (x:=x) (y:=y)with⟨s,t,h1,h2,h3⟩|⟨h1,h2⟩
    ·rw[h1,h2]
     obtain⟨sk,sx⟩:=s
     obtain⟨tk,ty⟩:=t
     simp only at h3
     subst h3
     exact ih
    ·rw[h1,h2]
   |_=>simp[aD]
  |idx i=>
   cases k with
   |sl e k=>simp only[aD];exact ih
   |_=>simp[aD]
theorem aah:∀(n m:Nat) {c:K} {x:El c} {u y:Dat},m≠n->dB n c x u=some y->aP m y.1 y.2=aP m c x:=by
 intro n
 induction n with
 |zero=>
  intro m c x u y hm h
  cases c with
  |pair a b=>
   simp only[dB,ak]at h
   subst h
   cases m with
   |zero=>exact absurd rfl hm
   |succ m=>rfl
  |_=>simp[dB]at h
 |succ n ih=>
  intro m c x u y hm h
  cases c with
  |pair a b=>
   simp only[dB]at h
   cases h4:dB n b x.2 u with
   |none=>rw[h4]at h;simp at h
   |some y2=>
    rw[h4]at h
    simp only[ak]at h
    subst h
    cases m with
    |zero=>rfl
    |succ m=>exact ih m (by omega) h4
  |_=>simp[dB]at h
theorem aiD{bad:List TypeId}:∀(p q:List Stp) {k:K} {x:El k} {t d z:Dat},aD p k x=some d->bO p k x t=some z->
  (∀q',(aD q' t.1 t.2).isSome=true->(∀e∈aC q' t.1,e∉bad)->aC q' d.1=aC q' t.1/\(aD q' d.1 d.2).isSome=true)->(aD q z.1 z.2).isSome=true->(∀e∈aC q z.1,e∉bad)->
   aC q k=aC q z.1/\(aD q k x).isSome=true:=by
 intro p
 induction p with
 |nil=>
  intro q k x t d z hg hz ht hs hb
  simp only[bO,ak]at hz
  simp only[aD,ak]at hg
  subst hz
  subst hg
  exact ht q hs hb
 |cons s p ih=>
  intro q k x t d z hg hz ht hs hb
  cases s with
  |aU n=>
   cases k with
   |st c=>
    simp only[aD,bO]at hg hz
    cases hcg:aP n c x with
    |none=>rw[hcg]at hg;simp at hg
    |some s=>
     rw[hcg]at hg hz
     simp only at hg hz
     cases hs':bO p s.1 s.2 t with
     |none=>rw[hs']at hz;simp at hz
     |some u=>
      rw[hs']at hz
      simp only at hz
      cases hcp:dB n c x u with
      |none=>rw[hcp]at hz;simp at hz
      |some y=>
       rw[hcp]at hz
       simp only[ak]at hz
       subst hz
       cases q with
       |nil=>exact⟨rfl,rfl⟩
       |cons s2 q=>
        cases s2 with
        |idx i=>simp[aD]at hs
        |aU m=>
         by_cases hmn:m=n
         ·subst hmn
          have e1:aP m y.1 y.2=some u:=GH m hcp
          have p1:aC (.aU m :: q) (.st c)=aC q s.1:=by simp[aC,kg m hcg]
          have p2:aC (.aU m :: q) (.st y.1)=aC q u.1:=by simp[aC,kg m e1]
          have hs2:(aD (.aU m :: q) (.st y.1) y.2).isSome=true:=hs
          simp only[aD,e1]at hs2
          have hb2:∀e∈aC (.aU m :: q) (.st y.1),e∉bad:=hb
          rw[p2]at hb2
          obtain⟨h1,h2⟩:=ih q hg hs' ht hs2 hb2
          refine⟨?_,?_⟩
          ·show aC (.aU m :: q) (.st c)=aC (.aU m :: q) (.st y.1)
           rw[p1,p2,h1]
          ·simp only[aD,hcg]
           exact h2
         ·have e1:=aah n m hmn hcp
          have hs2:(aD (.aU m :: q) (.st y.1) y.2).isSome=true:=hs
          simp only[aD,e1]at hs2
          cases hg2:aP m c x with
          |none=>rw[hg2]at hs2;simp at hs2
          |some s2=>
           refine⟨?_,?_⟩
           ·show aC (.aU m :: q) (.st c)=aC (.aU m :: q) (.st y.1)
            simp only[aC,kg m hg2,kg m (e1.trans hg2)]
           ·simp only[aD,hg2]
            rw[hg2]at hs2
            exact hs2
   |_=>simp[aD]at hg
  |idx i=>
   cases k with
   |sl e k=>
    simp only[bO]at hz
    cases hs':bO p k ((show List (El k)from x).getD i.toNat k.zero) t with
    |none=>rw[hs']at hz;simp at hz
    |some u=>
     rw[hs']at hz
     simp only at hz
     cases hck:b_ u.1 k u.2 with
     |none=>rw[hck]at hz;simp at hz
     |some y=>
      rw[hck]at hz
      simp only[ak]at hz
      subst hz
      exact⟨rfl,by rw[AU q (y:=((show List (El k)from x).set i.toNat y))];exact hs⟩
   |_=>simp[bO]at hz
theorem Ba:∀k:K,k.hole.size=k.size:=by
 intro k
 induction k with
 |pair a b iha ihb=>simp[K.hole,K.size,iha,ihb]
 |st f ih=>simp[K.hole,K.size,ih]
 |_=>rfl
theorem alD{h:Heap}{own:List TypeId}{ok:Nat->Prop}:∀{k:K} {x:El k} {cs:List Value} {fo:List Nat},Ow h own ok k x cs fo->Ow h own ok k.hole (oH k x) cs []:=by
 intro k
 induction k with
 |int ik=>intro x cs fo H;exact⟨rfl,H.2⟩
 |bool=>intro x cs fo H;exact⟨rfl,H.2⟩
 |id e=>intro x cs fo H;exact⟨rfl,H.2⟩
 |str=>intro x cs fo H;exact⟨rfl,H.2⟩
 |sl e k ih=>intro x cs fo H;exact⟨rfl,eY H⟩
 |unit=>intro x cs fo H;exact⟨rfl,H.2⟩
 |pair a b iha ihb=>intro x cs fo H;obtain⟨c1,c2,f1,f2,e,hp,h1,h2⟩:=H;exact⟨c1,c2,[],[],e,.refl _,iha h1,ihb h2⟩
 |st f ih=>intro x cs fo H;exact ih (x:=x) H
 |gap n=>intro x cs fo H;exact⟨rfl,H.2⟩
theorem aag:∀(n:Nat) {c:K} {x:El c},aP n c.hole (oH c x)=(aP n c x).map nu:=by
 intro n
 induction n with
 |zero=>intro c x;cases c<;>rfl
 |succ n ih=>
  intro c x
  cases c with
  |pair a b=>simp only[K.hole,oH,aP];exact ih
  |_=>rfl
theorem amB:∀(n:Nat) {c:K},bQ n c.hole=(bQ n c).map λq=>(q.1,q.2.hole):=by
 intro n
 induction n with
 |zero=>intro c;cases c<;>rfl
 |succ n ih=>
  intro c
  cases c with
  |pair a b=>
   simp only[K.hole,bQ]
   rw[ih (c:=b)]
   cases bQ n b with
   |none=>rfl
   |some q=>simp[Ba]
  |_=>rfl
theorem Tm{h:Heap}:∀(q:List Stp) {k:K} {x:El k},(aD q k.hole (oH k x)).isSome=true->
  aC q k=[]/\aC q k.hole=[]/\(aD q k x).isSome=true/\bW q k.hole (oH k x)/\∀cs wh,aR h q k.hole cs wh=aR h q k cs wh:=by
 intro q
 induction q with
 |nil=>intro k x _;exact⟨by simp[aC],by simp[aC],rfl,trivial,λ_ _=>rfl⟩
 |cons s q ih=>
  intro k x hs
  cases s with
  |idx i=>cases k<;>simp[K.hole,aD]at hs
  |aU n=>
   cases k with
   |st c=>
    have e:aP n c.hole (oH c x)=(aP n c x).map nu:=aag n
    have hs':(aD (.aU n :: q) (.st c.hole) (oH c x)).isSome=true:=hs
    simp only[aD,e]at hs'
    cases hg:aP n c x with
    |none=>rw[hg]at hs';simp at hs'
    |some s=>
     rw[hg]at hs' e
     simp only[gq,nu]at hs' e
     obtain⟨h1,h2,h3,h4,h5⟩:=ih (k:=s.1) (x:=s.2) hs'
     refine⟨by simp[aC,kg n hg,h1],?_,by simp only[aD,hg];exact h3,?_,λcs wh=>?_⟩
     ·show aC (.aU n :: q) (.st c.hole)=[]
      simp[aC,kg n e,h2]
     ·show bW (.aU n :: q) (.st c.hole) (oH c x)
      simp only[bW,e]
      exact h4
     ·show aR h (.aU n :: q) (.st c.hole) cs wh=_
      simp only[aR]
      rw[amB n]
      cases ho:bQ n c with
      |none=>rfl
      |some w=>
       simp only[gq]
       have hk:w.2=s.1:=by
        have key:∀(n:Nat) {c:K} {x:El c} {s:Dat} {q:Nat×K},aP n c x=some s->bQ n c=some q->q.2=s.1:=by
         intro n
         induction n with
         |zero=>intro c x s q h1 h2;cases c with
          |pair a b=>simp only[aP,bQ,ak]at h1 h2;subst h1;subst h2;rfl
          |_=>simp[aP]at h1
         |succ n ih=>intro c x s q h1 h2;cases c with
          |pair a b=>
           simp only[aP,bQ]at h1 h2
           cases h3:bQ n b with
           |none=>rw[h3]at h2;simp at h2
           |some q3=>rw[h3]at h2;simp only[ak]at h2;subst h2;exact ih (q:=q3) h1 h3
          |_=>simp[aP]at h1
        exact key n (c:=c) hg ho
       obtain⟨w1,w2⟩:=w
       simp only at hk
       subst hk
       simp only[Ba]
       exact h5 _ _
   |_=>simp[K.hole,aD]at hs
theorem apV:∀(q:List Stp) {k:K} {x y:El k},aC q k=[]->(aD q k x).isSome=true->aC q k.hole=[]/\(aD q k.hole (oH k y)).isSome=true:=by
 intro q
 induction q with
 |nil=>intro k x y _ _;exact⟨by simp[aC],rfl⟩
 |cons s q ih=>
  intro k x y h0 hs
  cases s with
  |idx i=>cases k<;>simp[aC,aD]at h0 hs
  |aU n=>
   cases k with
   |st c=>
    simp only[aD]at hs
    cases hg:aP n c x with
    |none=>rw[hg]at hs;simp at hs
    |some s=>
     rw[hg]at hs
     simp only at hs
     have hp2:aC (.aU n :: q) (.st c)=aC q s.1:=by simp[aC,kg n hg]
     rw[hp2]at h0
     have key:∀(n:Nat) {c:K} {x y:El c} {s:Dat},aP n c x=some s->∃t:Dat,aP n c y=some t/\t.1=s.1:=by
      intro n
      induction n with
      |zero=>intro c x y s h;cases c<;>first|(simp only[aP,ak]at h;subst h;exact⟨_,rfl,rfl⟩)|simp[aP]at h
      |succ n ih=>intro c x y s h;cases c<;>first|exact ih h|simp[aP]at h
     obtain⟨t,g1,g2⟩:=key n (c:=c) (y:=y) hg
     obtain⟨sk,sx⟩:=s
     obtain⟨tk,ty⟩:=t
     simp only at g2
     subst g2
     obtain⟨h1,h2⟩:=ih (y:=ty) h0 hs
     have e:aP n c.hole (oH c y)=some (nu ⟨tk,ty⟩):=by rw[aag n,g1];rfl
     refine⟨?_,?_⟩
     ·show aC (.aU n :: q) (.st c.hole)=[]
      simp[aC,kg n e,nu,h1]
     ·show(aD (.aU n :: q) (.st c.hole) (oH c y)).isSome=true
      simp only[aD,e]
      exact h2
   |_=>simp[aD]at hs
theorem ayL{own:List TypeId}:∀k:K,bz own k.hole=[]:=by
 intro k
 induction k with
 |pair a b iha ihb=>simp[K.hole,bz,iha,ihb]
 |st f ih=>exact ih
 |_=>rfl
theorem cells_eq{h:Heap}{b o:Nat}{cs cs':List Value}(h1:Cells h b o cs)(h2:Cells h b o cs')(hl:cs'.length=cs.length):cs'=cs:=by
 apply Gj 
 intro i
 by_cases hi:i<cs.length
 ·rw[<-h1 i hi,<-h2 i (by omega)]
 ·rw[pY (by omega),pY (by omega)]
theorem Xd:∀(p:List Stp) {k:K} {x:El k} {t d z:Dat},aD p k x=some d->t.1.size=d.1.size->bO p k x t=some z->z.1.size=k.size:=by
 intro p
 induction p with
 |nil=>
  intro k x t d z hg hs hz
  simp only[aD,bO,ak]at hg hz
  subst hg;subst hz;exact hs
 |cons s p ih=>
  intro k x t d z hg hs hz
  cases s with
  |aU n=>
   cases k with
   |st c=>
    simp only[aD,bO]at hg hz
    cases hcg:aP n c x with
    |none=>rw[hcg]at hg;simp at hg
    |some s=>
     rw[hcg]at hg hz
     simp only at hg hz
     cases hs':bO p s.1 s.2 t with
     |none=>rw[hs']at hz;simp at hz
     |some u=>
      rw[hs']at hz
      simp only at hz
      cases hcp:dB n c x u with
      |none=>rw[hcp]at hz;simp at hz
      |some y=>
       rw[hcp]at hz
       simp only[ak]at hz
       subst hz
       have hu:=ih hg hs hs'
       have key:∀(n:Nat) {c:K} {x:El c} {s u y:Dat},aP n c x=some s->dB n c x u=some y->u.1.size=s.1.size->y.1.size=c.size:=by
        intro n
        induction n with
        |zero=>
         intro c x s u y h1 h2 e
         cases c with
         |pair a b=>simp only[aP,dB,ak]at h1 h2;subst h1;subst h2;simp only at e;simp[K.size,e]
         |_=>simp[aP]at h1
        |succ n ih=>
         intro c x s u y h1 h2 e
         cases c with
         |pair a b=>
          simp only[aP,dB]at h1 h2
          cases h3:dB n b x.2 u with
          |none=>rw[h3]at h2;simp at h2
          |some y2=>rw[h3]at h2;simp only[ak]at h2;subst h2;simp[K.size,ih h1 h3 e]
         |_=>simp[aP]at h1
       show y.1.size=c.size
       exact key n (c:=c) hcg hcp hu
   |_=>simp[aD]at hg
  |idx i=>
   cases k with
   |sl e k=>
    simp only[bO]at hz
    cases hs':bO p k ((show List (El k)from x).getD i.toNat k.zero) t with
    |none=>rw[hs']at hz;simp at hz
    |some u=>
     rw[hs']at hz
     simp only at hz
     cases hck:b_ u.1 k u.2 with
     |none=>rw[hck]at hz;simp at hz
     |some y=>rw[hck]at hz;simp only[ak]at hz;subst hz;rfl
   |_=>simp[aD]at hg
theorem FL{R R':Root}(h:R'.kind=R.kind)(loc:Nat×Nat):lQ R' loc=lQ R loc:=by unfold lQ;rw[h]
theorem yC{R R':Root}(h:R'.kind=R.kind)(loc:Nat×Nat)(fo:List Nat):iV R' loc fo=iV R loc fo:=by unfold iV;rw[h]
theorem Z7(R:Root)(loc:Nat×Nat)(fo:List Nat):iV R loc fo=(match lQ R loc with
 |some q=>[q.1]
 |none=>[])++fo:=by unfold iV lQ;cases R.kind<;>rfl
theorem lN{R:Root}{loc:Nat×Nat}{fo:List Nat}{b:Nat}:b∈iV R loc fo↔(∃o,lQ R loc=some (b,o))\/b∈fo:=by
 rw[Z7]
 cases h:lQ R loc with
 |none=>simp
 |some q=>obtain⟨b0,o0⟩:=q;simp;constructor<;>(intro h;rcases h with h|h<;>simp_all)
theorem tq{R:Root}{loc:Nat×Nat}{fo:List Nat}:(iV R loc fo).Nodup↔(∀b o,lQ R loc=some (b,o)->b∉fo)/\fo.Nodup:=by
 rw[Z7]
 cases h:lQ R loc with
 |none=>simp
 |some q=>obtain⟨b0,o0⟩:=q;simp[jO]
theorem aqF{R R':Root}(h:R'.kind=R.kind):R'.cu=R.cu:=by unfold Root.cu;rw[h]
theorem ZB{k k':K}{v:Value}{cs:List Value}(h:jV k'=jV k):VC k' v cs↔VC k v cs:=by
 cases k<;>cases k'<;>first|exact Iff.rfl|simp[jV]at h
theorem ain{p:List Stp}{k:K}{x:El k}{t z:Dat}(hp:p≠[])(hz:bO p k x t=some z):jV z.1=jV k:=by
 cases p with
 |nil=>exact absurd rfl hp
 |cons s p=>
  cases s with
  |aU n=>
   cases k with
   |st c=>
    simp only[bO]at hz
    cases hcg:aP n c x with
    |none=>rw[hcg]at hz;simp at hz
    |some s=>
     rw[hcg]at hz
     simp only at hz
     cases hs':bO p s.1 s.2 t with
     |none=>rw[hs']at hz;simp at hz
     |some u=>
      rw[hs']at hz
      simp only at hz
      cases hcp:dB n c x u with
      |none=>rw[hcp]at hz;simp at hz
      |some y=>rw[hcp]at hz;simp only[ak]at hz;subst hz;rfl
   |_=>simp[bO]at hz
  |idx i=>
   cases k with
   |sl e k=>
    simp only[bO]at hz
    cases hs':bO p k ((show List (El k)from x).getD i.toNat k.zero) t with
    |none=>rw[hs']at hz;simp at hz
    |some u=>
     rw[hs']at hz
     simp only at hz
     cases hck:b_ u.1 k u.2 with
     |none=>rw[hck]at hz;simp at hz
     |some y=>rw[hck]at hz;simp only[ak]at hz;subst hz;rfl
   |_=>simp[bO]at hz
theorem aow(k:K):k.tys≠[]\/rH k++k.tys≠[]:=by
 unfold rH
 cases k.tys with
 |nil=>exact .inr (by simp)
 |cons a l=>exact .inl (by simp)
def jJ(R:Root)(d:Dat)(z:Dat):Root:={ R with k:=z.1,x:=z.2,w:=d.1.tys++R.w,h:=rH d.1++d.1.tys++R.h }
def kU(R:Root)(d:Dat)(z:Dat)(own':List TypeId):Root:={ jJ R d z with own:=own' }
theorem zw:∀(q:List Stp) {k:K},∀t∈aC q k,t∈k.tys:=by
 intro q
 induction q with
 |nil=>intro k t ht;simp[aC]at ht
 |cons s q ih=>
  intro k t ht
  cases s with
  |aU n=>
   cases k with
   |st c=>
    simp only[aC]at ht
    cases hc:aC.kC n c with
    |none=>rw[hc]at ht;simp at ht
    |some k'=>
     rw[hc]at ht
     have h1:=ih t ht
     have:∀(n:Nat) {c k':K},aC.kC n c=some k'->∀t∈k'.tys,t∈c.tys:=by
      intro n
      induction n with
      |zero=>
       intro c k' h t ht
       cases c with
       |pair a b=>simp only[aC.kC,ak]at h;subst h;simp[K.tys,ht]
       |_=>simp[aC.kC]at h
      |succ n ih=>
       intro c k' h t ht
       cases c with
       |pair a b=>simp only[aC.kC]at h;simp[K.tys,ih h t ht]
       |_=>simp[aC.kC]at h
     exact this n hc t h1
   |_=>simp[aC]at ht
  |idx i=>
   cases k with
   |sl e k=>
    simp only[aC,bM]at ht
    rcases ht with h|h
    ·simp[K.tys,h]
    ·simp[K.tys,ih t h]
   |_=>simp[aC]at ht
theorem aa7{own':List TypeId}(H:Rel cx Z J F a w)(hr:aY Z r R)(hv:cZ Z R){p:List Stp}{d z:Dat}(hg:aD p R.k R.x=some d)(hz:bO p R.k R.x (nu d)=some z)(cK:bW p R.k R.x)
  (hown:∀t∈aC p R.k,ay t R.own=true) (hpv:p≠[]\/∃t,R.kind=.var t) (hso:∀t∈z.1.tys,ay t own'=ay t R.own) :
  ∃cs1 cB aT rest,aR (hp w) p R.k (J.hdr r) (aL J R r)=some (cs1,cB)/\
   Rel cx (aO Z r (kU R d z own')) (bn J r (J.loc r) (J.hdr r) rest) (aT++F) a w/\
   gQ cx Z J F w (aO Z r (kU R d z own')) (bn J r (J.loc r) (J.hdr r) rest) (aT++F) w (jY r d.1.tys) (jY r (rH d.1++d.1.tys))/\
   Held cx (aO Z r (kU R d z own')) (bn J r (J.loc r) (J.hdr r) rest) (aT++F) w d.1 d.2 R.own R.tags cs1 aT/\(∀tys,cO (aO Z r (kU R d z own')) tys R.tags=cO Z tys R.tags)/\(J.fo r).Perm (aT++rest):=by
 have K:=H.roots r R hr
 have hnd:=K.nd
 rw[jd,tq]at hnd
 have hO:=K.ow hv
 obtain⟨cs1,aT,rest,cB,hn,hp1,hd1,hc1,hin,hnone,hup⟩:=focus p hO (λb o e=>(K.mem b o e).1) hg cK hown hnd.2 (λb o e=>hnd.1 b o e)
 have hnt:=(H.fE r R hr.1).2.2
 have hl1:=eY hd1
 obtain⟨cs',hl',lX,hC',hN',hK'⟩:=hup.go (hp w) (aN cx Z J F w R.tags) (nu d) cs1 [] z hz hl1 (alD hd1) (λb hb=>⟨hb,rfl⟩) (λ_ _ _=>rfl)
  (λb o e=>⟨hc1 b o e,by
   have:∃arr te fr,hp w b=some (.cells arr te fr):=by
    rcases hin b o e with⟨_,o0,ew,_⟩|⟨_,arr,te,lo,hi,h1,_⟩
    ·obtain⟨_,arr,te,lo,hi,h1,_⟩:=K.mem b o0 ew;exact⟨arr,te,_,h1⟩
    ·exact⟨arr,te,_,h1⟩
   obtain⟨arr,te,fr,h1⟩:=this
   exact kQ.of_same _ _ h1 rfl⟩) (λ_=>rfl) (λ_ _ _ _=>rfl)
 have hcs:cs'=J.hdr r:=by
  cases hw:aL J R r with
  |none=>exact hN' hw
  |some q=>exact cells_eq (K.mem q.1 q.2 hw).1 (hC' q.1 q.2 hw) hl'
 rw[hcs,iA]at lX
 replace lX:=sw hso lX
 obtain⟨_,_,hNK,_⟩:=hK' d.1.tys (Ba d.1) (λq c0 w0 hq _ hn0 hs=>by
  obtain⟨_,_,_,h3,h4⟩:=Tm (h:=hp w) q (x:=d.2) hs
  exact⟨h3,c0,by rw[<-hn0];exact h4 cs1 cB⟩)
 rw[hcs]at hNK
 have hkind:(kU R d z own').kind=R.kind:=rfl
 have ape:(kU R d z own').cu=false:=hr.2
 have Dz:∀b,b∈J.fo r↔b∈aT\/b∈rest:=λb=>by rw[hp1.mem_iff,dh]
 have yR:=hp1.nodup hnd.2
 have hsz:z.1.size=R.k.size:=Xd p (t:=nu d) hg (Ba d.1) hz
 have T1:uu cx Z J F w r R (kU R d z own') rest (aT++F) w d.1.tys (rH d.1++d.1.tys):=by
  refine⟨.inr ⟨rfl,rfl,bZ _,rfl,λ_=>hsz,aow d.1⟩,⟨(H.fE r R hr.1).1,hnt⟩,⟨rfl,rfl,rfl⟩,bZ _,λb _ h=>absurd rfl h,?_,?_,?_,?_,λ_ _ _ _ _ _ _ _ h=>absurd rfl h,λ_=>⟨rfl,rfl⟩⟩
  ·intro _ b hb
   rw[yC hkind,lN]at hb
   refine .inl ?_
   rw[jd,lN,Dz]
   exact hb.imp id .inr
  ·intro b hb
   rcases dh.1 hb with h|h
   ·refine .inr (.inr ⟨by rw[jd,lN,Dz];exact .inr (.inl h),.inr (.inl ?_)⟩)
    obtain⟨e,h1,_,h2⟩:=Ae hd1 b h
    exact⟨e,h1,h2⟩
   ·exact .inl h
  ·refine dJ.2 ⟨(dJ.1 yR).1,H.gL,λb h1 c h2 e=>H.dU r R hr b ?_ (e▸h2)⟩
   rw[jd,lN,Dz]
   exact .inr (.inl h1)
  ·intro _ b hb hF
   rw[yC hkind,lN]at hb
   rcases dh.1 hF with h|h
   ·rcases hb with⟨o,hb⟩|hb
    ·exact hnd.1 b o hb ((Dz b).2 (.inl h))
    ·exact(dJ.1 yR).2.2 b h b hb rfl
   ·refine H.dU r R hr b ?_ h
    rw[jd,lN,Dz]
    exact hb.imp id .inr
 have hT:=T1.turn (hdr':=J.hdr r) H hr
 have Hr:∀tys,cO (aO Z r (kU R d z own')) tys R.tags=cO Z tys R.tags:=λtys=>vO hnt
 refine⟨cs1,cB,aT,rest,hn,T1.rel H hr ?_ ?_ ?_,hT,?_,Hr,hp1⟩
 ·intro _
  refine⟨λhv'=>?_,by rw[K.len];exact hsz.symm,?_,?_⟩
  ·obtain⟨h1,h2,_⟩:=hT.views H R.tags _ (H.fE r R hr.1).1 hv'.2
   exact dR (λb hb=>(h2 b hb.1 (.inl hb.2)).2) (λb hb=>(h2 b hb.1 (.inl hb.2)).1) (λ_ _=>rfl) (rC _ (λ_ h=>h) lX)
  ·intro b o hb
   have:(kU R d z own').k.size=R.k.size:=hsz
   rw[this]
   exact K.mem b o hb
  ·rw[yC hkind,tq]
   exact⟨λb o e hb=>hnd.1 b o e ((Dz b).2 (.inr hb)),(dJ.1 yR).2.1⟩
 ·intro _ q n v hn' hold
  refine⟨hold.1,?_⟩
  intro Q hQ lZ hcl hty hsome
  have hQ':Q=kU R d z own':=by
   rw[fQ]at hQ
   simpa using hQ.symm
  subst hQ'
  have Ia:aL (bn J r (J.loc r) (J.hdr r) rest) (kU R d z own') r=aL J R r:=by rw[u6,FL hkind,<-zK]
  have A7:(bn J r (J.loc r) (J.hdr r) rest).hdr r=J.hdr r:=by simp[bn,upd_same]
  have hh:(kU R d z own').h=(rH d.1++d.1.tys)++R.h:=rfl
  rw[hh,Aq hn']at hcl
  by_cases hq:q=[]
  case neg=>
   have hpt:∀k,iR q k=jm :: aC q k:=by
    intro k
    cases q with
    |nil=>exact absurd rfl hq
    |cons s q=>rfl
   rw[hpt]at hcl
   obtain⟨k1,k2⟩:=aiD (bad:=d.1.tys) p q hg hz (λq' h _=>let ⟨h1,h2,h3,_⟩:=Tm (h:=hp w) q' (x:=d.2) h;⟨h1.trans h2.symm,h3⟩) hsome (λe he hm=>hcl.1 e (bG _ hm) (jD _ he))
   have k1':aC q R.k=aC q (kU R d z own').k:=k1
   have hty':∀t∈aC q R.k,ay t R.own=true:=λt ht=>by
    have ht':t∈aC q z.1:=k1▸ht
    rw[<-hso t (zw q t ht')]
    exact hty t ht'
   rw[<-k1']at hcl
   obtain⟨g1,cs,b,o,g2,g3⟩:=hold.2 R hr.1 hv (by rw[hpt];exact hcl.2) hty' k2
   obtain⟨f1,c1,f2⟩:=hNK q cs (some (b,o)) g1 (λt ht=>⟨hty' t ht,λhm=>hcl.1 t (bG _ hm) (jD _ ht)⟩) g2 hsome
   rw[Ia,A7]
   exact⟨f1,c1,b,o,f2,g3⟩
  subst hq
  obtain⟨_,cs,b,o,h1,h2⟩:=hold.2 R hr.1 hv (by simp[clean,iR,ay]) (λt ht=>by simp[aC]at ht) rfl
  simp only[aR,ak,bS]at h1
  refine⟨trivial,(bn J r (J.loc r) (J.hdr r) rest).hdr r,b,o,?_,h2⟩
  simp only[aR]
  rw[u6,FL hkind,<-zK,h1.2]
 ·intro _ g v hg' hold Q hQ Dw
  obtain⟨hQ',_⟩:=nY hQ
  subst hQ'
  obtain⟨h1,h2⟩:=hold R hr Dw
  refine⟨h1,?_⟩
  have:(bn J r (J.loc r) (J.hdr r) rest).hdr r=J.hdr r:=by simp[bn,upd_same]
  rw[this]
  rcases hpv with hp|⟨t,ht⟩
  ·
   cases p with
   |nil=>exact absurd rfl hp
   |cons s p=>
    exact(ZB (ain (by simp) hz)).2 h2
  ·rw[ht]at h1;simp at h1
 ·refine⟨λhc=>?_,λt ht=>hT.tag ((H.fE r R hr.1).1 t ht),λb hb=>bV _ hb,(dJ.1 yR).1,hl1⟩
  obtain⟨h1,h2,_⟩:=hT.views H R.tags _ (H.fE r R hr.1).1 hc
  exact dR (λb hb=>(h2 b hb.1 (.inl hb.2)).2) (λb hb=>(h2 b hb.1 (.inl hb.2)).1) (λ_ _=>rfl) (rC _ (λ_ h=>h) hd1)
theorem gap(H:Rel cx Z J F a w)(hr:aY Z r R)(hv:cZ Z R){p:List Stp}{d z:Dat}(hg:aD p R.k R.x=some d)(hz:bO p R.k R.x (nu d)=some z)(cK:bW p R.k R.x)
  (hown:∀t∈aC p R.k,ay t R.own=true) (hpv:p≠[]\/∃t,R.kind=.var t) :
  ∃cs1 cB aT rest,aR (hp w) p R.k (J.hdr r) (aL J R r)=some (cs1,cB)/\
   Rel cx (aO Z r (jJ R d z)) (bn J r (J.loc r) (J.hdr r) rest) (aT++F) a w/\
   gQ cx Z J F w (aO Z r (jJ R d z)) (bn J r (J.loc r) (J.hdr r) rest) (aT++F) w (jY r d.1.tys) (jY r (rH d.1++d.1.tys))/\
   Held cx (aO Z r (jJ R d z)) (bn J r (J.loc r) (J.hdr r) rest) (aT++F) w d.1 d.2 R.own R.tags cs1 aT/\(∀tys,cO (aO Z r (jJ R d z)) tys R.tags=cO Z tys R.tags)/\(J.fo r).Perm (aT++rest):=
 aa7 (own':=R.own) H hr hv hg hz cK hown hpv (λ_ _=>rfl)
end
end
section
open Go
variable [Fr]
theorem ayK{own own':List TypeId}:∀{k:K},(∀t∈k.tys,ay t own'=true->ay t own=true)->∀t∈bz own k,t∈bz own' k:=by
 intro k
 induction k with
 |sl e k ih=>
  intro h t ht
  cases hm':ay e own' with
  |true=>
   have hm:=h e (by simp[K.tys]) hm'
   simp only[bz,hm,fT]at ht
   simp only[bz,hm',fT]
   exact ih (λt ht=>h t (by simp[K.tys,ht])) t ht
  |false=>
   have:=Xy ht
   simpa[bz,hm',K.tys]using this
 |pair a b iha ihb=>
  intro h t ht
  simp only[bz,dh]at ht ⊢
  exact ht.imp (iha (λt ht=>h t (by simp[K.tys,ht])) t) (ihb (λt ht=>h t (by simp[K.tys,ht])) t)
 |st f ih=>intro h t ht;exact ih h t ht
 |_=>intro _ t ht;simp[bz]at ht
theorem amD{own:List TypeId}:∀(n:Nat) {c:K} {x:El c} {s u y:Dat},aP n c x=some s->dB n c x u=some y->
  (∀e∈bz own u.1,e∈bz own y.1)/\((∀e∈bz own s.1,e∈bz own u.1)->∀e∈bz own c,e∈bz own y.1):=by
 intro n
 induction n with
 |zero=>
  intro c x s u y hg hp
  cases c with
  |pair a b=>
   simp only[aP,dB,ak]at hg hp
   subst hg;subst hp
   refine⟨λe he=>by simp[bz,he],λh e he=>?_⟩
   simp only[bz,dh]at he ⊢
   exact he.imp (h e) id
  |_=>simp[aP]at hg
 |succ n ih=>
  intro c x s u y hg hp
  cases c with
  |pair a b=>
   simp only[aP,dB]at hg hp
   cases h3:dB n b x.2 u with
   |none=>rw[h3]at hp;simp at hp
   |some y2=>
    rw[h3]at hp
    simp only[ak]at hp
    subst hp
    obtain⟨g1,g2⟩:=ih hg h3
    refine⟨λe he=>by simp[bz,g1 e he],λh e he=>?_⟩
    simp only[bz,dh]at he ⊢
    exact he.imp id (g2 h e)
  |_=>simp[aP]at hg
theorem aiZ{own:List TypeId}:∀(p:List Stp) {k:K} {x:El k} {d t z:Dat},aD p k x=some d->bO p k x t=some z->
  (∀e∈bz own t.1,e∈bz own z.1\/∃q∈aC p k,ay q own=false)/\((∀e∈bz own d.1,e∈bz own t.1)->∀e∈bz own k,e∈bz own z.1):=by
 intro p
 induction p with
 |nil=>
  intro k x d t z hg hz
  simp only[aD,bO,ak]at hg hz
  subst hg;subst hz
  exact⟨λe he=>.inl he,λh=>h⟩
 |cons s p ih=>
  intro k x d t z hg hz
  cases s with
  |aU n=>
   cases k with
   |st c=>
    simp only[aD,bO]at hg hz
    cases hcg:aP n c x with
    |none=>rw[hcg]at hg;simp at hg
    |some s=>
     rw[hcg]at hg hz
     simp only at hg hz
     cases hs':bO p s.1 s.2 t with
     |none=>rw[hs']at hz;simp at hz
     |some u=>
      rw[hs']at hz
      simp only at hz
      cases hcp:dB n c x u with
      |none=>rw[hcp]at hz;simp at hz
      |some y=>
       rw[hcp]at hz
       simp only[ak]at hz
       subst hz
       obtain⟨g1,g2⟩:=ih hg hs'
       obtain⟨f1,f2⟩:=amD (own:=own) n hcg hcp
       have hpt:aC (.aU n :: p) (.st c)=aC p s.1:=by simp[aC,kg n hcg]
       rw[hpt]
       exact⟨λe he=>(g1 e he).imp (f1 e) id,λh=>f2 (g2 h)⟩
   |_=>simp[aD]at hg
  |idx i=>
   cases k with
   |sl e k=>
    simp only[aD,bO]at hg hz
    cases hs':bO p k ((show List (El k)from x).getD i.toNat k.zero) t with
    |none=>rw[hs']at hz;simp at hz
    |some u=>
     rw[hs']at hz
     simp only at hz
     cases hck:b_ u.1 k u.2 with
     |none=>rw[hck]at hz;simp at hz
     |some y=>
      rw[hck]at hz
      simp only[ak]at hz
      subst hz
      obtain⟨g1,g2⟩:=ih hg hs'
      have huk:u.1=k:=by
       unfold b_ at hck
       split at hck
       ·rename_i hb;exact K.eq_of_beq hb
       ·simp at hck
      refine⟨λe' he=>?_,λ_ e' he=>he⟩
      cases hm:ay e own with
      |false=>exact .inr ⟨e,by simp[aC],hm⟩
      |true=>
       rcases g1 e' he with h|⟨q,h1,h2⟩
       ·exact .inl (by simp only[bz,hm,fT];rw[<-huk];exact h)
       ·exact .inr ⟨q,by simp[aC,h1],h2⟩
   |_=>simp[aD]at hg
theorem amy:∀(n:Nat) {c:K} {x y:El c} {s:Dat},aP n c x=some s->∃t:Dat,aP n c y=some t/\t.1=s.1:=by
 intro n
 induction n with
 |zero=>
  intro c x y s h
  cases c<;>first|(simp only[aP,ak]at h;subst h;exact⟨_,rfl,rfl⟩)|simp[aP]at h
 |succ n ih=>
  intro c x y s h
  cases c<;>first|exact ih h|simp[aP]at h
theorem amz:∀(n:Nat) {c:K} {x:El c} {s:Dat},aP n c x=some s->∀t∈s.1.tys,t∈c.tys:=by
 intro n
 induction n with
 |zero=>
  intro c x s h t ht
  cases c with
  |pair a b=>simp only[aP,ak]at h;subst h;simp[K.tys,ht]
  |_=>simp[aP]at h
 |succ n ih=>
  intro c x s h t ht
  cases c with
  |pair a b=>simp only[aP]at h;simp[K.tys,ih h t ht]
  |_=>simp[aP]at h
theorem JS{h h':Heap}{own:List TypeId}:∀(q:List Stp) {k:K} {x y:El k} {cs cs':List Value} {wh:Option (Nat×Nat)} {c0:List Value} {w0:Option (Nat×Nat)},
  bW q k x->(∀t∈aC q k,ay t own=true/\t∉k.tys)->aR h q k cs wh=some (c0,w0)->bW q k y/\∃c1,aR h' q k cs' wh=some (c1,w0):=by
 intro q
 induction q with
 |nil=>
  intro k x y cs cs' wh c0 w0 _ _ hn
  simp only[aR,ak,bS]at hn ⊢
  exact⟨trivial,_,rfl,hn.2⟩
 |cons s q ih=>
  intro k x y cs cs' wh c0 w0 hp ht hn
  cases s with
  |aU n=>
   cases k with
   |st c=>
    simp only[bW]at hp
    cases hg:aP n c x with
    |none=>rw[hg]at hp;exact hp.elim
    |some s=>
     rw[hg]at hp
     simp only at hp
     have hpt:aC (.aU n :: q) (.st c)=aC q s.1:=by simp[aC,kg n hg]
     rw[hpt]at ht
     obtain⟨t,g1,g2⟩:=amy n (c:=c) (x:=x) (y:=y) hg
     obtain⟨sk,sx⟩:=s
     obtain⟨tk,ty⟩:=t
     simp only at g2
     subst g2
     simp only[aR]at hn ⊢
     cases ho:bQ n c with
     |none=>rw[ho]at hn;simp at hn
     |some q2=>
      rw[ho]at hn
      simp only at hn
      have hk2:q2.2=tk:=by
       have key:∀(n:Nat) {c:K} {x:El c} {s:Dat} {q:Nat×K},aP n c x=some s->bQ n c=some q->q.2=s.1:=by
        intro n
        induction n with
        |zero=>intro c x s q h1 h2;cases c with
         |pair a b=>simp only[aP,bQ,ak]at h1 h2;subst h1;subst h2;rfl
         |_=>simp[aP]at h1
        |succ n ih=>intro c x s q h1 h2;cases c with
         |pair a b=>
          simp only[aP,bQ]at h1 h2
          cases h3:bQ n b with
          |none=>rw[h3]at h2;simp at h2
          |some q3=>rw[h3]at h2;simp only[ak]at h2;subst h2;exact ih (q:=q3) h1 h3
         |_=>simp[aP]at h1
       exact key n hg ho
      obtain⟨o2,k2⟩:=q2
      simp only at hk2
      subst hk2
      simp only[bW,g1]
      exact ih hp (λt h=>⟨(ht t h).1,λh2=>(ht t h).2 (amz n hg t h2)⟩) hn
   |_=>simp[bW]at hp
  |idx i=>
   cases k with
   |sl e k=>exact absurd (by simp[K.tys]) (ht e (by simp[aC])).2
   |_=>simp[bW]at hp
theorem FN{h:Heap}{b o n:Nat}{arr:Array Value}{e:TypeId}{fr:Nat×Nat}(hb:h b=some (.cells arr e fr))(hl:o+n<=arr.size):Cells h b o (iE h b o n):=by
 intro i hi
 simp only[iE,oq,List.length_range]at hi ⊢
 rw[CJ,Zm hi]
 simp only[gq]
 unfold cellAt
 rw[hb]
 simp[show o+i<arr.size by omega]
theorem kQ.widen{h0 h h':Heap}{b o n o' n':Nat}(H0:kQ h0 h b o n)(H:kQ h h' b o' n')(h1:o<=o')(h2:o'+n'<=o+n):kQ h0 h' b o n:=by
 obtain⟨a0,a1,e,fr,g1,g2,g3,g4⟩:=H0
 obtain⟨b0,b1,e',fr',f1,f2,f3,f4⟩:=H
 rw[g2]at f1
 simp only[ak,Obj.cells.injEq]at f1
 obtain⟨rfl,rfl,rfl⟩:=f1
 exact⟨a0,b1,e,fr,g1,f2,f3.trans g3,λi hi=>(f4 i (by omega)).trans (g4 i hi)⟩
theorem kY{l m:List Tag}{t:Tag}:t∈kF l m↔t∈l\/t∈m:=by
 induction l with
 |nil=>simp[kF]
 |cons s l ih=>
  obtain⟨r,n⟩:=s
  simp only[kF]
  cases h:m.any λt=>Nat.beq t.1 r&&Nat.beq t.2 n with
  |true=>
   simp only[fT,ih,bM]
   constructor
   ·intro h;exact h.imp .inr id
   ·rintro((h1|h1)|h1)
    ·subst h1
     obtain⟨t,h2,h3⟩:=List.any_eq_true.1 h
     simp only[bf]at h3
     obtain⟨tr,tn⟩:=t
     have:=bu h3.1
     have:=bu h3.2
     simp_all
    ·exact .inl h1
    ·exact .inr h1
  |false=>simp only[jI,ih,bM,or_assoc]
theorem xG{r:Nat}{l:List Tag}{t:Tag}:t∈qN r l↔t∈l/\t.1≠r:=by
 unfold qN
 rw[jg]
 constructor
 ·rintro⟨h1,h2⟩
  refine⟨h1,λe=>?_⟩
  rw[e]at h2
  simp at h2
 ·rintro⟨h1,h2⟩
  refine⟨h1,?_⟩
  cases hb:Nat.beq t.1 r with
  |true=>exact absurd (bu hb) h2
  |false=>rfl
section
variable {cx:Cx}{Z:St}{J:aJ}{F:List Nat}{a:Act}{w:World}{r:Nat}{R:Root}
theorem BN{T T':List Tag}{b:Nat}(h:aN cx Z J F w T b)(hs:∀t∈T,t∈T'):aN cx Z J F w T' b:=
 ⟨h.1,h.2.1,h.2.2.1,λr R h1 h2=>by obtain⟨n,hn⟩:=h.2.2.2.1 r R h1 h2;exact⟨n,hs _ hn⟩,λhb=>(h.2.2.2.2 hb).imp (λ⟨j,n,h1,h2⟩=>⟨j,n,hs _ h1,h2⟩) id⟩
theorem yH{T T':List Tag}{tys aiR:List TypeId}(h:cO Z tys T=true)(hs:∀t∈T',t∈T)(ht:∀t∈aiR,t∈tys):cO Z aiR T'=true:=by
 rw[wW]at h ⊢
 intro t h1
 rcases h t (hs t h1)with h|⟨R,h2,h3,h4⟩
 ·exact .inl h
 ·refine .inr ⟨R,h2,h3,?_⟩
  unfold clean at h4 ⊢
  rw[dV]at h4 ⊢
  intro x hx
  have:=h4 x hx
  simp only[jN,gF]at this ⊢
  exact λh=>this (ht x h)
theorem yN(H:Rel cx Z J F a w)(hr:aY Z r R){b:Nat}(hb:b∈J.fo r):¬lM cx b:=by
 rintro⟨j,pi,o,n,h1,h2⟩
 obtain⟨Q,hQ,hk,hl,_⟩:=H.kG j pi b o n h1 h2
 have hbq:b∈blk J Q (aG j):=by simp[blk,aL,hk,hl]
 have hbr:b∈blk J R r:=bG _ hb
 by_cases e:r=aG j
 ·subst e
  have hQR:Q=R:=by have:=hQ.1;rw[hr.1]at this;simpa using this.symm
  subst hQR
  have hnd:=(H.roots _ _ hr).nd
  rw[jd,tq]at hnd
  exact hnd.1 b o (by simp[lQ,hk,hl]) hb
 ·exact H.jr _ _ _ _ hr hQ e b hbr hbq
theorem zP(H:Rel cx Z J F a w){b:Nat}(hb:b∈F):¬lM cx b:=by
 rintro⟨j,pi,o,n,h1,h2⟩
 obtain⟨Q,hQ,hk,hl,_⟩:=H.kG j pi b o n h1 h2
 have hbq:b∈blk J Q (aG j):=by simp[blk,aL,hk,hl]
 exact H.dU _ _ hQ b hbq hb
def gz(R:Root)(z:Dat)(own:List TypeId)(tags:List Tag)(lw lh:List TypeId)(kp:Bool):Root:=
 { R with k:=z.1,x:=z.2,own:=own,tags:=tags,w:=lw++R.w,h:=lh++R.h,keep:=kp }
theorem uU(H:Rel cx Z J F a w)(hr:aY Z r R)(hv:cZ Z R){p:List Stp}{d:Dat}(hg:aD p R.k R.x=some d)(cK:bW p R.k R.x)(hown:∀t∈aC p R.k,ay t R.own=true)
  {cs1:List Value} {b o:Nat} (hn:aR (hp w) p R.k (J.hdr r) (aL J R r)=some (cs1,some (b,o))) :
  Cells (hp w) b o cs1/\(∃aT,Ow (hp w) R.own (aN cx Z J F w R.tags) d.1 d.2 cs1 aT/\∀b∈aT,b∈J.fo r)/\b∈blk J R r/\(∃arr e lo hi,hp w b=some (.cells arr e (lo,hi))/\iU arr.size lo hi/\o+d.1.size<=arr.size/\((gy R p=e/\¬lM cx b)\/(lM cx b/\gy R p=SENT)))/\
   (∀b' o',aL J R r=some (b',o')->b=b'->o'<=o/\o+d.1.size<=o'+R.k.size):=by
 have K:=H.roots r R hr
 have hnd:=K.nd
 rw[jd,tq]at hnd
 obtain⟨iO,aT,rest,cB,hn',hp1,hd1,hc1,hin,hnone,hup⟩:=focus p (K.ow hv) (λb o e=>(K.mem b o e).1) hg cK hown hnd.2 (λb o e=>hnd.1 b o e)
 rw[hn]at hn'
 simp only[ak,bS]at hn'
 obtain⟨rfl,rfl⟩:=hn'
 refine⟨hc1 b o rfl,⟨aT,hd1,λb hb=>hp1.mem_iff.2 (bV _ hb)⟩,?_,?_,?_⟩
 ·rw[jd,lN]
  rcases hin b o rfl with⟨_,o0,ew,_⟩|⟨h1,_⟩
  ·exact .inl ⟨o0,ew⟩
  ·exact .inr (hp1.mem_iff.2 (bG _ h1))
 ·rcases hin b o rfl with⟨h0,o0,ew,h1,h2⟩|⟨h1,arr,e,lo,hi,h2,h3,h4,h5⟩
  ·obtain⟨_,arr,e,lo,hi,g1,g2,g3,g4⟩:=K.mem b o0 ew
   refine⟨arr,e,lo,hi,g1,g2,by omega,?_⟩
   unfold gy
   rw[h0]
   simp only[List.getLastD_nil]
   unfold Root.bt
   cases hk:R.kind with
   |var t=>
    refine .inl ⟨(g4 t hk).symm,?_⟩
    rintro⟨j,pi,o',n',h1',h2'⟩
    obtain⟨Q,hQ,A8,hlQ,_⟩:=H.kG j pi b o' n' h1' h2'
    have hbq:b∈blk J Q (aG j):=by simp[blk,aL,A8,hlQ]
    have hbr:b∈blk J R r:=by rw[jd,lN];exact .inl ⟨o0,ew⟩
    by_cases e:r=aG j
    ·subst e
     have hQR:Q=R:=by have:=hQ.1;rw[hr.1]at this;simpa using this.symm
     subst hQR
     rw[hk]at A8
     simp at A8
    ·exact H.jr _ _ _ _ hr hQ e b hbr hbq
   |par=>
    obtain⟨j,pi,n,hj1,hj2,SX⟩:=H.tK r R hr hk
    have:(J.loc r).1=b:=by
     have:=ew
     unfold aL at this
     rw[hk]at this
     simp only[ak]at this
     rw[this]
    exact .inr ⟨⟨j,pi,_,n,hj2,by rw[SX,this]⟩,rfl⟩
   |anon=>unfold aL at ew;rw[hk]at ew;simp at ew
   |dead=>unfold aL at ew;rw[hk]at ew;simp at ew
  ·refine⟨arr,e,lo,hi,h2,h3,h5,.inl ⟨?_,yN H hr (hp1.mem_iff.2 (bG _ h1))⟩⟩
   unfold gy
   rw[Zn,h4]
   rfl
 ·intro b' o' ew e
  subst e
  rcases hin b o rfl with⟨_,o0,GU,h1,h2⟩|⟨h1,_⟩
  ·rw[ew]at GU
   simp only[ak,bS,true_and]at GU
   subst GU
   exact⟨h1,h2⟩
  ·exact absurd (hp1.mem_iff.2 (bG _ h1)) (hnd.1 b o' ew)
end
end
section
open Go
variable [Fr]
section
variable {cx:Cx}{Z:St}{J:aJ}{F:List Nat}{a:Act}{w:World}{r:Nat}{R:Root}
structure Ah(cx:Cx)(Z:St)(J:aJ)(F:List Nat)(w:World)(r:Nat)(R:Root)(p:List Stp)(d:Dat)(own':List TypeId)(cs1:List Value)(cB:Option (Nat×Nat))(aT rest:List Nat)
  (t z:Dat) (tags':List Tag) (lw lh:List TypeId) (kp:Bool) (ft F':List Nat) (cs':List Value) (w':World):Prop where
 hz:bO p R.k R.x t=some z
 ht:t.1.size=d.1.size
 sU:∀e∈bz own' d.1,e∈bz own' t.1
 os:w'.os=w.os/\w'.tape=w.tape/\w'.output=w.output
 size:w.heap.size<=w'.heap.size
 o7:∀b,b<w.heap.size->hp w' b≠hp w b->b∈F\/(b∈aT/\∃e∈lw,iH (hp w) b=some e)\/(∃o,cB=some (b,o)/\gy R p∈lw)
 cells:∀b o,cB=some (b,o)->Cells (hp w') b o cs'/\kQ (hp w) (hp w') b o d.1.size
 none:cB=none->cs'=cs1
 len:cs'.length=d.1.size
 log:lw≠[]\/lh≠[]
 tags:(∀t∈R.tags,t∈tags')/\fI Z tags'/\∀n,(r,n)∉tags'
 OL:∀b∈ft,b∈aT\/b∈F\/(w.heap.size<=b/\b<w'.heap.size)
 aov:ft.Nodup
 newF:∀b∈F',b∈F\/(w.heap.size<=b/\b<w'.heap.size)\/(b∈aT/\∃e∈lw,iH (hp w) b=some e)
 ajg:F'.Nodup
 aou:∀b∈ft,b∉F'
 aqJ:jV t.1=jV d.1\/cB≠Option.none
 aox:t.1=d.1\/(∀q',(aD q' t.1 t.2).isSome=true->(∀e∈aC q' t.1,e∉lh)->aC q' d.1=aC q' t.1/\(aD q' d.1 d.2).isSome=true)\/jm∈lh
 nav:jm∉lh->Ld (hp w) (hp w') own' d.1 d.2 cs1 cB t cs' lh
 cont:∀J',gQ cx Z J F w (aO Z r (gz R z own' tags' lw lh kp)) J' F' w' (jY r lw) (jY r lh)->(∀b∈blk J' (gz R z own' tags' lw lh kp) r,(∃o,aL J R r=some (b,o))\/b∈ft\/b∈rest)->
  cZ (aO Z r (gz R z own' tags' lw lh kp)) (gz R z own' tags' lw lh kp)->Ow (hp w') own' (aN cx (aO Z r (gz R z own' tags' lw lh kp)) J' F' w' tags') t.1 t.2 cs' ft
theorem Rel.place(H:Rel cx Z J F a w)(hr:aY Z r R)(hv:cZ Z R){p:List Stp}{d:Dat}{own':List TypeId}(hg:aD p R.k R.x=some d)(cK:bW p R.k R.x)
  (hsub:∀t,ay t own'=true->ay t R.own=true) (hown:∀t∈aC p R.k,ay t own'=true) :
  ∃fd ok' aT rest cs1 cB,aR (hp w) p R.k (J.hdr r) (aL J R r)=some (cs1,cB)/\(J.fo r).Perm (aT++rest++fd)/\Ow (hp w) own' ok' d.1 d.2 cs1 aT/\(∀b∈aT++rest,∃e∈R.k.tys,ay e own'=true/\iH (hp w) b=some e)/\
   ((∀t∈R.k.tys,ay t own'=ay t R.own)->fd=[]/\Ow (hp w) own' (aN cx Z J F w R.tags) d.1 d.2 cs1 aT)/\
   (∀b o,cB=some (b,o)->b∈rest\/∃o0,aL J R r=some (b,o0)/\o0<=o/\o+d.1.size<=o0+R.k.size)/\(∀b o,cB=some (b,o)->b∉aT)/\
   ∀{t z:Dat} {tags':List Tag} {lw lh:List TypeId} {kp:Bool} {ft F':List Nat} {cs':List Value} {w':World},Ah cx Z J F w r R p d own' cs1 cB aT rest t z tags' lw lh kp ft F' cs' w'->
    ∃J',Rel cx (aO Z r (gz R z own' tags' lw lh kp)) J' F' a w'/\gQ cx Z J F w (aO Z r (gz R z own' tags' lw lh kp)) J' F' w' (jY r lw) (jY r lh)/\(∀b∈blk J' (gz R z own' tags' lw lh kp) r,(∃o,aL J R r=some (b,o))\/b∈ft\/b∈rest)/\
     (jm∉lh->cZ (aO Z r (gz R z own' tags' lw lh kp)) (gz R z own' tags' lw lh kp)->aR (hp w') p z.1 (J'.hdr r) (aL J' (gz R z own' tags' lw lh kp) r)=some (cs',cB))/\∀b∈ft,b∈J'.fo r:=by
 have K:=H.roots r R hr
 have hnd:=K.nd
 rw[jd,tq]at hnd
 have hO:=K.ow hv
 obtain⟨mI,fd,Tp,hOK,hfd0⟩:∃mI fd,(J.fo r).Perm (mI++fd)/\Ow (hp w) own' (λb=>(aN cx Z J F w R.tags b\/b∈fd)/\∃t∈bz own' R.k,kT (hp w) b t) R.k R.x (J.hdr r) mI/\((∀t∈R.k.tys,ay t own'=ay t R.own)->fd=[]):=by
  by_cases hall:∀t∈R.k.tys,ay t own'=ay t R.own
  ·exact⟨J.fo r,[],by simp,rC _ (λ_ h=>h) (dR (λ_ _=>rfl) (λ_ h=>.inl h) (λ_ _=>rfl) (sw hall hO)),λ_=>rfl⟩
  ·obtain⟨mI,fd,h1,h2⟩:=wS (own':=own') (λt _ h=>hsub t h) hO
   exact⟨mI,fd,h1,rC _ (λ_ h=>h) h2,λh=>absurd h hall⟩
 have Td:=Tp.nodup hnd.2
 have aps:∀b,b∈J.fo r↔b∈mI\/b∈fd:=λb=>by rw[Tp.mem_iff,dh]
 obtain⟨cs1,aT,rest,cB,hn,hp1,hd1,hc1,hin,hnone,hup⟩:=focus p hOK (λb o e=>(K.mem b o e).1) hg cK hown (dJ.1 Td).1 (λb o e hb=>hnd.1 b o e ((aps b).2 (.inl hb)))
 have hpf:(J.fo r).Perm (aT++rest++fd):=Tp.trans (wN _ hp1)
 have hfo:∀b,b∈J.fo r↔(b∈aT\/b∈rest)\/b∈fd:=λb=>by rw[hpf.mem_iff,dh,dh]
 have DC:=hpf.nodup hnd.2
 have HV:=(dJ.1 DC).1
 have aqi:=Ae hOK
 have fM:∀b o,cB=some (b,o)->b∈rest\/∃o0,aL J R r=some (b,o0)/\o0<=o/\o+d.1.size<=o0+R.k.size:=by
  intro b o e
  rcases hin b o e with⟨_,o0,ew,h1,h2⟩|⟨h1,_⟩
  ·exact .inr ⟨o0,ew,h1,h2⟩
  ·exact .inl h1
 have aqr:∀b o,cB=some (b,o)->b∉aT:=by
  intro b o e hb
  rcases fM b o e with h|⟨o0,ew,_⟩
  ·exact(dJ.1 HV).2.2 b hb b h rfl
  ·exact hnd.1 b o0 ew ((hfo b).2 (.inl (.inl hb)))
 have aqp:∀b o,cB=some (b,o)->b∉fd:=by
  intro b o e hb
  rcases fM b o e with h|⟨o0,ew,_⟩
  ·exact(dJ.1 DC).2.2 b (bG _ h) b hb rfl
  ·exact hnd.1 b o0 ew ((hfo b).2 (.inr hb))
 refine⟨fd,_,aT,rest,cs1,cB,hn,hpf,hd1,λb hb=>aqi b (hp1.mem_iff.2 hb),?_,fM,aqr,?_⟩
 ·intro hall
  have h0:=hfd0 hall
  refine⟨h0,dR (λ_ _=>rfl) (λb hb=>?_) (λ_ _=>rfl) hd1⟩
  rcases hb.1 with hb|hb
  ·exact hb
  ·rw[h0]at hb;simp at hb
 intro t z tags' lw lh kp ft F' cs' w' P
 generalize hR':gz R z own' tags' lw lh kp=R' at *
 have Ez:R'.k=z.1:=by rw[<-hR'];rfl
 have hkind:R'.kind=R.kind:=by rw[<-hR'];rfl
 have ape:R'.cu=false:=by rw[aqF hkind];exact hr.2
 have aoP:R'.own=own':=by rw[<-hR'];rfl
 have abm:R'.tags=tags':=by rw[<-hR'];rfl
 have hRg:R'.g=R.g:=by rw[<-hR'];rfl
 have Sv:R'.w=lw++R.w:=by rw[<-hR'];rfl
 have hRh:R'.h=lh++R.h:=by rw[<-hR'];rfl
 have hsz:z.1.size=R.k.size:=Xd p hg P.ht P.hz
 have jT:∀b,b∈aT\/b∈rest\/b∈fd\/(∃o,aL J R r=some (b,o))->b∈blk J R r:=by
  intro b hb
  rw[jd,lN,hfo]
  rcases hb with h|h|h|h
  ·exact .inr (.inl (.inl h))
  ·exact .inr (.inl (.inr h))
  ·exact .inr (.inr h)
  ·exact .inl h
 have lJ:∀b∈blk J R r,b∉F:=λb hb=>H.dU r R hr b hb
 have hblt:∀b∈blk J R r,b<w.heap.size:=λb hb=>(K.mine b hb).1
 have SB:∀b∈blk J R r,b∉aT->b∉F':=λb hb hno h=>by
  rcases P.newF b h with h|h|h
  ·exact lJ b hb h
  ·have:=hblt b hb;omega
  ·exact hno h.1
 have Tx:∀b∈blk J R r,b∉aT->(∀o,cB≠some (b,o))->hp w' b=hp w b:=by
  intro b hb h1 h2
  refine j6 λhne=>?_
  rcases P.o7 b (hblt b hb) hne with h|⟨h,_⟩|⟨o,h,_⟩
  ·exact lJ b hb h
  ·exact h1 h
  ·exact h2 o h
 have aph:∀b∈fd,hp w' b=hp w b:=λb hb=>Tx b (jT b (.inr (.inr (.inl hb))))
  (λh=>(dJ.1 DC).2.2 b (bV _ h) b hb rfl) (λo e=>aqp b o e hb)
 have ap3:∀b∈rest,cB.map (·.1)≠some b->hp w' b=hp w b:=λb hb hne=>Tx b (jT b (.inr (.inl hb)))
  (λh=>(dJ.1 HV).2.2 b h b hb rfl) (λo e=>hne (by rw[e];rfl))
 have aci:∀b o,aL J R r=some (b,o)->cB.map (·.1)≠some b->hp w' b=hp w b:=λb o e hne=>Tx b (jT b (.inr (.inr (.inr ⟨o,e⟩))))
  (λh=>hnd.1 b o e ((hfo b).2 (.inl (.inl h)))) (λo e=>hne (by rw[e];rfl))
 let hdr':=match aL J R r with
  |some (b0,o0)=>iE (hp w') b0 o0 R.k.size
  |none=>J.hdr r
 have hT1:uu cx Z J F w r R R' (ft++rest) F' w' lw lh:=by
  refine⟨.inr ⟨Sv,hRh,by rw[hRg];exact bZ _,hkind,λ_=>by rw[Ez];exact hsz,P.log⟩,by rw[abm];exact P.tags.2,P.os,P.size,?_,?_,?_,P.ajg,?_,?_,λ_=>by rw[<-hR'];exact⟨rfl,rfl⟩⟩
  ·intro b hb hne
   rcases P.o7 b hb hne with h|⟨h,h2⟩|⟨o,h,h2⟩
   ·exact .inl h
   ·exact .inr ⟨jT b (.inl h),.inr (.inl h2)⟩
   ·have hbb:b∈blk J R r:=jT b (by
     rcases fM b o h with h|⟨o0,ew,_⟩
     ·exact .inr (.inl h)
     ·exact .inr (.inr (.inr ⟨o0,ew⟩)))
    refine .inr ⟨hbb,.inr ?_⟩
    rcases hin b o h with⟨h0,o0,ew,_⟩|⟨_,arr,e,lo,hi,g1,_,g3,_⟩
    ·
     obtain⟨_,arr,e,lo,hi,g1,g2,g3,g4⟩:=K.mem b o0 ew
     unfold gy at h2
     rw[h0]at h2
     simp only[List.getLastD_nil]at h2
     cases hk:R.kind with
     |var tv=>
      refine .inl ⟨tv,?_,?_⟩
      ·unfold Root.bt at h2;rw[hk]at h2;exact h2
      ·unfold iH;rw[g1];simp[g4 tv hk]
     |par=>
      obtain⟨j,pi,n,hj1,hj2,SX⟩:=H.tK r R hr hk
      have:(J.loc r).1=b:=by
       have:=ew
       unfold aL at this
       rw[hk]at this
       simp only[ak]at this
       rw[this]
      exact .inr ⟨⟨j,pi,_,n,hj2,by rw[SX,this]⟩,λe=>by rw[e]at h2;simp at h2⟩
     |anon=>unfold aL at ew;rw[hk]at ew;simp at ew
     |dead=>unfold aL at ew;rw[hk]at ew;simp at ew
    ·refine .inl ⟨e,?_,by unfold iH;rw[g1]⟩
     unfold gy at h2
     rw[Zn,g3]at h2
     exact h2
  ·intro _ b hb
   rw[yC hkind,lN,dh]at hb
   rcases hb with⟨o,h⟩|h|h
   ·exact .inl (jT b (.inr (.inr (.inr ⟨o,h⟩))))
   ·rcases P.OL b h with h|h|h
    ·exact .inl (jT b (.inl h))
    ·exact .inr (.inl h)
    ·exact .inr (.inr h)
   ·exact .inl (jT b (.inr (.inl h)))
  ·intro b hb
   rcases P.newF b hb with h|h|h
   ·exact .inl h
   ·exact .inr (.inl h)
   ·exact .inr (.inr ⟨jT b (.inl h.1),.inr (.inl h.2)⟩)
  ·intro _ b hb
   rw[yC hkind,lN,dh]at hb
   rcases hb with⟨o,h⟩|h|h
   ·exact SB b (jT b (.inr (.inr (.inr ⟨o,h⟩)))) (λh1=>hnd.1 b o h ((hfo b).2 (.inl (.inl h1))))
   ·exact P.aou b h
   ·exact SB b (jT b (.inr (.inl h))) (λh1=>(dJ.1 HV).2.2 b h1 b h rfl)
  ·intro j pi b o n hj hb DL hne
   obtain⟨Q,hQ,hk,hl,hs⟩:=H.kG j pi b o n hj hb
   have hQR:Q=R:=by have:=hQ.1;rw[<-DL,hr.1]at this;simpa using this.symm
   subst hQR
   have hwb:aL J Q r=some (b,o):=by unfold aL;rw[hk,DL,hl]
   have hbb:=jT b (.inr (.inr (.inr ⟨o,hwb⟩)))
   obtain⟨_,_,_,_,_,f6⟩:=H.frame
   have h0:=f6 j pi b o n hj hb
   rcases P.o7 b (hblt b hbb) hne with h|⟨h,_⟩|⟨o',h,_⟩
   ·exact absurd h (lJ b hbb)
   ·exact absurd ((hfo b).2 (.inl (.inl h))) (hnd.1 b o hwb)
   ·rcases fM b o' h with h1|⟨o0,ew,h1,h2⟩
    ·exact absurd ((hfo b).2 (.inl (.inr h1))) (hnd.1 b o hwb)
    ·rw[hwb]at ew
     simp only[ak,bS,true_and]at ew
     subst ew
     exact h0.widen (P.cells b o' h).2 h1 (by omega)
 have hT:=hT1.turn (hdr':=hdr') H hr
 have hblk':∀b∈blk (bn J r (J.loc r) hdr' (ft++rest)) R' r,(∃o,aL J R r=some (b,o))\/b∈ft\/b∈rest:=by
  intro b hb
  rw[qc,yC hkind,lN,dh]at hb
  exact hb
 have hwhole:cZ (aO Z r R') R'->Ow (hp w') own' (aN cx (aO Z r R') (bn J r (J.loc r) hdr' (ft++rest)) F' w' tags') z.1 z.2 hdr' (ft++rest)/\
   (jm∉lh->(t.1=d.1->z.1=R.k)/\Ld (hp w) (hp w') own' R.k R.x (J.hdr r) (aL J R r) z hdr' lh/\aR (hp w') p z.1 hdr' (aL J R r)=some (cs',cB)):=by
  intro hv'
  have hcont:=P.cont _ (by rw[hR'];exact hT) (by rw[hR'];exact hblk') (by rw[hR'];exact hv')
  rw[hR']at hcont
  have sU:∀e∈bz own' R.k,e∈R'.pO:=by
   unfold Root.pO
   rw[aoP,Ez]
   exact(aiZ p hg P.hz).2 P.sU
  have hc2:=hv'.2
  rw[abm]at hc2
  obtain⟨_,hV,_⟩:=hT.views H R.tags (bz own' R.k) (H.fE r R hr.1).1 (yH hc2 P.tags.1 sU)
  have hok:∀b,((aN cx Z J F w R.tags b\/b∈fd)/\∃t∈bz own' R.k,kT (hp w) b t)->aN cx (aO Z r R') (bn J r (J.loc r) hdr' (ft++rest)) F' w' tags' b/\hp w' b=hp w b:=by
   rintro b ⟨hb,hty⟩
   rcases hb with hb|hb
   ·obtain⟨h1,h2⟩:=hV b hb (.inl hty)
    exact⟨BN h1 P.tags.1,h2⟩
   ·have hbb:=jT b (.inr (.inr (.inl hb)))
    refine⟨⟨vH (hblt b hbb) P.size,SB b hbb (λh1=>(dJ.1 DC).2.2 b (bV _ h1) b hb rfl),yN H hr ((hfo b).2 (.inr hb)),?_,?_⟩,aph b hb⟩
    ·intro q Q hq hbq
     exfalso
     rcases uM hq with⟨rfl,rfl,_⟩|⟨e,hq'⟩
     ·rcases hblk' b hbq with⟨o,h⟩|h|h
      ·exact hnd.1 b o h ((hfo b).2 (.inr hb))
      ·rcases P.OL b h with h|h|h
       ·exact(dJ.1 DC).2.2 b (bV _ h) b hb rfl
       ·exact lJ b hbb h
       ·have:=hblt b hbb;omega
      ·exact(dJ.1 DC).2.2 b (bG _ h) b hb rfl
     ·rw[(kR (J:=J) (Z:=Z) (R:=R') e).blk]at hbq
      exact H.jr _ _ _ _ hr hq' (Ne.symm e) b hbb hbq
    ·intro hb0
     rcases(K.mine b hbb).2 with h|⟨j,pi,h1,h2⟩
     ·omega
     ·exact .inr ⟨j,pi,h1,h2⟩
  obtain⟨csn,hl0,lX,hC',hN',hK'⟩:=hup.go (hp w') (aN cx (aO Z r R') (bn J r (J.loc r) hdr' (ft++rest)) F' w' tags') t cs' ft z P.hz P.len hcont hok ap3 P.cells P.none aci
  have aby:csn=hdr':=by
   cases hw:aL J R r with
   |none=>
    have:hdr'=J.hdr r:=by simp only[hdr'];rw[hw]
    rw[this]
    exact hN' hw
   |some q=>
    have:hdr'=iE (hp w') q.1 q.2 R.k.size:=by simp only[hdr'];rw[hw]
    rw[this]
    have h1:=xN (hC' q.1 q.2 hw)
    rw[hl0,K.len]at h1
    exact h1.symm
  rw[aby]at lX
  refine⟨lX,λdN=>?_⟩
  have:=hK' lh P.ht (P.nav dN)
  rw[aby]at this
  exact⟨this.1,this.2.2⟩
 refine⟨bn J r (J.loc r) hdr' (ft++rest),hT1.rel H hr ?_ ?_ ?_,hT,hblk',λhgn hv'=>by
  have h3:=((hwhole hv').2 hgn).2.2
  have Ia:aL (bn J r (J.loc r) hdr' (ft++rest)) R' r=aL J R r:=by rw[u6,FL hkind,<-zK]
  have A7:(bn J r (J.loc r) hdr' (ft++rest)).hdr r=hdr':=by simp[bn,upd_same]
  rw[Ia,A7]
  exact h3,λb hb=>by
  have apr:(bn J r (J.loc r) hdr' (ft++rest)).fo r=ft++rest:=by simp[bn,upd_same]
  rw[apr]
  exact bV _ hb⟩
 ·intro _
  refine⟨λhv'=>?_,?_,?_,?_⟩
  ·have:=(hwhole hv').1
   subst hR'
   exact this
  ·rw[Ez,hsz]
   simp only[hdr']
   cases hw:aL J R r with
   |none=>exact K.len
   |some q=>simp[iE]
  ·intro b o hb
   rw[FL hkind,<-zK]at hb
   have hh:hdr'=iE (hp w') b o R.k.size:=by simp only[hdr'];rw[hb]
   obtain⟨_,arr,e,lo,hi,g1,g2,g3,g4⟩:=K.mem b o hb
   have hnew:∃fK,hp w' b=some (.cells fK e (lo,hi))/\fK.size=arr.size:=by
    by_cases hbw:cB.map (·.1)=some b
    ·cases TD:cB with
     |none=>rw[TD]at hbw;simp at hbw
     |some q=>
      rw[TD]at hbw
      simp only[gq,ak]at hbw
      obtain⟨a1,a2,te,fr,f1,f2,f3,_⟩:=(P.cells q.1 q.2 TD).2
      rw[hbw]at f1 f2
      rw[g1]at f1
      simp only[ak,Obj.cells.injEq]at f1
      obtain⟨rfl,rfl,rfl⟩:=f1
      exact⟨a2,f2,f3⟩
    ·exact⟨arr,(aci b o hb hbw).trans g1,rfl⟩
   obtain⟨fK,f1,f2⟩:=hnew
   refine⟨?_,fK,e,lo,hi,f1,by rw[f2];exact g2,by rw[f2,Ez,hsz];exact g3,λtv hk=>g4 tv (hkind▸hk)⟩
   rw[hh]
   exact FN f1 (by rw[f2];exact g3)
  ·rw[yC hkind,tq]
   refine⟨λb o hb h=>?_,dJ.2 ⟨P.aov,(dJ.1 HV).2.1,λb h1 c h2 e=>?_⟩⟩
   ·have hbb:=jT b (.inr (.inr (.inr ⟨o,hb⟩)))
    rcases dh.1 h with h|h
    ·rcases P.OL b h with h|h|h
     ·exact hnd.1 b o hb ((hfo b).2 (.inl (.inl h)))
     ·exact lJ b hbb h
     ·have:=hblt b hbb;omega
    ·exact hnd.1 b o hb ((hfo b).2 (.inl (.inr h)))
   ·subst e
    have hbb:=jT b (.inr (.inl h2))
    rcases P.OL b h1 with h|h|h
    ·exact(dJ.1 HV).2.2 b h b h2 rfl
    ·exact lJ b hbb h
    ·have:=hblt b hbb;omega
 ·intro _ q n v hn' hold
  refine⟨hold.1,?_⟩
  intro Q hQ lZ hcl hty hsome
  have hQ':Q=R':=by
   rw[fQ]at hQ
   simpa using hQ.symm
  subst hQ'
  have Ia:aL (bn J r (J.loc r) hdr' (ft++rest)) Q r=aL J R r:=by rw[u6,FL hkind,<-zK]
  have A7:(bn J r (J.loc r) hdr' (ft++rest)).hdr r=hdr':=by simp[bn,upd_same]
  rw[Ia,A7]
  rw[hRh,Aq hn']at hcl
  by_cases hq:q=[]
  ·subst hq
   obtain⟨_,cs,b,o,h1,h2⟩:=hold.2 R hr.1 hv (by simp[clean,iR,ay]) (λt ht=>by simp[aC]at ht) rfl
   simp only[aR,ak,bS]at h1
   exact⟨trivial,hdr',b,o,by simp only[aR];rw[h1.2],h2⟩
  ·have hpt:∀k,iR q k=jm :: aC q k:=by
    intro k
    cases q with
    |nil=>exact absurd rfl hq
    |cons s q=>rfl
   rw[hpt]at hcl
   have hgn:jm∉lh:=λhm=>hcl.1 jm hm (by simp)
   obtain⟨hk,hnk,_⟩:=(hwhole lZ).2 hgn
   subst hR'
   have ab5:aC q R.k=aC q z.1/\(aD q R.k R.x).isSome=true:=by
    rcases P.aox with h|h|h
    ·have hk:=hk h
     obtain⟨zk,zx⟩:=z
     simp only at hk
     subst hk
     exact⟨rfl,by rw[AU q (y:=zx)];exact hsome⟩
    ·exact aiD (bad:=lh) p q hg P.hz h hsome (λe he hm=>hcl.1 e hm (jD _ he))
    ·exact absurd h hgn
   have hpe:aC q (gz R z own' tags' lw lh kp).k=aC q R.k:=ab5.1.symm
   rw[hpe]at hcl hty
   have apc:∀t∈lh,t∉jm :: aC q R.k:=hcl.1
   obtain⟨g1,cs,b,o,g2,g3⟩:=hold.2 R hr.1 hv (by rw[hpt];exact hcl.2) (λt ht=>hsub t (hty t ht)) ab5.2
   obtain⟨f1,c1,f2⟩:=hnk q cs (some (b,o)) g1 (λt ht=>⟨hty t ht,λh=>apc t h (jD _ ht)⟩) g2 hsome
   exact⟨f1,c1,b,o,f2,g3⟩
 ·intro _ g v hg' hold Q hQ Dw
  obtain⟨hQ',_⟩:=nY hQ
  subst hQ'
  obtain⟨h1,h2⟩:=hold R hr (hRg▸Dw)
  have hw:aL J R r=none:=by unfold aL;rw[h1]
  have hh:hdr'=J.hdr r:=by simp only[hdr'];rw[hw]
  have A7:(bn J r (J.loc r) hdr' (ft++rest)).hdr r=hdr':=by simp[bn,upd_same]
  rw[A7,hh,hkind]
  refine⟨h1,?_⟩
  rw[Ez]
  refine(ZB ?_).2 h2
  by_cases hp:p=[]
  ·subst hp
   have hz:=P.hz
   simp only[bO,aD,ak]at hz hg
   subst hz
   rcases P.aqJ with h|h
   ·rw[h,<-hg]
   ·simp only[aR,ak,bS]at hn
    rw[<-hn.2,hw]at h
    exact absurd rfl h
  ·exact ain hp P.hz
end
end
section
open Go
variable [Fr]
theorem Dm:∀{k:K},k.flat=true->k.tys=[]:=by
 intro k
 induction k with
 |sl e k ih=>intro h;simp[K.flat]at h
 |gap n=>intro h;simp[K.flat]at h
 |pair a b iha ihb=>intro h;simp only[K.flat,bf]at h;simp[K.tys,iha h.1,ihb h.2]
 |st f ih=>intro h;exact ih h
 |_=>intro _;rfl
theorem alC{h h':Heap}{own own':List TypeId}{ok ok':Nat->Prop}:∀{k:K} {x:El k} {cs:List Value} {fo:List Nat},k.flat=true->Ow h own ok k x cs fo->fo=[]/\Ow h' own' ok' k x cs []:=by
 intro k
 induction k with
 |sl e k ih=>intro x cs fo h;simp[K.flat]at h
 |gap n=>intro x cs fo h;simp[K.flat]at h
 |pair a b iha ihb=>
  intro x cs fo h H
  simp only[K.flat,bf]at h
  obtain⟨c1,c2,f1,f2,e,hp,h1,h2⟩:=H
  obtain⟨g1,k1⟩:=iha h.1 h1
  obtain⟨g2,k2⟩:=ihb h.2 h2
  subst g1;subst g2
  exact⟨hp.eq_nil,c1,c2,[],[],e,.refl _,k1,k2⟩
 |st f ih=>intro x cs fo h H;exact ih (x:=x) h H
 |int ik=>intro x cs fo _ H;exact⟨H.1,rfl,H.2⟩
 |bool=>intro x cs fo _ H;exact⟨H.1,rfl,H.2⟩
 |id e=>intro x cs fo _ H;exact⟨H.1,rfl,H.2⟩
 |str=>intro x cs fo _ H;exact⟨H.1,rfl,H.2⟩
 |unit=>intro x cs fo _ H;exact⟨H.1,rfl,H.2⟩
theorem aqA{ik:IntKind}{n:Int}(h:DZ ik n=true):lq ik n:=by
 cases ik<;>simp_all[DZ,lq,DZ.Int.blt,DZ.Int.ble]
theorem iJ{a b:K}{x:El a}{y:El b}(h:b_ a b x=some y):∃e:a=b,y=e▸x:=by
 unfold b_ at h
 split at h
 ·rename_i hb
  simp only[ak]at h
  exact⟨K.eq_of_beq hb,h.symm⟩
 ·simp at h
section
variable {A:Type}{cx:Cx}{Z:St}{J:aJ}{F:List Nat}{a:Act}{w:World}{z:A}
theorem rF{k:Prog A}{tys:List TypeId}:∀{T:List Tag},(qK T tys k).ends Z z->cO Z tys T=true/\k.ends Z z:=by
 intro T
 induction T with
 |nil=>intro h;exact⟨rfl,h⟩
 |cons t T ih=>
  obtain⟨r,n⟩:=t
  intro h
  simp only[qK]at h
  cases he:fV r with
  |true=>
   rw[he]at h
   obtain⟨h1,h2⟩:=ih h
   exact⟨by simp[cO,he,h1],h2⟩
  |false=>
   rw[he]at h
   simp only[jI,Prog.ends]at h
   cases hr:Z.roots r with
   |none=>rw[hr]at h;exact h.elim
   |some R=>
    rw[hr]at h
    simp only at h
    cases hc:(!R.cu&&clean R.w n tys)with
    |false=>rw[hc]at h;exact h.elim
    |true=>
     rw[hc]at h
     obtain⟨h1,h2⟩:=ih h
     exact⟨by simp only[cO,he,hr,jI];rw[hc,h1];rfl,h2⟩
theorem gH{r:Nat}{k:Root->Prog A}(h:(iq r k).ends Z z):∃R,aY Z r R/\cZ Z R/\(k R).ends Z z:=by
 unfold iq at h
 simp only[Prog.ends]at h
 cases hr:Z.roots r with
 |none=>rw[hr]at h;exact h.elim
 |some R=>
  rw[hr]at h
  simp only at h
  cases hd:R.cu with
  |true=>rw[hd]at h;exact h.elim
  |false=>
   rw[hd]at h
   obtain⟨h1,h2⟩:=rF h
   exact⟨R,⟨hr,hd⟩,⟨hd,h1⟩,h2⟩
theorem awE(v:Value):aW cx Z J F w (JL v) v/\dK Z (JL v):=by
 unfold JL
 split
 ·rename_i k n
  cases h:DZ k n with
  |true=>exact⟨λ_=>⟨[.int k n],⟨rfl,by simp⟩,rfl,aqA h⟩,λt ht=>by simp at ht⟩
  |false=>exact⟨trivial,trivial⟩
 ·exact⟨λ_=>⟨_,⟨rfl,by simp⟩,rfl⟩,λt ht=>by simp at ht⟩
 ·rename_i s
  exact⟨λ_=>⟨_,⟨rfl,by simp⟩,s,rfl,rfl⟩,λt ht=>by simp at ht⟩
 ·exact⟨⟨none,rfl⟩,trivial⟩
 ·exact⟨rfl,trivial⟩
 ·exact⟨trivial,trivial⟩
theorem Di(H:Rel cx Z J F a w){x:Operand}{k:f_->Prog A}(h:(sN x k).ends Z z):∃v1,iZ cx Z J F w v1 (a.eval x)/\mZ Z v1/\(k v1).ends Z z:=by
 cases x with
 |tmp t=>exact⟨Z.slots t,H.slots t,H.q8 t,h⟩
 |const v=>obtain⟨h1,h2⟩:=awE (cx:=cx) (Z:=Z) (J:=J) (F:=F) (w:=w) v;exact⟨.one (JL v),h1,h2,h⟩
 |func f=>exact⟨.one (.fn f []),⟨[],rfl,trivial⟩,λc hc=>by simp at hc,h⟩
 |global g=>exact h.elim
theorem jh(H:Rel cx Z J F a w){x:Operand}{k:AV->Prog A}(h:(dY x k).ends Z z):∃v1,aW cx Z J F w v1 (a.eval x)/\dK Z v1/\(k v1).ends Z z:=by
 obtain⟨v1,h1,h2,h3⟩:=Di H h
 cases v1 with
 |one v=>exact⟨v,h1,h2,h3⟩
 |mQ l=>exact h3.elim
 |lit _ _ _=>exact h3.elim
def evs(a:Act)(l:List (Nat×Operand)):List (Nat×Value):=l.map λp=>(p.1,a.eval p.2)
theorem Sb(H:Rel cx Z J F a w):∀{l:List (Nat×Operand)} {k:List (Nat×AV)->Prog A},(vS l k).ends Z z->
  ∃vs:List (Nat×AV),vs.map (·.1)=l.map (·.1)/\h_ cx Z J F w (vs.map (·.2)) ((evs a l).map (·.2))/\(∀v∈vs,dK Z v.2)/\(k vs).ends Z z:=by
 intro l
 induction l with
 |nil=>intro k h;exact⟨[],rfl,trivial,by simp,h⟩
 |cons p l ih=>
  obtain⟨n,x⟩:=p
  intro k h
  simp only[vS]at h
  obtain⟨v,h1,h2,h3⟩:=jh H h
  obtain⟨vs,g1,g2,g3,g4⟩:=ih h3
  exact⟨(n,v) :: vs,by simp[g1],⟨h1,g2⟩,by simpa using ⟨h2,λa b hb=>g3 (a,b) hb⟩,g4⟩
theorem vR(H:Rel cx Z J F a w):∀{l:List Operand} {k:List AV->Prog A},(nS l k).ends Z z->
  ∃vs:List AV,h_ cx Z J F w vs (l.map a.eval)/\(∀v∈vs,dK Z v)/\(k vs).ends Z z:=by
 intro l
 induction l with
 |nil=>intro k h;exact⟨[],trivial,by simp,h⟩
 |cons x l ih=>
  intro k h
  simp only[nS]at h
  obtain⟨v,h1,h2,h3⟩:=jh H h
  obtain⟨vs,g2,g3,g4⟩:=ih h3
  exact⟨v :: vs,⟨h1,g2⟩,by simpa using ⟨h2,g3⟩,g4⟩
theorem zF{ik:IntKind}{n:Int}{T:List Tag}{v:Value}(h:aW cx Z J F w (.val (.int ik) n T) v):v=.int ik n/\lq ik n:=by
 obtain⟨cs,h1,h2,h3⟩:=h (.inl rfl)
 obtain⟨h5,_⟩:cs=[v]/\_:=h1
 rw[h5]at h2
 simp only[gW,eO]at h2
 exact⟨h2,h3⟩
theorem FI{b:Bool}{T:List Tag}{v:Value}(h:aW cx Z J F w (.val .bool b T) v):v=.bool b:=by
 obtain⟨cs,h1,h2⟩:=h (.inl rfl)
 obtain⟨h5,_⟩:cs=[v]/\_:=h1
 have h2':cs=[.bool b]:=h2
 rw[h5]at h2'
 simpa using h2'
theorem zG{s:List Int}{T:List Tag}{v:Value}(h:aW cx Z J F w (.val .str s T) v):∃B:ByteArray,v=.string B/\s=bytesOf B:=by
 obtain⟨cs,h1,B,h2,h3⟩:=h (.inl rfl)
 obtain⟨h5,_⟩:cs=[v]/\_:=h1
 rw[h5]at h2
 simp only[gW,eO]at h2
 exact⟨B,h2,h3⟩
theorem Wy{ik:IntKind}{n:Int}{T:List Tag}(h:lq ik n):aW cx Z J F w (.val (.int ik) n T) (.int ik n):=λ_=>⟨[.int ik n],⟨rfl,by simp⟩,rfl,h⟩
theorem awU{b:Bool}{T:List Tag}:aW cx Z J F w (.val .bool b T) (.bool b):=λ_=>⟨[.bool b],⟨rfl,by simp⟩,rfl⟩
theorem Wz{B:ByteArray}{T:List Tag}:aW cx Z J F w (.val .str (bytesOf B) T) (.string B):=λ_=>⟨[.string B],⟨rfl,by simp⟩,B,rfl,rfl⟩
theorem Gz{x:AV}{v:Value}{k:IntKind->Int->Prog A}(hx:aW cx Z J F w x v)(h:(asInt x k).ends Z z):∃ik n,v=.int ik n/\lq ik n/\(k ik n).ends Z z:=by
 unfold asInt at h
 split at h
 ·rename_i ik n T
  obtain⟨h1,h2⟩:=zF hx
  exact⟨ik,n,h1,h2,h⟩
 ·exact h.elim
theorem ZX{x:AV}{v:Value}{k:Bool->Prog A}(hx:aW cx Z J F w x v)(h:(asBool x k).ends Z z):∃b,v=.bool b/\(k b).ends Z z:=by
 unfold asBool at h
 split at h
 ·rename_i b T
  exact⟨b,FI hx,h⟩
 ·exact h.elim
theorem aN.q{T:List Tag}{b:Nat}(h:aN cx Z J F w T b):kZ Z J F w T b:=⟨h.1,h.2.1,h.2.2.2.1⟩
theorem aw_{T T':List Tag}{b:Nat}(h:kZ Z J F w T b)(hs:∀t∈T,t∈T'):kZ Z J F w T' b:=
 ⟨h.1,h.2.1,λr R h1 h2=>by obtain⟨n,hn⟩:=h.2.2 r R h1 h2;exact⟨n,hs _ hn⟩⟩
variable {r:Nat}{R:Root}
theorem alE{h:Heap}{own:List TypeId}{ok:Nat->Prop}:∀{k:K} {x:El k} {cs:List Value} {fo:List Nat},(∀t∈k.tys,ay t own=false)->Ow h own ok k x cs fo->fo=[]:=by
 intro k
 induction k with
 |sl e k ih=>
  intro x cs fo h H
  unfold Ow at H
  rw[ah (by rw[h e (by simp[K.tys])];exact Bool.false_ne_true)]at H
  exact H.1
 |pair a b iha ihb=>
  intro x cs fo h H
  obtain⟨c1,c2,f1,f2,e,hp,h1,h2⟩:=H
  rw[iha (λt ht=>h t (by simp[K.tys,ht])) h1,ihb (λt ht=>h t (by simp[K.tys,ht])) h2]at hp
  exact hp.eq_nil
 |st f ih=>intro x cs fo h H;exact ih (x:=x) h H
 |_=>intro x cs fo _ H;exact H.1
theorem OX(R:Root)(r:Nat){k:K}(hk:k.flat=false):R.out r k=(r,dL R.w) :: R.tags\/(R.out r k=R.tags/\∀t∈k.tys,ay t R.own=false):=by
 unfold Root.out
 rw[hk,jI]
 cases h:k.tys.any λt=>ay t R.own with
 |true=>exact .inl rfl
 |false=>
  refine .inr ⟨rfl,λt ht=>?_⟩
  have:=List.any_eq_false.1 h t ht
  simpa using this
theorem axg(H:Rel cx Z J F a w)(hr:aY Z r R){k:K}(hk:R.out r k=(r,dL R.w) :: R.tags){b:Nat}(hb:b∈J.fo r):aN cx Z J F w (R.out r k) b:=by
 have hbb:b∈blk J R r:=bG _ hb
 have hm:=(H.roots r R hr).mine b hbb
 refine⟨hm.1,H.dU r R hr b hbb,yN H hr hb,λq Q hq hbq=>?_,λh0=>?_⟩
 ·by_cases e:q=r
  ·subst e
   exact⟨dL R.w,by rw[hk];simp⟩
  ·exact absurd hbb (H.jr q Q r R hq hr e b hbq)
 ·rcases hm.2 with h|⟨j,pi,h1,h2⟩
  ·omega
  ·exact .inr ⟨j,pi,h1,h2⟩
theorem ahj{k:K}(hk:k.flat=false):∀t∈R.tags,t∈R.out r k:=λt ht=>by
 rcases OX R r hk with h|⟨h,_⟩<;>rw[h]
 ·exact jD _ ht
 ·exact ht
theorem E8(H:Rel cx Z J F a w)(hr:aY Z r R)(k:K):fI Z (R.out r k):=by
 intro t ht
 cases hk:k.flat with
 |true=>unfold Root.out at ht;rw[hk]at ht;simp at ht
 |false=>
  have h1:t=(r,dL R.w)\/t∈R.tags:=by
   rcases OX R r hk with h|⟨h,_⟩<;>rw[h]at ht
   ·exact bM.1 ht
   ·exact .inr ht
  rcases h1 with h|h
  ·subst h;exact .inr ⟨R,hr.1,.inr (bZ _)⟩
  ·exact(H.fE r R hr.1).1 t h
theorem tJ(H:Rel cx Z J F a w)(hr:aY Z r R){k:K}{x:El k}{cs:List Value}{aT:List Nat}(hO:Ow (hp w) R.own (aN cx Z J F w R.tags) k x cs aT)(hf:∀b∈aT,b∈J.fo r) :
  Vw (hp w) (aN cx Z J F w (R.out r k)) k x cs:=by
 cases hk:k.flat with
 |true=>exact lC hk (oV (λ_=>True) (λ_ _=>trivial) (λ_ _=>trivial) hO)
 |false=>
  rcases OX R r hk with ho|⟨_,hn⟩
  ·exact oV _ (λb hb=>BN hb (ahj hk)) (λb hb=>axg H hr ho (hf b hb)) hO
  ·exact oV _ (λb hb=>BN hb (ahj hk)) (λb hb=>by rw[alE hn hO]at hb;simp at hb) hO
theorem tL(H:Rel cx Z J F a w)(hr:aY Z r R)(hv:cZ Z R){p:List Stp}{d:Dat}(hg:aD p R.k R.x=some d)(cK:bW p R.k R.x)(hown:∀t∈aC p R.k,ay t R.own=true)
  {cs1:List Value} {cB:Option (Nat×Nat)} (hn:aR (hp w) p R.k (J.hdr r) (aL J R r)=some (cs1,cB)) :
  ∃aT,Ow (hp w) R.own (aN cx Z J F w R.tags) d.1 d.2 cs1 aT/\∀b∈aT,b∈J.fo r:=by
 have K:=H.roots r R hr
 have hnd:=K.nd
 rw[jd,tq]at hnd
 obtain⟨iO,aT,rest,wh2,hn',hp1,hd1,hc1,hin,hnone,hup⟩:=focus p (K.ow hv) (λb o e=>(K.mem b o e).1) hg cK hown hnd.2 (λb o e=>hnd.1 b o e)
 rw[hn]at hn'
 simp only[ak,bS]at hn'
 obtain⟨rfl,rfl⟩:=hn'
 exact⟨aT,hd1,λb hb=>hp1.mem_iff.2 (bV _ hb)⟩
theorem nA{T:List Nat}{own:List Nat}(h:(T.all λt=>ay t own)=true):∀t∈T,ay t own=true:=λt ht=>dV.1 h t ht
theorem CZ(H:Rel cx Z J F a w){x:AV}{v:Value}{k:(kk:K)->El kk->List Tag->Prog A}(hx:aW cx Z J F w x v)(hw:dK Z x)(h:(oZ x k).ends Z z) :
  ∃kk y T cs,VC kk v cs/\Vw (hp w) (aN cx Z J F w T) kk y cs/\fI Z T/\(k kk y T).ends Z z:=by
 cases x with
 |val kk y T=>
  obtain⟨h1,h2⟩:=rF h
  obtain⟨cs,h3,h4⟩:=hx (.inr h1)
  exact⟨kk,y,T,cs,h3,h4,hw,h2⟩
 |ref r g=>
  obtain⟨R,hr,hv,h⟩:=gH h
  cases hg:Nat.beq R.g g with
  |false=>simp only[hg,jI]at h;exact h.elim
  |true=>
   simp only[hg,fT]at h
   obtain⟨h1,h2⟩:=hx R hr (bu hg)
   exact⟨R.k,R.x,R.out r R.k,J.hdr r,h2,tJ H hr ((H.roots r R hr).ow hv) (λ_ h=>h),E8 H hr _,h⟩
 |dP r p n=>
  obtain⟨R,hr,hv,h⟩:=gH h
  cases hg:Nat.beq R.dM n with
  |false=>simp only[hg,jI]at h;exact h.elim
  |true=>
   simp only[hg,fT]at h
   cases dN:aD p R.k R.x with
   |none=>rw[dN]at h;exact h.elim
   |some d=>
    rw[dN]at h
    obtain⟨h1,h2,cs,wh,h3,h4⟩:=hx R hr.1 hv (bu hg) d dN
    obtain⟨aT,h5,h6⟩:=tL H hr hv dN h1 h2 h3
    exact⟨d.1,d.2,R.out r d.1,cs,h4,tJ H hr h5 h6,E8 H hr _,h⟩
 |undef=>exact h.elim
 |eX=>exact h.elim
 |ptr r p n=>exact h.elim
 |fC bt kk y T=>exact h.elim
 |kS _ _ _ _=>exact h.elim
 |nZ _=>exact h.elim
 |part _ _ _ _ _=>exact h.elim
 |l9 _ _ _ _=>exact h.elim
 |sub _ _ _ _ _ _=>exact h.elim
 |sel _ _ _ _ _ _=>exact h.elim
 |app _ _ _ _=>exact h.elim
 |iW=>exact h.elim
 |fn f cs=>exact h.elim
theorem Lu(H:Rel cx Z J F a w){x:AV}{v:Value}{rd:Root->Nat->List Stp->Dat->Prog A}{ro:TypeId->Dat->List Tag->Prog A}(hx:aW cx Z J F w x v)(hw:dK Z x)(h:(addrOf x rd ro).ends Z z) :
  (∃r R p d cs b o,aY Z r R/\cZ Z R/\aD p R.k R.x=some d/\bW p R.k R.x/\(∀t∈aC p R.k,ay t R.own=true)/\aR (hp w) p R.k (J.hdr r) (aL J R r)=some (cs,some (b,o))/\v=.pointer (some ⟨b,o,none⟩)/\(rd R r p d).ends Z z)\/
  (∃bt d T b o cs,fI Z T/\v=.pointer (some ⟨b,o,none⟩)/\Cells (hp w) b o cs/\Vw (hp w) (aN cx Z J F w T) d.1 d.2 cs/\kZ Z J F w T b/\((bt=SENT/\∀t∈T,fV t.1=true)\/(kT (hp w) b bt/\¬lM cx b))/\(ro bt d T).ends Z z):=by
 cases x with
 |ptr r p n=>
  obtain⟨R,hr,hv,h⟩:=gH h
  cases hc:(clean R.h n (iR p R.k)&&E9 p R)with
  |false=>rw[hc]at h;exact h.elim
  |true=>
   rw[hc]at h
   simp only[fT]at h
   simp only[bf]at hc
   cases dN:aD p R.k R.x with
   |none=>rw[dN]at h;exact h.elim
   |some d=>
    rw[dN]at h
    have hown:=nA hc.2
    obtain⟨h1,cs,b,o,h2,h3⟩:=hx.2 R hr.1 hv hc.1 hown (by rw[dN];rfl)
    exact .inl ⟨r,R,p,d,cs,b,o,hr,hv,dN,h1,hown,h2,h3,h⟩
 |fC bt k y T=>
  obtain⟨h1,h2⟩:=rF h
  obtain⟨b,o,cs,e,hcs,hV,hok,hb⟩:=hx.2 h1
  exact .inr ⟨bt,⟨k,y⟩,T,b,o,cs,hw,e,hcs,hV,hok,hb,h2⟩
 |undef=>exact h.elim
 |eX=>exact h.elim
 |ref r g=>exact h.elim
 |dP r p n=>exact h.elim
 |val kk y T=>exact h.elim
 |kS _ _ _ _=>exact h.elim
 |nZ _=>exact h.elim
 |part _ _ _ _ _=>exact h.elim
 |l9 _ _ _ _=>exact h.elim
 |sub _ _ _ _ _ _=>exact h.elim
 |sel _ _ _ _ _ _=>exact h.elim
 |app _ _ _ _=>exact h.elim
 |iW=>exact h.elim
 |fn f cs=>exact h.elim
end
end
section
open Go
variable [Fr]
theorem mY(a b:List Wr):∀Z,aF (a++b) Z=aF b (aF a Z):=by
 induction a with
 |nil=>intro Z;rfl
 |cons w a ih=>intro Z;exact ih _
theorem Pv{own:List TypeId}{k:K}:∀(k0:K),(∀t∈k.tys,t∈k0.tys)->bz (k0.tys.filter λt=>ay t own) k=bz own k:=by
 intro k0
 have key:∀t∈k0.tys,ay t (k0.tys.filter λt=>ay t own)=ay t own:=by
  intro t ht
  cases h:ay t own with
  |true=>rw[fF,jg];exact⟨ht,h⟩
  |false=>
   rw[gF,jg]
   rintro⟨_,h2⟩
   rw[h]at h2
   simp at h2
 induction k with
 |sl e k ih=>
  intro h
  simp only[bz]
  rw[key e (h e (by simp[K.tys])),ih (λt ht=>h t (by simp[K.tys,ht]))]
 |pair a b iha ihb=>intro h;simp only[bz];rw[iha (λt ht=>h t (by simp[K.tys,ht])),ihb (λt ht=>h t (by simp[K.tys,ht]))]
 |st f ih=>intro h;exact ih h
 |_=>intro _;rfl
theorem agY{own:List TypeId}{k:K}:∀t∈k.tys,ay t (k.tys.filter λt=>ay t own)=ay t own:=by
 intro t ht
 cases h:ay t own with
 |true=>rw[fF,jg];exact⟨ht,h⟩
 |false=>
  rw[gF,jg]
  rintro⟨_,h2⟩
  rw[h]at h2
  simp at h2
theorem amA{own:List TypeId}:∀(n:Nat) {c:K} {x:El c} {s:Dat},aP n c x=some s->∀t∈bz own s.1,t∈bz own c:=by
 intro n
 induction n with
 |zero=>
  intro c x s h t ht
  cases c with
  |pair a b=>simp only[aP,ak]at h;subst h;simp[bz,ht]
  |_=>simp[aP]at h
 |succ n ih=>
  intro c x s h t ht
  cases c with
  |pair a b=>simp only[aP]at h;simp[bz,ih h t ht]
  |_=>simp[aP]at h
theorem Km{own:List TypeId}:∀(p:List Stp) {k:K} {x:El k} {d:Dat},aD p k x=some d->(∀t∈aC p k,ay t own=true)->∀t∈bz own d.1,t∈bz own k:=by
 intro p
 induction p with
 |nil=>intro k x d h _;simp only[aD,ak]at h;subst h;exact λ_ h=>h
 |cons s p ih=>
  intro k x d h ht
  cases s with
  |aU n=>
   cases k with
   |st c=>
    simp only[aD]at h
    cases hg:aP n c x with
    |none=>rw[hg]at h;simp at h
    |some s=>
     rw[hg]at h
     simp only at h
     have hpt:aC (.aU n :: p) (.st c)=aC p s.1:=by simp[aC,kg n hg]
     rw[hpt]at ht
     exact λt h2=>amA n (c:=c) hg t (ih h ht t h2)
   |_=>simp[aD]at h
  |idx i=>
   cases k with
   |sl e k=>
    simp only[aD]at h
    intro t h2
    have:=ih h (λt h=>ht t (by simp[aC,h])) t h2
    simp only[bz,ht e (by simp[aC]),fT]
    exact this
   |_=>simp[aD]at h
section
variable {cx:Cx}{Z:St}{J:aJ}{F:List Nat}{a:Act}{w:World}
theorem bB{b:Bool}{A:Type}{x y:Prog A}{Z:St}{z:A}(h:(bif b then x else y).ends Z z):(b=true/\x.ends Z z)\/(b=false/\y.ends Z z):=by
 cases b with
 |true=>exact .inl ⟨rfl,h⟩
 |false=>exact .inr ⟨rfl,h⟩
theorem Zr{h:Heap}{own:List TypeId}{ok:Nat->Prop}:∀{k:K} {x:El k} {cs:List Value} {fo:List Nat},k.flat=true->Ow h own ok k x cs fo->fo=[]:=by
 intro k
 induction k with
 |sl e k ih=>intro x cs fo h;simp[K.flat]at h
 |gap n=>intro x cs fo h;simp[K.flat]at h
 |pair a b iha ihb=>
  intro x cs fo h H
  simp only[K.flat,bf]at h
  obtain⟨c1,c2,f1,f2,e,hp,h1,h2⟩:=H
  rw[iha h.1 h1,ihb h.2 h2]at hp
  exact hp.eq_nil
 |st f ih=>intro x cs fo h H;exact ih (x:=x) h H
 |_=>intro x cs fo _ H;exact H.1
theorem alG{h:Heap}{own:List TypeId}{ok:Nat->Prop}{e:TypeId}{kk:K}{xs:List (El kk)}{b b':Option Addr}{n c hi:Nat}{fo:List Nat}(hf:kk.flat=true)(he:ay e own=true)(hn:hi<=n)(hb':b'=b)
  (H:Ow h own ok (.sl e kk) xs [.slice b n c] fo):Ow h own ok (.sl e kk) (show List (El kk)from xs.take hi) [.slice b' hi c] fo:=by
 unfold Ow at H ⊢
 rw[aj he]at H ⊢
 obtain⟨a,n',c',e1,e2,e3,H⟩:=H
 simp only[gW,mX,eO]at e1
 obtain⟨rfl,rfl,rfl⟩:=e1
 have hlen:(xs.take hi).length=hi:=by
  have:n=xs.length:=e2
  simp;omega
 refine⟨b,hi,c,by rw[hb'],hlen.symm,by omega,?_⟩
 rcases H with H|⟨bb,o,arr,l,u,ea,hb,hfr,hs,az,hl,hp,H⟩
 ·exact .inl H
 ·have h0:∀l∈az,l=[]:=by
   intro l hl'
   obtain⟨i,hi',rfl⟩:=wQ.1 hl'
   have hl:az.length=xs.length:=hl
   obtain⟨ds,_,h2⟩:=H i (by show i<xs.length;omega)
   have:=Zr hf h2
   rw[<-this];simp[eP,hi']
  have hfl:az.flatten=[]:=List.flatten_eq_nil_iff.2 h0
  have apm:(az.take hi).flatten=[]:=List.flatten_eq_nil_iff.2 λl hl'=>h0 l (La hl')
  refine .inr ⟨bb,o,arr,l,u,ea,hb,hfr,hs,az.take hi,by show(az.take hi).length=(xs.take hi).length;simp only[wP];rw[show az.length=xs.length from hl],by rw[apm,<-hfl];exact hp,λi hi'=>?_⟩
  have hi2:i<(xs.take hi).length:=hi'
  have hi3:i<hi/\i<xs.length:=by simp at hi2;omega
  obtain⟨ds,h1,h2⟩:=H i hi3.2
  refine⟨ds,h1,?_⟩
  have e1:(show List (El kk)from xs.take hi)[i]'hi'=xs[i]'hi3.2:=by
   show(xs.take hi)[i]=_
   simp
  have e2:(az.take hi).getD i []=az.getD i []:=by simp[eP,QE,hi3.1]
  rw[e1,e2]
  exact h2
inductive qa(cx:Cx)(Z:St)(J:aJ)(F:List Nat)(w:World)(v:Value)(tk:dS):Prop
 |held (hws:tk.ws=[]) (cs:List Value) (hv:VC tk.k v cs) (h:Held cx Z J F w tk.k tk.x tk.own tk.tags cs []) (hc:cO Z (bz tk.own tk.k) tk.tags=true)
 |ref (r:Nat) (R:Root) (hr:aY Z r R) (hv:cZ Z R) (e:tk=⟨R.k,R.x,R.own,R.tags,[.r r none],R.keep⟩) (hk:R.kind=.anon) (hd:VC R.k v (J.hdr r))
 |gap (r:Nat) (R:Root) (p:List Stp) (d z:Dat) (hr:aY Z r R) (hv:cZ Z R) (hg:aD p R.k R.x=some d) (hz:bO p R.k R.x (nu d)=some z) (cK:bW p R.k R.x)
   (hown:∀t∈aC p R.k,ay t R.own=true) (hpv:p≠[]\/∃t,R.kind=.var t) (e:tk=⟨d.1,d.2,d.1.tys.filter (λt=>ay t R.own),R.tags,[.r r (some (jJ R d z))],R.keep⟩)
   (hn:∃cs wh,aR (hp w) p R.k (J.hdr r) (aL J R r)=some (cs,wh)/\VC d.1 v cs)
 |cut (r:Nat) (R:Root) (cs:List Value) (hr:aY Z r R) (hv:cZ Z R) (hk:R.kind=.anon) (e:tk.own=R.own/\tk.tags=R.tags/\tk.ws=[.r r none]/\tk.keep=R.keep) (hd:VC tk.k v cs) (hl:cs.length=tk.k.size)
   (sU:∀t∈bz R.own tk.k,t∈bz R.own R.k) (how:∀ok,Ow (hp w) R.own ok R.k R.x (J.hdr r) (J.fo r)->(J.fo r).Nodup->∃aT,Ow (hp w) R.own ok tk.k tk.x cs aT/\(∀b∈aT,b∈J.fo r)/\aT.Nodup)
theorem Pf{e:TypeId}{k:K}{c:Option Addr}:VC (.sl e k) (.slice c 0 0) [.slice c 0 0]:=⟨rfl,by simp⟩
theorem xP{A:Type}{z:A}(H:Rel cx Z J F a w){want:K}{x:AV}{v:Value}{k:dS->Prog A}(hx:aW cx Z J F w x v)(hw:dK Z x)(h:(qY want x k).ends Z z) :
  ∃tk,qa cx Z J F w v tk/\(k tk).ends Z z:=by
 cases x with
 |val kk y T=>
  obtain⟨h1,h2⟩:=rF h
  obtain⟨cs,h3,h4⟩:=hx (.inr h1)
  have hty:∀t∈bz [] kk,t∈kk.tys:=λt ht=>Xy ht
  exact⟨⟨kk,y,[],T,[],false⟩,.held rfl cs h3 ⟨λ_=>Af (λt _=>rfl) h4,hw,λb hb=>by simp at hb,mq,lD h4⟩ (yH h1 (λ_ h=>h) hty),h2⟩
 |eX=>
  obtain⟨c,rfl⟩:=hx
  unfold qY at h
  cases want with
  |sl e kk=>
   refine⟨_,.held rfl [.slice c 0 0] Pf ⟨λ_=>?_,λt ht=>by simp at ht,λb hb=>by simp at hb,mq,rfl⟩ rfl,h⟩
   unfold Ow
   rw[aj (by simp[ay])]
   exact⟨c,0,0,rfl,rfl,bZ _,.inl ⟨rfl,rfl⟩⟩
  |_=>exact h.elim
 |ref r g=>
  obtain⟨R,hr,hv,h⟩:=gH h
  cases hg:(Nat.beq R.g g && !R.fixed)with
  |false=>simp only[hg,jI]at h;exact h.elim
  |true=>
   simp only[hg,fT]at h
   simp only[bf]at hg
   obtain⟨h1,h2⟩:=hx R hr (bu hg.1)
   exact⟨_,.ref r R hr hv rfl h1 h2,h⟩
 |dP r p n=>
  obtain⟨R,hr,hv,h⟩:=gH h
  cases hg:Nat.beq R.dM n with
  |false=>simp only[hg,jI]at h;exact h.elim
  |true=>
   simp only[hg,fT]at h
   cases dN:aD p R.k R.x with
   |none=>rw[dN]at h;exact h.elim
   |some d=>
    rw[dN]at h
    obtain⟨h1,h2,cs,wh,h3,h4⟩:=hx R hr.1 hv (bu hg) d dN
    cases hc:(p.all Stp.jw && !R.fixed&&(!p.isEmpty||R.isVar))with
    |true=>
     simp only[hc,fT]at h
     cases hga:vV R p d with
     |none=>rw[hga]at h;exact h.elim
     |some R'=>
      rw[hga]at h
      unfold vV at hga
      cases hz:bO p R.k R.x (nu d)with
      |none=>rw[hz]at hga;simp at hga
      |some zz=>
       rw[hz]at hga
       simp only[ak]at hga
       subst hga
       simp only[bf,og]at hc
       refine⟨_,.gap r R p d zz hr hv dN hz h1 h2 ?_ rfl ⟨cs,wh,h3,h4⟩,h⟩
       rcases hc.2 with h|h
       ·left;intro e;subst e;simp at h
       ·right
        unfold Root.isVar at h
        cases hk:R.kind with
        |var t=>exact⟨t,rfl⟩
        |anon=>rw[hk]at h;simp at h
        |par=>rw[hk]at h;simp at h
        |dead=>rw[hk]at h;simp at h
    |false=>
     simp only[hc,jI]at h
     obtain⟨aT,h5,h6⟩:=tL H hr hv dN h1 h2 h3
     have hV:=tJ H hr h5 h6
     obtain⟨hc1,h⟩:=rF h
     exact⟨⟨d.1,d.2,[],R.out r d.1,[],false⟩,.held rfl cs h4 ⟨λ_=>Af (λt _=>rfl) hV,E8 H hr _,λb hb=>by simp at hb,mq,lD hV⟩ (yH hc1 (λ_ h=>h) (λt ht=>Xy ht)),h⟩
 |undef=>exact h.elim
 |ptr r p n=>exact h.elim
 |fC bt kk y T=>exact h.elim
 |kS _ _ _ _=>exact h.elim
 |nZ _=>exact h.elim
 |part r g lo hi sz=>
  obtain⟨R,hr,hv,h⟩:=gH h
  rcases bB h with⟨hg,h5⟩|⟨_,h5⟩
  ·clear h
   simp only[bf]at hg
   obtain⟨b',b,n,c,e1,eb,e2,e3,e4,hrf⟩:=hx
   obtain⟨h1,h2⟩:=hrf R hr (bu hg.1.1)
   have hlo:lo=0:=bu hg.2
   subst hlo
   have hK:∀q:Dat,(⟨R.k,R.x⟩:Dat)=q->(match q.1,q.2 with
     |.sl e kk,xs=>bif kk.flat&&ay e R.own&&Nat.beq kk.size sz then k ⟨.sl e kk,(show List (El kk)from xs).take hi,R.own,R.tags,[.r r none],R.keep⟩else .fail
     |_,_=>Prog.fail).ends Z z->∃tk,qa cx Z J F w v tk/\(k tk).ends Z z:=by
    intro q hq hh0
    obtain⟨qk,qx⟩:=q
    cases qk with
    |sl e kk=>
     simp only at hh0
     rcases bB hh0 with⟨hc,hh⟩|⟨_,hh⟩
     ·clear hh0
      simp only[bf]at hc
      have hsz:kk.size=sz:=bu hc.2
      subst hsz
      have Ho:VC (.sl e kk) (.slice b n c) (J.hdr r):=by
       have:=congrArg (λq:Dat=>VC q.1 (.slice b n c) (J.hdr r)) hq
       exact cast this h2
      have hb0:b'=b:=by
       rw[eb (.inl rfl)]
       cases b with
       |none=>rfl
       |some ad=>obtain⟨x,y,z⟩:=ad;simp[Addr.add]
      refine⟨⟨.sl e kk,(show List (El kk)from qx).take hi,R.own,R.tags,[.r r none],R.keep⟩,.cut r R [.slice b' hi c] hr hv h1 ⟨rfl,rfl,rfl,rfl⟩ ⟨by rw[e1];simp,by rw[e1];simp⟩ rfl ?_ (λok hO hN=>?_),hh⟩
      ·have e:=congrArg (λq:Dat=>bz R.own q.1) hq.symm
       exact λt ht=>e▸ht
      ·have hO:=cast (congrArg (λq:Dat=>Ow (hp w) R.own ok q.1 q.2 (J.hdr r) (J.fo r)) hq) hO
       simp only at hO
       rw[Ho.1]at hO
       exact⟨_,alG hc.1.1 hc.1.2 e3 hb0 hO,λ_ h=>h,hN⟩
     ·exact hh.elim
    |_=>exact hh0.elim
   exact hK _ rfl h5
  ·exact h5.elim
 |l9 _ _ _ _=>exact h.elim
 |sub _ _ _ _ _ _=>exact h.elim
 |sel _ _ _ _ _ _=>exact h.elim
 |app _ _ _ _=>exact h.elim
 |iW=>exact h.elim
 |fn f cs=>exact h.elim
theorem ayx{A:Type}{z:A}(H:Rel cx Z J F a w){want:K}{x:AV}{v:Value}{k:dS->Prog A}(hx:aW cx Z J F w x v)(hw:dK Z x)(h:(takeC want x k).ends Z z) :
  ∃tk,qa cx Z J F w v tk/\(k tk).ends Z z:=by
 unfold takeC at h
 split at h
 ·rename_i r p n
  rcases bB h with⟨_,h⟩|⟨_,h⟩
  ·exact xP H hx hw h
  ·obtain⟨R,hr,hv,h⟩:=gH h
   rcases bB h with⟨hc,h⟩|⟨_,h⟩
   ·simp only[bf]at hc
    cases dN:aD p R.k R.x with
    |none=>rw[dN]at h;exact h.elim
    |some d=>
     rw[dN]at h
     obtain⟨h1,h2,cs,wh,h3,h4⟩:=hx R hr.1 hv (bu hc.1.1) d dN
     have hk:R.kind=.anon:=by
      have h:=hc.2
      unfold Root.acw at h
      cases hk:R.kind with
      |anon=>rfl
      |_=>rw[hk]at h;simp at h
     obtain⟨aT,h5,h6⟩:=tL H hr hv dN h1 h2 h3
     refine⟨_,.cut r R cs hr hv hk ⟨rfl,rfl,rfl,rfl⟩ h4 (lD (tJ H hr h5 h6)) (Km p dN h2) (λok hO hN=>?_),h⟩
     have fM:aL J R r=none:=by simp[aL,hk]
     rw[fM]at h3
     obtain⟨iO,vT,rest,wh2,hn',hp1,hd1,_⟩:=focus p hO (wh:=none) (λb o e=>by simp at e) dN h1 h2 hN (λb o e=>by simp at e)
     rw[h3]at hn'
     simp only[ak,bS]at hn'
     obtain⟨rfl,rfl⟩:=hn'
     exact⟨vT,hd1,λb hb=>hp1.mem_iff.2 (bV _ hb),(dJ.1 (hp1.nodup_iff.1 hN)).1⟩
   ·exact h.elim
 ·exact xP H hx hw h
def uj(cx:Cx)(Z:St)(J:aJ)(F:List Nat)(w:World):List (Value×dS)->List (List Value×List Nat)->Prop
 | [],[]=>True
 |it :: l,h :: hs=>(VC it.2.k it.1 h.1/\Held cx Z J F w it.2.k it.2.x it.2.own it.2.tags h.1 h.2/\cO Z (bz it.2.own it.2.k) it.2.tags=true)/\uj cx Z J F w l hs
 |_,_=>False
def dA(l:List (Value×dS)):List Wr:=l.flatMap λit=>it.2.ws
def mP(l:List (Value×dS)):List Tag:=l.flatMap λit=>it.2.tags
theorem ah2(a b:List Wr):(a++b).flatMap Wr.dZ=a.flatMap Wr.dZ++b.flatMap Wr.dZ:=List.flatMap_append
theorem take1(H:Rel cx Z J F a w){v:Value}{tk:dS}(h:qa cx Z J F w v tk) :
  ∃J' F' cs fo lw lh,Rel cx (aF tk.ws Z) J' F' a w/\gQ cx Z J F w (aF tk.ws Z) J' F' w lw lh/\VC tk.k v cs/\Held cx (aF tk.ws Z) J' F' w tk.k tk.x tk.own tk.tags cs fo/\
   cO (aF tk.ws Z) (bz tk.own tk.k) tk.tags=true/\(∀b∈F,b∈F')/\(∀b∈fo,b∉F)/\(∀q,q∉tk.ws.flatMap Wr.dZ->Same Z J (aF tk.ws Z) J' q):=by
 cases h with
 |held hws cs hv hh hc=>
  rw[hws]
  exact⟨J,F,cs,[],_,_,H,EX H ⟨rfl,rfl,rfl⟩ (bZ _) (λ_ _ h=>absurd rfl h) (λb hb=>.inl hb) H.gL,hv,hh,hc,λ_ h=>h,λb hb=>by simp at hb,λq _=>uq ..⟩
 |ref r R hr hv e hk hd=>
  subst e
  obtain⟨h1,h2,h3,h4⟩:=kill H hr hk hv
  refine⟨_,_,J.hdr r,J.fo r,_,_,h1,h2,hd,h3,h4,λb hb=>bG _ hb,λb hb hF=>H.dU r R hr b (bG _ hb) hF,?_⟩
  intro q hq
  have hq':q≠r:=by simpa[Wr.dZ]using hq
  exact kR hq'
 |cut r R cs hr hv hk e hd hl sU how=>
  obtain⟨e1,e2,e3,e4⟩:=e
  obtain⟨h1,h2,h3,h4⟩:=kill H hr hk hv
  rw[e3]
  obtain⟨aT,j1,j2,j3⟩:=how _ (h3.ow h4) h3.nd
  refine⟨_,_,cs,aT,_,_,h1,h2,hd,?_,?_,λb hb=>bG _ hb,λb hb hF=>H.dU r R hr b (bG _ (j2 b hb)) hF,?_⟩
  ·rw[e1,e2]
   exact⟨λ_=>j1,h3.wt,λb hb=>h3.sub b (j2 b hb),j3,hl⟩
  ·rw[e1,e2]
   exact yH h4 (λ_ h=>h) sU
  ·intro q hq
   have hq':q≠r:=by simpa[Wr.dZ]using hq
   exact kR hq'
 |gap r R p d z hr hv hg hz cK hown hpv e hn=>
  subst e
  obtain⟨cs,wh,hn1,hn2⟩:=hn
  obtain⟨cs1,cB,aT,rest,g1,g2,g3,g4,g5,_⟩:=gap H hr hv hg hz cK hown hpv
  rw[hn1]at g1
  simp only[ak,bS]at g1
  obtain⟨rfl,rfl⟩:=g1
  have hcl:cO (aO Z r (jJ R d z)) (bz R.own d.1) R.tags=true:=by
   rw[g5]
   exact yH hv.2 (λ_ h=>h) (Km p hg hown)
  refine⟨_,_,cs,aT,_,_,g2,g3,hn2,?_,?_,λb hb=>bG _ hb,?_,?_⟩
  ·refine⟨λhc=>?_,g4.wt,g4.sub,g4.nd,g4.len⟩
   exact sw (λt ht=>agY t ht) (g4.ow (by rw[Pv d.1 (λ_ h=>h)]at hc;exact hc))
  ·show cO (aO Z r (jJ R d z)) (bz (d.1.tys.filter λt=>ay t R.own) d.1) R.tags=true
   rw[Pv d.1 (λ_ h=>h)]
   exact hcl
  ·intro b hb hF
   have:=g2.gL
   exact(dJ.1 this).2.2 b hb b hF rfl
  ·intro q hq
   have hq':q≠r:=by simpa[Wr.dZ]using hq
   exact kR hq'
theorem qL{Z':St}{tys:List TypeId}{T:List Tag}(h:∀t∈T,Z'.roots t.1=Z.roots t.1):cO Z' tys T=cO Z tys T:=by
 induction T with
 |nil=>rfl
 |cons t T ih=>
  obtain⟨q,n⟩:=t
  simp only[cO]
  rw[ih (λt ht=>h t (by simp[ht])),h (q,n) (by simp)]
theorem qa.stays{Z':St}{J':aJ}{F':List Nat}{lw lh:Nat->List Nat}{v:Value}{tk:dS}(h:qa cx Z J F w v tk)(H:Rel cx Z J F a w)(T:gQ cx Z J F w Z' J' F' w lw lh)
  (hs:∀q,(q∈tk.ws.flatMap Wr.dZ\/q∈tk.tags.map (·.1))->Same Z J Z' J' q):qa cx Z' J' F' w v tk:=by
 cases h with
 |held hws cs hv hh hc=>
  exact .held hws cs hv (hh.turn H T (λb hb=>by simp at hb)) (by rw[qL (λt ht=>(hs t.1 (.inr (d_.2 ⟨t,ht,rfl⟩))).root)];exact hc)
 |ref r R hr hv e hk hd=>
  subst e
  have hS:=hs r (.inl (by simp[Wr.dZ]))
  refine .ref r R ((hS.live R).2 hr) ⟨hv.1,?_⟩ rfl hk (by rw[hS.hdr];exact hd)
  rw[qL (λt ht=>(hs t.1 (.inr (d_.2 ⟨t,ht,rfl⟩))).root)]
  exact hv.2
 |cut r R cs hr hv hk e hd hl sU how=>
  have hS:=hs r (.inl (by rw[e.2.2.1];simp[Wr.dZ]))
  refine .cut r R cs ((hS.live R).2 hr) ⟨hv.1,?_⟩ hk e hd hl sU (by rw[hS.hdr,hS.fo];exact how)
  rw[qL (λt ht=>(hs t.1 (.inr (d_.2 ⟨t,by rw[e.2.1];exact ht,rfl⟩))).root)]
  exact hv.2
 |gap r R p d z hr hv hg hz cK hown hpv e hn=>
  subst e
  have hS:=hs r (.inl (by simp[Wr.dZ]))
  refine .gap r R p d z ((hS.live R).2 hr) ⟨hv.1,?_⟩ hg hz cK hown hpv rfl (by rw[hS.hdr,hS.wh];exact hn)
  rw[qL (λt ht=>(hs t.1 (.inr (d_.2 ⟨t,ht,rfl⟩))).root)]
  exact hv.2
theorem uj.turn{Z':St}{J':aJ}{F':List Nat}{lw lh:Nat->List Nat}(H:Rel cx Z J F a w)(T:gQ cx Z J F w Z' J' F' w lw lh)(hF:∀b∈F,b∈F') :
  ∀{l:List (Value×dS)} {hs:List (List Value×List Nat)},(∀t∈mP l,Z'.roots t.1=Z.roots t.1)->uj cx Z J F w l hs->uj cx Z' J' F' w l hs
 | [],[],_,_=>trivial
 |it :: l,h :: hs,hr,hh=>by
  refine⟨⟨hh.1.1,hh.1.2.1.turn H T (λb hb=>⟨rfl,hF b (hh.1.2.1.sub b hb)⟩),?_⟩,uj.turn H T hF (λt ht=>hr t (by simp only[mP,kP,dh];exact .inr ht)) hh.2⟩
  rw[qL (λt ht=>hr t (by simp only[mP,kP,dh];exact .inl ht))]
  exact hh.1.2.2
 | [],_ :: _,_,h=>h.elim
 |_ :: _,[],_,h=>h.elim
theorem Gy{l:List Nat}:CW l=true↔l.Nodup:=by
 induction l with
 |nil=>simp[CW]
 |cons n l ih=>simp[CW,ih,gF]
theorem takes:∀(l:List (Value×dS)) {Z:St} {J:aJ} {F:List Nat},Rel cx Z J F a w->(∀it∈l,qa cx Z J F w it.1 it.2)->((dA l).flatMap Wr.dZ).Nodup->(∀t∈mP l,t.1∉(dA l).flatMap Wr.dZ)->
  ∃J' F' hs,Rel cx (aF (dA l) Z) J' F' a w/\uj cx (aF (dA l) Z) J' F' w l hs/\(hs.flatMap (·.2)).Nodup/\(∀b∈hs.flatMap (·.2),b∉F)/\(∀b∈F,b∈F')/\
   (∀q,q∉(dA l).flatMap Wr.dZ->Same Z J (aF (dA l) Z) J' q)/\
   (∀k x own tags cs fo,Held cx Z J F w k x own tags cs fo->Held cx (aF (dA l) Z) J' F' w k x own tags cs fo)/\Views cx Z J F w (aF (dA l) Z) J' F' w/\(∀t,qw Z t->qw (aF (dA l) Z) t)/\(∀q,Z.roots q=none->(aF (dA l) Z).roots q=none):=by
 intro l
 induction l with
 |nil=>intro Z J F H _ _ _;exact⟨J,F,[],H,trivial,mq,λb hb=>by simp at hb,λ_ h=>h,λq _=>uq ..,λ_ _ _ _ _ _ h=>h,λT tys _ h=>⟨h,λb hb _=>⟨hb,rfl⟩,λb hb _=>⟨hb,rfl⟩⟩,λ_ h=>h,λ_ h=>h⟩
 |cons it l ih=>
  intro Z J F H hT hnd eD
  have e1:dA (it :: l)=it.2.ws++dA l:=rfl
  have e2:mP (it :: l)=it.2.tags++mP l:=rfl
  rw[e1,ah2]at hnd eD
  rw[e2]at eD
  obtain⟨a_,F1,cs,fo,lw,lh,H1,T1,h1,h2,h3,h4,h5,h6⟩:=take1 H (hT it (by simp))
  have hnd':=dJ.1 hnd
  obtain⟨gB,F2,hs,H2,g1,g2,g3,g4,g5,g6,g7,g8,g9⟩:=ih H1 (λit' hi=>(hT it' (by simp[hi])).stays H T1 (λq hq=>by
   refine h6 q ?_
   rcases hq with hq|hq
   ·intro hq'
    exact hnd'.2.2 q hq' q (by
     rw[mW]at hq ⊢
     obtain⟨wr,hw1,hw2⟩:=hq
     exact⟨wr,mW.2 ⟨it',hi,hw1⟩,hw2⟩) rfl
   ·obtain⟨t,ht,rfl⟩:=d_.1 hq
    intro hq'
    exact eD t (bG _ (mW.2 ⟨it',hi,ht⟩)) (bV _ hq'))) hnd'.2.1
   (λt ht hq=>eD t (bG _ ht) (bG _ hq))
  rw[e1,mY]
  have hq1:∀q,q∉(it.2.ws).flatMap Wr.dZ++(dA l).flatMap Wr.dZ->Same Z J (aF (dA l) (aF it.2.ws Z)) gB q:=by
   intro q hq
   simp only[dh,not_or]at hq
   have s1:=h6 q hq.1
   have s2:=g5 q hq.2
   exact⟨s2.root.trans s1.root,s2.loc.trans s1.loc,s2.hdr.trans s1.hdr,s2.fo.trans s1.fo⟩
  refine⟨gB,F2,(cs,fo) :: hs,H2,⟨⟨h1,g6 _ _ _ _ _ _ h2,?_⟩,g1⟩,?_,?_,λb hb=>g4 b (h4 b hb),?_,λk x own tags cs fo hh=>g6 _ _ _ _ _ _ (hh.turn H T1 (λb hb=>⟨rfl,h4 b (hh.sub b hb)⟩)),?_,λt ht=>g8 t (T1.tag ht),?_⟩
  ·rw[qL (λt ht=>(g5 t.1 (λhq=>eD t (bV _ ht) (bG _ hq))).root)]
   exact h3
  ·simp only[kP]
   exact dJ.2 ⟨h2.nd,g2,λb hb c hc e=>g3 c hc (e▸h2.sub b hb)⟩
  ·intro b hb hF
   simp only[kP,dh]at hb
   rcases hb with hb|hb
   ·exact h5 b hb hF
   ·exact g3 b hb (h4 b hF)
  ·rw[ah2]
   exact hq1
  ·intro T tys hw hc
   obtain⟨k1,k2,k3⟩:=g7 T tys (λt ht=>T1.tag (hw t ht)) hc
   obtain⟨j1,j2,j3⟩:=T1.views H T tys hw k1
   refine⟨j1,λb hb ht=>?_,λb hb ht=>?_⟩
   ·obtain⟨a1,a2⟩:=j2 b hb ht
    exact⟨(k2 b a1 ht).1,rfl⟩
   ·obtain⟨a1,a2⟩:=j3 b hb ht
    exact⟨(k3 b a1 ht).1,rfl⟩
  ·intro q hq
   refine g9 q ?_
   cases hq2:(aF it.2.ws Z).roots q with
   |none=>rfl
   |some Q=>
    exfalso
    by_cases hm:q∈(it.2.ws).flatMap Wr.dZ
    ·have:=hT it (by simp)
     cases this with
     |held hws cs hv hh hc=>rw[hws]at hm;simp at hm
     |ref r R hr hv e hk hd=>rw[e]at hm;simp[Wr.dZ]at hm;subst hm;rw[hr.1]at hq;simp at hq
     |cut r R cs hr hv hk e hd hl sU how=>rw[e.2.2.1]at hm;simp[Wr.dZ]at hm;subst hm;rw[hr.1]at hq;simp at hq
     |gap r R p d z hr hv hg hz cK hown hpv e hn=>rw[e]at hm;simp[Wr.dZ]at hm;subst hm;rw[hr.1]at hq;simp at hq
    ·rw[(h6 q hm).root,hq]at hq2
     simp at hq2
end
end
section
open Go
variable [Fr]
theorem uG(j:Nat):fV (gK j)=true:=by simp[fV,gK,Nat.add_mod]
theorem LC{ws:List Wr}{T:List Tag}:yx ws T=true↔∀t∈T,t.1∉ws.flatMap Wr.dZ:=by
 unfold yx
 rw[dV]
 simp[gF]
theorem ayR{ws:List Wr}{r:Nat}(h:(ws.all λw=>!w.loc.beq (.r r))=true):r∉ws.flatMap Wr.dZ:=by
 rw[mW]
 rintro⟨w,h1,h2⟩
 have:=dV.1 h w h1
 cases w with
 |s n a=>simp[Wr.dZ]at h2
 |r n o=>
  simp only[Wr.dZ,gY]at h2
  subst h2
  simp[Wr.loc,Loc.beq]at this
theorem LJ:∀(n:Nat) {c:K} {x:El c} {s:Dat} {q:Nat×K},aP n c x=some s->bQ n c=some q->q.2=s.1:=by
 intro n
 induction n with
 |zero=>intro c x s q h1 h2;cases c with
  |pair a b=>simp only[aP,bQ,ak]at h1 h2;subst h1;subst h2;rfl
  |_=>simp[aP]at h1
 |succ n ih=>intro c x s q h1 h2;cases c with
  |pair a b=>
   simp only[aP,bQ]at h1 h2
   cases h3:bQ n b with
   |none=>rw[h3]at h2;simp at h2
   |some q3=>rw[h3]at h2;simp only[ak]at h2;subst h2;exact ih (q:=q3) h1 h3
  |_=>simp[aP]at h1
theorem aw0{h:Heap}:∀(p:List Stp) {k:K} {x:El k} {cs:List Value} {c1:List Value} {w1:Option (Nat×Nat)},aC p k=[]->(aD p k x).isSome=true->aR h p k cs none=some (c1,w1)->w1=none:=by
 intro p
 induction p with
 |nil=>intro k x cs c1 w1 _ _ h;simp only[aR,ak,bS]at h;exact h.2.symm
 |cons s p ih=>
  intro k x cs c1 w1 h0 hs h
  cases s with
  |aU n=>
   cases k with
   |st c=>
    simp only[aD]at hs
    cases hg:aP n c x with
    |none=>rw[hg]at hs;simp at hs
    |some s=>
     rw[hg]at hs
     have hp2:aC (.aU n :: p) (.st c)=aC p s.1:=by simp[aC,kg n hg]
     rw[hp2]at h0
     simp only[aR]at h
     cases ho:bQ n c with
     |none=>rw[ho]at h;simp at h
     |some q=>
      have hk2:q.2=s.1:=LJ n (c:=c) hg ho
      rw[ho]at h
      obtain⟨q1,q2⟩:=q
      simp only at hk2
      subst hk2
      exact ih h0 hs h
   |_=>simp[aD]at hs
  |idx i=>
   cases k with
   |sl e k=>simp[aC]at h0
   |_=>simp[aD]at hs
theorem K.ama:∀k:K,k.beq k=true:=by
 intro k
 induction k with
 |int ik=>cases ik<;>rfl
 |sl e k ih=>simp[K.beq,ih]
 |pair a b iha ihb=>simp[K.beq,iha,ihb]
 |st f ih=>exact ih
 |gap n=>simp[K.beq]
 |id e=>simp[K.beq]
 |_=>rfl
theorem Zt:∀(q:List Stp) {k:K} {x:El k},bW q k x->(aD q k x).isSome=true:=by
 intro q
 induction q with
 |nil=>intro k x _;rfl
 |cons s q ih=>
  intro k x h
  cases s with
  |aU n=>
   cases k with
   |st c=>
    simp only[bW]at h
    simp only[aD]
    cases hc:aP n c x with
    |none=>rw[hc]at h;exact h.elim
    |some d=>rw[hc]at h;exact ih h
   |_=>exact h.elim
  |idx i=>
   cases k with
   |sl e k=>exact ih h.2.2
   |_=>exact h.elim
theorem alH:∀(q:List Stp) {k:K} {x:El k},aC q k=[]->(aD q k x).isSome=true->bW q k x:=by
 intro q
 induction q with
 |nil=>intro k x _ _;trivial
 |cons s q ih=>
  intro k x h0 hs
  cases s with
  |idx i=>cases k<;>simp[aC,aD]at h0 hs
  |aU n=>
   cases k with
   |st c=>
    simp only[aD]at hs
    cases hg:aP n c x with
    |none=>rw[hg]at hs;simp at hs
    |some s=>
     rw[hg]at hs
     simp only at hs
     have hp2:aC (.aU n :: q) (.st c)=aC q s.1:=by simp[aC,kg n hg]
     rw[hp2]at h0
     simp only[bW,hg]
     exact ih h0 hs
   |_=>simp[aD]at hs
section
variable {cx:Cx}{Z:St}{J:aJ}{F:List Nat}{a:Act}{w:World}{r:Nat}{R:Root}
theorem ayp{P:Program}{T:bK}{t:TypeId}{kk:K}{x:El kk}{kM:List TypeId}{tV:List Tag}{wX:List Value}{AP:List Nat}{v:Value}(hT:dz P T t kk)
  (H:Rel cx Z J F a w) (hr:aY Z r R) (hv:cZ Z R) {p:List Stp} {d z:Dat} (hg:aD p R.k R.x=some d) (hz:bO p R.k R.x ⟨kk,x⟩=some z) (cK:bW p R.k R.x) (hown:∀t∈aC p R.k,ay t R.own=true)
  (hh:Held cx Z J F w kk x kM tV wX AP) (hc:cO Z (bz kM kk) tV=true) (jF:VC kk v wX) (hd:d.1=kk\/d.1=kk.hole)
  (hself:kk.flat=true\/Pd R r tV (bz kM kk)=true) (hbad:∀t∈aC p R.k,t∉bz kM kk) (kp:Bool)
  {cs1:List Value} {b o:Nat} (hn:aR (hp w) p R.k (J.hdr r) (aL J R r)=some (cs1,some (b,o))) :
  ∃w',(Instr.storeAt t (.pointer (some ⟨b,o,none⟩)) v).run P w=.ok () w'/\∃J' F',
   Rel cx (aO Z r (gz R z (eF R.own (bz kM kk)) (bif kk.flat then R.tags else kF (qN r tV) R.tags) [gy R p] ((bif d.1.beq kk then []else rH kk)++kk.tys) kp)) J' F' a w':=by
 have K0:=H.roots r R hr
 have hnt:=H.fE r R hr.1
 have qd:=hh.ow hc
 obtain⟨_,_,hbb,⟨arr,e,lo,hi,hb,hf,hs,hlast⟩,_⟩:=uU H hr hv hg cK hown hn
 have hds:kk.size=d.1.size:=by
  rcases hd with h|h
  ·rw[h]
  ·rw[h,Ba]
 have hone:=Le hT.fD qd
 have hrun:=aik (o:=o) hT hb hf hh.len (by omega) jF hone
 obtain⟨s1,s2,fK,s3,s4,s5,s6⟩:=Fv b wX w arr e (lo,hi) o hb (by rw[hh.len];omega)
 have s7:=Fw b wX w o
 refine⟨_,hrun,?_⟩
 have ab1:∀t∈aC p R.k,ay t (eF R.own (bz kM kk))=true:=λt ht=>oM.2 ⟨hown t ht,hbad t ht⟩
 obtain⟨fd,ok',aT,rest,iO,cB,hn',hpf,hd1,hty,_,fM,hwf,hgo⟩:=H.place hr hv (own':=eF R.own (bz kM kk)) hg cK (λt h=>(oM.1 h).1) ab1
 rw[hn]at hn'
 simp only[ak,bS]at hn'
 obtain⟨rfl,rfl⟩:=hn'
 obtain⟨ft,je,hpt,Hg⟩:=wS (own':=eF R.own (bz kM kk)) (λt ht hm=>by
  rcases Kl (own:=kM) ht with h|h
  ·exact absurd h (oM.1 hm).2
  ·exact h) (rC (bz kM kk) (λ_ h=>h) qd)
 have abU:=hpt.nodup hh.nd
 have hft:∀b∈ft,b∈AP:=λb hb=>hpt.mem_iff.2 (bV _ hb)
 have SK:∀b∈je,b∈AP:=λb hb=>hpt.mem_iff.2 (bG _ hb)
 have lJ:b∉F:=H.dU r R hr b hbb
 have apx:=Ae Hg
 suffices hP:Ah cx Z J F w r R p d (eF R.own (bz kM kk)) cs1 (some (b,o)) aT rest ⟨kk,x⟩ z (bif kk.flat then R.tags else kF (qN r tV) R.tags) [gy R p] ((bif d.1.beq kk then []else rH kk)++kk.tys) kp ft (F.filter λb=>!ay b AP) wX (w.setCells b o wX) by
  obtain⟨J',h,_⟩:=hgo hP
  exact⟨J',_,h⟩
 have hF':∀b',b'∈F.filter (λb=>!ay b AP)↔b'∈F/\b'∉AP:=λb'=>by rw[jg];simp[gF]
 refine⟨hz,hds,?_,⟨s7.1,s7.2.1,s7.2.2⟩,by omega,?_,?_,λh=>by simp at h,by rw[hh.len,hds],.inl (by simp),?_,λb' hb'=>.inr (.inl (hh.sub b' (hft b' hb'))),(dJ.1 abU).1,λb' hb'=>.inl ((hF' b').1 hb').1,H.gL.filter _,λb' hb' h=>((hF' b').1 h).2 (hft b' hb'),.inr (by simp),?_,?_,?_⟩
 ·rcases hd with h|h
  ·rw[h];exact λ_ h=>h
  ·rw[h,ayL];intro t ht;simp at ht
 ·intro b' _ hne
  refine .inr (.inr ?_)
  by_cases e:b'=b
  ·subst e;exact⟨o,rfl,by simp⟩
  ·exact absurd (s1 b' e) hne
 ·intro b' o' e'
  simp only[ak,bS]at e'
  obtain⟨rfl,rfl⟩:=e'
  refine⟨λi hi=>?_,arr,fK,e,(lo,hi),hb,s3,s4,λi hi=>?_⟩
  ·unfold cellAt
   rw[s3]
   exact s5 i hi
  ·exact s6 i (by rw[hh.len,hds];exact hi)
 ·cases hfl:kk.flat with
  |true=>exact⟨λ_ h=>h,hnt.1,hnt.2.2⟩
  |false=>
   refine⟨λt ht=>kY.2 (.inr ht),λt ht=>?_,λn ht=>?_⟩
   ·rcases kY.1 ht with h|h
    ·exact hh.wt t (xG.1 h).1
    ·exact hnt.1 t h
   ·rcases kY.1 ht with h|h
    ·exact(xG.1 h).2 rfl
    ·exact hnt.2.2 n h
 ·cases hbq:d.1.beq kk with
  |true=>exact .inl (K.eq_of_beq hbq).symm
  |false=>
   have hdh:d.1=kk.hole:=hd.resolve_left (λe=>by rw[e,K.ama]at hbq;simp at hbq)
   refine .inr (.inl λq' h1 h2=>?_)
   have hnil:aC q' kk=[]:=by
    cases he:aC q' kk with
    |nil=>rfl
    |cons e l=>exact absurd (bG _ (zw q' e (by rw[he];simp))) (h2 e (by rw[show aC q' (⟨kk,x⟩:Dat).1=aC q' kk from rfl,he];simp))
   obtain⟨dk,dx⟩:=d
   simp only at hdh
   subst hdh
   obtain⟨h3,h4⟩:=apV q' (y:=x) hnil h1
   refine⟨?_,?_⟩
   ·show aC q' kk.hole=aC q' kk
    rw[h3,hnil]
   ·show(aD q' kk.hole dx).isSome=true
    rw[AU q' (y:=oH kk x)]
    exact h4
 ·intro _ q c0 w0 hpq rO hnq DJ
  obtain⟨dk,dx⟩:=d
  rcases hd with ek|ek
  ·simp only at ek
   subst ek
   exact JS q hpq (λt ht=>⟨(rO t ht).1,λh=>(rO t ht).2 (bG _ h)⟩) hnq
  ·simp only at ek
   subst ek
   have hs0:(aD q kk.hole dx).isSome=true:=Zt q hpq
   rw[AU q (y:=oH kk x)]at hs0
   obtain⟨h1,h2,h3,_,h5⟩:=Tm (h:=hp w) q (x:=x) hs0
   have apS:aR (hp w) q kk cs1 (some (b,o))=some (c0,w0):=by rw[<-h5];exact hnq
   exact JS (own:=eF R.own (bz kM kk)) q (alH q h1 h3) (λt ht=>by rw[h1]at ht;simp at ht) apS
 ·intro J' Tn hblk hval
  cases hfl:kk.flat with
  |true=>
   obtain⟨e1,e2⟩:=alC (h':=hp (w.setCells b o wX)) (own':=eF R.own (bz kM kk)) (ok':=aN cx (aO Z r (gz R z (eF R.own (bz kM kk)) (bif kk.flat then R.tags else kF (qN r tV) R.tags) [gy R p] ((bif d.1.beq kk then []else rH kk)++kk.tys) kp)) J' (F.filter λb=>!ay b AP) (w.setCells b o wX) (bif true then R.tags else kF (qN r tV) R.tags)) hfl Hg
   subst e1
   rw[hfl]at e2
   exact e2
  |false=>
   rw[hfl]at Tn hblk hval
   have DT:=hself.resolve_left (by rw[hfl];simp)
   simp only[jI]at Tn hblk hval ⊢
   generalize hR':gz R z (eF R.own (bz kM kk)) (kF (qN r tV) R.tags) [gy R p] ((bif d.1.beq kk then []else rH kk)++kk.tys) kp=R' at *
   have Sv:R'.w=[gy R p]++R.w:=by rw[<-hR'];rfl
   have hRt:R'.tags=kF (qN r tV) R.tags:=by rw[<-hR'];rfl
   have hRv:R'.pO=bz (eF R.own (bz kM kk)) z.1:=by rw[<-hR'];rfl
   have hRd:R'.cu=false:=hval.1
   have aqd:∀t∈bz kM kk,t∈R'.pO:=by
    intro t ht
    rw[hRv]
    have h1:=ayK (own:=kM) (own':=eF R.own (bz kM kk)) (k:=kk) (λt ht hm=>by
     rcases Kl (own:=kM) ht with h|h
     ·exact absurd h (oM.1 hm).2
     ·exact h) t ht
    rcases(aiZ p hg hz).1 t h1 with h|⟨q,h2,h3⟩
    ·exact h
    ·rw[ab1 q h2]at h3;simp at h3
   have apG:∀n,(r,n)∈tV->gy R p∉bz kM kk:=by
    intro n hn1 hl
    unfold gy at hl
    cases hpt:aC p R.k with
    |nil=>
     rw[hpt]at hl
     simp only[List.getLastD_nil]at hl
     unfold Pd at DT
     rw[og]at DT
     rcases DT with h|h
     ·have:=dV.1 h _ hn1
      simp at this
     ·unfold Root.bt at hl
      cases hk:R.kind with
      |var tv=>rw[hk]at h hl;simp only at h hl;rw[jN,gF]at h;exact h hl
      |par=>rw[hk]at h;simp at h
      |anon=>
       rcases fM b o rfl with h1|⟨o0,ew,_⟩
       ·
        rw[hpt]at hbad
        have:=hty b (bG _ h1)
        have hne:aL J R r=none:=by unfold aL;rw[hk]
        rw[hne]at hn
        have:=aw0 p hpt (by rw[hg];rfl) hn
        simp at this
       ·unfold aL at ew;rw[hk]at ew;simp at ew
      |dead=>have:=hr.2;simp[Root.cu,hk]at this
    |cons e l=>
     rw[hpt,Zn]at hl
     have:(e :: l).getLast?.getD R.bt∈(e :: l):=by
      rw[List.getLast?_eq_some_getLast (by simp)]
      exact List.getLast_mem _
     exact hbad _ (by rw[hpt];exact this) hl
   have hc':cO (aO Z r R') (bz kM kk) tV=true:=by
    rw[wW]
    intro tg eD
    by_cases e:tg.1=r
    ·refine .inr ⟨R',by rw[e];exact fQ ..,hRd,?_⟩
     rw[wW]at hc
     rcases hc tg eD with h|⟨Q,h1,h2,h3⟩
     ·rw[e,hnt.2.1]at h;simp at h
     ·rw[e,hr.1]at h1
      simp only[ak]at h1
      subst h1
      rw[Sv]
      refine(Aq ?_).2 ⟨λt ht=>?_,h3⟩
      ·rcases hh.wt tg eD with h|⟨Q,q1,q2⟩
       ·rw[e,hnt.2.1]at h;simp at h
       ·rw[e,hr.1]at q1
        simp only[ak]at q1
        subst q1
        rcases q2 with q2|q2
        ·rw[hr.2]at q2;simp at q2
        ·exact q2
      ·simp only[gY]at ht
       subst ht
       exact apG tg.2 (by rw[<-e];exact eD)
    ·have h2:=hval.2
     rw[hRt,wW]at h2
     rcases h2 tg (kY.2 (.inl (xG.2 ⟨eD,e⟩)))with h|⟨Q,h3,h4,h5⟩
     ·exact .inl h
     ·refine .inr ⟨Q,h3,h4,?_⟩
      unfold clean at h5 ⊢
      rw[dV]at h5 ⊢
      intro x hx
      have:=h5 x hx
      simp only[jN,gF]at this ⊢
      exact λh=>this (aqd x h)
   obtain⟨_,hV,_⟩:=Tn.views H tV (bz kM kk) hh.wt hc'
   have hsame:∀b',b'≠b->hp (w.setCells b o wX) b'=hp w b':=s1
   refine dR ?_ ?_ (λb' hb'=>hsame b' (λe=>lJ (e▸hh.sub b' (hft b' hb')))) Hg
   ·rintro b' (⟨h1,h2⟩|h)
    ·exact(hV b' h1 (.inl h2)).2
    ·exact hsame b' (λe=>lJ (e▸hh.sub b' (SK b' h)))
   ·rintro b' (⟨h1,h2⟩|h)
    ·obtain⟨g1,g2,g3,g4,g5⟩:=(hV b' h1 (.inl h2)).1
     refine⟨g1,g2,g3,λq Q hq hbq=>?_,λh0=>?_⟩
     ·obtain⟨n,hn1⟩:=g4 q Q hq hbq
      by_cases e:q=r
      ·exfalso
       subst e
       obtain⟨rfl,_⟩:=nY hq
       obtain⟨tt,ht1,ht2⟩:=h2
       have ag8:∀e,mine cx w b'->iH (hp w) b'=some e->ay e (eF R.own (bz kM kk))=true->False:=by
        intro e hmn he hm
        have ht2:=H.BZ hmn ht2
        rw[ht2]at he
        simp only[ak]at he
        subst he
        exact(oM.1 hm).2 ht1
       rcases hblk b' hbq with⟨o',h⟩|h|h
       ·unfold Pd at DT
        rw[og]at DT
        rcases DT with h3|h3
        ·have:=dV.1 h3 _ hn1
         simp at this
        ·cases hk:R.kind with
         |var tv=>
          rw[hk]at h3
          simp only at h3
          rw[jN,gF]at h3
          obtain⟨_,ayY,e2,lo2,hi2,f1,_,_,f4⟩:=K0.mem b' o' h
          have ht2:=H.BZ (K0.mine b' (by unfold blk;rw[h];exact jE)) ht2
          unfold iH at ht2
          rw[f1]at ht2
          simp only[ak]at ht2
          exact h3 (by rw[<-f4 tv hk,ht2];exact ht1)
         |par=>rw[hk]at h3;simp at h3
         |anon=>unfold aL at h;rw[hk]at h;simp at h
         |dead=>have:=hr.2;simp[Root.cu,hk]at this
       ·obtain⟨e,_,h3,h4⟩:=apx b' h
        exact ag8 e (H.fl b' (hh.sub b' (hft b' h))) h4 h3
       ·obtain⟨e,_,h3,h4⟩:=hty b' (bG _ h)
        exact ag8 e (K0.mine b' (bG _ (hpf.mem_iff.2 (by simp[h])))) h4 h3
      ·exact⟨n,kY.2 (.inl (xG.2 ⟨hn1,e⟩))⟩
     ·rcases g5 h0 with⟨j,n,h3,h4⟩|h3
      ·refine .inl ⟨j,n,kY.2 (.inl (xG.2 ⟨h3,?_⟩)),h4⟩
       intro e
       have:=hnt.2.1
       rw[<-e]at this
       simp only at this
       rw[uG]at this
       simp at this
      ·exact .inr h3
    ·have Hq:=hh.sub b' (SK b' h)
     have hm:=H.fl b' Hq
     refine⟨by have:=hm.1;omega,λh2=>((hF' b').1 h2).2 (SK b' h),zP H Hq,λq Q hq hbq=>?_,λh0=>?_⟩
     ·exfalso
      rcases uM hq with⟨rfl,rfl,_⟩|⟨e,hq'⟩
      ·rcases hblk b' hbq with⟨o',h2⟩|h2|h2
       ·exact H.dU _ _ hr b' (by rw[jd,lN];exact .inl ⟨o',h2⟩) Hq
       ·exact(dJ.1 abU).2.2 b' h2 b' h rfl
       ·exact H.dU _ _ hr b' (by rw[jd,lN,hpf.mem_iff];exact .inr (by simp[h2])) Hq
      ·obtain⟨Q2,g1,g2⟩:=Tn.old q Q hq'.1
       have hns:Same Z J (aO Z r R') J' q:=by
        refine j6 λhns=>?_
        rcases g2 with⟨h1,h2⟩|⟨_,h2⟩
        ·rw[jA Z R' e]at g1
         rw[hq'.1]at g1
         simp only[ak]at g1
         subst g1
         rw[hq'.2]at h1
         simp at h1
        ·rcases h2.2.2.2.2.2.2 with h3|⟨_,_,h3⟩
         ·rw[tC _ e,tC _ e]at h3
          simp at h3
         ·exact hns h3
       rw[hns.blk]at hbq
       exact H.dU _ _ hq' b' hbq Hq
     ·rcases hm.2 with h|⟨j,pi,h1,h2⟩
      ·omega
      ·exact .inr ⟨j,pi,h1,h2⟩
end
end
section
open Go
variable [Fr]
theorem oK(d c:Nat):fV (aK d c)=false:=by
 unfold fV aK
 have:(4*(8*d+c)+2)%4=2:=by omega
 rw[this];rfl
section
variable {cx:Cx}{Z:St}{J:aJ}{F:List Nat}{a:Act}{w:World}{r:Nat}
theorem aiJ{T:List Tag}(h:fI Z T)(hn:Z.roots r=none)(hx:fV r=false):∀n,(r,n)∉T:=by
 intro n hn2
 rcases h _ hn2 with h|⟨Q,h,_⟩
 ·simp only at h;rw[hx]at h;simp at h
 ·simp only at h;rw[hn]at h;simp at h
theorem CU(H:Rel cx Z J F a w)(hn:Z.roots r=none)(hx:fV r=false){R':Root}(hd:R'.cu=false)(hk:R'.kind≠.par)(pG:fI Z R'.tags)(loc:Nat×Nat)(hdr':List Value)(bH F':List Nat)
  (hblk:∀b∈iV R' loc bH,b∈F/\b∉F') (hnd:(iV R' loc bH).Nodup) (hF':∀b∈F',b∈F) (G_:F'.Nodup)
  (how:cO Z R'.pO R'.tags=true->Ow (hp w) R'.own (λb=>aN cx Z J F w R'.tags b\/(b∈F/\b∉F'/\b∉iV R' loc bH)) R'.k R'.x hdr' bH) (hlen:hdr'.length=R'.k.size)
  (hmem:∀b o,lQ R' loc=some (b,o)->Cells (hp w) b o hdr'/\∃arr e lo hi,hp w b=some (.cells arr e (lo,hi))/\iU arr.size lo hi/\o+R'.k.size<=arr.size/\(∀t,R'.kind=.var t->e=t)) :
  Rel cx (aO Z r R') (bn J r loc hdr' bH) F' a w/\gQ cx Z J F w (aO Z r R') (bn J r loc hdr' bH) F' w (jY r []) (jY r []):=by
 have hns:∀{q:Nat},¬Same Z J (aO Z r R') (bn J r loc hdr' bH) q->q=r:=λ{q} h=>j6 λe=>h (kR e)
 have hold:∀{q Q},Z.roots q=some Q->q≠r:=λ{q Q} h e=>by rw[e,hn]at h;simp at h
 have T:gQ cx Z J F w (aO Z r R') (bn J r loc hdr' bH) F' w (jY r []) (jY r []):=by
  refine⟨rfl,⟨rfl,rfl,rfl⟩,bZ _,?_,?_,?_,λb _ h=>absurd rfl h,?_,G_,?_,?_,λ_ _ _ _ _ _ _ h=>absurd rfl h,λq Q Q' h1 h2 _=>by rw[jA Z R' (hold h1),h1]at h2;simp only[ak]at h2;subst h2;exact⟨rfl,rfl⟩⟩
  ·intro q Q hQ
   have e:=hold hQ
   refine⟨Q,by rw[jA Z R' e];exact hQ,?_⟩
   cases hd:Q.cu with
   |true=>exact .inl ⟨rfl,by intro hk;simp[Root.cu,hk]at hd⟩
   |false=>exact .inr ⟨rfl,by rw[tC _ e];rfl,by rw[tC _ e];rfl,bZ _,rfl,by simp[bn,upd_ne _ _ e],λ_=>rfl,.inr ⟨tC _ e,tC _ e,kR e⟩⟩
  ·intro q Q hQ hs
   have e:=hns hs
   subst e
   rw[fQ]at hQ
   simp only[ak]at hQ
   subst hQ
   refine⟨λt ht=>?_,hx,aiJ pG hn hx⟩
   have hne:t.1≠q:=λe=>aiJ pG hn hx t.2 (by rw[<-e];exact ht)
   rcases pG t ht with h|⟨Q,h1,h2⟩
   ·exact .inl h
   ·exact .inr ⟨Q,by rw[jA Z R' hne];exact h1,h2⟩
  ·intro q Q hq hQ
   by_cases e:q=r
   ·subst e
    rw[fQ]at hQ
    simp only[ak]at hQ
    subst hQ
    exact hk
   ·rw[jA Z R' e,hq]at hQ;simp at hQ
  ·rintro b (⟨q,Q,hq,hb,hno⟩|hb)
   ·rcases uM hq with⟨rfl,rfl,_⟩|⟨e,hq'⟩
    ·rw[qc]at hb
     exact .inl (hblk b hb).1
    ·rw[(kR (J:=J) (Z:=Z) (R:=R') e).blk]at hb
     exact absurd ⟨Q,hq',hb⟩ hno
   ·exact .inl (hF' b hb)
  ·intro q Q hq hs b hb
   have e:=hns hs
   subst e
   obtain⟨rfl,_⟩:=nY hq
   rw[qc]at hb
   exact(hblk b hb).2
  ·intro q Q q' Q' hq hq' hne hs hs'
   exact absurd ((hns hs).trans (hns hs').symm) hne
 refine⟨H.turn T ?_ ?_ ?_,T⟩
 ·intro q Q hq hs
  have e:=hns hs
  subst e
  obtain⟨rfl,_⟩:=nY hq
  refine⟨λhv=>?_,?_,?_,?_⟩
  ·have e1:(bn J q loc hdr' bH).hdr q=hdr':=by simp[bn,upd_same]
   have e2:(bn J q loc hdr' bH).fo q=bH:=by simp[bn,upd_same]
   rw[e1,e2]
   obtain⟨h1,h2,_⟩:=T.views H Q.tags _ pG hv.2
   refine dR (λ_ _=>rfl) ?_ (λ_ _=>rfl) (rC _ (λ_ h=>h) (how h1))
   rintro b ⟨hb|⟨g1,g2,g3⟩,hty⟩
   ·exact(h2 b hb (.inl hty)).1
   ·have hm:=H.fl b g1
    refine⟨hm.1,g2,zP H g1,λq' Q' hq' hb'=>?_,λh0=>?_⟩
    ·exfalso
     rcases uM hq' with⟨rfl,rfl,_⟩|⟨e,hq2⟩
     ·rw[qc]at hb';exact g3 hb'
     ·rw[(kR (J:=J) (Z:=Z) (R:=Q) e).blk]at hb'
      exact H.dU _ _ hq2 b hb' g1
    ·rcases hm.2 with h|⟨j,pi,h1,h2⟩
     ·omega
     ·exact .inr ⟨j,pi,h1,h2⟩
  ·simpa[bn,upd_same]using hlen
  ·intro b o hb
   rw[u6]at hb
   simpa[bn,upd_same]using hmem b o hb
  ·rw[qc];exact hnd
 ·intro q Q hq hs
  exact absurd (hns hs) (hold hq.1)
 ·intro q Q hq hs
  exact absurd (hns hs) (hold hq.1)
theorem qb{R:Root}(h:R.kind=.anon)(loc:Nat×Nat)(fo:List Nat):iV R loc fo=fo:=by simp[iV,h]
theorem C9{R:Root}{t:TypeId}(h:R.kind=.var t)(loc:Nat×Nat)(fo:List Nat):iV R loc fo=loc.1 :: fo:=by simp[iV,h]
theorem FK{R:Root}(h:R.kind=.anon)(loc:Nat×Nat):lQ R loc=none:=by simp[lQ,h]
theorem ai1{R:Root}{t:TypeId}(h:R.kind=.var t)(loc:Nat×Nat):lQ R loc=some loc:=by simp[lQ,h]
theorem ag1{k:K}{x:El k}{own:List TypeId}{tags:List Tag}{kp:Bool}{hdr:List Value}{fo F':List Nat}{loc:Nat×Nat}{v:Value}{w:World}(h:VC k v hdr) :
  aW cx (aO Z r (bU k x own tags .anon kp)) (bn J r loc hdr fo) F' w (.ref r 0) v:=by
 intro Q hQ _
 obtain⟨rfl,_⟩:=nY hQ
 refine⟨rfl,?_⟩
 simp only[bn,upd_same]
 exact h
theorem awW{k:K}{x:El k}{own:List TypeId}{tags:List Tag}{kp:Bool}{hdr:List Value}{fo F':List Nat}{b:Nat}{t:TypeId}{w:World} :
  aW cx (aO Z r (bU k x own tags (.var t) kp)) (bn J r (b,0) hdr fo) F' w (.ptr r [] 0) (.pointer (some ⟨b,0,none⟩)):=by
 refine⟨⟨b,0,rfl⟩,?_⟩
 intro Q hQ _ _ _ _
 rw[fQ]at hQ
 simp only[ak]at hQ
 subst hQ
 refine⟨trivial,hdr,b,0,?_,rfl⟩
 simp only[aR]
 rw[u6]
 simp[lQ,bU,bn,upd_same]
theorem awX{k:K}{x:El k}{own:List TypeId}{tags:List Tag}{kp:Bool}{hdr:List Value}{fo F':List Nat}{b o:Nat}{t:TypeId}{w:World} :
  aW cx (aO Z r (bU k x own tags (.var t) kp)) (bn J r (b,o) hdr fo) F' w (.ptr r [] 0) (.pointer (some ⟨b,o,none⟩)):=by
 refine⟨⟨b,o,rfl⟩,?_⟩
 intro Q hQ _ _ _ _
 rw[fQ]at hQ
 simp only[ak]at hQ
 subst hQ
 refine⟨trivial,hdr,b,o,?_,rfl⟩
 simp only[aR]
 rw[u6]
 simp[lQ,bU,bn,upd_same]
theorem FB{tk:dS}(h:fI Z tk.tags):fI Z tk.ig:=by
 unfold dS.ig
 split
 ·intro t ht;simp at ht
 ·exact h
theorem lU{h:Heap}{own:List TypeId}{ok ok':Nat->Prop}{k:K}{x:El k}{cs:List Value}{fo:List Nat}(hv:bz own k=[])(H:Ow h own ok k x cs fo):Ow h own ok' k x cs fo:=by
 refine dR (λ_ _=>rfl) (λb hb=>?_) (λ_ _=>rfl) (rC [] (by rw[hv];exact λ_ h=>h) H)
 obtain⟨_,t,ht,_⟩:=hb
 simp at ht
theorem Z8{P:Program}{tk:dS}{t:TypeId}{v:Value}{cs:List Value}{fo:List Nat}(H:Rel cx Z J F a w)(hn:Z.roots r=none)(hx:fV r=false)(hh:Held cx Z J F w tk.k tk.x tk.own tk.tags cs fo)
  (hc:cO Z (bz tk.own tk.k) tk.tags=true) (hv:VC tk.k v cs) (kp:Bool) :
  (Instr.box t v).run P w=.ok (.pointer (some ⟨w.heap.size,0,none⟩)) (w.alloc (.cells v.cells t))/\
   ∃J' F',Rel cx (aO Z r (bU tk.k tk.x tk.own tk.ig (.var t) kp)) J' F' a (w.alloc (.cells v.cells t))/\
    aW cx (aO Z r (bU tk.k tk.x tk.own tk.ig (.var t) kp)) J' F' (w.alloc (.cells v.cells t)) (.ptr r [] 0) (.pointer (some ⟨w.heap.size,0,none⟩)):=by
 refine⟨aie t v w,?_⟩
 have hcs:v.cells=cs.toArray:=by
  have:=hv.cells
  apply rW
  simpa using this
 rw[hcs]
 obtain⟨H1,T1⟩:=H.alloc (.cells cs.toArray t)
 have SV:=hh.turn H T1 (λb hb=>⟨Bc w _ (H.fl b (hh.sub b hb)).1,jD _ (hh.sub b hb)⟩)
 have hnew:hp (w.alloc (.cells cs.toArray t)) w.heap.size=some (.cells cs.toArray t (0,0)):=DI w _
 have lJ:w.heap.size∉F:=λh=>by have:=(H.fl _ h).1;omega
 have hbf:w.heap.size∉fo:=λh=>lJ (hh.sub _ h)
 have hk:(bU tk.k tk.x tk.own tk.ig (.var t) kp).kind=.var t:=rfl
 obtain⟨h1,h2⟩:=CU (R':=bU tk.k tk.x tk.own tk.ig (.var t) kp) H1 hn hx rfl (by simp[bU]) (FB SV.wt) (w.heap.size,0) cs fo (F.filter λb=>!ay b fo)
  (λb hb=>by
   rw[C9 hk]at hb
   rcases bM.1 hb with h|h
   ·simp only at h;subst h
    exact⟨jE,λh=>lJ (jg.1 h).1⟩
   ·refine⟨jD _ (hh.sub b h),λh2=>?_⟩
    have:=(jg.1 h2).2
    simp only[jN,gF]at this
    exact this h)
  (by rw[C9 hk];exact jO.2 ⟨hbf,hh.nd⟩)
  (λb hb=>jD _ (jg.1 hb).1) (H.gL.filter _)
  (λhcl=>by
   show Ow _ tk.own _ tk.k tk.x cs fo
   cases hb:tk.bad with
   |nil=>exact lU hb (SV.ow hc)
   |cons t0 l=>
    have et:(bU tk.k tk.x tk.own tk.ig (.var t) kp).tags=tk.tags:=by
     show tk.ig=tk.tags
     unfold dS.ig
     rw[hb]
    rw[et]at hcl ⊢
    exact dR (λ_ _=>rfl) (λb h=>.inl h) (λ_ _=>rfl) (SV.ow hcl)) hh.len
  (λb o hb=>by
   rw[ai1 hk]at hb
   simp only[ak,bS]at hb
   obtain⟨rfl,rfl⟩:=hb
   refine⟨λi hi=>?_,cs.toArray,t,0,0,hnew,iU.zero,?_,λt' ht'=>?_⟩
   ·unfold cellAt
    rw[hnew]
    simp
   ·show 0+tk.k.size<=_
    simp[hh.len]
   ·have:yl.var t=yl.var t':=ht'
    simpa using this)
 exact⟨_,_,h1,awW⟩
theorem ZM{k:K}{x:El k}{own:List TypeId}{tags:List Tag}{v:Value}{cs:List Value}{fo:List Nat}(H:Rel cx Z J F a w)(hn:Z.roots r=none)(hx:fV r=false)
  (hsub:∀b∈fo,b∈F) (hnd:fo.Nodup) (hwt:fI Z tags) {F':List Nat} (hF':∀b∈F',b∈F/\b∉fo) (G_:F'.Nodup) (hlen:cs.length=k.size)
  (how:cO Z (bz own k) tags=true->Ow (hp w) own (λb=>aN cx Z J F w tags b\/(b∈F/\b∉F'/\b∉fo)) k x cs fo) (hv:VC k v cs) (kp:Bool) :
  Rel cx (aO Z r (bU k x own tags .anon kp)) (bn J r (0,0) cs fo) F' a w/\aW cx (aO Z r (bU k x own tags .anon kp)) (bn J r (0,0) cs fo) F' w (.ref r 0) v:=by
 have hk:(bU k x own tags .anon kp).kind=.anon:=rfl
 obtain⟨h1,h2⟩:=CU (R':=bU k x own tags .anon kp) H hn hx rfl (by simp[bU]) hwt (0,0) cs fo F'
  (λb hb=>by rw[qb hk]at hb;exact⟨hsub b hb,λh=>(hF' b h).2 hb⟩) (by rw[qb hk];exact hnd) (λb hb=>(hF' b hb).1) G_
  (λhc=>by rw[qb hk];exact how hc) hlen (λb o hb=>by rw[FK hk]at hb;simp at hb)
 exact⟨h1,ag1 hv⟩
theorem CV{k:K}{x:El k}{own:List TypeId}{tags:List Tag}{v:Value}{cs:List Value}{fo:List Nat}(H:Rel cx Z J F a w)(hn:Z.roots r=none)(hx:fV r=false)
  (hsub:∀b∈fo,b∈F) (hnd:fo.Nodup) (hwt:fI Z tags) {F':List Nat} (hF':∀b∈F',b∈F/\b∉fo) (G_:F'.Nodup) (hlen:cs.length=k.size)
  (how:cO Z (bz own k) tags=true->Ow (hp w) own (λb=>aN cx Z J F w tags b\/(b∈F/\b∉F'/\b∉fo)) k x cs fo) (hv:VC k v cs) (kp:Bool) :
  ∃J',Rel cx (aO Z r (bU k x own tags .anon kp)) J' F' a w/\aW cx (aO Z r (bU k x own tags .anon kp)) J' F' w (.ref r 0) v:=
 ⟨_,ZM H hn hx hsub hnd hwt hF' G_ hlen how hv kp⟩
end
end
section
open Go
variable [Fr]
def dG(P:Program)(cx:Cx)(o:Oper)(a:Act)(w:World)(Z':St):Prop:=
 ∃v w' J' F',((execOp a.eval o).run P w=.ok (.value v) w'\/((execOp a.eval o).run P w=.ok .skip w'/\v=undef))/\Rel cx Z' J' F' (a.put o.dst v) w'
theorem dG.wp{P:Program}{cx:Cx}{o:Oper}{a:Act}{w:World}{Z':St}(h:dG P cx o a w Z'){K:Act->World->Prop}{Q:Exit->Act->World->Prop}
  (hK:∀J' F' a' w',Rel cx Z' J' F' a' w'->K a' w'):o.wp P a w K Q:=by
 obtain⟨v,w',J',F',h|⟨h,rfl⟩,h2⟩:=h
 ·unfold Oper.wp;rw[h];exact hK _ _ _ _ h2
 ·unfold Oper.wp;rw[h];exact hK _ _ _ _ h2
section
variable {P:Program}{T:bK}{cx:Cx}{Z:St}{J:aJ}{F:List Nat}{a:Act}{w:World}{o:Oper}{d:Nat}{ws:List Wr}
theorem fq(H:Rel cx Z J F a w)(hd:o.dst=some d)(hdn:d<cx.nt){x:f_}{v:Value}(hrun:(execOp a.eval o).run P w=.ok (.value v) w)(hx:iZ cx Z J F w x v)(hw:mZ Z x) :
  dG P cx o a w (aF [.s d x] Z):=by
 refine⟨v,w,J,F,.inl hrun,?_⟩
 rw[hd]
 exact H.put hdn hw hx
theorem nR{Z1:St}{a_:aJ}{F1:List Nat}{w1:World}(H:Rel cx Z1 a_ F1 a w1)(hd:o.dst=some d)(hdn:d<cx.nt){x:f_}{v:Value}(hrun:(execOp a.eval o).run P w=.ok (.value v) w1)(hx:iZ cx Z1 a_ F1 w1 x v)(hw:mZ Z1 x) :
  dG P cx o a w (aF [.s d x] Z1):=by
 refine⟨v,w1,a_,F1,.inl hrun,?_⟩
 rw[hd]
 exact H.put hdn hw hx
theorem oF{A:Type}{z:A}{r:Nat}{k:Prog A}(h:(jS r k).ends Z z):Z.roots r=none/\k.ends Z z:=by
 unfold jS at h
 simp only[Prog.ends]at h
 cases hr:Z.roots r with
 |none=>rw[hr]at h;exact⟨rfl,h⟩
 |some R=>rw[hr]at h;exact h.elim
theorem bC{A:Type}{z x:A}(h:(Prog.ret x).ends Z z):z=x:=h
theorem anr(H:Rel cx Z J F a w)(hd:o.dst=some d)(hdn:d<cx.nt){x:Operand}(ho:o.op=.move x)(h:(sN x λv=>(.ret [.s d v]:Prog (List Wr))).ends Z ws):dG P cx o a w (aF ws Z):=by
 obtain⟨v,h1,h2,h3⟩:=Di H h
 rw[bC h3]
 exact fq H hd hdn (by simp[execOp,ho]) h1 h2
theorem dz.sl{t:TypeId}{e:TypeId}{k:K}(h:dz P T t (.sl e k)):P.underlying t=some (.slice e)/\dz P T e k/\0<k.size/\∃i,P.info? e=some i/\i.bytes=T.bytes e/\0<i.bytes:=by
 unfold dz jc at h
 exact⟨h.1,h.2.2.1,h.2.2.2.1,h.2.2.2.2⟩
theorem JX{e:TypeId}{k:K}{c:Option Addr}{own:List TypeId}{ok:Nat->Prop}{h:Heap}:Ow h own ok (.sl e k) ([]:List (El k)) [.slice c 0 0] []:=by
 unfold Ow
 split
 ·exact⟨c,0,0,rfl,rfl,bZ _,.inl ⟨rfl,rfl⟩⟩
 ·exact⟨rfl,c,0,0,rfl,rfl,bZ _,λh=>by omega⟩
theorem am5{L:K->List TypeId}(H:Rel cx Z J F a w)(hd:o.dst=some d)(hdn:d<cx.nt){x:Operand}(ho:o.op=.assign x)
  (h:(sN x fun
   |.one .eX=>match T.ty o.type with
    |some (.sl e kk)=>.root (aK d 0) fun
     |none=>.ret [.r (aK d 0) (some (bU (.sl e kk) [] (e :: L kk) [] .anon)),.s d (.one (.ref (aK d 0) 0))]
     |some _=>.ret [.s d (.one .eX)]
    |_=>.fail
   |v=>(.ret [.s d v]:Prog (List Wr))).ends Z ws):dG P cx o a w (aF ws Z):=by
 obtain⟨v,h1,h2,h3⟩:=Di H h
 have hrun:(execOp a.eval o).run P w=.ok (.value (a.eval x)) w:=by simp[execOp,ho]
 have key:ws=[.s d v]->dG P cx o a w (aF ws Z):=λe=>by rw[e];exact fq H hd hdn hrun h1 h2
 cases v with
 |mQ l=>exact key (bC h3)
 |lit _ _ _=>exact key (bC h3)
 |one v=>
  cases v with
  |eX=>
   have h1':=h1
   obtain⟨c,hc⟩:=h1
   simp only at h3
   split at h3
   ·rename_i e kk hty
    simp only[Prog.ends]at h3
    cases g1:Z.roots (aK d 0)with
    |some Q=>
     rw[g1]at h3
     exact key (bC h3)
    |none=>
    rw[g1]at h3
    have g2:=h3
    rw[bC g2]
    obtain⟨J',k1,k2⟩:=CV (k:=.sl e kk) (x:=([]:List (El kk))) (own:=e :: L kk) (tags:=[]) (v:=a.eval x) (cs:=[.slice c 0 0]) (fo:=[]) (r:=aK d 0) (F':=F) H g1 (oK d 0) (λb hb=>by simp at hb) mq (λt ht=>by simp at ht)
     (λb hb=>⟨hb,by simp⟩) H.gL rfl (λ_=>JX) (by rw[hc];exact Pf) false
    exact nR (x:=.one (.ref (aK d 0) 0)) k1 hd hdn hrun k2 ⟨_,fQ ..,.inr (dW _)⟩
   ·exact h3.elim
  |_=>exact key (bC h3)
theorem anw(H:Rel cx Z J F a w)(hd:o.dst=some d)(hdn:d<cx.nt){c x y:Operand}(ho:o.op=.pick c x y)
  (h:(dY c λc=>asBool c λc=>sN x λv=>sN y λu=>.br c (.ret [.s d v]) ((.ret [.s d u]):Prog (List Wr))).ends Z ws):dG P cx o a w (aF ws Z):=by
 obtain⟨vc,h1,_,h⟩:=jh H h
 obtain⟨b,h2,h⟩:=ZX h1 h
 obtain⟨v,h3,h4,h⟩:=Di H h
 obtain⟨u,h5,h6,h⟩:=Di H h
 rcases h with⟨hb,h⟩|⟨hb,h⟩
 ·rw[bC h]
  exact fq H hd hdn (by simp[execOp,ho,h2,hb,Go.asBool]) h3 h4
 ·rw[bC h]
  exact fq H hd hdn (by simp[execOp,ho,h2,hb,Go.asBool]) h5 h6
theorem dz.shape{t:TypeId}{k:K}(h:dz P T t k):(∀a b,k≠.pair a b)/\k≠.unit/\∀n,k≠.gap n:=by
 unfold dz jc at h
 refine⟨λa b e=>?_,λe=>?_,λn e=>?_⟩<;>subst e<;>exact h.elim
theorem oQ{own:List TypeId}{k:K}(h:∀t∈k.tys,ay t own=true):bz own k=[]:=by
 cases he:bz own k with
 |nil=>rfl
 |cons t l=>
  exfalso
  have key:∀(k:K),(∀t∈k.tys,ay t own=true)->∀t,t∉bz own k:=by
   intro k
   induction k with
   |sl e k ih=>
    intro h t ht
    simp only[bz,h e (by simp[K.tys]),fT]at ht
    exact ih (λt ht=>h t (by simp[K.tys,ht])) t ht
   |pair a b iha ihb=>
    intro h t ht
    simp only[bz,dh]at ht
    rcases ht with ht|ht
    ·exact iha (λt ht=>h t (by simp[K.tys,ht])) t ht
    ·exact ihb (λt ht=>h t (by simp[K.tys,ht])) t ht
   |st f ih=>intro h t ht;exact ih h t ht
   |_=>intro _ t ht;simp[bz]at ht
  exact key k h t (by rw[he];simp)
theorem awS{l:List Nat}:∀t∈l,ay t l=true:=λt ht=>fF.2 ht
theorem am1(hT:eU P T)(H:Rel cx Z J F a w)(hd:o.dst=some d)(hdn:d<cx.nt){t:TypeId}(ho:o.op=.alloc t)
  (h:(match T.ty t with
   |some kk=>jS (aK d 0) (.ret [Wr.r (aK d 0) (some (bU kk kk.zero kk.tys [] (.var t))),Wr.s d (.one (.ptr (aK d 0) [] 0))])
   |none=>(.fail:Prog (List Wr))).ends Z ws):dG P cx o a w (aF ws Z):=by
 split at h
 ·rename_i kk hty
  have ht:=hT.ty t kk hty
  obtain⟨g1,g2⟩:=oF h
  rw[bC g2]
  obtain⟨s1,s2,s3⟩:=ht.shape
  have hz:Ow (hp w) kk.tys (aN cx Z J F w []) kk kk.zero (dO kk) []:=Kn ht.fD awS
  obtain⟨k0,J',F',k1,k2⟩:=Z8 (P:=P) (tk:=⟨kk,kk.zero,kk.tys,[],[],false⟩) (t:=t) (v:=iY kk) (cs:=dO kk) (fo:=[]) (r:=aK d 0) H g1 (oK d 0)
   ⟨λ_=>hz,λt ht=>by simp at ht,λb hb=>by simp at hb,mq,eY hz⟩ rfl (ai5 s1 s2 s3) false
  have e0:(dS.ig ⟨kk,kk.zero,kk.tys,[],[],false⟩)=[]:=by unfold dS.ig;split<;>rfl
  rw[e0]at k1 k2
  exact nR (x:=.one (.ptr (aK d 0) [] 0)) k1 hd hdn (by
   have:=axY (P:=P) ht w
   simp only[execOp,ho,dH,this,eZ,eH]) k2 ⟨_,fQ ..,.inr (dW _)⟩
 ·exact h.elim
theorem ant(H:Rel cx Z J F a w)(hd:o.dst=some d)(hdn:d<cx.nt){x:Operand}(ho:o.op=.nilCheck x)
  (h:(dY x fun
   |.ptr r p h=>.ret [.s d (.one (.ptr r p h))]
   |.fC bt kk y tags=>.ret [.s d (.one (.fC bt kk y tags))]
   |_=>(.fail:Prog (List Wr))).ends Z ws):dG P cx o a w (aF ws Z):=by
 obtain⟨v,h1,h2,h⟩:=jh H h
 cases v with
 |ptr r p n=>
  rw[bC h]
  obtain⟨b,q,hv⟩:=h1.1
  exact fq (v:=a.eval x) H hd hdn (by simp[execOp,ho,hv]) h1 h2
 |fC bt kk y tags=>
  rw[bC h]
  obtain⟨b,q,hv⟩:=h1.1
  exact fq (v:=a.eval x) H hd hdn (by simp[execOp,ho,hv]) h1 h2
 |_=>exact h.elim
end
end
end Go.Proofs.YtgppmpedglhhfaaGreatDoor.Ow
