/- A verified reading of translated code, part B of 7. No condition. -/
import Derived.Test.YtgppmpedglhhfaaGreatDoorOwA
set_option linter.unusedSectionVars false
set_option linter.unusedVariables false
set_option linter.unusedSimpArgs false
namespace Go.Proofs.YtgppmpedglhhfaaGreatDoor.Ow
section
open Go
variable [Fr]
theorem upd_same{A:Type}(f:Nat->A)(n:Nat)(v:A):upd f n v n=v:=by simp[upd]
theorem upd_ne{A:Type}(f:Nat->A){n m:Nat}(v:A)(h:m≠n):upd f n v m=f m:=by
 unfold upd
 cases h':Nat.beq m n with
 |true=>exact absurd (a_ h') h
 |false=>rfl
structure Same(Z:St)(J:aF)(Z':St)(J':aF)(r:Nat):Prop where
 root:Z'.roots r=Z.roots r
 loc:J'.loc r=J.loc r
 hdr:J'.hdr r=J.hdr r
 fo:J'.fo r=J.fo r
theorem Same.wh{Z Z':St}{J J':aF}{r:Nat}(h:Same Z J Z' J' r)(R:Root):aK J' R r=aK J R r:=by unfold aK;rw[h.loc]
theorem Same.blk{Z Z':St}{J J':aF}{r:Nat}(h:Same Z J Z' J' r)(R:Root):blk J' R r=blk J R r:=by unfold Ow.blk;rw[h.wh,h.fo]
theorem Same.live{Z Z':St}{J J':aF}{r:Nat}(h:Same Z J Z' J' r)(R:Root):aU Z' r R↔aU Z r R:=by unfold aU;rw[h.root]
def Stepped(Z:St)(J:aF)(Z':St)(J':aF)(lw lh:Nat->List Nat)(r:Nat)(R R':Root):Prop:=
 R'.w=lw r++R.w/\R'.h=lh r++R.h/\R.g<=R'.g/\R'.kind=R.kind/\J'.loc r=J.loc r/\(R.kind=.par->R'.k.size=R.k.size)/\((lw r≠[]\/lh r≠[])\/(lw r=[]/\lh r=[]/\Same Z J Z' J' r))
def Loose(cx:Cx)(Z':St)(lw:Nat->List Nat)(w:World)(r b:Nat):Prop:=
 (∀R',Z'.roots r=some R'->R'.bV=true)\/(∃e∈lw r,h_ (hp w) b=some e)\/(kV cx b/\lw r≠[])
structure gL(cx:Cx)(Z:St)(J:aF)(F:List Nat)(w:World)(Z':St)(J':aF)(F':List Nat)(w':World)(lw lh:Nat->List Nat):Prop where
 slots:Z'.slots=Z.slots
 os:w'.os=w.os/\w'.tape=w.tape/\w'.output=w.output
 size:w.heap.size<=w'.heap.size
 old:∀r R,Z.roots r=some R->∃R',Z'.roots r=some R'/\((R'.bV=true/\R.kind≠.par)\/(R.bV=false/\Stepped Z J Z' J' lw lh r R R'))
 wr:∀r R',Z'.roots r=some R'->¬Same Z J Z' J' r->fC Z' R'.tags/\fO r=false/\(∀n,(r,n)∉R'.tags)
 Y_:∀r R',Z.roots r=none->Z'.roots r=some R'->R'.kind≠.par
 oF:∀b,b<w.heap.size->hp w' b≠hp w b->b∈F\/∃r R,aU Z r R/\b∈blk J R r/\Loose cx Z' lw w r b
 new:∀b,((∃r R',aU Z' r R'/\b∈blk J' R' r/\¬∃R,aU Z r R/\b∈blk J R r)\/b∈F')->b∈F\/(w.heap.size<=b/\b<w'.heap.size)\/∃r R,aU Z r R/\b∈blk J R r/\Loose cx Z' lw w r b
 gD:F'.Nodup
 dM:∀r R',aU Z' r R'->¬Same Z J Z' J' r->∀b∈blk J' R' r,b∉F'
 jc:∀r R r' R',aU Z' r R->aU Z' r' R'->r≠r'->¬Same Z J Z' J' r->¬Same Z J Z' J' r'->∀b∈blk J' R r,b∉blk J' R' r'
 base:∀j pi b o n,cx.par j=some pi->pi.base=some (b,o,n)->hp w' b≠hp w b->j_ (hp cx.w0) (hp w') b o n
 ev:∀r R R',Z.roots r=some R->Z'.roots r=some R'->R'.bV=false->R'.ew=R.ew/\R'.eh=R.eh
section
variable {cx:Cx}{Z:St}{J:aF}{F:List Nat}{a:Act}{w:World}{Z':St}{J':aF}{F':List Nat}{w':World}{lw lh:Nat->List Nat}
theorem gL.tag(T:gL cx Z J F w Z' J' F' w' lw lh){t:Tag}(h:pO Z t):pO Z' t:=by
 rcases h with h|⟨R,h1,h2⟩
 ·exact .inl h
 ·obtain⟨R',g1,g2⟩:=T.old _ R h1
  refine .inr ⟨R',g1,?_⟩
  rcases g2 with⟨g2,_⟩|⟨gd,g2,_⟩
  ·exact .inl g2
  ·rcases h2 with h2|h2
   ·rw[gd]at h2;simp at h2
   ·right
    rw[g2]
    simp only[nY,d_]at h2 ⊢
    omega
theorem gL.dB(T:gL cx Z J F w Z' J' F' w' lw lh){x:AV}(h:dB Z x):dB Z' x:=by
 have key:∀(q:Nat) (f:Root->Nat) (n:Nat),(∀R R',Stepped Z J Z' J' lw lh q R R'->f R<=f R')->(∃Q,Z.roots q=some Q/\(Q.bV=true\/n<=f Q))->∃Q,Z'.roots q=some Q/\(Q.bV=true\/n<=f Q):=by
  intro q f n hf ⟨Q,h1,h2⟩
  obtain⟨R',g1,g2⟩:=T.old _ Q h1
  refine⟨R',g1,?_⟩
  rcases g2 with⟨g2,_⟩|⟨gd,g2⟩
  ·exact .inl g2
  ·rcases h2 with h2|h2
   ·rw[gd]at h2;simp at h2
   ·exact .inr (ve h2 (hf _ _ g2))
 cases x with
 |undef=>trivial
 |val k x Tg=>exact λt ht=>T.tag (h t ht)
 |eH=>trivial
 |ref q g=>exact key q (·.g) g (λR R' h=>h.2.2.1) h
 |ko q g k p=>exact key q (·.g) g (λR R' h=>h.2.2.1) h
 |dJ q p n=>exact key q Root.dF n (λR R' h=>by simp only[Root.dF,h.1,h.2.1,nY,d_];omega) h
 |ptr q p n=>exact key q (λR=>dz R.h) n (λR R' h=>by simp only[h.2.1,nY,d_];omega) h
 |eY bt k x Tg=>exact λt ht=>T.tag (h t ht)
 |iI=>trivial
 |nG _=>trivial
 |part q g _ _ _=>exact key q (·.g) g (λR R' h=>h.2.2.1) h
 |lH q p n _=>exact key q Root.dF n (λR R' h=>by simp only[Root.dF,h.1,h.2.1,nY,d_];omega) h
 |sub q p n _ _ _=>exact key q Root.dF n (λR R' h=>by simp only[Root.dF,h.1,h.2.1,nY,d_];omega) h
 |sel q p n q2 _ _=>
  refine⟨key q Root.dF n (λR R' h=>by simp only[Root.dF,h.1,h.2.1,nY,d_];omega) h.1,?_⟩
  obtain⟨R,hR⟩:=h.2
  obtain⟨R',g1,_⟩:=T.old _ R hR
  exact⟨R',g1⟩
 |app q p n q2=>
  refine⟨key q Root.dF n (λR R' h=>by simp only[Root.dF,h.1,h.2.1,nY,d_];omega) h.1,?_⟩
  obtain⟨R,hR⟩:=h.2
  obtain⟨R',g1,_⟩:=T.old _ R hR
  exact⟨R',g1⟩
 |fn f cs=>exact λc hc t ht=>T.tag (h c hc t ht)
theorem gL.mG(T:gL cx Z J F w Z' J' F' w' lw lh){x:fQ}(h:mG Z x):mG Z' x:=by
 cases x with
 |one a=>exact T.dB h
 |mg l=>exact λa ha=>T.dB (h a ha)
 |lit _ _ l=>exact λa ha=>T.dB (h a ha)
theorem gL.held(H:Rel cx Z J F a w)(T:gL cx Z J F w Z' J' F' w' lw lh){Tg:List Tag}{tys:List TypeId}(hw:fC Z Tg)(hc:cu Z' tys Tg=true){r n b:Nat}{R:Root}(hr:aU Z r R)(hn:(r,n)∈Tg)(hbr:b∈blk J R r)
  (hty:(∃t∈tys,kr (hp w) b t)/\¬kV cx b\/∀t∈Tg,fO t.1=true):clean R.w n tys=true/\¬Loose cx Z' lw w r b:=by
 have hnr:fO r=false:=(H.fu r R hr.1).2.1
 rw[vG]at hc
 rcases hc (r,n) hn with h|⟨Q,h1,h2,h3⟩
 ·simp only at h;rw[hnr]at h;simp at h
 ·obtain⟨R',g1,g2⟩:=T.old _ R hr.1
  simp only at h1 h3
  rw[g1]at h1
  simp only[aa]at h1
  subst h1
  rcases g2 with⟨g2,_⟩|⟨gd,g2,_⟩
  ·rw[h2]at g2;simp at g2
  ·have hb:n<=dz R.w:=by
    rcases hw (r,n) hn with h|⟨Q,q1,q2⟩
    ·simp only at h;rw[hnr]at h;simp at h
    ·simp only at q1 q2
     rw[hr.1]at q1
     simp only[aa]at q1
     subst q1
     rcases q2 with q2|q2
     ·rw[hr.2]at q2;simp at q2
     ·exact q2
   rw[g2,yS hb]at h3
   refine⟨h3.2,?_⟩
   rintro(hx|⟨e,he,hel⟩|⟨hx,_⟩)
   rotate_left 2
   ·rcases hty with⟨_,hnb⟩|hty
    ·exact hnb hx
    ·have:=hty (r,n) hn
     simp only at this
     rw[hnr]at this
     simp at this
   ·have:=hx R' g1
    rw[h2]at this
    simp at this
   ·rcases hty with⟨⟨t,ht,DW⟩,_⟩|hty
    ·have DW:=H.zR ((H.roots r R hr).mine b hbr) DW
     rw[hel]at DW
     simp only[aa]at DW
     subst DW
     exact h3.1 e he ht
    ·have:=hty (r,n) hn
     simp only at this
     rw[hnr]at this
     simp at this
theorem gL.views(H:Rel cx Z J F a w)(T:gL cx Z J F w Z' J' F' w' lw lh):Views cx Z J F w Z' J' F' w':=by
 intro Tg tys hw hc
 refine⟨?_,?_⟩
 ·rw[vG]
  intro t ht
  have hc':=vG.1 hc t ht
  rcases hw t ht with h|⟨R,h1,h2⟩
  ·exact .inl h
  ·cases hd:R.bV with
   |false=>
    refine .inr ⟨R,h1,hd,?_⟩
    rcases hc' with hx|⟨Q,q1,q2,q3⟩
    ·have:=(H.fu _ _ h1).2.1
     rw[hx]at this
     simp at this
    ·obtain⟨R',g1,g2⟩:=T.old _ R h1
     rw[g1]at q1
     simp only[aa]at q1
     subst q1
     rcases g2 with⟨g2,_⟩|⟨_,g2,_⟩
     ·rw[q2]at g2;simp at g2
     ·rcases h2 with h2|h2
      ·rw[hd]at h2;simp at h2
      ·rw[g2,yS h2]at q3
       exact q3.2
   |true=>
    rcases hc' with hx|⟨Q,q1,q2,q3⟩
    ·exact .inl hx
    ·obtain⟨R',g1,g2⟩:=T.old _ R h1
     rw[g1]at q1
     simp only[aa]at q1
     subst q1
     rcases g2 with⟨g2,_⟩|⟨g2,_⟩
     ·rw[q2]at g2;simp at g2
     ·rw[hd]at g2;simp at g2
 ·have hQ:∀b,kG Z J F w Tg b->((∃t∈tys,kr (hp w) b t)/\¬kV cx b\/∀t∈Tg,fO t.1=true)->kG Z' J' F' w' Tg b/\hp w' b=hp w b:=by
   intro b hb hty
   obtain⟨hb1,hb2,hb3⟩:=hb
   have hno:¬∃r R,aU Z r R/\b∈blk J R r/\Loose cx Z' lw w r b:=by
    rintro⟨r,R,hr,hbr,hl⟩
    obtain⟨n,hn⟩:=hb3 r R hr hbr
    exact(T.held H hw hc hr hn hbr hty).2 hl
   have hsame:hp w' b=hp w b:=by
    refine jI λhne=>?_
    rcases T.oF b hb1 hne with h|h
    ·exact hb2 h
    ·exact hno h
   have hnew:¬(b∈F\/(w.heap.size<=b/\b<w'.heap.size)\/∃r R,aU Z r R/\b∈blk J R r/\Loose cx Z' lw w r b):=by
    rintro(h|h|h)
    ·exact hb2 h
    ·omega
    ·exact hno h
   refine⟨⟨uu hb1 T.size,λhF=>hnew (T.new b (.inr hF)),?_⟩,hsame⟩
   intro q Q hq hbq
   by_cases e:∃R,aU Z q R/\b∈blk J R q
   ·obtain⟨R,hR,hbR⟩:=e
    exact hb3 q R hR hbR
   ·exact absurd (T.new b (.inl ⟨q,Q,hq,hbq,e⟩)) hnew
  refine⟨λb hb hty=>?_,hQ⟩
  obtain⟨hb1,hb2,hb5,hb3,hb4⟩:=hb
  obtain⟨⟨g1,g2,g3⟩,g4⟩:=hQ b ⟨hb1,hb2,hb3⟩ (hty.imp (λh=>⟨h,hb5⟩) id)
  exact⟨⟨g1,g2,hb5,g3,hb4⟩,g4⟩
theorem gL.stay(H:Rel cx Z J F a w)(T:gL cx Z J F w Z' J' F' w' lw lh){q:Nat}{Q:Root}(hq:aU Z q Q)(hs:Same Z J Z' J' q):∀b∈blk J Q q,¬(b∈F\/(w.heap.size<=b/\b<w'.heap.size)\/∃r R,aU Z r R/\b∈blk J R r/\Loose cx Z' lw w r b):=by
 rintro b hb (h|h|⟨r,R,hr,hbr,hl⟩)
 ·exact H.dM q Q hq b hb h
 ·have:=((H.roots q Q hq).mine b hb).1;omega
 ·by_cases e:q=r
  ·subst e
   obtain⟨R',g1,g2⟩:=T.old _ Q hq.1
   have hR':R'=Q:=by
    have:=hs.root
    rw[g1,hq.1]at this
    simpa using this
   subst hR'
   rcases g2 with⟨g2,_⟩|⟨_,g2,_⟩
   ·rw[hq.2]at g2;simp at g2
   ·have hw0:lw q=[]:=by
     have:=congrArg List.length g2
     simp at this
     exact this
    rcases hl with hl|⟨e,he,_⟩|⟨_,hl⟩
    ·have:=hl R' g1
     rw[hq.2]at this
     simp at this
    ·rw[hw0]at he;simp at he
    ·exact hl hw0
  ·exact H.jc q Q r R hq hr e b hb hbr
theorem gL.other(H:Rel cx Z J F a w)(T:gL cx Z J F w Z' J' F' w' lw lh){q:Nat}{Q:Root}(hq:aU Z q Q)(hs:Same Z J Z' J' q):∀b∈blk J Q q,hp w' b=hp w b:=by
 intro b hb
 refine jI λhne=>?_
 have:=T.stay H hq hs b hb
 rcases T.oF b ((H.roots q Q hq).mine b hb).1 hne with h|h
 ·exact this (.inl h)
 ·exact this (.inr (.inr h))
theorem gL.av(H:Rel cx Z J F a w)(T:gL cx Z J F w Z' J' F' w' lw lh)
  (rD:∀r R,aU Z r R->¬Same Z J Z' J' r->∀p n v,n<=dz R.h->aR cx Z J F w (.ptr r p n) v->aR cx Z' J' F' w' (.ptr r p n) v)
  (qL:∀r R,aU Z r R->¬Same Z J Z' J' r->∀g v,g<=R.g->aR cx Z J F w (.ref r g) v->aR cx Z' J' F' w' (.ref r g) v)
  {x:AV} {v:Value} (hx:Ow.dB Z x) (h:aR cx Z J F w x v):aR cx Z' J' F' w' x v:=by
 have hV:=T.views H
 have lX:∀{q:Nat} {Q:Root} {p:List Stp},Z.roots q=some Q->Same Z J Z' J' q->cz Z' Q->bM p Q.k Q.x->(∀t∈az p Q.k,ah t Q.own=true)->
   aN (hp w') p Q.k (J'.hdr q) (aK J' Q q)=aN (hp w) p Q.k (J.hdr q) (aK J Q q):=by
  intro q Q p hq hs hv hin hty
  have hv':=xX hV (H.fu q Q hq).1 hv
  have hlive:aU Z q Q:=⟨hq,hv'.1⟩
  rw[hs.hdr,hs.wh]
  exact P_ p ((H.roots q Q hlive).ow hv') hin hty (λb hb=>T.other H hlive hs b (bD _ hb))
 have hlive:∀{q:Nat} {Q R':Root},Z.roots q=some Q->Z'.roots q=some R'->R'.bV=false->aU Z q Q/\Stepped Z J Z' J' lw lh q Q R':=by
  intro q Q R' h1 h2 hd
  obtain⟨R'',g1,g2⟩:=T.old _ Q h1
  rw[h2]at g1
  simp only[aa]at g1
  subst g1
  rcases g2 with⟨g2,_⟩|⟨gd,g2⟩
  ·rw[hd]at g2;simp at g2
  ·exact⟨⟨h1,gd⟩,g2⟩
 have NK:∀q g v,Ow.dB Z (.ref q g)->aR cx Z J F w (.ref q g) v->aR cx Z' J' F' w' (.ref q g) v:=by
  intro q g v hx h
  obtain⟨Q,h1,h2⟩:=hx
  intro R' hR' hg
  obtain⟨hl,hst⟩:=hlive h1 hR'.1 hR'.2
  by_cases e:Same Z J Z' J' q
  ·have hQ:R'=Q:=by
    have:=e.root
    rw[hR'.1,h1]at this
    simpa using this
   subst hQ
   have:=h R' hl hg
   rw[e.hdr]
   exact this
  ·rcases h2 with h2|h2
   ·rw[hl.2]at h2;simp at h2
   ·exact qL q Q hl e g v h2 h R' hR' hg
 have IM:∀{q:Nat} {Q R':Root} {n:Nat},Z.roots q=some Q->(Q.bV=true\/n<=Q.dF)->Z'.roots q=some R'->R'.bV=false->R'.dF=n->aU Z q Q/\Same Z J Z' J' q:=by
  intro q Q R' n h1 h2 hR' hd hn
  obtain⟨hl,hst⟩:=hlive h1 hR' hd
  obtain⟨s1,s2,_,_,_,_,s6⟩:=hst
  rcases s6 with s6|⟨_,_,e⟩
  ·exfalso
   rcases h2 with h2|h2
   ·rw[hl.2]at h2;simp at h2
   ·simp only[Root.dF,s1,s2,nY,d_]at hn h2
    rcases s6 with g5|g5<;>(have:=Ai.2 g5;omega)
  ·exact⟨hl,e⟩
 cases x with
 |undef=>trivial
 |val k x Tg=>
  intro hc
  rcases hc with hc|hc
  ·obtain⟨cs,h1,h2⟩:=h (.inl hc)
   exact⟨cs,h1,kL hc h2⟩
  ·obtain⟨cs,h1,h2⟩:=h (.inr (hV Tg _ hx hc).1)
   exact⟨cs,h1,hV.vw hx hc (λ_ h=>h) h2⟩
 |eH=>exact h
 |ref q g=>exact NK q g v hx h
 |ko q g k p=>
  obtain⟨u,b,off,k1,e1,hq,hc,e2,hr⟩:=h
  obtain⟨h1,h2⟩:=(hV [] [] (λ_ h=>by simp at h) rfl).2.2 b hq (.inr (λ_ h=>by simp at h))
  exact⟨u,b,off,k1,e1,h1,hc.congr h2,e2,NK q g u hx hr⟩
 |dJ q p n=>
  obtain⟨Q,h1,h2⟩:=hx
  intro R' hR' hv hn d hd
  obtain⟨hl,hst⟩:=hlive h1 hR' hv.1
  obtain⟨s1,s2,_,_,_,_,s6⟩:=hst
  rcases s6 with s6|⟨_,_,e⟩
  ·exfalso
   rcases h2 with h2|h2
   ·rw[hl.2]at h2;simp at h2
   ·simp only[Root.dF,s1,s2,nY,d_]at hn h2
    rcases s6 with g5|g5<;>(have:=Ai.2 g5;omega)
  ·have hQ:R'=Q:=by
    have:=e.root
    rw[hR',h1]at this
    simpa using this
   subst hQ
   have hv':=xX hV (H.fu q R' h1).1 hv
   obtain⟨h1',h2',cs,wh,h3,h4⟩:=h R' h1 hv' hn d hd
   exact⟨h1',h2',cs,wh,by rw[lX h1 e hv h1' h2'];exact h3,h4⟩
 |ptr q p n=>
  obtain⟨Q,h1,h2⟩:=hx
  refine⟨h.1,?_⟩
  intro R' hR' hv hn hty hs
  obtain⟨hl,hst⟩:=hlive h1 hR' hv.1
  by_cases e:Same Z J Z' J' q
  ·have hQ:R'=Q:=by
    have:=e.root
    rw[hR',h1]at this
    simpa using this
   subst hQ
   have hv':=xX hV (H.fu q R' h1).1 hv
   obtain⟨h1',cs,b,o,h3,h4⟩:=h.2 R' h1 hv' hn hty hs
   exact⟨h1',cs,b,o,by rw[lX h1 e hv h1' hty];exact h3,h4⟩
  ·rcases h2 with h2|h2
   ·rw[hl.2]at h2;simp at h2
   ·exact(rD q Q hl e p n v h2 h).2 R' hR' hv hn hty hs
 |eY bt k x Tg=>exact hV.ro hx h
 |iI=>exact h
 |nG _=>exact h
 |part q g lo hi sz=>
  obtain⟨b',b,n,c,e1,e2,e3,e4,e5,hr⟩:=h
  exact⟨b',b,n,c,e1,e2,e3,e4,e5,NK q g (.slice b n c) hx hr⟩
 |lH q p n m=>
  obtain⟨Q,h1,h2⟩:=hx
  obtain⟨b,c,ev,h⟩:=h
  refine⟨b,c,ev,?_⟩
  intro R' hR' hv hn d hd
  obtain⟨hl,e⟩:=IM h1 h2 hR' hv.1 hn
  have hQ:R'=Q:=by
   have:=e.root
   rw[hR',h1]at this
   simpa using this
  subst hQ
  have hv':=xX hV (H.fu q R' h1).1 hv
  obtain⟨h1',h2',n',wh,h3,h4⟩:=h R' h1 hv' hn d hd
  exact⟨h1',h2',n',wh,by rw[lX h1 e hv h1' h2'];exact h3,h4⟩
 |sub q p n lo hi sz=>
  obtain⟨Q,h1,h2⟩:=hx
  obtain⟨b',b,m,c,ev,eb,e2,e3,e4,h⟩:=h
  refine⟨b',b,m,c,ev,eb,e2,e3,e4,?_⟩
  intro R' hR' hv hn d hd
  obtain⟨hl,e⟩:=IM h1 h2 hR' hv.1 hn
  have hQ:R'=Q:=by
   have:=e.root
   rw[hR',h1]at this
   simpa using this
  subst hQ
  have hv':=xX hV (H.fu q R' h1).1 hv
  obtain⟨h1',h2',wh,h3⟩:=h R' h1 hv' hn d hd
  exact⟨h1',h2',wh,by rw[lX h1 e hv h1' h2'];exact h3⟩
 |sel q p n q2 x y=>
  obtain⟨⟨Q,h1,h2⟩,⟨Q2,h12⟩⟩:=hx
  intro R' hR' hv hn R2 hR2 hn2
  obtain⟨hl,e⟩:=IM h1 h2 hR' hv.1 hn
  have hQ:R'=Q:=by
   have:=e.root
   rw[hR',h1]at this
   simpa using this
  subst hQ
  obtain⟨hl2,NM⟩:=hlive h12 hR2.1 hR2.2
  have e2:Same Z J Z' J' q2:=by
   obtain⟨s1,s2,_,_,_,_,s6⟩:=NM
   rcases s6 with s6|⟨_,_,e⟩
   ·exfalso
    simp only[Root.dF,s1,s2,nY,d_]at hn2
    rcases s6 with g5|g5<;>(have:=Ai.2 g5;omega)
   ·exact e
  have sO:R2=Q2:=by
   have:=e2.root
   rw[hR2.1,h12]at this
   simpa using this
  subst sO
  have hv':=xX hV (H.fu q R' h1).1 hv
  obtain⟨te,kk,xs,wh,bb,m,c,bq,m1,c1,a1,a2,a3,a4,a5,a6,a7,a8,a9⟩:=h R' h1 hv' hn R2 hl2 hn2
  refine⟨te,kk,xs,wh,bb,m,c,bq,m1,c1,a1,a2,a3,by rw[lX h1 e hv a2 a3];exact a4,a5,by rw[e2.hdr];exact a6,a7,a8,λhm=>?_⟩
  obtain⟨b1,o1,b0,o0,y1,y2,y3,y4,y5⟩:=a9 hm
  have hs1:hp w' b1=hp w b1:=T.other H hl2 e2 b1 (bD _ y3)
  have hs0:hp w' b0=hp w b0:=T.other H hl e b0 (bD _ y4)
  exact⟨b1,o1,b0,o0,y1,y2,by rw[e2.fo];exact y3,by rw[e.fo];exact y4,λj i hj hi=>by rw[xe hs1,xe hs0];exact y5 j i hj hi⟩
 |app q p n q2=>
  obtain⟨⟨Q,h1,h2⟩,⟨Q2,h12⟩⟩:=hx
  intro R' hR' hv hn R2 hR2 hn2
  obtain⟨hl,e⟩:=IM h1 h2 hR' hv.1 hn
  have hQ:R'=Q:=by
   have:=e.root
   rw[hR',h1]at this
   simpa using this
  subst hQ
  obtain⟨hl2,NM⟩:=hlive h12 hR2.1 hR2.2
  have e2:Same Z J Z' J' q2:=by
   obtain⟨s1,s2,_,_,_,_,s6⟩:=NM
   rcases s6 with s6|⟨_,_,e⟩
   ·exfalso
    simp only[Root.dF,s1,s2,nY,d_]at hn2
    rcases s6 with g5|g5<;>(have:=Ai.2 g5;omega)
   ·exact e
  have sO:R2=Q2:=by
   have:=e2.root
   rw[hR2.1,h12]at this
   simpa using this
  subst sO
  have hv':=xX hV (H.fu q R' h1).1 hv
  obtain⟨te,kk,xs,wh,b,m,c,ce,hq,b1,o1,c1,arr,lo,hi,a1,a2,a3,a4,a5,a6,a7,a8,a9,Di,LG,a12,LH,yK⟩:=h R' h1 hv' hn R2 hl2 hn2
  have hsR:∀b∈J.fo q,hp w' b=hp w b:=λb hb=>T.other H hl e b (bD _ hb)
  have hsQ:∀b∈J.fo q2,hp w' b=hp w b:=λb hb=>T.other H hl2 e2 b (bD _ hb)
  have hb1:hp w' b1=hp w b1:=by
   rcases yK with⟨_,h,_⟩|⟨_,h,_⟩
   ·exact hsR b1 h
   ·exact hsQ b1 h
  refine⟨te,kk,xs,wh,b,m,c,ce,hq,b1,o1,c1,arr,lo,hi,a1,a2,a3,by rw[lX h1 e hv a2 a3];exact a4,a5,by rw[e2.hdr];exact a6,a7,a8,a9,hb1.trans Di,LG,a12,LH.congr hb1,?_⟩
  rcases yK with⟨z1,z2,z3⟩|⟨z1,z2,z3⟩
  ·exact .inl ⟨z1,by rw[e.fo];exact z2,z3⟩
  ·refine .inr ⟨z1,by rw[e2.fo];exact z2,λhm=>?_⟩
   obtain⟨b0,o0,y1,y2,y3⟩:=z3 hm
   exact⟨b0,o0,y1,by rw[e.fo];exact y2,λi hi'=>by rw[xe hb1,xe (hsR b0 y2)];exact y3 i hi'⟩
 |fn f cs=>
  obtain⟨vs,h1,h2⟩:=h
  exact⟨vs,h1,hV.caps hx h2⟩
theorem PL{cx:Cx}{Z Z':St}{J J':aF}{F F':List Nat}{w w':World}{P:AV->Prop}(h:∀x v,P x->aR cx Z J F w x v->aR cx Z' J' F' w' x v) :
  ∀{l:List AV} {vs:List Value},(∀x∈l,P x)->gU cx Z J F w l vs->gU cx Z' J' F' w' l vs
 | [],[],_,_=>trivial
 |x :: l,v :: vs,hp,hl=>⟨h x v (hp x (by simp)) hl.1,PL h (λy hy=>hp y (by simp[hy])) hl.2⟩
 | [],_ :: _,_,hl=>hl.elim
 |_ :: _,[],_,hl=>hl.elim
theorem aaX{cx:Cx}{Z Z':St}{J J':aF}{F F':List Nat}{w w':World}(h:∀x v,dB Z x->aR cx Z J F w x v->aR cx Z' J' F' w' x v){x:fQ}{v:Value}(hx:mG Z x)(hv:iL cx Z J F w x v):iL cx Z' J' F' w' x v:=by
 cases x with
 |one a=>exact h a v hx hv
 |mg l=>
  obtain⟨vs,h1,h2⟩:=hv
  exact⟨vs,h1,PL h hx h2⟩
 |lit _ _ l=>
  obtain⟨vs,cs,h1,h2⟩:=hv
  exact⟨vs,cs,h1,PL h hx h2⟩
theorem Rel.turn(H:Rel cx Z J F a w)(T:gL cx Z J F w Z' J' F' w' lw lh)
  (hroot:∀r R,aU Z' r R->¬Same Z J Z' J' r->(cz Z' R->Ow (hp w') R.own (aO cx Z' J' F' w' R.tags) R.k R.x (J'.hdr r) (J'.fo r))/\(J'.hdr r).length=R.k.size/\
   (∀b o,aK J' R r=some (b,o)->Cells (hp w') b o (J'.hdr r)/\∃arr e lo hi,hp w' b=some (.cells arr e (lo,hi))/\iE arr.size lo hi/\o+R.k.size<=arr.size/\(∀t,R.kind=.var t->e=t))/\
   (blk J' R r).Nodup)
  (rD:∀r R,aU Z r R->¬Same Z J Z' J' r->∀p n v,n<=dz R.h->aR cx Z J F w (.ptr r p n) v->aR cx Z' J' F' w' (.ptr r p n) v)
  (qL:∀r R,aU Z r R->¬Same Z J Z' J' r->∀g v,g<=R.g->aR cx Z J F w (.ref r g) v->aR cx Z' J' F' w' (.ref r g) v) :
  Rel cx Z' J' F' a w':=by
 have hV:=T.views H
 have VZ:∀{r R b},aU Z r R->b∈blk J R r->mine cx w' b:=λhr hb=>by
  have:=(H.roots _ _ hr).mine _ hb
  exact⟨uu this.1 T.size,this.2⟩
 have jE:∀b,(b∈F\/(w.heap.size<=b/\b<w'.heap.size)\/∃r R,aU Z r R/\b∈blk J R r/\Loose cx Z' lw w r b)->mine cx w' b:=by
  rintro b (hb|hb|⟨r,R,hr,hb,_⟩)
  ·have:=H.fl b hb
   exact⟨uu this.1 T.size,this.2⟩
  ·exact⟨hb.2,.inl (ve H.frame.2.2.2.1 hb.1)⟩
  ·exact VZ hr hb
 have VY:∀{r R b},aU Z' r R->b∈blk J' R r->mine cx w' b:=by
  intro r R b hr hb
  by_cases e:∃Q,aU Z r Q/\b∈blk J Q r
  ·obtain⟨Q,hQ,hbQ⟩:=e
   exact VZ hQ hbQ
  ·exact jE b (T.new b (.inl ⟨r,R,hr,hb,e⟩))
 have Ws:∀{q Q r R b},aU Z' q Q->Same Z J Z' J' q->aU Z' r R->r≠q->b∈blk J' Q q->b∉blk J' R r:=by
  intro q Q r R b hq hs hr hne hb hb'
  have hq':=(hs.live Q).1 hq
  rw[hs.blk]at hb
  by_cases e:∃R0,aU Z r R0/\b∈blk J R0 r
  ·obtain⟨R0,h1,h2⟩:=e
   exact H.jc q Q r R0 hq' h1 (Ne.symm hne) b hb h2
  ·exact T.stay H hq' hs b hb (T.new b (.inl ⟨r,R,hr,hb',e⟩))
 constructor
 ·exact H.defs
 ·exact H.sz
 ·intro j pi b o n hj hb
  obtain⟨R,h1,h2,h3,h4⟩:=H.jT j pi b o n hj hb
  obtain⟨R',g1,g2⟩:=T.old _ R h1.1
  rcases g2 with g2|⟨_,g2⟩
  ·exact absurd h2 g2.2
  ·refine⟨R',⟨g1,?_⟩,g2.2.2.2.1.trans h2,g2.2.2.2.2.1.trans h3,(g2.2.2.2.2.2.1 h2).trans h4⟩
   unfold Root.bV
   rw[g2.2.2.2.1,h2]
 ·intro q Q hq hk
  cases hs:Z.roots q with
  |none=>exact absurd hk (T.Y_ q Q hs hq.1)
  |some R=>
   obtain⟨R',g1,g2⟩:=T.old q R hs
   rw[hq.1]at g1
   simp only[aa]at g1
   subst g1
   rcases g2 with⟨g2,_⟩|⟨gd,g2⟩
   ·rw[hq.2]at g2;simp at g2
   ·rw[g2.2.2.2.2.1]
    exact H.rP q R ⟨hs,gd⟩ (g2.2.2.2.1▸hk)
 ·intro s
  rw[T.slots]
  exact aaX (λx v hx h=>T.av H rD qL hx h) (H.qy s) (H.slots s)
 ·intro s
  rw[T.slots]
  exact T.mG (H.qy s)
 ·intro q Q hq
  by_cases e:Same Z J Z' J' q
  ·have hq':=(e.live Q).1 hq
   have K:=H.roots q Q hq'
   have hsame:=T.other H hq' e
   constructor
   ·intro hv
    have hv':=xX hV (H.fu q Q hq'.1).1 hv
    rw[e.hdr,e.fo]
    have hO:=K.ow hv'
    obtain⟨_,g2,_⟩:=hV Q.tags Q.oO (H.fu q Q hq'.1).1 hv.2
    exact dK (λb hb=>(g2 b hb.1 (.inl hb.2)).2) (λb hb=>(g2 b hb.1 (.inl hb.2)).1) (λb hb=>hsame b (bD _ hb)) (qE Q.oO (λ_ h=>h) hO)
   ·rw[e.hdr];exact K.len
   ·intro b o hb
    rw[e.wh]at hb
    rw[e.hdr]
    obtain⟨h1,arr,te,lo,hi,h2,h3⟩:=K.mem b o hb
    have hbb:hp w' b=hp w b:=hsame b (by unfold blk;rw[hb];simp)
    exact⟨h1.congr hbb,arr,te,lo,hi,hbb.trans h2,h3⟩
   ·rw[e.blk];exact K.nd
   ·exact λb hb=>VY hq hb
  ·obtain⟨h1,h2,h3,h4⟩:=hroot q Q hq e
   exact⟨h1,h2,h3,h4,λb hb=>VY hq hb⟩
 ·intro q Q hq
  by_cases e:Same Z J Z' J' q
  ·obtain⟨h1,h2,h3⟩:=H.fu q Q (by rw[<-e.root];exact hq)
   exact⟨λt ht=>T.tag (h1 t ht),h2,h3⟩
  ·exact T.wr q Q hq e
 ·intro q Q q' Q' hq hq' hne b hb hb'
  by_cases e:Same Z J Z' J' q
  ·exact Ws hq e hq' (Ne.symm hne) hb hb'
  ·by_cases e':Same Z J Z' J' q'
   ·exact Ws hq' e' hq hne hb' hb
   ·exact T.jc q Q q' Q' hq hq' hne e e' b hb hb'
 ·exact λb hb=>jE b (T.new b (.inr hb))
 ·exact T.gD
 ·intro q Q hq b hb hF
  by_cases e:Same Z J Z' J' q
  ·rw[e.blk]at hb
   exact T.stay H ((e.live Q).1 hq) e b hb (T.new b (.inr hF))
  ·exact T.dM q Q hq e b hb hF
 ·obtain⟨f1,f2,f3,f4,f5,f6⟩:=H.frame
  refine⟨T.os.1.trans f1,T.os.2.1.trans f2,T.os.2.2.trans f3,ve f4 T.size,?_,?_⟩
  ·intro b hb hno
   have:hp w' b=hp w b:=by
    refine jI λhne=>?_
    have hm:mine cx w b:=by
     rcases T.oF b (uu hb f4) hne with h|⟨r,R,hr,h,_⟩
     ·exact H.fl b h
     ·exact(H.roots r R hr).mine b h
    rcases hm.2 with h|⟨j,pi,h1,h2⟩
    ·omega
    ·exact hno j pi h1 h2
   exact this.trans (f5 b hb hno)
  ·intro j pi b o n hj hb
   by_cases hne:hp w' b=hp w b
   ·have:=f6 j pi b o n hj hb
    obtain⟨arr,fD,e,fr,h1,h2,h3⟩:=this
    exact⟨arr,fD,e,fr,h1,hne.trans h2,h3⟩
   ·exact T.base j pi b o n hj hb hne
 ·intro j pi hj hk
  obtain⟨R,h1,h2⟩:=H.rG j pi hj hk
  obtain⟨R',g1,g2⟩:=T.old _ R h1
  refine⟨R',g1,λhd b hb hnb=>?_⟩
  rcases g2 with⟨g2,_⟩|⟨gd,g2,_⟩
  ·rw[hd]at g2;simp at g2
  ·have hev:=(T.ev _ R R' h1 g1 hd).1
   rcases h2 gd b hb hnb with⟨e,he,kC⟩|⟨hs,hF,hown⟩
   ·refine .inl ⟨e,he,?_⟩
    rw[g2,hev]
    rcases kC with h|h
    ·exact .inl (bD _ h)
    ·exact .inr h
   ·by_cases kC:∃e∈lw (aC j),h_ (hp w) b=some e
    ·obtain⟨e,he,hel⟩:=kC
     exact .inl ⟨e,(UQ hs).symm.trans hel,.inl (by rw[g2];exact bP _ he)⟩
    ·have hno:¬∃r Q,aU Z r Q/\b∈blk J Q r/\Loose cx Z' lw w r b:=by
      rintro⟨r,Q,hr,hbr,hl⟩
      have e:=hown r Q hr hbr
      subst e
      rcases hl with hl|hl|⟨hl,_⟩
      ·have:=hl R' g1
       rw[hd]at this
       simp at this
      ·exact kC hl
      ·exact hnb hl
     by_cases hlt:b<w.heap.size
     ·refine .inr ⟨?_,?_,?_⟩
      ·refine Eq.trans ?_ hs
       refine jI λhne=>?_
       rcases T.oF b hlt hne with h|h
       ·exact hF h
       ·exact hno h
      ·intro hF'
       rcases T.new b (.inr hF')with h|h|h
       ·exact hF h
       ·omega
       ·exact hno h
      ·intro q Q hq hbq
       by_cases e:∃R,aU Z q R/\b∈blk J R q
       ·obtain⟨R0,hR0,hbR⟩:=e
        exact hown q R0 hR0 hbR
       ·rcases T.new b (.inl ⟨q,Q,hq,hbq,e⟩)with h|h|h
        ·exact absurd h hF
        ·omega
        ·exact absurd h hno
     ·exact absurd (H.pJ.1 j pi hj b hb) (by have:=H.frame.2.2.2.1;omega)
 ·exact H.pJ
 ·intro j p ts v hv
  obtain⟨hvp,R,h1,h2⟩:=H.sV j p ts v hv
  obtain⟨R',g1,g2⟩:=T.old _ R h1
  refine⟨hvp,R',g1,λht=>?_⟩
  cases hd:R'.bV with
  |true=>
   rcases g2 with⟨_,g2⟩|⟨gd,g2⟩
   ·refine⟨hvp,λQ hQ hv'=>?_⟩
    rw[g1]at hQ
    simp only[aa]at hQ
    subst hQ
    have:=hv'.1
    rw[hd]at this
    simp at this
   ·have:R'.bV=R.bV:=by unfold Root.bV;rw[g2.2.2.2.1]
    rw[hd,gd]at this
    simp at this
  |false=>
   have hev:=(T.ev _ R R' h1 g1 hd).2
   exact T.av H rD qL (show Ow.dB Z (.ptr (aC j) p 0)from⟨R,h1,.inr (dY _)⟩) (h2 (by rw[<-hev];exact ht))
 ·intro j v hv
  obtain⟨⟨R,h1⟩,h2⟩:=H.sW j v hv
  obtain⟨R',g1,_⟩:=T.old _ R h1
  exact⟨⟨R',g1⟩,T.av H rD qL (show Ow.dB Z (.ref (aC j) 0)from⟨R,h1,.inr (dY _)⟩) h2⟩
end
def aL(Z:St)(r:Nat)(R:Root):St:={ Z with roots:=upd Z.roots r (some R) }
def aW(J:aF)(r:Nat)(loc:Nat×Nat)(hdr:List Value)(fo:List Nat):aF:=⟨upd J.loc r loc,upd J.hdr r hdr,upd J.fo r fo⟩
theorem fF(Z:St)(r:Nat)(R:Root):(aL Z r R).roots r=some R:=upd_same _ _ _
theorem jf(Z:St){r q:Nat}(R:Root)(h:q≠r):(aL Z r R).roots q=Z.roots q:=upd_ne _ _ h
theorem PN{Z:St}{r q:Nat}{R Q:Root}(h:q≠r):aU (aL Z r R) q Q↔aU Z q Q:=by unfold aU;rw[jf Z R h]
theorem nE{Z:St}{r:Nat}{R Q:Root}(h:aU (aL Z r R) r Q):Q=R/\R.bV=false:=by
 have h1:=h.1
 rw[fF]at h1
 simp only[aa]at h1
 subst h1
 exact⟨rfl,h.2⟩
theorem kg{Z:St}{J:aF}{r q:Nat}{R:Root}{loc:Nat×Nat}{hdr:List Value}{fo:List Nat}(h:q≠r):Same Z J (aL Z r R) (aW J r loc hdr fo) q:=
 ⟨jf Z R h,upd_ne _ _ h,upd_ne _ _ h,upd_ne _ _ h⟩
theorem sG(Z:St)(J:aF)(q:Nat):Same Z J Z J q:=⟨rfl,rfl,rfl,rfl⟩
def iF(R:Root)(loc:Nat×Nat)(fo:List Nat):List Nat:=(match R.kind with
 |.var _=>[loc.1]
 |.par=>[loc.1]
 |_=>[])++fo
theorem o8{J:aF}{r:Nat}{loc:Nat×Nat}{hdr:List Value}{fo:List Nat}{Q:Root}:blk (aW J r loc hdr fo) Q r=iF Q loc fo:=by
 unfold blk iF aK aW
 simp only[upd_same]<;>cases Q.kind<;>rfl
theorem iN(J:aF)(R:Root)(r:Nat):blk J R r=iF R (J.loc r) (J.fo r):=by
 unfold blk iF aK
 cases R.kind<;>rfl
def kX(R:Root)(loc:Nat×Nat):Option (Nat×Nat):=match R.kind with
 |.var _=>some loc
 |.par=>some loc
 |_=>none
theorem t_{J:aF}{r:Nat}{loc:Nat×Nat}{hdr:List Value}{fo:List Nat}{Q:Root}:aK (aW J r loc hdr fo) Q r=kX Q loc:=by
 unfold aK kX aW
 simp only[upd_same]<;>cases Q.kind<;>rfl
theorem x8(J:aF)(R:Root)(r:Nat):aK J R r=kX R (J.loc r):=rfl
end
section
open Go
variable [Fr]
def qU(Z:St)(s:Nat->fQ):St:=⟨s,Z.roots⟩
theorem Dp(Z:St)(s:Nat->fQ)(tys:List TypeId):∀(T:List Tag),cu (qU Z s) tys T=cu Z tys T
 | []=>rfl
 |(r,n) :: T=>by simp only[cu,Dp Z s tys T];rfl
section
variable {cx:Cx}{Z:St}{J:aF}{F:List Nat}{a:Act}{w:World}
theorem Zk(s:Nat->fQ):aO cx (qU Z s) J F w=aO cx Z J F w:=rfl
theorem Z4(s:Nat->fQ){bt:TypeId}{k:K}{x:El k}{T:List Tag}{v:Value}:tX cx (qU Z s) J F w bt k x T v↔tX cx Z J F w bt k x T v:=by
 unfold tX
 rw[Dp,Zk]
 exact Iff.rfl
theorem Um(s:Nat->fQ):∀{cs:List (TypeId×Dat×List Tag)} {vs:List Value},mH cx (qU Z s) J F w cs vs↔mH cx Z J F w cs vs
 | [],[]=>Iff.rfl
 |c :: cs,v :: vs=>by simp only[mH,Z4 s,Um s]
 | [],_ :: _=>Iff.rfl
 |_ :: _,[]=>Iff.rfl
theorem xY(s:Nat->fQ){R:Root}:cz (qU Z s) R↔cz Z R:=by unfold cz;rw[Dp]
theorem FW(s:Nat->fQ){x:AV}{v:Value}:aR cx (qU Z s) J F w x v↔aR cx Z J F w x v:=by
 cases x with
 |undef=>exact Iff.rfl
 |val k x T=>simp only[aR,Dp,Zk]
 |eH=>exact Iff.rfl
 |ref r g=>exact Iff.rfl
 |ko r g k p=>exact Iff.rfl
 |dJ r p n=>simp only[aR,xY];exact Iff.rfl
 |ptr r p n=>simp only[aR,xY];exact Iff.rfl
 |eY bt k x T=>exact Z4 s
 |iI=>exact Iff.rfl
 |nG _=>exact Iff.rfl
 |part _ _ _ _ _=>exact Iff.rfl
 |lH _ _ _ _=>simp only[aR,xY];exact Iff.rfl
 |sub _ _ _ _ _ _=>simp only[aR,xY];exact Iff.rfl
 |sel _ _ _ _ _ _=>simp only[aR,xY];exact Iff.rfl
 |app _ _ _ _=>simp only[aR,xY];exact Iff.rfl
 |fn f cs=>simp only[aR,Um s]
theorem PM(s:Nat->fQ):∀{l:List AV} {vs:List Value},gU cx (qU Z s) J F w l vs↔gU cx Z J F w l vs
 | [],[]=>Iff.rfl
 |c :: cs,v :: vs=>by simp only[gU,FW s,PM s]
 | [],_ :: _=>Iff.rfl
 |_ :: _,[]=>Iff.rfl
theorem Q4(s:Nat->fQ){x:fQ}{v:Value}:iL cx (qU Z s) J F w x v↔iL cx Z J F w x v:=by
 cases x with
 |one a=>exact FW s
 |mg l=>simp only[iL,PM s]
 |lit _ _ l=>simp only[iL,PM s]
theorem Ub(s:Nat->fQ){x:fQ}:mG (qU Z s) x↔mG Z x:=by cases x<;>exact Iff.rfl
theorem Rel.put(H:Rel cx Z J F a w){d:Nat}{x:fQ}{v:Value}(hd:d<cx.nt)(hw:mG Z x)(hx:iL cx Z J F w x v) :
  Rel cx (qU Z (upd Z.slots d x)) J F (a.put (some d) v) w where
 defs:=H.defs
 sz:=by simpa[Act.put]using H.sz
 jT:=H.jT
 rP:=H.rP
 slots:=by
  intro s
  rw[Q4]
  show iL cx Z J F w (upd Z.slots d x s) _
  by_cases e:s=d
  ·subst e
   rw[upd_same]
   have:(a.put (some s) v).tmps.getD s undef=v:=by
    have:=H.sz
    simp[Act.put,Q8 (show s<a.tmps.size by omega)]
   rw[this]
   exact hx
  ·rw[upd_ne _ _ e]
   have:(a.put (some d) v).tmps.getD s undef=a.tmps.getD s undef:=by
    simp[Act.put,Q7 (Ne.symm e)]
   rw[this]
   exact H.slots s
 qy:=by
  intro s
  rw[Ub]
  show mG Z (upd Z.slots d x s)
  by_cases e:s=d
  ·subst e;rw[upd_same];exact hw
  ·rw[upd_ne _ _ e];exact H.qy s
 roots:=by
  intro r R hr
  have K:=H.roots r R hr
  exact⟨λhv=>K.ow ((xY _).1 hv),K.len,K.mem,K.nd,K.mine⟩
 fu:=H.fu
 jc:=H.jc
 fl:=H.fl
 gD:=H.gD
 dM:=H.dM
 frame:=H.frame
 rG:=H.rG
 pJ:=H.pJ
 sV:=λj p ts v h=>let ⟨h0,R,h1,h2⟩:=H.sV j p ts v h;⟨h0,R,h1,λht=>(FW _).2 (h2 ht)⟩
 sW:=H.sW
def dw(w:World)(n:Nat):World:={ w with drawn:=n }
theorem Ul(n:Nat):∀{cs:List (TypeId×Dat×List Tag)} {vs:List Value},mH cx Z J F w cs vs->mH cx Z J F (dw w n) cs vs
 | [],[],_=>trivial
 |_ :: _,_ :: _,h=>⟨h.1,Ul n h.2⟩
 | [],_ :: _,h=>h.elim
 |_ :: _,[],h=>h.elim
theorem FV(n:Nat){x:AV}{v:Value}(h:aR cx Z J F w x v):aR cx Z J F (dw w n) x v:=by
 cases x with
 |fn f cs=>obtain⟨vs,h1,h2⟩:=h;exact⟨vs,h1,Ul n h2⟩
 |undef=>exact h
 |val k x T=>exact h
 |eH=>exact h
 |ref r g=>exact h
 |ko r g k p=>exact h
 |dJ r p n=>exact h
 |ptr r p n=>exact h
 |eY bt k x T=>exact h
 |iI=>exact h
 |nG _=>exact h
 |part _ _ _ _ _=>exact h
 |lH _ _ _ _=>exact h
 |sub _ _ _ _ _ _=>exact h
 |sel _ _ _ _ _ _=>exact h
 |app _ _ _ _=>exact h
theorem Rel.drawn(H:Rel cx Z J F a w)(n:Nat):Rel cx Z J F a (dw w n) where
 defs:=H.defs
 sz:=H.sz
 jT:=H.jT
 rP:=H.rP
 slots:=λs=>by
  have h:=H.slots s
  generalize Z.slots s=x at h
  cases x with
  |one a=>exact FV n h
  |mg l=>
   obtain⟨vs,h1,h2⟩:=h
   refine⟨vs,h1,?_⟩
   clear h1
   induction l generalizing vs with
   |nil=>cases vs with
    |nil=>trivial
    |cons v vs=>exact h2.elim
   |cons b l ih=>cases vs with
    |nil=>exact h2.elim
    |cons v vs=>exact⟨FV n h2.1,ih vs h2.2⟩
  |lit _ _ l=>
   obtain⟨vs,cs,h1,h2⟩:=h
   refine⟨vs,cs,h1,?_⟩
   clear h1
   induction l generalizing vs with
   |nil=>cases vs with
    |nil=>trivial
    |cons v vs=>exact h2.elim
   |cons b l ih=>cases vs with
    |nil=>exact h2.elim
    |cons v vs=>exact⟨FV n h2.1,ih vs h2.2⟩
 qy:=H.qy
 roots:=λr R hr=>let K:=H.roots r R hr;⟨K.ow,K.len,K.mem,K.nd,K.mine⟩
 fu:=H.fu
 jc:=H.jc
 fl:=H.fl
 gD:=H.gD
 dM:=H.dM
 frame:=H.frame
 rG:=H.rG
 pJ:=H.pJ
 sV:=λj p ts v h=>let ⟨h0,R,h1,h2⟩:=H.sV j p ts v h;⟨h0,R,h1,λht=>FV n (h2 ht)⟩
 sW:=H.sW
def jG(r:Nat)(l:List Nat):Nat->List Nat:=λq=>if q=r then l else []
theorem BQ(r:Nat)(l:List Nat):jG r l r=l:=ak rfl
theorem rM{r q:Nat}(l:List Nat)(h:q≠r):jG r l q=[]:=aj h
variable {r:Nat}{R R':Root}{hdr':List Value}{bE F':List Nat}{w':World}{lw lh:List Nat}
def Lm(cx:Cx)(R':Root)(lw:List Nat)(w:World)(b:Nat):Prop:=R'.bV=true\/(∃e∈lw,h_ (hp w) b=some e)\/(kV cx b/\lw≠[])
structure sH(cx:Cx)(Z:St)(J:aF)(F:List Nat)(w:World)(r:Nat)(R R':Root)(bE F':List Nat)(w':World)(lw lh:List Nat):Prop where
 step:(R'.bV=true/\R.kind≠.par)\/(R'.w=lw++R.w/\R'.h=lh++R.h/\R.g<=R'.g/\R'.kind=R.kind/\(R.kind=.par->R'.k.size=R.k.size)/\(lw≠[]\/lh≠[]))
 tags:fC Z R'.tags/\∀n,(r,n)∉R'.tags
 os:w'.os=w.os/\w'.tape=w.tape/\w'.output=w.output
 size:w.heap.size<=w'.heap.size
 oF:∀b,b<w.heap.size->hp w' b≠hp w b->b∈F\/(b∈blk J R r/\Lm cx R' lw w b)
 new:R'.bV=false->∀b∈iF R' (J.loc r) bE,b∈blk J R r\/b∈F\/(w.heap.size<=b/\b<w'.heap.size)
 newF:∀b∈F',b∈F\/(w.heap.size<=b/\b<w'.heap.size)\/(b∈blk J R r/\Lm cx R' lw w b)
 gD:F'.Nodup
 dM:R'.bV=false->∀b∈iF R' (J.loc r) bE,b∉F'
 base:∀j pi b o n,cx.par j=some pi->pi.base=some (b,o,n)->r=aC j->hp w' b≠hp w b->j_ (hp cx.w0) (hp w') b o n
 ev:R'.bV=false->R'.ew=R.ew/\R'.eh=R.eh
theorem tq{q:Nat}{Q:Root}(h:aU (aL Z r R') q Q):(q=r/\Q=R'/\R'.bV=false)\/(q≠r/\aU Z q Q):=by
 by_cases e:q=r
 ·subst e
  obtain⟨h1,h2⟩:=nE h
  exact .inl ⟨rfl,h1,h2⟩
 ·exact .inr ⟨e,(PN e).1 h⟩
theorem sH.turn(H:Rel cx Z J F a w)(hr:aU Z r R)(T:sH cx Z J F w r R R' bE F' w' lw lh) :
  gL cx Z J F w (aL Z r R') (aW J r (J.loc r) hdr' bE) F' w' (jG r lw) (jG r lh):=by
 have hsame:∀q,q≠r->Same Z J (aL Z r R') (aW J r (J.loc r) hdr' bE) q:=λq h=>kg h
 have VW:∀b,Lm cx R' lw w b->Loose cx (aL Z r R') (jG r lw) w r b:=by
  rintro b (h|⟨e,he,hb⟩|⟨h,hl⟩)
  ·refine .inl λQ hQ=>?_
   rw[fF]at hQ
   simp only[aa]at hQ
   subst hQ
   exact h
  ·exact .inr (.inl ⟨e,by rw[BQ];exact he,hb⟩)
  ·exact .inr (.inr ⟨h,by rw[BQ];exact hl⟩)
 have hns:∀{q:Nat},¬Same Z J (aL Z r R') (aW J r (J.loc r) hdr' bE) q->q=r:=λ{q} h=>jI λe=>h (hsame q e)
 refine⟨rfl,T.os,T.size,?_,?_,?_,?_,?_,T.gD,?_,?_,?_,?_⟩
 ·intro q Q hQ
  by_cases e:q=r
  ·subst e
   rw[hr.1]at hQ
   simp only[aa]at hQ
   subst hQ
   refine⟨R',fF ..,?_⟩
   rcases T.step with h|⟨h1,h2,h3,h4,h5,h6⟩
   ·exact .inl h
   ·exact .inr ⟨hr.2,by rw[BQ];exact h1,by rw[BQ];exact h2,h3,h4,by simp[aW,upd_same],h5,by rw[BQ,BQ];exact .inl h6⟩
  ·refine⟨Q,by rw[jf Z R' e];exact hQ,?_⟩
   cases hd:Q.bV with
   |true=>
    refine .inl ⟨rfl,?_⟩
    intro hk
    simp[Root.bV,hk]at hd
   |false=>exact .inr ⟨rfl,by rw[rM lw e];rfl,by rw[rM lh e];rfl,bT _,rfl,by simp[aW,upd_ne _ _ e],λ_=>rfl,.inr ⟨rM lw e,rM lh e,hsame q e⟩⟩
 ·intro q Q hQ hs
  have e:=hns hs
  subst e
  rw[fF]at hQ
  simp only[aa]at hQ
  subst hQ
  refine⟨λt ht=>?_,(H.fu q R hr.1).2.1,T.tags.2⟩
  have hne:t.1≠q:=λe=>T.tags.2 t.2 (by rw[<-e];exact ht)
  rcases T.tags.1 t ht with h|⟨Q,h1,h2⟩
  ·exact .inl h
  ·exact .inr ⟨Q,by rw[jf Z R' hne];exact h1,h2⟩
 ·intro q Q hn hQ
  have e:q≠r:=λe=>by rw[e,hr.1]at hn;simp at hn
  rw[jf Z R' e,hn]at hQ
  simp at hQ
 ·intro b hb hne
  exact(T.oF b hb hne).imp id (λh=>⟨r,R,hr,h.1,VW b h.2⟩)
 ·rintro b (⟨q,Q,hq,hb,hno⟩|hb)
  ·rcases tq hq with⟨rfl,rfl,hd⟩|⟨e,hq'⟩
   ·rw[o8]at hb
    rcases T.new hd b hb with h|h|h
    ·exact absurd ⟨R,hr,h⟩ hno
    ·exact .inl h
    ·exact .inr (.inl h)
   ·rw[(hsame q e).blk]at hb
    exact absurd ⟨Q,hq',hb⟩ hno
  ·rcases T.newF b hb with h|h|h
   ·exact .inl h
   ·exact .inr (.inl h)
   ·exact .inr (.inr ⟨r,R,hr,h.1,VW b h.2⟩)
 ·intro q Q hq hs b hb
  have e:=hns hs
  subst e
  obtain⟨rfl,hd⟩:=nE hq
  rw[o8]at hb
  exact T.dM hd b hb
 ·intro q Q q' Q' hq hq' hne hs hs'
  exact absurd ((hns hs).trans (hns hs').symm) hne
 ·intro j pi b o n hj hb hne
  obtain⟨Q,hQ,hk,hl,hs⟩:=H.jT j pi b o n hj hb
  have hbq:b∈blk J Q (aC j):=by simp[blk,aK,hk,hl]
  have hm:=(H.roots _ _ hQ).mine b hbq
  rcases T.oF b hm.1 hne with h|⟨h1,_⟩
  ·exact absurd h (H.dM _ _ hQ b hbq)
  ·refine T.base j pi b o n hj hb ?_ hne
   refine jI λe=>?_
   exact H.jc _ _ _ _ hr hQ e b h1 hbq
 ·intro q Q Q' hQ hQ' hd
  by_cases e:q=r
  ·subst e
   rw[hr.1]at hQ
   rw[fF]at hQ'
   simp only[aa]at hQ hQ'
   subst hQ
   subst hQ'
   exact T.ev hd
  ·rw[jf Z R' e,hQ]at hQ'
   simp only[aa]at hQ'
   subst hQ'
   exact⟨rfl,rfl⟩
theorem sH.rel(H:Rel cx Z J F a w)(hr:aU Z r R)(T:sH cx Z J F w r R R' bE F' w' lw lh)
  (hroot:R'.bV=false->(cz (aL Z r R') R'->Ow (hp w') R'.own (aO cx (aL Z r R') (aW J r (J.loc r) hdr' bE) F' w' R'.tags) R'.k R'.x hdr' bE)/\hdr'.length=R'.k.size/\
   (∀b o,kX R' (J.loc r)=some (b,o)->Cells (hp w') b o hdr'/\∃arr e lo hi,hp w' b=some (.cells arr e (lo,hi))/\iE arr.size lo hi/\o+R'.k.size<=arr.size/\(∀t,R'.kind=.var t->e=t))/\
   (iF R' (J.loc r) bE).Nodup)
  (rD:R'.bV=false->∀p n v,n<=dz R.h->aR cx Z J F w (.ptr r p n) v->aR cx (aL Z r R') (aW J r (J.loc r) hdr' bE) F' w' (.ptr r p n) v)
  (qL:R'.bV=false->∀g v,g<=R.g->aR cx Z J F w (.ref r g) v->aR cx (aL Z r R') (aW J r (J.loc r) hdr' bE) F' w' (.ref r g) v) :
  Rel cx (aL Z r R') (aW J r (J.loc r) hdr' bE) F' a w':=by
 have hns:∀{q:Nat},¬Same Z J (aL Z r R') (aW J r (J.loc r) hdr' bE) q->q=r:=λ{q} h=>jI λe=>h (kg e)
 have Vr:∀{Q:Root},aU Z r Q->Q=R:=λ{Q} hQ=>by have:=hQ.1;rw[hr.1]at this;simpa using this.symm
 refine H.turn (T.turn H hr) ?_ ?_ ?_
 ·intro q Q hq hs
  have e:=hns hs
  subst e
  obtain⟨rfl,hd⟩:=nE hq
  obtain⟨h1,h2,h3,h4⟩:=hroot hd
  refine⟨λhv=>?_,?_,?_,?_⟩
  ·have:=h1 hv
   simpa[aW,upd_same]using this
  ·simpa[aW,upd_same]using h2
  ·intro b o hb
   rw[t_]at hb
   have:=h3 b o hb
   simpa[aW,upd_same]using this
  ·rw[o8];exact h4
 ·intro q Q hq hs p n v hn hv
  have e:=hns hs
  subst e
  obtain rfl:=Vr hq
  cases hd:R'.bV with
  |false=>exact rD hd p n v hn hv
  |true=>
   refine⟨hv.1,?_⟩
   intro Q' hQ' hval
   rw[fF]at hQ'
   simp only[aa]at hQ'
   subst hQ'
   have:=hval.1
   rw[hd]at this
   simp at this
 ·intro q Q hq hs g v hg hv
  have e:=hns hs
  subst e
  obtain rfl:=Vr hq
  cases hd:R'.bV with
  |false=>exact qL hd g v hg hv
  |true=>
   intro Q' hQ'
   have:=(nE hQ').2
   rw[hd]at this
   simp at this
structure Held(cx:Cx)(Z:St)(J:aF)(F:List Nat)(w:World)(k:K)(x:El k)(own:List TypeId)(tags:List Tag)(cs:List Value)(fo:List Nat):Prop where
 ow:cu Z (aZ own k) tags=true->Ow (hp w) own (aO cx Z J F w tags) k x cs fo
 wt:fC Z tags
 sub:∀b∈fo,b∈F
 nd:fo.Nodup
 len:cs.length=k.size
theorem Held.turn{Z':St}{J':aF}{lw lh:Nat->List Nat}{k:K}{x:El k}{own:List TypeId}{tags:List Tag}{cs:List Value}{fo:List Nat}
  (H:Rel cx Z J F a w) (T:gL cx Z J F w Z' J' F' w' lw lh) (h:Held cx Z J F w k x own tags cs fo) (hs:∀b∈fo,hp w' b=hp w b/\b∈F'):Held cx Z' J' F' w' k x own tags cs fo where
 ow:=λhc=>by
  obtain⟨h1,h2,_⟩:=T.views H tags _ h.wt hc
  exact dK (λb hb=>(h2 b hb.1 (.inl hb.2)).2) (λb hb=>(h2 b hb.1 (.inl hb.2)).1) (λb hb=>(hs b hb).1) (qE _ (λ_ h=>h) (h.ow h1))
 wt:=λt ht=>T.tag (h.wt t ht)
 sub:=λb hb=>(hs b hb).2
 nd:=h.nd
 len:=h.len
theorem Held.slots{k:K}{x:El k}{own:List TypeId}{tags:List Tag}{cs:List Value}{fo:List Nat}(s:Nat->fQ)(h:Held cx Z J F w k x own tags cs fo):Held cx (qU Z s) J F w k x own tags cs fo:=
 ⟨λhc=>h.ow (by rw[Dp]at hc;exact hc),h.wt,h.sub,h.nd,h.len⟩
end
end
section
open Go
variable [Fr]
theorem yG{h:Heap}{own:List TypeId}{ok:Nat->Prop}:∀{k:K} {x:El k} {cs:List Value} {fo:List Nat},Ow h own ok k x cs fo->∀b∈fo,∃e∈k.tys,ah e own=true/\h_ h b=some e:=by
 intro k
 induction k with
 |int ik=>intro x cs fo H b hb;rw[H.1]at hb;simp at hb
 |bool=>intro x cs fo H b hb;rw[H.1]at hb;simp at hb
 |id e=>intro x cs fo H b hb;rw[H.1]at hb;simp at hb
 |str=>intro x cs fo H b hb;rw[H.1]at hb;simp at hb
 |sl e k ih=>
  intro x cs fo H b' hb'
  unfold Ow at H
  split at H
  ·rename_i hm
   obtain⟨a,n,c,e1,e2,e3,H⟩:=H
   rcases H with⟨_,h1⟩|⟨b,o,arr,lo,hi,ea,hb,hf,hs,au,hl,hp,H⟩
   ·rw[h1]at hb';simp at hb'
   ·rcases bH.1 (hp.mem_iff.1 hb')with h|h
    ·subst h
     exact⟨e,by simp[K.tys],hm,by unfold h_;rw[hb]⟩
    ·obtain⟨l,hl1,hl2⟩:=GV.1 h
     obtain⟨i,hi,rfl⟩:=u_.1 hl1
     obtain⟨ds,_,h2⟩:=H i (by omega)
     rw[mM hi]at h2
     obtain⟨e',g1,g2⟩:=ih h2 b' hl2
     exact⟨e',by simp[K.tys,g1],g2⟩
  ·rw[H.1]at hb';simp at hb'
 |unit=>intro x cs fo H b hb;rw[H.1]at hb;simp at hb
 |pair a b iha ihb=>
  intro x cs fo H b' hb'
  obtain⟨c1,c2,f1,f2,e,hp,h1,h2⟩:=H
  rcases cZ.1 (hp.mem_iff.1 hb')with h|h
  ·obtain⟨e',g1,g2⟩:=iha h1 b' h;exact⟨e',by simp[K.tys,g1],g2⟩
  ·obtain⟨e',g1,g2⟩:=ihb h2 b' h;exact⟨e',by simp[K.tys,g1],g2⟩
 |st f ih=>intro x cs fo H;exact ih (x:=x) H
 |gap n=>intro x cs fo H b hb;rw[H.1]at hb;simp at hb
theorem nZ{t:Nat}{own bad:List TypeId}:ah t (dV own bad)=true↔ah t own=true/\t∉bad:=by
 rw[fA,fA]
 unfold dV
 rw[iU]
 simp[gq]
theorem FT{own:List TypeId}:∀{k:K} {t:TypeId},t∈k.tys->t∈aZ own k\/ah t own=true:=by
 intro k
 induction k with
 |sl e k ih=>
  intro t ht
  simp only[K.tys,bH]at ht
  cases hm:ah e own with
  |true=>
   rcases ht with ht|ht
   ·subst ht;exact .inr hm
   ·exact(ih ht).imp (λh=>by simp[aZ,hm,h]) id
  |false=>exact .inl (by simpa[aZ,hm]using ht)
 |pair a b iha ihb=>
  intro t ht
  simp only[K.tys,cZ]at ht
  rcases ht with ht|ht
  ·exact(iha ht).imp (λh=>by simp[aZ,h]) id
  ·exact(ihb ht).imp (λh=>by simp[aZ,h]) id
 |st f ih=>intro t ht;exact ih ht
 |_=>intro t ht;simp[K.tys]at ht
theorem QU{own:List TypeId}:∀{k:K} {t:TypeId},t∈aZ own k->t∈k.tys:=by
 intro k
 induction k with
 |sl e k ih=>
  intro t ht
  cases hm:ah e own with
  |true=>simp only[aZ,hm,fJ]at ht;simp[K.tys,ih ht]
  |false=>simpa[aZ,hm,K.tys]using ht
 |pair a b iha ihb=>
  intro t ht
  simp only[aZ,cZ]at ht
  simp only[K.tys,cZ]
  exact ht.imp iha ihb
 |st f ih=>intro t ht;exact ih ht
 |_=>intro t ht;simp[aZ]at ht
section
variable {cx:Cx}{Z:St}{J:aF}{F:List Nat}{a:Act}{w:World}{F':List Nat}{w':World}
theorem BO(H:Rel cx Z J F a w)(hos:w'.os=w.os/\w'.tape=w.tape/\w'.output=w.output)(hsize:w.heap.size<=w'.heap.size)(nT:∀b,b<w.heap.size->hp w' b≠hp w b->b∈F)
  (hnew:∀b∈F',b∈F\/(w.heap.size<=b/\b<w'.heap.size)) (hnd:F'.Nodup):gL cx Z J F w Z J F' w' (λ_=>[]) (λ_=>[]) where
 slots:=rfl
 os:=hos
 size:=hsize
 old:=λr R hr=>⟨R,hr,by
  cases hd:R.bV with
  |true=>exact .inl ⟨rfl,by intro hk;simp[Root.bV,hk]at hd⟩
  |false=>exact .inr ⟨rfl,rfl,rfl,bT _,rfl,rfl,λ_=>rfl,.inr ⟨rfl,rfl,sG ..⟩⟩⟩
 wr:=λr R' _ h=>absurd (sG ..) h
 Y_:=λr R' h1 h2=>by rw[h1]at h2;simp at h2
 oF:=λb hb hne=>.inl (nT b hb hne)
 new:=by
  rintro b (⟨r,R',h1,h2,h3⟩|h)
  ·exact absurd ⟨R',h1,h2⟩ h3
  ·exact(hnew b h).imp id .inl
 gD:=hnd
 dM:=λr R' _ h=>absurd (sG ..) h
 jc:=λr R r' R' _ _ _ h=>absurd (sG ..) h
 base:=by
  intro j pi b o n hj hb hne
  obtain⟨Q,hQ,hk,hl,hs⟩:=H.jT j pi b o n hj hb
  have hbq:b∈blk J Q (aC j):=by simp[blk,aK,hk,hl]
  have hm:=(H.roots _ _ hQ).mine b hbq
  exact absurd (nT b hm.1 hne) (H.dM _ _ hQ b hbq)
 ev:=λr R R' h1 h2 _=>by rw[h1]at h2;simp only[aa]at h2;subst h2;exact⟨rfl,rfl⟩
theorem Rel.mem(H:Rel cx Z J F a w)(T:gL cx Z J F w Z J F' w' (λ_=>[]) (λ_=>[])):Rel cx Z J F' a w':=
 H.turn T (λ_ _ _ h=>absurd (sG ..) h) (λ_ _ _ h=>absurd (sG ..) h) (λ_ _ _ h=>absurd (sG ..) h)
theorem Rel.alloc(H:Rel cx Z J F a w)(o:Obj):Rel cx Z J (w.heap.size :: F) a (w.alloc o)/\gL cx Z J F w Z J (w.heap.size :: F) (w.alloc o) (λ_=>[]) (λ_=>[]):=by
 have hs:(w.alloc o).heap.size=w.heap.size+1:=Array.size_push ..
 have T:gL cx Z J F w Z J (w.heap.size :: F) (w.alloc o) (λ_=>[]) (λ_=>[]):=BO H ⟨rfl,rfl,rfl⟩ (by omega) (λb hb hne=>absurd (zw w o hb) hne)
  (λb hb=>by rcases bH.1 hb with h|h;exact .inr ⟨by omega,by omega⟩;exact .inl h)
  (jB.2 ⟨λh=>by have:=(H.fl _ h).1;omega,H.gD⟩)
 exact⟨H.mem T,T⟩
variable {r:Nat}{R:Root}
theorem rq:gM.bV=true:=rfl
theorem uD{R':Root}{tys:List TypeId}{T:List Tag}(h:∀n,(r,n)∉T):cu (aL Z r R') tys T=cu Z tys T:=by
 induction T with
 |nil=>rfl
 |cons t T ih=>
  obtain⟨q,n⟩:=t
  have hq:q≠r:=λe=>h n (by simp[e])
  have ih':=ih (λn hn=>h n (by simp[hn]))
  simp only[cu]
  rw[ih',jf Z R' hq]
def iC(J:aF)(r:Nat):aF:=aW J r (J.loc r) (J.hdr r) []
theorem kill(H:Rel cx Z J F a w)(hr:aU Z r R)(hk:R.kind=.anon)(hv:cz Z R) :
  Rel cx (aL Z r gM) (iC J r) (J.fo r++F) a w/\gL cx Z J F w (aL Z r gM) (iC J r) (J.fo r++F) w (jG r []) (jG r [])/\
  Held cx (aL Z r gM) (iC J r) (J.fo r++F) w R.k R.x R.own R.tags (J.hdr r) (J.fo r)/\cu (aL Z r gM) (aZ R.own R.k) R.tags=true:=by
 have hb:blk J R r=J.fo r:=by simp[blk,aK,hk]
 have K:=H.roots r R hr
 have hnd:(J.fo r).Nodup:=by rw[<-hb];exact K.nd
 have T1:sH cx Z J F w r R gM [] (J.fo r++F) w [] []:=by
  refine⟨.inl ⟨rfl,by rw[hk];simp⟩,⟨λt ht=>by simp[gM]at ht,λn hn=>by simp[gM]at hn⟩,⟨rfl,rfl,rfl⟩,bT _,λb _ h=>absurd rfl h,λh=>by simp[rq]at h,?_,?_,λh=>by simp[rq]at h,λ_ _ _ _ _ _ _ _ h=>absurd rfl h,λh=>by simp[rq]at h⟩
  ·intro b hb'
   rcases cZ.1 hb' with h|h
   ·exact .inr (.inr ⟨by rw[hb];exact h,.inl rfl⟩)
   ·exact .inl h
  ·exact dA.2 ⟨hnd,H.gD,λb h1 c h2 e=>H.dM r R hr b (by rw[hb];exact h1) (e▸h2)⟩
 have hT:=T1.turn (hdr':=J.hdr r) H hr
 have hnt:=(H.fu r R hr.1).2.2
 have DU:cu (aL Z r gM) (aZ R.own R.k) R.tags=true:=by rw[uD hnt];exact hv.2
 refine⟨T1.rel H hr (λh=>by simp[rq]at h) (λh=>by simp[rq]at h) (λh=>by simp[rq]at h),hT,?_,DU⟩
 refine⟨λhc=>?_,λt ht=>hT.tag ((H.fu r R hr.1).1 t ht),λb hb=>bP _ hb,hnd,K.len⟩
 obtain⟨h1,h2,_⟩:=hT.views H R.tags _ (H.fu r R hr.1).1 hc
 exact dK (λb hb=>(h2 b hb.1 (.inl hb.2)).2) (λb hb=>(h2 b hb.1 (.inl hb.2)).1) (λ_ _=>rfl) (qE _ (λ_ h=>h) (K.ow hv))
theorem al3(H:Rel cx Z J F a w)(hr:aU Z r R)(hk:R.kind≠.par)(hv:cz Z R) :
  Rel cx (aL Z r gM) (iC J r) (blk J R r++F) a w/\gL cx Z J F w (aL Z r gM) (iC J r) (blk J R r++F) w (jG r []) (jG r [])/\
  Held cx (aL Z r gM) (iC J r) (blk J R r++F) w R.k R.x R.own R.tags (J.hdr r) (J.fo r)/\cu (aL Z r gM) (aZ R.own R.k) R.tags=true:=by
 have K:=H.roots r R hr
 have hnd:(blk J R r).Nodup:=K.nd
 have T1:sH cx Z J F w r R gM [] (blk J R r++F) w [] []:=by
  refine⟨.inl ⟨rfl,hk⟩,⟨λt ht=>by simp[gM]at ht,λn hn=>by simp[gM]at hn⟩,⟨rfl,rfl,rfl⟩,bT _,λb _ h=>absurd rfl h,λh=>by simp[rq]at h,?_,?_,λh=>by simp[rq]at h,λ_ _ _ _ _ _ _ _ h=>absurd rfl h,λh=>by simp[rq]at h⟩
  ·intro b hb'
   rcases cZ.1 hb' with h|h
   ·exact .inr (.inr ⟨h,.inl rfl⟩)
   ·exact .inl h
  ·exact dA.2 ⟨hnd,H.gD,λb h1 c h2 e=>H.dM r R hr b h1 (e▸h2)⟩
 have hT:=T1.turn (hdr':=J.hdr r) H hr
 have hnt:=(H.fu r R hr.1).2.2
 have DU:cu (aL Z r gM) (aZ R.own R.k) R.tags=true:=by rw[uD hnt];exact hv.2
 refine⟨T1.rel H hr (λh=>by simp[rq]at h) (λh=>by simp[rq]at h) (λh=>by simp[rq]at h),hT,?_,DU⟩
 refine⟨λhc=>?_,λt ht=>hT.tag ((H.fu r R hr.1).1 t ht),λb hb=>bP _ (bD _ hb),(dA.1 hnd).2.1,K.len⟩
 obtain⟨h1,h2,_⟩:=hT.views H R.tags _ (H.fu r R hr.1).1 hc
 exact dK (λb hb=>(h2 b hb.1 (.inl hb.2)).2) (λb hb=>(h2 b hb.1 (.inl hb.2)).1) (λ_ _=>rfl) (qE _ (λ_ h=>h) (K.ow hv))
theorem zb:∀(p:List Stp) {k:K} {x y:El k},(aA p k x).isSome=(aA p k y).isSome:=by
 intro p
 induction p with
 |nil=>intro k x y;rfl
 |cons s p ih=>
  intro k x y
  cases s with
  |aP n=>
   cases k with
   |st c=>
    simp only[aA]
    have key:∀(n:Nat) {c:K} {x y:El c},(∃s t:Dat,aM n c x=some s/\aM n c y=some t/\s.1=t.1)\/(aM n c x=none/\aM n c y=none):=by
     intro n
     induction n with
     |zero=>intro c x y;cases c<;>first|exact .inl ⟨_,_,rfl,rfl,rfl⟩|exact .inr ⟨rfl,rfl⟩
     |succ n ih=>intro c x y;cases c<;>first|exact ih|exact .inr ⟨rfl,rfl⟩
    rcases key n (c:=c) (x:=x) (y:=y)with⟨s,t,h1,h2,h3⟩|⟨h1,h2⟩
    ·rw[h1,h2]
     obtain⟨sk,sx⟩:=s
     obtain⟨tk,ty⟩:=t
     simp only at h3
     subst h3
     exact ih
    ·rw[h1,h2]
   |_=>simp[aA]
  |idx i=>
   cases k with
   |sl e k=>simp only[aA];exact ih
   |_=>simp[aA]
theorem Uq:∀(n m:Nat) {c:K} {x:El c} {u y:Dat},m≠n->dh n c x u=some y->aM m y.1 y.2=aM m c x:=by
 intro n
 induction n with
 |zero=>
  intro m c x u y hm h
  cases c with
  |pair a b=>
   simp only[dh,aa]at h
   subst h
   cases m with
   |zero=>exact absurd rfl hm
   |succ m=>rfl
  |_=>simp[dh]at h
 |succ n ih=>
  intro m c x u y hm h
  cases c with
  |pair a b=>
   simp only[dh]at h
   cases h4:dh n b x.2 u with
   |none=>rw[h4]at h;simp at h
   |some y2=>
    rw[h4]at h
    simp only[aa]at h
    subst h
    cases m with
    |zero=>rfl
    |succ m=>exact ih m (by omega) h4
  |_=>simp[dh]at h
theorem aaC{bad:List TypeId}:∀(p q:List Stp) {k:K} {x:El k} {t d z:Dat},aA p k x=some d->bJ p k x t=some z->
  (∀q',(aA q' t.1 t.2).isSome=true->(∀e∈az q' t.1,e∉bad)->az q' d.1=az q' t.1/\(aA q' d.1 d.2).isSome=true)->(aA q z.1 z.2).isSome=true->(∀e∈az q z.1,e∉bad)->
   az q k=az q z.1/\(aA q k x).isSome=true:=by
 intro p
 induction p with
 |nil=>
  intro q k x t d z hg hz ht hs hb
  simp only[bJ,aa]at hz
  simp only[aA,aa]at hg
  subst hz
  subst hg
  exact ht q hs hb
 |cons s p ih=>
  intro q k x t d z hg hz ht hs hb
  cases s with
  |aP n=>
   cases k with
   |st c=>
    simp only[aA,bJ]at hg hz
    cases hcg:aM n c x with
    |none=>rw[hcg]at hg;simp at hg
    |some s=>
     rw[hcg]at hg hz
     simp only at hg hz
     cases hs':bJ p s.1 s.2 t with
     |none=>rw[hs']at hz;simp at hz
     |some u=>
      rw[hs']at hz
      simp only at hz
      cases hcp:dh n c x u with
      |none=>rw[hcp]at hz;simp at hz
      |some y=>
       rw[hcp]at hz
       simp only[aa]at hz
       subst hz
       cases q with
       |nil=>exact⟨rfl,rfl⟩
       |cons s2 q=>
        cases s2 with
        |idx i=>simp[aA]at hs
        |aP m=>
         by_cases hmn:m=n
         ·subst hmn
          have e1:aM m y.1 y.2=some u:=Dn m hcp
          have p1:az (.aP m :: q) (.st c)=az q s.1:=by simp[az,jK m hcg]
          have p2:az (.aP m :: q) (.st y.1)=az q u.1:=by simp[az,jK m e1]
          have hs2:(aA (.aP m :: q) (.st y.1) y.2).isSome=true:=hs
          simp only[aA,e1]at hs2
          have hb2:∀e∈az (.aP m :: q) (.st y.1),e∉bad:=hb
          rw[p2]at hb2
          obtain⟨h1,h2⟩:=ih q hg hs' ht hs2 hb2
          refine⟨?_,?_⟩
          ·show az (.aP m :: q) (.st c)=az (.aP m :: q) (.st y.1)
           rw[p1,p2,h1]
          ·simp only[aA,hcg]
           exact h2
         ·have e1:=Uq n m hmn hcp
          have hs2:(aA (.aP m :: q) (.st y.1) y.2).isSome=true:=hs
          simp only[aA,e1]at hs2
          cases hg2:aM m c x with
          |none=>rw[hg2]at hs2;simp at hs2
          |some s2=>
           refine⟨?_,?_⟩
           ·show az (.aP m :: q) (.st c)=az (.aP m :: q) (.st y.1)
            simp only[az,jK m hg2,jK m (e1.trans hg2)]
           ·simp only[aA,hg2]
            rw[hg2]at hs2
            exact hs2
   |_=>simp[aA]at hg
  |idx i=>
   cases k with
   |sl e k=>
    simp only[bJ]at hz
    cases hs':bJ p k ((show List (El k)from x).getD i.toNat k.zero) t with
    |none=>rw[hs']at hz;simp at hz
    |some u=>
     rw[hs']at hz
     simp only at hz
     cases hck:bR u.1 k u.2 with
     |none=>rw[hck]at hz;simp at hz
     |some y=>
      rw[hck]at hz
      simp only[aa]at hz
      subst hz
      exact⟨rfl,by rw[zb q (y:=((show List (El k)from x).set i.toNat y))];exact hs⟩
   |_=>simp[bJ]at hz
theorem zq:∀k:K,k.hole.size=k.size:=by
 intro k
 induction k with
 |pair a b iha ihb=>simp[K.hole,K.size,iha,ihb]
 |st f ih=>simp[K.hole,K.size,ih]
 |_=>rfl
theorem adv{h:Heap}{own:List TypeId}{ok:Nat->Prop}:∀{k:K} {x:El k} {cs:List Value} {fo:List Nat},Ow h own ok k x cs fo->Ow h own ok k.hole (nU k x) cs []:=by
 intro k
 induction k with
 |int ik=>intro x cs fo H;exact⟨rfl,H.2⟩
 |bool=>intro x cs fo H;exact⟨rfl,H.2⟩
 |id e=>intro x cs fo H;exact⟨rfl,H.2⟩
 |str=>intro x cs fo H;exact⟨rfl,H.2⟩
 |sl e k ih=>intro x cs fo H;exact⟨rfl,eO H⟩
 |unit=>intro x cs fo H;exact⟨rfl,H.2⟩
 |pair a b iha ihb=>intro x cs fo H;obtain⟨c1,c2,f1,f2,e,hp,h1,h2⟩:=H;exact⟨c1,c2,[],[],e,.refl _,iha h1,ihb h2⟩
 |st f ih=>intro x cs fo H;exact ih (x:=x) H
 |gap n=>intro x cs fo H;exact⟨rfl,H.2⟩
theorem Uo:∀(n:Nat) {c:K} {x:El c},aM n c.hole (nU c x)=(aM n c x).map mO:=by
 intro n
 induction n with
 |zero=>intro c x;cases c<;>rfl
 |succ n ih=>
  intro c x
  cases c with
  |pair a b=>simp only[K.hole,nU,aM];exact ih
  |_=>rfl
theorem ael:∀(n:Nat) {c:K},bI n c.hole=(bI n c).map λq=>(q.1,q.2.hole):=by
 intro n
 induction n with
 |zero=>intro c;cases c<;>rfl
 |succ n ih=>
  intro c
  cases c with
  |pair a b=>
   simp only[K.hole,bI]
   rw[ih (c:=b)]
   cases bI n b with
   |none=>rfl
   |some q=>simp[zq]
  |_=>rfl
theorem NG{h:Heap}:∀(q:List Stp) {k:K} {x:El k},(aA q k.hole (nU k x)).isSome=true->
  az q k=[]/\az q k.hole=[]/\(aA q k x).isSome=true/\bM q k.hole (nU k x)/\∀cs wh,aN h q k.hole cs wh=aN h q k cs wh:=by
 intro q
 induction q with
 |nil=>intro k x _;exact⟨by simp[az],by simp[az],rfl,trivial,λ_ _=>rfl⟩
 |cons s q ih=>
  intro k x hs
  cases s with
  |idx i=>cases k<;>simp[K.hole,aA]at hs
  |aP n=>
   cases k with
   |st c=>
    have e:aM n c.hole (nU c x)=(aM n c x).map mO:=Uo n
    have hs':(aA (.aP n :: q) (.st c.hole) (nU c x)).isSome=true:=hs
    simp only[aA,e]at hs'
    cases hg:aM n c x with
    |none=>rw[hg]at hs';simp at hs'
    |some s=>
     rw[hg]at hs' e
     simp only[gz,mO]at hs' e
     obtain⟨h1,h2,h3,h4,h5⟩:=ih (k:=s.1) (x:=s.2) hs'
     refine⟨by simp[az,jK n hg,h1],?_,by simp only[aA,hg];exact h3,?_,λcs wh=>?_⟩
     ·show az (.aP n :: q) (.st c.hole)=[]
      simp[az,jK n e,h2]
     ·show bM (.aP n :: q) (.st c.hole) (nU c x)
      simp only[bM,e]
      exact h4
     ·show aN h (.aP n :: q) (.st c.hole) cs wh=_
      simp only[aN]
      rw[ael n]
      cases ho:bI n c with
      |none=>rfl
      |some w=>
       simp only[gz]
       have hk:w.2=s.1:=by
        have key:∀(n:Nat) {c:K} {x:El c} {s:Dat} {q:Nat×K},aM n c x=some s->bI n c=some q->q.2=s.1:=by
         intro n
         induction n with
         |zero=>intro c x s q h1 h2;cases c with
          |pair a b=>simp only[aM,bI,aa]at h1 h2;subst h1;subst h2;rfl
          |_=>simp[aM]at h1
         |succ n ih=>intro c x s q h1 h2;cases c with
          |pair a b=>
           simp only[aM,bI]at h1 h2
           cases h3:bI n b with
           |none=>rw[h3]at h2;simp at h2
           |some q3=>rw[h3]at h2;simp only[aa]at h2;subst h2;exact ih (q:=q3) h1 h3
          |_=>simp[aM]at h1
        exact key n (c:=c) hg ho
       obtain⟨w1,w2⟩:=w
       simp only at hk
       subst hk
       simp only[zq]
       exact h5 _ _
   |_=>simp[K.hole,aA]at hs
theorem ahE:∀(q:List Stp) {k:K} {x y:El k},az q k=[]->(aA q k x).isSome=true->az q k.hole=[]/\(aA q k.hole (nU k y)).isSome=true:=by
 intro q
 induction q with
 |nil=>intro k x y _ _;exact⟨by simp[az],rfl⟩
 |cons s q ih=>
  intro k x y h0 hs
  cases s with
  |idx i=>cases k<;>simp[az,aA]at h0 hs
  |aP n=>
   cases k with
   |st c=>
    simp only[aA]at hs
    cases hg:aM n c x with
    |none=>rw[hg]at hs;simp at hs
    |some s=>
     rw[hg]at hs
     simp only at hs
     have hp2:az (.aP n :: q) (.st c)=az q s.1:=by simp[az,jK n hg]
     rw[hp2]at h0
     have key:∀(n:Nat) {c:K} {x y:El c} {s:Dat},aM n c x=some s->∃t:Dat,aM n c y=some t/\t.1=s.1:=by
      intro n
      induction n with
      |zero=>intro c x y s h;cases c<;>first|(simp only[aM,aa]at h;subst h;exact⟨_,rfl,rfl⟩)|simp[aM]at h
      |succ n ih=>intro c x y s h;cases c<;>first|exact ih h|simp[aM]at h
     obtain⟨t,g1,g2⟩:=key n (c:=c) (y:=y) hg
     obtain⟨sk,sx⟩:=s
     obtain⟨tk,ty⟩:=t
     simp only at g2
     subst g2
     obtain⟨h1,h2⟩:=ih (y:=ty) h0 hs
     have e:aM n c.hole (nU c y)=some (mO ⟨tk,ty⟩):=by rw[Uo n,g1];rfl
     refine⟨?_,?_⟩
     ·show az (.aP n :: q) (.st c.hole)=[]
      simp[az,jK n e,mO,h1]
     ·show(aA (.aP n :: q) (.st c.hole) (nU c y)).isSome=true
      simp only[aA,e]
      exact h2
   |_=>simp[aA]at hs
theorem aoM{own:List TypeId}:∀k:K,aZ own k.hole=[]:=by
 intro k
 induction k with
 |pair a b iha ihb=>simp[K.hole,aZ,iha,ihb]
 |st f ih=>exact ih
 |_=>rfl
theorem cells_eq{h:Heap}{b o:Nat}{cs cs':List Value}(h1:Cells h b o cs)(h2:Cells h b o cs')(hl:cs'.length=cs.length):cs'=cs:=by
 apply CX 
 intro i
 by_cases hi:i<cs.length
 ·rw[<-h1 i hi,<-h2 i (by omega)]
 ·rw[qD (by omega),qD (by omega)]
theorem Qv:∀(p:List Stp) {k:K} {x:El k} {t d z:Dat},aA p k x=some d->t.1.size=d.1.size->bJ p k x t=some z->z.1.size=k.size:=by
 intro p
 induction p with
 |nil=>
  intro k x t d z hg hs hz
  simp only[aA,bJ,aa]at hg hz
  subst hg;subst hz;exact hs
 |cons s p ih=>
  intro k x t d z hg hs hz
  cases s with
  |aP n=>
   cases k with
   |st c=>
    simp only[aA,bJ]at hg hz
    cases hcg:aM n c x with
    |none=>rw[hcg]at hg;simp at hg
    |some s=>
     rw[hcg]at hg hz
     simp only at hg hz
     cases hs':bJ p s.1 s.2 t with
     |none=>rw[hs']at hz;simp at hz
     |some u=>
      rw[hs']at hz
      simp only at hz
      cases hcp:dh n c x u with
      |none=>rw[hcp]at hz;simp at hz
      |some y=>
       rw[hcp]at hz
       simp only[aa]at hz
       subst hz
       have hu:=ih hg hs hs'
       have key:∀(n:Nat) {c:K} {x:El c} {s u y:Dat},aM n c x=some s->dh n c x u=some y->u.1.size=s.1.size->y.1.size=c.size:=by
        intro n
        induction n with
        |zero=>
         intro c x s u y h1 h2 e
         cases c with
         |pair a b=>simp only[aM,dh,aa]at h1 h2;subst h1;subst h2;simp only at e;simp[K.size,e]
         |_=>simp[aM]at h1
        |succ n ih=>
         intro c x s u y h1 h2 e
         cases c with
         |pair a b=>
          simp only[aM,dh]at h1 h2
          cases h3:dh n b x.2 u with
          |none=>rw[h3]at h2;simp at h2
          |some y2=>rw[h3]at h2;simp only[aa]at h2;subst h2;simp[K.size,ih h1 h3 e]
         |_=>simp[aM]at h1
       show y.1.size=c.size
       exact key n (c:=c) hcg hcp hu
   |_=>simp[aA]at hg
  |idx i=>
   cases k with
   |sl e k=>
    simp only[bJ]at hz
    cases hs':bJ p k ((show List (El k)from x).getD i.toNat k.zero) t with
    |none=>rw[hs']at hz;simp at hz
    |some u=>
     rw[hs']at hz
     simp only at hz
     cases hck:bR u.1 k u.2 with
     |none=>rw[hck]at hz;simp at hz
     |some y=>rw[hck]at hz;simp only[aa]at hz;subst hz;rfl
   |_=>simp[aA]at hg
theorem Ct{R R':Root}(h:R'.kind=R.kind)(loc:Nat×Nat):kX R' loc=kX R loc:=by unfold kX;rw[h]
theorem w_{R R':Root}(h:R'.kind=R.kind)(loc:Nat×Nat)(fo:List Nat):iF R' loc fo=iF R loc fo:=by unfold iF;rw[h]
theorem Uf(R:Root)(loc:Nat×Nat)(fo:List Nat):iF R loc fo=(match kX R loc with
 |some q=>[q.1]
 |none=>[])++fo:=by unfold iF kX;cases R.kind<;>rfl
theorem kW{R:Root}{loc:Nat×Nat}{fo:List Nat}{b:Nat}:b∈iF R loc fo↔(∃o,kX R loc=some (b,o))\/b∈fo:=by
 rw[Uf]
 cases h:kX R loc with
 |none=>simp
 |some q=>obtain⟨b0,o0⟩:=q;simp;constructor<;>(intro h;rcases h with h|h<;>simp_all)
theorem rJ{R:Root}{loc:Nat×Nat}{fo:List Nat}:(iF R loc fo).Nodup↔(∀b o,kX R loc=some (b,o)->b∉fo)/\fo.Nodup:=by
 rw[Uf]
 cases h:kX R loc with
 |none=>simp
 |some q=>obtain⟨b0,o0⟩:=q;simp[jB]
theorem aim{R R':Root}(h:R'.kind=R.kind):R'.bV=R.bV:=by unfold Root.bV;rw[h]
theorem TF{k k':K}{v:Value}{cs:List Value}(h:jL k'=jL k):VC k' v cs↔VC k v cs:=by
 cases k<;>cases k'<;>first|exact Iff.rfl|simp[jL]at h
theorem aam{p:List Stp}{k:K}{x:El k}{t z:Dat}(hp:p≠[])(hz:bJ p k x t=some z):jL z.1=jL k:=by
 cases p with
 |nil=>exact absurd rfl hp
 |cons s p=>
  cases s with
  |aP n=>
   cases k with
   |st c=>
    simp only[bJ]at hz
    cases hcg:aM n c x with
    |none=>rw[hcg]at hz;simp at hz
    |some s=>
     rw[hcg]at hz
     simp only at hz
     cases hs':bJ p s.1 s.2 t with
     |none=>rw[hs']at hz;simp at hz
     |some u=>
      rw[hs']at hz
      simp only at hz
      cases hcp:dh n c x u with
      |none=>rw[hcp]at hz;simp at hz
      |some y=>rw[hcp]at hz;simp only[aa]at hz;subst hz;rfl
   |_=>simp[bJ]at hz
  |idx i=>
   cases k with
   |sl e k=>
    simp only[bJ]at hz
    cases hs':bJ p k ((show List (El k)from x).getD i.toNat k.zero) t with
    |none=>rw[hs']at hz;simp at hz
    |some u=>
     rw[hs']at hz
     simp only at hz
     cases hck:bR u.1 k u.2 with
     |none=>rw[hck]at hz;simp at hz
     |some y=>rw[hck]at hz;simp only[aa]at hz;subst hz;rfl
   |_=>simp[bJ]at hz
theorem agb(k:K):k.tys≠[]\/qJ k++k.tys≠[]:=by
 unfold qJ
 cases k.tys with
 |nil=>exact .inr (by simp)
 |cons a l=>exact .inl (by simp)
def jv(R:Root)(d:Dat)(z:Dat):Root:={ R with k:=z.1,x:=z.2,w:=d.1.tys++R.w,h:=qJ d.1++d.1.tys++R.h }
def ku(R:Root)(d:Dat)(z:Dat)(own':List TypeId):Root:={ jv R d z with own:=own' }
theorem xO:∀(q:List Stp) {k:K},∀t∈az q k,t∈k.tys:=by
 intro q
 induction q with
 |nil=>intro k t ht;simp[az]at ht
 |cons s q ih=>
  intro k t ht
  cases s with
  |aP n=>
   cases k with
   |st c=>
    simp only[az]at ht
    cases hc:az.jQ n c with
    |none=>rw[hc]at ht;simp at ht
    |some k'=>
     rw[hc]at ht
     have h1:=ih t ht
     have:∀(n:Nat) {c k':K},az.jQ n c=some k'->∀t∈k'.tys,t∈c.tys:=by
      intro n
      induction n with
      |zero=>
       intro c k' h t ht
       cases c with
       |pair a b=>simp only[az.jQ,aa]at h;subst h;simp[K.tys,ht]
       |_=>simp[az.jQ]at h
      |succ n ih=>
       intro c k' h t ht
       cases c with
       |pair a b=>simp only[az.jQ]at h;simp[K.tys,ih h t ht]
       |_=>simp[az.jQ]at h
     exact this n hc t h1
   |_=>simp[az]at ht
  |idx i=>
   cases k with
   |sl e k=>
    simp only[az,bH]at ht
    rcases ht with h|h
    ·simp[K.tys,h]
    ·simp[K.tys,ih t h]
   |_=>simp[az]at ht
theorem Ve{own':List TypeId}(H:Rel cx Z J F a w)(hr:aU Z r R)(hv:cz Z R){p:List Stp}{d z:Dat}(hg:aA p R.k R.x=some d)(hz:bJ p R.k R.x (mO d)=some z)(b_:bM p R.k R.x)
  (hown:∀t∈az p R.k,ah t R.own=true) (hpv:p≠[]\/∃t,R.kind=.var t) (hso:∀t∈z.1.tys,ah t own'=ah t R.own) :
  ∃cs1 bZ aS rest,aN (hp w) p R.k (J.hdr r) (aK J R r)=some (cs1,bZ)/\
   Rel cx (aL Z r (ku R d z own')) (aW J r (J.loc r) (J.hdr r) rest) (aS++F) a w/\
   gL cx Z J F w (aL Z r (ku R d z own')) (aW J r (J.loc r) (J.hdr r) rest) (aS++F) w (jG r d.1.tys) (jG r (qJ d.1++d.1.tys))/\
   Held cx (aL Z r (ku R d z own')) (aW J r (J.loc r) (J.hdr r) rest) (aS++F) w d.1 d.2 R.own R.tags cs1 aS/\(∀tys,cu (aL Z r (ku R d z own')) tys R.tags=cu Z tys R.tags)/\(J.fo r).Perm (aS++rest):=by
 have K:=H.roots r R hr
 have hnd:=K.nd
 rw[iN,rJ]at hnd
 have hO:=K.ow hv
 obtain⟨cs1,aS,rest,bZ,hn,hp1,hd1,hc1,hin,hnone,hup⟩:=focus p hO (λb o e=>(K.mem b o e).1) hg b_ hown hnd.2 (λb o e=>hnd.1 b o e)
 have hnt:=(H.fu r R hr.1).2.2
 have hl1:=eO hd1
 obtain⟨cs',hl',lC,hC',hN',hK'⟩:=hup.go (hp w) (aO cx Z J F w R.tags) (mO d) cs1 [] z hz hl1 (adv hd1) (λb hb=>⟨hb,rfl⟩) (λ_ _ _=>rfl)
  (λb o e=>⟨hc1 b o e,by
   have:∃arr te fr,hp w b=some (.cells arr te fr):=by
    rcases hin b o e with⟨_,o0,ew,_⟩|⟨_,arr,te,lo,hi,h1,_⟩
    ·obtain⟨_,arr,te,lo,hi,h1,_⟩:=K.mem b o0 ew;exact⟨arr,te,_,h1⟩
    ·exact⟨arr,te,_,h1⟩
   obtain⟨arr,te,fr,h1⟩:=this
   exact j_.of_same _ _ h1 rfl⟩) (λ_=>rfl) (λ_ _ _ _=>rfl)
 have hcs:cs'=J.hdr r:=by
  cases hw:aK J R r with
  |none=>exact hN' hw
  |some q=>exact cells_eq (K.mem q.1 q.2 hw).1 (hC' q.1 q.2 hw) hl'
 rw[hcs,jq]at lC
 replace lC:=q8 hso lC
 obtain⟨_,_,Vj,_⟩:=hK' d.1.tys (zq d.1) (λq c0 w0 hq _ hn0 hs=>by
  obtain⟨_,_,_,h3,h4⟩:=NG (h:=hp w) q (x:=d.2) hs
  exact⟨h3,c0,by rw[<-hn0];exact h4 cs1 bZ⟩)
 rw[hcs]at Vj
 have hkind:(ku R d z own').kind=R.kind:=rfl
 have agV:(ku R d z own').bV=false:=hr.2
 have Bi:∀b,b∈J.fo r↔b∈aS\/b∈rest:=λb=>by rw[hp1.mem_iff,cZ]
 have xA:=hp1.nodup hnd.2
 have hsz:z.1.size=R.k.size:=Qv p (t:=mO d) hg (zq d.1) hz
 have T1:sH cx Z J F w r R (ku R d z own') rest (aS++F) w d.1.tys (qJ d.1++d.1.tys):=by
  refine⟨.inr ⟨rfl,rfl,bT _,rfl,λ_=>hsz,agb d.1⟩,⟨(H.fu r R hr.1).1,hnt⟩,⟨rfl,rfl,rfl⟩,bT _,λb _ h=>absurd rfl h,?_,?_,?_,?_,λ_ _ _ _ _ _ _ _ h=>absurd rfl h,λ_=>⟨rfl,rfl⟩⟩
  ·intro _ b hb
   rw[w_ hkind,kW]at hb
   refine .inl ?_
   rw[iN,kW,Bi]
   exact hb.imp id .inr
  ·intro b hb
   rcases cZ.1 hb with h|h
   ·refine .inr (.inr ⟨by rw[iN,kW,Bi];exact .inr (.inl h),.inr (.inl ?_)⟩)
    obtain⟨e,h1,_,h2⟩:=yG hd1 b h
    exact⟨e,h1,h2⟩
   ·exact .inl h
  ·refine dA.2 ⟨(dA.1 xA).1,H.gD,λb h1 c h2 e=>H.dM r R hr b ?_ (e▸h2)⟩
   rw[iN,kW,Bi]
   exact .inr (.inl h1)
  ·intro _ b hb hF
   rw[w_ hkind,kW]at hb
   rcases cZ.1 hF with h|h
   ·rcases hb with⟨o,hb⟩|hb
    ·exact hnd.1 b o hb ((Bi b).2 (.inl h))
    ·exact(dA.1 xA).2.2 b h b hb rfl
   ·refine H.dM r R hr b ?_ h
    rw[iN,kW,Bi]
    exact hb.imp id .inr
 have hT:=T1.turn (hdr':=J.hdr r) H hr
 have DU:∀tys,cu (aL Z r (ku R d z own')) tys R.tags=cu Z tys R.tags:=λtys=>uD hnt
 refine⟨cs1,bZ,aS,rest,hn,T1.rel H hr ?_ ?_ ?_,hT,?_,DU,hp1⟩
 ·intro _
  refine⟨λhv'=>?_,by rw[K.len];exact hsz.symm,?_,?_⟩
  ·obtain⟨h1,h2,_⟩:=hT.views H R.tags _ (H.fu r R hr.1).1 hv'.2
   exact dK (λb hb=>(h2 b hb.1 (.inl hb.2)).2) (λb hb=>(h2 b hb.1 (.inl hb.2)).1) (λ_ _=>rfl) (qE _ (λ_ h=>h) lC)
  ·intro b o hb
   have:(ku R d z own').k.size=R.k.size:=hsz
   rw[this]
   exact K.mem b o hb
  ·rw[w_ hkind,rJ]
   exact⟨λb o e hb=>hnd.1 b o e ((Bi b).2 (.inr hb)),(dA.1 xA).2.1⟩
 ·intro _ q n v hn' hold
  refine⟨hold.1,?_⟩
  intro Q hQ lF hcl hty hsome
  have hQ':Q=ku R d z own':=by
   rw[fF]at hQ
   simpa using hQ.symm
  subst hQ'
  have Ec:aK (aW J r (J.loc r) (J.hdr r) rest) (ku R d z own') r=aK J R r:=by rw[t_,Ct hkind,<-x8]
  have zl:(aW J r (J.loc r) (J.hdr r) rest).hdr r=J.hdr r:=by simp[aW,upd_same]
  have hh:(ku R d z own').h=(qJ d.1++d.1.tys)++R.h:=rfl
  rw[hh,yS hn']at hcl
  by_cases hq:q=[]
  case neg=>
   have hpt:∀k,iD q k=iZ :: az q k:=by
    intro k
    cases q with
    |nil=>exact absurd rfl hq
    |cons s q=>rfl
   rw[hpt]at hcl
   obtain⟨k1,k2⟩:=aaC (bad:=d.1.tys) p q hg hz (λq' h _=>let ⟨h1,h2,h3,_⟩:=NG (h:=hp w) q' (x:=d.2) h;⟨h1.trans h2.symm,h3⟩) hsome (λe he hm=>hcl.1 e (bD _ hm) (ji _ he))
   have k1':az q R.k=az q (ku R d z own').k:=k1
   have hty':∀t∈az q R.k,ah t R.own=true:=λt ht=>by
    have ht':t∈az q z.1:=k1▸ht
    rw[<-hso t (xO q t ht')]
    exact hty t ht'
   rw[<-k1']at hcl
   obtain⟨g1,cs,b,o,g2,g3⟩:=hold.2 R hr.1 hv (by rw[hpt];exact hcl.2) hty' k2
   obtain⟨f1,c1,f2⟩:=Vj q cs (some (b,o)) g1 (λt ht=>⟨hty' t ht,λhm=>hcl.1 t (bD _ hm) (ji _ ht)⟩) g2 hsome
   rw[Ec,zl]
   exact⟨f1,c1,b,o,f2,g3⟩
  subst hq
  obtain⟨_,cs,b,o,h1,h2⟩:=hold.2 R hr.1 hv (by simp[clean,iD,ah]) (λt ht=>by simp[az]at ht) rfl
  simp only[aN,aa,bK]at h1
  refine⟨trivial,(aW J r (J.loc r) (J.hdr r) rest).hdr r,b,o,?_,h2⟩
  simp only[aN]
  rw[t_,Ct hkind,<-x8,h1.2]
 ·intro _ g v hg' hold Q hQ Bf
  obtain⟨hQ',_⟩:=nE hQ
  subst hQ'
  obtain⟨h1,h2⟩:=hold R hr Bf
  refine⟨h1,?_⟩
  have:(aW J r (J.loc r) (J.hdr r) rest).hdr r=J.hdr r:=by simp[aW,upd_same]
  rw[this]
  rcases hpv with hp|⟨t,ht⟩
  ·
   cases p with
   |nil=>exact absurd rfl hp
   |cons s p=>
    exact(TF (aam (by simp) hz)).2 h2
  ·rw[ht]at h1;simp at h1
 ·refine⟨λhc=>?_,λt ht=>hT.tag ((H.fu r R hr.1).1 t ht),λb hb=>bP _ hb,(dA.1 xA).1,hl1⟩
  obtain⟨h1,h2,_⟩:=hT.views H R.tags _ (H.fu r R hr.1).1 hc
  exact dK (λb hb=>(h2 b hb.1 (.inl hb.2)).2) (λb hb=>(h2 b hb.1 (.inl hb.2)).1) (λ_ _=>rfl) (qE _ (λ_ h=>h) hd1)
theorem gap(H:Rel cx Z J F a w)(hr:aU Z r R)(hv:cz Z R){p:List Stp}{d z:Dat}(hg:aA p R.k R.x=some d)(hz:bJ p R.k R.x (mO d)=some z)(b_:bM p R.k R.x)
  (hown:∀t∈az p R.k,ah t R.own=true) (hpv:p≠[]\/∃t,R.kind=.var t) :
  ∃cs1 bZ aS rest,aN (hp w) p R.k (J.hdr r) (aK J R r)=some (cs1,bZ)/\
   Rel cx (aL Z r (jv R d z)) (aW J r (J.loc r) (J.hdr r) rest) (aS++F) a w/\
   gL cx Z J F w (aL Z r (jv R d z)) (aW J r (J.loc r) (J.hdr r) rest) (aS++F) w (jG r d.1.tys) (jG r (qJ d.1++d.1.tys))/\
   Held cx (aL Z r (jv R d z)) (aW J r (J.loc r) (J.hdr r) rest) (aS++F) w d.1 d.2 R.own R.tags cs1 aS/\(∀tys,cu (aL Z r (jv R d z)) tys R.tags=cu Z tys R.tags)/\(J.fo r).Perm (aS++rest):=
 Ve (own':=R.own) H hr hv hg hz b_ hown hpv (λ_ _=>rfl)
end
end
section
open Go
variable [Fr]
theorem aoL{own own':List TypeId}:∀{k:K},(∀t∈k.tys,ah t own'=true->ah t own=true)->∀t∈aZ own k,t∈aZ own' k:=by
 intro k
 induction k with
 |sl e k ih=>
  intro h t ht
  cases hm':ah e own' with
  |true=>
   have hm:=h e (by simp[K.tys]) hm'
   simp only[aZ,hm,fJ]at ht
   simp only[aZ,hm',fJ]
   exact ih (λt ht=>h t (by simp[K.tys,ht])) t ht
  |false=>
   have:=QU ht
   simpa[aZ,hm',K.tys]using this
 |pair a b iha ihb=>
  intro h t ht
  simp only[aZ,cZ]at ht ⊢
  exact ht.imp (iha (λt ht=>h t (by simp[K.tys,ht])) t) (ihb (λt ht=>h t (by simp[K.tys,ht])) t)
 |st f ih=>intro h t ht;exact ih h t ht
 |_=>intro _ t ht;simp[aZ]at ht
theorem aen{own:List TypeId}:∀(n:Nat) {c:K} {x:El c} {s u y:Dat},aM n c x=some s->dh n c x u=some y->
  (∀e∈aZ own u.1,e∈aZ own y.1)/\((∀e∈aZ own s.1,e∈aZ own u.1)->∀e∈aZ own c,e∈aZ own y.1):=by
 intro n
 induction n with
 |zero=>
  intro c x s u y hg hp
  cases c with
  |pair a b=>
   simp only[aM,dh,aa]at hg hp
   subst hg;subst hp
   refine⟨λe he=>by simp[aZ,he],λh e he=>?_⟩
   simp only[aZ,cZ]at he ⊢
   exact he.imp (h e) id
  |_=>simp[aM]at hg
 |succ n ih=>
  intro c x s u y hg hp
  cases c with
  |pair a b=>
   simp only[aM,dh]at hg hp
   cases h3:dh n b x.2 u with
   |none=>rw[h3]at hp;simp at hp
   |some y2=>
    rw[h3]at hp
    simp only[aa]at hp
    subst hp
    obtain⟨g1,g2⟩:=ih hg h3
    refine⟨λe he=>by simp[aZ,g1 e he],λh e he=>?_⟩
    simp only[aZ,cZ]at he ⊢
    exact he.imp id (g2 h e)
  |_=>simp[aM]at hg
theorem aaS{own:List TypeId}:∀(p:List Stp) {k:K} {x:El k} {d t z:Dat},aA p k x=some d->bJ p k x t=some z->
  (∀e∈aZ own t.1,e∈aZ own z.1\/∃q∈az p k,ah q own=false)/\((∀e∈aZ own d.1,e∈aZ own t.1)->∀e∈aZ own k,e∈aZ own z.1):=by
 intro p
 induction p with
 |nil=>
  intro k x d t z hg hz
  simp only[aA,bJ,aa]at hg hz
  subst hg;subst hz
  exact⟨λe he=>.inl he,λh=>h⟩
 |cons s p ih=>
  intro k x d t z hg hz
  cases s with
  |aP n=>
   cases k with
   |st c=>
    simp only[aA,bJ]at hg hz
    cases hcg:aM n c x with
    |none=>rw[hcg]at hg;simp at hg
    |some s=>
     rw[hcg]at hg hz
     simp only at hg hz
     cases hs':bJ p s.1 s.2 t with
     |none=>rw[hs']at hz;simp at hz
     |some u=>
      rw[hs']at hz
      simp only at hz
      cases hcp:dh n c x u with
      |none=>rw[hcp]at hz;simp at hz
      |some y=>
       rw[hcp]at hz
       simp only[aa]at hz
       subst hz
       obtain⟨g1,g2⟩:=ih hg hs'
       obtain⟨f1,f2⟩:=aen (own:=own) n hcg hcp
       have hpt:az (.aP n :: p) (.st c)=az p s.1:=by simp[az,jK n hcg]
       rw[hpt]
       exact⟨λe he=>(g1 e he).imp (f1 e) id,λh=>f2 (g2 h)⟩
   |_=>simp[aA]at hg
  |idx i=>
   cases k with
   |sl e k=>
    simp only[aA,bJ]at hg hz
    cases hs':bJ p k ((show List (El k)from x).getD i.toNat k.zero) t with
    |none=>rw[hs']at hz;simp at hz
    |some u=>
     rw[hs']at hz
     simp only at hz
     cases hck:bR u.1 k u.2 with
     |none=>rw[hck]at hz;simp at hz
     |some y=>
      rw[hck]at hz
      simp only[aa]at hz
      subst hz
      obtain⟨g1,g2⟩:=ih hg hs'
      have huk:u.1=k:=by
       unfold bR at hck
       split at hck
       ·rename_i hb;exact K.eq_of_beq hb
       ·simp at hck
      refine⟨λe' he=>?_,λ_ e' he=>he⟩
      cases hm:ah e own with
      |false=>exact .inr ⟨e,by simp[az],hm⟩
      |true=>
       rcases g1 e' he with h|⟨q,h1,h2⟩
       ·exact .inl (by simp only[aZ,hm,fJ];rw[<-huk];exact h)
       ·exact .inr ⟨q,by simp[az,h1],h2⟩
   |_=>simp[aA]at hg
theorem aei:∀(n:Nat) {c:K} {x y:El c} {s:Dat},aM n c x=some s->∃t:Dat,aM n c y=some t/\t.1=s.1:=by
 intro n
 induction n with
 |zero=>
  intro c x y s h
  cases c<;>first|(simp only[aM,aa]at h;subst h;exact⟨_,rfl,rfl⟩)|simp[aM]at h
 |succ n ih=>
  intro c x y s h
  cases c<;>first|exact ih h|simp[aM]at h
theorem aej:∀(n:Nat) {c:K} {x:El c} {s:Dat},aM n c x=some s->∀t∈s.1.tys,t∈c.tys:=by
 intro n
 induction n with
 |zero=>
  intro c x s h t ht
  cases c with
  |pair a b=>simp only[aM,aa]at h;subst h;simp[K.tys,ht]
  |_=>simp[aM]at h
 |succ n ih=>
  intro c x s h t ht
  cases c with
  |pair a b=>simp only[aM]at h;simp[K.tys,ih h t ht]
  |_=>simp[aM]at h
theorem Fe{h h':Heap}{own:List TypeId}:∀(q:List Stp) {k:K} {x y:El k} {cs cs':List Value} {wh:Option (Nat×Nat)} {c0:List Value} {w0:Option (Nat×Nat)},
  bM q k x->(∀t∈az q k,ah t own=true/\t∉k.tys)->aN h q k cs wh=some (c0,w0)->bM q k y/\∃c1,aN h' q k cs' wh=some (c1,w0):=by
 intro q
 induction q with
 |nil=>
  intro k x y cs cs' wh c0 w0 _ _ hn
  simp only[aN,aa,bK]at hn ⊢
  exact⟨trivial,_,rfl,hn.2⟩
 |cons s q ih=>
  intro k x y cs cs' wh c0 w0 hp ht hn
  cases s with
  |aP n=>
   cases k with
   |st c=>
    simp only[bM]at hp
    cases hg:aM n c x with
    |none=>rw[hg]at hp;exact hp.elim
    |some s=>
     rw[hg]at hp
     simp only at hp
     have hpt:az (.aP n :: q) (.st c)=az q s.1:=by simp[az,jK n hg]
     rw[hpt]at ht
     obtain⟨t,g1,g2⟩:=aei n (c:=c) (x:=x) (y:=y) hg
     obtain⟨sk,sx⟩:=s
     obtain⟨tk,ty⟩:=t
     simp only at g2
     subst g2
     simp only[aN]at hn ⊢
     cases ho:bI n c with
     |none=>rw[ho]at hn;simp at hn
     |some q2=>
      rw[ho]at hn
      simp only at hn
      have hk2:q2.2=tk:=by
       have key:∀(n:Nat) {c:K} {x:El c} {s:Dat} {q:Nat×K},aM n c x=some s->bI n c=some q->q.2=s.1:=by
        intro n
        induction n with
        |zero=>intro c x s q h1 h2;cases c with
         |pair a b=>simp only[aM,bI,aa]at h1 h2;subst h1;subst h2;rfl
         |_=>simp[aM]at h1
        |succ n ih=>intro c x s q h1 h2;cases c with
         |pair a b=>
          simp only[aM,bI]at h1 h2
          cases h3:bI n b with
          |none=>rw[h3]at h2;simp at h2
          |some q3=>rw[h3]at h2;simp only[aa]at h2;subst h2;exact ih (q:=q3) h1 h3
         |_=>simp[aM]at h1
       exact key n hg ho
      obtain⟨o2,k2⟩:=q2
      simp only at hk2
      subst hk2
      simp only[bM,g1]
      exact ih hp (λt h=>⟨(ht t h).1,λh2=>(ht t h).2 (aej n hg t h2)⟩) hn
   |_=>simp[bM]at hp
  |idx i=>
   cases k with
   |sl e k=>exact absurd (by simp[K.tys]) (ht e (by simp[az])).2
   |_=>simp[bM]at hp
theorem Cv{h:Heap}{b o n:Nat}{arr:Array Value}{e:TypeId}{fr:Nat×Nat}(hb:h b=some (.cells arr e fr))(hl:o+n<=arr.size):Cells h b o (gZ h b o n):=by
 intro i hi
 simp only[gZ,oz,List.length_range]at hi ⊢
 rw[CY,Tj hi]
 simp only[gz]
 unfold cellAt
 rw[hb]
 simp[show o+i<arr.size by omega]
theorem j_.widen{h0 h h':Heap}{b o n o' n':Nat}(H0:j_ h0 h b o n)(H:j_ h h' b o' n')(h1:o<=o')(h2:o'+n'<=o+n):j_ h0 h' b o n:=by
 obtain⟨a0,a1,e,fr,g1,g2,g3,g4⟩:=H0
 obtain⟨b0,b1,e',fr',f1,f2,f3,f4⟩:=H
 rw[g2]at f1
 simp only[aa,Obj.cells.injEq]at f1
 obtain⟨rfl,rfl,rfl⟩:=f1
 exact⟨a0,b1,e,fr,g1,f2,f3.trans g3,λi hi=>(f4 i (by omega)).trans (g4 i hi)⟩
theorem kF{l m:List Tag}{t:Tag}:t∈jS l m↔t∈l\/t∈m:=by
 induction l with
 |nil=>simp[jS]
 |cons s l ih=>
  obtain⟨r,n⟩:=s
  simp only[jS]
  cases h:m.any λt=>Nat.beq t.1 r&&Nat.beq t.2 n with
  |true=>
   simp only[fJ,ih,bH]
   constructor
   ·intro h;exact h.imp .inr id
   ·rintro((h1|h1)|h1)
    ·subst h1
     obtain⟨t,h2,h3⟩:=List.any_eq_true.1 h
     simp only[bg]at h3
     obtain⟨tr,tn⟩:=t
     have:=a_ h3.1
     have:=a_ h3.2
     simp_all
    ·exact .inl h1
    ·exact .inr h1
  |false=>simp only[jr,ih,bH,or_assoc]
theorem wm{r:Nat}{l:List Tag}{t:Tag}:t∈qd r l↔t∈l/\t.1≠r:=by
 unfold qd
 rw[iU]
 constructor
 ·rintro⟨h1,h2⟩
  refine⟨h1,λe=>?_⟩
  rw[e]at h2
  simp at h2
 ·rintro⟨h1,h2⟩
  refine⟨h1,?_⟩
  cases hb:Nat.beq t.1 r with
  |true=>exact absurd (a_ hb) h2
  |false=>rfl
section
variable {cx:Cx}{Z:St}{J:aF}{F:List Nat}{a:Act}{w:World}{r:Nat}{R:Root}
theorem zM{T T':List Tag}{b:Nat}(h:aO cx Z J F w T b)(hs:∀t∈T,t∈T'):aO cx Z J F w T' b:=
 ⟨h.1,h.2.1,h.2.2.1,λr R h1 h2=>by obtain⟨n,hn⟩:=h.2.2.2.1 r R h1 h2;exact⟨n,hs _ hn⟩,λhb=>(h.2.2.2.2 hb).imp (λ⟨j,n,h1,h2⟩=>⟨j,n,hs _ h1,h2⟩) id⟩
theorem yR{T T':List Tag}{tys aaM:List TypeId}(h:cu Z tys T=true)(hs:∀t∈T',t∈T)(ht:∀t∈aaM,t∈tys):cu Z aaM T'=true:=by
 rw[vG]at h ⊢
 intro t h1
 rcases h t (hs t h1)with h|⟨R,h2,h3,h4⟩
 ·exact .inl h
 ·refine .inr ⟨R,h2,h3,?_⟩
  unfold clean at h4 ⊢
  rw[dX]at h4 ⊢
  intro x hx
  have:=h4 x hx
  simp only[jU,gq]at this ⊢
  exact λh=>this (ht x h)
theorem xu(H:Rel cx Z J F a w)(hr:aU Z r R){b:Nat}(hb:b∈J.fo r):¬kV cx b:=by
 rintro⟨j,pi,o,n,h1,h2⟩
 obtain⟨Q,hQ,hk,hl,_⟩:=H.jT j pi b o n h1 h2
 have hbq:b∈blk J Q (aC j):=by simp[blk,aK,hk,hl]
 have hbr:b∈blk J R r:=bD _ hb
 by_cases e:r=aC j
 ·subst e
  have hQR:Q=R:=by have:=hQ.1;rw[hr.1]at this;simpa using this.symm
  subst hQR
  have hnd:=(H.roots _ _ hr).nd
  rw[iN,rJ]at hnd
  exact hnd.1 b o (by simp[kX,hk,hl]) hb
 ·exact H.jc _ _ _ _ hr hQ e b hbr hbq
theorem yh(H:Rel cx Z J F a w){b:Nat}(hb:b∈F):¬kV cx b:=by
 rintro⟨j,pi,o,n,h1,h2⟩
 obtain⟨Q,hQ,hk,hl,_⟩:=H.jT j pi b o n h1 h2
 have hbq:b∈blk J Q (aC j):=by simp[blk,aK,hk,hl]
 exact H.dM _ _ hQ b hbq hb
def fV(R:Root)(z:Dat)(own:List TypeId)(tags:List Tag)(lw lh:List TypeId)(kp:Bool):Root:=
 { R with k:=z.1,x:=z.2,own:=own,tags:=tags,w:=lw++R.w,h:=lh++R.h,keep:=kp }
theorem tQ(H:Rel cx Z J F a w)(hr:aU Z r R)(hv:cz Z R){p:List Stp}{d:Dat}(hg:aA p R.k R.x=some d)(b_:bM p R.k R.x)(hown:∀t∈az p R.k,ah t R.own=true)
  {cs1:List Value} {b o:Nat} (hn:aN (hp w) p R.k (J.hdr r) (aK J R r)=some (cs1,some (b,o))) :
  Cells (hp w) b o cs1/\(∃aS,Ow (hp w) R.own (aO cx Z J F w R.tags) d.1 d.2 cs1 aS/\∀b∈aS,b∈J.fo r)/\b∈blk J R r/\(∃arr e lo hi,hp w b=some (.cells arr e (lo,hi))/\iE arr.size lo hi/\o+d.1.size<=arr.size/\((fU R p=e/\¬kV cx b)\/(kV cx b/\fU R p=SENT)))/\
   (∀b' o',aK J R r=some (b',o')->b=b'->o'<=o/\o+d.1.size<=o'+R.k.size):=by
 have K:=H.roots r R hr
 have hnd:=K.nd
 rw[iN,rJ]at hnd
 obtain⟨iG,aS,rest,bZ,hn',hp1,hd1,hc1,hin,hnone,hup⟩:=focus p (K.ow hv) (λb o e=>(K.mem b o e).1) hg b_ hown hnd.2 (λb o e=>hnd.1 b o e)
 rw[hn]at hn'
 simp only[aa,bK]at hn'
 obtain⟨rfl,rfl⟩:=hn'
 refine⟨hc1 b o rfl,⟨aS,hd1,λb hb=>hp1.mem_iff.2 (bP _ hb)⟩,?_,?_,?_⟩
 ·rw[iN,kW]
  rcases hin b o rfl with⟨_,o0,ew,_⟩|⟨h1,_⟩
  ·exact .inl ⟨o0,ew⟩
  ·exact .inr (hp1.mem_iff.2 (bD _ h1))
 ·rcases hin b o rfl with⟨h0,o0,ew,h1,h2⟩|⟨h1,arr,e,lo,hi,h2,h3,h4,h5⟩
  ·obtain⟨_,arr,e,lo,hi,g1,g2,g3,g4⟩:=K.mem b o0 ew
   refine⟨arr,e,lo,hi,g1,g2,by omega,?_⟩
   unfold fU
   rw[h0]
   simp only[List.getLastD_nil]
   unfold Root.bt
   cases hk:R.kind with
   |var t=>
    refine .inl ⟨(g4 t hk).symm,?_⟩
    rintro⟨j,pi,o',n',h1',h2'⟩
    obtain⟨Q,hQ,zm,hlQ,_⟩:=H.jT j pi b o' n' h1' h2'
    have hbq:b∈blk J Q (aC j):=by simp[blk,aK,zm,hlQ]
    have hbr:b∈blk J R r:=by rw[iN,kW];exact .inl ⟨o0,ew⟩
    by_cases e:r=aC j
    ·subst e
     have hQR:Q=R:=by have:=hQ.1;rw[hr.1]at this;simpa using this.symm
     subst hQR
     rw[hk]at zm
     simp at zm
    ·exact H.jc _ _ _ _ hr hQ e b hbr hbq
   |par=>
    obtain⟨j,pi,n,hj1,hj2,Nt⟩:=H.rP r R hr hk
    have:(J.loc r).1=b:=by
     have:=ew
     unfold aK at this
     rw[hk]at this
     simp only[aa]at this
     rw[this]
    exact .inr ⟨⟨j,pi,_,n,hj2,by rw[Nt,this]⟩,rfl⟩
   |anon=>unfold aK at ew;rw[hk]at ew;simp at ew
   |dead=>unfold aK at ew;rw[hk]at ew;simp at ew
  ·refine⟨arr,e,lo,hi,h2,h3,h5,.inl ⟨?_,xu H hr (hp1.mem_iff.2 (bD _ h1))⟩⟩
   unfold fU
   rw[Tm,h4]
   rfl
 ·intro b' o' ew e
  subst e
  rcases hin b o rfl with⟨_,o0,MR,h1,h2⟩|⟨h1,_⟩
  ·rw[ew]at MR
   simp only[aa,bK,true_and]at MR
   subst MR
   exact⟨h1,h2⟩
  ·exact absurd (hp1.mem_iff.2 (bD _ h1)) (hnd.1 b o' ew)
end
end
section
open Go
variable [Fr]
section
variable {cx:Cx}{Z:St}{J:aF}{F:List Nat}{a:Act}{w:World}{r:Nat}{R:Root}
structure yJ(cx:Cx)(Z:St)(J:aF)(F:List Nat)(w:World)(r:Nat)(R:Root)(p:List Stp)(d:Dat)(own':List TypeId)(cs1:List Value)(bZ:Option (Nat×Nat))(aS rest:List Nat)
  (t z:Dat) (tags':List Tag) (lw lh:List TypeId) (kp:Bool) (ft F':List Nat) (cs':List Value) (w':World):Prop where
 hz:bJ p R.k R.x t=some z
 ht:t.1.size=d.1.size
 qO:∀e∈aZ own' d.1,e∈aZ own' t.1
 os:w'.os=w.os/\w'.tape=w.tape/\w'.output=w.output
 size:w.heap.size<=w'.heap.size
 oF:∀b,b<w.heap.size->hp w' b≠hp w b->b∈F\/(b∈aS/\∃e∈lw,h_ (hp w) b=some e)\/(∃o,bZ=some (b,o)/\fU R p∈lw)
 cells:∀b o,bZ=some (b,o)->Cells (hp w') b o cs'/\j_ (hp w) (hp w') b o d.1.size
 none:bZ=none->cs'=cs1
 len:cs'.length=d.1.size
 log:lw≠[]\/lh≠[]
 tags:(∀t∈R.tags,t∈tags')/\fC Z tags'/\∀n,(r,n)∉tags'
 JO:∀b∈ft,b∈aS\/b∈F\/(w.heap.size<=b/\b<w'.heap.size)
 aga:ft.Nodup
 newF:∀b∈F',b∈F\/(w.heap.size<=b/\b<w'.heap.size)\/(b∈aS/\∃e∈lw,h_ (hp w) b=some e)
 aa5:F'.Nodup
 af_:∀b∈ft,b∉F'
 aiq:jL t.1=jL d.1\/bZ≠Option.none
 agc:t.1=d.1\/(∀q',(aA q' t.1 t.2).isSome=true->(∀e∈az q' t.1,e∉lh)->az q' d.1=az q' t.1/\(aA q' d.1 d.2).isSome=true)\/iZ∈lh
 nav:iZ∉lh->G5 (hp w) (hp w') own' d.1 d.2 cs1 bZ t cs' lh
 cont:∀J',gL cx Z J F w (aL Z r (fV R z own' tags' lw lh kp)) J' F' w' (jG r lw) (jG r lh)->(∀b∈blk J' (fV R z own' tags' lw lh kp) r,(∃o,aK J R r=some (b,o))\/b∈ft\/b∈rest)->
  cz (aL Z r (fV R z own' tags' lw lh kp)) (fV R z own' tags' lw lh kp)->Ow (hp w') own' (aO cx (aL Z r (fV R z own' tags' lw lh kp)) J' F' w' tags') t.1 t.2 cs' ft
theorem Rel.place(H:Rel cx Z J F a w)(hr:aU Z r R)(hv:cz Z R){p:List Stp}{d:Dat}{own':List TypeId}(hg:aA p R.k R.x=some d)(b_:bM p R.k R.x)
  (hsub:∀t,ah t own'=true->ah t R.own=true) (hown:∀t∈az p R.k,ah t own'=true) :
  ∃fd ok' aS rest cs1 bZ,aN (hp w) p R.k (J.hdr r) (aK J R r)=some (cs1,bZ)/\(J.fo r).Perm (aS++rest++fd)/\Ow (hp w) own' ok' d.1 d.2 cs1 aS/\(∀b∈aS++rest,∃e∈R.k.tys,ah e own'=true/\h_ (hp w) b=some e)/\
   ((∀t∈R.k.tys,ah t own'=ah t R.own)->fd=[]/\Ow (hp w) own' (aO cx Z J F w R.tags) d.1 d.2 cs1 aS)/\
   (∀b o,bZ=some (b,o)->b∈rest\/∃o0,aK J R r=some (b,o0)/\o0<=o/\o+d.1.size<=o0+R.k.size)/\(∀b o,bZ=some (b,o)->b∉aS)/\
   ∀{t z:Dat} {tags':List Tag} {lw lh:List TypeId} {kp:Bool} {ft F':List Nat} {cs':List Value} {w':World},yJ cx Z J F w r R p d own' cs1 bZ aS rest t z tags' lw lh kp ft F' cs' w'->
    ∃J',Rel cx (aL Z r (fV R z own' tags' lw lh kp)) J' F' a w'/\gL cx Z J F w (aL Z r (fV R z own' tags' lw lh kp)) J' F' w' (jG r lw) (jG r lh)/\(∀b∈blk J' (fV R z own' tags' lw lh kp) r,(∃o,aK J R r=some (b,o))\/b∈ft\/b∈rest)/\
     (iZ∉lh->cz (aL Z r (fV R z own' tags' lw lh kp)) (fV R z own' tags' lw lh kp)->aN (hp w') p z.1 (J'.hdr r) (aK J' (fV R z own' tags' lw lh kp) r)=some (cs',bZ))/\∀b∈ft,b∈J'.fo r:=by
 have K:=H.roots r R hr
 have hnd:=K.nd
 rw[iN,rJ]at hnd
 have hO:=K.ow hv
 obtain⟨lV,fd,NH,Vk,hfd0⟩:∃lV fd,(J.fo r).Perm (lV++fd)/\Ow (hp w) own' (λb=>(aO cx Z J F w R.tags b\/b∈fd)/\∃t∈aZ own' R.k,kr (hp w) b t) R.k R.x (J.hdr r) lV/\((∀t∈R.k.tys,ah t own'=ah t R.own)->fd=[]):=by
  by_cases hall:∀t∈R.k.tys,ah t own'=ah t R.own
  ·exact⟨J.fo r,[],by simp,qE _ (λ_ h=>h) (dK (λ_ _=>rfl) (λ_ h=>.inl h) (λ_ _=>rfl) (q8 hall hO)),λ_=>rfl⟩
  ·obtain⟨lV,fd,h1,h2⟩:=vo (own':=own') (λt _ h=>hsub t h) hO
   exact⟨lV,fd,h1,qE _ (λ_ h=>h) h2,λh=>absurd h hall⟩
 have NA:=NH.nodup hnd.2
 have ahb:∀b,b∈J.fo r↔b∈lV\/b∈fd:=λb=>by rw[NH.mem_iff,cZ]
 obtain⟨cs1,aS,rest,bZ,hn,hp1,hd1,hc1,hin,hnone,hup⟩:=focus p Vk (λb o e=>(K.mem b o e).1) hg b_ hown (dA.1 NA).1 (λb o e hb=>hnd.1 b o e ((ahb b).2 (.inl hb)))
 have hpf:(J.fo r).Perm (aS++rest++fd):=NH.trans (uY _ hp1)
 have hfo:∀b,b∈J.fo r↔(b∈aS\/b∈rest)\/b∈fd:=λb=>by rw[hpf.mem_iff,cZ,cZ]
 have Bj:=hpf.nodup hnd.2
 have D5:=(dA.1 Bj).1
 have ah2:=yG Vk
 have fM:∀b o,bZ=some (b,o)->b∈rest\/∃o0,aK J R r=some (b,o0)/\o0<=o/\o+d.1.size<=o0+R.k.size:=by
  intro b o e
  rcases hin b o e with⟨_,o0,ew,h1,h2⟩|⟨h1,_⟩
  ·exact .inr ⟨o0,ew,h1,h2⟩
  ·exact .inl h1
 have ah_:∀b o,bZ=some (b,o)->b∉aS:=by
  intro b o e hb
  rcases fM b o e with h|⟨o0,ew,_⟩
  ·exact(dA.1 D5).2.2 b hb b h rfl
  ·exact hnd.1 b o0 ew ((hfo b).2 (.inl (.inl hb)))
 have ah9:∀b o,bZ=some (b,o)->b∉fd:=by
  intro b o e hb
  rcases fM b o e with h|⟨o0,ew,_⟩
  ·exact(dA.1 Bj).2.2 b (bD _ h) b hb rfl
  ·exact hnd.1 b o0 ew ((hfo b).2 (.inr hb))
 refine⟨fd,_,aS,rest,cs1,bZ,hn,hpf,hd1,λb hb=>ah2 b (hp1.mem_iff.2 hb),?_,fM,ah_,?_⟩
 ·intro hall
  have h0:=hfd0 hall
  refine⟨h0,dK (λ_ _=>rfl) (λb hb=>?_) (λ_ _=>rfl) hd1⟩
  rcases hb.1 with hb|hb
  ·exact hb
  ·rw[h0]at hb;simp at hb
 intro t z tags' lw lh kp ft F' cs' w' P
 generalize hR':fV R z own' tags' lw lh kp=R' at *
 have Ez:R'.k=z.1:=by rw[<-hR'];rfl
 have hkind:R'.kind=R.kind:=by rw[<-hR'];rfl
 have agV:R'.bV=false:=by rw[aim hkind];exact hr.2
 have agu:R'.own=own':=by rw[<-hR'];rfl
 have Vs:R'.tags=tags':=by rw[<-hR'];rfl
 have Vp:R'.g=R.g:=by rw[<-hR'];rfl
 have M8:R'.w=lw++R.w:=by rw[<-hR'];rfl
 have Vq:R'.h=lh++R.h:=by rw[<-hR'];rfl
 have hsz:z.1.size=R.k.size:=Qv p hg P.ht P.hz
 have jE:∀b,b∈aS\/b∈rest\/b∈fd\/(∃o,aK J R r=some (b,o))->b∈blk J R r:=by
  intro b hb
  rw[iN,kW,hfo]
  rcases hb with h|h|h|h
  ·exact .inr (.inl (.inl h))
  ·exact .inr (.inl (.inr h))
  ·exact .inr (.inr h)
  ·exact .inl h
 have kS:∀b∈blk J R r,b∉F:=λb hb=>H.dM r R hr b hb
 have hblt:∀b∈blk J R r,b<w.heap.size:=λb hb=>(K.mine b hb).1
 have Nc:∀b∈blk J R r,b∉aS->b∉F':=λb hb hno h=>by
  rcases P.newF b h with h|h|h
  ·exact kS b hb h
  ·have:=hblt b hb;omega
  ·exact hno h.1
 have NP:∀b∈blk J R r,b∉aS->(∀o,bZ≠some (b,o))->hp w' b=hp w b:=by
  intro b hb h1 h2
  refine jI λhne=>?_
  rcases P.oF b (hblt b hb) hne with h|⟨h,_⟩|⟨o,h,_⟩
  ·exact kS b hb h
  ·exact h1 h
  ·exact h2 o h
 have ag2:∀b∈fd,hp w' b=hp w b:=λb hb=>NP b (jE b (.inr (.inr (.inl hb))))
  (λh=>(dA.1 Bj).2.2 b (bP _ h) b hb rfl) (λo e=>ah9 b o e hb)
 have ahM:∀b∈rest,bZ.map (·.1)≠some b->hp w' b=hp w b:=λb hb hne=>NP b (jE b (.inr (.inl hb)))
  (λh=>(dA.1 D5).2.2 b h b hb rfl) (λo e=>hne (by rw[e];rfl))
 have Ww:∀b o,aK J R r=some (b,o)->bZ.map (·.1)≠some b->hp w' b=hp w b:=λb o e hne=>NP b (jE b (.inr (.inr (.inr ⟨o,e⟩))))
  (λh=>hnd.1 b o e ((hfo b).2 (.inl (.inl h)))) (λo e=>hne (by rw[e];rfl))
 let hdr':=match aK J R r with
  |some (b0,o0)=>gZ (hp w') b0 o0 R.k.size
  |none=>J.hdr r
 have hT1:sH cx Z J F w r R R' (ft++rest) F' w' lw lh:=by
  refine⟨.inr ⟨M8,Vq,by rw[Vp];exact bT _,hkind,λ_=>by rw[Ez];exact hsz,P.log⟩,by rw[Vs];exact P.tags.2,P.os,P.size,?_,?_,?_,P.aa5,?_,?_,λ_=>by rw[<-hR'];exact⟨rfl,rfl⟩⟩
  ·intro b hb hne
   rcases P.oF b hb hne with h|⟨h,h2⟩|⟨o,h,h2⟩
   ·exact .inl h
   ·exact .inr ⟨jE b (.inl h),.inr (.inl h2)⟩
   ·have hbb:b∈blk J R r:=jE b (by
     rcases fM b o h with h|⟨o0,ew,_⟩
     ·exact .inr (.inl h)
     ·exact .inr (.inr (.inr ⟨o0,ew⟩)))
    refine .inr ⟨hbb,.inr ?_⟩
    rcases hin b o h with⟨h0,o0,ew,_⟩|⟨_,arr,e,lo,hi,g1,_,g3,_⟩
    ·
     obtain⟨_,arr,e,lo,hi,g1,g2,g3,g4⟩:=K.mem b o0 ew
     unfold fU at h2
     rw[h0]at h2
     simp only[List.getLastD_nil]at h2
     cases hk:R.kind with
     |var tv=>
      refine .inl ⟨tv,?_,?_⟩
      ·unfold Root.bt at h2;rw[hk]at h2;exact h2
      ·unfold h_;rw[g1];simp[g4 tv hk]
     |par=>
      obtain⟨j,pi,n,hj1,hj2,Nt⟩:=H.rP r R hr hk
      have:(J.loc r).1=b:=by
       have:=ew
       unfold aK at this
       rw[hk]at this
       simp only[aa]at this
       rw[this]
      exact .inr ⟨⟨j,pi,_,n,hj2,by rw[Nt,this]⟩,λe=>by rw[e]at h2;simp at h2⟩
     |anon=>unfold aK at ew;rw[hk]at ew;simp at ew
     |dead=>unfold aK at ew;rw[hk]at ew;simp at ew
    ·refine .inl ⟨e,?_,by unfold h_;rw[g1]⟩
     unfold fU at h2
     rw[Tm,g3]at h2
     exact h2
  ·intro _ b hb
   rw[w_ hkind,kW,cZ]at hb
   rcases hb with⟨o,h⟩|h|h
   ·exact .inl (jE b (.inr (.inr (.inr ⟨o,h⟩))))
   ·rcases P.JO b h with h|h|h
    ·exact .inl (jE b (.inl h))
    ·exact .inr (.inl h)
    ·exact .inr (.inr h)
   ·exact .inl (jE b (.inr (.inl h)))
  ·intro b hb
   rcases P.newF b hb with h|h|h
   ·exact .inl h
   ·exact .inr (.inl h)
   ·exact .inr (.inr ⟨jE b (.inl h.1),.inr (.inl h.2)⟩)
  ·intro _ b hb
   rw[w_ hkind,kW,cZ]at hb
   rcases hb with⟨o,h⟩|h|h
   ·exact Nc b (jE b (.inr (.inr (.inr ⟨o,h⟩)))) (λh1=>hnd.1 b o h ((hfo b).2 (.inl (.inl h1))))
   ·exact P.af_ b h
   ·exact Nc b (jE b (.inr (.inl h))) (λh1=>(dA.1 D5).2.2 b h1 b h rfl)
  ·intro j pi b o n hj hb Br hne
   obtain⟨Q,hQ,hk,hl,hs⟩:=H.jT j pi b o n hj hb
   have hQR:Q=R:=by have:=hQ.1;rw[<-Br,hr.1]at this;simpa using this.symm
   subst hQR
   have hwb:aK J Q r=some (b,o):=by unfold aK;rw[hk,Br,hl]
   have hbb:=jE b (.inr (.inr (.inr ⟨o,hwb⟩)))
   obtain⟨_,_,_,_,_,f6⟩:=H.frame
   have h0:=f6 j pi b o n hj hb
   rcases P.oF b (hblt b hbb) hne with h|⟨h,_⟩|⟨o',h,_⟩
   ·exact absurd h (kS b hbb)
   ·exact absurd ((hfo b).2 (.inl (.inl h))) (hnd.1 b o hwb)
   ·rcases fM b o' h with h1|⟨o0,ew,h1,h2⟩
    ·exact absurd ((hfo b).2 (.inl (.inr h1))) (hnd.1 b o hwb)
    ·rw[hwb]at ew
     simp only[aa,bK,true_and]at ew
     subst ew
     exact h0.widen (P.cells b o' h).2 h1 (by omega)
 have hT:=hT1.turn (hdr':=hdr') H hr
 have hblk':∀b∈blk (aW J r (J.loc r) hdr' (ft++rest)) R' r,(∃o,aK J R r=some (b,o))\/b∈ft\/b∈rest:=by
  intro b hb
  rw[o8,w_ hkind,kW,cZ]at hb
  exact hb
 have hwhole:cz (aL Z r R') R'->Ow (hp w') own' (aO cx (aL Z r R') (aW J r (J.loc r) hdr' (ft++rest)) F' w' tags') z.1 z.2 hdr' (ft++rest)/\
   (iZ∉lh->(t.1=d.1->z.1=R.k)/\G5 (hp w) (hp w') own' R.k R.x (J.hdr r) (aK J R r) z hdr' lh/\aN (hp w') p z.1 hdr' (aK J R r)=some (cs',bZ)):=by
  intro hv'
  have hcont:=P.cont _ (by rw[hR'];exact hT) (by rw[hR'];exact hblk') (by rw[hR'];exact hv')
  rw[hR']at hcont
  have qO:∀e∈aZ own' R.k,e∈R'.oO:=by
   unfold Root.oO
   rw[agu,Ez]
   exact(aaS p hg P.hz).2 P.qO
  have hc2:=hv'.2
  rw[Vs]at hc2
  obtain⟨_,hV,_⟩:=hT.views H R.tags (aZ own' R.k) (H.fu r R hr.1).1 (yR hc2 P.tags.1 qO)
  have hok:∀b,((aO cx Z J F w R.tags b\/b∈fd)/\∃t∈aZ own' R.k,kr (hp w) b t)->aO cx (aL Z r R') (aW J r (J.loc r) hdr' (ft++rest)) F' w' tags' b/\hp w' b=hp w b:=by
   rintro b ⟨hb,hty⟩
   rcases hb with hb|hb
   ·obtain⟨h1,h2⟩:=hV b hb (.inl hty)
    exact⟨zM h1 P.tags.1,h2⟩
   ·have hbb:=jE b (.inr (.inr (.inl hb)))
    refine⟨⟨uu (hblt b hbb) P.size,Nc b hbb (λh1=>(dA.1 Bj).2.2 b (bP _ h1) b hb rfl),xu H hr ((hfo b).2 (.inr hb)),?_,?_⟩,ag2 b hb⟩
    ·intro q Q hq hbq
     exfalso
     rcases tq hq with⟨rfl,rfl,_⟩|⟨e,hq'⟩
     ·rcases hblk' b hbq with⟨o,h⟩|h|h
      ·exact hnd.1 b o h ((hfo b).2 (.inr hb))
      ·rcases P.JO b h with h|h|h
       ·exact(dA.1 Bj).2.2 b (bP _ h) b hb rfl
       ·exact kS b hbb h
       ·have:=hblt b hbb;omega
      ·exact(dA.1 Bj).2.2 b (bD _ h) b hb rfl
     ·rw[(kg (J:=J) (Z:=Z) (R:=R') e).blk]at hbq
      exact H.jc _ _ _ _ hr hq' (Ne.symm e) b hbb hbq
    ·intro hb0
     rcases(K.mine b hbb).2 with h|⟨j,pi,h1,h2⟩
     ·omega
     ·exact .inr ⟨j,pi,h1,h2⟩
  obtain⟨csn,hl0,lC,hC',hN',hK'⟩:=hup.go (hp w') (aO cx (aL Z r R') (aW J r (J.loc r) hdr' (ft++rest)) F' w' tags') t cs' ft z P.hz P.len hcont hok ahM P.cells P.none Ww
  have VF:csn=hdr':=by
   cases hw:aK J R r with
   |none=>
    have:hdr'=J.hdr r:=by simp only[hdr'];rw[hw]
    rw[this]
    exact hN' hw
   |some q=>
    have:hdr'=gZ (hp w') q.1 q.2 R.k.size:=by simp only[hdr'];rw[hw]
    rw[this]
    have h1:=wC (hC' q.1 q.2 hw)
    rw[hl0,K.len]at h1
    exact h1.symm
  rw[VF]at lC
  refine⟨lC,λdQ=>?_⟩
  have:=hK' lh P.ht (P.nav dQ)
  rw[VF]at this
  exact⟨this.1,this.2.2⟩
 refine⟨aW J r (J.loc r) hdr' (ft++rest),hT1.rel H hr ?_ ?_ ?_,hT,hblk',λhgn hv'=>by
  have h3:=((hwhole hv').2 hgn).2.2
  have Ec:aK (aW J r (J.loc r) hdr' (ft++rest)) R' r=aK J R r:=by rw[t_,Ct hkind,<-x8]
  have zl:(aW J r (J.loc r) hdr' (ft++rest)).hdr r=hdr':=by simp[aW,upd_same]
  rw[Ec,zl]
  exact h3,λb hb=>by
  have aha:(aW J r (J.loc r) hdr' (ft++rest)).fo r=ft++rest:=by simp[aW,upd_same]
  rw[aha]
  exact bP _ hb⟩
 ·intro _
  refine⟨λhv'=>?_,?_,?_,?_⟩
  ·have:=(hwhole hv').1
   subst hR'
   exact this
  ·rw[Ez,hsz]
   simp only[hdr']
   cases hw:aK J R r with
   |none=>exact K.len
   |some q=>simp[gZ]
  ·intro b o hb
   rw[Ct hkind,<-x8]at hb
   have hh:hdr'=gZ (hp w') b o R.k.size:=by simp only[hdr'];rw[hb]
   obtain⟨_,arr,e,lo,hi,g1,g2,g3,g4⟩:=K.mem b o hb
   have hnew:∃fD,hp w' b=some (.cells fD e (lo,hi))/\fD.size=arr.size:=by
    by_cases hbw:bZ.map (·.1)=some b
    ·cases NV:bZ with
     |none=>rw[NV]at hbw;simp at hbw
     |some q=>
      rw[NV]at hbw
      simp only[gz,aa]at hbw
      obtain⟨a1,a2,te,fr,f1,f2,f3,_⟩:=(P.cells q.1 q.2 NV).2
      rw[hbw]at f1 f2
      rw[g1]at f1
      simp only[aa,Obj.cells.injEq]at f1
      obtain⟨rfl,rfl,rfl⟩:=f1
      exact⟨a2,f2,f3⟩
    ·exact⟨arr,(Ww b o hb hbw).trans g1,rfl⟩
   obtain⟨fD,f1,f2⟩:=hnew
   refine⟨?_,fD,e,lo,hi,f1,by rw[f2];exact g2,by rw[f2,Ez,hsz];exact g3,λtv hk=>g4 tv (hkind▸hk)⟩
   rw[hh]
   exact Cv f1 (by rw[f2];exact g3)
  ·rw[w_ hkind,rJ]
   refine⟨λb o hb h=>?_,dA.2 ⟨P.aga,(dA.1 D5).2.1,λb h1 c h2 e=>?_⟩⟩
   ·have hbb:=jE b (.inr (.inr (.inr ⟨o,hb⟩)))
    rcases cZ.1 h with h|h
    ·rcases P.JO b h with h|h|h
     ·exact hnd.1 b o hb ((hfo b).2 (.inl (.inl h)))
     ·exact kS b hbb h
     ·have:=hblt b hbb;omega
    ·exact hnd.1 b o hb ((hfo b).2 (.inl (.inr h)))
   ·subst e
    have hbb:=jE b (.inr (.inl h2))
    rcases P.JO b h1 with h|h|h
    ·exact(dA.1 D5).2.2 b h b h2 rfl
    ·exact kS b hbb h
    ·have:=hblt b hbb;omega
 ·intro _ q n v hn' hold
  refine⟨hold.1,?_⟩
  intro Q hQ lF hcl hty hsome
  have hQ':Q=R':=by
   rw[fF]at hQ
   simpa using hQ.symm
  subst hQ'
  have Ec:aK (aW J r (J.loc r) hdr' (ft++rest)) Q r=aK J R r:=by rw[t_,Ct hkind,<-x8]
  have zl:(aW J r (J.loc r) hdr' (ft++rest)).hdr r=hdr':=by simp[aW,upd_same]
  rw[Ec,zl]
  rw[Vq,yS hn']at hcl
  by_cases hq:q=[]
  ·subst hq
   obtain⟨_,cs,b,o,h1,h2⟩:=hold.2 R hr.1 hv (by simp[clean,iD,ah]) (λt ht=>by simp[az]at ht) rfl
   simp only[aN,aa,bK]at h1
   exact⟨trivial,hdr',b,o,by simp only[aN];rw[h1.2],h2⟩
  ·have hpt:∀k,iD q k=iZ :: az q k:=by
    intro k
    cases q with
    |nil=>exact absurd rfl hq
    |cons s q=>rfl
   rw[hpt]at hcl
   have hgn:iZ∉lh:=λhm=>hcl.1 iZ hm (by simp)
   obtain⟨hk,hnk,_⟩:=(hwhole lF).2 hgn
   subst hR'
   have Wj:az q R.k=az q z.1/\(aA q R.k R.x).isSome=true:=by
    rcases P.agc with h|h|h
    ·have hk:=hk h
     obtain⟨zk,zx⟩:=z
     simp only at hk
     subst hk
     exact⟨rfl,by rw[zb q (y:=zx)];exact hsome⟩
    ·exact aaC (bad:=lh) p q hg P.hz h hsome (λe he hm=>hcl.1 e hm (ji _ he))
    ·exact absurd h hgn
   have hpe:az q (fV R z own' tags' lw lh kp).k=az q R.k:=Wj.1.symm
   rw[hpe]at hcl hty
   have agT:∀t∈lh,t∉iZ :: az q R.k:=hcl.1
   obtain⟨g1,cs,b,o,g2,g3⟩:=hold.2 R hr.1 hv (by rw[hpt];exact hcl.2) (λt ht=>hsub t (hty t ht)) Wj.2
   obtain⟨f1,c1,f2⟩:=hnk q cs (some (b,o)) g1 (λt ht=>⟨hty t ht,λh=>agT t h (ji _ ht)⟩) g2 hsome
   exact⟨f1,c1,b,o,f2,g3⟩
 ·intro _ g v hg' hold Q hQ Bf
  obtain⟨hQ',_⟩:=nE hQ
  subst hQ'
  obtain⟨h1,h2⟩:=hold R hr (Vp▸Bf)
  have hw:aK J R r=none:=by unfold aK;rw[h1]
  have hh:hdr'=J.hdr r:=by simp only[hdr'];rw[hw]
  have zl:(aW J r (J.loc r) hdr' (ft++rest)).hdr r=hdr':=by simp[aW,upd_same]
  rw[zl,hh,hkind]
  refine⟨h1,?_⟩
  rw[Ez]
  refine(TF ?_).2 h2
  by_cases hp:p=[]
  ·subst hp
   have hz:=P.hz
   simp only[bJ,aA,aa]at hz hg
   subst hz
   rcases P.aiq with h|h
   ·rw[h,<-hg]
   ·simp only[aN,aa,bK]at hn
    rw[<-hn.2,hw]at h
    exact absurd rfl h
  ·exact aam hp P.hz
end
end
section
open Go
variable [Fr]
theorem A8:∀{k:K},k.flat=true->k.tys=[]:=by
 intro k
 induction k with
 |sl e k ih=>intro h;simp[K.flat]at h
 |gap n=>intro h;simp[K.flat]at h
 |pair a b iha ihb=>intro h;simp only[K.flat,bg]at h;simp[K.tys,iha h.1,ihb h.2]
 |st f ih=>intro h;exact ih h
 |_=>intro _;rfl
theorem adu{h h':Heap}{own own':List TypeId}{ok ok':Nat->Prop}:∀{k:K} {x:El k} {cs:List Value} {fo:List Nat},k.flat=true->Ow h own ok k x cs fo->fo=[]/\Ow h' own' ok' k x cs []:=by
 intro k
 induction k with
 |sl e k ih=>intro x cs fo h;simp[K.flat]at h
 |gap n=>intro x cs fo h;simp[K.flat]at h
 |pair a b iha ihb=>
  intro x cs fo h H
  simp only[K.flat,bg]at h
  obtain⟨c1,c2,f1,f2,e,hp,h1,h2⟩:=H
  obtain⟨g1,k1⟩:=iha h.1 h1
  obtain⟨g2,k2⟩:=ihb h.2 h2
  subst g1;subst g2
  exact⟨hp.eq_nil,c1,c2,[],[],e,.refl _,k1,k2⟩
 |st f ih=>intro x cs fo h H;exact ih (x:=x) h H
 |int ik=>intro x cs fo _ H;exact⟨H.1,rfl,H.2⟩
 |bool=>intro x cs fo _ H;exact⟨H.1,rfl,H.2⟩
 |id e=>intro x cs fo _ H;exact⟨H.1,rfl,H.2⟩
 |str=>intro x cs fo _ H;exact⟨H.1,rfl,H.2⟩
 |unit=>intro x cs fo _ H;exact⟨H.1,rfl,H.2⟩
theorem aih{ik:IntKind}{n:Int}(h:BD ik n=true):kI ik n:=by
 cases ik<;>simp_all[BD,kI,BD.Int.blt,BD.Int.ble]
theorem iw{a b:K}{x:El a}{y:El b}(h:bR a b x=some y):∃e:a=b,y=e▸x:=by
 unfold bR at h
 split at h
 ·rename_i hb
  simp only[aa]at h
  exact⟨K.eq_of_beq hb,h.symm⟩
 ·simp at h
section
variable {A:Type}{cx:Cx}{Z:St}{J:aF}{F:List Nat}{a:Act}{w:World}{z:A}
theorem qG{k:Prog A}{tys:List TypeId}:∀{T:List Tag},(qb T tys k).ends Z z->cu Z tys T=true/\k.ends Z z:=by
 intro T
 induction T with
 |nil=>intro h;exact⟨rfl,h⟩
 |cons t T ih=>
  obtain⟨r,n⟩:=t
  intro h
  simp only[qb]at h
  cases he:fO r with
  |true=>
   rw[he]at h
   obtain⟨h1,h2⟩:=ih h
   exact⟨by simp[cu,he,h1],h2⟩
  |false=>
   rw[he]at h
   simp only[jr,Prog.ends]at h
   cases hr:Z.roots r with
   |none=>rw[hr]at h;exact h.elim
   |some R=>
    rw[hr]at h
    simp only at h
    cases hc:(!R.bV&&clean R.w n tys)with
    |false=>rw[hc]at h;exact h.elim
    |true=>
     rw[hc]at h
     obtain⟨h1,h2⟩:=ih h
     exact⟨by simp only[cu,he,hr,jr];rw[hc,h1];rfl,h2⟩
theorem gJ{r:Nat}{k:Root->Prog A}(h:(g_ r k).ends Z z):∃R,aU Z r R/\cz Z R/\(k R).ends Z z:=by
 unfold g_ at h
 simp only[Prog.ends]at h
 cases hr:Z.roots r with
 |none=>rw[hr]at h;exact h.elim
 |some R=>
  rw[hr]at h
  simp only at h
  cases hd:R.bV with
  |true=>rw[hd]at h;exact h.elim
  |false=>
   rw[hd]at h
   obtain⟨h1,h2⟩:=qG h
   exact⟨R,⟨hr,hd⟩,⟨hd,h1⟩,h2⟩
theorem amB(v:Value):aR cx Z J F w (EZ v) v/\dB Z (EZ v):=by
 unfold EZ
 split
 ·rename_i k n
  cases h:BD k n with
  |true=>exact⟨λ_=>⟨[.int k n],⟨rfl,by simp⟩,rfl,aih h⟩,λt ht=>by simp at ht⟩
  |false=>exact⟨trivial,trivial⟩
 ·exact⟨λ_=>⟨_,⟨rfl,by simp⟩,rfl⟩,λt ht=>by simp at ht⟩
 ·rename_i s
  exact⟨λ_=>⟨_,⟨rfl,by simp⟩,s,rfl,rfl⟩,λt ht=>by simp at ht⟩
 ·exact⟨⟨none,rfl⟩,trivial⟩
 ·exact⟨rfl,trivial⟩
 ·exact⟨trivial,trivial⟩
theorem AX(H:Rel cx Z J F a w){x:Operand}{k:fQ->Prog A}(h:(rz x k).ends Z z):∃v1,iL cx Z J F w v1 (a.eval x)/\mG Z v1/\(k v1).ends Z z:=by
 cases x with
 |tmp t=>exact⟨Z.slots t,H.slots t,H.qy t,h⟩
 |const v=>obtain⟨h1,h2⟩:=amB (cx:=cx) (Z:=Z) (J:=J) (F:=F) (w:=w) v;exact⟨.one (EZ v),h1,h2,h⟩
 |func f=>exact⟨.one (.fn f []),⟨[],rfl,trivial⟩,λc hc=>by simp at hc,h⟩
 |global g=>exact h.elim
theorem iW(H:Rel cx Z J F a w){x:Operand}{k:AV->Prog A}(h:(dP x k).ends Z z):∃v1,aR cx Z J F w v1 (a.eval x)/\dB Z v1/\(k v1).ends Z z:=by
 obtain⟨v1,h1,h2,h3⟩:=AX H h
 cases v1 with
 |one v=>exact⟨v,h1,h2,h3⟩
 |mg l=>exact h3.elim
 |lit _ _ _=>exact h3.elim
def evs(a:Act)(l:List (Nat×Operand)):List (Nat×Value):=l.map λp=>(p.1,a.eval p.2)
theorem MQ(H:Rel cx Z J F a w):∀{l:List (Nat×Operand)} {k:List (Nat×AV)->Prog A},(uI l k).ends Z z->
  ∃vs:List (Nat×AV),vs.map (·.1)=l.map (·.1)/\gU cx Z J F w (vs.map (·.2)) ((evs a l).map (·.2))/\(∀v∈vs,dB Z v.2)/\(k vs).ends Z z:=by
 intro l
 induction l with
 |nil=>intro k h;exact⟨[],rfl,trivial,by simp,h⟩
 |cons p l ih=>
  obtain⟨n,x⟩:=p
  intro k h
  simp only[uI]at h
  obtain⟨v,h1,h2,h3⟩:=iW H h
  obtain⟨vs,g1,g2,g3,g4⟩:=ih h3
  exact⟨(n,v) :: vs,by simp[g1],⟨h1,g2⟩,by simpa using ⟨h2,λa b hb=>g3 (a,b) hb⟩,g4⟩
theorem uH(H:Rel cx Z J F a w):∀{l:List Operand} {k:List AV->Prog A},(nu l k).ends Z z->
  ∃vs:List AV,gU cx Z J F w vs (l.map a.eval)/\(∀v∈vs,dB Z v)/\(k vs).ends Z z:=by
 intro l
 induction l with
 |nil=>intro k h;exact⟨[],trivial,by simp,h⟩
 |cons x l ih=>
  intro k h
  simp only[nu]at h
  obtain⟨v,h1,h2,h3⟩:=iW H h
  obtain⟨vs,g2,g3,g4⟩:=ih h3
  exact⟨v :: vs,⟨h1,g2⟩,by simpa using ⟨h2,g3⟩,g4⟩
theorem xV{ik:IntKind}{n:Int}{T:List Tag}{v:Value}(h:aR cx Z J F w (.val (.int ik) n T) v):v=.int ik n/\kI ik n:=by
 obtain⟨cs,h1,h2,h3⟩:=h (.inl rfl)
 obtain⟨h5,_⟩:cs=[v]/\_:=h1
 rw[h5]at h2
 simp only[gQ,dZ]at h2
 exact⟨h2,h3⟩
theorem Cr{b:Bool}{T:List Tag}{v:Value}(h:aR cx Z J F w (.val .bool b T) v):v=.bool b:=by
 obtain⟨cs,h1,h2⟩:=h (.inl rfl)
 obtain⟨h5,_⟩:cs=[v]/\_:=h1
 have h2':cs=[.bool b]:=h2
 rw[h5]at h2'
 simpa using h2'
theorem xW{s:List Int}{T:List Tag}{v:Value}(h:aR cx Z J F w (.val .str s T) v):∃B:ByteArray,v=.string B/\s=bytesOf B:=by
 obtain⟨cs,h1,B,h2,h3⟩:=h (.inl rfl)
 obtain⟨h5,_⟩:cs=[v]/\_:=h1
 rw[h5]at h2
 simp only[gQ,dZ]at h2
 exact⟨B,h2,h3⟩
theorem P7{ik:IntKind}{n:Int}{T:List Tag}(h:kI ik n):aR cx Z J F w (.val (.int ik) n T) (.int ik n):=λ_=>⟨[.int ik n],⟨rfl,by simp⟩,rfl,h⟩
theorem amY{b:Bool}{T:List Tag}:aR cx Z J F w (.val .bool b T) (.bool b):=λ_=>⟨[.bool b],⟨rfl,by simp⟩,rfl⟩
theorem P8{B:ByteArray}{T:List Tag}:aR cx Z J F w (.val .str (bytesOf B) T) (.string B):=λ_=>⟨[.string B],⟨rfl,by simp⟩,B,rfl,rfl⟩
theorem Dl{x:AV}{v:Value}{k:IntKind->Int->Prog A}(hx:aR cx Z J F w x v)(h:(asInt x k).ends Z z):∃ik n,v=.int ik n/\kI ik n/\(k ik n).ends Z z:=by
 unfold asInt at h
 split at h
 ·rename_i ik n T
  obtain⟨h1,h2⟩:=xV hx
  exact⟨ik,n,h1,h2,h⟩
 ·exact h.elim
theorem T_{x:AV}{v:Value}{k:Bool->Prog A}(hx:aR cx Z J F w x v)(h:(asBool x k).ends Z z):∃b,v=.bool b/\(k b).ends Z z:=by
 unfold asBool at h
 split at h
 ·rename_i b T
  exact⟨b,Cr hx,h⟩
 ·exact h.elim
theorem aO.q{T:List Tag}{b:Nat}(h:aO cx Z J F w T b):kG Z J F w T b:=⟨h.1,h.2.1,h.2.2.2.1⟩
theorem am_{T T':List Tag}{b:Nat}(h:kG Z J F w T b)(hs:∀t∈T,t∈T'):kG Z J F w T' b:=
 ⟨h.1,h.2.1,λr R h1 h2=>by obtain⟨n,hn⟩:=h.2.2 r R h1 h2;exact⟨n,hs _ hn⟩⟩
variable {r:Nat}{R:Root}
theorem adw{h:Heap}{own:List TypeId}{ok:Nat->Prop}:∀{k:K} {x:El k} {cs:List Value} {fo:List Nat},(∀t∈k.tys,ah t own=false)->Ow h own ok k x cs fo->fo=[]:=by
 intro k
 induction k with
 |sl e k ih=>
  intro x cs fo h H
  unfold Ow at H
  rw[aj (by rw[h e (by simp[K.tys])];exact Bool.false_ne_true)]at H
  exact H.1
 |pair a b iha ihb=>
  intro x cs fo h H
  obtain⟨c1,c2,f1,f2,e,hp,h1,h2⟩:=H
  rw[iha (λt ht=>h t (by simp[K.tys,ht])) h1,ihb (λt ht=>h t (by simp[K.tys,ht])) h2]at hp
  exact hp.eq_nil
 |st f ih=>intro x cs fo h H;exact ih (x:=x) h H
 |_=>intro x cs fo _ H;exact H.1
theorem JU(R:Root)(r:Nat){k:K}(hk:k.flat=false):R.out r k=(r,dz R.w) :: R.tags\/(R.out r k=R.tags/\∀t∈k.tys,ah t R.own=false):=by
 unfold Root.out
 rw[hk,jr]
 cases h:k.tys.any λt=>ah t R.own with
 |true=>exact .inl rfl
 |false=>
  refine .inr ⟨rfl,λt ht=>?_⟩
  have:=List.any_eq_false.1 h t ht
  simpa using this
theorem ani(H:Rel cx Z J F a w)(hr:aU Z r R){k:K}(hk:R.out r k=(r,dz R.w) :: R.tags){b:Nat}(hb:b∈J.fo r):aO cx Z J F w (R.out r k) b:=by
 have hbb:b∈blk J R r:=bD _ hb
 have hm:=(H.roots r R hr).mine b hbb
 refine⟨hm.1,H.dM r R hr b hbb,xu H hr hb,λq Q hq hbq=>?_,λh0=>?_⟩
 ·by_cases e:q=r
  ·subst e
   exact⟨dz R.w,by rw[hk];simp⟩
  ·exact absurd hbb (H.jc q Q r R hq hr e b hbq)
 ·rcases hm.2 with h|⟨j,pi,h1,h2⟩
  ·omega
  ·exact .inr ⟨j,pi,h1,h2⟩
theorem Zq{k:K}(hk:k.flat=false):∀t∈R.tags,t∈R.out r k:=λt ht=>by
 rcases JU R r hk with h|⟨h,_⟩<;>rw[h]
 ·exact ji _ ht
 ·exact ht
theorem BR(H:Rel cx Z J F a w)(hr:aU Z r R)(k:K):fC Z (R.out r k):=by
 intro t ht
 cases hk:k.flat with
 |true=>unfold Root.out at ht;rw[hk]at ht;simp at ht
 |false=>
  have h1:t=(r,dz R.w)\/t∈R.tags:=by
   rcases JU R r hk with h|⟨h,_⟩<;>rw[h]at ht
   ·exact bH.1 ht
   ·exact .inr ht
  rcases h1 with h|h
  ·subst h;exact .inr ⟨R,hr.1,.inr (bT _)⟩
  ·exact(H.fu r R hr.1).1 t h
theorem tL(H:Rel cx Z J F a w)(hr:aU Z r R){k:K}{x:El k}{cs:List Value}{aS:List Nat}(hO:Ow (hp w) R.own (aO cx Z J F w R.tags) k x cs aS)(hf:∀b∈aS,b∈J.fo r) :
  Vw (hp w) (aO cx Z J F w (R.out r k)) k x cs:=by
 cases hk:k.flat with
 |true=>exact kL hk (oC (λ_=>True) (λ_ _=>trivial) (λ_ _=>trivial) hO)
 |false=>
  rcases JU R r hk with ho|⟨_,hn⟩
  ·exact oC _ (λb hb=>zM hb (Zq hk)) (λb hb=>ani H hr ho (hf b hb)) hO
  ·exact oC _ (λb hb=>zM hb (Zq hk)) (λb hb=>by rw[adw hn hO]at hb;simp at hb) hO
theorem tT(H:Rel cx Z J F a w)(hr:aU Z r R)(hv:cz Z R){p:List Stp}{d:Dat}(hg:aA p R.k R.x=some d)(b_:bM p R.k R.x)(hown:∀t∈az p R.k,ah t R.own=true)
  {cs1:List Value} {bZ:Option (Nat×Nat)} (hn:aN (hp w) p R.k (J.hdr r) (aK J R r)=some (cs1,bZ)) :
  ∃aS,Ow (hp w) R.own (aO cx Z J F w R.tags) d.1 d.2 cs1 aS/\∀b∈aS,b∈J.fo r:=by
 have K:=H.roots r R hr
 have hnd:=K.nd
 rw[iN,rJ]at hnd
 obtain⟨iG,aS,rest,wh2,hn',hp1,hd1,hc1,hin,hnone,hup⟩:=focus p (K.ow hv) (λb o e=>(K.mem b o e).1) hg b_ hown hnd.2 (λb o e=>hnd.1 b o e)
 rw[hn]at hn'
 simp only[aa,bK]at hn'
 obtain⟨rfl,rfl⟩:=hn'
 exact⟨aS,hd1,λb hb=>hp1.mem_iff.2 (bP _ hb)⟩
theorem mQ{T:List Nat}{own:List Nat}(h:(T.all λt=>ah t own)=true):∀t∈T,ah t own=true:=λt ht=>dX.1 h t ht
theorem AB(H:Rel cx Z J F a w){x:AV}{v:Value}{k:(kk:K)->El kk->List Tag->Prog A}(hx:aR cx Z J F w x v)(hw:dB Z x)(h:(oD x k).ends Z z) :
  ∃kk y T cs,VC kk v cs/\Vw (hp w) (aO cx Z J F w T) kk y cs/\fC Z T/\(k kk y T).ends Z z:=by
 cases x with
 |val kk y T=>
  obtain⟨h1,h2⟩:=qG h
  obtain⟨cs,h3,h4⟩:=hx (.inr h1)
  exact⟨kk,y,T,cs,h3,h4,hw,h2⟩
 |ref r g=>
  obtain⟨R,hr,hv,h⟩:=gJ h
  cases hg:Nat.beq R.g g with
  |false=>simp only[hg,jr]at h;exact h.elim
  |true=>
   simp only[hg,fJ]at h
   obtain⟨h1,h2⟩:=hx R hr (a_ hg)
   exact⟨R.k,R.x,R.out r R.k,J.hdr r,h2,tL H hr ((H.roots r R hr).ow hv) (λ_ h=>h),BR H hr _,h⟩
 |dJ r p n=>
  obtain⟨R,hr,hv,h⟩:=gJ h
  cases hg:Nat.beq R.dF n with
  |false=>simp only[hg,jr]at h;exact h.elim
  |true=>
   simp only[hg,fJ]at h
   cases dQ:aA p R.k R.x with
   |none=>rw[dQ]at h;exact h.elim
   |some d=>
    rw[dQ]at h
    obtain⟨h1,h2,cs,wh,h3,h4⟩:=hx R hr.1 hv (a_ hg) d dQ
    obtain⟨aS,h5,h6⟩:=tT H hr hv dQ h1 h2 h3
    exact⟨d.1,d.2,R.out r d.1,cs,h4,tL H hr h5 h6,BR H hr _,h⟩
 |undef=>exact h.elim
 |eH=>exact h.elim
 |ptr r p n=>exact h.elim
 |eY bt kk y T=>exact h.elim
 |ko _ _ _ _=>exact h.elim
 |nG _=>exact h.elim
 |part _ _ _ _ _=>exact h.elim
 |lH _ _ _ _=>exact h.elim
 |sub _ _ _ _ _ _=>exact h.elim
 |sel _ _ _ _ _ _=>exact h.elim
 |app _ _ _ _=>exact h.elim
 |iI=>exact h.elim
 |fn f cs=>exact h.elim
theorem Ht(H:Rel cx Z J F a w){x:AV}{v:Value}{rd:Root->Nat->List Stp->Dat->Prog A}{ro:TypeId->Dat->List Tag->Prog A}(hx:aR cx Z J F w x v)(hw:dB Z x)(h:(addrOf x rd ro).ends Z z) :
  (∃r R p d cs b o,aU Z r R/\cz Z R/\aA p R.k R.x=some d/\bM p R.k R.x/\(∀t∈az p R.k,ah t R.own=true)/\aN (hp w) p R.k (J.hdr r) (aK J R r)=some (cs,some (b,o))/\v=.pointer (some ⟨b,o,none⟩)/\(rd R r p d).ends Z z)\/
  (∃bt d T b o cs,fC Z T/\v=.pointer (some ⟨b,o,none⟩)/\Cells (hp w) b o cs/\Vw (hp w) (aO cx Z J F w T) d.1 d.2 cs/\kG Z J F w T b/\((bt=SENT/\∀t∈T,fO t.1=true)\/(kr (hp w) b bt/\¬kV cx b))/\(ro bt d T).ends Z z):=by
 cases x with
 |ptr r p n=>
  obtain⟨R,hr,hv,h⟩:=gJ h
  cases hc:(clean R.h n (iD p R.k)&&BS p R)with
  |false=>rw[hc]at h;exact h.elim
  |true=>
   rw[hc]at h
   simp only[fJ]at h
   simp only[bg]at hc
   cases dQ:aA p R.k R.x with
   |none=>rw[dQ]at h;exact h.elim
   |some d=>
    rw[dQ]at h
    have hown:=mQ hc.2
    obtain⟨h1,cs,b,o,h2,h3⟩:=hx.2 R hr.1 hv hc.1 hown (by rw[dQ];rfl)
    exact .inl ⟨r,R,p,d,cs,b,o,hr,hv,dQ,h1,hown,h2,h3,h⟩
 |eY bt k y T=>
  obtain⟨h1,h2⟩:=qG h
  obtain⟨b,o,cs,e,hcs,hV,hok,hb⟩:=hx.2 h1
  exact .inr ⟨bt,⟨k,y⟩,T,b,o,cs,hw,e,hcs,hV,hok,hb,h2⟩
 |undef=>exact h.elim
 |eH=>exact h.elim
 |ref r g=>exact h.elim
 |dJ r p n=>exact h.elim
 |val kk y T=>exact h.elim
 |ko _ _ _ _=>exact h.elim
 |nG _=>exact h.elim
 |part _ _ _ _ _=>exact h.elim
 |lH _ _ _ _=>exact h.elim
 |sub _ _ _ _ _ _=>exact h.elim
 |sel _ _ _ _ _ _=>exact h.elim
 |app _ _ _ _=>exact h.elim
 |iI=>exact h.elim
 |fn f cs=>exact h.elim
end
end
section
open Go
variable [Fr]
theorem mF(a b:List Wr):∀Z,aB (a++b) Z=aB b (aB a Z):=by
 induction a with
 |nil=>intro Z;rfl
 |cons w a ih=>intro Z;exact ih _
theorem Kn{own:List TypeId}{k:K}:∀(k0:K),(∀t∈k.tys,t∈k0.tys)->aZ (k0.tys.filter λt=>ah t own) k=aZ own k:=by
 intro k0
 have key:∀t∈k0.tys,ah t (k0.tys.filter λt=>ah t own)=ah t own:=by
  intro t ht
  cases h:ah t own with
  |true=>rw[fA,iU];exact⟨ht,h⟩
  |false=>
   rw[gq,iU]
   rintro⟨_,h2⟩
   rw[h]at h2
   simp at h2
 induction k with
 |sl e k ih=>
  intro h
  simp only[aZ]
  rw[key e (h e (by simp[K.tys])),ih (λt ht=>h t (by simp[K.tys,ht]))]
 |pair a b iha ihb=>intro h;simp only[aZ];rw[iha (λt ht=>h t (by simp[K.tys,ht])),ihb (λt ht=>h t (by simp[K.tys,ht]))]
 |st f ih=>intro h;exact ih h
 |_=>intro _;rfl
theorem Y4{own:List TypeId}{k:K}:∀t∈k.tys,ah t (k.tys.filter λt=>ah t own)=ah t own:=by
 intro t ht
 cases h:ah t own with
 |true=>rw[fA,iU];exact⟨ht,h⟩
 |false=>
  rw[gq,iU]
  rintro⟨_,h2⟩
  rw[h]at h2
  simp at h2
theorem aek{own:List TypeId}:∀(n:Nat) {c:K} {x:El c} {s:Dat},aM n c x=some s->∀t∈aZ own s.1,t∈aZ own c:=by
 intro n
 induction n with
 |zero=>
  intro c x s h t ht
  cases c with
  |pair a b=>simp only[aM,aa]at h;subst h;simp[aZ,ht]
  |_=>simp[aM]at h
 |succ n ih=>
  intro c x s h t ht
  cases c with
  |pair a b=>simp only[aM]at h;simp[aZ,ih h t ht]
  |_=>simp[aM]at h
theorem Ko{own:List TypeId}:∀(p:List Stp) {k:K} {x:El k} {d:Dat},aA p k x=some d->(∀t∈az p k,ah t own=true)->∀t∈aZ own d.1,t∈aZ own k:=by
 intro p
 induction p with
 |nil=>intro k x d h _;simp only[aA,aa]at h;subst h;exact λ_ h=>h
 |cons s p ih=>
  intro k x d h ht
  cases s with
  |aP n=>
   cases k with
   |st c=>
    simp only[aA]at h
    cases hg:aM n c x with
    |none=>rw[hg]at h;simp at h
    |some s=>
     rw[hg]at h
     simp only at h
     have hpt:az (.aP n :: p) (.st c)=az p s.1:=by simp[az,jK n hg]
     rw[hpt]at ht
     exact λt h2=>aek n (c:=c) hg t (ih h ht t h2)
   |_=>simp[aA]at h
  |idx i=>
   cases k with
   |sl e k=>
    simp only[aA]at h
    intro t h2
    have:=ih h (λt h=>ht t (by simp[az,h])) t h2
    simp only[aZ,ht e (by simp[az]),fJ]
    exact this
   |_=>simp[aA]at h
section
variable {cx:Cx}{Z:St}{J:aF}{F:List Nat}{a:Act}{w:World}
theorem bz{b:Bool}{A:Type}{x y:Prog A}{Z:St}{z:A}(h:(bif b then x else y).ends Z z):(b=true/\x.ends Z z)\/(b=false/\y.ends Z z):=by
 cases b with
 |true=>exact .inl ⟨rfl,h⟩
 |false=>exact .inr ⟨rfl,h⟩
theorem Tt{h:Heap}{own:List TypeId}{ok:Nat->Prop}:∀{k:K} {x:El k} {cs:List Value} {fo:List Nat},k.flat=true->Ow h own ok k x cs fo->fo=[]:=by
 intro k
 induction k with
 |sl e k ih=>intro x cs fo h;simp[K.flat]at h
 |gap n=>intro x cs fo h;simp[K.flat]at h
 |pair a b iha ihb=>
  intro x cs fo h H
  simp only[K.flat,bg]at h
  obtain⟨c1,c2,f1,f2,e,hp,h1,h2⟩:=H
  rw[iha h.1 h1,ihb h.2 h2]at hp
  exact hp.eq_nil
 |st f ih=>intro x cs fo h H;exact ih (x:=x) h H
 |_=>intro x cs fo _ H;exact H.1
theorem ady{h:Heap}{own:List TypeId}{ok:Nat->Prop}{e:TypeId}{kk:K}{xs:List (El kk)}{b b':Option Addr}{n c hi:Nat}{fo:List Nat}(hf:kk.flat=true)(he:ah e own=true)(hn:hi<=n)(hb':b'=b)
  (H:Ow h own ok (.sl e kk) xs [.slice b n c] fo):Ow h own ok (.sl e kk) (show List (El kk)from xs.take hi) [.slice b' hi c] fo:=by
 unfold Ow at H ⊢
 rw[ak he]at H ⊢
 obtain⟨a,n',c',e1,e2,e3,H⟩:=H
 simp only[gQ,mE,dZ]at e1
 obtain⟨rfl,rfl,rfl⟩:=e1
 have hlen:(xs.take hi).length=hi:=by
  have:n=xs.length:=e2
  simp;omega
 refine⟨b,hi,c,by rw[hb'],hlen.symm,by omega,?_⟩
 rcases H with H|⟨bb,o,arr,l,u,ea,hb,hfr,hs,au,hl,hp,H⟩
 ·exact .inl H
 ·have h0:∀l∈au,l=[]:=by
   intro l hl'
   obtain⟨i,hi',rfl⟩:=u_.1 hl'
   have hl:au.length=xs.length:=hl
   obtain⟨ds,_,h2⟩:=H i (by show i<xs.length;omega)
   have:=Tt hf h2
   rw[<-this];simp[gy,hi']
  have hfl:au.flatten=[]:=List.flatten_eq_nil_iff.2 h0
  have ag7:(au.take hi).flatten=[]:=List.flatten_eq_nil_iff.2 λl hl'=>h0 l (Li hl')
  refine .inr ⟨bb,o,arr,l,u,ea,hb,hfr,hs,au.take hi,by show(au.take hi).length=(xs.take hi).length;simp only[uq];rw[show au.length=xs.length from hl],by rw[ag7,<-hfl];exact hp,λi hi'=>?_⟩
  have hi2:i<(xs.take hi).length:=hi'
  have hi3:i<hi/\i<xs.length:=by simp at hi2;omega
  obtain⟨ds,h1,h2⟩:=H i hi3.2
  refine⟨ds,h1,?_⟩
  have e1:(show List (El kk)from xs.take hi)[i]'hi'=xs[i]'hi3.2:=by
   show(xs.take hi)[i]=_
   simp
  have e2:(au.take hi).getD i []=au.getD i []:=by simp[gy,Lh,hi3.1]
  rw[e1,e2]
  exact h2
inductive p_(cx:Cx)(Z:St)(J:aF)(F:List Nat)(w:World)(v:Value)(tk:dS):Prop
 |held (hws:tk.ws=[]) (cs:List Value) (hv:VC tk.k v cs) (h:Held cx Z J F w tk.k tk.x tk.own tk.tags cs []) (hc:cu Z (aZ tk.own tk.k) tk.tags=true)
 |ref (r:Nat) (R:Root) (hr:aU Z r R) (hv:cz Z R) (e:tk=⟨R.k,R.x,R.own,R.tags,[.r r none],R.keep⟩) (hk:R.kind=.anon) (hd:VC R.k v (J.hdr r))
 |gap (r:Nat) (R:Root) (p:List Stp) (d z:Dat) (hr:aU Z r R) (hv:cz Z R) (hg:aA p R.k R.x=some d) (hz:bJ p R.k R.x (mO d)=some z) (b_:bM p R.k R.x)
   (hown:∀t∈az p R.k,ah t R.own=true) (hpv:p≠[]\/∃t,R.kind=.var t) (e:tk=⟨d.1,d.2,d.1.tys.filter (λt=>ah t R.own),R.tags,[.r r (some (jv R d z))],R.keep⟩)
   (hn:∃cs wh,aN (hp w) p R.k (J.hdr r) (aK J R r)=some (cs,wh)/\VC d.1 v cs)
 |cut (r:Nat) (R:Root) (cs:List Value) (hr:aU Z r R) (hv:cz Z R) (hk:R.kind=.anon) (e:tk.own=R.own/\tk.tags=R.tags/\tk.ws=[.r r none]/\tk.keep=R.keep) (hd:VC tk.k v cs) (hl:cs.length=tk.k.size)
   (qO:aZ R.own tk.k=aZ R.own R.k) (how:∀ok,Ow (hp w) R.own ok R.k R.x (J.hdr r) (J.fo r)->Ow (hp w) R.own ok tk.k tk.x cs (J.fo r))
theorem Ka{e:TypeId}{k:K}{c:Option Addr}:VC (.sl e k) (.slice c 0 0) [.slice c 0 0]:=⟨rfl,by simp⟩
theorem xS{A:Type}{z:A}(H:Rel cx Z J F a w){want:K}{x:AV}{v:Value}{k:dS->Prog A}(hx:aR cx Z J F w x v)(hw:dB Z x)(h:(qp want x k).ends Z z) :
  ∃tk,p_ cx Z J F w v tk/\(k tk).ends Z z:=by
 cases x with
 |val kk y T=>
  obtain⟨h1,h2⟩:=qG h
  obtain⟨cs,h3,h4⟩:=hx (.inr h1)
  have hty:∀t∈aZ [] kk,t∈kk.tys:=λt ht=>QU ht
  exact⟨⟨kk,y,[],T,[],false⟩,.held rfl cs h3 ⟨λ_=>yH (λt _=>rfl) h4,hw,λb hb=>by simp at hb,lM,lQ h4⟩ (yR h1 (λ_ h=>h) hty),h2⟩
 |eH=>
  obtain⟨c,rfl⟩:=hx
  unfold qp at h
  cases want with
  |sl e kk=>
   refine⟨_,.held rfl [.slice c 0 0] Ka ⟨λ_=>?_,λt ht=>by simp at ht,λb hb=>by simp at hb,lM,rfl⟩ rfl,h⟩
   unfold Ow
   rw[ak (by simp[ah])]
   exact⟨c,0,0,rfl,rfl,bT _,.inl ⟨rfl,rfl⟩⟩
  |_=>exact h.elim
 |ref r g=>
  obtain⟨R,hr,hv,h⟩:=gJ h
  cases hg:(Nat.beq R.g g && !R.fixed)with
  |false=>simp only[hg,jr]at h;exact h.elim
  |true=>
   simp only[hg,fJ]at h
   simp only[bg]at hg
   obtain⟨h1,h2⟩:=hx R hr (a_ hg.1)
   exact⟨_,.ref r R hr hv rfl h1 h2,h⟩
 |dJ r p n=>
  obtain⟨R,hr,hv,h⟩:=gJ h
  cases hg:Nat.beq R.dF n with
  |false=>simp only[hg,jr]at h;exact h.elim
  |true=>
   simp only[hg,fJ]at h
   cases dQ:aA p R.k R.x with
   |none=>rw[dQ]at h;exact h.elim
   |some d=>
    rw[dQ]at h
    obtain⟨h1,h2,cs,wh,h3,h4⟩:=hx R hr.1 hv (a_ hg) d dQ
    cases hc:(p.all Stp.jo && !R.fixed&&(!p.isEmpty||R.isVar))with
    |true=>
     simp only[hc,fJ]at h
     cases hga:uJ R p d with
     |none=>rw[hga]at h;exact h.elim
     |some R'=>
      rw[hga]at h
      unfold uJ at hga
      cases hz:bJ p R.k R.x (mO d)with
      |none=>rw[hz]at hga;simp at hga
      |some zz=>
       rw[hz]at hga
       simp only[aa]at hga
       subst hga
       simp only[bg,nI]at hc
       refine⟨_,.gap r R p d zz hr hv dQ hz h1 h2 ?_ rfl ⟨cs,wh,h3,h4⟩,h⟩
       rcases hc.2 with h|h
       ·left;intro e;subst e;simp at h
       ·right
        unfold Root.isVar at h
        cases hk:R.kind with
        |var t=>exact⟨t,rfl⟩
        |anon=>rw[hk]at h;simp at h
        |par=>rw[hk]at h;simp at h
        |dead=>rw[hk]at h;simp at h
    |false=>
     simp only[hc,jr]at h
     obtain⟨aS,h5,h6⟩:=tT H hr hv dQ h1 h2 h3
     have hV:=tL H hr h5 h6
     obtain⟨hc1,h⟩:=qG h
     exact⟨⟨d.1,d.2,[],R.out r d.1,[],false⟩,.held rfl cs h4 ⟨λ_=>yH (λt _=>rfl) hV,BR H hr _,λb hb=>by simp at hb,lM,lQ hV⟩ (yR hc1 (λ_ h=>h) (λt ht=>QU ht)),h⟩
 |undef=>exact h.elim
 |ptr r p n=>exact h.elim
 |eY bt kk y T=>exact h.elim
 |ko _ _ _ _=>exact h.elim
 |nG _=>exact h.elim
 |part r g lo hi sz=>
  obtain⟨R,hr,hv,h⟩:=gJ h
  rcases bz h with⟨hg,h5⟩|⟨_,h5⟩
  ·clear h
   simp only[bg]at hg
   obtain⟨b',b,n,c,e1,eb,e2,e3,e4,hrf⟩:=hx
   obtain⟨h1,h2⟩:=hrf R hr (a_ hg.1.1)
   have hlo:lo=0:=a_ hg.2
   subst hlo
   have hK:∀q:Dat,(⟨R.k,R.x⟩:Dat)=q->(match q.1,q.2 with
     |.sl e kk,xs=>bif kk.flat&&ah e R.own&&Nat.beq kk.size sz then k ⟨.sl e kk,(show List (El kk)from xs).take hi,R.own,R.tags,[.r r none],R.keep⟩else .fail
     |_,_=>Prog.fail).ends Z z->∃tk,p_ cx Z J F w v tk/\(k tk).ends Z z:=by
    intro q hq hh0
    obtain⟨qk,qx⟩:=q
    cases qk with
    |sl e kk=>
     simp only at hh0
     rcases bz hh0 with⟨hc,hh⟩|⟨_,hh⟩
     ·clear hh0
      simp only[bg]at hc
      have hsz:kk.size=sz:=a_ hc.2
      subst hsz
      have DR:VC (.sl e kk) (.slice b n c) (J.hdr r):=by
       have:=congrArg (λq:Dat=>VC q.1 (.slice b n c) (J.hdr r)) hq
       exact cast this h2
      have hb0:b'=b:=by
       rw[eb (.inl rfl)]
       cases b with
       |none=>rfl
       |some ad=>obtain⟨x,y,z⟩:=ad;simp[Addr.add]
      refine⟨⟨.sl e kk,(show List (El kk)from qx).take hi,R.own,R.tags,[.r r none],R.keep⟩,.cut r R [.slice b' hi c] hr hv h1 ⟨rfl,rfl,rfl,rfl⟩ ⟨by rw[e1];simp,by rw[e1];simp⟩ rfl ?_ (λok hO=>?_),hh⟩
      ·exact congrArg (λq:Dat=>aZ R.own q.1) hq.symm
      ·have hO:=cast (congrArg (λq:Dat=>Ow (hp w) R.own ok q.1 q.2 (J.hdr r) (J.fo r)) hq) hO
       simp only at hO
       rw[DR.1]at hO
       exact ady hc.1.1 hc.1.2 e3 hb0 hO
     ·exact hh.elim
    |_=>exact hh0.elim
   exact hK _ rfl h5
  ·exact h5.elim
 |lH _ _ _ _=>exact h.elim
 |sub _ _ _ _ _ _=>exact h.elim
 |sel _ _ _ _ _ _=>exact h.elim
 |app _ _ _ _=>exact h.elim
 |iI=>exact h.elim
 |fn f cs=>exact h.elim
def sw(cx:Cx)(Z:St)(J:aF)(F:List Nat)(w:World):List (Value×dS)->List (List Value×List Nat)->Prop
 | [],[]=>True
 |it :: l,h :: hs=>(VC it.2.k it.1 h.1/\Held cx Z J F w it.2.k it.2.x it.2.own it.2.tags h.1 h.2/\cu Z (aZ it.2.own it.2.k) it.2.tags=true)/\sw cx Z J F w l hs
 |_,_=>False
def cO(l:List (Value×dS)):List Wr:=l.flatMap λit=>it.2.ws
def l_(l:List (Value×dS)):List Tag:=l.flatMap λit=>it.2.tags
theorem Z0(a b:List Wr):(a++b).flatMap Wr.dR=a.flatMap Wr.dR++b.flatMap Wr.dR:=List.flatMap_append
theorem take1(H:Rel cx Z J F a w){v:Value}{tk:dS}(h:p_ cx Z J F w v tk) :
  ∃J' F' cs fo lw lh,Rel cx (aB tk.ws Z) J' F' a w/\gL cx Z J F w (aB tk.ws Z) J' F' w lw lh/\VC tk.k v cs/\Held cx (aB tk.ws Z) J' F' w tk.k tk.x tk.own tk.tags cs fo/\
   cu (aB tk.ws Z) (aZ tk.own tk.k) tk.tags=true/\(∀b∈F,b∈F')/\(∀b∈fo,b∉F)/\(∀q,q∉tk.ws.flatMap Wr.dR->Same Z J (aB tk.ws Z) J' q):=by
 cases h with
 |held hws cs hv hh hc=>
  rw[hws]
  exact⟨J,F,cs,[],_,_,H,BO H ⟨rfl,rfl,rfl⟩ (bT _) (λ_ _ h=>absurd rfl h) (λb hb=>.inl hb) H.gD,hv,hh,hc,λ_ h=>h,λb hb=>by simp at hb,λq _=>sG ..⟩
 |ref r R hr hv e hk hd=>
  subst e
  obtain⟨h1,h2,h3,h4⟩:=kill H hr hk hv
  refine⟨_,_,J.hdr r,J.fo r,_,_,h1,h2,hd,h3,h4,λb hb=>bD _ hb,λb hb hF=>H.dM r R hr b (bD _ hb) hF,?_⟩
  intro q hq
  have hq':q≠r:=by simpa[Wr.dR]using hq
  exact kg hq'
 |cut r R cs hr hv hk e hd hl qO how=>
  obtain⟨e1,e2,e3,e4⟩:=e
  obtain⟨h1,h2,h3,h4⟩:=kill H hr hk hv
  rw[e3]
  refine⟨_,_,cs,J.fo r,_,_,h1,h2,hd,?_,?_,λb hb=>bD _ hb,λb hb hF=>H.dM r R hr b (bD _ hb) hF,?_⟩
  ·rw[e1,e2]
   refine⟨λhc=>?_,h3.wt,h3.sub,h3.nd,hl⟩
   have:=h3.ow (by rw[<-qO];exact hc)
   exact how _ this
  ·rw[e1,e2]
   show cu (aL Z r gM) (aZ R.own tk.k) R.tags=true
   rw[qO];exact h4
  ·intro q hq
   have hq':q≠r:=by simpa[Wr.dR]using hq
   exact kg hq'
 |gap r R p d z hr hv hg hz b_ hown hpv e hn=>
  subst e
  obtain⟨cs,wh,hn1,hn2⟩:=hn
  obtain⟨cs1,bZ,aS,rest,g1,g2,g3,g4,g5,_⟩:=gap H hr hv hg hz b_ hown hpv
  rw[hn1]at g1
  simp only[aa,bK]at g1
  obtain⟨rfl,rfl⟩:=g1
  have hcl:cu (aL Z r (jv R d z)) (aZ R.own d.1) R.tags=true:=by
   rw[g5]
   exact yR hv.2 (λ_ h=>h) (Ko p hg hown)
  refine⟨_,_,cs,aS,_,_,g2,g3,hn2,?_,?_,λb hb=>bD _ hb,?_,?_⟩
  ·refine⟨λhc=>?_,g4.wt,g4.sub,g4.nd,g4.len⟩
   exact q8 (λt ht=>Y4 t ht) (g4.ow (by rw[Kn d.1 (λ_ h=>h)]at hc;exact hc))
  ·show cu (aL Z r (jv R d z)) (aZ (d.1.tys.filter λt=>ah t R.own) d.1) R.tags=true
   rw[Kn d.1 (λ_ h=>h)]
   exact hcl
  ·intro b hb hF
   have:=g2.gD
   exact(dA.1 this).2.2 b hb b hF rfl
  ·intro q hq
   have hq':q≠r:=by simpa[Wr.dR]using hq
   exact kg hq'
theorem qc{Z':St}{tys:List TypeId}{T:List Tag}(h:∀t∈T,Z'.roots t.1=Z.roots t.1):cu Z' tys T=cu Z tys T:=by
 induction T with
 |nil=>rfl
 |cons t T ih=>
  obtain⟨q,n⟩:=t
  simp only[cu]
  rw[ih (λt ht=>h t (by simp[ht])),h (q,n) (by simp)]
theorem p_.stays{Z':St}{J':aF}{F':List Nat}{lw lh:Nat->List Nat}{v:Value}{tk:dS}(h:p_ cx Z J F w v tk)(H:Rel cx Z J F a w)(T:gL cx Z J F w Z' J' F' w lw lh)
  (hs:∀q,(q∈tk.ws.flatMap Wr.dR\/q∈tk.tags.map (·.1))->Same Z J Z' J' q):p_ cx Z' J' F' w v tk:=by
 cases h with
 |held hws cs hv hh hc=>
  exact .held hws cs hv (hh.turn H T (λb hb=>by simp at hb)) (by rw[qc (λt ht=>(hs t.1 (.inr (eD.2 ⟨t,ht,rfl⟩))).root)];exact hc)
 |ref r R hr hv e hk hd=>
  subst e
  have hS:=hs r (.inl (by simp[Wr.dR]))
  refine .ref r R ((hS.live R).2 hr) ⟨hv.1,?_⟩ rfl hk (by rw[hS.hdr];exact hd)
  rw[qc (λt ht=>(hs t.1 (.inr (eD.2 ⟨t,ht,rfl⟩))).root)]
  exact hv.2
 |cut r R cs hr hv hk e hd hl qO how=>
  have hS:=hs r (.inl (by rw[e.2.2.1];simp[Wr.dR]))
  refine .cut r R cs ((hS.live R).2 hr) ⟨hv.1,?_⟩ hk e hd hl qO (by rw[hS.hdr,hS.fo];exact how)
  rw[qc (λt ht=>(hs t.1 (.inr (eD.2 ⟨t,by rw[e.2.1];exact ht,rfl⟩))).root)]
  exact hv.2
 |gap r R p d z hr hv hg hz b_ hown hpv e hn=>
  subst e
  have hS:=hs r (.inl (by simp[Wr.dR]))
  refine .gap r R p d z ((hS.live R).2 hr) ⟨hv.1,?_⟩ hg hz b_ hown hpv rfl (by rw[hS.hdr,hS.wh];exact hn)
  rw[qc (λt ht=>(hs t.1 (.inr (eD.2 ⟨t,ht,rfl⟩))).root)]
  exact hv.2
theorem sw.turn{Z':St}{J':aF}{F':List Nat}{lw lh:Nat->List Nat}(H:Rel cx Z J F a w)(T:gL cx Z J F w Z' J' F' w lw lh)(hF:∀b∈F,b∈F') :
  ∀{l:List (Value×dS)} {hs:List (List Value×List Nat)},(∀t∈l_ l,Z'.roots t.1=Z.roots t.1)->sw cx Z J F w l hs->sw cx Z' J' F' w l hs
 | [],[],_,_=>trivial
 |it :: l,h :: hs,hr,hh=>by
  refine⟨⟨hh.1.1,hh.1.2.1.turn H T (λb hb=>⟨rfl,hF b (hh.1.2.1.sub b hb)⟩),?_⟩,sw.turn H T hF (λt ht=>hr t (by simp only[l_,kK,cZ];exact .inr ht)) hh.2⟩
  rw[qc (λt ht=>hr t (by simp only[l_,kK,cZ];exact .inl ht))]
  exact hh.1.2.2
 | [],_ :: _,_,h=>h.elim
 |_ :: _,[],_,h=>h.elim
theorem Dk{l:List Nat}:Ay l=true↔l.Nodup:=by
 induction l with
 |nil=>simp[Ay]
 |cons n l ih=>simp[Ay,ih,gq]
theorem takes:∀(l:List (Value×dS)) {Z:St} {J:aF} {F:List Nat},Rel cx Z J F a w->(∀it∈l,p_ cx Z J F w it.1 it.2)->((cO l).flatMap Wr.dR).Nodup->(∀t∈l_ l,t.1∉(cO l).flatMap Wr.dR)->
  ∃J' F' hs,Rel cx (aB (cO l) Z) J' F' a w/\sw cx (aB (cO l) Z) J' F' w l hs/\(hs.flatMap (·.2)).Nodup/\(∀b∈hs.flatMap (·.2),b∉F)/\(∀b∈F,b∈F')/\
   (∀q,q∉(cO l).flatMap Wr.dR->Same Z J (aB (cO l) Z) J' q)/\
   (∀k x own tags cs fo,Held cx Z J F w k x own tags cs fo->Held cx (aB (cO l) Z) J' F' w k x own tags cs fo)/\Views cx Z J F w (aB (cO l) Z) J' F' w/\(∀t,pO Z t->pO (aB (cO l) Z) t)/\(∀q,Z.roots q=none->(aB (cO l) Z).roots q=none):=by
 intro l
 induction l with
 |nil=>intro Z J F H _ _ _;exact⟨J,F,[],H,trivial,lM,λb hb=>by simp at hb,λ_ h=>h,λq _=>sG ..,λ_ _ _ _ _ _ h=>h,λT tys _ h=>⟨h,λb hb _=>⟨hb,rfl⟩,λb hb _=>⟨hb,rfl⟩⟩,λ_ h=>h,λ_ h=>h⟩
 |cons it l ih=>
  intro Z J F H hT hnd dU
  have e1:cO (it :: l)=it.2.ws++cO l:=rfl
  have e2:l_ (it :: l)=it.2.tags++l_ l:=rfl
  rw[e1,Z0]at hnd dU
  rw[e2]at dU
  obtain⟨aV,F1,cs,fo,lw,lh,H1,T1,h1,h2,h3,h4,h5,h6⟩:=take1 H (hT it (by simp))
  have hnd':=dA.1 hnd
  obtain⟨fZ,F2,hs,H2,g1,g2,g3,g4,g5,g6,g7,g8,g9⟩:=ih H1 (λit' hi=>(hT it' (by simp[hi])).stays H T1 (λq hq=>by
   refine h6 q ?_
   rcases hq with hq|hq
   ·intro hq'
    exact hnd'.2.2 q hq' q (by
     rw[nN]at hq ⊢
     obtain⟨wr,hw1,hw2⟩:=hq
     exact⟨wr,nN.2 ⟨it',hi,hw1⟩,hw2⟩) rfl
   ·obtain⟨t,ht,rfl⟩:=eD.1 hq
    intro hq'
    exact dU t (bD _ (nN.2 ⟨it',hi,ht⟩)) (bP _ hq'))) hnd'.2.1
   (λt ht hq=>dU t (bD _ ht) (bD _ hq))
  rw[e1,mF]
  have hq1:∀q,q∉(it.2.ws).flatMap Wr.dR++(cO l).flatMap Wr.dR->Same Z J (aB (cO l) (aB it.2.ws Z)) fZ q:=by
   intro q hq
   simp only[cZ,not_or]at hq
   have s1:=h6 q hq.1
   have s2:=g5 q hq.2
   exact⟨s2.root.trans s1.root,s2.loc.trans s1.loc,s2.hdr.trans s1.hdr,s2.fo.trans s1.fo⟩
  refine⟨fZ,F2,(cs,fo) :: hs,H2,⟨⟨h1,g6 _ _ _ _ _ _ h2,?_⟩,g1⟩,?_,?_,λb hb=>g4 b (h4 b hb),?_,λk x own tags cs fo hh=>g6 _ _ _ _ _ _ (hh.turn H T1 (λb hb=>⟨rfl,h4 b (hh.sub b hb)⟩)),?_,λt ht=>g8 t (T1.tag ht),?_⟩
  ·rw[qc (λt ht=>(g5 t.1 (λhq=>dU t (bP _ ht) (bD _ hq))).root)]
   exact h3
  ·simp only[kK]
   exact dA.2 ⟨h2.nd,g2,λb hb c hc e=>g3 c hc (e▸h2.sub b hb)⟩
  ·intro b hb hF
   simp only[kK,cZ]at hb
   rcases hb with hb|hb
   ·exact h5 b hb hF
   ·exact g3 b hb (h4 b hF)
  ·rw[Z0]
   exact hq1
  ·intro T tys hw hc
   obtain⟨k1,k2,k3⟩:=g7 T tys (λt ht=>T1.tag (hw t ht)) hc
   obtain⟨j1,j2,j3⟩:=T1.views H T tys hw k1
   refine⟨j1,λb hb ht=>?_,λb hb ht=>?_⟩
   ·obtain⟨a1,a2⟩:=j2 b hb ht
    exact⟨(k2 b a1 ht).1,rfl⟩
   ·obtain⟨a1,a2⟩:=j3 b hb ht
    exact⟨(k3 b a1 ht).1,rfl⟩
  ·intro q hq
   refine g9 q ?_
   cases hq2:(aB it.2.ws Z).roots q with
   |none=>rfl
   |some Q=>
    exfalso
    by_cases hm:q∈(it.2.ws).flatMap Wr.dR
    ·have:=hT it (by simp)
     cases this with
     |held hws cs hv hh hc=>rw[hws]at hm;simp at hm
     |ref r R hr hv e hk hd=>rw[e]at hm;simp[Wr.dR]at hm;subst hm;rw[hr.1]at hq;simp at hq
     |cut r R cs hr hv hk e hd hl qO how=>rw[e.2.2.1]at hm;simp[Wr.dR]at hm;subst hm;rw[hr.1]at hq;simp at hq
     |gap r R p d z hr hv hg hz b_ hown hpv e hn=>rw[e]at hm;simp[Wr.dR]at hm;subst hm;rw[hr.1]at hq;simp at hq
    ·rw[(h6 q hm).root,hq]at hq2
     simp at hq2
end
end
section
open Go
variable [Fr]
theorem sU(j:Nat):fO (gB j)=true:=by simp[fO,gB,Nat.add_mod]
theorem HV{ws:List Wr}{T:List Tag}:wX ws T=true↔∀t∈T,t.1∉ws.flatMap Wr.dR:=by
 unfold wX
 rw[dX]
 simp[gq]
theorem aoU{ws:List Wr}{r:Nat}(h:(ws.all λw=>!w.loc.beq (.r r))=true):r∉ws.flatMap Wr.dR:=by
 rw[nN]
 rintro⟨w,h1,h2⟩
 have:=dX.1 h w h1
 cases w with
 |s n a=>simp[Wr.dR]at h2
 |r n o=>
  simp only[Wr.dR,gW]at h2
  subst h2
  simp[Wr.loc,Loc.beq]at this
theorem H9:∀(n:Nat) {c:K} {x:El c} {s:Dat} {q:Nat×K},aM n c x=some s->bI n c=some q->q.2=s.1:=by
 intro n
 induction n with
 |zero=>intro c x s q h1 h2;cases c with
  |pair a b=>simp only[aM,bI,aa]at h1 h2;subst h1;subst h2;rfl
  |_=>simp[aM]at h1
 |succ n ih=>intro c x s q h1 h2;cases c with
  |pair a b=>
   simp only[aM,bI]at h1 h2
   cases h3:bI n b with
   |none=>rw[h3]at h2;simp at h2
   |some q3=>rw[h3]at h2;simp only[aa]at h2;subst h2;exact ih (q:=q3) h1 h3
  |_=>simp[aM]at h1
theorem am3{h:Heap}:∀(p:List Stp) {k:K} {x:El k} {cs:List Value} {c1:List Value} {w1:Option (Nat×Nat)},az p k=[]->(aA p k x).isSome=true->aN h p k cs none=some (c1,w1)->w1=none:=by
 intro p
 induction p with
 |nil=>intro k x cs c1 w1 _ _ h;simp only[aN,aa,bK]at h;exact h.2.symm
 |cons s p ih=>
  intro k x cs c1 w1 h0 hs h
  cases s with
  |aP n=>
   cases k with
   |st c=>
    simp only[aA]at hs
    cases hg:aM n c x with
    |none=>rw[hg]at hs;simp at hs
    |some s=>
     rw[hg]at hs
     have hp2:az (.aP n :: p) (.st c)=az p s.1:=by simp[az,jK n hg]
     rw[hp2]at h0
     simp only[aN]at h
     cases ho:bI n c with
     |none=>rw[ho]at h;simp at h
     |some q=>
      have hk2:q.2=s.1:=H9 n (c:=c) hg ho
      rw[ho]at h
      obtain⟨q1,q2⟩:=q
      simp only at hk2
      subst hk2
      exact ih h0 hs h
   |_=>simp[aA]at hs
  |idx i=>
   cases k with
   |sl e k=>simp[az]at h0
   |_=>simp[aA]at hs
theorem K.ad3:∀k:K,k.beq k=true:=by
 intro k
 induction k with
 |int ik=>cases ik<;>rfl
 |sl e k ih=>simp[K.beq,ih]
 |pair a b iha ihb=>simp[K.beq,iha,ihb]
 |st f ih=>exact ih
 |gap n=>simp[K.beq]
 |id e=>simp[K.beq]
 |_=>rfl
theorem Tu:∀(q:List Stp) {k:K} {x:El k},bM q k x->(aA q k x).isSome=true:=by
 intro q
 induction q with
 |nil=>intro k x _;rfl
 |cons s q ih=>
  intro k x h
  cases s with
  |aP n=>
   cases k with
   |st c=>
    simp only[bM]at h
    simp only[aA]
    cases hc:aM n c x with
    |none=>rw[hc]at h;exact h.elim
    |some d=>rw[hc]at h;exact ih h
   |_=>exact h.elim
  |idx i=>
   cases k with
   |sl e k=>exact ih h.2.2
   |_=>exact h.elim
theorem adz:∀(q:List Stp) {k:K} {x:El k},az q k=[]->(aA q k x).isSome=true->bM q k x:=by
 intro q
 induction q with
 |nil=>intro k x _ _;trivial
 |cons s q ih=>
  intro k x h0 hs
  cases s with
  |idx i=>cases k<;>simp[az,aA]at h0 hs
  |aP n=>
   cases k with
   |st c=>
    simp only[aA]at hs
    cases hg:aM n c x with
    |none=>rw[hg]at hs;simp at hs
    |some s=>
     rw[hg]at hs
     simp only at hs
     have hp2:az (.aP n :: q) (.st c)=az q s.1:=by simp[az,jK n hg]
     rw[hp2]at h0
     simp only[bM,hg]
     exact ih h0 hs
   |_=>simp[aA]at hs
section
variable {cx:Cx}{Z:St}{J:aF}{F:List Nat}{a:Act}{w:World}{r:Nat}{R:Root}
theorem aoy{P:Program}{T:bF}{t:TypeId}{kk:K}{x:El kk}{jX:List TypeId}{rZ:List Tag}{vH:List Value}{y9:List Nat}{v:Value}(hT:cK P T t kk)
  (H:Rel cx Z J F a w) (hr:aU Z r R) (hv:cz Z R) {p:List Stp} {d z:Dat} (hg:aA p R.k R.x=some d) (hz:bJ p R.k R.x ⟨kk,x⟩=some z) (b_:bM p R.k R.x) (hown:∀t∈az p R.k,ah t R.own=true)
  (hh:Held cx Z J F w kk x jX rZ vH y9) (hc:cu Z (aZ jX kk) rZ=true) (jm:VC kk v vH) (hd:d.1=kk\/d.1=kk.hole)
  (hself:kk.flat=true\/J9 R r rZ (aZ jX kk)=true) (hbad:∀t∈az p R.k,t∉aZ jX kk) (kp:Bool)
  {cs1:List Value} {b o:Nat} (hn:aN (hp w) p R.k (J.hdr r) (aK J R r)=some (cs1,some (b,o))) :
  ∃w',(Instr.storeAt t (.pointer (some ⟨b,o,none⟩)) v).run P w=.ok () w'/\∃J' F',
   Rel cx (aL Z r (fV R z (dV R.own (aZ jX kk)) (bif kk.flat then R.tags else jS (qd r rZ) R.tags) [fU R p] ((bif d.1.beq kk then []else qJ kk)++kk.tys) kp)) J' F' a w':=by
 have K0:=H.roots r R hr
 have hnt:=H.fu r R hr.1
 have o_:=hh.ow hc
 obtain⟨_,_,hbb,⟨arr,e,lo,hi,hb,hf,hs,hlast⟩,_⟩:=tQ H hr hv hg b_ hown hn
 have hds:kk.size=d.1.size:=by
  rcases hd with h|h
  ·rw[h]
  ·rw[h,zq]
 have hone:=G6 hT.fq o_
 have hrun:=aah (o:=o) hT hb hf hh.len (by omega) jm hone
 obtain⟨s1,s2,fD,s3,s4,s5,s6⟩:=Cf b vH w arr e (lo,hi) o hb (by rw[hh.len];omega)
 have s7:=Cg b vH w o
 refine⟨_,hrun,?_⟩
 have Wd:∀t∈az p R.k,ah t (dV R.own (aZ jX kk))=true:=λt ht=>nZ.2 ⟨hown t ht,hbad t ht⟩
 obtain⟨fd,ok',aS,rest,iG,bZ,hn',hpf,hd1,hty,_,fM,hwf,hgo⟩:=H.place hr hv (own':=dV R.own (aZ jX kk)) hg b_ (λt h=>(nZ.1 h).1) Wd
 rw[hn]at hn'
 simp only[aa,bK]at hn'
 obtain⟨rfl,rfl⟩:=hn'
 obtain⟨ft,iO,hpt,DN⟩:=vo (own':=dV R.own (aZ jX kk)) (λt ht hm=>by
  rcases FT (own:=jX) ht with h|h
  ·exact absurd h (nZ.1 hm).2
  ·exact h) (qE (aZ jX kk) (λ_ h=>h) o_)
 have V4:=hpt.nodup hh.nd
 have hft:∀b∈ft,b∈y9:=λb hb=>hpt.mem_iff.2 (bP _ hb)
 have Nl:∀b∈iO,b∈y9:=λb hb=>hpt.mem_iff.2 (bD _ hb)
 have kS:b∉F:=H.dM r R hr b hbb
 have ahg:=yG DN
 suffices hP:yJ cx Z J F w r R p d (dV R.own (aZ jX kk)) cs1 (some (b,o)) aS rest ⟨kk,x⟩ z (bif kk.flat then R.tags else jS (qd r rZ) R.tags) [fU R p] ((bif d.1.beq kk then []else qJ kk)++kk.tys) kp ft (F.filter λb=>!ah b y9) vH (w.setCells b o vH) by
  obtain⟨J',h,_⟩:=hgo hP
  exact⟨J',_,h⟩
 have hF':∀b',b'∈F.filter (λb=>!ah b y9)↔b'∈F/\b'∉y9:=λb'=>by rw[iU];simp[gq]
 refine⟨hz,hds,?_,⟨s7.1,s7.2.1,s7.2.2⟩,by omega,?_,?_,λh=>by simp at h,by rw[hh.len,hds],.inl (by simp),?_,λb' hb'=>.inr (.inl (hh.sub b' (hft b' hb'))),(dA.1 V4).1,λb' hb'=>.inl ((hF' b').1 hb').1,H.gD.filter _,λb' hb' h=>((hF' b').1 h).2 (hft b' hb'),.inr (by simp),?_,?_,?_⟩
 ·rcases hd with h|h
  ·rw[h];exact λ_ h=>h
  ·rw[h,aoM];intro t ht;simp at ht
 ·intro b' _ hne
  refine .inr (.inr ?_)
  by_cases e:b'=b
  ·subst e;exact⟨o,rfl,by simp⟩
  ·exact absurd (s1 b' e) hne
 ·intro b' o' e'
  simp only[aa,bK]at e'
  obtain⟨rfl,rfl⟩:=e'
  refine⟨λi hi=>?_,arr,fD,e,(lo,hi),hb,s3,s4,λi hi=>?_⟩
  ·unfold cellAt
   rw[s3]
   exact s5 i hi
  ·exact s6 i (by rw[hh.len,hds];exact hi)
 ·cases hfl:kk.flat with
  |true=>exact⟨λ_ h=>h,hnt.1,hnt.2.2⟩
  |false=>
   refine⟨λt ht=>kF.2 (.inr ht),λt ht=>?_,λn ht=>?_⟩
   ·rcases kF.1 ht with h|h
    ·exact hh.wt t (wm.1 h).1
    ·exact hnt.1 t h
   ·rcases kF.1 ht with h|h
    ·exact(wm.1 h).2 rfl
    ·exact hnt.2.2 n h
 ·cases hbq:d.1.beq kk with
  |true=>exact .inl (K.eq_of_beq hbq).symm
  |false=>
   have VG:d.1=kk.hole:=hd.resolve_left (λe=>by rw[e,K.ad3]at hbq;simp at hbq)
   refine .inr (.inl λq' h1 h2=>?_)
   have hnil:az q' kk=[]:=by
    cases he:az q' kk with
    |nil=>rfl
    |cons e l=>exact absurd (bD _ (xO q' e (by rw[he];simp))) (h2 e (by rw[show az q' (⟨kk,x⟩:Dat).1=az q' kk from rfl,he];simp))
   obtain⟨dk,dx⟩:=d
   simp only at VG
   subst VG
   obtain⟨h3,h4⟩:=ahE q' (y:=x) hnil h1
   refine⟨?_,?_⟩
   ·show az q' kk.hole=az q' kk
    rw[h3,hnil]
   ·show(aA q' kk.hole dx).isSome=true
    rw[zb q' (y:=nU kk x)]
    exact h4
 ·intro _ q c0 w0 hpq qM hnq Bp
  obtain⟨dk,dx⟩:=d
  rcases hd with ek|ek
  ·simp only at ek
   subst ek
   exact Fe q hpq (λt ht=>⟨(qM t ht).1,λh=>(qM t ht).2 (bD _ h)⟩) hnq
  ·simp only at ek
   subst ek
   have hs0:(aA q kk.hole dx).isSome=true:=Tu q hpq
   rw[zb q (y:=nU kk x)]at hs0
   obtain⟨h1,h2,h3,_,h5⟩:=NG (h:=hp w) q (x:=x) hs0
   have ahB:aN (hp w) q kk cs1 (some (b,o))=some (c0,w0):=by rw[<-h5];exact hnq
   exact Fe (own:=dV R.own (aZ jX kk)) q (adz q h1 h3) (λt ht=>by rw[h1]at ht;simp at ht) ahB
 ·intro J' Tn hblk hval
  cases hfl:kk.flat with
  |true=>
   obtain⟨e1,e2⟩:=adu (h':=hp (w.setCells b o vH)) (own':=dV R.own (aZ jX kk)) (ok':=aO cx (aL Z r (fV R z (dV R.own (aZ jX kk)) (bif kk.flat then R.tags else jS (qd r rZ) R.tags) [fU R p] ((bif d.1.beq kk then []else qJ kk)++kk.tys) kp)) J' (F.filter λb=>!ah b y9) (w.setCells b o vH) (bif true then R.tags else jS (qd r rZ) R.tags)) hfl DN
   subst e1
   rw[hfl]at e2
   exact e2
  |false=>
   rw[hfl]at Tn hblk hval
   have Bv:=hself.resolve_left (by rw[hfl];simp)
   simp only[jr]at Tn hblk hval ⊢
   generalize hR':fV R z (dV R.own (aZ jX kk)) (jS (qd r rZ) R.tags) [fU R p] ((bif d.1.beq kk then []else qJ kk)++kk.tys) kp=R' at *
   have M8:R'.w=[fU R p]++R.w:=by rw[<-hR'];rfl
   have hRt:R'.tags=jS (qd r rZ) R.tags:=by rw[<-hR'];rfl
   have hRv:R'.oO=aZ (dV R.own (aZ jX kk)) z.1:=by rw[<-hR'];rfl
   have hRd:R'.bV=false:=hval.1
   have ahX:∀t∈aZ jX kk,t∈R'.oO:=by
    intro t ht
    rw[hRv]
    have h1:=aoL (own:=jX) (own':=dV R.own (aZ jX kk)) (k:=kk) (λt ht hm=>by
     rcases FT (own:=jX) ht with h|h
     ·exact absurd h (nZ.1 hm).2
     ·exact h) t ht
    rcases(aaS p hg hz).1 t h1 with h|⟨q,h2,h3⟩
    ·exact h
    ·rw[Wd q h2]at h3;simp at h3
   have ahp:∀n,(r,n)∈rZ->fU R p∉aZ jX kk:=by
    intro n hn1 hl
    unfold fU at hl
    cases hpt:az p R.k with
    |nil=>
     rw[hpt]at hl
     simp only[List.getLastD_nil]at hl
     unfold J9 at Bv
     rw[nI]at Bv
     rcases Bv with h|h
     ·have:=dX.1 h _ hn1
      simp at this
     ·unfold Root.bt at hl
      cases hk:R.kind with
      |var tv=>rw[hk]at h hl;simp only at h hl;rw[jU,gq]at h;exact h hl
      |par=>rw[hk]at h;simp at h
      |anon=>
       rcases fM b o rfl with h1|⟨o0,ew,_⟩
       ·
        rw[hpt]at hbad
        have:=hty b (bD _ h1)
        have hne:aK J R r=none:=by unfold aK;rw[hk]
        rw[hne]at hn
        have:=am3 p hpt (by rw[hg];rfl) hn
        simp at this
       ·unfold aK at ew;rw[hk]at ew;simp at ew
      |dead=>have:=hr.2;simp[Root.bV,hk]at this
    |cons e l=>
     rw[hpt,Tm]at hl
     have:(e :: l).getLast?.getD R.bt∈(e :: l):=by
      rw[List.getLast?_eq_some_getLast (by simp)]
      exact List.getLast_mem _
     exact hbad _ (by rw[hpt];exact this) hl
   have hc':cu (aL Z r R') (aZ jX kk) rZ=true:=by
    rw[vG]
    intro tg dU
    by_cases e:tg.1=r
    ·refine .inr ⟨R',by rw[e];exact fF ..,hRd,?_⟩
     rw[vG]at hc
     rcases hc tg dU with h|⟨Q,h1,h2,h3⟩
     ·rw[e,hnt.2.1]at h;simp at h
     ·rw[e,hr.1]at h1
      simp only[aa]at h1
      subst h1
      rw[M8]
      refine(yS ?_).2 ⟨λt ht=>?_,h3⟩
      ·rcases hh.wt tg dU with h|⟨Q,q1,q2⟩
       ·rw[e,hnt.2.1]at h;simp at h
       ·rw[e,hr.1]at q1
        simp only[aa]at q1
        subst q1
        rcases q2 with q2|q2
        ·rw[hr.2]at q2;simp at q2
        ·exact q2
      ·simp only[gW]at ht
       subst ht
       exact ahp tg.2 (by rw[<-e];exact dU)
    ·have h2:=hval.2
     rw[hRt,vG]at h2
     rcases h2 tg (kF.2 (.inl (wm.2 ⟨dU,e⟩)))with h|⟨Q,h3,h4,h5⟩
     ·exact .inl h
     ·refine .inr ⟨Q,h3,h4,?_⟩
      unfold clean at h5 ⊢
      rw[dX]at h5 ⊢
      intro x hx
      have:=h5 x hx
      simp only[jU,gq]at this ⊢
      exact λh=>this (ahX x h)
   obtain⟨_,hV,_⟩:=Tn.views H rZ (aZ jX kk) hh.wt hc'
   have hsame:∀b',b'≠b->hp (w.setCells b o vH) b'=hp w b':=s1
   refine dK ?_ ?_ (λb' hb'=>hsame b' (λe=>kS (e▸hh.sub b' (hft b' hb')))) DN
   ·rintro b' (⟨h1,h2⟩|h)
    ·exact(hV b' h1 (.inl h2)).2
    ·exact hsame b' (λe=>kS (e▸hh.sub b' (Nl b' h)))
   ·rintro b' (⟨h1,h2⟩|h)
    ·obtain⟨g1,g2,g3,g4,g5⟩:=(hV b' h1 (.inl h2)).1
     refine⟨g1,g2,g3,λq Q hq hbq=>?_,λh0=>?_⟩
     ·obtain⟨n,hn1⟩:=g4 q Q hq hbq
      by_cases e:q=r
      ·exfalso
       subst e
       obtain⟨rfl,_⟩:=nE hq
       obtain⟨tt,ht1,ht2⟩:=h2
       have Ze:∀e,mine cx w b'->h_ (hp w) b'=some e->ah e (dV R.own (aZ jX kk))=true->False:=by
        intro e hmn he hm
        have ht2:=H.zR hmn ht2
        rw[ht2]at he
        simp only[aa]at he
        subst he
        exact(nZ.1 hm).2 ht1
       rcases hblk b' hbq with⟨o',h⟩|h|h
       ·unfold J9 at Bv
        rw[nI]at Bv
        rcases Bv with h3|h3
        ·have:=dX.1 h3 _ hn1
         simp at this
        ·cases hk:R.kind with
         |var tv=>
          rw[hk]at h3
          simp only at h3
          rw[jU,gq]at h3
          obtain⟨_,ao2,e2,lo2,hi2,f1,_,_,f4⟩:=K0.mem b' o' h
          have ht2:=H.zR (K0.mine b' (by unfold blk;rw[h];exact jl)) ht2
          unfold h_ at ht2
          rw[f1]at ht2
          simp only[aa]at ht2
          exact h3 (by rw[<-f4 tv hk,ht2];exact ht1)
         |par=>rw[hk]at h3;simp at h3
         |anon=>unfold aK at h;rw[hk]at h;simp at h
         |dead=>have:=hr.2;simp[Root.bV,hk]at this
       ·obtain⟨e,_,h3,h4⟩:=ahg b' h
        exact Ze e (H.fl b' (hh.sub b' (hft b' h))) h4 h3
       ·obtain⟨e,_,h3,h4⟩:=hty b' (bD _ h)
        exact Ze e (K0.mine b' (bD _ (hpf.mem_iff.2 (by simp[h])))) h4 h3
      ·exact⟨n,kF.2 (.inl (wm.2 ⟨hn1,e⟩))⟩
     ·rcases g5 h0 with⟨j,n,h3,h4⟩|h3
      ·refine .inl ⟨j,n,kF.2 (.inl (wm.2 ⟨h3,?_⟩)),h4⟩
       intro e
       have:=hnt.2.1
       rw[<-e]at this
       simp only at this
       rw[sU]at this
       simp at this
      ·exact .inr h3
    ·have DT:=hh.sub b' (Nl b' h)
     have hm:=H.fl b' DT
     refine⟨by have:=hm.1;omega,λh2=>((hF' b').1 h2).2 (Nl b' h),yh H DT,λq Q hq hbq=>?_,λh0=>?_⟩
     ·exfalso
      rcases tq hq with⟨rfl,rfl,_⟩|⟨e,hq'⟩
      ·rcases hblk b' hbq with⟨o',h2⟩|h2|h2
       ·exact H.dM _ _ hr b' (by rw[iN,kW];exact .inl ⟨o',h2⟩) DT
       ·exact(dA.1 V4).2.2 b' h2 b' h rfl
       ·exact H.dM _ _ hr b' (by rw[iN,kW,hpf.mem_iff];exact .inr (by simp[h2])) DT
      ·obtain⟨Q2,g1,g2⟩:=Tn.old q Q hq'.1
       have hns:Same Z J (aL Z r R') J' q:=by
        refine jI λhns=>?_
        rcases g2 with⟨h1,h2⟩|⟨_,h2⟩
        ·rw[jf Z R' e]at g1
         rw[hq'.1]at g1
         simp only[aa]at g1
         subst g1
         rw[hq'.2]at h1
         simp at h1
        ·rcases h2.2.2.2.2.2.2 with h3|⟨_,_,h3⟩
         ·rw[rM _ e,rM _ e]at h3
          simp at h3
         ·exact hns h3
       rw[hns.blk]at hbq
       exact H.dM _ _ hq' b' hbq DT
     ·rcases hm.2 with h|⟨j,pi,h1,h2⟩
      ·omega
      ·exact .inr ⟨j,pi,h1,h2⟩
end
end
section
open Go
variable [Fr]
theorem nX(d c:Nat):fO (aG d c)=false:=by
 unfold fO aG
 have:(4*(8*d+c)+2)%4=2:=by omega
 rw[this];rfl
section
variable {cx:Cx}{Z:St}{J:aF}{F:List Nat}{a:Act}{w:World}{r:Nat}
theorem aaF{T:List Tag}(h:fC Z T)(hn:Z.roots r=none)(hx:fO r=false):∀n,(r,n)∉T:=by
 intro n hn2
 rcases h _ hn2 with h|⟨Q,h,_⟩
 ·simp only at h;rw[hx]at h;simp at h
 ·simp only at h;rw[hn]at h;simp at h
theorem Av(H:Rel cx Z J F a w)(hn:Z.roots r=none)(hx:fO r=false){R':Root}(hd:R'.bV=false)(hk:R'.kind≠.par)(oK:fC Z R'.tags)(loc:Nat×Nat)(hdr':List Value)(bE F':List Nat)
  (hblk:∀b∈iF R' loc bE,b∈F/\b∉F') (hnd:(iF R' loc bE).Nodup) (hF':∀b∈F',b∈F) (DK:F'.Nodup)
  (how:cu Z R'.oO R'.tags=true->Ow (hp w) R'.own (λb=>aO cx Z J F w R'.tags b\/(b∈F/\b∉F'/\b∉iF R' loc bE)) R'.k R'.x hdr' bE) (hlen:hdr'.length=R'.k.size)
  (hmem:∀b o,kX R' loc=some (b,o)->Cells (hp w) b o hdr'/\∃arr e lo hi,hp w b=some (.cells arr e (lo,hi))/\iE arr.size lo hi/\o+R'.k.size<=arr.size/\(∀t,R'.kind=.var t->e=t)) :
  Rel cx (aL Z r R') (aW J r loc hdr' bE) F' a w/\gL cx Z J F w (aL Z r R') (aW J r loc hdr' bE) F' w (jG r []) (jG r []):=by
 have hns:∀{q:Nat},¬Same Z J (aL Z r R') (aW J r loc hdr' bE) q->q=r:=λ{q} h=>jI λe=>h (kg e)
 have hold:∀{q Q},Z.roots q=some Q->q≠r:=λ{q Q} h e=>by rw[e,hn]at h;simp at h
 have T:gL cx Z J F w (aL Z r R') (aW J r loc hdr' bE) F' w (jG r []) (jG r []):=by
  refine⟨rfl,⟨rfl,rfl,rfl⟩,bT _,?_,?_,?_,λb _ h=>absurd rfl h,?_,DK,?_,?_,λ_ _ _ _ _ _ _ h=>absurd rfl h,λq Q Q' h1 h2 _=>by rw[jf Z R' (hold h1),h1]at h2;simp only[aa]at h2;subst h2;exact⟨rfl,rfl⟩⟩
  ·intro q Q hQ
   have e:=hold hQ
   refine⟨Q,by rw[jf Z R' e];exact hQ,?_⟩
   cases hd:Q.bV with
   |true=>exact .inl ⟨rfl,by intro hk;simp[Root.bV,hk]at hd⟩
   |false=>exact .inr ⟨rfl,by rw[rM _ e];rfl,by rw[rM _ e];rfl,bT _,rfl,by simp[aW,upd_ne _ _ e],λ_=>rfl,.inr ⟨rM _ e,rM _ e,kg e⟩⟩
  ·intro q Q hQ hs
   have e:=hns hs
   subst e
   rw[fF]at hQ
   simp only[aa]at hQ
   subst hQ
   refine⟨λt ht=>?_,hx,aaF oK hn hx⟩
   have hne:t.1≠q:=λe=>aaF oK hn hx t.2 (by rw[<-e];exact ht)
   rcases oK t ht with h|⟨Q,h1,h2⟩
   ·exact .inl h
   ·exact .inr ⟨Q,by rw[jf Z R' hne];exact h1,h2⟩
  ·intro q Q hq hQ
   by_cases e:q=r
   ·subst e
    rw[fF]at hQ
    simp only[aa]at hQ
    subst hQ
    exact hk
   ·rw[jf Z R' e,hq]at hQ;simp at hQ
  ·rintro b (⟨q,Q,hq,hb,hno⟩|hb)
   ·rcases tq hq with⟨rfl,rfl,_⟩|⟨e,hq'⟩
    ·rw[o8]at hb
     exact .inl (hblk b hb).1
    ·rw[(kg (J:=J) (Z:=Z) (R:=R') e).blk]at hb
     exact absurd ⟨Q,hq',hb⟩ hno
   ·exact .inl (hF' b hb)
  ·intro q Q hq hs b hb
   have e:=hns hs
   subst e
   obtain⟨rfl,_⟩:=nE hq
   rw[o8]at hb
   exact(hblk b hb).2
  ·intro q Q q' Q' hq hq' hne hs hs'
   exact absurd ((hns hs).trans (hns hs').symm) hne
 refine⟨H.turn T ?_ ?_ ?_,T⟩
 ·intro q Q hq hs
  have e:=hns hs
  subst e
  obtain⟨rfl,_⟩:=nE hq
  refine⟨λhv=>?_,?_,?_,?_⟩
  ·have e1:(aW J q loc hdr' bE).hdr q=hdr':=by simp[aW,upd_same]
   have e2:(aW J q loc hdr' bE).fo q=bE:=by simp[aW,upd_same]
   rw[e1,e2]
   obtain⟨h1,h2,_⟩:=T.views H Q.tags _ oK hv.2
   refine dK (λ_ _=>rfl) ?_ (λ_ _=>rfl) (qE _ (λ_ h=>h) (how h1))
   rintro b ⟨hb|⟨g1,g2,g3⟩,hty⟩
   ·exact(h2 b hb (.inl hty)).1
   ·have hm:=H.fl b g1
    refine⟨hm.1,g2,yh H g1,λq' Q' hq' hb'=>?_,λh0=>?_⟩
    ·exfalso
     rcases tq hq' with⟨rfl,rfl,_⟩|⟨e,hq2⟩
     ·rw[o8]at hb';exact g3 hb'
     ·rw[(kg (J:=J) (Z:=Z) (R:=Q) e).blk]at hb'
      exact H.dM _ _ hq2 b hb' g1
    ·rcases hm.2 with h|⟨j,pi,h1,h2⟩
     ·omega
     ·exact .inr ⟨j,pi,h1,h2⟩
  ·simpa[aW,upd_same]using hlen
  ·intro b o hb
   rw[t_]at hb
   simpa[aW,upd_same]using hmem b o hb
  ·rw[o8];exact hnd
 ·intro q Q hq hs
  exact absurd (hns hs) (hold hq.1)
 ·intro q Q hq hs
  exact absurd (hns hs) (hold hq.1)
theorem o7{R:Root}(h:R.kind=.anon)(loc:Nat×Nat)(fo:List Nat):iF R loc fo=fo:=by simp[iF,h]
theorem AL{R:Root}{t:TypeId}(h:R.kind=.var t)(loc:Nat×Nat)(fo:List Nat):iF R loc fo=loc.1 :: fo:=by simp[iF,h]
theorem Cs{R:Root}(h:R.kind=.anon)(loc:Nat×Nat):kX R loc=none:=by simp[kX,h]
theorem aaT{R:Root}{t:TypeId}(h:R.kind=.var t)(loc:Nat×Nat):kX R loc=some loc:=by simp[kX,h]
theorem Y7{k:K}{x:El k}{own:List TypeId}{tags:List Tag}{kp:Bool}{hdr:List Value}{fo F':List Nat}{loc:Nat×Nat}{v:Value}{w:World}(h:VC k v hdr) :
  aR cx (aL Z r (bL k x own tags .anon kp)) (aW J r loc hdr fo) F' w (.ref r 0) v:=by
 intro Q hQ _
 obtain⟨rfl,_⟩:=nE hQ
 refine⟨rfl,?_⟩
 simp only[aW,upd_same]
 exact h
theorem amZ{k:K}{x:El k}{own:List TypeId}{tags:List Tag}{kp:Bool}{hdr:List Value}{fo F':List Nat}{b:Nat}{t:TypeId}{w:World} :
  aR cx (aL Z r (bL k x own tags (.var t) kp)) (aW J r (b,0) hdr fo) F' w (.ptr r [] 0) (.pointer (some ⟨b,0,none⟩)):=by
 refine⟨⟨b,0,rfl⟩,?_⟩
 intro Q hQ _ _ _ _
 rw[fF]at hQ
 simp only[aa]at hQ
 subst hQ
 refine⟨trivial,hdr,b,0,?_,rfl⟩
 simp only[aN]
 rw[t_]
 simp[kX,bL,aW,upd_same]
theorem am0{k:K}{x:El k}{own:List TypeId}{tags:List Tag}{kp:Bool}{hdr:List Value}{fo F':List Nat}{b o:Nat}{t:TypeId}{w:World} :
  aR cx (aL Z r (bL k x own tags (.var t) kp)) (aW J r (b,o) hdr fo) F' w (.ptr r [] 0) (.pointer (some ⟨b,o,none⟩)):=by
 refine⟨⟨b,o,rfl⟩,?_⟩
 intro Q hQ _ _ _ _
 rw[fF]at hQ
 simp only[aa]at hQ
 subst hQ
 refine⟨trivial,hdr,b,o,?_,rfl⟩
 simp only[aN]
 rw[t_]
 simp[kX,bL,aW,upd_same]
theorem Ck{tk:dS}(h:fC Z tk.tags):fC Z tk.gV:=by
 unfold dS.gV
 split
 ·intro t ht;simp at ht
 ·exact h
theorem lq{h:Heap}{own:List TypeId}{ok ok':Nat->Prop}{k:K}{x:El k}{cs:List Value}{fo:List Nat}(hv:aZ own k=[])(H:Ow h own ok k x cs fo):Ow h own ok' k x cs fo:=by
 refine dK (λ_ _=>rfl) (λb hb=>?_) (λ_ _=>rfl) (qE [] (by rw[hv];exact λ_ h=>h) H)
 obtain⟨_,t,ht,_⟩:=hb
 simp at ht
theorem Ug{P:Program}{tk:dS}{t:TypeId}{v:Value}{cs:List Value}{fo:List Nat}(H:Rel cx Z J F a w)(hn:Z.roots r=none)(hx:fO r=false)(hh:Held cx Z J F w tk.k tk.x tk.own tk.tags cs fo)
  (hc:cu Z (aZ tk.own tk.k) tk.tags=true) (hv:VC tk.k v cs) (kp:Bool) :
  (Instr.box t v).run P w=.ok (.pointer (some ⟨w.heap.size,0,none⟩)) (w.alloc (.cells v.cells t))/\
   ∃J' F',Rel cx (aL Z r (bL tk.k tk.x tk.own tk.gV (.var t) kp)) J' F' a (w.alloc (.cells v.cells t))/\
    aR cx (aL Z r (bL tk.k tk.x tk.own tk.gV (.var t) kp)) J' F' (w.alloc (.cells v.cells t)) (.ptr r [] 0) (.pointer (some ⟨w.heap.size,0,none⟩)):=by
 refine⟨aac t v w,?_⟩
 have hcs:v.cells=cs.toArray:=by
  have:=hv.cells
  apply qV
  simpa using this
 rw[hcs]
 obtain⟨H1,T1⟩:=H.alloc (.cells cs.toArray t)
 have Ns:=hh.turn H T1 (λb hb=>⟨zw w _ (H.fl b (hh.sub b hb)).1,ji _ (hh.sub b hb)⟩)
 have hnew:hp (w.alloc (.cells cs.toArray t)) w.heap.size=some (.cells cs.toArray t (0,0)):=Bo w _
 have kS:w.heap.size∉F:=λh=>by have:=(H.fl _ h).1;omega
 have hbf:w.heap.size∉fo:=λh=>kS (hh.sub _ h)
 have hk:(bL tk.k tk.x tk.own tk.gV (.var t) kp).kind=.var t:=rfl
 obtain⟨h1,h2⟩:=Av (R':=bL tk.k tk.x tk.own tk.gV (.var t) kp) H1 hn hx rfl (by simp[bL]) (Ck Ns.wt) (w.heap.size,0) cs fo (F.filter λb=>!ah b fo)
  (λb hb=>by
   rw[AL hk]at hb
   rcases bH.1 hb with h|h
   ·simp only at h;subst h
    exact⟨jl,λh=>kS (iU.1 h).1⟩
   ·refine⟨ji _ (hh.sub b h),λh2=>?_⟩
    have:=(iU.1 h2).2
    simp only[jU,gq]at this
    exact this h)
  (by rw[AL hk];exact jB.2 ⟨hbf,hh.nd⟩)
  (λb hb=>ji _ (iU.1 hb).1) (H.gD.filter _)
  (λhcl=>by
   show Ow _ tk.own _ tk.k tk.x cs fo
   cases hb:tk.bad with
   |nil=>exact lq hb (Ns.ow hc)
   |cons t0 l=>
    have et:(bL tk.k tk.x tk.own tk.gV (.var t) kp).tags=tk.tags:=by
     show tk.gV=tk.tags
     unfold dS.gV
     rw[hb]
    rw[et]at hcl ⊢
    exact dK (λ_ _=>rfl) (λb h=>.inl h) (λ_ _=>rfl) (Ns.ow hcl)) hh.len
  (λb o hb=>by
   rw[aaT hk]at hb
   simp only[aa,bK]at hb
   obtain⟨rfl,rfl⟩:=hb
   refine⟨λi hi=>?_,cs.toArray,t,0,0,hnew,iE.zero,?_,λt' ht'=>?_⟩
   ·unfold cellAt
    rw[hnew]
    simp
   ·show 0+tk.k.size<=_
    simp[hh.len]
   ·have:wR.var t=wR.var t':=ht'
    simpa using this)
 exact⟨_,_,h1,amZ⟩
theorem TR{k:K}{x:El k}{own:List TypeId}{tags:List Tag}{v:Value}{cs:List Value}{fo:List Nat}(H:Rel cx Z J F a w)(hn:Z.roots r=none)(hx:fO r=false)
  (hsub:∀b∈fo,b∈F) (hnd:fo.Nodup) (hwt:fC Z tags) {F':List Nat} (hF':∀b∈F',b∈F/\b∉fo) (DK:F'.Nodup) (hlen:cs.length=k.size)
  (how:cu Z (aZ own k) tags=true->Ow (hp w) own (λb=>aO cx Z J F w tags b\/(b∈F/\b∉F'/\b∉fo)) k x cs fo) (hv:VC k v cs) (kp:Bool) :
  Rel cx (aL Z r (bL k x own tags .anon kp)) (aW J r (0,0) cs fo) F' a w/\aR cx (aL Z r (bL k x own tags .anon kp)) (aW J r (0,0) cs fo) F' w (.ref r 0) v:=by
 have hk:(bL k x own tags .anon kp).kind=.anon:=rfl
 obtain⟨h1,h2⟩:=Av (R':=bL k x own tags .anon kp) H hn hx rfl (by simp[bL]) hwt (0,0) cs fo F'
  (λb hb=>by rw[o7 hk]at hb;exact⟨hsub b hb,λh=>(hF' b h).2 hb⟩) (by rw[o7 hk];exact hnd) (λb hb=>(hF' b hb).1) DK
  (λhc=>by rw[o7 hk];exact how hc) hlen (λb o hb=>by rw[Cs hk]at hb;simp at hb)
 exact⟨h1,Y7 hv⟩
theorem Aw{k:K}{x:El k}{own:List TypeId}{tags:List Tag}{v:Value}{cs:List Value}{fo:List Nat}(H:Rel cx Z J F a w)(hn:Z.roots r=none)(hx:fO r=false)
  (hsub:∀b∈fo,b∈F) (hnd:fo.Nodup) (hwt:fC Z tags) {F':List Nat} (hF':∀b∈F',b∈F/\b∉fo) (DK:F'.Nodup) (hlen:cs.length=k.size)
  (how:cu Z (aZ own k) tags=true->Ow (hp w) own (λb=>aO cx Z J F w tags b\/(b∈F/\b∉F'/\b∉fo)) k x cs fo) (hv:VC k v cs) (kp:Bool) :
  ∃J',Rel cx (aL Z r (bL k x own tags .anon kp)) J' F' a w/\aR cx (aL Z r (bL k x own tags .anon kp)) J' F' w (.ref r 0) v:=
 ⟨_,TR H hn hx hsub hnd hwt hF' DK hlen how hv kp⟩
end
end
section
open Go
variable [Fr]
def dn(P:Program)(cx:Cx)(o:Oper)(a:Act)(w:World)(Z':St):Prop:=
 ∃v w' J' F',((execOp a.eval o).run P w=.ok (.value v) w'\/((execOp a.eval o).run P w=.ok .skip w'/\v=undef))/\Rel cx Z' J' F' (a.put o.dst v) w'
theorem dn.wp{P:Program}{cx:Cx}{o:Oper}{a:Act}{w:World}{Z':St}(h:dn P cx o a w Z'){K:Act->World->Prop}{Q:Exit->Act->World->Prop}
  (hK:∀J' F' a' w',Rel cx Z' J' F' a' w'->K a' w'):o.wp P a w K Q:=by
 obtain⟨v,w',J',F',h|⟨h,rfl⟩,h2⟩:=h
 ·unfold Oper.wp;rw[h];exact hK _ _ _ _ h2
 ·unfold Oper.wp;rw[h];exact hK _ _ _ _ h2
section
variable {P:Program}{T:bF}{cx:Cx}{Z:St}{J:aF}{F:List Nat}{a:Act}{w:World}{o:Oper}{d:Nat}{ws:List Wr}
theorem eP(H:Rel cx Z J F a w)(hd:o.dst=some d)(hdn:d<cx.nt){x:fQ}{v:Value}(hrun:(execOp a.eval o).run P w=.ok (.value v) w)(hx:iL cx Z J F w x v)(hw:mG Z x) :
  dn P cx o a w (aB [.s d x] Z):=by
 refine⟨v,w,J,F,.inl hrun,?_⟩
 rw[hd]
 exact H.put hdn hw hx
theorem nk{Z1:St}{aV:aF}{F1:List Nat}{w1:World}(H:Rel cx Z1 aV F1 a w1)(hd:o.dst=some d)(hdn:d<cx.nt){x:fQ}{v:Value}(hrun:(execOp a.eval o).run P w=.ok (.value v) w1)(hx:iL cx Z1 aV F1 w1 x v)(hw:mG Z1 x) :
  dn P cx o a w (aB [.s d x] Z1):=by
 refine⟨v,w1,aV,F1,.inl hrun,?_⟩
 rw[hd]
 exact H.put hdn hw hx
theorem nS{A:Type}{z:A}{r:Nat}{k:Prog A}(h:(jD r k).ends Z z):Z.roots r=none/\k.ends Z z:=by
 unfold jD at h
 simp only[Prog.ends]at h
 cases hr:Z.roots r with
 |none=>rw[hr]at h;exact⟨rfl,h⟩
 |some R=>rw[hr]at h;exact h.elim
theorem bu{A:Type}{z x:A}(h:(Prog.ret x).ends Z z):z=x:=h
theorem afa(H:Rel cx Z J F a w)(hd:o.dst=some d)(hdn:d<cx.nt){x:Operand}(ho:o.op=.move x)(h:(rz x λv=>(.ret [.s d v]:Prog (List Wr))).ends Z ws):dn P cx o a w (aB ws Z):=by
 obtain⟨v,h1,h2,h3⟩:=AX H h
 rw[bu h3]
 exact eP H hd hdn (by simp[execOp,ho]) h1 h2
theorem cK.sl{t:TypeId}{e:TypeId}{k:K}(h:cK P T t (.sl e k)):P.underlying t=some (.slice e)/\cK P T e k/\0<k.size/\∃i,P.info? e=some i/\i.bytes=T.bytes e/\0<i.bytes:=by
 unfold cK iV at h
 exact⟨h.1,h.2.2.1,h.2.2.2.1,h.2.2.2.2⟩
theorem Fp{e:TypeId}{k:K}{c:Option Addr}{own:List TypeId}{ok:Nat->Prop}{h:Heap}:Ow h own ok (.sl e k) ([]:List (El k)) [.slice c 0 0] []:=by
 unfold Ow
 split
 ·exact⟨c,0,0,rfl,rfl,bT _,.inl ⟨rfl,rfl⟩⟩
 ·exact⟨rfl,c,0,0,rfl,rfl,bT _,λh=>by omega⟩
theorem aeP{L:K->List TypeId}(H:Rel cx Z J F a w)(hd:o.dst=some d)(hdn:d<cx.nt){x:Operand}(ho:o.op=.assign x)
  (h:(rz x fun
   |.one .eH=>match T.ty o.type with
    |some (.sl e kk)=>.root (aG d 0) fun
     |none=>.ret [.r (aG d 0) (some (bL (.sl e kk) [] (e :: L kk) [] .anon)),.s d (.one (.ref (aG d 0) 0))]
     |some _=>.ret [.s d (.one .eH)]
    |_=>.fail
   |v=>(.ret [.s d v]:Prog (List Wr))).ends Z ws):dn P cx o a w (aB ws Z):=by
 obtain⟨v,h1,h2,h3⟩:=AX H h
 have hrun:(execOp a.eval o).run P w=.ok (.value (a.eval x)) w:=by simp[execOp,ho]
 have key:ws=[.s d v]->dn P cx o a w (aB ws Z):=λe=>by rw[e];exact eP H hd hdn hrun h1 h2
 cases v with
 |mg l=>exact key (bu h3)
 |lit _ _ _=>exact key (bu h3)
 |one v=>
  cases v with
  |eH=>
   have h1':=h1
   obtain⟨c,hc⟩:=h1
   simp only at h3
   split at h3
   ·rename_i e kk hty
    simp only[Prog.ends]at h3
    cases g1:Z.roots (aG d 0)with
    |some Q=>
     rw[g1]at h3
     exact key (bu h3)
    |none=>
    rw[g1]at h3
    have g2:=h3
    rw[bu g2]
    obtain⟨J',k1,k2⟩:=Aw (k:=.sl e kk) (x:=([]:List (El kk))) (own:=e :: L kk) (tags:=[]) (v:=a.eval x) (cs:=[.slice c 0 0]) (fo:=[]) (r:=aG d 0) (F':=F) H g1 (nX d 0) (λb hb=>by simp at hb) lM (λt ht=>by simp at ht)
     (λb hb=>⟨hb,by simp⟩) H.gD rfl (λ_=>Fp) (by rw[hc];exact Ka) false
    exact nk (x:=.one (.ref (aG d 0) 0)) k1 hd hdn hrun k2 ⟨_,fF ..,.inr (dY _)⟩
   ·exact h3.elim
  |_=>exact key (bu h3)
theorem afe(H:Rel cx Z J F a w)(hd:o.dst=some d)(hdn:d<cx.nt){c x y:Operand}(ho:o.op=.pick c x y)
  (h:(dP c λc=>asBool c λc=>rz x λv=>rz y λu=>.br c (.ret [.s d v]) ((.ret [.s d u]):Prog (List Wr))).ends Z ws):dn P cx o a w (aB ws Z):=by
 obtain⟨vc,h1,_,h⟩:=iW H h
 obtain⟨b,h2,h⟩:=T_ h1 h
 obtain⟨v,h3,h4,h⟩:=AX H h
 obtain⟨u,h5,h6,h⟩:=AX H h
 rcases h with⟨hb,h⟩|⟨hb,h⟩
 ·rw[bu h]
  exact eP H hd hdn (by simp[execOp,ho,h2,hb,Go.asBool]) h3 h4
 ·rw[bu h]
  exact eP H hd hdn (by simp[execOp,ho,h2,hb,Go.asBool]) h5 h6
theorem cK.shape{t:TypeId}{k:K}(h:cK P T t k):(∀a b,k≠.pair a b)/\k≠.unit/\∀n,k≠.gap n:=by
 unfold cK iV at h
 refine⟨λa b e=>?_,λe=>?_,λn e=>?_⟩<;>subst e<;>exact h.elim
theorem om{own:List TypeId}{k:K}(h:∀t∈k.tys,ah t own=true):aZ own k=[]:=by
 cases he:aZ own k with
 |nil=>rfl
 |cons t l=>
  exfalso
  have key:∀(k:K),(∀t∈k.tys,ah t own=true)->∀t,t∉aZ own k:=by
   intro k
   induction k with
   |sl e k ih=>
    intro h t ht
    simp only[aZ,h e (by simp[K.tys]),fJ]at ht
    exact ih (λt ht=>h t (by simp[K.tys,ht])) t ht
   |pair a b iha ihb=>
    intro h t ht
    simp only[aZ,cZ]at ht
    rcases ht with ht|ht
    ·exact iha (λt ht=>h t (by simp[K.tys,ht])) t ht
    ·exact ihb (λt ht=>h t (by simp[K.tys,ht])) t ht
   |st f ih=>intro h t ht;exact ih h t ht
   |_=>intro _ t ht;simp[aZ]at ht
  exact key k h t (by rw[he];simp)
theorem amV{l:List Nat}:∀t∈l,ah t l=true:=λt ht=>fA.2 ht
theorem aeL(hT:eG P T)(H:Rel cx Z J F a w)(hd:o.dst=some d)(hdn:d<cx.nt){t:TypeId}(ho:o.op=.alloc t)
  (h:(match T.ty t with
   |some kk=>jD (aG d 0) (.ret [Wr.r (aG d 0) (some (bL kk kk.zero kk.tys [] (.var t))),Wr.s d (.one (.ptr (aG d 0) [] 0))])
   |none=>(.fail:Prog (List Wr))).ends Z ws):dn P cx o a w (aB ws Z):=by
 split at h
 ·rename_i kk hty
  have ht:=hT.ty t kk hty
  obtain⟨g1,g2⟩:=nS h
  rw[bu g2]
  obtain⟨s1,s2,s3⟩:=ht.shape
  have hz:Ow (hp w) kk.tys (aO cx Z J F w []) kk kk.zero (dI kk) []:=FU ht.fq amV
  obtain⟨k0,J',F',k1,k2⟩:=Ug (P:=P) (tk:=⟨kk,kk.zero,kk.tys,[],[],false⟩) (t:=t) (v:=iK kk) (cs:=dI kk) (fo:=[]) (r:=aG d 0) H g1 (nX d 0)
   ⟨λ_=>hz,λt ht=>by simp at ht,λb hb=>by simp at hb,lM,eO hz⟩ rfl (aaW s1 s2 s3) false
  have e0:(dS.gV ⟨kk,kk.zero,kk.tys,[],[],false⟩)=[]:=by unfold dS.gV;split<;>rfl
  rw[e0]at k1 k2
  exact nk (x:=.one (.ptr (aG d 0) [] 0)) k1 hd hdn (by
   have:=an7 (P:=P) ht w
   simp only[execOp,ho,dG,this,eZ,dW]) k2 ⟨_,fF ..,.inr (dY _)⟩
 ·exact h.elim
theorem afb(H:Rel cx Z J F a w)(hd:o.dst=some d)(hdn:d<cx.nt){x:Operand}(ho:o.op=.nilCheck x)
  (h:(dP x fun
   |.ptr r p h=>.ret [.s d (.one (.ptr r p h))]
   |.eY bt kk y tags=>.ret [.s d (.one (.eY bt kk y tags))]
   |_=>(.fail:Prog (List Wr))).ends Z ws):dn P cx o a w (aB ws Z):=by
 obtain⟨v,h1,h2,h⟩:=iW H h
 cases v with
 |ptr r p n=>
  rw[bu h]
  obtain⟨b,q,hv⟩:=h1.1
  exact eP (v:=a.eval x) H hd hdn (by simp[execOp,ho,hv]) h1 h2
 |eY bt kk y tags=>
  rw[bu h]
  obtain⟨b,q,hv⟩:=h1.1
  exact eP (v:=a.eval x) H hd hdn (by simp[execOp,ho,hv]) h1 h2
 |_=>exact h.elim
end
end
end Go.Proofs.YtgppmpedglhhfaaGreatDoor.Ow
