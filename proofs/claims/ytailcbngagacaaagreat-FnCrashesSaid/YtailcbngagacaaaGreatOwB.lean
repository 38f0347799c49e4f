/- A verified reading of translated code, part B of 7. No condition. -/
import Derived.Test.YtailcbngagacaaaGreatOwA
set_option linter.unusedSectionVars false
set_option linter.unusedVariables false
set_option linter.unusedSimpArgs false
namespace Go.Proofs.YtailcbngagacaaaGreat.Ow
section
open Go
variable [Fr]
theorem upd_same {A:Type} (f:Nat->A) (n:Nat) (v:A):upd f n v n=v:=by simp [upd]
theorem upd_ne {A:Type} (f:Nat->A) {n m:Nat} (v:A) (h:m≠n):upd f n v m=f m:=by
 unfold upd
 cases h':Nat.beq m n with
 | true=>exact absurd (bC h') h
 | false=>rfl
structure Same (Z:St) (J:aH) (Z':St) (J':aH) (r:Nat):Prop where
 root:Z'.roots r=Z.roots r
 loc:J'.loc r=J.loc r
 hdr:J'.hdr r=J.hdr r
 fo:J'.fo r=J.fo r
theorem Same.wh {Z Z':St} {J J':aH} {r:Nat} (h:Same Z J Z' J' r) (R:Root):aK J' R r=aK J R r:=by unfold aK; rw [h.loc]
theorem Same.blk {Z Z':St} {J J':aH} {r:Nat} (h:Same Z J Z' J' r) (R:Root):blk J' R r=blk J R r:=by unfold Ow.blk; rw [h.wh,h.fo]
theorem Same.live {Z Z':St} {J J':aH} {r:Nat} (h:Same Z J Z' J' r) (R:Root):aU Z' r R↔aU Z r R:=by unfold aU; rw [h.root]
def Stepped (Z:St) (J:aH) (Z':St) (J':aH) (lw lh:Nat->List Nat) (r:Nat) (R R':Root):Prop:=
 R'.w=lw r++R.w/\R'.h=lh r++R.h/\R.g<=R'.g/\R'.kind=R.kind/\J'.loc r=J.loc r/\(R.kind=.par->R'.k.size=R.k.size)/\((lw r≠[]\/lh r≠[])\/(lw r=[]/\lh r=[]/\Same Z J Z' J' r))
def Loose (cx:Cx) (Z':St) (lw:Nat->List Nat) (w:World) (r b:Nat):Prop:=
 (∀R',Z'.roots r=some R'->R'.bY=true)\/(∃e∈lw r,jS (hp w) b=some e)\/(nV cx b/\lw r≠[])
structure iC (cx:Cx) (Z:St) (J:aH) (F:List Nat) (w:World) (Z':St) (J':aH) (F':List Nat) (w':World) (lw lh:Nat->List Nat):Prop where
 slots:Z'.slots=Z.slots
 os:w'.os=w.os/\w'.tape=w.tape/\w'.output=w.output
 size:w.heap.size<=w'.heap.size
 old:∀r R,Z.roots r=some R->∃R',Z'.roots r=some R'/\((R'.bY=true/\R.kind≠.par)\/(R.bY=false/\Stepped Z J Z' J' lw lh r R R'))
 wr:∀r R',Z'.roots r=some R'->¬Same Z J Z' J' r->gB Z' R'.tags/\gZ r=false/\(∀n,(r,n)∉R'.tags)
 aaP:∀r R',Z.roots r=none->Z'.roots r=some R'->R'.kind≠.par
 qA:∀b,b<w.heap.size->hp w' b≠hp w b->b∈F\/∃r R,aU Z r R/\b∈blk J R r/\Loose cx Z' lw w r b
 new:∀b,((∃r R',aU Z' r R'/\b∈blk J' R' r/\¬∃R,aU Z r R/\b∈blk J R r)\/b∈F')->b∈F\/(w.heap.size<=b/\b<w'.heap.size)\/∃r R,aU Z r R/\b∈blk J R r/\Loose cx Z' lw w r b
 iq:F'.Nodup
 fB:∀r R',aU Z' r R'->¬Same Z J Z' J' r->∀b∈blk J' R' r,b∉F'
 lQ:∀r R r' R',aU Z' r R->aU Z' r' R'->r≠r'->¬Same Z J Z' J' r->¬Same Z J Z' J' r'->∀b∈blk J' R r,b∉blk J' R' r'
 base:∀j pi b o n,cx.par j=some pi->pi.base=some (b,o,n)->hp w' b≠hp w b->mM (hp cx.w0) (hp w') b o n
 ev:∀r R R',Z.roots r=some R->Z'.roots r=some R'->R'.bY=false->R'.ew=R.ew/\R'.eh=R.eh
section
variable {cx:Cx} {Z:St} {J:aH} {F:List Nat} {a:Act} {w:World} {Z':St} {J':aH} {F':List Nat} {w':World} {lw lh:Nat->List Nat}
theorem iC.tag (T:iC cx Z J F w Z' J' F' w' lw lh) {t:Tag} (h:yI Z t):yI Z' t:=by
 rcases h with h | ⟨R,h1,h2⟩
 ·exact .inl h
 ·obtain ⟨R',g1,g2⟩:=T.old _ R h1
  refine .inr ⟨R',g1, ?_⟩
  rcases g2 with ⟨g2,_⟩ | ⟨gd,g2,_⟩
  ·exact .inl g2
  ·rcases h2 with h2 | h2
   ·rw [gd] at h2; simp at h2
   ·right
    rw [g2]
    simp only [qF,bV] at h2 ⊢
    omega
theorem iC.dQ (T:iC cx Z J F w Z' J' F' w' lw lh) {x:AV} (h:dQ Z x):dQ Z' x:=by
 have key:∀(q:Nat) (f:Root->Nat) (n:Nat),(∀R R',Stepped Z J Z' J' lw lh q R R'->f R<=f R')->(∃Q,Z.roots q=some Q/\(Q.bY=true\/n<=f Q))->∃Q,Z'.roots q=some Q/\(Q.bY=true\/n<=f Q):=by
  intro q f n hf ⟨Q,h1,h2⟩
  obtain ⟨R',g1,g2⟩:=T.old _ Q h1
  refine ⟨R',g1, ?_⟩
  rcases g2 with ⟨g2,_⟩ | ⟨gd,g2⟩
  ·exact .inl g2
  ·rcases h2 with h2 | h2
   ·rw [gd] at h2; simp at h2
   ·exact .inr (lW h2 (hf _ _ g2))
 cases x with
 | undef=>trivial
 | val k x Tg=>exact fun t ht=>T.tag (h t ht)
 | fG=>trivial
 | ref q g=>exact key q (·.g) g (fun R R' h=>h.2.2.1) h
 | lZ q g k p=>exact key q (·.g) g (fun R R' h=>h.2.2.1) h
 | dZ q p n=>exact key q Root.dL n (fun R R' h=>by simp only [Root.dL,h.1,h.2.1,qF,bV]; omega) h
 | ptr q p n=>exact key q (fun R=>dS R.h) n (fun R R' h=>by simp only [h.2.1,qF,bV]; omega) h
 | fQ bt k x Tg=>exact fun t ht=>T.tag (h t ht)
 | kG=>trivial
 | pz _=>trivial
 | part q g _ _ _=>exact key q (·.g) g (fun R R' h=>h.2.2.1) h
 | nI q p n _=>exact key q Root.dL n (fun R R' h=>by simp only [Root.dL,h.1,h.2.1,qF,bV]; omega) h
 | sub q p n _ _ _=>exact key q Root.dL n (fun R R' h=>by simp only [Root.dL,h.1,h.2.1,qF,bV]; omega) h
 | sel q p n q2 _ _=>
  refine ⟨key q Root.dL n (fun R R' h=>by simp only [Root.dL,h.1,h.2.1,qF,bV]; omega) h.1, ?_⟩
  obtain ⟨R,hR⟩:=h.2
  obtain ⟨R',g1,_⟩:=T.old _ R hR
  exact ⟨R',g1⟩
 | app q p n q2=>
  refine ⟨key q Root.dL n (fun R R' h=>by simp only [Root.dL,h.1,h.2.1,qF,bV]; omega) h.1, ?_⟩
  obtain ⟨R,hR⟩:=h.2
  obtain ⟨R',g1,_⟩:=T.old _ R hR
  exact ⟨R',g1⟩
 | fn f cs=>exact fun c hc t ht=>T.tag (h c hc t ht)
theorem iC.nu (T:iC cx Z J F w Z' J' F' w' lw lh) {x:gM} (h:nu Z x):nu Z' x:=by
 cases x with
 | one a=>exact T.dQ h
 | mH l=>exact fun a ha=>T.dQ (h a ha)
 | lit _ _ l=>exact fun a ha=>T.dQ (h a ha)
theorem iC.held (H:Rel cx Z J F a w) (T:iC cx Z J F w Z' J' F' w' lw lh) {Tg:List Tag} {tys:List TypeId} (hw:gB Z Tg) (hc:cO Z' tys Tg=true) {r n b:Nat} {R:Root} (hr:aU Z r R) (hn:(r,n)∈Tg) (hbr:b∈blk J R r)
  (hty:(∃t∈tys,l9 (hp w) b t)/\¬nV cx b\/∀t∈Tg,gZ t.1=true):clean R.w n tys=true/\¬Loose cx Z' lw w r b:=by
 have hnr:gZ r=false:=(H.gy r R hr.1).2.1
 rw [zJ] at hc
 rcases hc (r,n) hn with h | ⟨Q,h1,h2,h3⟩
 ·simp only at h; rw [hnr] at h; simp at h
 ·obtain ⟨R',g1,g2⟩:=T.old _ R hr.1
  simp only at h1 h3
  rw [g1] at h1
  simp only [au] at h1
  subst h1
  rcases g2 with ⟨g2,_⟩ | ⟨gd,g2,_⟩
  ·rw [h2] at g2; simp at g2
  ·have hb:n<=dS R.w:=by
    rcases hw (r,n) hn with h | ⟨Q,q1,q2⟩
    ·simp only at h; rw [hnr] at h; simp at h
    ·simp only at q1 q2
     rw [hr.1] at q1
     simp only [au] at q1
     subst q1
     rcases q2 with q2 | q2
     ·rw [hr.2] at q2; simp at q2
     ·exact q2
   rw [g2,Eu hb] at h3
   refine ⟨h3.2, ?_⟩
   rintro (hx | ⟨e,he,hel⟩ | ⟨hx,_⟩)
   rotate_left 2
   ·rcases hty with ⟨_,hnb⟩ | hty
    ·exact hnb hx
    ·have:=hty (r,n) hn
     simp only at this
     rw [hnr] at this
     simp at this
   ·have:=hx R' g1
    rw [h2] at this
    simp at this
   ·rcases hty with ⟨⟨t,ht,I1⟩,_⟩ | hty
    ·have I1:=H.Di ((H.roots r R hr).mine b hbr) I1
     rw [hel] at I1
     simp only [au] at I1
     subst I1
     exact h3.1 e he ht
    ·have:=hty (r,n) hn
     simp only at this
     rw [hnr] at this
     simp at this
theorem iC.views (H:Rel cx Z J F a w) (T:iC cx Z J F w Z' J' F' w' lw lh):Views cx Z J F w Z' J' F' w':=by
 intro Tg tys hw hc
 refine ⟨?_, ?_⟩
 ·rw [zJ]
  intro t ht
  have hc':=zJ.1 hc t ht
  rcases hw t ht with h | ⟨R,h1,h2⟩
  ·exact .inl h
  ·cases hd:R.bY with
   | false=>
    refine .inr ⟨R,h1,hd, ?_⟩
    rcases hc' with hx | ⟨Q,q1,q2,q3⟩
    ·have:=(H.gy _ _ h1).2.1
     rw [hx] at this
     simp at this
    ·obtain ⟨R',g1,g2⟩:=T.old _ R h1
     rw [g1] at q1
     simp only [au] at q1
     subst q1
     rcases g2 with ⟨g2,_⟩ | ⟨_,g2,_⟩
     ·rw [q2] at g2; simp at g2
     ·rcases h2 with h2 | h2
      ·rw [hd] at h2; simp at h2
      ·rw [g2,Eu h2] at q3
       exact q3.2
   | true=>
    rcases hc' with hx | ⟨Q,q1,q2,q3⟩
    ·exact .inl hx
    ·obtain ⟨R',g1,g2⟩:=T.old _ R h1
     rw [g1] at q1
     simp only [au] at q1
     subst q1
     rcases g2 with ⟨g2,_⟩ | ⟨g2,_⟩
     ·rw [q2] at g2; simp at g2
     ·rw [hd] at g2; simp at g2
 ·have hQ:∀b,mE Z J F w Tg b->((∃t∈tys,l9 (hp w) b t)/\¬nV cx b\/∀t∈Tg,gZ t.1=true)->mE Z' J' F' w' Tg b/\hp w' b=hp w b:=by
   intro b hb hty
   obtain ⟨hb1,hb2,hb3⟩:=hb
   have hno:¬∃r R,aU Z r R/\b∈blk J R r/\Loose cx Z' lw w r b:=by
    rintro ⟨r,R,hr,hbr,hl⟩
    obtain ⟨n,hn⟩:=hb3 r R hr hbr
    exact (T.held H hw hc hr hn hbr hty).2 hl
   have hsame:hp w' b=hp w b:=by
    refine kN fun hne=>?_
    rcases T.qA b hb1 hne with h | h
    ·exact hb2 h
    ·exact hno h
   have hnew:¬(b∈F\/(w.heap.size<=b/\b<w'.heap.size)\/∃r R,aU Z r R/\b∈blk J R r/\Loose cx Z' lw w r b):=by
    rintro (h | h | h)
    ·exact hb2 h
    ·omega
    ·exact hno h
   refine ⟨⟨xR hb1 T.size,fun hF=>hnew (T.new b (.inr hF)), ?_⟩,hsame⟩
   intro q Q hq hbq
   by_cases e:∃R,aU Z q R/\b∈blk J R q
   ·obtain ⟨R,hR,hbR⟩:=e
    exact hb3 q R hR hbR
   ·exact absurd (T.new b (.inl ⟨q,Q,hq,hbq,e⟩)) hnew
  refine ⟨fun b hb hty=>?_,hQ⟩
  obtain ⟨hb1,hb2,hb5,hb3,hb4⟩:=hb
  obtain ⟨⟨g1,g2,g3⟩,g4⟩:=hQ b ⟨hb1,hb2,hb3⟩ (hty.imp (fun h=>⟨h,hb5⟩) id)
  exact ⟨⟨g1,g2,hb5,g3,hb4⟩,g4⟩
theorem iC.stay (H:Rel cx Z J F a w) (T:iC cx Z J F w Z' J' F' w' lw lh) {q:Nat} {Q:Root} (hq:aU Z q Q) (hs:Same Z J Z' J' q):∀b∈blk J Q q,¬(b∈F\/(w.heap.size<=b/\b<w'.heap.size)\/∃r R,aU Z r R/\b∈blk J R r/\Loose cx Z' lw w r b):=by
 rintro b hb (h | h | ⟨r,R,hr,hbr,hl⟩)
 ·exact H.fB q Q hq b hb h
 ·have:=((H.roots q Q hq).mine b hb).1; omega
 ·by_cases e:q=r
  ·subst e
   obtain ⟨R',g1,g2⟩:=T.old _ Q hq.1
   have hR':R'=Q:=by
    have:=hs.root
    rw [g1,hq.1] at this
    simpa using this
   subst hR'
   rcases g2 with ⟨g2,_⟩ | ⟨_,g2,_⟩
   ·rw [hq.2] at g2; simp at g2
   ·have hw0:lw q=[]:=by
     have:=congrArg List.length g2
     simp at this
     exact this
    rcases hl with hl | ⟨e,he,_⟩ | ⟨_,hl⟩
    ·have:=hl R' g1
     rw [hq.2] at this
     simp at this
    ·rw [hw0] at he; simp at he
    ·exact hl hw0
  ·exact H.lQ q Q r R hq hr e b hb hbr
theorem iC.other (H:Rel cx Z J F a w) (T:iC cx Z J F w Z' J' F' w' lw lh) {q:Nat} {Q:Root} (hq:aU Z q Q) (hs:Same Z J Z' J' q):∀b∈blk J Q q,hp w' b=hp w b:=by
 intro b hb
 refine kN fun hne=>?_
 have:=T.stay H hq hs b hb
 rcases T.qA b ((H.roots q Q hq).mine b hb).1 hne with h | h
 ·exact this (.inl h)
 ·exact this (.inr (.inr h))
theorem iC.av (H:Rel cx Z J F a w) (T:iC cx Z J F w Z' J' F' w' lw lh)
  (t_:∀r R,aU Z r R->¬Same Z J Z' J' r->∀p n v,n<=dS R.h->aW cx Z J F w (.ptr r p n) v->aW cx Z' J' F' w' (.ptr r p n) v)
  (qE:∀r R,aU Z r R->¬Same Z J Z' J' r->∀g v,g<=R.g->aW cx Z J F w (.ref r g) v->aW cx Z' J' F' w' (.ref r g) v)
  {x:AV} {v:Value} (hx:Ow.dQ Z x) (h:aW cx Z J F w x v):aW cx Z' J' F' w' x v:=by
 have hV:=T.views H
 have pg:∀{q:Nat} {Q:Root} {p:List Stp},Z.roots q=some Q->Same Z J Z' J' q->cB Z' Q->bX p Q.k Q.x->(∀t∈az p Q.k,aa t Q.own=true)->
   aT (hp w') p Q.k (J'.hdr q) (aK J' Q q)=aT (hp w) p Q.k (J.hdr q) (aK J Q q):=by
  intro q Q p hq hs hv hin hty
  have hv':=Av hV (H.gy q Q hq).1 hv
  have hlive:aU Z q Q:=⟨hq,hv'.1⟩
  rw [hs.hdr,hs.wh]
  exact TG p ((H.roots q Q hlive).ow hv') hin hty (fun b hb=>T.other H hlive hs b (bB _ hb))
 have hlive:∀{q:Nat} {Q R':Root},Z.roots q=some Q->Z'.roots q=some R'->R'.bY=false->aU Z q Q/\Stepped Z J Z' J' lw lh q Q R':=by
  intro q Q R' h1 h2 hd
  obtain ⟨R'',g1,g2⟩:=T.old _ Q h1
  rw [h2] at g1
  simp only [au] at g1
  subst g1
  rcases g2 with ⟨g2,_⟩ | ⟨gd,g2⟩
  ·rw [hd] at g2; simp at g2
  ·exact ⟨⟨h1,gd⟩,g2⟩
 have Sy:∀q g v,Ow.dQ Z (.ref q g)->aW cx Z J F w (.ref q g) v->aW cx Z' J' F' w' (.ref q g) v:=by
  intro q g v hx h
  obtain ⟨Q,h1,h2⟩:=hx
  intro R' hR' hg
  obtain ⟨hl,hst⟩:=hlive h1 hR'.1 hR'.2
  by_cases e:Same Z J Z' J' q
  ·have hQ:R'=Q:=by
    have:=e.root
    rw [hR'.1,h1] at this
    simpa using this
   subst hQ
   have:=h R' hl hg
   rw [e.hdr]
   exact this
  ·rcases h2 with h2 | h2
   ·rw [hl.2] at h2; simp at h2
   ·exact qE q Q hl e g v h2 h R' hR' hg
 have Nv:∀{q:Nat} {Q R':Root} {n:Nat},Z.roots q=some Q->(Q.bY=true\/n<=Q.dL)->Z'.roots q=some R'->R'.bY=false->R'.dL=n->aU Z q Q/\Same Z J Z' J' q:=by
  intro q Q R' n h1 h2 hR' hd hn
  obtain ⟨hl,hst⟩:=hlive h1 hR' hd
  obtain ⟨s1,s2,_,_,_,_,s6⟩:=hst
  rcases s6 with s6 | ⟨_,_,e⟩
  ·exfalso
   rcases h2 with h2 | h2
   ·rw [hl.2] at h2; simp at h2
   ·simp only [Root.dL,s1,s2,qF,bV] at hn h2
    rcases s6 with g5 | g5 <;> (have:=P_.2 g5; omega)
  ·exact ⟨hl,e⟩
 cases x with
 | undef=>trivial
 | val k x Tg=>
  intro hc
  rcases hc with hc | hc
  ·obtain ⟨cs,h1,h2⟩:=h (.inl hc)
   exact ⟨cs,h1,ni hc h2⟩
  ·obtain ⟨cs,h1,h2⟩:=h (.inr (hV Tg _ hx hc).1)
   exact ⟨cs,h1,hV.vw hx hc (fun _ h=>h) h2⟩
 | fG=>exact h
 | ref q g=>exact Sy q g v hx h
 | lZ q g k p=>
  obtain ⟨u,b,off,k1,e1,hq,hc,e2,hr⟩:=h
  obtain ⟨h1,h2⟩:=(hV [] [] (fun _ h=>by simp at h) rfl).2.2 b hq (.inr (fun _ h=>by simp at h))
  exact ⟨u,b,off,k1,e1,h1,hc.congr h2,e2,Sy q g u hx hr⟩
 | dZ q p n=>
  obtain ⟨Q,h1,h2⟩:=hx
  intro R' hR' hv hn d hd
  obtain ⟨hl,hst⟩:=hlive h1 hR' hv.1
  obtain ⟨s1,s2,_,_,_,_,s6⟩:=hst
  rcases s6 with s6 | ⟨_,_,e⟩
  ·exfalso
   rcases h2 with h2 | h2
   ·rw [hl.2] at h2; simp at h2
   ·simp only [Root.dL,s1,s2,qF,bV] at hn h2
    rcases s6 with g5 | g5 <;> (have:=P_.2 g5; omega)
  ·have hQ:R'=Q:=by
    have:=e.root
    rw [hR',h1] at this
    simpa using this
   subst hQ
   have hv':=Av hV (H.gy q R' h1).1 hv
   obtain ⟨h1',h2',cs,wh,h3,h4⟩:=h R' h1 hv' hn d hd
   exact ⟨h1',h2',cs,wh,by rw [pg h1 e hv h1' h2']; exact h3,h4⟩
 | ptr q p n=>
  obtain ⟨Q,h1,h2⟩:=hx
  refine ⟨h.1, ?_⟩
  intro R' hR' hv hn hty hs
  obtain ⟨hl,hst⟩:=hlive h1 hR' hv.1
  by_cases e:Same Z J Z' J' q
  ·have hQ:R'=Q:=by
    have:=e.root
    rw [hR',h1] at this
    simpa using this
   subst hQ
   have hv':=Av hV (H.gy q R' h1).1 hv
   obtain ⟨h1',cs,b,o,h3,h4⟩:=h.2 R' h1 hv' hn hty hs
   exact ⟨h1',cs,b,o,by rw [pg h1 e hv h1' hty]; exact h3,h4⟩
  ·rcases h2 with h2 | h2
   ·rw [hl.2] at h2; simp at h2
   ·exact (t_ q Q hl e p n v h2 h).2 R' hR' hv hn hty hs
 | fQ bt k x Tg=>exact hV.ro hx h
 | kG=>exact h
 | pz _=>exact h
 | part q g lo hi sz=>
  obtain ⟨b',b,n,c,e1,e2,e3,e4,e5,hr⟩:=h
  exact ⟨b',b,n,c,e1,e2,e3,e4,e5,Sy q g (.slice b n c) hx hr⟩
 | nI q p n m=>
  obtain ⟨Q,h1,h2⟩:=hx
  obtain ⟨b,c,ev,h⟩:=h
  refine ⟨b,c,ev, ?_⟩
  intro R' hR' hv hn d hd
  obtain ⟨hl,e⟩:=Nv h1 h2 hR' hv.1 hn
  have hQ:R'=Q:=by
   have:=e.root
   rw [hR',h1] at this
   simpa using this
  subst hQ
  have hv':=Av hV (H.gy q R' h1).1 hv
  obtain ⟨h1',h2',n',wh,h3,h4⟩:=h R' h1 hv' hn d hd
  exact ⟨h1',h2',n',wh,by rw [pg h1 e hv h1' h2']; exact h3,h4⟩
 | sub q p n lo hi sz=>
  obtain ⟨Q,h1,h2⟩:=hx
  obtain ⟨b',b,m,c,ev,eb,e2,e3,e4,h⟩:=h
  refine ⟨b',b,m,c,ev,eb,e2,e3,e4, ?_⟩
  intro R' hR' hv hn d hd
  obtain ⟨hl,e⟩:=Nv h1 h2 hR' hv.1 hn
  have hQ:R'=Q:=by
   have:=e.root
   rw [hR',h1] at this
   simpa using this
  subst hQ
  have hv':=Av hV (H.gy q R' h1).1 hv
  obtain ⟨h1',h2',wh,h3⟩:=h R' h1 hv' hn d hd
  exact ⟨h1',h2',wh,by rw [pg h1 e hv h1' h2']; exact h3⟩
 | sel q p n q2 x y=>
  obtain ⟨⟨Q,h1,h2⟩,⟨Q2,h12⟩⟩:=hx
  intro R' hR' hv hn R2 hR2 hn2
  obtain ⟨hl,e⟩:=Nv h1 h2 hR' hv.1 hn
  have hQ:R'=Q:=by
   have:=e.root
   rw [hR',h1] at this
   simpa using this
  subst hQ
  obtain ⟨hl2,SA⟩:=hlive h12 hR2.1 hR2.2
  have e2:Same Z J Z' J' q2:=by
   obtain ⟨s1,s2,_,_,_,_,s6⟩:=SA
   rcases s6 with s6 | ⟨_,_,e⟩
   ·exfalso
    simp only [Root.dL,s1,s2,qF,bV] at hn2
    rcases s6 with g5 | g5 <;> (have:=P_.2 g5; omega)
   ·exact e
  have vO:R2=Q2:=by
   have:=e2.root
   rw [hR2.1,h12] at this
   simpa using this
  subst vO
  have hv':=Av hV (H.gy q R' h1).1 hv
  obtain ⟨te,kk,xs,wh,bb,m,c,bq,m1,c1,a1,a2,a3,a4,a5,a6,a7,a8,a9⟩:=h R' h1 hv' hn R2 hl2 hn2
  refine ⟨te,kk,xs,wh,bb,m,c,bq,m1,c1,a1,a2,a3,by rw [pg h1 e hv a2 a3]; exact a4,a5,by rw [e2.hdr]; exact a6,a7,a8,fun hm=>?_⟩
  obtain ⟨b1,o1,b0,o0,y1,y2,y3,y4,y5⟩:=a9 hm
  have hs1:hp w' b1=hp w b1:=T.other H hl2 e2 b1 (bB _ y3)
  have hs0:hp w' b0=hp w b0:=T.other H hl e b0 (bB _ y4)
  exact ⟨b1,o1,b0,o0,y1,y2,by rw [e2.fo]; exact y3,by rw [e.fo]; exact y4,fun j i hj hi=>by rw [BS hs1,BS hs0]; exact y5 j i hj hi⟩
 | app q p n q2=>
  obtain ⟨⟨Q,h1,h2⟩,⟨Q2,h12⟩⟩:=hx
  intro R' hR' hv hn R2 hR2 hn2
  obtain ⟨hl,e⟩:=Nv h1 h2 hR' hv.1 hn
  have hQ:R'=Q:=by
   have:=e.root
   rw [hR',h1] at this
   simpa using this
  subst hQ
  obtain ⟨hl2,SA⟩:=hlive h12 hR2.1 hR2.2
  have e2:Same Z J Z' J' q2:=by
   obtain ⟨s1,s2,_,_,_,_,s6⟩:=SA
   rcases s6 with s6 | ⟨_,_,e⟩
   ·exfalso
    simp only [Root.dL,s1,s2,qF,bV] at hn2
    rcases s6 with g5 | g5 <;> (have:=P_.2 g5; omega)
   ·exact e
  have vO:R2=Q2:=by
   have:=e2.root
   rw [hR2.1,h12] at this
   simpa using this
  subst vO
  have hv':=Av hV (H.gy q R' h1).1 hv
  obtain ⟨te,kk,xs,wh,b,m,c,ce,hq,b1,o1,c1,arr,lo,hi,a1,a2,a3,a4,a5,a6,a7,a8,a9,Ef,vI,a12,Qr,BO⟩:=h R' h1 hv' hn R2 hl2 hn2
  have hsR:∀b∈J.fo q,hp w' b=hp w b:=fun b hb=>T.other H hl e b (bB _ hb)
  have hsQ:∀b∈J.fo q2,hp w' b=hp w b:=fun b hb=>T.other H hl2 e2 b (bB _ hb)
  have hb1:hp w' b1=hp w b1:=by
   rcases BO with ⟨_,h,_⟩ | ⟨_,h,_⟩
   ·exact hsR b1 h
   ·exact hsQ b1 h
  refine ⟨te,kk,xs,wh,b,m,c,ce,hq,b1,o1,c1,arr,lo,hi,a1,a2,a3,by rw [pg h1 e hv a2 a3]; exact a4,a5,by rw [e2.hdr]; exact a6,a7,a8,a9,hb1.trans Ef,vI,a12,Qr.congr hb1, ?_⟩
  rcases BO with ⟨z1,z2,z3⟩ | ⟨z1,z2,z3⟩
  ·exact .inl ⟨z1,by rw [e.fo]; exact z2,z3⟩
  ·refine .inr ⟨z1,by rw [e2.fo]; exact z2,fun hm=>?_⟩
   obtain ⟨b0,o0,y1,y2,y3⟩:=z3 hm
   exact ⟨b0,o0,y1,by rw [e.fo]; exact y2,fun i hi'=>by rw [BS hb1,BS (hsR b0 y2)]; exact y3 i hi'⟩
 | fn f cs=>
  obtain ⟨vs,h1,h2⟩:=h
  exact ⟨vs,h1,hV.caps hx h2⟩
theorem Te {cx:Cx} {Z Z':St} {J J':aH} {F F':List Nat} {w w':World} {P:AV->Prop} (h:∀x v,P x->aW cx Z J F w x v->aW cx Z' J' F' w' x v) :
  ∀{l:List AV} {vs:List Value},(∀x∈l,P x)->iN cx Z J F w l vs->iN cx Z' J' F' w' l vs
 | [],[],_,_=>trivial
 | x :: l,v :: vs,hp,hl=>⟨h x v (hp x (by simp)) hl.1,Te h (fun y hy=>hp y (by simp [hy])) hl.2⟩
 | [],_ :: _,_,hl=>hl.elim
 | _ :: _,[],_,hl=>hl.elim
theorem acT {cx:Cx} {Z Z':St} {J J':aH} {F F':List Nat} {w w':World} (h:∀x v,dQ Z x->aW cx Z J F w x v->aW cx Z' J' F' w' x v) {x:gM} {v:Value} (hx:nu Z x) (hv:jv cx Z J F w x v):jv cx Z' J' F' w' x v:=by
 cases x with
 | one a=>exact h a v hx hv
 | mH l=>
  obtain ⟨vs,h1,h2⟩:=hv
  exact ⟨vs,h1,Te h hx h2⟩
 | lit _ _ l=>
  obtain ⟨vs,cs,h1,h2⟩:=hv
  exact ⟨vs,cs,h1,Te h hx h2⟩
theorem Rel.turn (H:Rel cx Z J F a w) (T:iC cx Z J F w Z' J' F' w' lw lh)
  (hroot:∀r R,aU Z' r R->¬Same Z J Z' J' r->(cB Z' R->Ow (hp w') R.own (bG cx Z' J' F' w' R.tags) R.k R.x (J'.hdr r) (J'.fo r))/\(J'.hdr r).length=R.k.size/\
   (∀b o,aK J' R r=some (b,o)->Cells (hp w') b o (J'.hdr r)/\∃arr e lo hi,hp w' b=some (.cells arr e (lo,hi))/\jq arr.size lo hi/\o+R.k.size<=arr.size/\(∀t,R.kind=.var t->e=t))/\
   (blk J' R r).Nodup)
  (t_:∀r R,aU Z r R->¬Same Z J Z' J' r->∀p n v,n<=dS R.h->aW cx Z J F w (.ptr r p n) v->aW cx Z' J' F' w' (.ptr r p n) v)
  (qE:∀r R,aU Z r R->¬Same Z J Z' J' r->∀g v,g<=R.g->aW cx Z J F w (.ref r g) v->aW cx Z' J' F' w' (.ref r g) v) :
  Rel cx Z' J' F' a w':=by
 have hV:=T.views H
 have Zx:∀{r R b},aU Z r R->b∈blk J R r->mine cx w' b:=fun hr hb=>by
  have:=(H.roots _ _ hr).mine _ hb
  exact ⟨xR this.1 T.size,this.2⟩
 have jV:∀b,(b∈F\/(w.heap.size<=b/\b<w'.heap.size)\/∃r R,aU Z r R/\b∈blk J R r/\Loose cx Z' lw w r b)->mine cx w' b:=by
  rintro b (hb | hb | ⟨r,R,hr,hb,_⟩)
  ·have:=H.fl b hb
   exact ⟨xR this.1 T.size,this.2⟩
  ·exact ⟨hb.2, .inl (lW H.frame.2.2.2.1 hb.1)⟩
  ·exact Zx hr hb
 have Zw:∀{r R b},aU Z' r R->b∈blk J' R r->mine cx w' b:=by
  intro r R b hr hb
  by_cases e:∃Q,aU Z r Q/\b∈blk J Q r
  ·obtain ⟨Q,hQ,hbQ⟩:=e
   exact Zx hQ hbQ
  ·exact jV b (T.new b (.inl ⟨r,R,hr,hb,e⟩))
 have ZV:∀{q Q r R b},aU Z' q Q->Same Z J Z' J' q->aU Z' r R->r≠q->b∈blk J' Q q->b∉blk J' R r:=by
  intro q Q r R b hq hs hr hne hb hb'
  have hq':=(hs.live Q).1 hq
  rw [hs.blk] at hb
  by_cases e:∃R0,aU Z r R0/\b∈blk J R0 r
  ·obtain ⟨R0,h1,h2⟩:=e
   exact H.lQ q Q r R0 hq' h1 (Ne.symm hne) b hb h2
  ·exact T.stay H hq' hs b hb (T.new b (.inl ⟨r,R,hr,hb',e⟩))
 constructor
 ·exact H.defs
 ·exact H.sz
 ·intro j pi b o n hj hb
  obtain ⟨R,h1,h2,h3,h4⟩:=H.kM j pi b o n hj hb
  obtain ⟨R',g1,g2⟩:=T.old _ R h1.1
  rcases g2 with g2 | ⟨_,g2⟩
  ·exact absurd h2 g2.2
  ·refine ⟨R',⟨g1, ?_⟩,g2.2.2.2.1.trans h2,g2.2.2.2.2.1.trans h3,(g2.2.2.2.2.2.1 h2).trans h4⟩
   unfold Root.bY
   rw [g2.2.2.2.1,h2]
 ·intro q Q hq hk
  cases hs:Z.roots q with
  | none=>exact absurd hk (T.aaP q Q hs hq.1)
  | some R=>
   obtain ⟨R',g1,g2⟩:=T.old q R hs
   rw [hq.1] at g1
   simp only [au] at g1
   subst g1
   rcases g2 with ⟨g2,_⟩ | ⟨gd,g2⟩
   ·rw [hq.2] at g2; simp at g2
   ·rw [g2.2.2.2.2.1]
    exact H.sK q R ⟨hs,gd⟩ (g2.2.2.2.1▸hk)
 ·intro s
  rw [T.slots]
  exact acT (fun x v hx h=>T.av H t_ qE hx h) (H.sP s) (H.slots s)
 ·intro s
  rw [T.slots]
  exact T.nu (H.sP s)
 ·intro q Q hq
  by_cases e:Same Z J Z' J' q
  ·have hq':=(e.live Q).1 hq
   have K:=H.roots q Q hq'
   have hsame:=T.other H hq' e
   constructor
   ·intro hv
    have hv':=Av hV (H.gy q Q hq'.1).1 hv
    rw [e.hdr,e.fo]
    have hO:=K.ow hv'
    obtain ⟨_,g2,_⟩:=hV Q.tags Q.qJ (H.gy q Q hq'.1).1 hv.2
    exact dY (fun b hb=>(g2 b hb.1 (.inl hb.2)).2) (fun b hb=>(g2 b hb.1 (.inl hb.2)).1) (fun b hb=>hsame b (bB _ hb)) (tu Q.qJ (fun _ h=>h) hO)
   ·rw [e.hdr]; exact K.len
   ·intro b o hb
    rw [e.wh] at hb
    rw [e.hdr]
    obtain ⟨h1,arr,te,lo,hi,h2,h3⟩:=K.mem b o hb
    have hbb:hp w' b=hp w b:=hsame b (by unfold blk; rw [hb]; simp)
    exact ⟨h1.congr hbb,arr,te,lo,hi,hbb.trans h2,h3⟩
   ·rw [e.blk]; exact K.nd
   ·exact fun b hb=>Zw hq hb
  ·obtain ⟨h1,h2,h3,h4⟩:=hroot q Q hq e
   exact ⟨h1,h2,h3,h4,fun b hb=>Zw hq hb⟩
 ·intro q Q hq
  by_cases e:Same Z J Z' J' q
  ·obtain ⟨h1,h2,h3⟩:=H.gy q Q (by rw [<-e.root]; exact hq)
   exact ⟨fun t ht=>T.tag (h1 t ht),h2,h3⟩
  ·exact T.wr q Q hq e
 ·intro q Q q' Q' hq hq' hne b hb hb'
  by_cases e:Same Z J Z' J' q
  ·exact ZV hq e hq' (Ne.symm hne) hb hb'
  ·by_cases e':Same Z J Z' J' q'
   ·exact ZV hq' e' hq hne hb' hb
   ·exact T.lQ q Q q' Q' hq hq' hne e e' b hb hb'
 ·exact fun b hb=>jV b (T.new b (.inr hb))
 ·exact T.iq
 ·intro q Q hq b hb hF
  by_cases e:Same Z J Z' J' q
  ·rw [e.blk] at hb
   exact T.stay H ((e.live Q).1 hq) e b hb (T.new b (.inr hF))
  ·exact T.fB q Q hq e b hb hF
 ·obtain ⟨f1,f2,f3,f4,f5,f6⟩:=H.frame
  refine ⟨T.os.1.trans f1,T.os.2.1.trans f2,T.os.2.2.trans f3,lW f4 T.size, ?_, ?_⟩
  ·intro b hb hno
   have:hp w' b=hp w b:=by
    refine kN fun hne=>?_
    have hm:mine cx w b:=by
     rcases T.qA b (xR hb f4) hne with h | ⟨r,R,hr,h,_⟩
     ·exact H.fl b h
     ·exact (H.roots r R hr).mine b h
    rcases hm.2 with h | ⟨j,pi,h1,h2⟩
    ·omega
    ·exact hno j pi h1 h2
   exact this.trans (f5 b hb hno)
  ·intro j pi b o n hj hb
   by_cases hne:hp w' b=hp w b
   ·have:=f6 j pi b o n hj hb
    obtain ⟨arr,gG,e,fr,h1,h2,h3⟩:=this
    exact ⟨arr,gG,e,fr,h1,hne.trans h2,h3⟩
   ·exact T.base j pi b o n hj hb hne
 ·intro j pi hj hk
  obtain ⟨R,h1,h2⟩:=H.qc j pi hj hk
  obtain ⟨R',g1,g2⟩:=T.old _ R h1
  refine ⟨R',g1,fun hd b hb hnb=>?_⟩
  rcases g2 with ⟨g2,_⟩ | ⟨gd,g2,_⟩
  ·rw [hd] at g2; simp at g2
  ·have hev:=(T.ev _ R R' h1 g1 hd).1
   rcases h2 gd b hb hnb with ⟨e,he,nH⟩ | ⟨hs,hF,hown⟩
   ·refine .inl ⟨e,he, ?_⟩
    rw [g2,hev]
    rcases nH with h | h
    ·exact .inl (bB _ h)
    ·exact .inr h
   ·by_cases nH:∃e∈lw (ah j),jS (hp w) b=some e
    ·obtain ⟨e,he,hel⟩:=nH
     exact .inl ⟨e,(Yt hs).symm.trans hel, .inl (by rw [g2]; exact bK _ he)⟩
    ·have hno:¬∃r Q,aU Z r Q/\b∈blk J Q r/\Loose cx Z' lw w r b:=by
      rintro ⟨r,Q,hr,hbr,hl⟩
      have e:=hown r Q hr hbr
      subst e
      rcases hl with hl | hl | ⟨hl,_⟩
      ·have:=hl R' g1
       rw [hd] at this
       simp at this
      ·exact nH hl
      ·exact hnb hl
     by_cases hlt:b<w.heap.size
     ·refine .inr ⟨?_, ?_, ?_⟩
      ·refine Eq.trans ?_ hs
       refine kN fun hne=>?_
       rcases T.qA b hlt hne with h | h
       ·exact hF h
       ·exact hno h
      ·intro hF'
       rcases T.new b (.inr hF') with h | h | h
       ·exact hF h
       ·omega
       ·exact hno h
      ·intro q Q hq hbq
       by_cases e:∃R,aU Z q R/\b∈blk J R q
       ·obtain ⟨R0,hR0,hbR⟩:=e
        exact hown q R0 hR0 hbR
       ·rcases T.new b (.inl ⟨q,Q,hq,hbq,e⟩) with h | h | h
        ·exact absurd h hF
        ·omega
        ·exact absurd h hno
     ·exact absurd (H.mF.1 j pi hj b hb) (by have:=H.frame.2.2.2.1; omega)
 ·exact H.mF
 ·intro j p ts v hv
  obtain ⟨hvp,R,h1,h2⟩:=H.ry j p ts v hv
  obtain ⟨R',g1,g2⟩:=T.old _ R h1
  refine ⟨hvp,R',g1,fun ht=>?_⟩
  cases hd:R'.bY with
  | true=>
   rcases g2 with ⟨_,g2⟩ | ⟨gd,g2⟩
   ·refine ⟨hvp,fun Q hQ hv'=>?_⟩
    rw [g1] at hQ
    simp only [au] at hQ
    subst hQ
    have:=hv'.1
    rw [hd] at this
    simp at this
   ·have:R'.bY=R.bY:=by unfold Root.bY; rw [g2.2.2.2.1]
    rw [hd,gd] at this
    simp at this
  | false=>
   have hev:=(T.ev _ R R' h1 g1 hd).2
   exact T.av H t_ qE (show Ow.dQ Z (.ptr (ah j) p 0) from ⟨R,h1, .inr (fT _)⟩) (h2 (by rw [<-hev]; exact ht))
 ·intro j v hv
  obtain ⟨⟨R,h1⟩,h2⟩:=H.rz j v hv
  obtain ⟨R',g1,_⟩:=T.old _ R h1
  exact ⟨⟨R',g1⟩,T.av H t_ qE (show Ow.dQ Z (.ref (ah j) 0) from ⟨R,h1, .inr (fT _)⟩) h2⟩
end
def aJ (Z:St) (r:Nat) (R:Root):St:={ Z with roots:=upd Z.roots r (some R) }
def aR (J:aH) (r:Nat) (loc:Nat×Nat) (hdr:List Value) (fo:List Nat):aH:=⟨upd J.loc r loc,upd J.hdr r hdr,upd J.fo r fo⟩
theorem fE (Z:St) (r:Nat) (R:Root):(aJ Z r R).roots r=some R:=upd_same _ _ _
theorem jW (Z:St) {r q:Nat} (R:Root) (h:q≠r):(aJ Z r R).roots q=Z.roots q:=upd_ne _ _ h
theorem Ti {Z:St} {r q:Nat} {R Q:Root} (h:q≠r):aU (aJ Z r R) q Q↔aU Z q Q:=by unfold aU; rw [jW Z R h]
theorem pq {Z:St} {r:Nat} {R Q:Root} (h:aU (aJ Z r R) r Q):Q=R/\R.bY=false:=by
 have h1:=h.1
 rw [fE] at h1
 simp only [au] at h1
 subst h1
 exact ⟨rfl,h.2⟩
theorem lX {Z:St} {J:aH} {r q:Nat} {R:Root} {loc:Nat×Nat} {hdr:List Value} {fo:List Nat} (h:q≠r):Same Z J (aJ Z r R) (aR J r loc hdr fo) q:=
 ⟨jW Z R h,upd_ne _ _ h,upd_ne _ _ h,upd_ne _ _ h⟩
theorem vD (Z:St) (J:aH) (q:Nat):Same Z J Z J q:=⟨rfl,rfl,rfl,rfl⟩
def ji (R:Root) (loc:Nat×Nat) (fo:List Nat):List Nat:=(match R.kind with
 | .var _=>[loc.1]
 | .par=>[loc.1]
 | _=>[])++fo
theorem pR {J:aH} {r:Nat} {loc:Nat×Nat} {hdr:List Value} {fo:List Nat} {Q:Root}:blk (aR J r loc hdr fo) Q r=ji Q loc fo:=by
 unfold blk ji aK aR
 simp only [upd_same] <;> cases Q.kind <;> rfl
theorem jG (J:aH) (R:Root) (r:Nat):blk J R r=ji R (J.loc r) (J.fo r):=by
 unfold blk ji aK
 cases R.kind <;> rfl
def mX (R:Root) (loc:Nat×Nat):Option (Nat×Nat):=match R.kind with
 | .var _=>some loc
 | .par=>some loc
 | _=>none
theorem wC {J:aH} {r:Nat} {loc:Nat×Nat} {hdr:List Value} {fo:List Nat} {Q:Root}:aK (aR J r loc hdr fo) Q r=mX Q loc:=by
 unfold aK mX aR
 simp only [upd_same] <;> cases Q.kind <;> rfl
theorem Az (J:aH) (R:Root) (r:Nat):aK J R r=mX R (J.loc r):=rfl
end
section
open Go
variable [Fr]
def uz (Z:St) (s:Nat->gM):St:=⟨s,Z.roots⟩
theorem Ir (Z:St) (s:Nat->gM) (tys:List TypeId):∀(T:List Tag),cO (uz Z s) tys T=cO Z tys T
 | []=>rfl
 | (r,n) :: T=>by simp only [cO,Ir Z s tys T]; rfl
section
variable {cx:Cx} {Z:St} {J:aH} {F:List Nat} {a:Act} {w:World}
theorem aaZ (s:Nat->gM):bG cx (uz Z s) J F w=bG cx Z J F w:=rfl
theorem abT (s:Nat->gM) {bt:TypeId} {k:K} {x:El k} {T:List Tag} {v:Value}:wz cx (uz Z s) J F w bt k x T v↔wz cx Z J F w bt k x T v:=by
 unfold wz
 rw [Ir,aaZ]
 exact Iff.rfl
theorem X4 (s:Nat->gM):∀{cs:List (TypeId×Dat×List Tag)} {vs:List Value},nA cx (uz Z s) J F w cs vs↔nA cx Z J F w cs vs
 | [],[]=>Iff.rfl
 | c :: cs,v :: vs=>by simp only [nA,abT s,X4 s]
 | [],_ :: _=>Iff.rfl
 | _ :: _,[]=>Iff.rfl
theorem Aw (s:Nat->gM) {R:Root}:cB (uz Z s) R↔cB Z R:=by unfold cB; rw [Ir]
theorem Ki (s:Nat->gM) {x:AV} {v:Value}:aW cx (uz Z s) J F w x v↔aW cx Z J F w x v:=by
 cases x with
 | undef=>exact Iff.rfl
 | val k x T=>simp only [aW,Ir,aaZ]
 | fG=>exact Iff.rfl
 | ref r g=>exact Iff.rfl
 | lZ r g k p=>exact Iff.rfl
 | dZ r p n=>simp only [aW,Aw]; exact Iff.rfl
 | ptr r p n=>simp only [aW,Aw]; exact Iff.rfl
 | fQ bt k x T=>exact abT s
 | kG=>exact Iff.rfl
 | pz _=>exact Iff.rfl
 | part _ _ _ _ _=>exact Iff.rfl
 | nI _ _ _ _=>simp only [aW,Aw]; exact Iff.rfl
 | sub _ _ _ _ _ _=>simp only [aW,Aw]; exact Iff.rfl
 | sel _ _ _ _ _ _=>simp only [aW,Aw]; exact Iff.rfl
 | app _ _ _ _=>simp only [aW,Aw]; exact Iff.rfl
 | fn f cs=>simp only [aW,X4 s]
theorem Tf (s:Nat->gM):∀{l:List AV} {vs:List Value},iN cx (uz Z s) J F w l vs↔iN cx Z J F w l vs
 | [],[]=>Iff.rfl
 | c :: cs,v :: vs=>by simp only [iN,Ki s,Tf s]
 | [],_ :: _=>Iff.rfl
 | _ :: _,[]=>Iff.rfl
theorem U0 (s:Nat->gM) {x:gM} {v:Value}:jv cx (uz Z s) J F w x v↔jv cx Z J F w x v:=by
 cases x with
 | one a=>exact Ki s
 | mH l=>simp only [jv,Tf s]
 | lit _ _ l=>simp only [jv,Tf s]
theorem XM (s:Nat->gM) {x:gM}:nu (uz Z s) x↔nu Z x:=by cases x <;> exact Iff.rfl
theorem Rel.put (H:Rel cx Z J F a w) {d:Nat} {x:gM} {v:Value} (hd:d<cx.nt) (hw:nu Z x) (hx:jv cx Z J F w x v) :
  Rel cx (uz Z (upd Z.slots d x)) J F (a.put (some d) v) w where
 defs:=H.defs
 sz:=by simpa [Act.put] using H.sz
 kM:=H.kM
 sK:=H.sK
 slots:=by
  intro s
  rw [U0]
  show jv cx Z J F w (upd Z.slots d x s) _
  by_cases e:s=d
  ·subst e
   rw [upd_same]
   have:(a.put (some s) v).tmps.getD s undef=v:=by
    have:=H.sz
    simp [Act.put,U4 (show s<a.tmps.size by omega)]
   rw [this]
   exact hx
  ·rw [upd_ne _ _ e]
   have:(a.put (some d) v).tmps.getD s undef=a.tmps.getD s undef:=by
    simp [Act.put,U3 (Ne.symm e)]
   rw [this]
   exact H.slots s
 sP:=by
  intro s
  rw [XM]
  show nu Z (upd Z.slots d x s)
  by_cases e:s=d
  ·subst e; rw [upd_same]; exact hw
  ·rw [upd_ne _ _ e]; exact H.sP s
 roots:=by
  intro r R hr
  have K:=H.roots r R hr
  exact ⟨fun hv=>K.ow ((Aw _).1 hv),K.len,K.mem,K.nd,K.mine⟩
 gy:=H.gy
 lQ:=H.lQ
 fl:=H.fl
 iq:=H.iq
 fB:=H.fB
 frame:=H.frame
 qc:=H.qc
 mF:=H.mF
 ry:=fun j p ts v h=>let ⟨h0,R,h1,h2⟩:=H.ry j p ts v h; ⟨h0,R,h1,fun ht=>(Ki _).2 (h2 ht)⟩
 rz:=H.rz
def dw (w:World) (n:Nat):World:={ w with drawn:=n }
theorem X3 (n:Nat):∀{cs:List (TypeId×Dat×List Tag)} {vs:List Value},nA cx Z J F w cs vs->nA cx Z J F (dw w n) cs vs
 | [],[],_=>trivial
 | _ :: _,_ :: _,h=>⟨h.1,X3 n h.2⟩
 | [],_ :: _,h=>h.elim
 | _ :: _,[],h=>h.elim
theorem Kh (n:Nat) {x:AV} {v:Value} (h:aW cx Z J F w x v):aW cx Z J F (dw w n) x v:=by
 cases x with
 | fn f cs=>obtain ⟨vs,h1,h2⟩:=h; exact ⟨vs,h1,X3 n h2⟩
 | undef=>exact h
 | val k x T=>exact h
 | fG=>exact h
 | ref r g=>exact h
 | lZ r g k p=>exact h
 | dZ r p n=>exact h
 | ptr r p n=>exact h
 | fQ bt k x T=>exact h
 | kG=>exact h
 | pz _=>exact h
 | part _ _ _ _ _=>exact h
 | nI _ _ _ _=>exact h
 | sub _ _ _ _ _ _=>exact h
 | sel _ _ _ _ _ _=>exact h
 | app _ _ _ _=>exact h
theorem Rel.drawn (H:Rel cx Z J F a w) (n:Nat):Rel cx Z J F a (dw w n) where
 defs:=H.defs
 sz:=H.sz
 kM:=H.kM
 sK:=H.sK
 slots:=fun s=>by
  have h:=H.slots s
  generalize Z.slots s=x at h
  cases x with
  | one a=>exact Kh n h
  | mH l=>
   obtain ⟨vs,h1,h2⟩:=h
   refine ⟨vs,h1, ?_⟩
   clear h1
   induction l generalizing vs with
   | nil=>cases vs with
    | nil=>trivial
    | cons v vs=>exact h2.elim
   | cons b l ih=>cases vs with
    | nil=>exact h2.elim
    | cons v vs=>exact ⟨Kh n h2.1,ih vs h2.2⟩
  | lit _ _ l=>
   obtain ⟨vs,cs,h1,h2⟩:=h
   refine ⟨vs,cs,h1, ?_⟩
   clear h1
   induction l generalizing vs with
   | nil=>cases vs with
    | nil=>trivial
    | cons v vs=>exact h2.elim
   | cons b l ih=>cases vs with
    | nil=>exact h2.elim
    | cons v vs=>exact ⟨Kh n h2.1,ih vs h2.2⟩
 sP:=H.sP
 roots:=fun r R hr=>let K:=H.roots r R hr; ⟨K.ow,K.len,K.mem,K.nd,K.mine⟩
 gy:=H.gy
 lQ:=H.lQ
 fl:=H.fl
 iq:=H.iq
 fB:=H.fB
 frame:=H.frame
 qc:=H.qc
 mF:=H.mF
 ry:=fun j p ts v h=>let ⟨h0,R,h1,h2⟩:=H.ry j p ts v h; ⟨h0,R,h1,fun ht=>Kh n (h2 ht)⟩
 rz:=H.rz
def kU (r:Nat) (l:List Nat):Nat->List Nat:=fun q=>if q=r then l else []
theorem FE (r:Nat) (l:List Nat):kU r l r=l:=aj rfl
theorem uS {r q:Nat} (l:List Nat) (h:q≠r):kU r l q=[]:=aA h
variable {r:Nat} {R R':Root} {hdr':List Value} {aF F':List Nat} {w':World} {lw lh:List Nat}
def Qc (cx:Cx) (R':Root) (lw:List Nat) (w:World) (b:Nat):Prop:=R'.bY=true\/(∃e∈lw,jS (hp w) b=some e)\/(nV cx b/\lw≠[])
structure vE (cx:Cx) (Z:St) (J:aH) (F:List Nat) (w:World) (r:Nat) (R R':Root) (aF F':List Nat) (w':World) (lw lh:List Nat):Prop where
 step:(R'.bY=true/\R.kind≠.par)\/(R'.w=lw++R.w/\R'.h=lh++R.h/\R.g<=R'.g/\R'.kind=R.kind/\(R.kind=.par->R'.k.size=R.k.size)/\(lw≠[]\/lh≠[]))
 tags:gB Z R'.tags/\∀n,(r,n)∉R'.tags
 os:w'.os=w.os/\w'.tape=w.tape/\w'.output=w.output
 size:w.heap.size<=w'.heap.size
 qA:∀b,b<w.heap.size->hp w' b≠hp w b->b∈F\/(b∈blk J R r/\Qc cx R' lw w b)
 new:R'.bY=false->∀b∈ji R' (J.loc r) aF,b∈blk J R r\/b∈F\/(w.heap.size<=b/\b<w'.heap.size)
 newF:∀b∈F',b∈F\/(w.heap.size<=b/\b<w'.heap.size)\/(b∈blk J R r/\Qc cx R' lw w b)
 iq:F'.Nodup
 fB:R'.bY=false->∀b∈ji R' (J.loc r) aF,b∉F'
 base:∀j pi b o n,cx.par j=some pi->pi.base=some (b,o,n)->r=ah j->hp w' b≠hp w b->mM (hp cx.w0) (hp w') b o n
 ev:R'.bY=false->R'.ew=R.ew/\R'.eh=R.eh
theorem uo {q:Nat} {Q:Root} (h:aU (aJ Z r R') q Q):(q=r/\Q=R'/\R'.bY=false)\/(q≠r/\aU Z q Q):=by
 by_cases e:q=r
 ·subst e
  obtain ⟨h1,h2⟩:=pq h
  exact .inl ⟨rfl,h1,h2⟩
 ·exact .inr ⟨e,(Ti e).1 h⟩
theorem vE.turn (H:Rel cx Z J F a w) (hr:aU Z r R) (T:vE cx Z J F w r R R' aF F' w' lw lh) :
  iC cx Z J F w (aJ Z r R') (aR J r (J.loc r) hdr' aF) F' w' (kU r lw) (kU r lh):=by
 have hsame:∀q,q≠r->Same Z J (aJ Z r R') (aR J r (J.loc r) hdr' aF) q:=fun q h=>lX h
 have Zu:∀b,Qc cx R' lw w b->Loose cx (aJ Z r R') (kU r lw) w r b:=by
  rintro b (h | ⟨e,he,hb⟩ | ⟨h,hl⟩)
  ·refine .inl fun Q hQ=>?_
   rw [fE] at hQ
   simp only [au] at hQ
   subst hQ
   exact h
  ·exact .inr (.inl ⟨e,by rw [FE]; exact he,hb⟩)
  ·exact .inr (.inr ⟨h,by rw [FE]; exact hl⟩)
 have hns:∀{q:Nat},¬Same Z J (aJ Z r R') (aR J r (J.loc r) hdr' aF) q->q=r:=fun {q} h=>kN fun e=>h (hsame q e)
 refine ⟨rfl,T.os,T.size, ?_, ?_, ?_, ?_, ?_,T.iq, ?_, ?_, ?_, ?_⟩
 ·intro q Q hQ
  by_cases e:q=r
  ·subst e
   rw [hr.1] at hQ
   simp only [au] at hQ
   subst hQ
   refine ⟨R',fE .., ?_⟩
   rcases T.step with h | ⟨h1,h2,h3,h4,h5,h6⟩
   ·exact .inl h
   ·exact .inr ⟨hr.2,by rw [FE]; exact h1,by rw [FE]; exact h2,h3,h4,by simp [aR,upd_same],h5,by rw [FE,FE]; exact .inl h6⟩
  ·refine ⟨Q,by rw [jW Z R' e]; exact hQ, ?_⟩
   cases hd:Q.bY with
   | true=>
    refine .inl ⟨rfl, ?_⟩
    intro hk
    simp [Root.bY,hk] at hd
   | false=>exact .inr ⟨rfl,by rw [uS lw e]; rfl,by rw [uS lh e]; rfl,bN _,rfl,by simp [aR,upd_ne _ _ e],fun _=>rfl, .inr ⟨uS lw e,uS lh e,hsame q e⟩⟩
 ·intro q Q hQ hs
  have e:=hns hs
  subst e
  rw [fE] at hQ
  simp only [au] at hQ
  subst hQ
  refine ⟨fun t ht=>?_,(H.gy q R hr.1).2.1,T.tags.2⟩
  have hne:t.1≠q:=fun e=>T.tags.2 t.2 (by rw [<-e]; exact ht)
  rcases T.tags.1 t ht with h | ⟨Q,h1,h2⟩
  ·exact .inl h
  ·exact .inr ⟨Q,by rw [jW Z R' hne]; exact h1,h2⟩
 ·intro q Q hn hQ
  have e:q≠r:=fun e=>by rw [e,hr.1] at hn; simp at hn
  rw [jW Z R' e,hn] at hQ
  simp at hQ
 ·intro b hb hne
  exact (T.qA b hb hne).imp id (fun h=>⟨r,R,hr,h.1,Zu b h.2⟩)
 ·rintro b (⟨q,Q,hq,hb,hno⟩ | hb)
  ·rcases uo hq with ⟨rfl,rfl,hd⟩ | ⟨e,hq'⟩
   ·rw [pR] at hb
    rcases T.new hd b hb with h | h | h
    ·exact absurd ⟨R,hr,h⟩ hno
    ·exact .inl h
    ·exact .inr (.inl h)
   ·rw [(hsame q e).blk] at hb
    exact absurd ⟨Q,hq',hb⟩ hno
  ·rcases T.newF b hb with h | h | h
   ·exact .inl h
   ·exact .inr (.inl h)
   ·exact .inr (.inr ⟨r,R,hr,h.1,Zu b h.2⟩)
 ·intro q Q hq hs b hb
  have e:=hns hs
  subst e
  obtain ⟨rfl,hd⟩:=pq hq
  rw [pR] at hb
  exact T.fB hd b hb
 ·intro q Q q' Q' hq hq' hne hs hs'
  exact absurd ((hns hs).trans (hns hs').symm) hne
 ·intro j pi b o n hj hb hne
  obtain ⟨Q,hQ,hk,hl,hs⟩:=H.kM j pi b o n hj hb
  have hbq:b∈blk J Q (ah j):=by simp [blk,aK,hk,hl]
  have hm:=(H.roots _ _ hQ).mine b hbq
  rcases T.qA b hm.1 hne with h | ⟨h1,_⟩
  ·exact absurd h (H.fB _ _ hQ b hbq)
  ·refine T.base j pi b o n hj hb ?_ hne
   refine kN fun e=>?_
   exact H.lQ _ _ _ _ hr hQ e b h1 hbq
 ·intro q Q Q' hQ hQ' hd
  by_cases e:q=r
  ·subst e
   rw [hr.1] at hQ
   rw [fE] at hQ'
   simp only [au] at hQ hQ'
   subst hQ
   subst hQ'
   exact T.ev hd
  ·rw [jW Z R' e,hQ] at hQ'
   simp only [au] at hQ'
   subst hQ'
   exact ⟨rfl,rfl⟩
theorem vE.rel (H:Rel cx Z J F a w) (hr:aU Z r R) (T:vE cx Z J F w r R R' aF F' w' lw lh)
  (hroot:R'.bY=false->(cB (aJ Z r R') R'->Ow (hp w') R'.own (bG cx (aJ Z r R') (aR J r (J.loc r) hdr' aF) F' w' R'.tags) R'.k R'.x hdr' aF)/\hdr'.length=R'.k.size/\
   (∀b o,mX R' (J.loc r)=some (b,o)->Cells (hp w') b o hdr'/\∃arr e lo hi,hp w' b=some (.cells arr e (lo,hi))/\jq arr.size lo hi/\o+R'.k.size<=arr.size/\(∀t,R'.kind=.var t->e=t))/\
   (ji R' (J.loc r) aF).Nodup)
  (t_:R'.bY=false->∀p n v,n<=dS R.h->aW cx Z J F w (.ptr r p n) v->aW cx (aJ Z r R') (aR J r (J.loc r) hdr' aF) F' w' (.ptr r p n) v)
  (qE:R'.bY=false->∀g v,g<=R.g->aW cx Z J F w (.ref r g) v->aW cx (aJ Z r R') (aR J r (J.loc r) hdr' aF) F' w' (.ref r g) v) :
  Rel cx (aJ Z r R') (aR J r (J.loc r) hdr' aF) F' a w':=by
 have hns:∀{q:Nat},¬Same Z J (aJ Z r R') (aR J r (J.loc r) hdr' aF) q->q=r:=fun {q} h=>kN fun e=>h (lX e)
 have Y1:∀{Q:Root},aU Z r Q->Q=R:=fun {Q} hQ=>by have:=hQ.1; rw [hr.1] at this; simpa using this.symm
 refine H.turn (T.turn H hr) ?_ ?_ ?_
 ·intro q Q hq hs
  have e:=hns hs
  subst e
  obtain ⟨rfl,hd⟩:=pq hq
  obtain ⟨h1,h2,h3,h4⟩:=hroot hd
  refine ⟨fun hv=>?_, ?_, ?_, ?_⟩
  ·have:=h1 hv
   simpa [aR,upd_same] using this
  ·simpa [aR,upd_same] using h2
  ·intro b o hb
   rw [wC] at hb
   have:=h3 b o hb
   simpa [aR,upd_same] using this
  ·rw [pR]; exact h4
 ·intro q Q hq hs p n v hn hv
  have e:=hns hs
  subst e
  obtain rfl:=Y1 hq
  cases hd:R'.bY with
  | false=>exact t_ hd p n v hn hv
  | true=>
   refine ⟨hv.1, ?_⟩
   intro Q' hQ' hval
   rw [fE] at hQ'
   simp only [au] at hQ'
   subst hQ'
   have:=hval.1
   rw [hd] at this
   simp at this
 ·intro q Q hq hs g v hg hv
  have e:=hns hs
  subst e
  obtain rfl:=Y1 hq
  cases hd:R'.bY with
  | false=>exact qE hd g v hg hv
  | true=>
   intro Q' hQ'
   have:=(pq hQ').2
   rw [hd] at this
   simp at this
structure Held (cx:Cx) (Z:St) (J:aH) (F:List Nat) (w:World) (k:K) (x:El k) (own:List TypeId) (tags:List Tag) (cs:List Value) (fo:List Nat):Prop where
 ow:cO Z (bu own k) tags=true->Ow (hp w) own (bG cx Z J F w tags) k x cs fo
 wt:gB Z tags
 sub:∀b∈fo,b∈F
 nd:fo.Nodup
 len:cs.length=k.size
theorem Held.turn {Z':St} {J':aH} {lw lh:Nat->List Nat} {k:K} {x:El k} {own:List TypeId} {tags:List Tag} {cs:List Value} {fo:List Nat}
  (H:Rel cx Z J F a w) (T:iC cx Z J F w Z' J' F' w' lw lh) (h:Held cx Z J F w k x own tags cs fo) (hs:∀b∈fo,hp w' b=hp w b/\b∈F'):Held cx Z' J' F' w' k x own tags cs fo where
 ow:=fun hc=>by
  obtain ⟨h1,h2,_⟩:=T.views H tags _ h.wt hc
  exact dY (fun b hb=>(h2 b hb.1 (.inl hb.2)).2) (fun b hb=>(h2 b hb.1 (.inl hb.2)).1) (fun b hb=>(hs b hb).1) (tu _ (fun _ h=>h) (h.ow h1))
 wt:=fun t ht=>T.tag (h.wt t ht)
 sub:=fun b hb=>(hs b hb).2
 nd:=h.nd
 len:=h.len
theorem Held.slots {k:K} {x:El k} {own:List TypeId} {tags:List Tag} {cs:List Value} {fo:List Nat} (s:Nat->gM) (h:Held cx Z J F w k x own tags cs fo):Held cx (uz Z s) J F w k x own tags cs fo:=
 ⟨fun hc=>h.ow (by rw [Ir] at hc; exact hc),h.wt,h.sub,h.nd,h.len⟩
end
end
section
open Go
variable [Fr]
theorem zb {h:Heap} {own:List TypeId} {ok:Nat->Prop}:∀{k:K} {x:El k} {cs:List Value} {fo:List Nat},Ow h own ok k x cs fo->∀b∈fo,∃e∈k.tys,aa e own=true/\jS h b=some e:=by
 intro k
 induction k with
 | int ik=>intro x cs fo H b hb; rw [H.1] at hb; simp at hb
 | bool=>intro x cs fo H b hb; rw [H.1] at hb; simp at hb
 | id e=>intro x cs fo H b hb; rw [H.1] at hb; simp at hb
 | str=>intro x cs fo H b hb; rw [H.1] at hb; simp at hb
 | sl e k ih=>
  intro x cs fo H b' hb'
  unfold Ow at H
  split at H
  ·rename_i hm
   obtain ⟨a,n,c,e1,e2,e3,H⟩:=H
   rcases H with ⟨_,h1⟩ | ⟨b,o,arr,lo,hi,ea,hb,hf,hs,ay,hl,hp,H⟩
   ·rw [h1] at hb'; simp at hb'
   ·rcases bT.1 (hp.mem_iff.1 hb') with h | h
    ·subst h
     exact ⟨e,by simp [K.tys],hm,by unfold jS; rw [hb]⟩
    ·obtain ⟨l,hl1,hl2⟩:=BA.1 h
     obtain ⟨i,hi,rfl⟩:=sZ.1 hl1
     obtain ⟨ds,_,h2⟩:=H i (by omega)
     rw [oH hi] at h2
     obtain ⟨e',g1,g2⟩:=ih h2 b' hl2
     exact ⟨e',by simp [K.tys,g1],g2⟩
  ·rw [H.1] at hb'; simp at hb'
 | unit=>intro x cs fo H b hb; rw [H.1] at hb; simp at hb
 | pair a b iha ihb=>
  intro x cs fo H b' hb'
  obtain ⟨c1,c2,f1,f2,e,hp,h1,h2⟩:=H
  rcases bW.1 (hp.mem_iff.1 hb') with h | h
  ·obtain ⟨e',g1,g2⟩:=iha h1 b' h; exact ⟨e',by simp [K.tys,g1],g2⟩
  ·obtain ⟨e',g1,g2⟩:=ihb h2 b' h; exact ⟨e',by simp [K.tys,g1],g2⟩
 | st f ih=>intro x cs fo H; exact ih (x:=x) H
 | gap n=>intro x cs fo H b hb; rw [H.1] at hb; simp at hb
theorem qg {t:Nat} {own bad:List TypeId}:aa t (fq own bad)=true↔aa t own=true/\t∉bad:=by
 rw [b_,b_]
 unfold fq
 rw [eF]
 simp [gT]
theorem Ke {own:List TypeId}:∀{k:K} {t:TypeId},t∈k.tys->t∈bu own k\/aa t own=true:=by
 intro k
 induction k with
 | sl e k ih=>
  intro t ht
  simp only [K.tys,bT] at ht
  cases hm:aa e own with
  | true=>
   rcases ht with ht | ht
   ·subst ht; exact .inr hm
   ·exact (ih ht).imp (fun h=>by simp [bu,hm,h]) id
  | false=>exact .inl (by simpa [bu,hm] using ht)
 | pair a b iha ihb=>
  intro t ht
  simp only [K.tys,bW] at ht
  rcases ht with ht | ht
  ·exact (iha ht).imp (fun h=>by simp [bu,h]) id
  ·exact (ihb ht).imp (fun h=>by simp [bu,h]) id
 | st f ih=>intro t ht; exact ih ht
 | _=>intro t ht; simp [K.tys] at ht
theorem UU {own:List TypeId}:∀{k:K} {t:TypeId},t∈bu own k->t∈k.tys:=by
 intro k
 induction k with
 | sl e k ih=>
  intro t ht
  cases hm:aa e own with
  | true=>simp only [bu,hm,gJ] at ht; simp [K.tys,ih ht]
  | false=>simpa [bu,hm,K.tys] using ht
 | pair a b iha ihb=>
  intro t ht
  simp only [bu,bW] at ht
  simp only [K.tys,bW]
  exact ht.imp iha ihb
 | st f ih=>intro t ht; exact ih ht
 | _=>intro t ht; simp [bu] at ht
section
variable {cx:Cx} {Z:St} {J:aH} {F:List Nat} {a:Act} {w:World} {F':List Nat} {w':World}
theorem Fz (H:Rel cx Z J F a w) (hos:w'.os=w.os/\w'.tape=w.tape/\w'.output=w.output) (hsize:w.heap.size<=w'.heap.size) (sF:∀b,b<w.heap.size->hp w' b≠hp w b->b∈F)
  (hnew:∀b∈F',b∈F\/(w.heap.size<=b/\b<w'.heap.size)) (hnd:F'.Nodup):iC cx Z J F w Z J F' w' (fun _=>[]) (fun _=>[]) where
 slots:=rfl
 os:=hos
 size:=hsize
 old:=fun r R hr=>⟨R,hr,by
  cases hd:R.bY with
  | true=>exact .inl ⟨rfl,by intro hk; simp [Root.bY,hk] at hd⟩
  | false=>exact .inr ⟨rfl,rfl,rfl,bN _,rfl,rfl,fun _=>rfl, .inr ⟨rfl,rfl,vD ..⟩⟩⟩
 wr:=fun r R' _ h=>absurd (vD ..) h
 aaP:=fun r R' h1 h2=>by rw [h1] at h2; simp at h2
 qA:=fun b hb hne=>.inl (sF b hb hne)
 new:=by
  rintro b (⟨r,R',h1,h2,h3⟩ | h)
  ·exact absurd ⟨R',h1,h2⟩ h3
  ·exact (hnew b h).imp id .inl
 iq:=hnd
 fB:=fun r R' _ h=>absurd (vD ..) h
 lQ:=fun r R r' R' _ _ _ h=>absurd (vD ..) h
 base:=by
  intro j pi b o n hj hb hne
  obtain ⟨Q,hQ,hk,hl,hs⟩:=H.kM j pi b o n hj hb
  have hbq:b∈blk J Q (ah j):=by simp [blk,aK,hk,hl]
  have hm:=(H.roots _ _ hQ).mine b hbq
  exact absurd (sF b hm.1 hne) (H.fB _ _ hQ b hbq)
 ev:=fun r R R' h1 h2 _=>by rw [h1] at h2; simp only [au] at h2; subst h2; exact ⟨rfl,rfl⟩
theorem Rel.mem (H:Rel cx Z J F a w) (T:iC cx Z J F w Z J F' w' (fun _=>[]) (fun _=>[])):Rel cx Z J F' a w':=
 H.turn T (fun _ _ _ h=>absurd (vD ..) h) (fun _ _ _ h=>absurd (vD ..) h) (fun _ _ _ h=>absurd (vD ..) h)
theorem Rel.alloc (H:Rel cx Z J F a w) (o:Obj):Rel cx Z J (w.heap.size :: F) a (w.alloc o)/\iC cx Z J F w Z J (w.heap.size :: F) (w.alloc o) (fun _=>[]) (fun _=>[]):=by
 have hs:(w.alloc o).heap.size=w.heap.size+1:=Array.size_push ..
 have T:iC cx Z J F w Z J (w.heap.size :: F) (w.alloc o) (fun _=>[]) (fun _=>[]):=Fz H ⟨rfl,rfl,rfl⟩ (by omega) (fun b hb hne=>absurd (CE w o hb) hne)
  (fun b hb=>by rcases bT.1 hb with h | h; exact .inr ⟨by omega,by omega⟩; exact .inl h)
  (jg.2 ⟨fun h=>by have:=(H.fl _ h).1; omega,H.iq⟩)
 exact ⟨H.mem T,T⟩
variable {r:Nat} {R:Root}
theorem uJ:iE.bY=true:=rfl
theorem wZ {R':Root} {tys:List TypeId} {T:List Tag} (h:∀n,(r,n)∉T):cO (aJ Z r R') tys T=cO Z tys T:=by
 induction T with
 | nil=>rfl
 | cons t T ih=>
  obtain ⟨q,n⟩:=t
  have hq:q≠r:=fun e=>h n (by simp [e])
  have ih':=ih (fun n hn=>h n (by simp [hn]))
  simp only [cO]
  rw [ih',jW Z R' hq]
def jr (J:aH) (r:Nat):aH:=aR J r (J.loc r) (J.hdr r) []
theorem kill (H:Rel cx Z J F a w) (hr:aU Z r R) (hk:R.kind=.anon) (hv:cB Z R) :
  Rel cx (aJ Z r iE) (jr J r) (J.fo r++F) a w/\iC cx Z J F w (aJ Z r iE) (jr J r) (J.fo r++F) w (kU r []) (kU r [])/\
  Held cx (aJ Z r iE) (jr J r) (J.fo r++F) w R.k R.x R.own R.tags (J.hdr r) (J.fo r)/\cO (aJ Z r iE) (bu R.own R.k) R.tags=true:=by
 have hb:blk J R r=J.fo r:=by simp [blk,aK,hk]
 have K:=H.roots r R hr
 have hnd:(J.fo r).Nodup:=by rw [<-hb]; exact K.nd
 have T1:vE cx Z J F w r R iE [] (J.fo r++F) w [] []:=by
  refine ⟨.inl ⟨rfl,by rw [hk]; simp⟩,⟨fun t ht=>by simp [iE] at ht,fun n hn=>by simp [iE] at hn⟩,⟨rfl,rfl,rfl⟩,bN _,fun b _ h=>absurd rfl h,fun h=>by simp [uJ] at h, ?_, ?_,fun h=>by simp [uJ] at h,fun _ _ _ _ _ _ _ _ h=>absurd rfl h,fun h=>by simp [uJ] at h⟩
  ·intro b hb'
   rcases bW.1 hb' with h | h
   ·exact .inr (.inr ⟨by rw [hb]; exact h, .inl rfl⟩)
   ·exact .inl h
  ·exact cK.2 ⟨hnd,H.iq,fun b h1 c h2 e=>H.fB r R hr b (by rw [hb]; exact h1) (e▸h2)⟩
 have hT:=T1.turn (hdr':=J.hdr r) H hr
 have hnt:=(H.gy r R hr.1).2.2
 have IY:cO (aJ Z r iE) (bu R.own R.k) R.tags=true:=by rw [wZ hnt]; exact hv.2
 refine ⟨T1.rel H hr (fun h=>by simp [uJ] at h) (fun h=>by simp [uJ] at h) (fun h=>by simp [uJ] at h),hT, ?_,IY⟩
 refine ⟨fun hc=>?_,fun t ht=>hT.tag ((H.gy r R hr.1).1 t ht),fun b hb=>bK _ hb,hnd,K.len⟩
 obtain ⟨h1,h2,_⟩:=hT.views H R.tags _ (H.gy r R hr.1).1 hc
 exact dY (fun b hb=>(h2 b hb.1 (.inl hb.2)).2) (fun b hb=>(h2 b hb.1 (.inl hb.2)).1) (fun _ _=>rfl) (tu _ (fun _ h=>h) (K.ow hv))
theorem alM (H:Rel cx Z J F a w) (hr:aU Z r R) (hk:R.kind≠.par) (hv:cB Z R) :
  Rel cx (aJ Z r iE) (jr J r) (blk J R r++F) a w/\iC cx Z J F w (aJ Z r iE) (jr J r) (blk J R r++F) w (kU r []) (kU r [])/\
  Held cx (aJ Z r iE) (jr J r) (blk J R r++F) w R.k R.x R.own R.tags (J.hdr r) (J.fo r)/\cO (aJ Z r iE) (bu R.own R.k) R.tags=true:=by
 have K:=H.roots r R hr
 have hnd:(blk J R r).Nodup:=K.nd
 have T1:vE cx Z J F w r R iE [] (blk J R r++F) w [] []:=by
  refine ⟨.inl ⟨rfl,hk⟩,⟨fun t ht=>by simp [iE] at ht,fun n hn=>by simp [iE] at hn⟩,⟨rfl,rfl,rfl⟩,bN _,fun b _ h=>absurd rfl h,fun h=>by simp [uJ] at h, ?_, ?_,fun h=>by simp [uJ] at h,fun _ _ _ _ _ _ _ _ h=>absurd rfl h,fun h=>by simp [uJ] at h⟩
  ·intro b hb'
   rcases bW.1 hb' with h | h
   ·exact .inr (.inr ⟨h, .inl rfl⟩)
   ·exact .inl h
  ·exact cK.2 ⟨hnd,H.iq,fun b h1 c h2 e=>H.fB r R hr b h1 (e▸h2)⟩
 have hT:=T1.turn (hdr':=J.hdr r) H hr
 have hnt:=(H.gy r R hr.1).2.2
 have IY:cO (aJ Z r iE) (bu R.own R.k) R.tags=true:=by rw [wZ hnt]; exact hv.2
 refine ⟨T1.rel H hr (fun h=>by simp [uJ] at h) (fun h=>by simp [uJ] at h) (fun h=>by simp [uJ] at h),hT, ?_,IY⟩
 refine ⟨fun hc=>?_,fun t ht=>hT.tag ((H.gy r R hr.1).1 t ht),fun b hb=>bK _ (bB _ hb),(cK.1 hnd).2.1,K.len⟩
 obtain ⟨h1,h2,_⟩:=hT.views H R.tags _ (H.gy r R hr.1).1 hc
 exact dY (fun b hb=>(h2 b hb.1 (.inl hb.2)).2) (fun b hb=>(h2 b hb.1 (.inl hb.2)).1) (fun _ _=>rfl) (tu _ (fun _ h=>h) (K.ow hv))
theorem EH:∀(p:List Stp) {k:K} {x y:El k},(aB p k x).isSome=(aB p k y).isSome:=by
 intro p
 induction p with
 | nil=>intro k x y; rfl
 | cons s p ih=>
  intro k x y
  cases s with
  | aZ n=>
   cases k with
   | st c=>
    simp only [aB]
    have key:∀(n:Nat) {c:K} {x y:El c},(∃s t:Dat,aS n c x=some s/\aS n c y=some t/\s.1=t.1)\/(aS n c x=none/\aS n c y=none):=by
     intro n
     induction n with
     | zero=>intro c x y; cases c <;> first | exact .inl ⟨_,_,rfl,rfl,rfl⟩ | exact .inr ⟨rfl,rfl⟩
     | succ n ih=>intro c x y; cases c <;> first | exact ih | exact .inr ⟨rfl,rfl⟩
    rcases key n (c:=c) (x:=x) (y:=y) with ⟨s,t,h1,h2,h3⟩ | ⟨h1,h2⟩
    ·rw [h1,h2]
     obtain ⟨sk,sx⟩:=s
     obtain ⟨tk,ty⟩:=t
     simp only at h3
     subst h3
     exact ih
    ·rw [h1,h2]
   | _=>simp [aB]
  | idx i=>
   cases k with
   | sl e k=>simp only [aB]; exact ih
   | _=>simp [aB]
theorem X_:∀(n m:Nat) {c:K} {x:El c} {u y:Dat},m≠n->dF n c x u=some y->aS m y.1 y.2=aS m c x:=by
 intro n
 induction n with
 | zero=>
  intro m c x u y hm h
  cases c with
  | pair a b=>
   simp only [dF,au] at h
   subst h
   cases m with
   | zero=>exact absurd rfl hm
   | succ m=>rfl
  | _=>simp [dF] at h
 | succ n ih=>
  intro m c x u y hm h
  cases c with
  | pair a b=>
   simp only [dF] at h
   cases h4:dF n b x.2 u with
   | none=>rw [h4] at h; simp at h
   | some y2=>
    rw [h4] at h
    simp only [au] at h
    subst h
    cases m with
    | zero=>rfl
    | succ m=>exact ih m (by omega) h4
  | _=>simp [dF] at h
theorem acy {bad:List TypeId}:∀(p q:List Stp) {k:K} {x:El k} {t d z:Dat},aB p k x=some d->cz p k x t=some z->
  (∀q',(aB q' t.1 t.2).isSome=true->(∀e∈az q' t.1,e∉bad)->az q' d.1=az q' t.1/\(aB q' d.1 d.2).isSome=true)->(aB q z.1 z.2).isSome=true->(∀e∈az q z.1,e∉bad)->
   az q k=az q z.1/\(aB q k x).isSome=true:=by
 intro p
 induction p with
 | nil=>
  intro q k x t d z hg hz ht hs hb
  simp only [cz,au] at hz
  simp only [aB,au] at hg
  subst hz
  subst hg
  exact ht q hs hb
 | cons s p ih=>
  intro q k x t d z hg hz ht hs hb
  cases s with
  | aZ n=>
   cases k with
   | st c=>
    simp only [aB,cz] at hg hz
    cases hcg:aS n c x with
    | none=>rw [hcg] at hg; simp at hg
    | some s=>
     rw [hcg] at hg hz
     simp only at hg hz
     cases hs':cz p s.1 s.2 t with
     | none=>rw [hs'] at hz; simp at hz
     | some u=>
      rw [hs'] at hz
      simp only at hz
      cases hcp:dF n c x u with
      | none=>rw [hcp] at hz; simp at hz
      | some y=>
       rw [hcp] at hz
       simp only [au] at hz
       subst hz
       cases q with
       | nil=>exact ⟨rfl,rfl⟩
       | cons s2 q=>
        cases s2 with
        | idx i=>simp [aB] at hs
        | aZ m=>
         by_cases hmn:m=n
         ·subst hmn
          have e1:aS m y.1 y.2=some u:=Ip m hcp
          have p1:az (.aZ m :: q) (.st c)=az q s.1:=by simp [az,lI m hcg]
          have p2:az (.aZ m :: q) (.st y.1)=az q u.1:=by simp [az,lI m e1]
          have hs2:(aB (.aZ m :: q) (.st y.1) y.2).isSome=true:=hs
          simp only [aB,e1] at hs2
          have hb2:∀e∈az (.aZ m :: q) (.st y.1),e∉bad:=hb
          rw [p2] at hb2
          obtain ⟨h1,h2⟩:=ih q hg hs' ht hs2 hb2
          refine ⟨?_, ?_⟩
          ·show az (.aZ m :: q) (.st c)=az (.aZ m :: q) (.st y.1)
           rw [p1,p2,h1]
          ·simp only [aB,hcg]
           exact h2
         ·have e1:=X_ n m hmn hcp
          have hs2:(aB (.aZ m :: q) (.st y.1) y.2).isSome=true:=hs
          simp only [aB,e1] at hs2
          cases hg2:aS m c x with
          | none=>rw [hg2] at hs2; simp at hs2
          | some s2=>
           refine ⟨?_, ?_⟩
           ·show az (.aZ m :: q) (.st c)=az (.aZ m :: q) (.st y.1)
            simp only [az,lI m hg2,lI m (e1.trans hg2)]
           ·simp only [aB,hg2]
            rw [hg2] at hs2
            exact hs2
   | _=>simp [aB] at hg
  | idx i=>
   cases k with
   | sl e k=>
    simp only [cz] at hz
    cases hs':cz p k ((show List (El k) from x).getD i.toNat k.zero) t with
    | none=>rw [hs'] at hz; simp at hz
    | some u=>
     rw [hs'] at hz
     simp only at hz
     cases hck:bU u.1 k u.2 with
     | none=>rw [hck] at hz; simp at hz
     | some y=>
      rw [hck] at hz
      simp only [au] at hz
      subst hz
      exact ⟨rfl,by rw [EH q (y:=((show List (El k) from x).set i.toNat y))]; exact hs⟩
   | _=>simp [cz] at hz
theorem Cz:∀k:K,k.hole.size=k.size:=by
 intro k
 induction k with
 | pair a b iha ihb=>simp [K.hole,K.size,iha,ihb]
 | st f ih=>simp [K.hole,K.size,ih]
 | _=>rfl
theorem agH {h:Heap} {own:List TypeId} {ok:Nat->Prop}:∀{k:K} {x:El k} {cs:List Value} {fo:List Nat},Ow h own ok k x cs fo->Ow h own ok k.hole (p_ k x) cs []:=by
 intro k
 induction k with
 | int ik=>intro x cs fo H; exact ⟨rfl,H.2⟩
 | bool=>intro x cs fo H; exact ⟨rfl,H.2⟩
 | id e=>intro x cs fo H; exact ⟨rfl,H.2⟩
 | str=>intro x cs fo H; exact ⟨rfl,H.2⟩
 | sl e k ih=>intro x cs fo H; exact ⟨rfl,fM H⟩
 | unit=>intro x cs fo H; exact ⟨rfl,H.2⟩
 | pair a b iha ihb=>intro x cs fo H; obtain ⟨c1,c2,f1,f2,e,hp,h1,h2⟩:=H; exact ⟨c1,c2,[],[],e, .refl _,iha h1,ihb h2⟩
 | st f ih=>intro x cs fo H; exact ih (x:=x) H
 | gap n=>intro x cs fo H; exact ⟨rfl,H.2⟩
theorem X9:∀(n:Nat) {c:K} {x:El c},aS n c.hole (p_ c x)=(aS n c x).map oI:=by
 intro n
 induction n with
 | zero=>intro c x; cases c <;> rfl
 | succ n ih=>
  intro c x
  cases c with
  | pair a b=>simp only [K.hole,p_,aS]; exact ih
  | _=>rfl
theorem ahE:∀(n:Nat) {c:K},bO n c.hole=(bO n c).map fun q=>(q.1,q.2.hole):=by
 intro n
 induction n with
 | zero=>intro c; cases c <;> rfl
 | succ n ih=>
  intro c
  cases c with
  | pair a b=>
   simp only [K.hole,bO]
   rw [ih (c:=b)]
   cases bO n b with
   | none=>rfl
   | some q=>simp [Cz]
  | _=>rfl
theorem Sq {h:Heap}:∀(q:List Stp) {k:K} {x:El k},(aB q k.hole (p_ k x)).isSome=true->
  az q k=[]/\az q k.hole=[]/\(aB q k x).isSome=true/\bX q k.hole (p_ k x)/\∀cs wh,aT h q k.hole cs wh=aT h q k cs wh:=by
 intro q
 induction q with
 | nil=>intro k x _; exact ⟨by simp [az],by simp [az],rfl,trivial,fun _ _=>rfl⟩
 | cons s q ih=>
  intro k x hs
  cases s with
  | idx i=>cases k <;> simp [K.hole,aB] at hs
  | aZ n=>
   cases k with
   | st c=>
    have e:aS n c.hole (p_ c x)=(aS n c x).map oI:=X9 n
    have hs':(aB (.aZ n :: q) (.st c.hole) (p_ c x)).isSome=true:=hs
    simp only [aB,e] at hs'
    cases hg:aS n c x with
    | none=>rw [hg] at hs'; simp at hs'
    | some s=>
     rw [hg] at hs' e
     simp only [oU,oI] at hs' e
     obtain ⟨h1,h2,h3,h4,h5⟩:=ih (k:=s.1) (x:=s.2) hs'
     refine ⟨by simp [az,lI n hg,h1], ?_,by simp only [aB,hg]; exact h3, ?_,fun cs wh=>?_⟩
     ·show az (.aZ n :: q) (.st c.hole)=[]
      simp [az,lI n e,h2]
     ·show bX (.aZ n :: q) (.st c.hole) (p_ c x)
      simp only [bX,e]
      exact h4
     ·show aT h (.aZ n :: q) (.st c.hole) cs wh=_
      simp only [aT]
      rw [ahE n]
      cases ho:bO n c with
      | none=>rfl
      | some w=>
       simp only [oU]
       have hk:w.2=s.1:=by
        have key:∀(n:Nat) {c:K} {x:El c} {s:Dat} {q:Nat×K},aS n c x=some s->bO n c=some q->q.2=s.1:=by
         intro n
         induction n with
         | zero=>intro c x s q h1 h2; cases c with
          | pair a b=>simp only [aS,bO,au] at h1 h2; subst h1; subst h2; rfl
          | _=>simp [aS] at h1
         | succ n ih=>intro c x s q h1 h2; cases c with
          | pair a b=>
           simp only [aS,bO] at h1 h2
           cases h3:bO n b with
           | none=>rw [h3] at h2; simp at h2
           | some q3=>rw [h3] at h2; simp only [au] at h2; subst h2; exact ih (q:=q3) h1 h3
          | _=>simp [aS] at h1
        exact key n (c:=c) hg ho
       obtain ⟨w1,w2⟩:=w
       simp only at hk
       subst hk
       simp only [Cz]
       exact h5 _ _
   | _=>simp [K.hole,aB] at hs
theorem akV:∀(q:List Stp) {k:K} {x y:El k},az q k=[]->(aB q k x).isSome=true->az q k.hole=[]/\(aB q k.hole (p_ k y)).isSome=true:=by
 intro q
 induction q with
 | nil=>intro k x y _ _; exact ⟨by simp [az],rfl⟩
 | cons s q ih=>
  intro k x y h0 hs
  cases s with
  | idx i=>cases k <;> simp [az,aB] at h0 hs
  | aZ n=>
   cases k with
   | st c=>
    simp only [aB] at hs
    cases hg:aS n c x with
    | none=>rw [hg] at hs; simp at hs
    | some s=>
     rw [hg] at hs
     simp only at hs
     have hp2:az (.aZ n :: q) (.st c)=az q s.1:=by simp [az,lI n hg]
     rw [hp2] at h0
     have key:∀(n:Nat) {c:K} {x y:El c} {s:Dat},aS n c x=some s->∃t:Dat,aS n c y=some t/\t.1=s.1:=by
      intro n
      induction n with
      | zero=>intro c x y s h; cases c <;> first | (simp only [aS,au] at h; subst h; exact ⟨_,rfl,rfl⟩) | simp [aS] at h
      | succ n ih=>intro c x y s h; cases c <;> first | exact ih h | simp [aS] at h
     obtain ⟨t,g1,g2⟩:=key n (c:=c) (y:=y) hg
     obtain ⟨sk,sx⟩:=s
     obtain ⟨tk,ty⟩:=t
     simp only at g2
     subst g2
     obtain ⟨h1,h2⟩:=ih (y:=ty) h0 hs
     have e:aS n c.hole (p_ c y)=some (oI ⟨tk,ty⟩):=by rw [X9 n,g1]; rfl
     refine ⟨?_, ?_⟩
     ·show az (.aZ n :: q) (.st c.hole)=[]
      simp [az,lI n e,oI,h1]
     ·show (aB (.aZ n :: q) (.st c.hole) (p_ c y)).isSome=true
      simp only [aB,e]
      exact h2
   | _=>simp [aB] at hs
theorem aoa {own:List TypeId}:∀k:K,bu own k.hole=[]:=by
 intro k
 induction k with
 | pair a b iha ihb=>simp [K.hole,bu,iha,ihb]
 | st f ih=>exact ih
 | _=>rfl
theorem cells_eq {h:Heap} {b o:Nat} {cs cs':List Value} (h1:Cells h b o cs) (h2:Cells h b o cs') (hl:cs'.length=cs.length):cs'=cs:=by
 apply HY 
 intro i
 by_cases hi:i<cs.length
 ·rw [<-h1 i hi, <-h2 i (by omega)]
 ·rw [uE (by omega),uE (by omega)]
theorem Us:∀(p:List Stp) {k:K} {x:El k} {t d z:Dat},aB p k x=some d->t.1.size=d.1.size->cz p k x t=some z->z.1.size=k.size:=by
 intro p
 induction p with
 | nil=>
  intro k x t d z hg hs hz
  simp only [aB,cz,au] at hg hz
  subst hg; subst hz; exact hs
 | cons s p ih=>
  intro k x t d z hg hs hz
  cases s with
  | aZ n=>
   cases k with
   | st c=>
    simp only [aB,cz] at hg hz
    cases hcg:aS n c x with
    | none=>rw [hcg] at hg; simp at hg
    | some s=>
     rw [hcg] at hg hz
     simp only at hg hz
     cases hs':cz p s.1 s.2 t with
     | none=>rw [hs'] at hz; simp at hz
     | some u=>
      rw [hs'] at hz
      simp only at hz
      cases hcp:dF n c x u with
      | none=>rw [hcp] at hz; simp at hz
      | some y=>
       rw [hcp] at hz
       simp only [au] at hz
       subst hz
       have hu:=ih hg hs hs'
       have key:∀(n:Nat) {c:K} {x:El c} {s u y:Dat},aS n c x=some s->dF n c x u=some y->u.1.size=s.1.size->y.1.size=c.size:=by
        intro n
        induction n with
        | zero=>
         intro c x s u y h1 h2 e
         cases c with
         | pair a b=>simp only [aS,dF,au] at h1 h2; subst h1; subst h2; simp only at e; simp [K.size,e]
         | _=>simp [aS] at h1
        | succ n ih=>
         intro c x s u y h1 h2 e
         cases c with
         | pair a b=>
          simp only [aS,dF] at h1 h2
          cases h3:dF n b x.2 u with
          | none=>rw [h3] at h2; simp at h2
          | some y2=>rw [h3] at h2; simp only [au] at h2; subst h2; simp [K.size,ih h1 h3 e]
         | _=>simp [aS] at h1
       show y.1.size=c.size
       exact key n (c:=c) hcg hcp hu
   | _=>simp [aB] at hg
  | idx i=>
   cases k with
   | sl e k=>
    simp only [cz] at hz
    cases hs':cz p k ((show List (El k) from x).getD i.toNat k.zero) t with
    | none=>rw [hs'] at hz; simp at hz
    | some u=>
     rw [hs'] at hz
     simp only at hz
     cases hck:bU u.1 k u.2 with
     | none=>rw [hck] at hz; simp at hz
     | some y=>rw [hck] at hz; simp only [au] at hz; subst hz; rfl
   | _=>simp [aB] at hg
theorem F9 {R R':Root} (h:R'.kind=R.kind) (loc:Nat×Nat):mX R' loc=mX R loc:=by unfold mX; rw [h]
theorem zG {R R':Root} (h:R'.kind=R.kind) (loc:Nat×Nat) (fo:List Nat):ji R' loc fo=ji R loc fo:=by unfold ji; rw [h]
theorem XQ (R:Root) (loc:Nat×Nat) (fo:List Nat):ji R loc fo=(match mX R loc with
 | some q=>[q.1]
 | none=>[])++fo:=by unfold ji mX; cases R.kind <;> rfl
theorem mV {R:Root} {loc:Nat×Nat} {fo:List Nat} {b:Nat}:b∈ji R loc fo↔(∃o,mX R loc=some (b,o))\/b∈fo:=by
 rw [XQ]
 cases h:mX R loc with
 | none=>simp
 | some q=>obtain ⟨b0,o0⟩:=q; simp; constructor <;> (intro h; rcases h with h | h <;> simp_all)
theorem uR {R:Root} {loc:Nat×Nat} {fo:List Nat}:(ji R loc fo).Nodup↔(∀b o,mX R loc=some (b,o)->b∉fo)/\fo.Nodup:=by
 rw [XQ]
 cases h:mX R loc with
 | none=>simp
 | some q=>obtain ⟨b0,o0⟩:=q; simp [jg]
theorem alE {R R':Root} (h:R'.kind=R.kind):R'.bY=R.bY:=by unfold Root.bY; rw [h]
theorem Xt {k k':K} {v:Value} {cs:List Value} (h:kZ k'=kZ k):VC k' v cs↔VC k v cs:=by
 cases k <;> cases k' <;> first | exact Iff.rfl | simp [kZ] at h
theorem ab_ {p:List Stp} {k:K} {x:El k} {t z:Dat} (hp:p≠[]) (hz:cz p k x t=some z):kZ z.1=kZ k:=by
 cases p with
 | nil=>exact absurd rfl hp
 | cons s p=>
  cases s with
  | aZ n=>
   cases k with
   | st c=>
    simp only [cz] at hz
    cases hcg:aS n c x with
    | none=>rw [hcg] at hz; simp at hz
    | some s=>
     rw [hcg] at hz
     simp only at hz
     cases hs':cz p s.1 s.2 t with
     | none=>rw [hs'] at hz; simp at hz
     | some u=>
      rw [hs'] at hz
      simp only at hz
      cases hcp:dF n c x u with
      | none=>rw [hcp] at hz; simp at hz
      | some y=>rw [hcp] at hz; simp only [au] at hz; subst hz; rfl
   | _=>simp [cz] at hz
  | idx i=>
   cases k with
   | sl e k=>
    simp only [cz] at hz
    cases hs':cz p k ((show List (El k) from x).getD i.toNat k.zero) t with
    | none=>rw [hs'] at hz; simp at hz
    | some u=>
     rw [hs'] at hz
     simp only at hz
     cases hck:bU u.1 k u.2 with
     | none=>rw [hck] at hz; simp at hz
     | some y=>rw [hck] at hz; simp only [au] at hz; subst hz; rfl
   | _=>simp [cz] at hz
theorem ajm (k:K):k.tys≠[]\/tV k++k.tys≠[]:=by
 unfold tV
 cases k.tys with
 | nil=>exact .inr (by simp)
 | cons a l=>exact .inl (by simp)
def kJ (R:Root) (d:Dat) (z:Dat):Root:={ R with k:=z.1,x:=z.2,w:=d.1.tys++R.w,h:=tV d.1++d.1.tys++R.h }
def l_ (R:Root) (d:Dat) (z:Dat) (own':List TypeId):Root:={ kJ R d z with own:=own' }
theorem CX:∀(q:List Stp) {k:K},∀t∈az q k,t∈k.tys:=by
 intro q
 induction q with
 | nil=>intro k t ht; simp [az] at ht
 | cons s q ih=>
  intro k t ht
  cases s with
  | aZ n=>
   cases k with
   | st c=>
    simp only [az] at ht
    cases hc:az.lH n c with
    | none=>rw [hc] at ht; simp at ht
    | some k'=>
     rw [hc] at ht
     have h1:=ih t ht
     have:∀(n:Nat) {c k':K},az.lH n c=some k'->∀t∈k'.tys,t∈c.tys:=by
      intro n
      induction n with
      | zero=>
       intro c k' h t ht
       cases c with
       | pair a b=>simp only [az.lH,au] at h; subst h; simp [K.tys,ht]
       | _=>simp [az.lH] at h
      | succ n ih=>
       intro c k' h t ht
       cases c with
       | pair a b=>simp only [az.lH] at h; simp [K.tys,ih h t ht]
       | _=>simp [az.lH] at h
     exact this n hc t h1
   | _=>simp [az] at ht
  | idx i=>
   cases k with
   | sl e k=>
    simp only [az,bT] at ht
    rcases ht with h | h
    ·simp [K.tys,h]
    ·simp [K.tys,ih t h]
   | _=>simp [az] at ht
theorem YL {own':List TypeId} (H:Rel cx Z J F a w) (hr:aU Z r R) (hv:cB Z R) {p:List Stp} {d z:Dat} (hg:aB p R.k R.x=some d) (hz:cz p R.k R.x (oI d)=some z) (dh:bX p R.k R.x)
  (hown:∀t∈az p R.k,aa t R.own=true) (hpv:p≠[]\/∃t,R.kind=.var t) (hso:∀t∈z.1.tys,aa t own'=aa t R.own) :
  ∃cs1 cu aX rest,aT (hp w) p R.k (J.hdr r) (aK J R r)=some (cs1,cu)/\
   Rel cx (aJ Z r (l_ R d z own')) (aR J r (J.loc r) (J.hdr r) rest) (aX++F) a w/\
   iC cx Z J F w (aJ Z r (l_ R d z own')) (aR J r (J.loc r) (J.hdr r) rest) (aX++F) w (kU r d.1.tys) (kU r (tV d.1++d.1.tys))/\
   Held cx (aJ Z r (l_ R d z own')) (aR J r (J.loc r) (J.hdr r) rest) (aX++F) w d.1 d.2 R.own R.tags cs1 aX/\(∀tys,cO (aJ Z r (l_ R d z own')) tys R.tags=cO Z tys R.tags)/\(J.fo r).Perm (aX++rest):=by
 have K:=H.roots r R hr
 have hnd:=K.nd
 rw [jG,uR] at hnd
 have hO:=K.ow hv
 obtain ⟨cs1,aX,rest,cu,hn,hp1,hd1,hc1,hin,hnone,hup⟩:=focus p hO (fun b o e=>(K.mem b o e).1) hg dh hown hnd.2 (fun b o e=>hnd.1 b o e)
 have hnt:=(H.gy r R hr.1).2.2
 have hl1:=fM hd1
 obtain ⟨cs',hl',mg,hC',hN',hK'⟩:=hup.go (hp w) (bG cx Z J F w R.tags) (oI d) cs1 [] z hz hl1 (agH hd1) (fun b hb=>⟨hb,rfl⟩) (fun _ _ _=>rfl)
  (fun b o e=>⟨hc1 b o e,by
   have:∃arr te fr,hp w b=some (.cells arr te fr):=by
    rcases hin b o e with ⟨_,o0,ew,_⟩ | ⟨_,arr,te,lo,hi,h1,_⟩
    ·obtain ⟨_,arr,te,lo,hi,h1,_⟩:=K.mem b o0 ew; exact ⟨arr,te,_,h1⟩
    ·exact ⟨arr,te,_,h1⟩
   obtain ⟨arr,te,fr,h1⟩:=this
   exact mM.of_same _ _ h1 rfl⟩) (fun _=>rfl) (fun _ _ _ _=>rfl)
 have hcs:cs'=J.hdr r:=by
  cases hw:aK J R r with
  | none=>exact hN' hw
  | some q=>exact cells_eq (K.mem q.1 q.2 hw).1 (hC' q.1 q.2 hw) hl'
 rw [hcs,rR] at mg
 replace mg:=vv hso mg
 obtain ⟨_,_,YS,_⟩:=hK' d.1.tys (Cz d.1) (fun q c0 w0 hq _ hn0 hs=>by
  obtain ⟨_,_,_,h3,h4⟩:=Sq (h:=hp w) q (x:=d.2) hs
  exact ⟨h3,c0,by rw [<-hn0]; exact h4 cs1 cu⟩)
 rw [hcs] at YS
 have hkind:(l_ R d z own').kind=R.kind:=rfl
 have ake:(l_ R d z own').bY=false:=hr.2
 have EO:∀b,b∈J.fo r↔b∈aX\/b∈rest:=fun b=>by rw [hp1.mem_iff,bW]
 have sH:=hp1.nodup hnd.2
 have hsz:z.1.size=R.k.size:=Us p (t:=oI d) hg (Cz d.1) hz
 have T1:vE cx Z J F w r R (l_ R d z own') rest (aX++F) w d.1.tys (tV d.1++d.1.tys):=by
  refine ⟨.inr ⟨rfl,rfl,bN _,rfl,fun _=>hsz,ajm d.1⟩,⟨(H.gy r R hr.1).1,hnt⟩,⟨rfl,rfl,rfl⟩,bN _,fun b _ h=>absurd rfl h, ?_, ?_, ?_, ?_,fun _ _ _ _ _ _ _ _ h=>absurd rfl h,fun _=>⟨rfl,rfl⟩⟩
  ·intro _ b hb
   rw [zG hkind,mV] at hb
   refine .inl ?_
   rw [jG,mV,EO]
   exact hb.imp id .inr
  ·intro b hb
   rcases bW.1 hb with h | h
   ·refine .inr (.inr ⟨by rw [jG,mV,EO]; exact .inr (.inl h), .inr (.inl ?_)⟩)
    obtain ⟨e,h1,_,h2⟩:=zb hd1 b h
    exact ⟨e,h1,h2⟩
   ·exact .inl h
  ·refine cK.2 ⟨(cK.1 sH).1,H.iq,fun b h1 c h2 e=>H.fB r R hr b ?_ (e▸h2)⟩
   rw [jG,mV,EO]
   exact .inr (.inl h1)
  ·intro _ b hb hF
   rw [zG hkind,mV] at hb
   rcases bW.1 hF with h | h
   ·rcases hb with ⟨o,hb⟩ | hb
    ·exact hnd.1 b o hb ((EO b).2 (.inl h))
    ·exact (cK.1 sH).2.2 b h b hb rfl
   ·refine H.fB r R hr b ?_ h
    rw [jG,mV,EO]
    exact hb.imp id .inr
 have hT:=T1.turn (hdr':=J.hdr r) H hr
 have IY:∀tys,cO (aJ Z r (l_ R d z own')) tys R.tags=cO Z tys R.tags:=fun tys=>wZ hnt
 refine ⟨cs1,cu,aX,rest,hn,T1.rel H hr ?_ ?_ ?_,hT, ?_,IY,hp1⟩
 ·intro _
  refine ⟨fun hv'=>?_,by rw [K.len]; exact hsz.symm, ?_, ?_⟩
  ·obtain ⟨h1,h2,_⟩:=hT.views H R.tags _ (H.gy r R hr.1).1 hv'.2
   exact dY (fun b hb=>(h2 b hb.1 (.inl hb.2)).2) (fun b hb=>(h2 b hb.1 (.inl hb.2)).1) (fun _ _=>rfl) (tu _ (fun _ h=>h) mg)
  ·intro b o hb
   have:(l_ R d z own').k.size=R.k.size:=hsz
   rw [this]
   exact K.mem b o hb
  ·rw [zG hkind,uR]
   exact ⟨fun b o e hb=>hnd.1 b o e ((EO b).2 (.inr hb)),(cK.1 sH).2.1⟩
 ·intro _ q n v hn' hold
  refine ⟨hold.1, ?_⟩
  intro Q hQ oL hcl hty hsome
  have hQ':Q=l_ R d z own':=by
   rw [fE] at hQ
   simpa using hQ.symm
  subst hQ'
  have Je:aK (aR J r (J.loc r) (J.hdr r) rest) (l_ R d z own') r=aK J R r:=by rw [wC,F9 hkind, <-Az]
  have Cu:(aR J r (J.loc r) (J.hdr r) rest).hdr r=J.hdr r:=by simp [aR,upd_same]
  have hh:(l_ R d z own').h=(tV d.1++d.1.tys)++R.h:=rfl
  rw [hh,Eu hn'] at hcl
  by_cases hq:q=[]
  case neg=>
   have hpt:∀k,iW q k=jM :: az q k:=by
    intro k
    cases q with
    | nil=>exact absurd rfl hq
    | cons s q=>rfl
   rw [hpt] at hcl
   obtain ⟨k1,k2⟩:=acy (bad:=d.1.tys) p q hg hz (fun q' h _=>let ⟨h1,h2,h3,_⟩:=Sq (h:=hp w) q' (x:=d.2) h; ⟨h1.trans h2.symm,h3⟩) hsome (fun e he hm=>hcl.1 e (bB _ hm) (jD _ he))
   have k1':az q R.k=az q (l_ R d z own').k:=k1
   have hty':∀t∈az q R.k,aa t R.own=true:=fun t ht=>by
    have ht':t∈az q z.1:=k1▸ht
    rw [<-hso t (CX q t ht')]
    exact hty t ht'
   rw [<-k1'] at hcl
   obtain ⟨g1,cs,b,o,g2,g3⟩:=hold.2 R hr.1 hv (by rw [hpt]; exact hcl.2) hty' k2
   obtain ⟨f1,c1,f2⟩:=YS q cs (some (b,o)) g1 (fun t ht=>⟨hty' t ht,fun hm=>hcl.1 t (bB _ hm) (jD _ ht)⟩) g2 hsome
   rw [Je,Cu]
   exact ⟨f1,c1,b,o,f2,g3⟩
  subst hq
  obtain ⟨_,cs,b,o,h1,h2⟩:=hold.2 R hr.1 hv (by simp [clean,iW,aa]) (fun t ht=>by simp [az] at ht) rfl
  simp only [aT,au,bS] at h1
  refine ⟨trivial,(aR J r (J.loc r) (J.hdr r) rest).hdr r,b,o, ?_,h2⟩
  simp only [aT]
  rw [wC,F9 hkind, <-Az,h1.2]
 ·intro _ g v hg' hold Q hQ Nh
  obtain ⟨hQ',_⟩:=pq hQ
  subst hQ'
  obtain ⟨h1,h2⟩:=hold R hr Nh
  refine ⟨h1, ?_⟩
  have:(aR J r (J.loc r) (J.hdr r) rest).hdr r=J.hdr r:=by simp [aR,upd_same]
  rw [this]
  rcases hpv with hp | ⟨t,ht⟩
  ·
   cases p with
   | nil=>exact absurd rfl hp
   | cons s p=>
    exact (Xt (ab_ (by simp) hz)).2 h2
  ·rw [ht] at h1; simp at h1
 ·refine ⟨fun hc=>?_,fun t ht=>hT.tag ((H.gy r R hr.1).1 t ht),fun b hb=>bK _ hb,(cK.1 sH).1,hl1⟩
  obtain ⟨h1,h2,_⟩:=hT.views H R.tags _ (H.gy r R hr.1).1 hc
  exact dY (fun b hb=>(h2 b hb.1 (.inl hb.2)).2) (fun b hb=>(h2 b hb.1 (.inl hb.2)).1) (fun _ _=>rfl) (tu _ (fun _ h=>h) hd1)
theorem gap (H:Rel cx Z J F a w) (hr:aU Z r R) (hv:cB Z R) {p:List Stp} {d z:Dat} (hg:aB p R.k R.x=some d) (hz:cz p R.k R.x (oI d)=some z) (dh:bX p R.k R.x)
  (hown:∀t∈az p R.k,aa t R.own=true) (hpv:p≠[]\/∃t,R.kind=.var t) :
  ∃cs1 cu aX rest,aT (hp w) p R.k (J.hdr r) (aK J R r)=some (cs1,cu)/\
   Rel cx (aJ Z r (kJ R d z)) (aR J r (J.loc r) (J.hdr r) rest) (aX++F) a w/\
   iC cx Z J F w (aJ Z r (kJ R d z)) (aR J r (J.loc r) (J.hdr r) rest) (aX++F) w (kU r d.1.tys) (kU r (tV d.1++d.1.tys))/\
   Held cx (aJ Z r (kJ R d z)) (aR J r (J.loc r) (J.hdr r) rest) (aX++F) w d.1 d.2 R.own R.tags cs1 aX/\(∀tys,cO (aJ Z r (kJ R d z)) tys R.tags=cO Z tys R.tags)/\(J.fo r).Perm (aX++rest):=
 YL (own':=R.own) H hr hv hg hz dh hown hpv (fun _ _=>rfl)
end
end
section
open Go
variable [Fr]
theorem an_ {own own':List TypeId}:∀{k:K},(∀t∈k.tys,aa t own'=true->aa t own=true)->∀t∈bu own k,t∈bu own' k:=by
 intro k
 induction k with
 | sl e k ih=>
  intro h t ht
  cases hm':aa e own' with
  | true=>
   have hm:=h e (by simp [K.tys]) hm'
   simp only [bu,hm,gJ] at ht
   simp only [bu,hm',gJ]
   exact ih (fun t ht=>h t (by simp [K.tys,ht])) t ht
  | false=>
   have:=UU ht
   simpa [bu,hm',K.tys] using this
 | pair a b iha ihb=>
  intro h t ht
  simp only [bu,bW] at ht ⊢
  exact ht.imp (iha (fun t ht=>h t (by simp [K.tys,ht])) t) (ihb (fun t ht=>h t (by simp [K.tys,ht])) t)
 | st f ih=>intro h t ht; exact ih h t ht
 | _=>intro _ t ht; simp [bu] at ht
theorem ahG {own:List TypeId}:∀(n:Nat) {c:K} {x:El c} {s u y:Dat},aS n c x=some s->dF n c x u=some y->
  (∀e∈bu own u.1,e∈bu own y.1)/\((∀e∈bu own s.1,e∈bu own u.1)->∀e∈bu own c,e∈bu own y.1):=by
 intro n
 induction n with
 | zero=>
  intro c x s u y hg hp
  cases c with
  | pair a b=>
   simp only [aS,dF,au] at hg hp
   subst hg; subst hp
   refine ⟨fun e he=>by simp [bu,he],fun h e he=>?_⟩
   simp only [bu,bW] at he ⊢
   exact he.imp (h e) id
  | _=>simp [aS] at hg
 | succ n ih=>
  intro c x s u y hg hp
  cases c with
  | pair a b=>
   simp only [aS,dF] at hg hp
   cases h3:dF n b x.2 u with
   | none=>rw [h3] at hp; simp at hp
   | some y2=>
    rw [h3] at hp
    simp only [au] at hp
    subst hp
    obtain ⟨g1,g2⟩:=ih hg h3
    refine ⟨fun e he=>by simp [bu,g1 e he],fun h e he=>?_⟩
    simp only [bu,bW] at he ⊢
    exact he.imp id (g2 h e)
  | _=>simp [aS] at hg
theorem acJ {own:List TypeId}:∀(p:List Stp) {k:K} {x:El k} {d t z:Dat},aB p k x=some d->cz p k x t=some z->
  (∀e∈bu own t.1,e∈bu own z.1\/∃q∈az p k,aa q own=false)/\((∀e∈bu own d.1,e∈bu own t.1)->∀e∈bu own k,e∈bu own z.1):=by
 intro p
 induction p with
 | nil=>
  intro k x d t z hg hz
  simp only [aB,cz,au] at hg hz
  subst hg; subst hz
  exact ⟨fun e he=>.inl he,fun h=>h⟩
 | cons s p ih=>
  intro k x d t z hg hz
  cases s with
  | aZ n=>
   cases k with
   | st c=>
    simp only [aB,cz] at hg hz
    cases hcg:aS n c x with
    | none=>rw [hcg] at hg; simp at hg
    | some s=>
     rw [hcg] at hg hz
     simp only at hg hz
     cases hs':cz p s.1 s.2 t with
     | none=>rw [hs'] at hz; simp at hz
     | some u=>
      rw [hs'] at hz
      simp only at hz
      cases hcp:dF n c x u with
      | none=>rw [hcp] at hz; simp at hz
      | some y=>
       rw [hcp] at hz
       simp only [au] at hz
       subst hz
       obtain ⟨g1,g2⟩:=ih hg hs'
       obtain ⟨f1,f2⟩:=ahG (own:=own) n hcg hcp
       have hpt:az (.aZ n :: p) (.st c)=az p s.1:=by simp [az,lI n hcg]
       rw [hpt]
       exact ⟨fun e he=>(g1 e he).imp (f1 e) id,fun h=>f2 (g2 h)⟩
   | _=>simp [aB] at hg
  | idx i=>
   cases k with
   | sl e k=>
    simp only [aB,cz] at hg hz
    cases hs':cz p k ((show List (El k) from x).getD i.toNat k.zero) t with
    | none=>rw [hs'] at hz; simp at hz
    | some u=>
     rw [hs'] at hz
     simp only at hz
     cases hck:bU u.1 k u.2 with
     | none=>rw [hck] at hz; simp at hz
     | some y=>
      rw [hck] at hz
      simp only [au] at hz
      subst hz
      obtain ⟨g1,g2⟩:=ih hg hs'
      have huk:u.1=k:=by
       unfold bU at hck
       split at hck
       ·rename_i hb; exact K.eq_of_beq hb
       ·simp at hck
      refine ⟨fun e' he=>?_,fun _ e' he=>he⟩
      cases hm:aa e own with
      | false=>exact .inr ⟨e,by simp [az],hm⟩
      | true=>
       rcases g1 e' he with h | ⟨q,h1,h2⟩
       ·exact .inl (by simp only [bu,hm,gJ]; rw [<-huk]; exact h)
       ·exact .inr ⟨q,by simp [az,h1],h2⟩
   | _=>simp [aB] at hg
theorem ahB:∀(n:Nat) {c:K} {x y:El c} {s:Dat},aS n c x=some s->∃t:Dat,aS n c y=some t/\t.1=s.1:=by
 intro n
 induction n with
 | zero=>
  intro c x y s h
  cases c <;> first | (simp only [aS,au] at h; subst h; exact ⟨_,rfl,rfl⟩) | simp [aS] at h
 | succ n ih=>
  intro c x y s h
  cases c <;> first | exact ih h | simp [aS] at h
theorem ahC:∀(n:Nat) {c:K} {x:El c} {s:Dat},aS n c x=some s->∀t∈s.1.tys,t∈c.tys:=by
 intro n
 induction n with
 | zero=>
  intro c x s h t ht
  cases c with
  | pair a b=>simp only [aS,au] at h; subst h; simp [K.tys,ht]
  | _=>simp [aS] at h
 | succ n ih=>
  intro c x s h t ht
  cases c with
  | pair a b=>simp only [aS] at h; simp [K.tys,ih h t ht]
  | _=>simp [aS] at h
theorem NM {h h':Heap} {own:List TypeId}:∀(q:List Stp) {k:K} {x y:El k} {cs cs':List Value} {wh:Option (Nat×Nat)} {c0:List Value} {w0:Option (Nat×Nat)},
  bX q k x->(∀t∈az q k,aa t own=true/\t∉k.tys)->aT h q k cs wh=some (c0,w0)->bX q k y/\∃c1,aT h' q k cs' wh=some (c1,w0):=by
 intro q
 induction q with
 | nil=>
  intro k x y cs cs' wh c0 w0 _ _ hn
  simp only [aT,au,bS] at hn ⊢
  exact ⟨trivial,_,rfl,hn.2⟩
 | cons s q ih=>
  intro k x y cs cs' wh c0 w0 hp ht hn
  cases s with
  | aZ n=>
   cases k with
   | st c=>
    simp only [bX] at hp
    cases hg:aS n c x with
    | none=>rw [hg] at hp; exact hp.elim
    | some s=>
     rw [hg] at hp
     simp only at hp
     have hpt:az (.aZ n :: q) (.st c)=az q s.1:=by simp [az,lI n hg]
     rw [hpt] at ht
     obtain ⟨t,g1,g2⟩:=ahB n (c:=c) (x:=x) (y:=y) hg
     obtain ⟨sk,sx⟩:=s
     obtain ⟨tk,ty⟩:=t
     simp only at g2
     subst g2
     simp only [aT] at hn ⊢
     cases ho:bO n c with
     | none=>rw [ho] at hn; simp at hn
     | some q2=>
      rw [ho] at hn
      simp only at hn
      have hk2:q2.2=tk:=by
       have key:∀(n:Nat) {c:K} {x:El c} {s:Dat} {q:Nat×K},aS n c x=some s->bO n c=some q->q.2=s.1:=by
        intro n
        induction n with
        | zero=>intro c x s q h1 h2; cases c with
         | pair a b=>simp only [aS,bO,au] at h1 h2; subst h1; subst h2; rfl
         | _=>simp [aS] at h1
        | succ n ih=>intro c x s q h1 h2; cases c with
         | pair a b=>
          simp only [aS,bO] at h1 h2
          cases h3:bO n b with
          | none=>rw [h3] at h2; simp at h2
          | some q3=>rw [h3] at h2; simp only [au] at h2; subst h2; exact ih (q:=q3) h1 h3
         | _=>simp [aS] at h1
       exact key n hg ho
      obtain ⟨o2,k2⟩:=q2
      simp only at hk2
      subst hk2
      simp only [bX,g1]
      exact ih hp (fun t h=>⟨(ht t h).1,fun h2=>(ht t h).2 (ahC n hg t h2)⟩) hn
   | _=>simp [bX] at hp
  | idx i=>
   cases k with
   | sl e k=>exact absurd (by simp [K.tys]) (ht e (by simp [az])).2
   | _=>simp [bX] at hp
theorem Gf {h:Heap} {b o n:Nat} {arr:Array Value} {e:TypeId} {fr:Nat×Nat} (hb:h b=some (.cells arr e fr)) (hl:o+n<=arr.size):Cells h b o (iY h b o n):=by
 intro i hi
 simp only [iY,oQ,List.length_range] at hi ⊢
 rw [DZ,L_ hi]
 simp only [oU]
 unfold cellAt
 rw [hb]
 simp [show o+i<arr.size by omega]
theorem mM.widen {h0 h h':Heap} {b o n o' n':Nat} (H0:mM h0 h b o n) (H:mM h h' b o' n') (h1:o<=o') (h2:o'+n'<=o+n):mM h0 h' b o n:=by
 obtain ⟨a0,a1,e,fr,g1,g2,g3,g4⟩:=H0
 obtain ⟨b0,b1,e',fr',f1,f2,f3,f4⟩:=H
 rw [g2] at f1
 simp only [au,Obj.cells.injEq] at f1
 obtain ⟨rfl,rfl,rfl⟩:=f1
 exact ⟨a0,b1,e,fr,g1,f2,f3.trans g3,fun i hi=>(f4 i (by omega)).trans (g4 i hi)⟩
theorem mD {l m:List Tag} {t:Tag}:t∈lM l m↔t∈l\/t∈m:=by
 induction l with
 | nil=>simp [lM]
 | cons s l ih=>
  obtain ⟨r,n⟩:=s
  simp only [lM]
  cases h:m.any fun t=>Nat.beq t.1 r && Nat.beq t.2 n with
  | true=>
   simp only [gJ,ih,bT]
   constructor
   ·intro h; exact h.imp .inr id
   ·rintro ((h1 | h1) | h1)
    ·subst h1
     obtain ⟨t,h2,h3⟩:=List.any_eq_true.1 h
     simp only [bg] at h3
     obtain ⟨tr,tn⟩:=t
     have:=bC h3.1
     have:=bC h3.2
     simp_all
    ·exact .inl h1
    ·exact .inr h1
  | false=>simp only [kg,ih,bT,or_assoc]
theorem yC {r:Nat} {l:List Tag} {t:Tag}:t∈sj r l↔t∈l/\t.1≠r:=by
 unfold sj
 rw [eF]
 constructor
 ·rintro ⟨h1,h2⟩
  refine ⟨h1,fun e=>?_⟩
  rw [e] at h2
  simp at h2
 ·rintro ⟨h1,h2⟩
  refine ⟨h1, ?_⟩
  cases hb:Nat.beq t.1 r with
  | true=>exact absurd (bC hb) h2
  | false=>rfl
section
variable {cx:Cx} {Z:St} {J:aH} {F:List Nat} {a:Act} {w:World} {r:Nat} {R:Root}
theorem CW {T T':List Tag} {b:Nat} (h:bG cx Z J F w T b) (hs:∀t∈T,t∈T'):bG cx Z J F w T' b:=
 ⟨h.1,h.2.1,h.2.2.1,fun r R h1 h2=>by obtain ⟨n,hn⟩:=h.2.2.2.1 r R h1 h2; exact ⟨n,hs _ hn⟩,fun hb=>(h.2.2.2.2 hb).imp (fun ⟨j,n,h1,h2⟩=>⟨j,n,hs _ h1,h2⟩) id⟩
theorem BU {T T':List Tag} {tys acF:List TypeId} (h:cO Z tys T=true) (hs:∀t∈T',t∈T) (ht:∀t∈acF,t∈tys):cO Z acF T'=true:=by
 rw [zJ] at h ⊢
 intro t h1
 rcases h t (hs t h1) with h | ⟨R,h2,h3,h4⟩
 ·exact .inl h
 ·refine .inr ⟨R,h2,h3, ?_⟩
  unfold clean at h4 ⊢
  rw [eH] at h4 ⊢
  intro x hx
  have:=h4 x hx
  simp only [lC,gT] at this ⊢
  exact fun h=>this (ht x h)
theorem zU (H:Rel cx Z J F a w) (hr:aU Z r R) {b:Nat} (hb:b∈J.fo r):¬nV cx b:=by
 rintro ⟨j,pi,o,n,h1,h2⟩
 obtain ⟨Q,hQ,hk,hl,_⟩:=H.kM j pi b o n h1 h2
 have hbq:b∈blk J Q (ah j):=by simp [blk,aK,hk,hl]
 have hbr:b∈blk J R r:=bB _ hb
 by_cases e:r=ah j
 ·subst e
  have hQR:Q=R:=by have:=hQ.1; rw [hr.1] at this; simpa using this.symm
  subst hQR
  have hnd:=(H.roots _ _ hr).nd
  rw [jG,uR] at hnd
  exact hnd.1 b o (by simp [mX,hk,hl]) hb
 ·exact H.lQ _ _ _ _ hr hQ e b hbr hbq
theorem A7 (H:Rel cx Z J F a w) {b:Nat} (hb:b∈F):¬nV cx b:=by
 rintro ⟨j,pi,o,n,h1,h2⟩
 obtain ⟨Q,hQ,hk,hl,_⟩:=H.kM j pi b o n h1 h2
 have hbq:b∈blk J Q (ah j):=by simp [blk,aK,hk,hl]
 exact H.fB _ _ hQ b hbq hb
def je (R:Root) (z:Dat) (own:List TypeId) (tags:List Tag) (lw lh:List TypeId) (kp:Bool):Root:=
 { R with k:=z.1,x:=z.2,own:=own,tags:=tags,w:=lw++R.w,h:=lh++R.h,keep:=kp }
theorem xy (H:Rel cx Z J F a w) (hr:aU Z r R) (hv:cB Z R) {p:List Stp} {d:Dat} (hg:aB p R.k R.x=some d) (dh:bX p R.k R.x) (hown:∀t∈az p R.k,aa t R.own=true)
  {cs1:List Value} {b o:Nat} (hn:aT (hp w) p R.k (J.hdr r) (aK J R r)=some (cs1,some (b,o))) :
  Cells (hp w) b o cs1/\(∃aX,Ow (hp w) R.own (bG cx Z J F w R.tags) d.1 d.2 cs1 aX/\∀b∈aX,b∈J.fo r)/\b∈blk J R r/\(∃arr e lo hi,hp w b=some (.cells arr e (lo,hi))/\jq arr.size lo hi/\o+d.1.size<=arr.size/\((iV R p=e/\¬nV cx b)\/(nV cx b/\iV R p=SENT)))/\
   (∀b' o',aK J R r=some (b',o')->b=b'->o'<=o/\o+d.1.size<=o'+R.k.size):=by
 have K:=H.roots r R hr
 have hnd:=K.nd
 rw [jG,uR] at hnd
 obtain ⟨jy,aX,rest,cu,hn',hp1,hd1,hc1,hin,hnone,hup⟩:=focus p (K.ow hv) (fun b o e=>(K.mem b o e).1) hg dh hown hnd.2 (fun b o e=>hnd.1 b o e)
 rw [hn] at hn'
 simp only [au,bS] at hn'
 obtain ⟨rfl,rfl⟩:=hn'
 refine ⟨hc1 b o rfl,⟨aX,hd1,fun b hb=>hp1.mem_iff.2 (bK _ hb)⟩, ?_, ?_, ?_⟩
 ·rw [jG,mV]
  rcases hin b o rfl with ⟨_,o0,ew,_⟩ | ⟨h1,_⟩
  ·exact .inl ⟨o0,ew⟩
  ·exact .inr (hp1.mem_iff.2 (bB _ h1))
 ·rcases hin b o rfl with ⟨h0,o0,ew,h1,h2⟩ | ⟨h1,arr,e,lo,hi,h2,h3,h4,h5⟩
  ·obtain ⟨_,arr,e,lo,hi,g1,g2,g3,g4⟩:=K.mem b o0 ew
   refine ⟨arr,e,lo,hi,g1,g2,by omega, ?_⟩
   unfold iV
   rw [h0]
   simp only [List.getLastD_nil]
   unfold Root.bt
   cases hk:R.kind with
   | var t=>
    refine .inl ⟨(g4 t hk).symm, ?_⟩
    rintro ⟨j,pi,o',n',h1',h2'⟩
    obtain ⟨Q,hQ,Cv,hlQ,_⟩:=H.kM j pi b o' n' h1' h2'
    have hbq:b∈blk J Q (ah j):=by simp [blk,aK,Cv,hlQ]
    have hbr:b∈blk J R r:=by rw [jG,mV]; exact .inl ⟨o0,ew⟩
    by_cases e:r=ah j
    ·subst e
     have hQR:Q=R:=by have:=hQ.1; rw [hr.1] at this; simpa using this.symm
     subst hQR
     rw [hk] at Cv
     simp at Cv
    ·exact H.lQ _ _ _ _ hr hQ e b hbr hbq
   | par=>
    obtain ⟨j,pi,n,hj1,hj2,R_⟩:=H.sK r R hr hk
    have:(J.loc r).1=b:=by
     have:=ew
     unfold aK at this
     rw [hk] at this
     simp only [au] at this
     rw [this]
    exact .inr ⟨⟨j,pi,_,n,hj2,by rw [R_,this]⟩,rfl⟩
   | anon=>unfold aK at ew; rw [hk] at ew; simp at ew
   | dead=>unfold aK at ew; rw [hk] at ew; simp at ew
  ·refine ⟨arr,e,lo,hi,h2,h3,h5, .inl ⟨?_,zU H hr (hp1.mem_iff.2 (bB _ h1))⟩⟩
   unfold iV
   rw [Xf,h4]
   rfl
 ·intro b' o' ew e
  subst e
  rcases hin b o rfl with ⟨_,o0,Ra,h1,h2⟩ | ⟨h1,_⟩
  ·rw [ew] at Ra
   simp only [au,bS,true_and] at Ra
   subst Ra
   exact ⟨h1,h2⟩
  ·exact absurd (hp1.mem_iff.2 (bB _ h1)) (hnd.1 b o' ew)
end
end
section
open Go
variable [Fr]
section
variable {cx:Cx} {Z:St} {J:aH} {F:List Nat} {a:Act} {w:World} {r:Nat} {R:Root}
structure BH (cx:Cx) (Z:St) (J:aH) (F:List Nat) (w:World) (r:Nat) (R:Root) (p:List Stp) (d:Dat) (own':List TypeId) (cs1:List Value) (cu:Option (Nat×Nat)) (aX rest:List Nat)
  (t z:Dat) (tags':List Tag) (lw lh:List TypeId) (kp:Bool) (ft F':List Nat) (cs':List Value) (w':World):Prop where
 hz:cz p R.k R.x t=some z
 ht:t.1.size=d.1.size
 uh:∀e∈bu own' d.1,e∈bu own' t.1
 os:w'.os=w.os/\w'.tape=w.tape/\w'.output=w.output
 size:w.heap.size<=w'.heap.size
 qA:∀b,b<w.heap.size->hp w' b≠hp w b->b∈F\/(b∈aX/\∃e∈lw,jS (hp w) b=some e)\/(∃o,cu=some (b,o)/\iV R p∈lw)
 cells:∀b o,cu=some (b,o)->Cells (hp w') b o cs'/\mM (hp w) (hp w') b o d.1.size
 none:cu=none->cs'=cs1
 len:cs'.length=d.1.size
 log:lw≠[]\/lh≠[]
 tags:(∀t∈R.tags,t∈tags')/\gB Z tags'/\∀n,(r,n)∉tags'
 NN:∀b∈ft,b∈aX\/b∈F\/(w.heap.size<=b/\b<w'.heap.size)
 ajl:ft.Nodup
 newF:∀b∈F',b∈F\/(w.heap.size<=b/\b<w'.heap.size)\/(b∈aX/\∃e∈lw,jS (hp w) b=some e)
 acY:F'.Nodup
 ajk:∀b∈ft,b∉F'
 alH:kZ t.1=kZ d.1\/cu≠Option.none
 ajn:t.1=d.1\/(∀q',(aB q' t.1 t.2).isSome=true->(∀e∈az q' t.1,e∉lh)->az q' d.1=az q' t.1/\(aB q' d.1 d.2).isSome=true)\/jM∈lh
 nav:jM∉lh->Mm (hp w) (hp w') own' d.1 d.2 cs1 cu t cs' lh
 cont:∀J',iC cx Z J F w (aJ Z r (je R z own' tags' lw lh kp)) J' F' w' (kU r lw) (kU r lh)->(∀b∈blk J' (je R z own' tags' lw lh kp) r,(∃o,aK J R r=some (b,o))\/b∈ft\/b∈rest)->
  cB (aJ Z r (je R z own' tags' lw lh kp)) (je R z own' tags' lw lh kp)->Ow (hp w') own' (bG cx (aJ Z r (je R z own' tags' lw lh kp)) J' F' w' tags') t.1 t.2 cs' ft
theorem Rel.place (H:Rel cx Z J F a w) (hr:aU Z r R) (hv:cB Z R) {p:List Stp} {d:Dat} {own':List TypeId} (hg:aB p R.k R.x=some d) (dh:bX p R.k R.x)
  (hsub:∀t,aa t own'=true->aa t R.own=true) (hown:∀t∈az p R.k,aa t own'=true) :
  ∃fd ok' aX rest cs1 cu,aT (hp w) p R.k (J.hdr r) (aK J R r)=some (cs1,cu)/\(J.fo r).Perm (aX++rest++fd)/\Ow (hp w) own' ok' d.1 d.2 cs1 aX/\(∀b∈aX++rest,∃e∈R.k.tys,aa e own'=true/\jS (hp w) b=some e)/\
   ((∀t∈R.k.tys,aa t own'=aa t R.own)->fd=[]/\Ow (hp w) own' (bG cx Z J F w R.tags) d.1 d.2 cs1 aX)/\
   (∀b o,cu=some (b,o)->b∈rest\/∃o0,aK J R r=some (b,o0)/\o0<=o/\o+d.1.size<=o0+R.k.size)/\(∀b o,cu=some (b,o)->b∉aX)/\
   ∀{t z:Dat} {tags':List Tag} {lw lh:List TypeId} {kp:Bool} {ft F':List Nat} {cs':List Value} {w':World},BH cx Z J F w r R p d own' cs1 cu aX rest t z tags' lw lh kp ft F' cs' w'->
    ∃J',Rel cx (aJ Z r (je R z own' tags' lw lh kp)) J' F' a w'/\iC cx Z J F w (aJ Z r (je R z own' tags' lw lh kp)) J' F' w' (kU r lw) (kU r lh)/\(∀b∈blk J' (je R z own' tags' lw lh kp) r,(∃o,aK J R r=some (b,o))\/b∈ft\/b∈rest)/\
     (jM∉lh->cB (aJ Z r (je R z own' tags' lw lh kp)) (je R z own' tags' lw lh kp)->aT (hp w') p z.1 (J'.hdr r) (aK J' (je R z own' tags' lw lh kp) r)=some (cs',cu))/\∀b∈ft,b∈J'.fo r:=by
 have K:=H.roots r R hr
 have hnd:=K.nd
 rw [jG,uR] at hnd
 have hO:=K.ow hv
 obtain ⟨nS,fd,Su,YT,hfd0⟩:∃nS fd,(J.fo r).Perm (nS++fd)/\Ow (hp w) own' (fun b=>(bG cx Z J F w R.tags b\/b∈fd)/\∃t∈bu own' R.k,l9 (hp w) b t) R.k R.x (J.hdr r) nS/\((∀t∈R.k.tys,aa t own'=aa t R.own)->fd=[]):=by
  by_cases hall:∀t∈R.k.tys,aa t own'=aa t R.own
  ·exact ⟨J.fo r,[],by simp,tu _ (fun _ h=>h) (dY (fun _ _=>rfl) (fun _ h=>.inl h) (fun _ _=>rfl) (vv hall hO)),fun _=>rfl⟩
  ·obtain ⟨nS,fd,h1,h2⟩:=xU (own':=own') (fun t _ h=>hsub t h) hO
   exact ⟨nS,fd,h1,tu _ (fun _ h=>h) h2,fun h=>absurd h hall⟩
 have Sj:=Su.nodup hnd.2
 have akq:∀b,b∈J.fo r↔b∈nS\/b∈fd:=fun b=>by rw [Su.mem_iff,bW]
 obtain ⟨cs1,aX,rest,cu,hn,hp1,hd1,hc1,hin,hnone,hup⟩:=focus p YT (fun b o e=>(K.mem b o e).1) hg dh hown (cK.1 Sj).1 (fun b o e hb=>hnd.1 b o e ((akq b).2 (.inl hb)))
 have hpf:(J.fo r).Perm (aX++rest++fd):=Su.trans (sU _ hp1)
 have hfo:∀b,b∈J.fo r↔(b∈aX\/b∈rest)\/b∈fd:=fun b=>by rw [hpf.mem_iff,bW,bW]
 have EP:=hpf.nodup hnd.2
 have I9:=(cK.1 EP).1
 have alk:=zb YT
 have iH:∀b o,cu=some (b,o)->b∈rest\/∃o0,aK J R r=some (b,o0)/\o0<=o/\o+d.1.size<=o0+R.k.size:=by
  intro b o e
  rcases hin b o e with ⟨_,o0,ew,h1,h2⟩ | ⟨h1,_⟩
  ·exact .inr ⟨o0,ew,h1,h2⟩
  ·exact .inl h1
 have alu:∀b o,cu=some (b,o)->b∉aX:=by
  intro b o e hb
  rcases iH b o e with h | ⟨o0,ew,_⟩
  ·exact (cK.1 I9).2.2 b hb b h rfl
  ·exact hnd.1 b o0 ew ((hfo b).2 (.inl (.inl hb)))
 have als:∀b o,cu=some (b,o)->b∉fd:=by
  intro b o e hb
  rcases iH b o e with h | ⟨o0,ew,_⟩
  ·exact (cK.1 EP).2.2 b (bB _ h) b hb rfl
  ·exact hnd.1 b o0 ew ((hfo b).2 (.inr hb))
 refine ⟨fd,_,aX,rest,cs1,cu,hn,hpf,hd1,fun b hb=>alk b (hp1.mem_iff.2 hb), ?_,iH,alu, ?_⟩
 ·intro hall
  have h0:=hfd0 hall
  refine ⟨h0,dY (fun _ _=>rfl) (fun b hb=>?_) (fun _ _=>rfl) hd1⟩
  rcases hb.1 with hb | hb
  ·exact hb
  ·rw [h0] at hb; simp at hb
 intro t z tags' lw lh kp ft F' cs' w' P
 generalize hR':je R z own' tags' lw lh kp=R' at *
 have Ez:R'.k=z.1:=by rw [<-hR']; rfl
 have hkind:R'.kind=R.kind:=by rw [<-hR']; rfl
 have ake:R'.bY=false:=by rw [alE hkind]; exact hr.2
 have ajK:R'.own=own':=by rw [<-hR']; rfl
 have Y2:R'.tags=tags':=by rw [<-hR']; rfl
 have YZ:R'.g=R.g:=by rw [<-hR']; rfl
 have RL:R'.w=lw++R.w:=by rw [<-hR']; rfl
 have Y0:R'.h=lh++R.h:=by rw [<-hR']; rfl
 have hsz:z.1.size=R.k.size:=Us p hg P.ht P.hz
 have jV:∀b,b∈aX\/b∈rest\/b∈fd\/(∃o,aK J R r=some (b,o))->b∈blk J R r:=by
  intro b hb
  rw [jG,mV,hfo]
  rcases hb with h | h | h | h
  ·exact .inr (.inl (.inl h))
  ·exact .inr (.inl (.inr h))
  ·exact .inr (.inr h)
  ·exact .inl h
 have lJ:∀b∈blk J R r,b∉F:=fun b hb=>H.fB r R hr b hb
 have hblt:∀b∈blk J R r,b<w.heap.size:=fun b hb=>(K.mine b hb).1
 have RU:∀b∈blk J R r,b∉aX->b∉F':=fun b hb hno h=>by
  rcases P.newF b h with h | h | h
  ·exact lJ b hb h
  ·have:=hblt b hb; omega
  ·exact hno h.1
 have SB:∀b∈blk J R r,b∉aX->(∀o,cu≠some (b,o))->hp w' b=hp w b:=by
  intro b hb h1 h2
  refine kN fun hne=>?_
  rcases P.qA b (hblt b hb) hne with h | ⟨h,_⟩ | ⟨o,h,_⟩
  ·exact lJ b hb h
  ·exact h1 h
  ·exact h2 o h
 have akh:∀b∈fd,hp w' b=hp w b:=fun b hb=>SB b (jV b (.inr (.inr (.inl hb))))
  (fun h=>(cK.1 EP).2.2 b (bK _ h) b hb rfl) (fun o e=>als b o e hb)
 have ak5:∀b∈rest,cu.map (·.1)≠some b->hp w' b=hp w b:=fun b hb hne=>SB b (jV b (.inr (.inl hb)))
  (fun h=>(cK.1 I9).2.2 b h b hb rfl) (fun o e=>hne (by rw [e]; rfl))
 have Z4:∀b o,aK J R r=some (b,o)->cu.map (·.1)≠some b->hp w' b=hp w b:=fun b o e hne=>SB b (jV b (.inr (.inr (.inr ⟨o,e⟩))))
  (fun h=>hnd.1 b o e ((hfo b).2 (.inl (.inl h)))) (fun o e=>hne (by rw [e]; rfl))
 let hdr':=match aK J R r with
  | some (b0,o0)=>iY (hp w') b0 o0 R.k.size
  | none=>J.hdr r
 have hT1:vE cx Z J F w r R R' (ft++rest) F' w' lw lh:=by
  refine ⟨.inr ⟨RL,Y0,by rw [YZ]; exact bN _,hkind,fun _=>by rw [Ez]; exact hsz,P.log⟩,by rw [Y2]; exact P.tags.2,P.os,P.size, ?_, ?_, ?_,P.acY, ?_, ?_,fun _=>by rw [<-hR']; exact ⟨rfl,rfl⟩⟩
  ·intro b hb hne
   rcases P.qA b hb hne with h | ⟨h,h2⟩ | ⟨o,h,h2⟩
   ·exact .inl h
   ·exact .inr ⟨jV b (.inl h), .inr (.inl h2)⟩
   ·have hbb:b∈blk J R r:=jV b (by
     rcases iH b o h with h | ⟨o0,ew,_⟩
     ·exact .inr (.inl h)
     ·exact .inr (.inr (.inr ⟨o0,ew⟩)))
    refine .inr ⟨hbb, .inr ?_⟩
    rcases hin b o h with ⟨h0,o0,ew,_⟩ | ⟨_,arr,e,lo,hi,g1,_,g3,_⟩
    ·
     obtain ⟨_,arr,e,lo,hi,g1,g2,g3,g4⟩:=K.mem b o0 ew
     unfold iV at h2
     rw [h0] at h2
     simp only [List.getLastD_nil] at h2
     cases hk:R.kind with
     | var tv=>
      refine .inl ⟨tv, ?_, ?_⟩
      ·unfold Root.bt at h2; rw [hk] at h2; exact h2
      ·unfold jS; rw [g1]; simp [g4 tv hk]
     | par=>
      obtain ⟨j,pi,n,hj1,hj2,R_⟩:=H.sK r R hr hk
      have:(J.loc r).1=b:=by
       have:=ew
       unfold aK at this
       rw [hk] at this
       simp only [au] at this
       rw [this]
      exact .inr ⟨⟨j,pi,_,n,hj2,by rw [R_,this]⟩,fun e=>by rw [e] at h2; simp at h2⟩
     | anon=>unfold aK at ew; rw [hk] at ew; simp at ew
     | dead=>unfold aK at ew; rw [hk] at ew; simp at ew
    ·refine .inl ⟨e, ?_,by unfold jS; rw [g1]⟩
     unfold iV at h2
     rw [Xf,g3] at h2
     exact h2
  ·intro _ b hb
   rw [zG hkind,mV,bW] at hb
   rcases hb with ⟨o,h⟩ | h | h
   ·exact .inl (jV b (.inr (.inr (.inr ⟨o,h⟩))))
   ·rcases P.NN b h with h | h | h
    ·exact .inl (jV b (.inl h))
    ·exact .inr (.inl h)
    ·exact .inr (.inr h)
   ·exact .inl (jV b (.inr (.inl h)))
  ·intro b hb
   rcases P.newF b hb with h | h | h
   ·exact .inl h
   ·exact .inr (.inl h)
   ·exact .inr (.inr ⟨jV b (.inl h.1), .inr (.inl h.2)⟩)
  ·intro _ b hb
   rw [zG hkind,mV,bW] at hb
   rcases hb with ⟨o,h⟩ | h | h
   ·exact RU b (jV b (.inr (.inr (.inr ⟨o,h⟩)))) (fun h1=>hnd.1 b o h ((hfo b).2 (.inl (.inl h1))))
   ·exact P.ajk b h
   ·exact RU b (jV b (.inr (.inl h))) (fun h1=>(cK.1 I9).2.2 b h1 b h rfl)
  ·intro j pi b o n hj hb EX hne
   obtain ⟨Q,hQ,hk,hl,hs⟩:=H.kM j pi b o n hj hb
   have hQR:Q=R:=by have:=hQ.1; rw [<-EX,hr.1] at this; simpa using this.symm
   subst hQR
   have hwb:aK J Q r=some (b,o):=by unfold aK; rw [hk,EX,hl]
   have hbb:=jV b (.inr (.inr (.inr ⟨o,hwb⟩)))
   obtain ⟨_,_,_,_,_,f6⟩:=H.frame
   have h0:=f6 j pi b o n hj hb
   rcases P.qA b (hblt b hbb) hne with h | ⟨h,_⟩ | ⟨o',h,_⟩
   ·exact absurd h (lJ b hbb)
   ·exact absurd ((hfo b).2 (.inl (.inl h))) (hnd.1 b o hwb)
   ·rcases iH b o' h with h1 | ⟨o0,ew,h1,h2⟩
    ·exact absurd ((hfo b).2 (.inl (.inr h1))) (hnd.1 b o hwb)
    ·rw [hwb] at ew
     simp only [au,bS,true_and] at ew
     subst ew
     exact h0.widen (P.cells b o' h).2 h1 (by omega)
 have hT:=hT1.turn (hdr':=hdr') H hr
 have hblk':∀b∈blk (aR J r (J.loc r) hdr' (ft++rest)) R' r,(∃o,aK J R r=some (b,o))\/b∈ft\/b∈rest:=by
  intro b hb
  rw [pR,zG hkind,mV,bW] at hb
  exact hb
 have hwhole:cB (aJ Z r R') R'->Ow (hp w') own' (bG cx (aJ Z r R') (aR J r (J.loc r) hdr' (ft++rest)) F' w' tags') z.1 z.2 hdr' (ft++rest)/\
   (jM∉lh->(t.1=d.1->z.1=R.k)/\Mm (hp w) (hp w') own' R.k R.x (J.hdr r) (aK J R r) z hdr' lh/\aT (hp w') p z.1 hdr' (aK J R r)=some (cs',cu)):=by
  intro hv'
  have hcont:=P.cont _ (by rw [hR']; exact hT) (by rw [hR']; exact hblk') (by rw [hR']; exact hv')
  rw [hR'] at hcont
  have uh:∀e∈bu own' R.k,e∈R'.qJ:=by
   unfold Root.qJ
   rw [ajK,Ez]
   exact (acJ p hg P.hz).2 P.uh
  have hc2:=hv'.2
  rw [Y2] at hc2
  obtain ⟨_,hV,_⟩:=hT.views H R.tags (bu own' R.k) (H.gy r R hr.1).1 (BU hc2 P.tags.1 uh)
  have hok:∀b,((bG cx Z J F w R.tags b\/b∈fd)/\∃t∈bu own' R.k,l9 (hp w) b t)->bG cx (aJ Z r R') (aR J r (J.loc r) hdr' (ft++rest)) F' w' tags' b/\hp w' b=hp w b:=by
   rintro b ⟨hb,hty⟩
   rcases hb with hb | hb
   ·obtain ⟨h1,h2⟩:=hV b hb (.inl hty)
    exact ⟨CW h1 P.tags.1,h2⟩
   ·have hbb:=jV b (.inr (.inr (.inl hb)))
    refine ⟨⟨xR (hblt b hbb) P.size,RU b hbb (fun h1=>(cK.1 EP).2.2 b (bK _ h1) b hb rfl),zU H hr ((hfo b).2 (.inr hb)), ?_, ?_⟩,akh b hb⟩
    ·intro q Q hq hbq
     exfalso
     rcases uo hq with ⟨rfl,rfl,_⟩ | ⟨e,hq'⟩
     ·rcases hblk' b hbq with ⟨o,h⟩ | h | h
      ·exact hnd.1 b o h ((hfo b).2 (.inr hb))
      ·rcases P.NN b h with h | h | h
       ·exact (cK.1 EP).2.2 b (bK _ h) b hb rfl
       ·exact lJ b hbb h
       ·have:=hblt b hbb; omega
      ·exact (cK.1 EP).2.2 b (bB _ h) b hb rfl
     ·rw [(lX (J:=J) (Z:=Z) (R:=R') e).blk] at hbq
      exact H.lQ _ _ _ _ hr hq' (Ne.symm e) b hbb hbq
    ·intro hb0
     rcases (K.mine b hbb).2 with h | ⟨j,pi,h1,h2⟩
     ·omega
     ·exact .inr ⟨j,pi,h1,h2⟩
  obtain ⟨csn,hl0,mg,hC',hN',hK'⟩:=hup.go (hp w') (bG cx (aJ Z r R') (aR J r (J.loc r) hdr' (ft++rest)) F' w' tags') t cs' ft z P.hz P.len hcont hok ak5 P.cells P.none Z4
  have Ze:csn=hdr':=by
   cases hw:aK J R r with
   | none=>
    have:hdr'=J.hdr r:=by simp only [hdr']; rw [hw]
    rw [this]
    exact hN' hw
   | some q=>
    have:hdr'=iY (hp w') q.1 q.2 R.k.size:=by simp only [hdr']; rw [hw]
    rw [this]
    have h1:=yH (hC' q.1 q.2 hw)
    rw [hl0,K.len] at h1
    exact h1.symm
  rw [Ze] at mg
  refine ⟨mg,fun fC=>?_⟩
  have:=hK' lh P.ht (P.nav fC)
  rw [Ze] at this
  exact ⟨this.1,this.2.2⟩
 refine ⟨aR J r (J.loc r) hdr' (ft++rest),hT1.rel H hr ?_ ?_ ?_,hT,hblk',fun hgn hv'=>by
  have h3:=((hwhole hv').2 hgn).2.2
  have Je:aK (aR J r (J.loc r) hdr' (ft++rest)) R' r=aK J R r:=by rw [wC,F9 hkind, <-Az]
  have Cu:(aR J r (J.loc r) hdr' (ft++rest)).hdr r=hdr':=by simp [aR,upd_same]
  rw [Je,Cu]
  exact h3,fun b hb=>by
  have akp:(aR J r (J.loc r) hdr' (ft++rest)).fo r=ft++rest:=by simp [aR,upd_same]
  rw [akp]
  exact bK _ hb⟩
 ·intro _
  refine ⟨fun hv'=>?_, ?_, ?_, ?_⟩
  ·have:=(hwhole hv').1
   subst hR'
   exact this
  ·rw [Ez,hsz]
   simp only [hdr']
   cases hw:aK J R r with
   | none=>exact K.len
   | some q=>simp [iY]
  ·intro b o hb
   rw [F9 hkind, <-Az] at hb
   have hh:hdr'=iY (hp w') b o R.k.size:=by simp only [hdr']; rw [hb]
   obtain ⟨_,arr,e,lo,hi,g1,g2,g3,g4⟩:=K.mem b o hb
   have hnew:∃gG,hp w' b=some (.cells gG e (lo,hi))/\gG.size=arr.size:=by
    by_cases hbw:cu.map (·.1)=some b
    ·cases SH:cu with
     | none=>rw [SH] at hbw; simp at hbw
     | some q=>
      rw [SH] at hbw
      simp only [oU,au] at hbw
      obtain ⟨a1,a2,te,fr,f1,f2,f3,_⟩:=(P.cells q.1 q.2 SH).2
      rw [hbw] at f1 f2
      rw [g1] at f1
      simp only [au,Obj.cells.injEq] at f1
      obtain ⟨rfl,rfl,rfl⟩:=f1
      exact ⟨a2,f2,f3⟩
    ·exact ⟨arr,(Z4 b o hb hbw).trans g1,rfl⟩
   obtain ⟨gG,f1,f2⟩:=hnew
   refine ⟨?_,gG,e,lo,hi,f1,by rw [f2]; exact g2,by rw [f2,Ez,hsz]; exact g3,fun tv hk=>g4 tv (hkind▸hk)⟩
   rw [hh]
   exact Gf f1 (by rw [f2]; exact g3)
  ·rw [zG hkind,uR]
   refine ⟨fun b o hb h=>?_,cK.2 ⟨P.ajl,(cK.1 I9).2.1,fun b h1 c h2 e=>?_⟩⟩
   ·have hbb:=jV b (.inr (.inr (.inr ⟨o,hb⟩)))
    rcases bW.1 h with h | h
    ·rcases P.NN b h with h | h | h
     ·exact hnd.1 b o hb ((hfo b).2 (.inl (.inl h)))
     ·exact lJ b hbb h
     ·have:=hblt b hbb; omega
    ·exact hnd.1 b o hb ((hfo b).2 (.inl (.inr h)))
   ·subst e
    have hbb:=jV b (.inr (.inl h2))
    rcases P.NN b h1 with h | h | h
    ·exact (cK.1 I9).2.2 b h b h2 rfl
    ·exact lJ b hbb h
    ·have:=hblt b hbb; omega
 ·intro _ q n v hn' hold
  refine ⟨hold.1, ?_⟩
  intro Q hQ oL hcl hty hsome
  have hQ':Q=R':=by
   rw [fE] at hQ
   simpa using hQ.symm
  subst hQ'
  have Je:aK (aR J r (J.loc r) hdr' (ft++rest)) Q r=aK J R r:=by rw [wC,F9 hkind, <-Az]
  have Cu:(aR J r (J.loc r) hdr' (ft++rest)).hdr r=hdr':=by simp [aR,upd_same]
  rw [Je,Cu]
  rw [Y0,Eu hn'] at hcl
  by_cases hq:q=[]
  ·subst hq
   obtain ⟨_,cs,b,o,h1,h2⟩:=hold.2 R hr.1 hv (by simp [clean,iW,aa]) (fun t ht=>by simp [az] at ht) rfl
   simp only [aT,au,bS] at h1
   exact ⟨trivial,hdr',b,o,by simp only [aT]; rw [h1.2],h2⟩
  ·have hpt:∀k,iW q k=jM :: az q k:=by
    intro k
    cases q with
    | nil=>exact absurd rfl hq
    | cons s q=>rfl
   rw [hpt] at hcl
   have hgn:jM∉lh:=fun hm=>hcl.1 jM hm (by simp)
   obtain ⟨hk,hnk,_⟩:=(hwhole oL).2 hgn
   subst hR'
   have ZM:az q R.k=az q z.1/\(aB q R.k R.x).isSome=true:=by
    rcases P.ajn with h | h | h
    ·have hk:=hk h
     obtain ⟨zk,zx⟩:=z
     simp only at hk
     subst hk
     exact ⟨rfl,by rw [EH q (y:=zx)]; exact hsome⟩
    ·exact acy (bad:=lh) p q hg P.hz h hsome (fun e he hm=>hcl.1 e hm (jD _ he))
    ·exact absurd h hgn
   have hpe:az q (je R z own' tags' lw lh kp).k=az q R.k:=ZM.1.symm
   rw [hpe] at hcl hty
   have akb:∀t∈lh,t∉jM :: az q R.k:=hcl.1
   obtain ⟨g1,cs,b,o,g2,g3⟩:=hold.2 R hr.1 hv (by rw [hpt]; exact hcl.2) (fun t ht=>hsub t (hty t ht)) ZM.2
   obtain ⟨f1,c1,f2⟩:=hnk q cs (some (b,o)) g1 (fun t ht=>⟨hty t ht,fun h=>akb t h (jD _ ht)⟩) g2 hsome
   exact ⟨f1,c1,b,o,f2,g3⟩
 ·intro _ g v hg' hold Q hQ Nh
  obtain ⟨hQ',_⟩:=pq hQ
  subst hQ'
  obtain ⟨h1,h2⟩:=hold R hr (YZ▸Nh)
  have hw:aK J R r=none:=by unfold aK; rw [h1]
  have hh:hdr'=J.hdr r:=by simp only [hdr']; rw [hw]
  have Cu:(aR J r (J.loc r) hdr' (ft++rest)).hdr r=hdr':=by simp [aR,upd_same]
  rw [Cu,hh,hkind]
  refine ⟨h1, ?_⟩
  rw [Ez]
  refine (Xt ?_).2 h2
  by_cases hp:p=[]
  ·subst hp
   have hz:=P.hz
   simp only [cz,aB,au] at hz hg
   subst hz
   rcases P.alH with h | h
   ·rw [h, <-hg]
   ·simp only [aT,au,bS] at hn
    rw [<-hn.2,hw] at h
    exact absurd rfl h
  ·exact ab_ hp P.hz
end
end
section
open Go
variable [Fr]
theorem Cj:∀{k:K},k.flat=true->k.tys=[]:=by
 intro k
 induction k with
 | sl e k ih=>intro h; simp [K.flat] at h
 | gap n=>intro h; simp [K.flat] at h
 | pair a b iha ihb=>intro h; simp only [K.flat,bg] at h; simp [K.tys,iha h.1,ihb h.2]
 | st f ih=>intro h; exact ih h
 | _=>intro _; rfl
theorem agG {h h':Heap} {own own':List TypeId} {ok ok':Nat->Prop}:∀{k:K} {x:El k} {cs:List Value} {fo:List Nat},k.flat=true->Ow h own ok k x cs fo->fo=[]/\Ow h' own' ok' k x cs []:=by
 intro k
 induction k with
 | sl e k ih=>intro x cs fo h; simp [K.flat] at h
 | gap n=>intro x cs fo h; simp [K.flat] at h
 | pair a b iha ihb=>
  intro x cs fo h H
  simp only [K.flat,bg] at h
  obtain ⟨c1,c2,f1,f2,e,hp,h1,h2⟩:=H
  obtain ⟨g1,k1⟩:=iha h.1 h1
  obtain ⟨g2,k2⟩:=ihb h.2 h2
  subst g1; subst g2
  exact ⟨hp.eq_nil,c1,c2,[],[],e, .refl _,k1,k2⟩
 | st f ih=>intro x cs fo h H; exact ih (x:=x) h H
 | int ik=>intro x cs fo _ H; exact ⟨H.1,rfl,H.2⟩
 | bool=>intro x cs fo _ H; exact ⟨H.1,rfl,H.2⟩
 | id e=>intro x cs fo _ H; exact ⟨H.1,rfl,H.2⟩
 | str=>intro x cs fo _ H; exact ⟨H.1,rfl,H.2⟩
 | unit=>intro x cs fo _ H; exact ⟨H.1,rfl,H.2⟩
theorem alz {ik:IntKind} {n:Int} (h:Fe ik n=true):mG ik n:=by
 cases ik <;> simp_all [Fe,mG,Fe.Int.blt,Fe.Int.ble]
theorem jl {a b:K} {x:El a} {y:El b} (h:bU a b x=some y):∃e:a=b,y=e▸x:=by
 unfold bU at h
 split at h
 ·rename_i hb
  simp only [au] at h
  exact ⟨K.eq_of_beq hb,h.symm⟩
 ·simp at h
section
variable {A:Type} {cx:Cx} {Z:St} {J:aH} {F:List Nat} {a:Act} {w:World} {z:A}
theorem tN {k:Prog A} {tys:List TypeId}:∀{T:List Tag},(rY T tys k).ends Z z->cO Z tys T=true/\k.ends Z z:=by
 intro T
 induction T with
 | nil=>intro h; exact ⟨rfl,h⟩
 | cons t T ih=>
  obtain ⟨r,n⟩:=t
  intro h
  simp only [rY] at h
  cases he:gZ r with
  | true=>
   rw [he] at h
   obtain ⟨h1,h2⟩:=ih h
   exact ⟨by simp [cO,he,h1],h2⟩
  | false=>
   rw [he] at h
   simp only [kg,Prog.ends] at h
   cases hr:Z.roots r with
   | none=>rw [hr] at h; exact h.elim
   | some R=>
    rw [hr] at h
    simp only at h
    cases hc:(!R.bY && clean R.w n tys) with
    | false=>rw [hc] at h; exact h.elim
    | true=>
     rw [hc] at h
     obtain ⟨h1,h2⟩:=ih h
     exact ⟨by simp only [cO,he,hr,kg]; rw [hc,h1]; rfl,h2⟩
theorem iQ {r:Nat} {k:Root->Prog A} (h:(jo r k).ends Z z):∃R,aU Z r R/\cB Z R/\(k R).ends Z z:=by
 unfold jo at h
 simp only [Prog.ends] at h
 cases hr:Z.roots r with
 | none=>rw [hr] at h; exact h.elim
 | some R=>
  rw [hr] at h
  simp only at h
  cases hd:R.bY with
  | true=>rw [hd] at h; exact h.elim
  | false=>
   rw [hd] at h
   obtain ⟨h1,h2⟩:=tN h
   exact ⟨R,⟨hr,hd⟩,⟨hd,h1⟩,h2⟩
theorem al5 (v:Value):aW cx Z J F w (Jt v) v/\dQ Z (Jt v):=by
 unfold Jt
 split
 ·rename_i k n
  cases h:Fe k n with
  | true=>exact ⟨fun _=>⟨[.int k n],⟨rfl,by simp⟩,rfl,alz h⟩,fun t ht=>by simp at ht⟩
  | false=>exact ⟨trivial,trivial⟩
 ·exact ⟨fun _=>⟨_,⟨rfl,by simp⟩,rfl⟩,fun t ht=>by simp at ht⟩
 ·rename_i s
  exact ⟨fun _=>⟨_,⟨rfl,by simp⟩,s,rfl,rfl⟩,fun t ht=>by simp at ht⟩
 ·exact ⟨⟨none,rfl⟩,trivial⟩
 ·exact ⟨rfl,trivial⟩
 ·exact ⟨trivial,trivial⟩
theorem EA (H:Rel cx Z J F a w) {x:Operand} {k:gM->Prog A} (h:(uL x k).ends Z z):∃v1,jv cx Z J F w v1 (a.eval x)/\nu Z v1/\(k v1).ends Z z:=by
 cases x with
 | tmp t=>exact ⟨Z.slots t,H.slots t,H.sP t,h⟩
 | const v=>obtain ⟨h1,h2⟩:=al5 (cx:=cx) (Z:=Z) (J:=J) (F:=F) (w:=w) v; exact ⟨.one (Jt v),h1,h2,h⟩
 | func f=>exact ⟨.one (.fn f []),⟨[],rfl,trivial⟩,fun c hc=>by simp at hc,h⟩
 | global g=>exact h.elim
theorem jT (H:Rel cx Z J F a w) {x:Operand} {k:AV->Prog A} (h:(eP x k).ends Z z):∃v1,aW cx Z J F w v1 (a.eval x)/\dQ Z v1/\(k v1).ends Z z:=by
 obtain ⟨v1,h1,h2,h3⟩:=EA H h
 cases v1 with
 | one v=>exact ⟨v,h1,h2,h3⟩
 | mH l=>exact h3.elim
 | lit _ _ _=>exact h3.elim
def evs (a:Act) (l:List (Nat×Operand)):List (Nat×Value):=l.map fun p=>(p.1,a.eval p.2)
theorem Q_ (H:Rel cx Z J F a w):∀{l:List (Nat×Operand)} {k:List (Nat×AV)->Prog A},(xg l k).ends Z z->
  ∃vs:List (Nat×AV),vs.map (·.1)=l.map (·.1)/\iN cx Z J F w (vs.map (·.2)) ((evs a l).map (·.2))/\(∀v∈vs,dQ Z v.2)/\(k vs).ends Z z:=by
 intro l
 induction l with
 | nil=>intro k h; exact ⟨[],rfl,trivial,by simp,h⟩
 | cons p l ih=>
  obtain ⟨n,x⟩:=p
  intro k h
  simp only [xg] at h
  obtain ⟨v,h1,h2,h3⟩:=jT H h
  obtain ⟨vs,g1,g2,g3,g4⟩:=ih h3
  exact ⟨(n,v) :: vs,by simp [g1],⟨h1,g2⟩,by simpa using ⟨h2,fun a b hb=>g3 (a,b) hb⟩,g4⟩
theorem xe (H:Rel cx Z J F a w):∀{l:List Operand} {k:List AV->Prog A},(o8 l k).ends Z z->
  ∃vs:List AV,iN cx Z J F w vs (l.map a.eval)/\(∀v∈vs,dQ Z v)/\(k vs).ends Z z:=by
 intro l
 induction l with
 | nil=>intro k h; exact ⟨[],trivial,by simp,h⟩
 | cons x l ih=>
  intro k h
  simp only [o8] at h
  obtain ⟨v,h1,h2,h3⟩:=jT H h
  obtain ⟨vs,g2,g3,g4⟩:=ih h3
  exact ⟨v :: vs,⟨h1,g2⟩,by simpa using ⟨h2,g3⟩,g4⟩
theorem Ar {ik:IntKind} {n:Int} {T:List Tag} {v:Value} (h:aW cx Z J F w (.val (.int ik) n T) v):v=.int ik n/\mG ik n:=by
 obtain ⟨cs,h1,h2,h3⟩:=h (.inl rfl)
 obtain ⟨h5,_⟩:cs=[v]/\_:=h1
 rw [h5] at h2
 simp only [jw,eX] at h2
 exact ⟨h2,h3⟩
theorem F7 {b:Bool} {T:List Tag} {v:Value} (h:aW cx Z J F w (.val .bool b T) v):v=.bool b:=by
 obtain ⟨cs,h1,h2⟩:=h (.inl rfl)
 obtain ⟨h5,_⟩:cs=[v]/\_:=h1
 have h2':cs=[.bool b]:=h2
 rw [h5] at h2'
 simpa using h2'
theorem Au {s:List Int} {T:List Tag} {v:Value} (h:aW cx Z J F w (.val .str s T) v):∃B:ByteArray,v=.string B/\s=bytesOf B:=by
 obtain ⟨cs,h1,B,h2,h3⟩:=h (.inl rfl)
 obtain ⟨h5,_⟩:cs=[v]/\_:=h1
 rw [h5] at h2
 simp only [jw,eX] at h2
 exact ⟨B,h2,h3⟩
theorem TD {ik:IntKind} {n:Int} {T:List Tag} (h:mG ik n):aW cx Z J F w (.val (.int ik) n T) (.int ik n):=fun _=>⟨[.int ik n],⟨rfl,by simp⟩,rfl,h⟩
theorem aml {b:Bool} {T:List Tag}:aW cx Z J F w (.val .bool b T) (.bool b):=fun _=>⟨[.bool b],⟨rfl,by simp⟩,rfl⟩
theorem TE {B:ByteArray} {T:List Tag}:aW cx Z J F w (.val .str (bytesOf B) T) (.string B):=fun _=>⟨[.string B],⟨rfl,by simp⟩,B,rfl,rfl⟩
theorem Im {x:AV} {v:Value} {k:IntKind->Int->Prog A} (hx:aW cx Z J F w x v) (h:(asInt x k).ends Z z):∃ik n,v=.int ik n/\mG ik n/\(k ik n).ends Z z:=by
 unfold asInt at h
 split at h
 ·rename_i ik n T
  obtain ⟨h1,h2⟩:=Ar hx
  exact ⟨ik,n,h1,h2,h⟩
 ·exact h.elim
theorem XK {x:AV} {v:Value} {k:Bool->Prog A} (hx:aW cx Z J F w x v) (h:(asBool x k).ends Z z):∃b,v=.bool b/\(k b).ends Z z:=by
 unfold asBool at h
 split at h
 ·rename_i b T
  exact ⟨b,F7 hx,h⟩
 ·exact h.elim
theorem bG.q {T:List Tag} {b:Nat} (h:bG cx Z J F w T b):mE Z J F w T b:=⟨h.1,h.2.1,h.2.2.2.1⟩
theorem amA {T T':List Tag} {b:Nat} (h:mE Z J F w T b) (hs:∀t∈T,t∈T'):mE Z J F w T' b:=
 ⟨h.1,h.2.1,fun r R h1 h2=>by obtain ⟨n,hn⟩:=h.2.2 r R h1 h2; exact ⟨n,hs _ hn⟩⟩
variable {r:Nat} {R:Root}
theorem agI {h:Heap} {own:List TypeId} {ok:Nat->Prop}:∀{k:K} {x:El k} {cs:List Value} {fo:List Nat},(∀t∈k.tys,aa t own=false)->Ow h own ok k x cs fo->fo=[]:=by
 intro k
 induction k with
 | sl e k ih=>
  intro x cs fo h H
  unfold Ow at H
  rw [aA (by rw [h e (by simp [K.tys])]; exact qM)] at H
  exact H.1
 | pair a b iha ihb=>
  intro x cs fo h H
  obtain ⟨c1,c2,f1,f2,e,hp,h1,h2⟩:=H
  rw [iha (fun t ht=>h t (by simp [K.tys,ht])) h1,ihb (fun t ht=>h t (by simp [K.tys,ht])) h2] at hp
  exact hp.eq_nil
 | st f ih=>intro x cs fo h H; exact ih (x:=x) h H
 | _=>intro x cs fo _ H; exact H.1
theorem NT (R:Root) (r:Nat) {k:K} (hk:k.flat=false):R.out r k=(r,dS R.w) :: R.tags\/(R.out r k=R.tags/\∀t∈k.tys,aa t R.own=false):=by
 unfold Root.out
 rw [hk,kg]
 cases h:k.tys.any fun t=>aa t R.own with
 | true=>exact .inl rfl
 | false=>
  refine .inr ⟨rfl,fun t ht=>?_⟩
  have:=List.any_eq_false.1 h t ht
  simpa using this
theorem amI (H:Rel cx Z J F a w) (hr:aU Z r R) {k:K} (hk:R.out r k=(r,dS R.w) :: R.tags) {b:Nat} (hb:b∈J.fo r):bG cx Z J F w (R.out r k) b:=by
 have hbb:b∈blk J R r:=bB _ hb
 have hm:=(H.roots r R hr).mine b hbb
 refine ⟨hm.1,H.fB r R hr b hbb,zU H hr hb,fun q Q hq hbq=>?_,fun h0=>?_⟩
 ·by_cases e:q=r
  ·subst e
   exact ⟨dS R.w,by rw [hk]; simp⟩
  ·exact absurd hbb (H.lQ q Q r R hq hr e b hbq)
 ·rcases hm.2 with h | ⟨j,pi,h1,h2⟩
  ·omega
  ·exact .inr ⟨j,pi,h1,h2⟩
theorem aa4 {k:K} (hk:k.flat=false):∀t∈R.tags,t∈R.out r k:=fun t ht=>by
 rcases NT R r hk with h | ⟨h,_⟩ <;> rw [h]
 ·exact jD _ ht
 ·exact ht
theorem FJ (H:Rel cx Z J F a w) (hr:aU Z r R) (k:K):gB Z (R.out r k):=by
 intro t ht
 cases hk:k.flat with
 | true=>unfold Root.out at ht; rw [hk] at ht; simp at ht
 | false=>
  have h1:t=(r,dS R.w)\/t∈R.tags:=by
   rcases NT R r hk with h | ⟨h,_⟩ <;> rw [h] at ht
   ·exact bT.1 ht
   ·exact .inr ht
  rcases h1 with h | h
  ·subst h; exact .inr ⟨R,hr.1, .inr (bN _)⟩
  ·exact (H.gy r R hr.1).1 t h
theorem vZ (H:Rel cx Z J F a w) (hr:aU Z r R) {k:K} {x:El k} {cs:List Value} {aX:List Nat} (hO:Ow (hp w) R.own (bG cx Z J F w R.tags) k x cs aX) (hf:∀b∈aX,b∈J.fo r) :
  Vw (hp w) (bG cx Z J F w (R.out r k)) k x cs:=by
 cases hk:k.flat with
 | true=>exact ni hk (qp (fun _=>True) (fun _ _=>trivial) (fun _ _=>trivial) hO)
 | false=>
  rcases NT R r hk with ho | ⟨_,hn⟩
  ·exact qp _ (fun b hb=>CW hb (aa4 hk)) (fun b hb=>amI H hr ho (hf b hb)) hO
  ·exact qp _ (fun b hb=>CW hb (aa4 hk)) (fun b hb=>by rw [agI hn hO] at hb; simp at hb) hO
theorem wo (H:Rel cx Z J F a w) (hr:aU Z r R) (hv:cB Z R) {p:List Stp} {d:Dat} (hg:aB p R.k R.x=some d) (dh:bX p R.k R.x) (hown:∀t∈az p R.k,aa t R.own=true)
  {cs1:List Value} {cu:Option (Nat×Nat)} (hn:aT (hp w) p R.k (J.hdr r) (aK J R r)=some (cs1,cu)) :
  ∃aX,Ow (hp w) R.own (bG cx Z J F w R.tags) d.1 d.2 cs1 aX/\∀b∈aX,b∈J.fo r:=by
 have K:=H.roots r R hr
 have hnd:=K.nd
 rw [jG,uR] at hnd
 obtain ⟨jy,aX,rest,wh2,hn',hp1,hd1,hc1,hin,hnone,hup⟩:=focus p (K.ow hv) (fun b o e=>(K.mem b o e).1) hg dh hown hnd.2 (fun b o e=>hnd.1 b o e)
 rw [hn] at hn'
 simp only [au,bS] at hn'
 obtain ⟨rfl,rfl⟩:=hn'
 exact ⟨aX,hd1,fun b hb=>hp1.mem_iff.2 (bK _ hb)⟩
theorem qH {T:List Nat} {own:List Nat} (h:(T.all fun t=>aa t own)=true):∀t∈T,aa t own=true:=fun t ht=>eH.1 h t ht
theorem En (H:Rel cx Z J F a w) {x:AV} {v:Value} {k:(kk:K)->El kk->List Tag->Prog A} (hx:aW cx Z J F w x v) (hw:dQ Z x) (h:(qw x k).ends Z z) :
  ∃kk y T cs,VC kk v cs/\Vw (hp w) (bG cx Z J F w T) kk y cs/\gB Z T/\(k kk y T).ends Z z:=by
 cases x with
 | val kk y T=>
  obtain ⟨h1,h2⟩:=tN h
  obtain ⟨cs,h3,h4⟩:=hx (.inr h1)
  exact ⟨kk,y,T,cs,h3,h4,hw,h2⟩
 | ref r g=>
  obtain ⟨R,hr,hv,h⟩:=iQ h
  cases hg:Nat.beq R.g g with
  | false=>simp only [hg,kg] at h; exact h.elim
  | true=>
   simp only [hg,gJ] at h
   obtain ⟨h1,h2⟩:=hx R hr (bC hg)
   exact ⟨R.k,R.x,R.out r R.k,J.hdr r,h2,vZ H hr ((H.roots r R hr).ow hv) (fun _ h=>h),FJ H hr _,h⟩
 | dZ r p n=>
  obtain ⟨R,hr,hv,h⟩:=iQ h
  cases hg:Nat.beq R.dL n with
  | false=>simp only [hg,kg] at h; exact h.elim
  | true=>
   simp only [hg,gJ] at h
   cases fC:aB p R.k R.x with
   | none=>rw [fC] at h; exact h.elim
   | some d=>
    rw [fC] at h
    obtain ⟨h1,h2,cs,wh,h3,h4⟩:=hx R hr.1 hv (bC hg) d fC
    obtain ⟨aX,h5,h6⟩:=wo H hr hv fC h1 h2 h3
    exact ⟨d.1,d.2,R.out r d.1,cs,h4,vZ H hr h5 h6,FJ H hr _,h⟩
 | undef=>exact h.elim
 | fG=>exact h.elim
 | ptr r p n=>exact h.elim
 | fQ bt kk y T=>exact h.elim
 | lZ _ _ _ _=>exact h.elim
 | pz _=>exact h.elim
 | part _ _ _ _ _=>exact h.elim
 | nI _ _ _ _=>exact h.elim
 | sub _ _ _ _ _ _=>exact h.elim
 | sel _ _ _ _ _ _=>exact h.elim
 | app _ _ _ _=>exact h.elim
 | kG=>exact h.elim
 | fn f cs=>exact h.elim
theorem MC (H:Rel cx Z J F a w) {x:AV} {v:Value} {rd:Root->Nat->List Stp->Dat->Prog A} {ro:TypeId->Dat->List Tag->Prog A} (hx:aW cx Z J F w x v) (hw:dQ Z x) (h:(addrOf x rd ro).ends Z z) :
  (∃r R p d cs b o,aU Z r R/\cB Z R/\aB p R.k R.x=some d/\bX p R.k R.x/\(∀t∈az p R.k,aa t R.own=true)/\aT (hp w) p R.k (J.hdr r) (aK J R r)=some (cs,some (b,o))/\v=.pointer (some ⟨b,o,none⟩)/\(rd R r p d).ends Z z)\/
  (∃bt d T b o cs,gB Z T/\v=.pointer (some ⟨b,o,none⟩)/\Cells (hp w) b o cs/\Vw (hp w) (bG cx Z J F w T) d.1 d.2 cs/\mE Z J F w T b/\((bt=SENT/\∀t∈T,gZ t.1=true)\/(l9 (hp w) b bt/\¬nV cx b))/\(ro bt d T).ends Z z):=by
 cases x with
 | ptr r p n=>
  obtain ⟨R,hr,hv,h⟩:=iQ h
  cases hc:(clean R.h n (iW p R.k) && NU p R) with
  | false=>rw [hc] at h; exact h.elim
  | true=>
   rw [hc] at h
   simp only [gJ] at h
   simp only [bg] at hc
   cases fC:aB p R.k R.x with
   | none=>rw [fC] at h; exact h.elim
   | some d=>
    rw [fC] at h
    have hown:=qH hc.2
    obtain ⟨h1,cs,b,o,h2,h3⟩:=hx.2 R hr.1 hv hc.1 hown (by rw [fC]; rfl)
    exact .inl ⟨r,R,p,d,cs,b,o,hr,hv,fC,h1,hown,h2,h3,h⟩
 | fQ bt k y T=>
  obtain ⟨h1,h2⟩:=tN h
  obtain ⟨b,o,cs,e,hcs,hV,hok,hb⟩:=hx.2 h1
  exact .inr ⟨bt,⟨k,y⟩,T,b,o,cs,hw,e,hcs,hV,hok,hb,h2⟩
 | undef=>exact h.elim
 | fG=>exact h.elim
 | ref r g=>exact h.elim
 | dZ r p n=>exact h.elim
 | val kk y T=>exact h.elim
 | lZ _ _ _ _=>exact h.elim
 | pz _=>exact h.elim
 | part _ _ _ _ _=>exact h.elim
 | nI _ _ _ _=>exact h.elim
 | sub _ _ _ _ _ _=>exact h.elim
 | sel _ _ _ _ _ _=>exact h.elim
 | app _ _ _ _=>exact h.elim
 | kG=>exact h.elim
 | fn f cs=>exact h.elim
end
end
section
open Go
variable [Fr]
theorem oD (a b:List Wr):∀Z,aC (a++b) Z=aC b (aC a Z):=by
 induction a with
 | nil=>intro Z; rfl
 | cons w a ih=>intro Z; exact ih _
theorem Ou {own:List TypeId} {k:K}:∀(k0:K),(∀t∈k.tys,t∈k0.tys)->bu (k0.tys.filter fun t=>aa t own) k=bu own k:=by
 intro k0
 have key:∀t∈k0.tys,aa t (k0.tys.filter fun t=>aa t own)=aa t own:=by
  intro t ht
  cases h:aa t own with
  | true=>rw [b_,eF]; exact ⟨ht,h⟩
  | false=>
   rw [gT,eF]
   rintro ⟨_,h2⟩
   rw [h] at h2
   simp at h2
 induction k with
 | sl e k ih=>
  intro h
  simp only [bu]
  rw [key e (h e (by simp [K.tys])),ih (fun t ht=>h t (by simp [K.tys,ht]))]
 | pair a b iha ihb=>intro h; simp only [bu]; rw [iha (fun t ht=>h t (by simp [K.tys,ht])),ihb (fun t ht=>h t (by simp [K.tys,ht]))]
 | st f ih=>intro h; exact ih h
 | _=>intro _; rfl
theorem aaH {own:List TypeId} {k:K}:∀t∈k.tys,aa t (k.tys.filter fun t=>aa t own)=aa t own:=by
 intro t ht
 cases h:aa t own with
 | true=>rw [b_,eF]; exact ⟨ht,h⟩
 | false=>
  rw [gT,eF]
  rintro ⟨_,h2⟩
  rw [h] at h2
  simp at h2
theorem ahD {own:List TypeId}:∀(n:Nat) {c:K} {x:El c} {s:Dat},aS n c x=some s->∀t∈bu own s.1,t∈bu own c:=by
 intro n
 induction n with
 | zero=>
  intro c x s h t ht
  cases c with
  | pair a b=>simp only [aS,au] at h; subst h; simp [bu,ht]
  | _=>simp [aS] at h
 | succ n ih=>
  intro c x s h t ht
  cases c with
  | pair a b=>simp only [aS] at h; simp [bu,ih h t ht]
  | _=>simp [aS] at h
theorem Ov {own:List TypeId}:∀(p:List Stp) {k:K} {x:El k} {d:Dat},aB p k x=some d->(∀t∈az p k,aa t own=true)->∀t∈bu own d.1,t∈bu own k:=by
 intro p
 induction p with
 | nil=>intro k x d h _; simp only [aB,au] at h; subst h; exact fun _ h=>h
 | cons s p ih=>
  intro k x d h ht
  cases s with
  | aZ n=>
   cases k with
   | st c=>
    simp only [aB] at h
    cases hg:aS n c x with
    | none=>rw [hg] at h; simp at h
    | some s=>
     rw [hg] at h
     simp only at h
     have hpt:az (.aZ n :: p) (.st c)=az p s.1:=by simp [az,lI n hg]
     rw [hpt] at ht
     exact fun t h2=>ahD n (c:=c) hg t (ih h ht t h2)
   | _=>simp [aB] at h
  | idx i=>
   cases k with
   | sl e k=>
    simp only [aB] at h
    intro t h2
    have:=ih h (fun t h=>ht t (by simp [az,h])) t h2
    simp only [bu,ht e (by simp [az]),gJ]
    exact this
   | _=>simp [aB] at h
section
variable {cx:Cx} {Z:St} {J:aH} {F:List Nat} {a:Act} {w:World}
theorem bD {b:Bool} {A:Type} {x y:Prog A} {Z:St} {z:A} (h:(bif b then x else y).ends Z z):(b=true/\x.ends Z z)\/(b=false/\y.ends Z z):=by
 cases b with
 | true=>exact .inl ⟨rfl,h⟩
 | false=>exact .inr ⟨rfl,h⟩
theorem Xi {h:Heap} {own:List TypeId} {ok:Nat->Prop}:∀{k:K} {x:El k} {cs:List Value} {fo:List Nat},k.flat=true->Ow h own ok k x cs fo->fo=[]:=by
 intro k
 induction k with
 | sl e k ih=>intro x cs fo h; simp [K.flat] at h
 | gap n=>intro x cs fo h; simp [K.flat] at h
 | pair a b iha ihb=>
  intro x cs fo h H
  simp only [K.flat,bg] at h
  obtain ⟨c1,c2,f1,f2,e,hp,h1,h2⟩:=H
  rw [iha h.1 h1,ihb h.2 h2] at hp
  exact hp.eq_nil
 | st f ih=>intro x cs fo h H; exact ih (x:=x) h H
 | _=>intro x cs fo _ H; exact H.1
theorem agK {h:Heap} {own:List TypeId} {ok:Nat->Prop} {e:TypeId} {kk:K} {xs:List (El kk)} {b b':Option Addr} {n c hi:Nat} {fo:List Nat} (hf:kk.flat=true) (he:aa e own=true) (hn:hi<=n) (hb':b'=b)
  (H:Ow h own ok (.sl e kk) xs [.slice b n c] fo):Ow h own ok (.sl e kk) (show List (El kk) from xs.take hi) [.slice b' hi c] fo:=by
 unfold Ow at H ⊢
 rw [aj he] at H ⊢
 obtain ⟨a,n',c',e1,e2,e3,H⟩:=H
 simp only [jw,ou,eX] at e1
 obtain ⟨rfl,rfl,rfl⟩:=e1
 have hlen:(xs.take hi).length=hi:=by
  have:n=xs.length:=e2
  simp; omega
 refine ⟨b,hi,c,by rw [hb'],hlen.symm,by omega, ?_⟩
 rcases H with H | ⟨bb,o,arr,l,u,ea,hb,hfr,hs,ay,hl,hp,H⟩
 ·exact .inl H
 ·have h0:∀l∈ay,l=[]:=by
   intro l hl'
   obtain ⟨i,hi',rfl⟩:=sZ.1 hl'
   have hl:ay.length=xs.length:=hl
   obtain ⟨ds,_,h2⟩:=H i (by show i<xs.length; omega)
   have:=Xi hf h2
   rw [<-this]; simp [ig,hi']
  have hfl:ay.flatten=[]:=List.flatten_eq_nil_iff.2 h0
  have akl:(ay.take hi).flatten=[]:=List.flatten_eq_nil_iff.2 fun l hl'=>h0 l (Mg hl')
  refine .inr ⟨bb,o,arr,l,u,ea,hb,hfr,hs,ay.take hi,by show (ay.take hi).length=(xs.take hi).length; simp only [mZ]; rw [show ay.length=xs.length from hl],by rw [akl, <-hfl]; exact hp,fun i hi'=>?_⟩
  have hi2:i<(xs.take hi).length:=hi'
  have hi3:i<hi/\i<xs.length:=by simp at hi2; omega
  obtain ⟨ds,h1,h2⟩:=H i hi3.2
  refine ⟨ds,h1, ?_⟩
  have e1:(show List (El kk) from xs.take hi)[i]'hi'=xs[i]'hi3.2:=by
   show (xs.take hi)[i]=_
   simp
  have e2:(ay.take hi).getD i []=ay.getD i []:=by simp [ig,Ma,hi3.1]
  rw [e1,e2]
  exact h2
inductive rX (cx:Cx) (Z:St) (J:aH) (F:List Nat) (w:World) (v:Value) (tk:eU):Prop
 | held (hws:tk.ws=[]) (cs:List Value) (hv:VC tk.k v cs) (h:Held cx Z J F w tk.k tk.x tk.own tk.tags cs []) (hc:cO Z (bu tk.own tk.k) tk.tags=true)
 | ref (r:Nat) (R:Root) (hr:aU Z r R) (hv:cB Z R) (e:tk=⟨R.k,R.x,R.own,R.tags,[.r r none],R.keep⟩) (hk:R.kind=.anon) (hd:VC R.k v (J.hdr r))
 | gap (r:Nat) (R:Root) (p:List Stp) (d z:Dat) (hr:aU Z r R) (hv:cB Z R) (hg:aB p R.k R.x=some d) (hz:cz p R.k R.x (oI d)=some z) (dh:bX p R.k R.x)
   (hown:∀t∈az p R.k,aa t R.own=true) (hpv:p≠[]\/∃t,R.kind=.var t) (e:tk=⟨d.1,d.2,d.1.tys.filter (fun t=>aa t R.own),R.tags,[.r r (some (kJ R d z))],R.keep⟩)
   (hn:∃cs wh,aT (hp w) p R.k (J.hdr r) (aK J R r)=some (cs,wh)/\VC d.1 v cs)
 | cut (r:Nat) (R:Root) (cs:List Value) (hr:aU Z r R) (hv:cB Z R) (hk:R.kind=.anon) (e:tk.own=R.own/\tk.tags=R.tags/\tk.ws=[.r r none]/\tk.keep=R.keep) (hd:VC tk.k v cs) (hl:cs.length=tk.k.size)
   (uh:bu R.own tk.k=bu R.own R.k) (how:∀ok,Ow (hp w) R.own ok R.k R.x (J.hdr r) (J.fo r)->Ow (hp w) R.own ok tk.k tk.x cs (J.fo r))
theorem J3 {e:TypeId} {k:K} {c:Option Addr}:VC (.sl e k) (.slice c 0 0) [.slice c 0 0]:=⟨rfl,by simp⟩
theorem Ap {A:Type} {z:A} (H:Rel cx Z J F a w) {want:K} {x:AV} {v:Value} {k:eU->Prog A} (hx:aW cx Z J F w x v) (hw:dQ Z x) (h:(sN want x k).ends Z z) :
  ∃tk,rX cx Z J F w v tk/\(k tk).ends Z z:=by
 cases x with
 | val kk y T=>
  obtain ⟨h1,h2⟩:=tN h
  obtain ⟨cs,h3,h4⟩:=hx (.inr h1)
  have hty:∀t∈bu [] kk,t∈kk.tys:=fun t ht=>UU ht
  exact ⟨⟨kk,y,[],T,[],false⟩, .held rfl cs h3 ⟨fun _=>ze (fun t _=>rfl) h4,hw,fun b hb=>by simp at hb,mJ,nO h4⟩ (BU h1 (fun _ h=>h) hty),h2⟩
 | fG=>
  obtain ⟨c,rfl⟩:=hx
  unfold sN at h
  cases want with
  | sl e kk=>
   refine ⟨_, .held rfl [.slice c 0 0] J3 ⟨fun _=>?_,fun t ht=>by simp at ht,fun b hb=>by simp at hb,mJ,rfl⟩ rfl,h⟩
   unfold Ow
   rw [aj (by simp [aa])]
   exact ⟨c,0,0,rfl,rfl,bN _, .inl ⟨rfl,rfl⟩⟩
  | _=>exact h.elim
 | ref r g=>
  obtain ⟨R,hr,hv,h⟩:=iQ h
  cases hg:(Nat.beq R.g g && !R.fixed) with
  | false=>simp only [hg,kg] at h; exact h.elim
  | true=>
   simp only [hg,gJ] at h
   simp only [bg] at hg
   obtain ⟨h1,h2⟩:=hx R hr (bC hg.1)
   exact ⟨_, .ref r R hr hv rfl h1 h2,h⟩
 | dZ r p n=>
  obtain ⟨R,hr,hv,h⟩:=iQ h
  cases hg:Nat.beq R.dL n with
  | false=>simp only [hg,kg] at h; exact h.elim
  | true=>
   simp only [hg,gJ] at h
   cases fC:aB p R.k R.x with
   | none=>rw [fC] at h; exact h.elim
   | some d=>
    rw [fC] at h
    obtain ⟨h1,h2,cs,wh,h3,h4⟩:=hx R hr.1 hv (bC hg) d fC
    cases hc:(p.all Stp.kL && !R.fixed && (!p.isEmpty || R.isVar)) with
    | true=>
     simp only [hc,gJ] at h
     cases hga:xh R p d with
     | none=>rw [hga] at h; exact h.elim
     | some R'=>
      rw [hga] at h
      unfold xh at hga
      cases hz:cz p R.k R.x (oI d) with
      | none=>rw [hz] at hga; simp at hga
      | some zz=>
       rw [hz] at hga
       simp only [au] at hga
       subst hga
       simp only [bg,nZ] at hc
       refine ⟨_, .gap r R p d zz hr hv fC hz h1 h2 ?_ rfl ⟨cs,wh,h3,h4⟩,h⟩
       rcases hc.2 with h | h
       ·left; intro e; subst e; simp at h
       ·right
        unfold Root.isVar at h
        cases hk:R.kind with
        | var t=>exact ⟨t,rfl⟩
        | anon=>rw [hk] at h; simp at h
        | par=>rw [hk] at h; simp at h
        | dead=>rw [hk] at h; simp at h
    | false=>
     simp only [hc,kg] at h
     obtain ⟨aX,h5,h6⟩:=wo H hr hv fC h1 h2 h3
     have hV:=vZ H hr h5 h6
     obtain ⟨hc1,h⟩:=tN h
     exact ⟨⟨d.1,d.2,[],R.out r d.1,[],false⟩, .held rfl cs h4 ⟨fun _=>ze (fun t _=>rfl) hV,FJ H hr _,fun b hb=>by simp at hb,mJ,nO hV⟩ (BU hc1 (fun _ h=>h) (fun t ht=>UU ht)),h⟩
 | undef=>exact h.elim
 | ptr r p n=>exact h.elim
 | fQ bt kk y T=>exact h.elim
 | lZ _ _ _ _=>exact h.elim
 | pz _=>exact h.elim
 | part r g lo hi sz=>
  obtain ⟨R,hr,hv,h⟩:=iQ h
  rcases bD h with ⟨hg,h5⟩ | ⟨_,h5⟩
  ·clear h
   simp only [bg] at hg
   obtain ⟨b',b,n,c,e1,eb,e2,e3,e4,hrf⟩:=hx
   obtain ⟨h1,h2⟩:=hrf R hr (bC hg.1.1)
   have hlo:lo=0:=bC hg.2
   subst hlo
   have hK:∀q:Dat,(⟨R.k,R.x⟩:Dat)=q->(match q.1,q.2 with
     | .sl e kk,xs=>bif kk.flat && aa e R.own && Nat.beq kk.size sz then k ⟨.sl e kk,(show List (El kk) from xs).take hi,R.own,R.tags,[.r r none],R.keep⟩ else .fail
     | _,_=>Prog.fail).ends Z z->∃tk,rX cx Z J F w v tk/\(k tk).ends Z z:=by
    intro q hq hh0
    obtain ⟨qk,qx⟩:=q
    cases qk with
    | sl e kk=>
     simp only at hh0
     rcases bD hh0 with ⟨hc,hh⟩ | ⟨_,hh⟩
     ·clear hh0
      simp only [bg] at hc
      have hsz:kk.size=sz:=bC hc.2
      subst hsz
      have IV:VC (.sl e kk) (.slice b n c) (J.hdr r):=by
       have:=congrArg (fun q:Dat=>VC q.1 (.slice b n c) (J.hdr r)) hq
       exact cast this h2
      have hb0:b'=b:=by
       rw [eb (.inl rfl)]
       cases b with
       | none=>rfl
       | some ad=>obtain ⟨x,y,z⟩:=ad; simp [Addr.add]
      refine ⟨⟨.sl e kk,(show List (El kk) from qx).take hi,R.own,R.tags,[.r r none],R.keep⟩, .cut r R [.slice b' hi c] hr hv h1 ⟨rfl,rfl,rfl,rfl⟩ ⟨by rw [e1]; simp,by rw [e1]; simp⟩ rfl ?_ (fun ok hO=>?_),hh⟩
      ·exact congrArg (fun q:Dat=>bu R.own q.1) hq.symm
      ·have hO:=cast (congrArg (fun q:Dat=>Ow (hp w) R.own ok q.1 q.2 (J.hdr r) (J.fo r)) hq) hO
       simp only at hO
       rw [IV.1] at hO
       exact agK hc.1.1 hc.1.2 e3 hb0 hO
     ·exact hh.elim
    | _=>exact hh0.elim
   exact hK _ rfl h5
  ·exact h5.elim
 | nI _ _ _ _=>exact h.elim
 | sub _ _ _ _ _ _=>exact h.elim
 | sel _ _ _ _ _ _=>exact h.elim
 | app _ _ _ _=>exact h.elim
 | kG=>exact h.elim
 | fn f cs=>exact h.elim
def vg (cx:Cx) (Z:St) (J:aH) (F:List Nat) (w:World):List (Value×eU)->List (List Value×List Nat)->Prop
 | [],[]=>True
 | it :: l,h :: hs=>(VC it.2.k it.1 h.1/\Held cx Z J F w it.2.k it.2.x it.2.own it.2.tags h.1 h.2/\cO Z (bu it.2.own it.2.k) it.2.tags=true)/\vg cx Z J F w l hs
 | _,_=>False
def fu (l:List (Value×eU)):List Wr:=l.flatMap fun it=>it.2.ws
def nX (l:List (Value×eU)):List Tag:=l.flatMap fun it=>it.2.tags
theorem abS (a b:List Wr):(a++b).flatMap Wr.eT=a.flatMap Wr.eT++b.flatMap Wr.eT:=L6
theorem take1 (H:Rel cx Z J F a w) {v:Value} {tk:eU} (h:rX cx Z J F w v tk) :
  ∃J' F' cs fo lw lh,Rel cx (aC tk.ws Z) J' F' a w/\iC cx Z J F w (aC tk.ws Z) J' F' w lw lh/\VC tk.k v cs/\Held cx (aC tk.ws Z) J' F' w tk.k tk.x tk.own tk.tags cs fo/\
   cO (aC tk.ws Z) (bu tk.own tk.k) tk.tags=true/\(∀b∈F,b∈F')/\(∀b∈fo,b∉F)/\(∀q,q∉tk.ws.flatMap Wr.eT->Same Z J (aC tk.ws Z) J' q):=by
 cases h with
 | held hws cs hv hh hc=>
  rw [hws]
  exact ⟨J,F,cs,[],_,_,H,Fz H ⟨rfl,rfl,rfl⟩ (bN _) (fun _ _ h=>absurd rfl h) (fun b hb=>.inl hb) H.iq,hv,hh,hc,fun _ h=>h,fun b hb=>by simp at hb,fun q _=>vD ..⟩
 | ref r R hr hv e hk hd=>
  subst e
  obtain ⟨h1,h2,h3,h4⟩:=kill H hr hk hv
  refine ⟨_,_,J.hdr r,J.fo r,_,_,h1,h2,hd,h3,h4,fun b hb=>bB _ hb,fun b hb hF=>H.fB r R hr b (bB _ hb) hF, ?_⟩
  intro q hq
  have hq':q≠r:=by simpa [Wr.eT] using hq
  exact lX hq'
 | cut r R cs hr hv hk e hd hl uh how=>
  obtain ⟨e1,e2,e3,e4⟩:=e
  obtain ⟨h1,h2,h3,h4⟩:=kill H hr hk hv
  rw [e3]
  refine ⟨_,_,cs,J.fo r,_,_,h1,h2,hd, ?_, ?_,fun b hb=>bB _ hb,fun b hb hF=>H.fB r R hr b (bB _ hb) hF, ?_⟩
  ·rw [e1,e2]
   refine ⟨fun hc=>?_,h3.wt,h3.sub,h3.nd,hl⟩
   have:=h3.ow (by rw [<-uh]; exact hc)
   exact how _ this
  ·rw [e1,e2]
   show cO (aJ Z r iE) (bu R.own tk.k) R.tags=true
   rw [uh]; exact h4
  ·intro q hq
   have hq':q≠r:=by simpa [Wr.eT] using hq
   exact lX hq'
 | gap r R p d z hr hv hg hz dh hown hpv e hn=>
  subst e
  obtain ⟨cs,wh,hn1,hn2⟩:=hn
  obtain ⟨cs1,cu,aX,rest,g1,g2,g3,g4,g5,_⟩:=gap H hr hv hg hz dh hown hpv
  rw [hn1] at g1
  simp only [au,bS] at g1
  obtain ⟨rfl,rfl⟩:=g1
  have hcl:cO (aJ Z r (kJ R d z)) (bu R.own d.1) R.tags=true:=by
   rw [g5]
   exact BU hv.2 (fun _ h=>h) (Ov p hg hown)
  refine ⟨_,_,cs,aX,_,_,g2,g3,hn2, ?_, ?_,fun b hb=>bB _ hb, ?_, ?_⟩
  ·refine ⟨fun hc=>?_,g4.wt,g4.sub,g4.nd,g4.len⟩
   exact vv (fun t ht=>aaH t ht) (g4.ow (by rw [Ou d.1 (fun _ h=>h)] at hc; exact hc))
  ·show cO (aJ Z r (kJ R d z)) (bu (d.1.tys.filter fun t=>aa t R.own) d.1) R.tags=true
   rw [Ou d.1 (fun _ h=>h)]
   exact hcl
  ·intro b hb hF
   have:=g2.iq
   exact (cK.1 this).2.2 b hb b hF rfl
  ·intro q hq
   have hq':q≠r:=by simpa [Wr.eT] using hq
   exact lX hq'
theorem rZ {Z':St} {tys:List TypeId} {T:List Tag} (h:∀t∈T,Z'.roots t.1=Z.roots t.1):cO Z' tys T=cO Z tys T:=by
 induction T with
 | nil=>rfl
 | cons t T ih=>
  obtain ⟨q,n⟩:=t
  simp only [cO]
  rw [ih (fun t ht=>h t (by simp [ht])),h (q,n) (by simp)]
theorem rX.stays {Z':St} {J':aH} {F':List Nat} {lw lh:Nat->List Nat} {v:Value} {tk:eU} (h:rX cx Z J F w v tk) (H:Rel cx Z J F a w) (T:iC cx Z J F w Z' J' F' w lw lh)
  (hs:∀q,(q∈tk.ws.flatMap Wr.eT\/q∈tk.tags.map (·.1))->Same Z J Z' J' q):rX cx Z' J' F' w v tk:=by
 cases h with
 | held hws cs hv hh hc=>
  exact .held hws cs hv (hh.turn H T (fun b hb=>by simp at hb)) (by rw [rZ (fun t ht=>(hs t.1 (.inr (fI.2 ⟨t,ht,rfl⟩))).root)]; exact hc)
 | ref r R hr hv e hk hd=>
  subst e
  have hS:=hs r (.inl (by simp [Wr.eT]))
  refine .ref r R ((hS.live R).2 hr) ⟨hv.1, ?_⟩ rfl hk (by rw [hS.hdr]; exact hd)
  rw [rZ (fun t ht=>(hs t.1 (.inr (fI.2 ⟨t,ht,rfl⟩))).root)]
  exact hv.2
 | cut r R cs hr hv hk e hd hl uh how=>
  have hS:=hs r (.inl (by rw [e.2.2.1]; simp [Wr.eT]))
  refine .cut r R cs ((hS.live R).2 hr) ⟨hv.1, ?_⟩ hk e hd hl uh (by rw [hS.hdr,hS.fo]; exact how)
  rw [rZ (fun t ht=>(hs t.1 (.inr (fI.2 ⟨t,by rw [e.2.1]; exact ht,rfl⟩))).root)]
  exact hv.2
 | gap r R p d z hr hv hg hz dh hown hpv e hn=>
  subst e
  have hS:=hs r (.inl (by simp [Wr.eT]))
  refine .gap r R p d z ((hS.live R).2 hr) ⟨hv.1, ?_⟩ hg hz dh hown hpv rfl (by rw [hS.hdr,hS.wh]; exact hn)
  rw [rZ (fun t ht=>(hs t.1 (.inr (fI.2 ⟨t,ht,rfl⟩))).root)]
  exact hv.2
theorem vg.turn {Z':St} {J':aH} {F':List Nat} {lw lh:Nat->List Nat} (H:Rel cx Z J F a w) (T:iC cx Z J F w Z' J' F' w lw lh) (hF:∀b∈F,b∈F') :
  ∀{l:List (Value×eU)} {hs:List (List Value×List Nat)},(∀t∈nX l,Z'.roots t.1=Z.roots t.1)->vg cx Z J F w l hs->vg cx Z' J' F' w l hs
 | [],[],_,_=>trivial
 | it :: l,h :: hs,hr,hh=>by
  refine ⟨⟨hh.1.1,hh.1.2.1.turn H T (fun b hb=>⟨rfl,hF b (hh.1.2.1.sub b hb)⟩), ?_⟩,vg.turn H T hF (fun t ht=>hr t (by simp only [nX,kQ,bW]; exact .inr ht)) hh.2⟩
  rw [rZ (fun t ht=>hr t (by simp only [nX,kQ,bW]; exact .inl ht))]
  exact hh.1.2.2
 | [],_ :: _,_,h=>h.elim
 | _ :: _,[],_,h=>h.elim
theorem Il {l:List Nat}:Ei l=true↔l.Nodup:=by
 induction l with
 | nil=>simp [Ei]
 | cons n l ih=>simp [Ei,ih,gT]
theorem takes:∀(l:List (Value×eU)) {Z:St} {J:aH} {F:List Nat},Rel cx Z J F a w->(∀it∈l,rX cx Z J F w it.1 it.2)->((fu l).flatMap Wr.eT).Nodup->(∀t∈nX l,t.1∉(fu l).flatMap Wr.eT)->
  ∃J' F' hs,Rel cx (aC (fu l) Z) J' F' a w/\vg cx (aC (fu l) Z) J' F' w l hs/\(hs.flatMap (·.2)).Nodup/\(∀b∈hs.flatMap (·.2),b∉F)/\(∀b∈F,b∈F')/\
   (∀q,q∉(fu l).flatMap Wr.eT->Same Z J (aC (fu l) Z) J' q)/\
   (∀k x own tags cs fo,Held cx Z J F w k x own tags cs fo->Held cx (aC (fu l) Z) J' F' w k x own tags cs fo)/\Views cx Z J F w (aC (fu l) Z) J' F' w/\(∀t,yI Z t->yI (aC (fu l) Z) t)/\(∀q,Z.roots q=none->(aC (fu l) Z).roots q=none):=by
 intro l
 induction l with
 | nil=>intro Z J F H _ _ _; exact ⟨J,F,[],H,trivial,mJ,fun b hb=>by simp at hb,fun _ h=>h,fun q _=>vD ..,fun _ _ _ _ _ _ h=>h,fun T tys _ h=>⟨h,fun b hb _=>⟨hb,rfl⟩,fun b hb _=>⟨hb,rfl⟩⟩,fun _ h=>h,fun _ h=>h⟩
 | cons it l ih=>
  intro Z J F H hT hnd eZ
  have e1:fu (it :: l)=it.2.ws++fu l:=rfl
  have e2:nX (it :: l)=it.2.tags++nX l:=rfl
  rw [e1,abS] at hnd eZ
  rw [e2] at eZ
  obtain ⟨aI,F1,cs,fo,lw,lh,H1,T1,h1,h2,h3,h4,h5,h6⟩:=take1 H (hT it (by simp))
  have hnd':=cK.1 hnd
  obtain ⟨ku,F2,hs,H2,g1,g2,g3,g4,g5,g6,g7,g8,g9⟩:=ih H1 (fun it' hi=>(hT it' (by simp [hi])).stays H T1 (fun q hq=>by
   refine h6 q ?_
   rcases hq with hq | hq
   ·intro hq'
    exact hnd'.2.2 q hq' q (by
     rw [jZ] at hq ⊢
     obtain ⟨wr,hw1,hw2⟩:=hq
     exact ⟨wr,jZ.2 ⟨it',hi,hw1⟩,hw2⟩) rfl
   ·obtain ⟨t,ht,rfl⟩:=fI.1 hq
    intro hq'
    exact eZ t (bB _ (jZ.2 ⟨it',hi,ht⟩)) (bK _ hq'))) hnd'.2.1
   (fun t ht hq=>eZ t (bB _ ht) (bB _ hq))
  rw [e1,oD]
  have hq1:∀q,q∉(it.2.ws).flatMap Wr.eT++(fu l).flatMap Wr.eT->Same Z J (aC (fu l) (aC it.2.ws Z)) ku q:=by
   intro q hq
   simp only [bW,not_or] at hq
   have s1:=h6 q hq.1
   have s2:=g5 q hq.2
   exact ⟨s2.root.trans s1.root,s2.loc.trans s1.loc,s2.hdr.trans s1.hdr,s2.fo.trans s1.fo⟩
  refine ⟨ku,F2,(cs,fo) :: hs,H2,⟨⟨h1,g6 _ _ _ _ _ _ h2, ?_⟩,g1⟩, ?_, ?_,fun b hb=>g4 b (h4 b hb), ?_,fun k x own tags cs fo hh=>g6 _ _ _ _ _ _ (hh.turn H T1 (fun b hb=>⟨rfl,h4 b (hh.sub b hb)⟩)), ?_,fun t ht=>g8 t (T1.tag ht), ?_⟩
  ·rw [rZ (fun t ht=>(g5 t.1 (fun hq=>eZ t (bK _ ht) (bB _ hq))).root)]
   exact h3
  ·simp only [kQ]
   exact cK.2 ⟨h2.nd,g2,fun b hb c hc e=>g3 c hc (e▸h2.sub b hb)⟩
  ·intro b hb hF
   simp only [kQ,bW] at hb
   rcases hb with hb | hb
   ·exact h5 b hb hF
   ·exact g3 b hb (h4 b hF)
  ·rw [abS]
   exact hq1
  ·intro T tys hw hc
   obtain ⟨k1,k2,k3⟩:=g7 T tys (fun t ht=>T1.tag (hw t ht)) hc
   obtain ⟨j1,j2,j3⟩:=T1.views H T tys hw k1
   refine ⟨j1,fun b hb ht=>?_,fun b hb ht=>?_⟩
   ·obtain ⟨a1,a2⟩:=j2 b hb ht
    exact ⟨(k2 b a1 ht).1,rfl⟩
   ·obtain ⟨a1,a2⟩:=j3 b hb ht
    exact ⟨(k3 b a1 ht).1,rfl⟩
  ·intro q hq
   refine g9 q ?_
   cases hq2:(aC it.2.ws Z).roots q with
   | none=>rfl
   | some Q=>
    exfalso
    by_cases hm:q∈(it.2.ws).flatMap Wr.eT
    ·have:=hT it (by simp)
     cases this with
     | held hws cs hv hh hc=>rw [hws] at hm; simp at hm
     | ref r R hr hv e hk hd=>rw [e] at hm; simp [Wr.eT] at hm; subst hm; rw [hr.1] at hq; simp at hq
     | cut r R cs hr hv hk e hd hl uh how=>rw [e.2.2.1] at hm; simp [Wr.eT] at hm; subst hm; rw [hr.1] at hq; simp at hq
     | gap r R p d z hr hv hg hz dh hown hpv e hn=>rw [e] at hm; simp [Wr.eT] at hm; subst hm; rw [hr.1] at hq; simp at hq
    ·rw [(h6 q hm).root,hq] at hq2
     simp at hq2
end
end
section
open Go
variable [Fr]
theorem uP (j:Nat):gZ (jA j)=true:=by simp [gZ,jA,Nat.add_mod]
theorem MF {ws:List Wr} {T:List Tag}:zB ws T=true↔∀t∈T,t.1∉ws.flatMap Wr.eT:=by
 unfold zB
 rw [eH]
 simp [gT]
theorem aoe {ws:List Wr} {r:Nat} (h:(ws.all fun w=>!w.loc.beq (.r r))=true):r∉ws.flatMap Wr.eT:=by
 rw [jZ]
 rintro ⟨w,h1,h2⟩
 have:=eH.1 h w h1
 cases w with
 | s n a=>simp [Wr.eT] at h2
 | r n o=>
  simp only [Wr.eT,gI] at h2
  subst h2
  simp [Wr.loc,Loc.beq] at this
theorem MQ:∀(n:Nat) {c:K} {x:El c} {s:Dat} {q:Nat×K},aS n c x=some s->bO n c=some q->q.2=s.1:=by
 intro n
 induction n with
 | zero=>intro c x s q h1 h2; cases c with
  | pair a b=>simp only [aS,bO,au] at h1 h2; subst h1; subst h2; rfl
  | _=>simp [aS] at h1
 | succ n ih=>intro c x s q h1 h2; cases c with
  | pair a b=>
   simp only [aS,bO] at h1 h2
   cases h3:bO n b with
   | none=>rw [h3] at h2; simp at h2
   | some q3=>rw [h3] at h2; simp only [au] at h2; subst h2; exact ih (q:=q3) h1 h3
  | _=>simp [aS] at h1
theorem ams {h:Heap}:∀(p:List Stp) {k:K} {x:El k} {cs:List Value} {c1:List Value} {w1:Option (Nat×Nat)},az p k=[]->(aB p k x).isSome=true->aT h p k cs none=some (c1,w1)->w1=none:=by
 intro p
 induction p with
 | nil=>intro k x cs c1 w1 _ _ h; simp only [aT,au,bS] at h; exact h.2.symm
 | cons s p ih=>
  intro k x cs c1 w1 h0 hs h
  cases s with
  | aZ n=>
   cases k with
   | st c=>
    simp only [aB] at hs
    cases hg:aS n c x with
    | none=>rw [hg] at hs; simp at hs
    | some s=>
     rw [hg] at hs
     have hp2:az (.aZ n :: p) (.st c)=az p s.1:=by simp [az,lI n hg]
     rw [hp2] at h0
     simp only [aT] at h
     cases ho:bO n c with
     | none=>rw [ho] at h; simp at h
     | some q=>
      have hk2:q.2=s.1:=MQ n (c:=c) hg ho
      rw [ho] at h
      obtain ⟨q1,q2⟩:=q
      simp only at hk2
      subst hk2
      exact ih h0 hs h
   | _=>simp [aB] at hs
  | idx i=>
   cases k with
   | sl e k=>simp [az] at h0
   | _=>simp [aB] at hs
theorem K.ahi:∀k:K,k.beq k=true:=by
 intro k
 induction k with
 | int ik=>cases ik <;> rfl
 | sl e k ih=>simp [K.beq,ih]
 | pair a b iha ihb=>simp [K.beq,iha,ihb]
 | st f ih=>exact ih
 | gap n=>simp [K.beq]
 | id e=>simp [K.beq]
 | _=>rfl
theorem Xk:∀(q:List Stp) {k:K} {x:El k},bX q k x->(aB q k x).isSome=true:=by
 intro q
 induction q with
 | nil=>intro k x _; rfl
 | cons s q ih=>
  intro k x h
  cases s with
  | aZ n=>
   cases k with
   | st c=>
    simp only [bX] at h
    simp only [aB]
    cases hc:aS n c x with
    | none=>rw [hc] at h; exact h.elim
    | some d=>rw [hc] at h; exact ih h
   | _=>exact h.elim
  | idx i=>
   cases k with
   | sl e k=>exact ih h.2.2
   | _=>exact h.elim
theorem agL:∀(q:List Stp) {k:K} {x:El k},az q k=[]->(aB q k x).isSome=true->bX q k x:=by
 intro q
 induction q with
 | nil=>intro k x _ _; trivial
 | cons s q ih=>
  intro k x h0 hs
  cases s with
  | idx i=>cases k <;> simp [az,aB] at h0 hs
  | aZ n=>
   cases k with
   | st c=>
    simp only [aB] at hs
    cases hg:aS n c x with
    | none=>rw [hg] at hs; simp at hs
    | some s=>
     rw [hg] at hs
     simp only at hs
     have hp2:az (.aZ n :: q) (.st c)=az q s.1:=by simp [az,lI n hg]
     rw [hp2] at h0
     simp only [bX,hg]
     exact ih h0 hs
   | _=>simp [aB] at hs
section
variable {cx:Cx} {Z:St} {J:aH} {F:List Nat} {a:Act} {w:World} {r:Nat} {R:Root}
theorem anO {P:Program} {T:bH} {t:TypeId} {kk:K} {x:El kk} {lU:List TypeId} {uZ:List Tag} {x_:List Value} {Ck:List Nat} {v:Value} (hT:dn P T t kk)
  (H:Rel cx Z J F a w) (hr:aU Z r R) (hv:cB Z R) {p:List Stp} {d z:Dat} (hg:aB p R.k R.x=some d) (hz:cz p R.k R.x ⟨kk,x⟩=some z) (dh:bX p R.k R.x) (hown:∀t∈az p R.k,aa t R.own=true)
  (hh:Held cx Z J F w kk x lU uZ x_ Ck) (hc:cO Z (bu lU kk) uZ=true) (kF:VC kk v x_) (hd:d.1=kk\/d.1=kk.hole)
  (hself:kk.flat=true\/Od R r uZ (bu lU kk)=true) (hbad:∀t∈az p R.k,t∉bu lU kk) (kp:Bool)
  {cs1:List Value} {b o:Nat} (hn:aT (hp w) p R.k (J.hdr r) (aK J R r)=some (cs1,some (b,o))) :
  ∃w',(Instr.storeAt t (.pointer (some ⟨b,o,none⟩)) v).run P w=.ok () w'/\∃J' F',
   Rel cx (aJ Z r (je R z (fq R.own (bu lU kk)) (bif kk.flat then R.tags else lM (sj r uZ) R.tags) [iV R p] ((bif d.1.beq kk then [] else tV kk)++kk.tys) kp)) J' F' a w':=by
 have K0:=H.roots r R hr
 have hnt:=H.gy r R hr.1
 have tX:=hh.ow hc
 obtain ⟨_,_,hbb,⟨arr,e,lo,hi,hb,hf,hs,hlast⟩,_⟩:=xy H hr hv hg dh hown hn
 have hds:kk.size=d.1.size:=by
  rcases hd with h | h
  ·rw [h]
  ·rw [h,Cz]
 have hone:=Mq hT.fV tX
 have hrun:=ab5 (o:=o) hT hb hf hh.len (by omega) kF hone
 obtain ⟨s1,s2,gG,s3,s4,s5,s6⟩:=FX b x_ w arr e (lo,hi) o hb (by rw [hh.len]; omega)
 have s7:=FY b x_ w o
 refine ⟨_,hrun, ?_⟩
 have ZI:∀t∈az p R.k,aa t (fq R.own (bu lU kk))=true:=fun t ht=>qg.2 ⟨hown t ht,hbad t ht⟩
 obtain ⟨fd,ok',aX,rest,jy,cu,hn',hpf,hd1,hty,_,iH,hwf,hgo⟩:=H.place hr hv (own':=fq R.own (bu lU kk)) hg dh (fun t h=>(qg.1 h).1) ZI
 rw [hn] at hn'
 simp only [au,bS] at hn'
 obtain ⟨rfl,rfl⟩:=hn'
 obtain ⟨ft,jH,hpt,IM⟩:=xU (own':=fq R.own (bu lU kk)) (fun t ht hm=>by
  rcases Ke (own:=lU) ht with h | h
  ·exact absurd h (qg.1 hm).2
  ·exact h) (tu (bu lU kk) (fun _ h=>h) tX)
 have ZB:=hpt.nodup hh.nd
 have hft:∀b∈ft,b∈Ck:=fun b hb=>hpt.mem_iff.2 (bK _ hb)
 have RZ:∀b∈jH,b∈Ck:=fun b hb=>hpt.mem_iff.2 (bB _ hb)
 have lJ:b∉F:=H.fB r R hr b hbb
 have akv:=zb IM
 suffices hP:BH cx Z J F w r R p d (fq R.own (bu lU kk)) cs1 (some (b,o)) aX rest ⟨kk,x⟩ z (bif kk.flat then R.tags else lM (sj r uZ) R.tags) [iV R p] ((bif d.1.beq kk then [] else tV kk)++kk.tys) kp ft (F.filter fun b=>!aa b Ck) x_ (w.setCells b o x_) by
  obtain ⟨J',h,_⟩:=hgo hP
  exact ⟨J',_,h⟩
 have hF':∀b',b'∈F.filter (fun b=>!aa b Ck)↔b'∈F/\b'∉Ck:=fun b'=>by rw [eF]; simp [gT]
 refine ⟨hz,hds, ?_,⟨s7.1,s7.2.1,s7.2.2⟩,by omega, ?_, ?_,fun h=>by simp at h,by rw [hh.len,hds], .inl (by simp), ?_,fun b' hb'=>.inr (.inl (hh.sub b' (hft b' hb'))),(cK.1 ZB).1,fun b' hb'=>.inl ((hF' b').1 hb').1,H.iq.filter _,fun b' hb' h=>((hF' b').1 h).2 (hft b' hb'), .inr (by simp), ?_, ?_, ?_⟩
 ·rcases hd with h | h
  ·rw [h]; exact fun _ h=>h
  ·rw [h,aoa]; intro t ht; simp at ht
 ·intro b' _ hne
  refine .inr (.inr ?_)
  by_cases e:b'=b
  ·subst e; exact ⟨o,rfl,by simp⟩
  ·exact absurd (s1 b' e) hne
 ·intro b' o' e'
  simp only [au,bS] at e'
  obtain ⟨rfl,rfl⟩:=e'
  refine ⟨fun i hi=>?_,arr,gG,e,(lo,hi),hb,s3,s4,fun i hi=>?_⟩
  ·unfold cellAt
   rw [s3]
   exact s5 i hi
  ·exact s6 i (by rw [hh.len,hds]; exact hi)
 ·cases hfl:kk.flat with
  | true=>exact ⟨fun _ h=>h,hnt.1,hnt.2.2⟩
  | false=>
   refine ⟨fun t ht=>mD.2 (.inr ht),fun t ht=>?_,fun n ht=>?_⟩
   ·rcases mD.1 ht with h | h
    ·exact hh.wt t (yC.1 h).1
    ·exact hnt.1 t h
   ·rcases mD.1 ht with h | h
    ·exact (yC.1 h).2 rfl
    ·exact hnt.2.2 n h
 ·cases hbq:d.1.beq kk with
  | true=>exact .inl (K.eq_of_beq hbq).symm
  | false=>
   have Zf:d.1=kk.hole:=hd.resolve_left (fun e=>by rw [e,K.ahi] at hbq; simp at hbq)
   refine .inr (.inl fun q' h1 h2=>?_)
   have hnil:az q' kk=[]:=by
    cases he:az q' kk with
    | nil=>rfl
    | cons e l=>exact absurd (bB _ (CX q' e (by rw [he]; simp))) (h2 e (by rw [show az q' (⟨kk,x⟩:Dat).1=az q' kk from rfl,he]; simp))
   obtain ⟨dk,dx⟩:=d
   simp only at Zf
   subst Zf
   obtain ⟨h3,h4⟩:=akV q' (y:=x) hnil h1
   refine ⟨?_, ?_⟩
   ·show az q' kk.hole=az q' kk
    rw [h3,hnil]
   ·show (aB q' kk.hole dx).isSome=true
    rw [EH q' (y:=p_ kk x)]
    exact h4
 ·intro _ q c0 w0 hpq uf hnq EU
  obtain ⟨dk,dx⟩:=d
  rcases hd with ek | ek
  ·simp only at ek
   subst ek
   exact NM q hpq (fun t ht=>⟨(uf t ht).1,fun h=>(uf t ht).2 (bB _ h)⟩) hnq
  ·simp only at ek
   subst ek
   have hs0:(aB q kk.hole dx).isSome=true:=Xk q hpq
   rw [EH q (y:=p_ kk x)] at hs0
   obtain ⟨h1,h2,h3,_,h5⟩:=Sq (h:=hp w) q (x:=x) hs0
   have akT:aT (hp w) q kk cs1 (some (b,o))=some (c0,w0):=by rw [<-h5]; exact hnq
   exact NM (own:=fq R.own (bu lU kk)) q (agL q h1 h3) (fun t ht=>by rw [h1] at ht; simp at ht) akT
 ·intro J' Tn hblk hval
  cases hfl:kk.flat with
  | true=>
   obtain ⟨e1,e2⟩:=agG (h':=hp (w.setCells b o x_)) (own':=fq R.own (bu lU kk)) (ok':=bG cx (aJ Z r (je R z (fq R.own (bu lU kk)) (bif kk.flat then R.tags else lM (sj r uZ) R.tags) [iV R p] ((bif d.1.beq kk then [] else tV kk)++kk.tys) kp)) J' (F.filter fun b=>!aa b Ck) (w.setCells b o x_) (bif true then R.tags else lM (sj r uZ) R.tags)) hfl IM
   subst e1
   rw [hfl] at e2
   exact e2
  | false=>
   rw [hfl] at Tn hblk hval
   have E5:=hself.resolve_left (by rw [hfl]; simp)
   simp only [kg] at Tn hblk hval ⊢
   generalize hR':je R z (fq R.own (bu lU kk)) (lM (sj r uZ) R.tags) [iV R p] ((bif d.1.beq kk then [] else tV kk)++kk.tys) kp=R' at *
   have RL:R'.w=[iV R p]++R.w:=by rw [<-hR']; rfl
   have hRt:R'.tags=lM (sj r uZ) R.tags:=by rw [<-hR']; rfl
   have hRv:R'.qJ=bu (fq R.own (bu lU kk)) z.1:=by rw [<-hR']; rfl
   have hRd:R'.bY=false:=hval.1
   have alf:∀t∈bu lU kk,t∈R'.qJ:=by
    intro t ht
    rw [hRv]
    have h1:=an_ (own:=lU) (own':=fq R.own (bu lU kk)) (k:=kk) (fun t ht hm=>by
     rcases Ke (own:=lU) ht with h | h
     ·exact absurd h (qg.1 hm).2
     ·exact h) t ht
    rcases (acJ p hg hz).1 t h1 with h | ⟨q,h2,h3⟩
    ·exact h
    ·rw [ZI q h2] at h3; simp at h3
   have akG:∀n,(r,n)∈uZ->iV R p∉bu lU kk:=by
    intro n hn1 hl
    unfold iV at hl
    cases hpt:az p R.k with
    | nil=>
     rw [hpt] at hl
     simp only [List.getLastD_nil] at hl
     unfold Od at E5
     rw [nZ] at E5
     rcases E5 with h | h
     ·have:=eH.1 h _ hn1
      simp at this
     ·unfold Root.bt at hl
      cases hk:R.kind with
      | var tv=>rw [hk] at h hl; simp only at h hl; rw [lC,gT] at h; exact h hl
      | par=>rw [hk] at h; simp at h
      | anon=>
       rcases iH b o rfl with h1 | ⟨o0,ew,_⟩
       ·
        rw [hpt] at hbad
        have:=hty b (bB _ h1)
        have hne:aK J R r=none:=by unfold aK; rw [hk]
        rw [hne] at hn
        have:=ams p hpt (by rw [hg]; rfl) hn
        simp at this
       ·unfold aK at ew; rw [hk] at ew; simp at ew
      | dead=>have:=hr.2; simp [Root.bY,hk] at this
    | cons e l=>
     rw [hpt,Xf] at hl
     have:(e :: l).getLast?.getD R.bt∈(e :: l):=by
      rw [List.getLast?_eq_some_getLast (by simp)]
      exact List.getLast_mem _
     exact hbad _ (by rw [hpt]; exact this) hl
   have hc':cO (aJ Z r R') (bu lU kk) uZ=true:=by
    rw [zJ]
    intro tg eZ
    by_cases e:tg.1=r
    ·refine .inr ⟨R',by rw [e]; exact fE ..,hRd, ?_⟩
     rw [zJ] at hc
     rcases hc tg eZ with h | ⟨Q,h1,h2,h3⟩
     ·rw [e,hnt.2.1] at h; simp at h
     ·rw [e,hr.1] at h1
      simp only [au] at h1
      subst h1
      rw [RL]
      refine (Eu ?_).2 ⟨fun t ht=>?_,h3⟩
      ·rcases hh.wt tg eZ with h | ⟨Q,q1,q2⟩
       ·rw [e,hnt.2.1] at h; simp at h
       ·rw [e,hr.1] at q1
        simp only [au] at q1
        subst q1
        rcases q2 with q2 | q2
        ·rw [hr.2] at q2; simp at q2
        ·exact q2
      ·simp only [gI] at ht
       subst ht
       exact akG tg.2 (by rw [<-e]; exact eZ)
    ·have h2:=hval.2
     rw [hRt,zJ] at h2
     rcases h2 tg (mD.2 (.inl (yC.2 ⟨eZ,e⟩))) with h | ⟨Q,h3,h4,h5⟩
     ·exact .inl h
     ·refine .inr ⟨Q,h3,h4, ?_⟩
      unfold clean at h5 ⊢
      rw [eH] at h5 ⊢
      intro x hx
      have:=h5 x hx
      simp only [lC,gT] at this ⊢
      exact fun h=>this (alf x h)
   obtain ⟨_,hV,_⟩:=Tn.views H uZ (bu lU kk) hh.wt hc'
   have hsame:∀b',b'≠b->hp (w.setCells b o x_) b'=hp w b':=s1
   refine dY ?_ ?_ (fun b' hb'=>hsame b' (fun e=>lJ (e▸hh.sub b' (hft b' hb')))) IM
   ·rintro b' (⟨h1,h2⟩ | h)
    ·exact (hV b' h1 (.inl h2)).2
    ·exact hsame b' (fun e=>lJ (e▸hh.sub b' (RZ b' h)))
   ·rintro b' (⟨h1,h2⟩ | h)
    ·obtain ⟨g1,g2,g3,g4,g5⟩:=(hV b' h1 (.inl h2)).1
     refine ⟨g1,g2,g3,fun q Q hq hbq=>?_,fun h0=>?_⟩
     ·obtain ⟨n,hn1⟩:=g4 q Q hq hbq
      by_cases e:q=r
      ·exfalso
       subst e
       obtain ⟨rfl,_⟩:=pq hq
       obtain ⟨tt,ht1,ht2⟩:=h2
       have aaT:∀e,mine cx w b'->jS (hp w) b'=some e->aa e (fq R.own (bu lU kk))=true->False:=by
        intro e hmn he hm
        have ht2:=H.Di hmn ht2
        rw [ht2] at he
        simp only [au] at he
        subst he
        exact (qg.1 hm).2 ht1
       rcases hblk b' hbq with ⟨o',h⟩ | h | h
       ·unfold Od at E5
        rw [nZ] at E5
        rcases E5 with h3 | h3
        ·have:=eH.1 h3 _ hn1
         simp at this
        ·cases hk:R.kind with
         | var tv=>
          rw [hk] at h3
          simp only at h3
          rw [lC,gT] at h3
          obtain ⟨_,aol,e2,lo2,hi2,f1,_,_,f4⟩:=K0.mem b' o' h
          have ht2:=H.Di (K0.mine b' (by unfold blk; rw [h]; exact jE)) ht2
          unfold jS at ht2
          rw [f1] at ht2
          simp only [au] at ht2
          exact h3 (by rw [<-f4 tv hk,ht2]; exact ht1)
         | par=>rw [hk] at h3; simp at h3
         | anon=>unfold aK at h; rw [hk] at h; simp at h
         | dead=>have:=hr.2; simp [Root.bY,hk] at this
       ·obtain ⟨e,_,h3,h4⟩:=akv b' h
        exact aaT e (H.fl b' (hh.sub b' (hft b' h))) h4 h3
       ·obtain ⟨e,_,h3,h4⟩:=hty b' (bB _ h)
        exact aaT e (K0.mine b' (bB _ (hpf.mem_iff.2 (by simp [h])))) h4 h3
      ·exact ⟨n,mD.2 (.inl (yC.2 ⟨hn1,e⟩))⟩
     ·rcases g5 h0 with ⟨j,n,h3,h4⟩ | h3
      ·refine .inl ⟨j,n,mD.2 (.inl (yC.2 ⟨h3, ?_⟩)),h4⟩
       intro e
       have:=hnt.2.1
       rw [<-e] at this
       simp only at this
       rw [uP] at this
       simp at this
      ·exact .inr h3
    ·have IW:=hh.sub b' (RZ b' h)
     have hm:=H.fl b' IW
     refine ⟨by have:=hm.1; omega,fun h2=>((hF' b').1 h2).2 (RZ b' h),A7 H IW,fun q Q hq hbq=>?_,fun h0=>?_⟩
     ·exfalso
      rcases uo hq with ⟨rfl,rfl,_⟩ | ⟨e,hq'⟩
      ·rcases hblk b' hbq with ⟨o',h2⟩ | h2 | h2
       ·exact H.fB _ _ hr b' (by rw [jG,mV]; exact .inl ⟨o',h2⟩) IW
       ·exact (cK.1 ZB).2.2 b' h2 b' h rfl
       ·exact H.fB _ _ hr b' (by rw [jG,mV,hpf.mem_iff]; exact .inr (by simp [h2])) IW
      ·obtain ⟨Q2,g1,g2⟩:=Tn.old q Q hq'.1
       have hns:Same Z J (aJ Z r R') J' q:=by
        refine kN fun hns=>?_
        rcases g2 with ⟨h1,h2⟩ | ⟨_,h2⟩
        ·rw [jW Z R' e] at g1
         rw [hq'.1] at g1
         simp only [au] at g1
         subst g1
         rw [hq'.2] at h1
         simp at h1
        ·rcases h2.2.2.2.2.2.2 with h3 | ⟨_,_,h3⟩
         ·rw [uS _ e,uS _ e] at h3
          simp at h3
         ·exact hns h3
       rw [hns.blk] at hbq
       exact H.fB _ _ hq' b' hbq IW
     ·rcases hm.2 with h | ⟨j,pi,h1,h2⟩
      ·omega
      ·exact .inr ⟨j,pi,h1,h2⟩
end
end
section
open Go
variable [Fr]
theorem qb (d c:Nat):gZ (aG d c)=false:=by
 unfold gZ aG
 have:(4 * (8 * d+c)+2) % 4=2:=by omega
 rw [this]; rfl
section
variable {cx:Cx} {Z:St} {J:aH} {F:List Nat} {a:Act} {w:World} {r:Nat}
theorem acA {T:List Tag} (h:gB Z T) (hn:Z.roots r=none) (hx:gZ r=false):∀n,(r,n)∉T:=by
 intro n hn2
 rcases h _ hn2 with h | ⟨Q,h,_⟩
 ·simp only at h; rw [hx] at h; simp at h
 ·simp only at h; rw [hn] at h; simp at h
theorem Eg (H:Rel cx Z J F a w) (hn:Z.roots r=none) (hx:gZ r=false) {R':Root} (hd:R'.bY=false) (hk:R'.kind≠.par) (oK:gB Z R'.tags) (loc:Nat×Nat) (hdr':List Value) (aF F':List Nat)
  (hblk:∀b∈ji R' loc aF,b∈F/\b∉F') (hnd:(ji R' loc aF).Nodup) (hF':∀b∈F',b∈F) (IJ:F'.Nodup)
  (how:cO Z R'.qJ R'.tags=true->Ow (hp w) R'.own (fun b=>bG cx Z J F w R'.tags b\/(b∈F/\b∉F'/\b∉ji R' loc aF)) R'.k R'.x hdr' aF) (hlen:hdr'.length=R'.k.size)
  (hmem:∀b o,mX R' loc=some (b,o)->Cells (hp w) b o hdr'/\∃arr e lo hi,hp w b=some (.cells arr e (lo,hi))/\jq arr.size lo hi/\o+R'.k.size<=arr.size/\(∀t,R'.kind=.var t->e=t)) :
  Rel cx (aJ Z r R') (aR J r loc hdr' aF) F' a w/\iC cx Z J F w (aJ Z r R') (aR J r loc hdr' aF) F' w (kU r []) (kU r []):=by
 have hns:∀{q:Nat},¬Same Z J (aJ Z r R') (aR J r loc hdr' aF) q->q=r:=fun {q} h=>kN fun e=>h (lX e)
 have hold:∀{q Q},Z.roots q=some Q->q≠r:=fun {q Q} h e=>by rw [e,hn] at h; simp at h
 have T:iC cx Z J F w (aJ Z r R') (aR J r loc hdr' aF) F' w (kU r []) (kU r []):=by
  refine ⟨rfl,⟨rfl,rfl,rfl⟩,bN _, ?_, ?_, ?_,fun b _ h=>absurd rfl h, ?_,IJ, ?_, ?_,fun _ _ _ _ _ _ _ h=>absurd rfl h,fun q Q Q' h1 h2 _=>by rw [jW Z R' (hold h1),h1] at h2; simp only [au] at h2; subst h2; exact ⟨rfl,rfl⟩⟩
  ·intro q Q hQ
   have e:=hold hQ
   refine ⟨Q,by rw [jW Z R' e]; exact hQ, ?_⟩
   cases hd:Q.bY with
   | true=>exact .inl ⟨rfl,by intro hk; simp [Root.bY,hk] at hd⟩
   | false=>exact .inr ⟨rfl,by rw [uS _ e]; rfl,by rw [uS _ e]; rfl,bN _,rfl,by simp [aR,upd_ne _ _ e],fun _=>rfl, .inr ⟨uS _ e,uS _ e,lX e⟩⟩
  ·intro q Q hQ hs
   have e:=hns hs
   subst e
   rw [fE] at hQ
   simp only [au] at hQ
   subst hQ
   refine ⟨fun t ht=>?_,hx,acA oK hn hx⟩
   have hne:t.1≠q:=fun e=>acA oK hn hx t.2 (by rw [<-e]; exact ht)
   rcases oK t ht with h | ⟨Q,h1,h2⟩
   ·exact .inl h
   ·exact .inr ⟨Q,by rw [jW Z R' hne]; exact h1,h2⟩
  ·intro q Q hq hQ
   by_cases e:q=r
   ·subst e
    rw [fE] at hQ
    simp only [au] at hQ
    subst hQ
    exact hk
   ·rw [jW Z R' e,hq] at hQ; simp at hQ
  ·rintro b (⟨q,Q,hq,hb,hno⟩ | hb)
   ·rcases uo hq with ⟨rfl,rfl,_⟩ | ⟨e,hq'⟩
    ·rw [pR] at hb
     exact .inl (hblk b hb).1
    ·rw [(lX (J:=J) (Z:=Z) (R:=R') e).blk] at hb
     exact absurd ⟨Q,hq',hb⟩ hno
   ·exact .inl (hF' b hb)
  ·intro q Q hq hs b hb
   have e:=hns hs
   subst e
   obtain ⟨rfl,_⟩:=pq hq
   rw [pR] at hb
   exact (hblk b hb).2
  ·intro q Q q' Q' hq hq' hne hs hs'
   exact absurd ((hns hs).trans (hns hs').symm) hne
 refine ⟨H.turn T ?_ ?_ ?_,T⟩
 ·intro q Q hq hs
  have e:=hns hs
  subst e
  obtain ⟨rfl,_⟩:=pq hq
  refine ⟨fun hv=>?_, ?_, ?_, ?_⟩
  ·have e1:(aR J q loc hdr' aF).hdr q=hdr':=by simp [aR,upd_same]
   have e2:(aR J q loc hdr' aF).fo q=aF:=by simp [aR,upd_same]
   rw [e1,e2]
   obtain ⟨h1,h2,_⟩:=T.views H Q.tags _ oK hv.2
   refine dY (fun _ _=>rfl) ?_ (fun _ _=>rfl) (tu _ (fun _ h=>h) (how h1))
   rintro b ⟨hb | ⟨g1,g2,g3⟩,hty⟩
   ·exact (h2 b hb (.inl hty)).1
   ·have hm:=H.fl b g1
    refine ⟨hm.1,g2,A7 H g1,fun q' Q' hq' hb'=>?_,fun h0=>?_⟩
    ·exfalso
     rcases uo hq' with ⟨rfl,rfl,_⟩ | ⟨e,hq2⟩
     ·rw [pR] at hb'; exact g3 hb'
     ·rw [(lX (J:=J) (Z:=Z) (R:=Q) e).blk] at hb'
      exact H.fB _ _ hq2 b hb' g1
    ·rcases hm.2 with h | ⟨j,pi,h1,h2⟩
     ·omega
     ·exact .inr ⟨j,pi,h1,h2⟩
  ·simpa [aR,upd_same] using hlen
  ·intro b o hb
   rw [wC] at hb
   simpa [aR,upd_same] using hmem b o hb
  ·rw [pR]; exact hnd
 ·intro q Q hq hs
  exact absurd (hns hs) (hold hq.1)
 ·intro q Q hq hs
  exact absurd (hns hs) (hold hq.1)
theorem qV {R:Root} (h:R.kind=.anon) (loc:Nat×Nat) (fo:List Nat):ji R loc fo=fo:=by simp [ji,h]
theorem Eo {R:Root} {t:TypeId} (h:R.kind=.var t) (loc:Nat×Nat) (fo:List Nat):ji R loc fo=loc.1 :: fo:=by simp [ji,h]
theorem F8 {R:Root} (h:R.kind=.anon) (loc:Nat×Nat):mX R loc=none:=by simp [mX,h]
theorem acK {R:Root} {t:TypeId} (h:R.kind=.var t) (loc:Nat×Nat):mX R loc=some loc:=by simp [mX,h]
theorem aaM {k:K} {x:El k} {own:List TypeId} {tags:List Tag} {kp:Bool} {hdr:List Value} {fo F':List Nat} {loc:Nat×Nat} {v:Value} {w:World} (h:VC k v hdr) :
  aW cx (aJ Z r (bL k x own tags .anon kp)) (aR J r loc hdr fo) F' w (.ref r 0) v:=by
 intro Q hQ _
 obtain ⟨rfl,_⟩:=pq hQ
 refine ⟨rfl, ?_⟩
 simp only [aR,upd_same]
 exact h
theorem amm {k:K} {x:El k} {own:List TypeId} {tags:List Tag} {kp:Bool} {hdr:List Value} {fo F':List Nat} {b:Nat} {t:TypeId} {w:World} :
  aW cx (aJ Z r (bL k x own tags (.var t) kp)) (aR J r (b,0) hdr fo) F' w (.ptr r [] 0) (.pointer (some ⟨b,0,none⟩)):=by
 refine ⟨⟨b,0,rfl⟩, ?_⟩
 intro Q hQ _ _ _ _
 rw [fE] at hQ
 simp only [au] at hQ
 subst hQ
 refine ⟨trivial,hdr,b,0, ?_,rfl⟩
 simp only [aT]
 rw [wC]
 simp [mX,bL,aR,upd_same]
theorem amn {k:K} {x:El k} {own:List TypeId} {tags:List Tag} {kp:Bool} {hdr:List Value} {fo F':List Nat} {b o:Nat} {t:TypeId} {w:World} :
  aW cx (aJ Z r (bL k x own tags (.var t) kp)) (aR J r (b,o) hdr fo) F' w (.ptr r [] 0) (.pointer (some ⟨b,o,none⟩)):=by
 refine ⟨⟨b,o,rfl⟩, ?_⟩
 intro Q hQ _ _ _ _
 rw [fE] at hQ
 simp only [au] at hQ
 subst hQ
 refine ⟨trivial,hdr,b,o, ?_,rfl⟩
 simp only [aT]
 rw [wC]
 simp [mX,bL,aR,upd_same]
theorem F3 {tk:eU} (h:gB Z tk.tags):gB Z tk.iP:=by
 unfold eU.iP
 split
 ·intro t ht; simp at ht
 ·exact h
theorem j5 {h:Heap} {own:List TypeId} {ok ok':Nat->Prop} {k:K} {x:El k} {cs:List Value} {fo:List Nat} (hv:bu own k=[]) (H:Ow h own ok k x cs fo):Ow h own ok' k x cs fo:=by
 refine dY (fun _ _=>rfl) (fun b hb=>?_) (fun _ _=>rfl) (tu [] (by rw [hv]; exact fun _ h=>h) H)
 obtain ⟨_,t,ht,_⟩:=hb
 simp at ht
theorem XT {P:Program} {tk:eU} {t:TypeId} {v:Value} {cs:List Value} {fo:List Nat} (H:Rel cx Z J F a w) (hn:Z.roots r=none) (hx:gZ r=false) (hh:Held cx Z J F w tk.k tk.x tk.own tk.tags cs fo)
  (hc:cO Z (bu tk.own tk.k) tk.tags=true) (hv:VC tk.k v cs) (kp:Bool) :
  (Instr.box t v).run P w=.ok (.pointer (some ⟨w.heap.size,0,none⟩)) (w.alloc (.cells v.cells t))/\
   ∃J' F',Rel cx (aJ Z r (bL tk.k tk.x tk.own tk.iP (.var t) kp)) J' F' a (w.alloc (.cells v.cells t))/\
    aW cx (aJ Z r (bL tk.k tk.x tk.own tk.iP (.var t) kp)) J' F' (w.alloc (.cells v.cells t)) (.ptr r [] 0) (.pointer (some ⟨w.heap.size,0,none⟩)):=by
 refine ⟨abZ t v w, ?_⟩
 have hcs:v.cells=cs.toArray:=by
  have:=hv.cells
  apply u6
  simpa using this
 rw [hcs]
 obtain ⟨H1,T1⟩:=H.alloc (.cells cs.toArray t)
 have R7:=hh.turn H T1 (fun b hb=>⟨CE w _ (H.fl b (hh.sub b hb)).1,jD _ (hh.sub b hb)⟩)
 have hnew:hp (w.alloc (.cells cs.toArray t)) w.heap.size=some (.cells cs.toArray t (0,0)):=ET w _
 have lJ:w.heap.size∉F:=fun h=>by have:=(H.fl _ h).1; omega
 have hbf:w.heap.size∉fo:=fun h=>lJ (hh.sub _ h)
 have hk:(bL tk.k tk.x tk.own tk.iP (.var t) kp).kind=.var t:=rfl
 obtain ⟨h1,h2⟩:=Eg (R':=bL tk.k tk.x tk.own tk.iP (.var t) kp) H1 hn hx rfl (by simp [bL]) (F3 R7.wt) (w.heap.size,0) cs fo (F.filter fun b=>!aa b fo)
  (fun b hb=>by
   rw [Eo hk] at hb
   rcases bT.1 hb with h | h
   ·simp only at h; subst h
    exact ⟨jE,fun h=>lJ (eF.1 h).1⟩
   ·refine ⟨jD _ (hh.sub b h),fun h2=>?_⟩
    have:=(eF.1 h2).2
    simp only [lC,gT] at this
    exact this h)
  (by rw [Eo hk]; exact jg.2 ⟨hbf,hh.nd⟩)
  (fun b hb=>jD _ (eF.1 hb).1) (H.iq.filter _)
  (fun hcl=>by
   show Ow _ tk.own _ tk.k tk.x cs fo
   cases hb:tk.bad with
   | nil=>exact j5 hb (R7.ow hc)
   | cons t0 l=>
    have et:(bL tk.k tk.x tk.own tk.iP (.var t) kp).tags=tk.tags:=by
     show tk.iP=tk.tags
     unfold eU.iP
     rw [hb]
    rw [et] at hcl ⊢
    exact dY (fun _ _=>rfl) (fun b h=>.inl h) (fun _ _=>rfl) (R7.ow hcl)) hh.len
  (fun b o hb=>by
   rw [acK hk] at hb
   simp only [au,bS] at hb
   obtain ⟨rfl,rfl⟩:=hb
   refine ⟨fun i hi=>?_,cs.toArray,t,0,0,hnew,jq.zero, ?_,fun t' ht'=>?_⟩
   ·unfold cellAt
    rw [hnew]
    simp
   ·show 0+tk.k.size<=_
    simp [hh.len]
   ·have:zl.var t=zl.var t':=ht'
    simpa using this)
 exact ⟨_,_,h1,amm⟩
theorem XC {k:K} {x:El k} {own:List TypeId} {tags:List Tag} {v:Value} {cs:List Value} {fo:List Nat} (H:Rel cx Z J F a w) (hn:Z.roots r=none) (hx:gZ r=false)
  (hsub:∀b∈fo,b∈F) (hnd:fo.Nodup) (hwt:gB Z tags) {F':List Nat} (hF':∀b∈F',b∈F/\b∉fo) (IJ:F'.Nodup) (hlen:cs.length=k.size)
  (how:cO Z (bu own k) tags=true->Ow (hp w) own (fun b=>bG cx Z J F w tags b\/(b∈F/\b∉F'/\b∉fo)) k x cs fo) (hv:VC k v cs) (kp:Bool) :
  Rel cx (aJ Z r (bL k x own tags .anon kp)) (aR J r (0,0) cs fo) F' a w/\aW cx (aJ Z r (bL k x own tags .anon kp)) (aR J r (0,0) cs fo) F' w (.ref r 0) v:=by
 have hk:(bL k x own tags .anon kp).kind=.anon:=rfl
 obtain ⟨h1,h2⟩:=Eg (R':=bL k x own tags .anon kp) H hn hx rfl (by simp [bL]) hwt (0,0) cs fo F'
  (fun b hb=>by rw [qV hk] at hb; exact ⟨hsub b hb,fun h=>(hF' b h).2 hb⟩) (by rw [qV hk]; exact hnd) (fun b hb=>(hF' b hb).1) IJ
  (fun hc=>by rw [qV hk]; exact how hc) hlen (fun b o hb=>by rw [F8 hk] at hb; simp at hb)
 exact ⟨h1,aaM hv⟩
theorem Eh {k:K} {x:El k} {own:List TypeId} {tags:List Tag} {v:Value} {cs:List Value} {fo:List Nat} (H:Rel cx Z J F a w) (hn:Z.roots r=none) (hx:gZ r=false)
  (hsub:∀b∈fo,b∈F) (hnd:fo.Nodup) (hwt:gB Z tags) {F':List Nat} (hF':∀b∈F',b∈F/\b∉fo) (IJ:F'.Nodup) (hlen:cs.length=k.size)
  (how:cO Z (bu own k) tags=true->Ow (hp w) own (fun b=>bG cx Z J F w tags b\/(b∈F/\b∉F'/\b∉fo)) k x cs fo) (hv:VC k v cs) (kp:Bool) :
  ∃J',Rel cx (aJ Z r (bL k x own tags .anon kp)) J' F' a w/\aW cx (aJ Z r (bL k x own tags .anon kp)) J' F' w (.ref r 0) v:=
 ⟨_,XC H hn hx hsub hnd hwt hF' IJ hlen how hv kp⟩
end
end
section
open Go
variable [Fr]
def dG (P:Program) (cx:Cx) (o:Oper) (a:Act) (w:World) (Z':St):Prop:=
 ∃v w' J' F',((execOp a.eval o).run P w=.ok (.value v) w'\/((execOp a.eval o).run P w=.ok .skip w'/\v=undef))/\Rel cx Z' J' F' (a.put o.dst v) w'
theorem dG.wp {P:Program} {cx:Cx} {o:Oper} {a:Act} {w:World} {Z':St} (h:dG P cx o a w Z') {K:Act->World->Prop} {Q:Exit->Act->World->Prop}
  (hK:∀J' F' a' w',Rel cx Z' J' F' a' w'->K a' w'):o.wp P a w K Q:=by
 obtain ⟨v,w',J',F',h | ⟨h,rfl⟩,h2⟩:=h
 ·unfold Oper.wp; rw [h]; exact hK _ _ _ _ h2
 ·unfold Oper.wp; rw [h]; exact hK _ _ _ _ h2
section
variable {P:Program} {T:bH} {cx:Cx} {Z:St} {J:aH} {F:List Nat} {a:Act} {w:World} {o:Oper} {d:Nat} {ws:List Wr}
theorem fO (H:Rel cx Z J F a w) (hd:o.dst=some d) (hdn:d<cx.nt) {x:gM} {v:Value} (hrun:(execOp a.eval o).run P w=.ok (.value v) w) (hx:jv cx Z J F w x v) (hw:nu Z x) :
  dG P cx o a w (aC [.s d x] Z):=by
 refine ⟨v,w,J,F, .inl hrun, ?_⟩
 rw [hd]
 exact H.put hdn hw hx
theorem o7 {Z1:St} {aI:aH} {F1:List Nat} {w1:World} (H:Rel cx Z1 aI F1 a w1) (hd:o.dst=some d) (hdn:d<cx.nt) {x:gM} {v:Value} (hrun:(execOp a.eval o).run P w=.ok (.value v) w1) (hx:jv cx Z1 aI F1 w1 x v) (hw:nu Z1 x) :
  dG P cx o a w (aC [.s d x] Z1):=by
 refine ⟨v,w1,aI,F1, .inl hrun, ?_⟩
 rw [hd]
 exact H.put hdn hw hx
theorem p9 {A:Type} {z:A} {r:Nat} {k:Prog A} (h:(kT r k).ends Z z):Z.roots r=none/\k.ends Z z:=by
 unfold kT at h
 simp only [Prog.ends] at h
 cases hr:Z.roots r with
 | none=>rw [hr] at h; exact ⟨rfl,h⟩
 | some R=>rw [hr] at h; exact h.elim
theorem bz {A:Type} {z x:A} (h:(Prog.ret x).ends Z z):z=x:=h
theorem aio (H:Rel cx Z J F a w) (hd:o.dst=some d) (hdn:d<cx.nt) {x:Operand} (ho:o.op=.move x) (h:(uL x fun v=>(.ret [.s d v]:Prog (List Wr))).ends Z ws):dG P cx o a w (aC ws Z):=by
 obtain ⟨v,h1,h2,h3⟩:=EA H h
 rw [bz h3]
 exact fO H hd hdn (by simp [execOp,ho]) h1 h2
theorem dn.sl {t:TypeId} {e:TypeId} {k:K} (h:dn P T t (.sl e k)):P.underlying t=some (.slice e)/\dn P T e k/\0<k.size/\∃i,P.info? e=some i/\i.bytes=T.bytes e/\0<i.bytes:=by
 unfold dn jO at h
 exact ⟨h.1,h.2.2.1,h.2.2.2.1,h.2.2.2.2⟩
theorem FC {e:TypeId} {k:K} {c:Option Addr} {own:List TypeId} {ok:Nat->Prop} {h:Heap}:Ow h own ok (.sl e k) ([]:List (El k)) [.slice c 0 0] []:=by
 unfold Ow
 split
 ·exact ⟨c,0,0,rfl,rfl,bN _, .inl ⟨rfl,rfl⟩⟩
 ·exact ⟨rfl,c,0,0,rfl,rfl,bN _,fun h=>by omega⟩
theorem ah2 {L:K->List TypeId} (H:Rel cx Z J F a w) (hd:o.dst=some d) (hdn:d<cx.nt) {x:Operand} (ho:o.op=.assign x)
  (h:(uL x fun
   | .one .fG=>match T.ty o.type with
    | some (.sl e kk)=>.root (aG d 0) fun
     | none=>.ret [.r (aG d 0) (some (bL (.sl e kk) [] (e :: L kk) [] .anon)), .s d (.one (.ref (aG d 0) 0))]
     | some _=>.ret [.s d (.one .fG)]
    | _=>.fail
   | v=>(.ret [.s d v]:Prog (List Wr))).ends Z ws):dG P cx o a w (aC ws Z):=by
 obtain ⟨v,h1,h2,h3⟩:=EA H h
 have hrun:(execOp a.eval o).run P w=.ok (.value (a.eval x)) w:=by simp [execOp,ho]
 have key:ws=[.s d v]->dG P cx o a w (aC ws Z):=fun e=>by rw [e]; exact fO H hd hdn hrun h1 h2
 cases v with
 | mH l=>exact key (bz h3)
 | lit _ _ _=>exact key (bz h3)
 | one v=>
  cases v with
  | fG=>
   have h1':=h1
   obtain ⟨c,hc⟩:=h1
   simp only at h3
   split at h3
   ·rename_i e kk hty
    simp only [Prog.ends] at h3
    cases g1:Z.roots (aG d 0) with
    | some Q=>
     rw [g1] at h3
     exact key (bz h3)
    | none=>
    rw [g1] at h3
    have g2:=h3
    rw [bz g2]
    obtain ⟨J',k1,k2⟩:=Eh (k:=.sl e kk) (x:=([]:List (El kk))) (own:=e :: L kk) (tags:=[]) (v:=a.eval x) (cs:=[.slice c 0 0]) (fo:=[]) (r:=aG d 0) (F':=F) H g1 (qb d 0) (fun b hb=>by simp at hb) mJ (fun t ht=>by simp at ht)
     (fun b hb=>⟨hb,by simp⟩) H.iq rfl (fun _=>FC) (by rw [hc]; exact J3) false
    exact o7 (x:=.one (.ref (aG d 0) 0)) k1 hd hdn hrun k2 ⟨_,fE .., .inr (fT _)⟩
   ·exact h3.elim
  | _=>exact key (bz h3)
theorem ais (H:Rel cx Z J F a w) (hd:o.dst=some d) (hdn:d<cx.nt) {c x y:Operand} (ho:o.op=.pick c x y)
  (h:(eP c fun c=>asBool c fun c=>uL x fun v=>uL y fun u=>.br c (.ret [.s d v]) ((.ret [.s d u]):Prog (List Wr))).ends Z ws):dG P cx o a w (aC ws Z):=by
 obtain ⟨vc,h1,_,h⟩:=jT H h
 obtain ⟨b,h2,h⟩:=XK h1 h
 obtain ⟨v,h3,h4,h⟩:=EA H h
 obtain ⟨u,h5,h6,h⟩:=EA H h
 rcases h with ⟨hb,h⟩ | ⟨hb,h⟩
 ·rw [bz h]
  exact fO H hd hdn (by simp [execOp,ho,h2,hb,Go.asBool]) h3 h4
 ·rw [bz h]
  exact fO H hd hdn (by simp [execOp,ho,h2,hb,Go.asBool]) h5 h6
theorem dn.shape {t:TypeId} {k:K} (h:dn P T t k):(∀a b,k≠.pair a b)/\k≠.unit/\∀n,k≠.gap n:=by
 unfold dn jO at h
 refine ⟨fun a b e=>?_,fun e=>?_,fun n e=>?_⟩ <;> subst e <;> exact h.elim
theorem lu {own:List TypeId} {k:K} (h:∀t∈k.tys,aa t own=true):bu own k=[]:=by
 cases he:bu own k with
 | nil=>rfl
 | cons t l=>
  exfalso
  have key:∀(k:K),(∀t∈k.tys,aa t own=true)->∀t,t∉bu own k:=by
   intro k
   induction k with
   | sl e k ih=>
    intro h t ht
    simp only [bu,h e (by simp [K.tys]),gJ] at ht
    exact ih (fun t ht=>h t (by simp [K.tys,ht])) t ht
   | pair a b iha ihb=>
    intro h t ht
    simp only [bu,bW] at ht
    rcases ht with ht | ht
    ·exact iha (fun t ht=>h t (by simp [K.tys,ht])) t ht
    ·exact ihb (fun t ht=>h t (by simp [K.tys,ht])) t ht
   | st f ih=>intro h t ht; exact ih h t ht
   | _=>intro _ t ht; simp [bu] at ht
  exact key k h t (by rw [he]; simp)
theorem amf {l:List Nat}:∀t∈l,aa t l=true:=fun t ht=>b_.2 ht
theorem ahY (hT:fJ P T) (H:Rel cx Z J F a w) (hd:o.dst=some d) (hdn:d<cx.nt) {t:TypeId} (ho:o.op=.alloc t)
  (h:(match T.ty t with
   | some kk=>kT (aG d 0) (.ret [Wr.r (aG d 0) (some (bL kk kk.zero kk.tys [] (.var t))),Wr.s d (.one (.ptr (aG d 0) [] 0))])
   | none=>(.fail:Prog (List Wr))).ends Z ws):dG P cx o a w (aC ws Z):=by
 split at h
 ·rename_i kk hty
  have ht:=hT.ty t kk hty
  obtain ⟨g1,g2⟩:=p9 h
  rw [bz g2]
  obtain ⟨s1,s2,s3⟩:=ht.shape
  have hz:Ow (hp w) kk.tys (bG cx Z J F w []) kk kk.zero (dR kk) []:=Kg ht.fV amf
  obtain ⟨k0,J',F',k1,k2⟩:=XT (P:=P) (tk:=⟨kk,kk.zero,kk.tys,[],[],false⟩) (t:=t) (v:=jC kk) (cs:=dR kk) (fo:=[]) (r:=aG d 0) H g1 (qb d 0)
   ⟨fun _=>hz,fun t ht=>by simp at ht,fun b hb=>by simp at hb,mJ,fM hz⟩ rfl (acS s1 s2 s3) false
  have e0:(eU.iP ⟨kk,kk.zero,kk.tys,[],[],false⟩)=[]:=by unfold eU.iP; split <;> rfl
  rw [e0] at k1 k2
  exact o7 (x:=.one (.ptr (aG d 0) [] 0)) k1 hd hdn (by
   have:=anl (P:=P) ht w
   simp only [execOp,ho,dO,this,fU,fA]) k2 ⟨_,fE .., .inr (fT _)⟩
 ·exact h.elim
theorem aip (H:Rel cx Z J F a w) (hd:o.dst=some d) (hdn:d<cx.nt) {x:Operand} (ho:o.op=.nilCheck x)
  (h:(eP x fun
   | .ptr r p h=>.ret [.s d (.one (.ptr r p h))]
   | .fQ bt kk y tags=>.ret [.s d (.one (.fQ bt kk y tags))]
   | _=>(.fail:Prog (List Wr))).ends Z ws):dG P cx o a w (aC ws Z):=by
 obtain ⟨v,h1,h2,h⟩:=jT H h
 cases v with
 | ptr r p n=>
  rw [bz h]
  obtain ⟨b,q,hv⟩:=h1.1
  exact fO (v:=a.eval x) H hd hdn (by simp [execOp,ho,hv]) h1 h2
 | fQ bt kk y tags=>
  rw [bz h]
  obtain ⟨b,q,hv⟩:=h1.1
  exact fO (v:=a.eval x) H hd hdn (by simp [execOp,ho,hv]) h1 h2
 | _=>exact h.elim
end
end
end Go.Proofs.YtailcbngagacaaaGreat.Ow
