/- A verified reading of translated code, part B of 7. No condition. -/
import Derived.Test.YtailcbngagacaaaGreatOwA
set_option linter.unusedSectionVars false
set_option linter.unusedVariables false
set_option linter.unusedSimpArgs false
namespace Go.Proofs.YtailcbngagacaaaGreat.Ow
section
open Go
variable [Fr]
theorem upd_same {A:Type} (f:Nat->A) (n:Nat) (v:A):upd f n v n=v:=by simp [upd]
theorem upd_ne {A:Type} (f:Nat->A) {n m:Nat} (v:A) (h:m≠n):upd f n v m=f m:=by
 unfold upd
 cases h':Nat.beq m n with
 | true=>exact absurd (ani h') h
 | false=>rfl
structure Same (Z:St) (J:dP) (Z':St) (J':dP) (r:Nat):Prop where
 root:Z'.roots r=Z.roots r
 loc:J'.loc r=J.loc r
 hdr:J'.hdr r=J.hdr r
 fo:J'.fo r=J.fo r
theorem Same.wh {Z Z':St} {J J':dP} {r:Nat} (h:Same Z J Z' J' r) (R:Root):dY J' R r=dY J R r:=by unfold dY; rw [h.loc]
theorem Same.blk {Z Z':St} {J J':dP} {r:Nat} (h:Same Z J Z' J' r) (R:Root):blk J' R r=blk J R r:=by unfold Ow.blk; rw [h.wh,h.fo]
theorem Same.live {Z Z':St} {J J':dP} {r:Nat} (h:Same Z J Z' J' r) (R:Root):aQ Z' r R↔aQ Z r R:=by unfold aQ; rw [h.root]
def Stepped (Z:St) (J:dP) (Z':St) (J':dP) (lw lh:Nat->List Nat) (r:Nat) (R R':Root):Prop:=
 R'.w=lw r++R.w/\R'.h=lh r++R.h/\R.g<=R'.g/\R'.kind=R.kind/\J'.loc r=J.loc r/\(R.kind=.par->R'.k.size=R.k.size)/\((lw r≠[]\/lh r≠[])\/(lw r=[]/\lh r=[]/\Same Z J Z' J' r))
def Loose (cx:Cx) (Z':St) (lw:Nat->List Nat) (w:World) (r b:Nat):Prop:=
 (∀R',Z'.roots r=some R'->R'.bg=true)\/(∃e∈lw r,qm (hp w) b=some e)\/(mD cx b/\lw r≠[])
structure nA (cx:Cx) (Z:St) (J:dP) (F:List Nat) (w:World) (Z':St) (J':dP) (F':List Nat) (w':World) (lw lh:Nat->List Nat):Prop where
 slots:Z'.slots=Z.slots
 os:w'.os=w.os/\w'.tape=w.tape/\w'.output=w.output
 size:w.heap.size<=w'.heap.size
 old:∀r R,Z.roots r=some R->∃R',Z'.roots r=some R'/\((R'.bg=true/\R.kind≠.par)\/(R.bg=false/\Stepped Z J Z' J' lw lh r R R'))
 wr:∀r R',Z'.roots r=some R'->¬Same Z J Z' J' r->fG Z' R'.tags/\gy r=false/\(∀n,(r,n)∉R'.tags)
 afY:∀r R',Z.roots r=none->Z'.roots r=some R'->R'.kind≠.par
 Nk:∀b,b<w.heap.size->hp w' b≠hp w b->b∈F\/∃r R,aQ Z r R/\b∈blk J R r/\Loose cx Z' lw w r b
 new:∀b,((∃r R',aQ Z' r R'/\b∈blk J' R' r/\¬∃R,aQ Z r R/\b∈blk J R r)\/b∈F')->b∈F\/(w.heap.size<=b/\b<w'.heap.size)\/∃r R,aQ Z r R/\b∈blk J R r/\Loose cx Z' lw w r b
 xK:F'.Nodup
 iY:∀r R',aQ Z' r R'->¬Same Z J Z' J' r->∀b∈blk J' R' r,b∉F'
 EK:∀r R r' R',aQ Z' r R->aQ Z' r' R'->r≠r'->¬Same Z J Z' J' r->¬Same Z J Z' J' r'->∀b∈blk J' R r,b∉blk J' R' r'
 base:∀j pi b o n,cx.par j=some pi->pi.base=some (b,o,n)->hp w' b≠hp w b->iE (hp cx.w0) (hp w') b o n
 ev:∀r R R',Z.roots r=some R->Z'.roots r=some R'->R'.bg=false->R'.ew=R.ew/\R'.eh=R.eh
section
variable {cx:Cx} {Z:St} {J:dP} {F:List Nat} {a:Act} {w:World} {Z':St} {J':dP} {F':List Nat} {w':World} {lw lh:Nat->List Nat}
theorem nA.tag (T:nA cx Z J F w Z' J' F' w' lw lh) {t:Tag} (h:Cj Z t):Cj Z' t:=by
 rcases h with h | ⟨R,h1,h2⟩
 ·exact .inl h
 ·obtain ⟨R',g1,g2⟩:=T.old _ R h1
  refine .inr ⟨R',g1, ?_⟩
  rcases g2 with ⟨g2,_⟩ | ⟨gd,g2,_⟩
  ·exact .inl g2
  ·rcases h2 with h2 | h2
   ·rw [gd] at h2; simp at h2
   ·right
    rw [g2]
    simp only [lV,anm] at h2 ⊢
    omega
theorem nA.qM (T:nA cx Z J F w Z' J' F' w' lw lh) {x:AV} (h:qM Z x):qM Z' x:=by
 have key:∀(q:Nat) (f:Root->Nat) (n:Nat),(∀R R',Stepped Z J Z' J' lw lh q R R'->f R<=f R')->(∃Q,Z.roots q=some Q/\(Q.bg=true\/n<=f Q))->∃Q,Z'.roots q=some Q/\(Q.bg=true\/n<=f Q):=by
  intro q f n hf ⟨Q,h1,h2⟩
  obtain ⟨R',g1,g2⟩:=T.old _ Q h1
  refine ⟨R',g1, ?_⟩
  rcases g2 with ⟨g2,_⟩ | ⟨gd,g2⟩
  ·exact .inl g2
  ·rcases h2 with h2 | h2
   ·rw [gd] at h2; simp at h2
   ·exact .inr (aov h2 (hf _ _ g2))
 cases x with
 | undef=>trivial
 | val k x Tg=>exact fun t ht=>T.tag (h t ht)
 | jy=>trivial
 | ref q g=>exact key q (·.g) g (fun R R' h=>h.2.2.1) h
 | FM q g k p=>exact key q (·.g) g (fun R R' h=>h.2.2.1) h
 | rH q p n=>exact key q Root.qJ n (fun R R' h=>by simp only [Root.qJ,h.1,h.2.1,lV,anm]; omega) h
 | ptr q p n=>exact key q (fun R=>gY R.h) n (fun R R' h=>by simp only [h.2.1,lV,anm]; omega) h
 | jE bt k x Tg=>exact fun t ht=>T.tag (h t ht)
 | rA=>trivial
 | yI _=>trivial
 | part q g _ _ _=>exact key q (·.g) g (fun R R' h=>h.2.2.1) h
 | wT q p n _=>exact key q Root.qJ n (fun R R' h=>by simp only [Root.qJ,h.1,h.2.1,lV,anm]; omega) h
 | sub q p n _ _ _=>exact key q Root.qJ n (fun R R' h=>by simp only [Root.qJ,h.1,h.2.1,lV,anm]; omega) h
 | sel q p n q2 _ _=>
  refine ⟨key q Root.qJ n (fun R R' h=>by simp only [Root.qJ,h.1,h.2.1,lV,anm]; omega) h.1, ?_⟩
  obtain ⟨R,hR⟩:=h.2
  obtain ⟨R',g1,_⟩:=T.old _ R hR
  exact ⟨R',g1⟩
 | app q p n q2=>
  refine ⟨key q Root.qJ n (fun R R' h=>by simp only [Root.qJ,h.1,h.2.1,lV,anm]; omega) h.1, ?_⟩
  obtain ⟨R,hR⟩:=h.2
  obtain ⟨R',g1,_⟩:=T.old _ R hR
  exact ⟨R',g1⟩
 | fn f cs=>exact fun c hc t ht=>T.tag (h c hc t ht)
theorem nA.wO (T:nA cx Z J F w Z' J' F' w' lw lh) {x:wL} (h:wO Z x):wO Z' x:=by
 cases x with
 | one a=>exact T.qM h
 | Hq l=>exact fun a ha=>T.qM (h a ha)
 | lit _ _ l=>exact fun a ha=>T.qM (h a ha)
theorem nA.held (H:Rel cx Z J F a w) (T:nA cx Z J F w Z' J' F' w' lw lh) {Tg:List Tag} {tys:List TypeId} (hw:fG Z Tg) (hc:bD Z' tys Tg=true) {r n b:Nat} {R:Root} (hr:aQ Z r R) (hn:(r,n)∈Tg) (hbr:b∈blk J R r)
  (hty:(∃t∈tys,vo (hp w) b t)/\¬mD cx b\/∀t∈Tg,gy t.1=true):clean R.w n tys=true/\¬Loose cx Z' lw w r b:=by
 have hnr:gy r=false:=(H.dG r R hr.1).2.1
 rw [oo] at hc
 rcases hc (r,n) hn with h | ⟨Q,h1,h2,h3⟩
 ·simp only at h; rw [hnr] at h; simp at h
 ·obtain ⟨R',g1,g2⟩:=T.old _ R hr.1
  simp only at h1 h3
  rw [g1] at h1
  simp only [ane] at h1
  subst h1
  rcases g2 with ⟨g2,_⟩ | ⟨gd,g2,_⟩
  ·rw [h2] at g2; simp at g2
  ·have hb:n<=gY R.w:=by
    rcases hw (r,n) hn with h | ⟨Q,q1,q2⟩
    ·simp only at h; rw [hnr] at h; simp at h
    ·simp only at q1 q2
     rw [hr.1] at q1
     simp only [ane] at q1
     subst q1
     rcases q2 with q2 | q2
     ·rw [hr.2] at q2; simp at q2
     ·exact q2
   rw [g2,o7 hb] at h3
   refine ⟨h3.2, ?_⟩
   rintro (hx | ⟨e,he,hel⟩ | ⟨hx,_⟩)
   rotate_left 2
   ·rcases hty with ⟨_,hnb⟩ | hty
    ·exact hnb hx
    ·have:=hty (r,n) hn
     simp only at this
     rw [hnr] at this
     simp at this
   ·have:=hx R' g1
    rw [h2] at this
    simp at this
   ·rcases hty with ⟨⟨t,ht,U9⟩,_⟩ | hty
    ·have U9:=H.Po ((H.roots r R hr).mine b hbr) U9
     rw [hel] at U9
     simp only [ane] at U9
     subst U9
     exact h3.1 e he ht
    ·have:=hty (r,n) hn
     simp only at this
     rw [hnr] at this
     simp at this
theorem nA.views (H:Rel cx Z J F a w) (T:nA cx Z J F w Z' J' F' w' lw lh):Views cx Z J F w Z' J' F' w':=by
 intro Tg tys hw hc
 refine ⟨?_, ?_⟩
 ·rw [oo]
  intro t ht
  have hc':=oo.1 hc t ht
  rcases hw t ht with h | ⟨R,h1,h2⟩
  ·exact .inl h
  ·cases hd:R.bg with
   | false=>
    refine .inr ⟨R,h1,hd, ?_⟩
    rcases hc' with hx | ⟨Q,q1,q2,q3⟩
    ·have:=(H.dG _ _ h1).2.1
     rw [hx] at this
     simp at this
    ·obtain ⟨R',g1,g2⟩:=T.old _ R h1
     rw [g1] at q1
     simp only [ane] at q1
     subst q1
     rcases g2 with ⟨g2,_⟩ | ⟨_,g2,_⟩
     ·rw [q2] at g2; simp at g2
     ·rcases h2 with h2 | h2
      ·rw [hd] at h2; simp at h2
      ·rw [g2,o7 h2] at q3
       exact q3.2
   | true=>
    rcases hc' with hx | ⟨Q,q1,q2,q3⟩
    ·exact .inl hx
    ·obtain ⟨R',g1,g2⟩:=T.old _ R h1
     rw [g1] at q1
     simp only [ane] at q1
     subst q1
     rcases g2 with ⟨g2,_⟩ | ⟨g2,_⟩
     ·rw [q2] at g2; simp at g2
     ·rw [hd] at g2; simp at g2
 ·have hQ:∀b,GH Z J F w Tg b->((∃t∈tys,vo (hp w) b t)/\¬mD cx b\/∀t∈Tg,gy t.1=true)->GH Z' J' F' w' Tg b/\hp w' b=hp w b:=by
   intro b hb hty
   obtain ⟨hb1,hb2,hb3⟩:=hb
   have hno:¬∃r R,aQ Z r R/\b∈blk J R r/\Loose cx Z' lw w r b:=by
    rintro ⟨r,R,hr,hbr,hl⟩
    obtain ⟨n,hn⟩:=hb3 r R hr hbr
    exact (T.held H hw hc hr hn hbr hty).2 hl
   have hsame:hp w' b=hp w b:=by
    refine anC fun hne=>?_
    rcases T.Nk b hb1 hne with h | h
    ·exact hb2 h
    ·exact hno h
   have hnew:¬(b∈F\/(w.heap.size<=b/\b<w'.heap.size)\/∃r R,aQ Z r R/\b∈blk J R r/\Loose cx Z' lw w r b):=by
    rintro (h | h | h)
    ·exact hb2 h
    ·omega
    ·exact hno h
   refine ⟨⟨an5 hb1 T.size,fun hF=>hnew (T.new b (.inr hF)), ?_⟩,hsame⟩
   intro q Q hq hbq
   by_cases e:∃R,aQ Z q R/\b∈blk J R q
   ·obtain ⟨R,hR,hbR⟩:=e
    exact hb3 q R hR hbR
   ·exact absurd (T.new b (.inl ⟨q,Q,hq,hbq,e⟩)) hnew
  refine ⟨fun b hb hty=>?_,hQ⟩
  obtain ⟨hb1,hb2,hb5,hb3,hb4⟩:=hb
  obtain ⟨⟨g1,g2,g3⟩,g4⟩:=hQ b ⟨hb1,hb2,hb3⟩ (hty.imp (fun h=>⟨h,hb5⟩) id)
  exact ⟨⟨g1,g2,hb5,g3,hb4⟩,g4⟩
theorem nA.stay (H:Rel cx Z J F a w) (T:nA cx Z J F w Z' J' F' w' lw lh) {q:Nat} {Q:Root} (hq:aQ Z q Q) (hs:Same Z J Z' J' q):∀b∈blk J Q q,¬(b∈F\/(w.heap.size<=b/\b<w'.heap.size)\/∃r R,aQ Z r R/\b∈blk J R r/\Loose cx Z' lw w r b):=by
 rintro b hb (h | h | ⟨r,R,hr,hbr,hl⟩)
 ·exact H.iY q Q hq b hb h
 ·have:=((H.roots q Q hq).mine b hb).1; omega
 ·by_cases e:q=r
  ·subst e
   obtain ⟨R',g1,g2⟩:=T.old _ Q hq.1
   have hR':R'=Q:=by
    have:=hs.root
    rw [g1,hq.1] at this
    simpa using this
   subst hR'
   rcases g2 with ⟨g2,_⟩ | ⟨_,g2,_⟩
   ·rw [hq.2] at g2; simp at g2
   ·have hw0:lw q=[]:=by
     have:=congrArg List.length g2
     simp at this
     exact this
    rcases hl with hl | ⟨e,he,_⟩ | ⟨_,hl⟩
    ·have:=hl R' g1
     rw [hq.2] at this
     simp at this
    ·rw [hw0] at he; simp at he
    ·exact hl hw0
  ·exact H.EK q Q r R hq hr e b hb hbr
theorem nA.other (H:Rel cx Z J F a w) (T:nA cx Z J F w Z' J' F' w' lw lh) {q:Nat} {Q:Root} (hq:aQ Z q Q) (hs:Same Z J Z' J' q):∀b∈blk J Q q,hp w' b=hp w b:=by
 intro b hb
 refine anC fun hne=>?_
 have:=T.stay H hq hs b hb
 rcases T.Nk b ((H.roots q Q hq).mine b hb).1 hne with h | h
 ·exact this (.inl h)
 ·exact this (.inr (.inr h))
theorem nA.av (H:Rel cx Z J F a w) (T:nA cx Z J F w Z' J' F' w' lw lh)
  (CW:∀r R,aQ Z r R->¬Same Z J Z' J' r->∀p n v,n<=gY R.h->bN cx Z J F w (.ptr r p n) v->bN cx Z' J' F' w' (.ptr r p n) v)
  (zZ:∀r R,aQ Z r R->¬Same Z J Z' J' r->∀g v,g<=R.g->bN cx Z J F w (.ref r g) v->bN cx Z' J' F' w' (.ref r g) v)
  {x:AV} {v:Value} (hx:Ow.qM Z x) (h:bN cx Z J F w x v):bN cx Z' J' F' w' x v:=by
 have hV:=T.views H
 have yH:∀{q:Nat} {Q:Root} {p:List Stp},Z.roots q=some Q->Same Z J Z' J' q->bB Z' Q->mG p Q.k Q.x->(∀t∈ah p Q.k,az t Q.own=true)->
   bH (hp w') p Q.k (J'.hdr q) (dY J' Q q)=bH (hp w) p Q.k (J.hdr q) (dY J Q q):=by
  intro q Q p hq hs hv hin hty
  have hv':=qI hV (H.dG q Q hq).1 hv
  have hlive:aQ Z q Q:=⟨hq,hv'.1⟩
  rw [hs.hdr,hs.wh]
  exact Gy p ((H.roots q Q hlive).ow hv') hin hty (fun b hb=>T.other H hlive hs b (ang _ hb))
 have hlive:∀{q:Nat} {Q R':Root},Z.roots q=some Q->Z'.roots q=some R'->R'.bg=false->aQ Z q Q/\Stepped Z J Z' J' lw lh q Q R':=by
  intro q Q R' h1 h2 hd
  obtain ⟨R'',g1,g2⟩:=T.old _ Q h1
  rw [h2] at g1
  simp only [ane] at g1
  subst g1
  rcases g2 with ⟨g2,_⟩ | ⟨gd,g2⟩
  ·rw [hd] at g2; simp at g2
  ·exact ⟨⟨h1,gd⟩,g2⟩
 have Vo:∀q g v,Ow.qM Z (.ref q g)->bN cx Z J F w (.ref q g) v->bN cx Z' J' F' w' (.ref q g) v:=by
  intro q g v hx h
  obtain ⟨Q,h1,h2⟩:=hx
  intro R' hR' hg
  obtain ⟨hl,hst⟩:=hlive h1 hR'.1 hR'.2
  by_cases e:Same Z J Z' J' q
  ·have hQ:R'=Q:=by
    have:=e.root
    rw [hR'.1,h1] at this
    simpa using this
   subst hQ
   have:=h R' hl hg
   rw [e.hdr]
   exact this
  ·rcases h2 with h2 | h2
   ·rw [hl.2] at h2; simp at h2
   ·exact zZ q Q hl e g v h2 h R' hR' hg
 have Ql:∀{q:Nat} {Q R':Root} {n:Nat},Z.roots q=some Q->(Q.bg=true\/n<=Q.qJ)->Z'.roots q=some R'->R'.bg=false->R'.qJ=n->aQ Z q Q/\Same Z J Z' J' q:=by
  intro q Q R' n h1 h2 hR' hd hn
  obtain ⟨hl,hst⟩:=hlive h1 hR' hd
  obtain ⟨s1,s2,_,_,_,_,s6⟩:=hst
  rcases s6 with s6 | ⟨_,_,e⟩
  ·exfalso
   rcases h2 with h2 | h2
   ·rw [hl.2] at h2; simp at h2
   ·simp only [Root.qJ,s1,s2,lV,anm] at hn h2
    rcases s6 with g5 | g5 <;> (have:=apN.2 g5; omega)
  ·exact ⟨hl,e⟩
 cases x with
 | undef=>trivial
 | val k x Tg=>
  intro hc
  rcases hc with hc | hc
  ·obtain ⟨cs,h1,h2⟩:=h (.inl hc)
   exact ⟨cs,h1,jA hc h2⟩
  ·obtain ⟨cs,h1,h2⟩:=h (.inr (hV Tg _ hx hc).1)
   exact ⟨cs,h1,hV.vw hx hc (fun _ h=>h) h2⟩
 | jy=>exact h
 | ref q g=>exact Vo q g v hx h
 | FM q g k p=>
  obtain ⟨u,b,off,k1,e1,hq,hc,e2,hr⟩:=h
  obtain ⟨h1,h2⟩:=(hV [] [] (fun _ h=>by simp at h) rfl).2.2 b hq (.inr (fun _ h=>by simp at h))
  exact ⟨u,b,off,k1,e1,h1,hc.congr h2,e2,Vo q g u hx hr⟩
 | rH q p n=>
  obtain ⟨Q,h1,h2⟩:=hx
  intro R' hR' hv hn d hd
  obtain ⟨hl,hst⟩:=hlive h1 hR' hv.1
  obtain ⟨s1,s2,_,_,_,_,s6⟩:=hst
  rcases s6 with s6 | ⟨_,_,e⟩
  ·exfalso
   rcases h2 with h2 | h2
   ·rw [hl.2] at h2; simp at h2
   ·simp only [Root.qJ,s1,s2,lV,anm] at hn h2
    rcases s6 with g5 | g5 <;> (have:=apN.2 g5; omega)
  ·have hQ:R'=Q:=by
    have:=e.root
    rw [hR',h1] at this
    simpa using this
   subst hQ
   have hv':=qI hV (H.dG q R' h1).1 hv
   obtain ⟨h1',h2',cs,wh,h3,h4⟩:=h R' h1 hv' hn d hd
   exact ⟨h1',h2',cs,wh,by rw [yH h1 e hv h1' h2']; exact h3,h4⟩
 | ptr q p n=>
  obtain ⟨Q,h1,h2⟩:=hx
  refine ⟨h.1, ?_⟩
  intro R' hR' hv hn hty hs
  obtain ⟨hl,hst⟩:=hlive h1 hR' hv.1
  by_cases e:Same Z J Z' J' q
  ·have hQ:R'=Q:=by
    have:=e.root
    rw [hR',h1] at this
    simpa using this
   subst hQ
   have hv':=qI hV (H.dG q R' h1).1 hv
   obtain ⟨h1',cs,b,o,h3,h4⟩:=h.2 R' h1 hv' hn hty hs
   exact ⟨h1',cs,b,o,by rw [yH h1 e hv h1' hty]; exact h3,h4⟩
  ·rcases h2 with h2 | h2
   ·rw [hl.2] at h2; simp at h2
   ·exact (CW q Q hl e p n v h2 h).2 R' hR' hv hn hty hs
 | jE bt k x Tg=>exact hV.ro hx h
 | rA=>exact h
 | yI _=>exact h
 | part q g lo hi sz=>
  obtain ⟨b',b,n,c,e1,e2,e3,e4,e5,hr⟩:=h
  exact ⟨b',b,n,c,e1,e2,e3,e4,e5,Vo q g (.slice b n c) hx hr⟩
 | wT q p n m=>
  obtain ⟨Q,h1,h2⟩:=hx
  obtain ⟨b,c,ev,h⟩:=h
  refine ⟨b,c,ev, ?_⟩
  intro R' hR' hv hn d hd
  obtain ⟨hl,e⟩:=Ql h1 h2 hR' hv.1 hn
  have hQ:R'=Q:=by
   have:=e.root
   rw [hR',h1] at this
   simpa using this
  subst hQ
  have hv':=qI hV (H.dG q R' h1).1 hv
  obtain ⟨h1',h2',n',wh,h3,h4⟩:=h R' h1 hv' hn d hd
  exact ⟨h1',h2',n',wh,by rw [yH h1 e hv h1' h2']; exact h3,h4⟩
 | sub q p n lo hi sz=>
  obtain ⟨Q,h1,h2⟩:=hx
  obtain ⟨b',b,m,c,ev,eb,e2,e3,e4,h⟩:=h
  refine ⟨b',b,m,c,ev,eb,e2,e3,e4, ?_⟩
  intro R' hR' hv hn d hd
  obtain ⟨hl,e⟩:=Ql h1 h2 hR' hv.1 hn
  have hQ:R'=Q:=by
   have:=e.root
   rw [hR',h1] at this
   simpa using this
  subst hQ
  have hv':=qI hV (H.dG q R' h1).1 hv
  obtain ⟨h1',h2',wh,h3⟩:=h R' h1 hv' hn d hd
  exact ⟨h1',h2',wh,by rw [yH h1 e hv h1' h2']; exact h3⟩
 | sel q p n q2 x y=>
  obtain ⟨⟨Q,h1,h2⟩,⟨Q2,h12⟩⟩:=hx
  intro R' hR' hv hn R2 hR2 hn2
  obtain ⟨hl,e⟩:=Ql h1 h2 hR' hv.1 hn
  have hQ:R'=Q:=by
   have:=e.root
   rw [hR',h1] at this
   simpa using this
  subst hQ
  obtain ⟨hl2,abj⟩:=hlive h12 hR2.1 hR2.2
  have e2:Same Z J Z' J' q2:=by
   obtain ⟨s1,s2,_,_,_,_,s6⟩:=abj
   rcases s6 with s6 | ⟨_,_,e⟩
   ·exfalso
    simp only [Root.qJ,s1,s2,lV,anm] at hn2
    rcases s6 with g5 | g5 <;> (have:=apN.2 g5; omega)
   ·exact e
  have U0:R2=Q2:=by
   have:=e2.root
   rw [hR2.1,h12] at this
   simpa using this
  subst U0
  have hv':=qI hV (H.dG q R' h1).1 hv
  obtain ⟨te,kk,xs,wh,bb,m,c,bq,m1,c1,a1,a2,a3,a4,a5,a6,a7,a8,a9⟩:=h R' h1 hv' hn R2 hl2 hn2
  refine ⟨te,kk,xs,wh,bb,m,c,bq,m1,c1,a1,a2,a3,by rw [yH h1 e hv a2 a3]; exact a4,a5,by rw [e2.hdr]; exact a6,a7,a8,fun hm=>?_⟩
  obtain ⟨b1,o1,b0,o0,y1,y2,y3,y4,y5⟩:=a9 hm
  have hs1:hp w' b1=hp w b1:=T.other H hl2 e2 b1 (ang _ y3)
  have hs0:hp w' b0=hp w b0:=T.other H hl e b0 (ang _ y4)
  exact ⟨b1,o1,b0,o0,y1,y2,by rw [e2.fo]; exact y3,by rw [e.fo]; exact y4,fun j i hj hi=>by rw [mV hs1,mV hs0]; exact y5 j i hj hi⟩
 | app q p n q2=>
  obtain ⟨⟨Q,h1,h2⟩,⟨Q2,h12⟩⟩:=hx
  intro R' hR' hv hn R2 hR2 hn2
  obtain ⟨hl,e⟩:=Ql h1 h2 hR' hv.1 hn
  have hQ:R'=Q:=by
   have:=e.root
   rw [hR',h1] at this
   simpa using this
  subst hQ
  obtain ⟨hl2,abj⟩:=hlive h12 hR2.1 hR2.2
  have e2:Same Z J Z' J' q2:=by
   obtain ⟨s1,s2,_,_,_,_,s6⟩:=abj
   rcases s6 with s6 | ⟨_,_,e⟩
   ·exfalso
    simp only [Root.qJ,s1,s2,lV,anm] at hn2
    rcases s6 with g5 | g5 <;> (have:=apN.2 g5; omega)
   ·exact e
  have U0:R2=Q2:=by
   have:=e2.root
   rw [hR2.1,h12] at this
   simpa using this
  subst U0
  have hv':=qI hV (H.dG q R' h1).1 hv
  obtain ⟨te,kk,xs,wh,b,m,c,ce,hq,b1,o1,c1,arr,lo,hi,a1,a2,a3,a4,a5,a6,a7,a8,a9,a10,Uo,a12,a13,a14⟩:=h R' h1 hv' hn R2 hl2 hn2
  have hsR:∀b∈J.fo q,hp w' b=hp w b:=fun b hb=>T.other H hl e b (ang _ hb)
  have hsQ:∀b∈J.fo q2,hp w' b=hp w b:=fun b hb=>T.other H hl2 e2 b (ang _ hb)
  have hb1:hp w' b1=hp w b1:=by
   rcases a14 with ⟨_,h,_⟩ | ⟨_,h,_⟩
   ·exact hsR b1 h
   ·exact hsQ b1 h
  refine ⟨te,kk,xs,wh,b,m,c,ce,hq,b1,o1,c1,arr,lo,hi,a1,a2,a3,by rw [yH h1 e hv a2 a3]; exact a4,a5,by rw [e2.hdr]; exact a6,a7,a8,a9,hb1.trans a10,Uo,a12,a13.congr hb1, ?_⟩
  rcases a14 with ⟨z1,z2,z3⟩ | ⟨z1,z2,z3⟩
  ·exact .inl ⟨z1,by rw [e.fo]; exact z2,z3⟩
  ·refine .inr ⟨z1,by rw [e2.fo]; exact z2,fun hm=>?_⟩
   obtain ⟨b0,o0,y1,y2,y3⟩:=z3 hm
   exact ⟨b0,o0,y1,by rw [e.fo]; exact y2,fun i hi'=>by rw [mV hb1,mV (hsR b0 y2)]; exact y3 i hi'⟩
 | fn f cs=>
  obtain ⟨vs,h1,h2⟩:=h
  exact ⟨vs,h1,hV.caps hx h2⟩
theorem AL {cx:Cx} {Z Z':St} {J J':dP} {F F':List Nat} {w w':World} {P:AV->Prop} (h:∀x v,P x->bN cx Z J F w x v->bN cx Z' J' F' w' x v) :
  ∀{l:List AV} {vs:List Value},(∀x∈l,P x)->eD cx Z J F w l vs->eD cx Z' J' F' w' l vs
 | [],[],_,_=>trivial
 | x :: l,v :: vs,hp,hl=>⟨h x v (hp x (by simp)) hl.1,AL h (fun y hy=>hp y (by simp [hy])) hl.2⟩
 | [],_ :: _,_,hl=>hl.elim
 | _ :: _,[],_,hl=>hl.elim
theorem QM {cx:Cx} {Z Z':St} {J J':dP} {F F':List Nat} {w w':World} (h:∀x v,qM Z x->bN cx Z J F w x v->bN cx Z' J' F' w' x v) {x:wL} {v:Value} (hx:wO Z x) (hv:jG cx Z J F w x v):jG cx Z' J' F' w' x v:=by
 cases x with
 | one a=>exact h a v hx hv
 | Hq l=>
  obtain ⟨vs,h1,h2⟩:=hv
  exact ⟨vs,h1,AL h hx h2⟩
 | lit _ _ l=>
  obtain ⟨vs,cs,h1,h2⟩:=hv
  exact ⟨vs,cs,h1,AL h hx h2⟩
theorem Rel.turn (H:Rel cx Z J F a w) (T:nA cx Z J F w Z' J' F' w' lw lh)
  (hroot:∀r R,aQ Z' r R->¬Same Z J Z' J' r->(bB Z' R->Ow (hp w') R.own (jc cx Z' J' F' w' R.tags) R.k R.x (J'.hdr r) (J'.fo r))/\(J'.hdr r).length=R.k.size/\
   (∀b o,dY J' R r=some (b,o)->Cells (hp w') b o (J'.hdr r)/\∃arr e lo hi,hp w' b=some (.cells arr e (lo,hi))/\zY arr.size lo hi/\o+R.k.size<=arr.size/\(∀t,R.kind=.var t->e=t))/\
   (blk J' R r).Nodup)
  (CW:∀r R,aQ Z r R->¬Same Z J Z' J' r->∀p n v,n<=gY R.h->bN cx Z J F w (.ptr r p n) v->bN cx Z' J' F' w' (.ptr r p n) v)
  (zZ:∀r R,aQ Z r R->¬Same Z J Z' J' r->∀g v,g<=R.g->bN cx Z J F w (.ref r g) v->bN cx Z' J' F' w' (.ref r g) v) :
  Rel cx Z' J' F' a w':=by
 have hV:=T.views H
 have Vi:∀{r R b},aQ Z r R->b∈blk J R r->mine cx w' b:=fun hr hb=>by
  have:=(H.roots _ _ hr).mine _ hb
  exact ⟨an5 this.1 T.size,this.2⟩
 have ko:∀b,(b∈F\/(w.heap.size<=b/\b<w'.heap.size)\/∃r R,aQ Z r R/\b∈blk J R r/\Loose cx Z' lw w r b)->mine cx w' b:=by
  rintro b (hb | hb | ⟨r,R,hr,hb,_⟩)
  ·have:=H.fl b hb
   exact ⟨an5 this.1 T.size,this.2⟩
  ·exact ⟨hb.2, .inl (aov H.frame.2.2.2.1 hb.1)⟩
  ·exact Vi hr hb
 have Vh:∀{r R b},aQ Z' r R->b∈blk J' R r->mine cx w' b:=by
  intro r R b hr hb
  by_cases e:∃Q,aQ Z r Q/\b∈blk J Q r
  ·obtain ⟨Q,hQ,hbQ⟩:=e
   exact Vi hQ hbQ
  ·exact ko b (T.new b (.inl ⟨r,R,hr,hb,e⟩))
 have Mm:∀{q Q r R b},aQ Z' q Q->Same Z J Z' J' q->aQ Z' r R->r≠q->b∈blk J' Q q->b∉blk J' R r:=by
  intro q Q r R b hq hs hr hne hb hb'
  have hq':=(hs.live Q).1 hq
  rw [hs.blk] at hb
  by_cases e:∃R0,aQ Z r R0/\b∈blk J R0 r
  ·obtain ⟨R0,h1,h2⟩:=e
   exact H.EK q Q r R0 hq' h1 (Ne.symm hne) b hb h2
  ·exact T.stay H hq' hs b hb (T.new b (.inl ⟨r,R,hr,hb',e⟩))
 constructor
 ·exact H.defs
 ·exact H.sz
 ·intro j pi b o n hj hb
  obtain ⟨R,h1,h2,h3,h4⟩:=H.mE j pi b o n hj hb
  obtain ⟨R',g1,g2⟩:=T.old _ R h1.1
  rcases g2 with g2 | ⟨_,g2⟩
  ·exact absurd h2 g2.2
  ·refine ⟨R',⟨g1, ?_⟩,g2.2.2.2.1.trans h2,g2.2.2.2.2.1.trans h3,(g2.2.2.2.2.2.1 h2).trans h4⟩
   unfold Root.bg
   rw [g2.2.2.2.1,h2]
 ·intro q Q hq hk
  cases hs:Z.roots q with
  | none=>exact absurd hk (T.afY q Q hs hq.1)
  | some R=>
   obtain ⟨R',g1,g2⟩:=T.old q R hs
   rw [hq.1] at g1
   simp only [ane] at g1
   subst g1
   rcases g2 with ⟨g2,_⟩ | ⟨gd,g2⟩
   ·rw [hq.2] at g2; simp at g2
   ·rw [g2.2.2.2.2.1]
    exact H.BX q R ⟨hs,gd⟩ (g2.2.2.2.1▸hk)
 ·intro s
  rw [T.slots]
  exact QM (fun x v hx h=>T.av H CW zZ hx h) (H.rD s) (H.slots s)
 ·intro s
  rw [T.slots]
  exact T.wO (H.rD s)
 ·intro q Q hq
  by_cases e:Same Z J Z' J' q
  ·have hq':=(e.live Q).1 hq
   have K:=H.roots q Q hq'
   have hsame:=T.other H hq' e
   constructor
   ·intro hv
    have hv':=qI hV (H.dG q Q hq'.1).1 hv
    rw [e.hdr,e.fo]
    have hO:=K.ow hv'
    obtain ⟨_,g2,_⟩:=hV Q.tags Q.z8 (H.dG q Q hq'.1).1 hv.2
    exact bE (fun b hb=>(g2 b hb.1 (.inl hb.2)).2) (fun b hb=>(g2 b hb.1 (.inl hb.2)).1) (fun b hb=>hsame b (ang _ hb)) (rQ Q.z8 (fun _ h=>h) hO)
   ·rw [e.hdr]; exact K.len
   ·intro b o hb
    rw [e.wh] at hb
    rw [e.hdr]
    obtain ⟨h1,arr,te,lo,hi,h2,h3⟩:=K.mem b o hb
    have hbb:hp w' b=hp w b:=hsame b (by unfold blk; rw [hb]; simp)
    exact ⟨h1.congr hbb,arr,te,lo,hi,hbb.trans h2,h3⟩
   ·rw [e.blk]; exact K.nd
   ·exact fun b hb=>Vh hq hb
  ·obtain ⟨h1,h2,h3,h4⟩:=hroot q Q hq e
   exact ⟨h1,h2,h3,h4,fun b hb=>Vh hq hb⟩
 ·intro q Q hq
  by_cases e:Same Z J Z' J' q
  ·obtain ⟨h1,h2,h3⟩:=H.dG q Q (by rw [<-e.root]; exact hq)
   exact ⟨fun t ht=>T.tag (h1 t ht),h2,h3⟩
  ·exact T.wr q Q hq e
 ·intro q Q q' Q' hq hq' hne b hb hb'
  by_cases e:Same Z J Z' J' q
  ·exact Mm hq e hq' (Ne.symm hne) hb hb'
  ·by_cases e':Same Z J Z' J' q'
   ·exact Mm hq' e' hq hne hb' hb
   ·exact T.EK q Q q' Q' hq hq' hne e e' b hb hb'
 ·exact fun b hb=>ko b (T.new b (.inr hb))
 ·exact T.xK
 ·intro q Q hq b hb hF
  by_cases e:Same Z J Z' J' q
  ·rw [e.blk] at hb
   exact T.stay H ((e.live Q).1 hq) e b hb (T.new b (.inr hF))
  ·exact T.iY q Q hq e b hb hF
 ·obtain ⟨f1,f2,f3,f4,f5,f6⟩:=H.frame
  refine ⟨T.os.1.trans f1,T.os.2.1.trans f2,T.os.2.2.trans f3,aov f4 T.size, ?_, ?_⟩
  ·intro b hb hno
   have:hp w' b=hp w b:=by
    refine anC fun hne=>?_
    have hm:mine cx w b:=by
     rcases T.Nk b (an5 hb f4) hne with h | ⟨r,R,hr,h,_⟩
     ·exact H.fl b h
     ·exact (H.roots r R hr).mine b h
    rcases hm.2 with h | ⟨j,pi,h1,h2⟩
    ·omega
    ·exact hno j pi h1 h2
   exact this.trans (f5 b hb hno)
  ·intro j pi b o n hj hb
   by_cases hne:hp w' b=hp w b
   ·have:=f6 j pi b o n hj hb
    obtain ⟨arr,kJ,e,fr,h1,h2,h3⟩:=this
    exact ⟨arr,kJ,e,fr,h1,hne.trans h2,h3⟩
   ·exact T.base j pi b o n hj hb hne
 ·intro j pi hj hk
  obtain ⟨R,h1,h2⟩:=H.uf j pi hj hk
  obtain ⟨R',g1,g2⟩:=T.old _ R h1
  refine ⟨R',g1,fun hd b hb hnb=>?_⟩
  rcases g2 with ⟨g2,_⟩ | ⟨gd,g2,_⟩
  ·rw [hd] at g2; simp at g2
  ·have hev:=(T.ev _ R R' h1 g1 hd).1
   rcases h2 gd b hb hnb with ⟨e,he,wR⟩ | ⟨hs,hF,hown⟩
   ·refine .inl ⟨e,he, ?_⟩
    rw [g2,hev]
    rcases wR with h | h
    ·exact .inl (ang _ h)
    ·exact .inr h
   ·by_cases wR:∃e∈lw (aA j),qm (hp w) b=some e
    ·obtain ⟨e,he,hel⟩:=wR
     exact .inl ⟨e,(FU hs).symm.trans hel, .inl (by rw [g2]; exact anj _ he)⟩
    ·have hno:¬∃r Q,aQ Z r Q/\b∈blk J Q r/\Loose cx Z' lw w r b:=by
      rintro ⟨r,Q,hr,hbr,hl⟩
      have e:=hown r Q hr hbr
      subst e
      rcases hl with hl | hl | ⟨hl,_⟩
      ·have:=hl R' g1
       rw [hd] at this
       simp at this
      ·exact wR hl
      ·exact hnb hl
     by_cases hlt:b<w.heap.size
     ·refine .inr ⟨?_, ?_, ?_⟩
      ·refine Eq.trans ?_ hs
       refine anC fun hne=>?_
       rcases T.Nk b hlt hne with h | h
       ·exact hF h
       ·exact hno h
      ·intro hF'
       rcases T.new b (.inr hF') with h | h | h
       ·exact hF h
       ·omega
       ·exact hno h
      ·intro q Q hq hbq
       by_cases e:∃R,aQ Z q R/\b∈blk J R q
       ·obtain ⟨R0,hR0,hbR⟩:=e
        exact hown q R0 hR0 hbR
       ·rcases T.new b (.inl ⟨q,Q,hq,hbq,e⟩) with h | h | h
        ·exact absurd h hF
        ·omega
        ·exact absurd h hno
     ·exact absurd (H.oI.1 j pi hj b hb) (by have:=H.frame.2.2.2.1; omega)
 ·exact H.oI
 ·intro j p ts v hv
  obtain ⟨hvp,R,h1,h2⟩:=H.vJ j p ts v hv
  obtain ⟨R',g1,g2⟩:=T.old _ R h1
  refine ⟨hvp,R',g1,fun ht=>?_⟩
  cases hd:R'.bg with
  | true=>
   rcases g2 with ⟨_,g2⟩ | ⟨gd,g2⟩
   ·refine ⟨hvp,fun Q hQ hv'=>?_⟩
    rw [g1] at hQ
    simp only [ane] at hQ
    subst hQ
    have:=hv'.1
    rw [hd] at this
    simp at this
   ·have:R'.bg=R.bg:=by unfold Root.bg; rw [g2.2.2.2.1]
    rw [hd,gd] at this
    simp at this
  | false=>
   have hev:=(T.ev _ R R' h1 g1 hd).2
   exact T.av H CW zZ (show Ow.qM Z (.ptr (aA j) p 0) from ⟨R,h1, .inr (anO _)⟩) (h2 (by rw [<-hev]; exact ht))
 ·intro j v hv
  obtain ⟨⟨R,h1⟩,h2⟩:=H.vK j v hv
  obtain ⟨R',g1,_⟩:=T.old _ R h1
  exact ⟨⟨R',g1⟩,T.av H CW zZ (show Ow.qM Z (.ref (aA j) 0) from ⟨R,h1, .inr (anO _)⟩) h2⟩
end
def au (Z:St) (r:Nat) (R:Root):St:={ Z with roots:=upd Z.roots r (some R) }
def aG (J:dP) (r:Nat) (loc:Nat×Nat) (hdr:List Value) (fo:List Nat):dP:=⟨upd J.loc r loc,upd J.hdr r hdr,upd J.fo r fo⟩
theorem aI (Z:St) (r:Nat) (R:Root):(au Z r R).roots r=some R:=upd_same _ _ _
theorem bP (Z:St) {r q:Nat} (R:Root) (h:q≠r):(au Z r R).roots q=Z.roots q:=upd_ne _ _ h
theorem Gt {Z:St} {r q:Nat} {R Q:Root} (h:q≠r):aQ (au Z r R) q Q↔aQ Z q Q:=by unfold aQ; rw [bP Z R h]
theorem eP {Z:St} {r:Nat} {R Q:Root} (h:aQ (au Z r R) r Q):Q=R/\R.bg=false:=by
 have h1:=h.1
 rw [aI] at h1
 simp only [ane] at h1
 subst h1
 exact ⟨rfl,h.2⟩
theorem gV {Z:St} {J:dP} {r q:Nat} {R:Root} {loc:Nat×Nat} {hdr:List Value} {fo:List Nat} (h:q≠r):Same Z J (au Z r R) (aG J r loc hdr fo) q:=
 ⟨bP Z R h,upd_ne _ _ h,upd_ne _ _ h,upd_ne _ _ h⟩
theorem mg (Z:St) (J:dP) (q:Nat):Same Z J Z J q:=⟨rfl,rfl,rfl,rfl⟩
def iX (R:Root) (loc:Nat×Nat) (fo:List Nat):List Nat:=(match R.kind with
 | .var _=>[loc.1]
 | .par=>[loc.1]
 | _=>[])++fo
theorem fB {J:dP} {r:Nat} {loc:Nat×Nat} {hdr:List Value} {fo:List Nat} {Q:Root}:blk (aG J r loc hdr fo) Q r=iX Q loc fo:=by
 unfold blk iX dY aG
 simp only [upd_same] <;> cases Q.kind <;> rfl
theorem bX (J:dP) (R:Root) (r:Nat):blk J R r=iX R (J.loc r) (J.fo r):=by
 unfold blk iX dY
 cases R.kind <;> rfl
def vZ (R:Root) (loc:Nat×Nat):Option (Nat×Nat):=match R.kind with
 | .var _=>some loc
 | .par=>some loc
 | _=>none
theorem kE {J:dP} {r:Nat} {loc:Nat×Nat} {hdr:List Value} {fo:List Nat} {Q:Root}:dY (aG J r loc hdr fo) Q r=vZ Q loc:=by
 unfold dY vZ aG
 simp only [upd_same] <;> cases Q.kind <;> rfl
theorem uo (J:dP) (R:Root) (r:Nat):dY J R r=vZ R (J.loc r):=rfl
end
section
open Go
variable [Fr]
def jX (Z:St) (s:Nat->wL):St:=⟨s,Z.roots⟩
theorem qZ (Z:St) (s:Nat->wL) (tys:List TypeId):∀(T:List Tag),bD (jX Z s) tys T=bD Z tys T
 | []=>rfl
 | (r,n) :: T=>by simp only [bD,qZ Z s tys T]; rfl
section
variable {cx:Cx} {Z:St} {J:dP} {F:List Nat} {a:Act} {w:World}
theorem Jg (s:Nat->wL):jc cx (jX Z s) J F w=jc cx Z J F w:=rfl
theorem GY (s:Nat->wL) {bt:TypeId} {k:K} {x:El k} {T:List Tag} {v:Value}:GX cx (jX Z s) J F w bt k x T v↔GX cx Z J F w bt k x T v:=by
 unfold GX
 rw [qZ,Jg]
 exact Iff.rfl
theorem Bu (s:Nat->wL):∀{cs:List (TypeId×Dat×List Tag)} {vs:List Value},lD cx (jX Z s) J F w cs vs↔lD cx Z J F w cs vs
 | [],[]=>Iff.rfl
 | c :: cs,v :: vs=>by simp only [lD,GY s,Bu s]
 | [],_ :: _=>Iff.rfl
 | _ :: _,[]=>Iff.rfl
theorem lq (s:Nat->wL) {R:Root}:bB (jX Z s) R↔bB Z R:=by unfold bB; rw [qZ]
theorem xL (s:Nat->wL) {x:AV} {v:Value}:bN cx (jX Z s) J F w x v↔bN cx Z J F w x v:=by
 cases x with
 | undef=>exact Iff.rfl
 | val k x T=>simp only [bN,qZ,Jg]
 | jy=>exact Iff.rfl
 | ref r g=>exact Iff.rfl
 | FM r g k p=>exact Iff.rfl
 | rH r p n=>simp only [bN,lq]; exact Iff.rfl
 | ptr r p n=>simp only [bN,lq]; exact Iff.rfl
 | jE bt k x T=>exact GY s
 | rA=>exact Iff.rfl
 | yI _=>exact Iff.rfl
 | part _ _ _ _ _=>exact Iff.rfl
 | wT _ _ _ _=>simp only [bN,lq]; exact Iff.rfl
 | sub _ _ _ _ _ _=>simp only [bN,lq]; exact Iff.rfl
 | sel _ _ _ _ _ _=>simp only [bN,lq]; exact Iff.rfl
 | app _ _ _ _=>simp only [bN,lq]; exact Iff.rfl
 | fn f cs=>simp only [bN,Bu s]
theorem yj (s:Nat->wL):∀{l:List AV} {vs:List Value},eD cx (jX Z s) J F w l vs↔eD cx Z J F w l vs
 | [],[]=>Iff.rfl
 | c :: cs,v :: vs=>by simp only [eD,xL s,yj s]
 | [],_ :: _=>Iff.rfl
 | _ :: _,[]=>Iff.rfl
theorem DF (s:Nat->wL) {x:wL} {v:Value}:jG cx (jX Z s) J F w x v↔jG cx Z J F w x v:=by
 cases x with
 | one a=>exact xL s
 | Hq l=>simp only [jG,yj s]
 | lit _ _ l=>simp only [jG,yj s]
theorem Fj (s:Nat->wL) {x:wL}:wO (jX Z s) x↔wO Z x:=by cases x <;> exact Iff.rfl
theorem Rel.put (H:Rel cx Z J F a w) {d:Nat} {x:wL} {v:Value} (hd:d<cx.nt) (hw:wO Z x) (hx:jG cx Z J F w x v) :
  Rel cx (jX Z (upd Z.slots d x)) J F (a.put (some d) v) w where
 defs:=H.defs
 sz:=by simpa [Act.put] using H.sz
 mE:=H.mE
 BX:=H.BX
 slots:=by
  intro s
  rw [DF]
  show jG cx Z J F w (upd Z.slots d x s) _
  by_cases e:s=d
  ·subst e
   rw [upd_same]
   have:(a.put (some s) v).tmps.getD s undef=v:=by
    have:=H.sz
    simp [Act.put,aoU (show s<a.tmps.size by omega)]
   rw [this]
   exact hx
  ·rw [upd_ne _ _ e]
   have:(a.put (some d) v).tmps.getD s undef=a.tmps.getD s undef:=by
    simp [Act.put,aoV (Ne.symm e)]
   rw [this]
   exact H.slots s
 rD:=by
  intro s
  rw [Fj]
  show wO Z (upd Z.slots d x s)
  by_cases e:s=d
  ·subst e; rw [upd_same]; exact hw
  ·rw [upd_ne _ _ e]; exact H.rD s
 roots:=by
  intro r R hr
  have K:=H.roots r R hr
  exact ⟨fun hv=>K.ow ((lq _).1 hv),K.len,K.mem,K.nd,K.mine⟩
 dG:=H.dG
 EK:=H.EK
 fl:=H.fl
 xK:=H.xK
 iY:=H.iY
 frame:=H.frame
 uf:=H.uf
 oI:=H.oI
 vJ:=fun j p ts v h=>let ⟨h0,R,h1,h2⟩:=H.vJ j p ts v h; ⟨h0,R,h1,fun ht=>(xL _).2 (h2 ht)⟩
 vK:=H.vK
def dw (w:World) (n:Nat):World:={ w with drawn:=n }
theorem IW (n:Nat):∀{cs:List (TypeId×Dat×List Tag)} {vs:List Value},lD cx Z J F w cs vs->lD cx Z J F (dw w n) cs vs
 | [],[],_=>trivial
 | _ :: _,_ :: _,h=>⟨h.1,IW n h.2⟩
 | [],_ :: _,h=>h.elim
 | _ :: _,[],h=>h.elim
theorem EF (n:Nat) {x:AV} {v:Value} (h:bN cx Z J F w x v):bN cx Z J F (dw w n) x v:=by
 cases x with
 | fn f cs=>obtain ⟨vs,h1,h2⟩:=h; exact ⟨vs,h1,IW n h2⟩
 | undef=>exact h
 | val k x T=>exact h
 | jy=>exact h
 | ref r g=>exact h
 | FM r g k p=>exact h
 | rH r p n=>exact h
 | ptr r p n=>exact h
 | jE bt k x T=>exact h
 | rA=>exact h
 | yI _=>exact h
 | part _ _ _ _ _=>exact h
 | wT _ _ _ _=>exact h
 | sub _ _ _ _ _ _=>exact h
 | sel _ _ _ _ _ _=>exact h
 | app _ _ _ _=>exact h
theorem Rel.drawn (H:Rel cx Z J F a w) (n:Nat):Rel cx Z J F a (dw w n) where
 defs:=H.defs
 sz:=H.sz
 mE:=H.mE
 BX:=H.BX
 slots:=fun s=>by
  have h:=H.slots s
  generalize Z.slots s=x at h
  cases x with
  | one a=>exact EF n h
  | Hq l=>
   obtain ⟨vs,h1,h2⟩:=h
   refine ⟨vs,h1, ?_⟩
   clear h1
   induction l generalizing vs with
   | nil=>cases vs with
    | nil=>trivial
    | cons v vs=>exact h2.elim
   | cons b l ih=>cases vs with
    | nil=>exact h2.elim
    | cons v vs=>exact ⟨EF n h2.1,ih vs h2.2⟩
  | lit _ _ l=>
   obtain ⟨vs,cs,h1,h2⟩:=h
   refine ⟨vs,cs,h1, ?_⟩
   clear h1
   induction l generalizing vs with
   | nil=>cases vs with
    | nil=>trivial
    | cons v vs=>exact h2.elim
   | cons b l ih=>cases vs with
    | nil=>exact h2.elim
    | cons v vs=>exact ⟨EF n h2.1,ih vs h2.2⟩
 rD:=H.rD
 roots:=fun r R hr=>let K:=H.roots r R hr; ⟨K.ow,K.len,K.mem,K.nd,K.mine⟩
 dG:=H.dG
 EK:=H.EK
 fl:=H.fl
 xK:=H.xK
 iY:=H.iY
 frame:=H.frame
 uf:=H.uf
 oI:=H.oI
 vJ:=fun j p ts v h=>let ⟨h0,R,h1,h2⟩:=H.vJ j p ts v h; ⟨h0,R,h1,fun ht=>EF n (h2 ht)⟩
 vK:=H.vK
def sj (r:Nat) (l:List Nat):Nat->List Nat:=fun q=>if q=r then l else []
theorem uX (r:Nat) (l:List Nat):sj r l r=l:=aoi rfl
theorem qd {r q:Nat} (l:List Nat) (h:q≠r):sj r l q=[]:=aok h
variable {r:Nat} {R R':Root} {hdr':List Value} {dO F':List Nat} {w':World} {lw lh:List Nat}
def Nz (cx:Cx) (R':Root) (lw:List Nat) (w:World) (b:Nat):Prop:=R'.bg=true\/(∃e∈lw,qm (hp w) b=some e)\/(mD cx b/\lw≠[])
structure yN (cx:Cx) (Z:St) (J:dP) (F:List Nat) (w:World) (r:Nat) (R R':Root) (dO F':List Nat) (w':World) (lw lh:List Nat):Prop where
 step:(R'.bg=true/\R.kind≠.par)\/(R'.w=lw++R.w/\R'.h=lh++R.h/\R.g<=R'.g/\R'.kind=R.kind/\(R.kind=.par->R'.k.size=R.k.size)/\(lw≠[]\/lh≠[]))
 tags:fG Z R'.tags/\∀n,(r,n)∉R'.tags
 os:w'.os=w.os/\w'.tape=w.tape/\w'.output=w.output
 size:w.heap.size<=w'.heap.size
 Nk:∀b,b<w.heap.size->hp w' b≠hp w b->b∈F\/(b∈blk J R r/\Nz cx R' lw w b)
 new:R'.bg=false->∀b∈iX R' (J.loc r) dO,b∈blk J R r\/b∈F\/(w.heap.size<=b/\b<w'.heap.size)
 newF:∀b∈F',b∈F\/(w.heap.size<=b/\b<w'.heap.size)\/(b∈blk J R r/\Nz cx R' lw w b)
 xK:F'.Nodup
 iY:R'.bg=false->∀b∈iX R' (J.loc r) dO,b∉F'
 base:∀j pi b o n,cx.par j=some pi->pi.base=some (b,o,n)->r=aA j->hp w' b≠hp w b->iE (hp cx.w0) (hp w') b o n
 ev:R'.bg=false->R'.ew=R.ew/\R'.eh=R.eh
theorem jS {q:Nat} {Q:Root} (h:aQ (au Z r R') q Q):(q=r/\Q=R'/\R'.bg=false)\/(q≠r/\aQ Z q Q):=by
 by_cases e:q=r
 ·subst e
  obtain ⟨h1,h2⟩:=eP h
  exact .inl ⟨rfl,h1,h2⟩
 ·exact .inr ⟨e,(Gt e).1 h⟩
theorem yN.turn (H:Rel cx Z J F a w) (hr:aQ Z r R) (T:yN cx Z J F w r R R' dO F' w' lw lh) :
  nA cx Z J F w (au Z r R') (aG J r (J.loc r) hdr' dO) F' w' (sj r lw) (sj r lh):=by
 have hsame:∀q,q≠r->Same Z J (au Z r R') (aG J r (J.loc r) hdr' dO) q:=fun q h=>gV h
 have Vg:∀b,Nz cx R' lw w b->Loose cx (au Z r R') (sj r lw) w r b:=by
  rintro b (h | ⟨e,he,hb⟩ | ⟨h,hl⟩)
  ·refine .inl fun Q hQ=>?_
   rw [aI] at hQ
   simp only [ane] at hQ
   subst hQ
   exact h
  ·exact .inr (.inl ⟨e,by rw [uX]; exact he,hb⟩)
  ·exact .inr (.inr ⟨h,by rw [uX]; exact hl⟩)
 have hns:∀{q:Nat},¬Same Z J (au Z r R') (aG J r (J.loc r) hdr' dO) q->q=r:=fun {q} h=>anC fun e=>h (hsame q e)
 refine ⟨rfl,T.os,T.size, ?_, ?_, ?_, ?_, ?_,T.xK, ?_, ?_, ?_, ?_⟩
 ·intro q Q hQ
  by_cases e:q=r
  ·subst e
   rw [hr.1] at hQ
   simp only [ane] at hQ
   subst hQ
   refine ⟨R',aI .., ?_⟩
   rcases T.step with h | ⟨h1,h2,h3,h4,h5,h6⟩
   ·exact .inl h
   ·exact .inr ⟨hr.2,by rw [uX]; exact h1,by rw [uX]; exact h2,h3,h4,by simp [aG,upd_same],h5,by rw [uX,uX]; exact .inl h6⟩
  ·refine ⟨Q,by rw [bP Z R' e]; exact hQ, ?_⟩
   cases hd:Q.bg with
   | true=>
    refine .inl ⟨rfl, ?_⟩
    intro hk
    simp [Root.bg,hk] at hd
   | false=>exact .inr ⟨rfl,by rw [qd lw e]; rfl,by rw [qd lh e]; rfl,anv _,rfl,by simp [aG,upd_ne _ _ e],fun _=>rfl, .inr ⟨qd lw e,qd lh e,hsame q e⟩⟩
 ·intro q Q hQ hs
  have e:=hns hs
  subst e
  rw [aI] at hQ
  simp only [ane] at hQ
  subst hQ
  refine ⟨fun t ht=>?_,(H.dG q R hr.1).2.1,T.tags.2⟩
  have hne:t.1≠q:=fun e=>T.tags.2 t.2 (by rw [<-e]; exact ht)
  rcases T.tags.1 t ht with h | ⟨Q,h1,h2⟩
  ·exact .inl h
  ·exact .inr ⟨Q,by rw [bP Z R' hne]; exact h1,h2⟩
 ·intro q Q hn hQ
  have e:q≠r:=fun e=>by rw [e,hr.1] at hn; simp at hn
  rw [bP Z R' e,hn] at hQ
  simp at hQ
 ·intro b hb hne
  exact (T.Nk b hb hne).imp id (fun h=>⟨r,R,hr,h.1,Vg b h.2⟩)
 ·rintro b (⟨q,Q,hq,hb,hno⟩ | hb)
  ·rcases jS hq with ⟨rfl,rfl,hd⟩ | ⟨e,hq'⟩
   ·rw [fB] at hb
    rcases T.new hd b hb with h | h | h
    ·exact absurd ⟨R,hr,h⟩ hno
    ·exact .inl h
    ·exact .inr (.inl h)
   ·rw [(hsame q e).blk] at hb
    exact absurd ⟨Q,hq',hb⟩ hno
  ·rcases T.newF b hb with h | h | h
   ·exact .inl h
   ·exact .inr (.inl h)
   ·exact .inr (.inr ⟨r,R,hr,h.1,Vg b h.2⟩)
 ·intro q Q hq hs b hb
  have e:=hns hs
  subst e
  obtain ⟨rfl,hd⟩:=eP hq
  rw [fB] at hb
  exact T.iY hd b hb
 ·intro q Q q' Q' hq hq' hne hs hs'
  exact absurd ((hns hs).trans (hns hs').symm) hne
 ·intro j pi b o n hj hb hne
  obtain ⟨Q,hQ,hk,hl,hs⟩:=H.mE j pi b o n hj hb
  have hbq:b∈blk J Q (aA j):=by simp [blk,dY,hk,hl]
  have hm:=(H.roots _ _ hQ).mine b hbq
  rcases T.Nk b hm.1 hne with h | ⟨h1,_⟩
  ·exact absurd h (H.iY _ _ hQ b hbq)
  ·refine T.base j pi b o n hj hb ?_ hne
   refine anC fun e=>?_
   exact H.EK _ _ _ _ hr hQ e b h1 hbq
 ·intro q Q Q' hQ hQ' hd
  by_cases e:q=r
  ·subst e
   rw [hr.1] at hQ
   rw [aI] at hQ'
   simp only [ane] at hQ hQ'
   subst hQ
   subst hQ'
   exact T.ev hd
  ·rw [bP Z R' e,hQ] at hQ'
   simp only [ane] at hQ'
   subst hQ'
   exact ⟨rfl,rfl⟩
theorem yN.rel (H:Rel cx Z J F a w) (hr:aQ Z r R) (T:yN cx Z J F w r R R' dO F' w' lw lh)
  (hroot:R'.bg=false->(bB (au Z r R') R'->Ow (hp w') R'.own (jc cx (au Z r R') (aG J r (J.loc r) hdr' dO) F' w' R'.tags) R'.k R'.x hdr' dO)/\hdr'.length=R'.k.size/\
   (∀b o,vZ R' (J.loc r)=some (b,o)->Cells (hp w') b o hdr'/\∃arr e lo hi,hp w' b=some (.cells arr e (lo,hi))/\zY arr.size lo hi/\o+R'.k.size<=arr.size/\(∀t,R'.kind=.var t->e=t))/\
   (iX R' (J.loc r) dO).Nodup)
  (CW:R'.bg=false->∀p n v,n<=gY R.h->bN cx Z J F w (.ptr r p n) v->bN cx (au Z r R') (aG J r (J.loc r) hdr' dO) F' w' (.ptr r p n) v)
  (zZ:R'.bg=false->∀g v,g<=R.g->bN cx Z J F w (.ref r g) v->bN cx (au Z r R') (aG J r (J.loc r) hdr' dO) F' w' (.ref r g) v) :
  Rel cx (au Z r R') (aG J r (J.loc r) hdr' dO) F' a w':=by
 have hns:∀{q:Nat},¬Same Z J (au Z r R') (aG J r (J.loc r) hdr' dO) q->q=r:=fun {q} h=>anC fun e=>h (gV e)
 have hRq:∀{Q:Root},aQ Z r Q->Q=R:=fun {Q} hQ=>by have:=hQ.1; rw [hr.1] at this; simpa using this.symm
 refine H.turn (T.turn H hr) ?_ ?_ ?_
 ·intro q Q hq hs
  have e:=hns hs
  subst e
  obtain ⟨rfl,hd⟩:=eP hq
  obtain ⟨h1,h2,h3,h4⟩:=hroot hd
  refine ⟨fun hv=>?_, ?_, ?_, ?_⟩
  ·have:=h1 hv
   simpa [aG,upd_same] using this
  ·simpa [aG,upd_same] using h2
  ·intro b o hb
   rw [kE] at hb
   have:=h3 b o hb
   simpa [aG,upd_same] using this
  ·rw [fB]; exact h4
 ·intro q Q hq hs p n v hn hv
  have e:=hns hs
  subst e
  obtain rfl:=hRq hq
  cases hd:R'.bg with
  | false=>exact CW hd p n v hn hv
  | true=>
   refine ⟨hv.1, ?_⟩
   intro Q' hQ' hval
   rw [aI] at hQ'
   simp only [ane] at hQ'
   subst hQ'
   have:=hval.1
   rw [hd] at this
   simp at this
 ·intro q Q hq hs g v hg hv
  have e:=hns hs
  subst e
  obtain rfl:=hRq hq
  cases hd:R'.bg with
  | false=>exact zZ hd g v hg hv
  | true=>
   intro Q' hQ'
   have:=(eP hQ').2
   rw [hd] at this
   simp at this
structure Held (cx:Cx) (Z:St) (J:dP) (F:List Nat) (w:World) (k:K) (x:El k) (own:List TypeId) (tags:List Tag) (cs:List Value) (fo:List Nat):Prop where
 ow:bD Z (aV own k) tags=true->Ow (hp w) own (jc cx Z J F w tags) k x cs fo
 wt:fG Z tags
 sub:∀b∈fo,b∈F
 nd:fo.Nodup
 len:cs.length=k.size
theorem Held.turn {Z':St} {J':dP} {lw lh:Nat->List Nat} {k:K} {x:El k} {own:List TypeId} {tags:List Tag} {cs:List Value} {fo:List Nat}
  (H:Rel cx Z J F a w) (T:nA cx Z J F w Z' J' F' w' lw lh) (h:Held cx Z J F w k x own tags cs fo) (hs:∀b∈fo,hp w' b=hp w b/\b∈F'):Held cx Z' J' F' w' k x own tags cs fo where
 ow:=fun hc=>by
  obtain ⟨h1,h2,_⟩:=T.views H tags _ h.wt hc
  exact bE (fun b hb=>(h2 b hb.1 (.inl hb.2)).2) (fun b hb=>(h2 b hb.1 (.inl hb.2)).1) (fun b hb=>(hs b hb).1) (rQ _ (fun _ h=>h) (h.ow h1))
 wt:=fun t ht=>T.tag (h.wt t ht)
 sub:=fun b hb=>(hs b hb).2
 nd:=h.nd
 len:=h.len
theorem Held.slots {k:K} {x:El k} {own:List TypeId} {tags:List Tag} {cs:List Value} {fo:List Nat} (s:Nat->wL) (h:Held cx Z J F w k x own tags cs fo):Held cx (jX Z s) J F w k x own tags cs fo:=
 ⟨fun hc=>h.ow (by rw [qZ] at hc; exact hc),h.wt,h.sub,h.nd,h.len⟩
end
end
section
open Go
variable [Fr]
theorem tN {h:Heap} {own:List TypeId} {ok:Nat->Prop}:∀{k:K} {x:El k} {cs:List Value} {fo:List Nat},Ow h own ok k x cs fo->∀b∈fo,∃e∈k.tys,az e own=true/\qm h b=some e:=by
 intro k
 induction k with
 | int ik=>intro x cs fo H b hb; rw [H.1] at hb; simp at hb
 | bool=>intro x cs fo H b hb; rw [H.1] at hb; simp at hb
 | id e=>intro x cs fo H b hb; rw [H.1] at hb; simp at hb
 | str=>intro x cs fo H b hb; rw [H.1] at hb; simp at hb
 | sl e k ih=>
  intro x cs fo H b' hb'
  unfold Ow at H
  split at H
  ·rename_i hm
   obtain ⟨a,n,c,e1,e2,e3,H⟩:=H
   rcases H with ⟨_,h1⟩ | ⟨b,o,arr,lo,hi,ea,hb,hf,hs,bC,hl,hp,H⟩
   ·rw [h1] at hb'; simp at hb'
   ·rcases anq.1 (hp.mem_iff.1 hb') with h | h
    ·subst h
     exact ⟨e,by simp [K.tys],hm,by unfold qm; rw [hb]⟩
    ·obtain ⟨l,hl1,hl2⟩:=aoB.1 h
     obtain ⟨i,hi,rfl⟩:=aoc.1 hl1
     obtain ⟨ds,_,h2⟩:=H i (by omega)
     rw [dh hi] at h2
     obtain ⟨e',g1,g2⟩:=ih h2 b' hl2
     exact ⟨e',by simp [K.tys,g1],g2⟩
  ·rw [H.1] at hb'; simp at hb'
 | unit=>intro x cs fo H b hb; rw [H.1] at hb; simp at hb
 | pair a b iha ihb=>
  intro x cs fo H b' hb'
  obtain ⟨c1,c2,f1,f2,e,hp,h1,h2⟩:=H
  rcases ann.1 (hp.mem_iff.1 hb') with h | h
  ·obtain ⟨e',g1,g2⟩:=iha h1 b' h; exact ⟨e',by simp [K.tys,g1],g2⟩
  ·obtain ⟨e',g1,g2⟩:=ihb h2 b' h; exact ⟨e',by simp [K.tys,g1],g2⟩
 | st f ih=>intro x cs fo H; exact ih (x:=x) H
 | gap n=>intro x cs fo H b hb; rw [H.1] at hb; simp at hb
theorem dK {t:Nat} {own bad:List TypeId}:az t (bM own bad)=true↔az t own=true/\t∉bad:=by
 rw [aM,aM]
 unfold bM
 rw [anw]
 simp [aW]
theorem zF {own:List TypeId}:∀{k:K} {t:TypeId},t∈k.tys->t∈aV own k\/az t own=true:=by
 intro k
 induction k with
 | sl e k ih=>
  intro t ht
  simp only [K.tys,anq] at ht
  cases hm:az e own with
  | true=>
   rcases ht with ht | ht
   ·subst ht; exact .inr hm
   ·exact (ih ht).imp (fun h=>by simp [aV,hm,h]) id
  | false=>exact .inl (by simpa [aV,hm] using ht)
 | pair a b iha ihb=>
  intro t ht
  simp only [K.tys,ann] at ht
  rcases ht with ht | ht
  ·exact (iha ht).imp (fun h=>by simp [aV,h]) id
  ·exact (ihb ht).imp (fun h=>by simp [aV,h]) id
 | st f ih=>intro t ht; exact ih ht
 | _=>intro t ht; simp [K.tys] at ht
theorem Dy {own:List TypeId}:∀{k:K} {t:TypeId},t∈aV own k->t∈k.tys:=by
 intro k
 induction k with
 | sl e k ih=>
  intro t ht
  cases hm:az e own with
  | true=>simp only [aV,hm,an0] at ht; simp [K.tys,ih ht]
  | false=>simpa [aV,hm,K.tys] using ht
 | pair a b iha ihb=>
  intro t ht
  simp only [aV,ann] at ht
  simp only [K.tys,ann]
  exact ht.imp iha ihb
 | st f ih=>intro t ht; exact ih ht
 | _=>intro t ht; simp [aV] at ht
section
variable {cx:Cx} {Z:St} {J:dP} {F:List Nat} {a:Act} {w:World} {F':List Nat} {w':World}
theorem zM (H:Rel cx Z J F a w) (hos:w'.os=w.os/\w'.tape=w.tape/\w'.output=w.output) (hsize:w.heap.size<=w'.heap.size) (BH:∀b,b<w.heap.size->hp w' b≠hp w b->b∈F)
  (hnew:∀b∈F',b∈F\/(w.heap.size<=b/\b<w'.heap.size)) (hnd:F'.Nodup):nA cx Z J F w Z J F' w' (fun _=>[]) (fun _=>[]) where
 slots:=rfl
 os:=hos
 size:=hsize
 old:=fun r R hr=>⟨R,hr,by
  cases hd:R.bg with
  | true=>exact .inl ⟨rfl,by intro hk; simp [Root.bg,hk] at hd⟩
  | false=>exact .inr ⟨rfl,rfl,rfl,anv _,rfl,rfl,fun _=>rfl, .inr ⟨rfl,rfl,mg ..⟩⟩⟩
 wr:=fun r R' _ h=>absurd (mg ..) h
 afY:=fun r R' h1 h2=>by rw [h1] at h2; simp at h2
 Nk:=fun b hb hne=>.inl (BH b hb hne)
 new:=by
  rintro b (⟨r,R',h1,h2,h3⟩ | h)
  ·exact absurd ⟨R',h1,h2⟩ h3
  ·exact (hnew b h).imp id .inl
 xK:=hnd
 iY:=fun r R' _ h=>absurd (mg ..) h
 EK:=fun r R r' R' _ _ _ h=>absurd (mg ..) h
 base:=by
  intro j pi b o n hj hb hne
  obtain ⟨Q,hQ,hk,hl,hs⟩:=H.mE j pi b o n hj hb
  have hbq:b∈blk J Q (aA j):=by simp [blk,dY,hk,hl]
  have hm:=(H.roots _ _ hQ).mine b hbq
  exact absurd (BH b hm.1 hne) (H.iY _ _ hQ b hbq)
 ev:=fun r R R' h1 h2 _=>by rw [h1] at h2; simp only [ane] at h2; subst h2; exact ⟨rfl,rfl⟩
theorem Rel.mem (H:Rel cx Z J F a w) (T:nA cx Z J F w Z J F' w' (fun _=>[]) (fun _=>[])):Rel cx Z J F' a w':=
 H.turn T (fun _ _ _ h=>absurd (mg ..) h) (fun _ _ _ h=>absurd (mg ..) h) (fun _ _ _ h=>absurd (mg ..) h)
theorem Rel.alloc (H:Rel cx Z J F a w) (o:Obj):Rel cx Z J (w.heap.size :: F) a (w.alloc o)/\nA cx Z J F w Z J (w.heap.size :: F) (w.alloc o) (fun _=>[]) (fun _=>[]):=by
 have hs:(w.alloc o).heap.size=w.heap.size+1:=Array.size_push ..
 have T:nA cx Z J F w Z J (w.heap.size :: F) (w.alloc o) (fun _=>[]) (fun _=>[]):=zM H ⟨rfl,rfl,rfl⟩ (by omega) (fun b hb hne=>absurd (mW w o hb) hne)
  (fun b hb=>by rcases anq.1 hb with h | h; exact .inr ⟨by omega,by omega⟩; exact .inl h)
  (anN.2 ⟨fun h=>by have:=(H.fl _ h).1; omega,H.xK⟩)
 exact ⟨H.mem T,T⟩
variable {r:Nat} {R:Root}
theorem kQ:bT.bg=true:=rfl
theorem lF {R':Root} {tys:List TypeId} {T:List Tag} (h:∀n,(r,n)∉T):bD (au Z r R') tys T=bD Z tys T:=by
 induction T with
 | nil=>rfl
 | cons t T ih=>
  obtain ⟨q,n⟩:=t
  have hq:q≠r:=fun e=>h n (by simp [e])
  have ih':=ih (fun n hn=>h n (by simp [hn]))
  simp only [bD]
  rw [ih',bP Z R' hq]
def fI (J:dP) (r:Nat):dP:=aG J r (J.loc r) (J.hdr r) []
theorem kill (H:Rel cx Z J F a w) (hr:aQ Z r R) (hk:R.kind=.anon) (hv:bB Z R) :
  Rel cx (au Z r bT) (fI J r) (J.fo r++F) a w/\nA cx Z J F w (au Z r bT) (fI J r) (J.fo r++F) w (sj r []) (sj r [])/\
  Held cx (au Z r bT) (fI J r) (J.fo r++F) w R.k R.x R.own R.tags (J.hdr r) (J.fo r)/\bD (au Z r bT) (aV R.own R.k) R.tags=true:=by
 have hb:blk J R r=J.fo r:=by simp [blk,dY,hk]
 have K:=H.roots r R hr
 have hnd:(J.fo r).Nodup:=by rw [<-hb]; exact K.nd
 have T1:yN cx Z J F w r R bT [] (J.fo r++F) w [] []:=by
  refine ⟨.inl ⟨rfl,by rw [hk]; simp⟩,⟨fun t ht=>by simp [bT] at ht,fun n hn=>by simp [bT] at hn⟩,⟨rfl,rfl,rfl⟩,anv _,fun b _ h=>absurd rfl h,fun h=>by simp [kQ] at h, ?_, ?_,fun h=>by simp [kQ] at h,fun _ _ _ _ _ _ _ _ h=>absurd rfl h,fun h=>by simp [kQ] at h⟩
  ·intro b hb'
   rcases ann.1 hb' with h | h
   ·exact .inr (.inr ⟨by rw [hb]; exact h, .inl rfl⟩)
   ·exact .inl h
  ·exact anl.2 ⟨hnd,H.xK,fun b h1 c h2 e=>H.iY r R hr b (by rw [hb]; exact h1) (e▸h2)⟩
 have hT:=T1.turn (hdr':=J.hdr r) H hr
 have hnt:=(H.dG r R hr.1).2.2
 have Gf:bD (au Z r bT) (aV R.own R.k) R.tags=true:=by rw [lF hnt]; exact hv.2
 refine ⟨T1.rel H hr (fun h=>by simp [kQ] at h) (fun h=>by simp [kQ] at h) (fun h=>by simp [kQ] at h),hT, ?_,Gf⟩
 refine ⟨fun hc=>?_,fun t ht=>hT.tag ((H.dG r R hr.1).1 t ht),fun b hb=>anj _ hb,hnd,K.len⟩
 obtain ⟨h1,h2,_⟩:=hT.views H R.tags _ (H.dG r R hr.1).1 hc
 exact bE (fun b hb=>(h2 b hb.1 (.inl hb.2)).2) (fun b hb=>(h2 b hb.1 (.inl hb.2)).1) (fun _ _=>rfl) (rQ _ (fun _ h=>h) (K.ow hv))
theorem afT (H:Rel cx Z J F a w) (hr:aQ Z r R) (hk:R.kind≠.par) (hv:bB Z R) :
  Rel cx (au Z r bT) (fI J r) (blk J R r++F) a w/\nA cx Z J F w (au Z r bT) (fI J r) (blk J R r++F) w (sj r []) (sj r [])/\
  Held cx (au Z r bT) (fI J r) (blk J R r++F) w R.k R.x R.own R.tags (J.hdr r) (J.fo r)/\bD (au Z r bT) (aV R.own R.k) R.tags=true:=by
 have K:=H.roots r R hr
 have hnd:(blk J R r).Nodup:=K.nd
 have T1:yN cx Z J F w r R bT [] (blk J R r++F) w [] []:=by
  refine ⟨.inl ⟨rfl,hk⟩,⟨fun t ht=>by simp [bT] at ht,fun n hn=>by simp [bT] at hn⟩,⟨rfl,rfl,rfl⟩,anv _,fun b _ h=>absurd rfl h,fun h=>by simp [kQ] at h, ?_, ?_,fun h=>by simp [kQ] at h,fun _ _ _ _ _ _ _ _ h=>absurd rfl h,fun h=>by simp [kQ] at h⟩
  ·intro b hb'
   rcases ann.1 hb' with h | h
   ·exact .inr (.inr ⟨h, .inl rfl⟩)
   ·exact .inl h
  ·exact anl.2 ⟨hnd,H.xK,fun b h1 c h2 e=>H.iY r R hr b h1 (e▸h2)⟩
 have hT:=T1.turn (hdr':=J.hdr r) H hr
 have hnt:=(H.dG r R hr.1).2.2
 have Gf:bD (au Z r bT) (aV R.own R.k) R.tags=true:=by rw [lF hnt]; exact hv.2
 refine ⟨T1.rel H hr (fun h=>by simp [kQ] at h) (fun h=>by simp [kQ] at h) (fun h=>by simp [kQ] at h),hT, ?_,Gf⟩
 refine ⟨fun hc=>?_,fun t ht=>hT.tag ((H.dG r R hr.1).1 t ht),fun b hb=>anj _ (ang _ hb),(anl.1 hnd).2.1,K.len⟩
 obtain ⟨h1,h2,_⟩:=hT.views H R.tags _ (H.dG r R hr.1).1 hc
 exact bE (fun b hb=>(h2 b hb.1 (.inl hb.2)).2) (fun b hb=>(h2 b hb.1 (.inl hb.2)).1) (fun _ _=>rfl) (rQ _ (fun _ h=>h) (K.ow hv))
theorem qC:∀(p:List Stp) {k:K} {x y:El k},(aR p k x).isSome=(aR p k y).isSome:=by
 intro p
 induction p with
 | nil=>intro k x y; rfl
 | cons s p ih=>
  intro k x y
  cases s with
  | gu n=>
   cases k with
   | st c=>
    simp only [aR]
    have key:∀(n:Nat) {c:K} {x y:El c},(∃s t:Dat,aP n c x=some s/\aP n c y=some t/\s.1=t.1)\/(aP n c x=none/\aP n c y=none):=by
     intro n
     induction n with
     | zero=>intro c x y; cases c <;> first | exact .inl ⟨_,_,rfl,rfl,rfl⟩ | exact .inr ⟨rfl,rfl⟩
     | succ n ih=>intro c x y; cases c <;> first | exact ih | exact .inr ⟨rfl,rfl⟩
    rcases key n (c:=c) (x:=x) (y:=y) with ⟨s,t,h1,h2,h3⟩ | ⟨h1,h2⟩
    ·rw [h1,h2]
     obtain ⟨sk,sx⟩:=s
     obtain ⟨tk,ty⟩:=t
     simp only at h3
     subst h3
     exact ih
    ·rw [h1,h2]
   | _=>simp [aR]
  | idx i=>
   cases k with
   | sl e k=>simp only [aR]; exact ih
   | _=>simp [aR]
theorem Bv:∀(n m:Nat) {c:K} {x:El c} {u y:Dat},m≠n->dm n c x u=some y->aP m y.1 y.2=aP m c x:=by
 intro n
 induction n with
 | zero=>
  intro m c x u y hm h
  cases c with
  | pair a b=>
   simp only [dm,ane] at h
   subst h
   cases m with
   | zero=>exact absurd rfl hm
   | succ m=>rfl
  | _=>simp [dm] at h
 | succ n ih=>
  intro m c x u y hm h
  cases c with
  | pair a b=>
   simp only [dm] at h
   cases h4:dm n b x.2 u with
   | none=>rw [h4] at h; simp at h
   | some y2=>
    rw [h4] at h
    simp only [ane] at h
    subst h
    cases m with
    | zero=>rfl
    | succ m=>exact ih m (by omega) h4
  | _=>simp [dm] at h
theorem Jv {bad:List TypeId}:∀(p q:List Stp) {k:K} {x:El k} {t d z:Dat},aR p k x=some d->eF p k x t=some z->
  (∀q',(aR q' t.1 t.2).isSome=true->(∀e∈ah q' t.1,e∉bad)->ah q' d.1=ah q' t.1/\(aR q' d.1 d.2).isSome=true)->(aR q z.1 z.2).isSome=true->(∀e∈ah q z.1,e∉bad)->
   ah q k=ah q z.1/\(aR q k x).isSome=true:=by
 intro p
 induction p with
 | nil=>
  intro q k x t d z hg hz ht hs hb
  simp only [eF,ane] at hz
  simp only [aR,ane] at hg
  subst hz
  subst hg
  exact ht q hs hb
 | cons s p ih=>
  intro q k x t d z hg hz ht hs hb
  cases s with
  | gu n=>
   cases k with
   | st c=>
    simp only [aR,eF] at hg hz
    cases hcg:aP n c x with
    | none=>rw [hcg] at hg; simp at hg
    | some s=>
     rw [hcg] at hg hz
     simp only at hg hz
     cases hs':eF p s.1 s.2 t with
     | none=>rw [hs'] at hz; simp at hz
     | some u=>
      rw [hs'] at hz
      simp only at hz
      cases hcp:dm n c x u with
      | none=>rw [hcp] at hz; simp at hz
      | some y=>
       rw [hcp] at hz
       simp only [ane] at hz
       subst hz
       cases q with
       | nil=>exact ⟨rfl,rfl⟩
       | cons s2 q=>
        cases s2 with
        | idx i=>simp [aR] at hs
        | gu m=>
         by_cases hmn:m=n
         ·subst hmn
          have e1:aP m y.1 y.2=some u:=xk m hcp
          have p1:ah (.gu m :: q) (.st c)=ah q s.1:=by simp [ah,cB m hcg]
          have p2:ah (.gu m :: q) (.st y.1)=ah q u.1:=by simp [ah,cB m e1]
          have hs2:(aR (.gu m :: q) (.st y.1) y.2).isSome=true:=hs
          simp only [aR,e1] at hs2
          have hb2:∀e∈ah (.gu m :: q) (.st y.1),e∉bad:=hb
          rw [p2] at hb2
          obtain ⟨h1,h2⟩:=ih q hg hs' ht hs2 hb2
          refine ⟨?_, ?_⟩
          ·show ah (.gu m :: q) (.st c)=ah (.gu m :: q) (.st y.1)
           rw [p1,p2,h1]
          ·simp only [aR,hcg]
           exact h2
         ·have e1:=Bv n m hmn hcp
          have hs2:(aR (.gu m :: q) (.st y.1) y.2).isSome=true:=hs
          simp only [aR,e1] at hs2
          cases hg2:aP m c x with
          | none=>rw [hg2] at hs2; simp at hs2
          | some s2=>
           refine ⟨?_, ?_⟩
           ·show ah (.gu m :: q) (.st c)=ah (.gu m :: q) (.st y.1)
            simp only [ah,cB m hg2,cB m (e1.trans hg2)]
           ·simp only [aR,hg2]
            rw [hg2] at hs2
            exact hs2
   | _=>simp [aR] at hg
  | idx i=>
   cases k with
   | sl e k=>
    simp only [eF] at hz
    cases hs':eF p k ((show List (El k) from x).getD i.toNat k.zero) t with
    | none=>rw [hs'] at hz; simp at hz
    | some u=>
     rw [hs'] at hz
     simp only at hz
     cases hck:bQ u.1 k u.2 with
     | none=>rw [hck] at hz; simp at hz
     | some y=>
      rw [hck] at hz
      simp only [ane] at hz
      subst hz
      exact ⟨rfl,by rw [qC q (y:=((show List (El k) from x).set i.toNat y))]; exact hs⟩
   | _=>simp [eF] at hz
theorem rY:∀k:K,k.hole.size=k.size:=by
 intro k
 induction k with
 | pair a b iha ihb=>simp [K.hole,K.size,iha,ihb]
 | st f ih=>simp [K.hole,K.size,ih]
 | _=>rfl
theorem Xq {h:Heap} {own:List TypeId} {ok:Nat->Prop}:∀{k:K} {x:El k} {cs:List Value} {fo:List Nat},Ow h own ok k x cs fo->Ow h own ok k.hole (tX k x) cs []:=by
 intro k
 induction k with
 | int ik=>intro x cs fo H; exact ⟨rfl,H.2⟩
 | bool=>intro x cs fo H; exact ⟨rfl,H.2⟩
 | id e=>intro x cs fo H; exact ⟨rfl,H.2⟩
 | str=>intro x cs fo H; exact ⟨rfl,H.2⟩
 | sl e k ih=>intro x cs fo H; exact ⟨rfl,cZ H⟩
 | unit=>intro x cs fo H; exact ⟨rfl,H.2⟩
 | pair a b iha ihb=>intro x cs fo H; obtain ⟨c1,c2,f1,f2,e,hp,h1,h2⟩:=H; exact ⟨c1,c2,[],[],e, .refl _,iha h1,ihb h2⟩
 | st f ih=>intro x cs fo H; exact ih (x:=x) H
 | gap n=>intro x cs fo H; exact ⟨rfl,H.2⟩
theorem FE:∀(n:Nat) {c:K} {x:El c},aP n c.hole (tX c x)=(aP n c x).map q8:=by
 intro n
 induction n with
 | zero=>intro c x; cases c <;> rfl
 | succ n ih=>
  intro c x
  cases c with
  | pair a b=>simp only [K.hole,tX,aP]; exact ih
  | _=>rfl
theorem NY:∀(n:Nat) {c:K},bG n c.hole=(bG n c).map fun q=>(q.1,q.2.hole):=by
 intro n
 induction n with
 | zero=>intro c; cases c <;> rfl
 | succ n ih=>
  intro c
  cases c with
  | pair a b=>
   simp only [K.hole,bG]
   rw [ih (c:=b)]
   cases bG n b with
   | none=>rfl
   | some q=>simp [rY]
  | _=>rfl
theorem Gj {h:Heap}:∀(q:List Stp) {k:K} {x:El k},(aR q k.hole (tX k x)).isSome=true->
  ah q k=[]/\ah q k.hole=[]/\(aR q k x).isSome=true/\mG q k.hole (tX k x)/\∀cs wh,bH h q k.hole cs wh=bH h q k cs wh:=by
 intro q
 induction q with
 | nil=>intro k x _; exact ⟨by simp [ah],by simp [ah],rfl,trivial,fun _ _=>rfl⟩
 | cons s q ih=>
  intro k x hs
  cases s with
  | idx i=>cases k <;> simp [K.hole,aR] at hs
  | gu n=>
   cases k with
   | st c=>
    have e:aP n c.hole (tX c x)=(aP n c x).map q8:=FE n
    have hs':(aR (.gu n :: q) (.st c.hole) (tX c x)).isSome=true:=hs
    simp only [aR,e] at hs'
    cases hg:aP n c x with
    | none=>rw [hg] at hs'; simp at hs'
    | some s=>
     rw [hg] at hs' e
     simp only [an1,q8] at hs' e
     obtain ⟨h1,h2,h3,h4,h5⟩:=ih (k:=s.1) (x:=s.2) hs'
     refine ⟨by simp [ah,cB n hg,h1], ?_,by simp only [aR,hg]; exact h3, ?_,fun cs wh=>?_⟩
     ·show ah (.gu n :: q) (.st c.hole)=[]
      simp [ah,cB n e,h2]
     ·show mG (.gu n :: q) (.st c.hole) (tX c x)
      simp only [mG,e]
      exact h4
     ·show bH h (.gu n :: q) (.st c.hole) cs wh=_
      simp only [bH]
      rw [NY n]
      cases ho:bG n c with
      | none=>rfl
      | some w=>
       simp only [an1]
       have hk:w.2=s.1:=by
        have key:∀(n:Nat) {c:K} {x:El c} {s:Dat} {q:Nat×K},aP n c x=some s->bG n c=some q->q.2=s.1:=by
         intro n
         induction n with
         | zero=>intro c x s q h1 h2; cases c with
          | pair a b=>simp only [aP,bG,ane] at h1 h2; subst h1; subst h2; rfl
          | _=>simp [aP] at h1
         | succ n ih=>intro c x s q h1 h2; cases c with
          | pair a b=>
           simp only [aP,bG] at h1 h2
           cases h3:bG n b with
           | none=>rw [h3] at h2; simp at h2
           | some q3=>rw [h3] at h2; simp only [ane] at h2; subst h2; exact ih (q:=q3) h1 h3
          | _=>simp [aP] at h1
        exact key n (c:=c) hg ho
       obtain ⟨w1,w2⟩:=w
       simp only at hk
       subst hk
       simp only [rY]
       exact h5 _ _
   | _=>simp [K.hole,aR] at hs
theorem Sa:∀(q:List Stp) {k:K} {x y:El k},ah q k=[]->(aR q k x).isSome=true->ah q k.hole=[]/\(aR q k.hole (tX k y)).isSome=true:=by
 intro q
 induction q with
 | nil=>intro k x y _ _; exact ⟨by simp [ah],rfl⟩
 | cons s q ih=>
  intro k x y h0 hs
  cases s with
  | idx i=>cases k <;> simp [ah,aR] at h0 hs
  | gu n=>
   cases k with
   | st c=>
    simp only [aR] at hs
    cases hg:aP n c x with
    | none=>rw [hg] at hs; simp at hs
    | some s=>
     rw [hg] at hs
     simp only at hs
     have hp2:ah (.gu n :: q) (.st c)=ah q s.1:=by simp [ah,cB n hg]
     rw [hp2] at h0
     have key:∀(n:Nat) {c:K} {x y:El c} {s:Dat},aP n c x=some s->∃t:Dat,aP n c y=some t/\t.1=s.1:=by
      intro n
      induction n with
      | zero=>intro c x y s h; cases c <;> first | (simp only [aP,ane] at h; subst h; exact ⟨_,rfl,rfl⟩) | simp [aP] at h
      | succ n ih=>intro c x y s h; cases c <;> first | exact ih h | simp [aP] at h
     obtain ⟨t,g1,g2⟩:=key n (c:=c) (y:=y) hg
     obtain ⟨sk,sx⟩:=s
     obtain ⟨tk,ty⟩:=t
     simp only at g2
     subst g2
     obtain ⟨h1,h2⟩:=ih (y:=ty) h0 hs
     have e:aP n c.hole (tX c y)=some (q8 ⟨tk,ty⟩):=by rw [FE n,g1]; rfl
     refine ⟨?_, ?_⟩
     ·show ah (.gu n :: q) (.st c.hole)=[]
      simp [ah,cB n e,q8,h1]
     ·show (aR (.gu n :: q) (.st c.hole) (tX c y)).isSome=true
      simp only [aR,e]
      exact h2
   | _=>simp [aR] at hs
theorem Pq {own:List TypeId}:∀k:K,aV own k.hole=[]:=by
 intro k
 induction k with
 | pair a b iha ihb=>simp [K.hole,aV,iha,ihb]
 | st f ih=>exact ih
 | _=>rfl
theorem cells_eq {h:Heap} {b o:Nat} {cs cs':List Value} (h1:Cells h b o cs) (h2:Cells h b o cs') (hl:cs'.length=cs.length):cs'=cs:=by
 apply apD 
 intro i
 by_cases hi:i<cs.length
 ·rw [<-h1 i hi, <-h2 i (by omega)]
 ·rw [aoQ (by omega),aoQ (by omega)]
theorem Dr:∀(p:List Stp) {k:K} {x:El k} {t d z:Dat},aR p k x=some d->t.1.size=d.1.size->eF p k x t=some z->z.1.size=k.size:=by
 intro p
 induction p with
 | nil=>
  intro k x t d z hg hs hz
  simp only [aR,eF,ane] at hg hz
  subst hg; subst hz; exact hs
 | cons s p ih=>
  intro k x t d z hg hs hz
  cases s with
  | gu n=>
   cases k with
   | st c=>
    simp only [aR,eF] at hg hz
    cases hcg:aP n c x with
    | none=>rw [hcg] at hg; simp at hg
    | some s=>
     rw [hcg] at hg hz
     simp only at hg hz
     cases hs':eF p s.1 s.2 t with
     | none=>rw [hs'] at hz; simp at hz
     | some u=>
      rw [hs'] at hz
      simp only at hz
      cases hcp:dm n c x u with
      | none=>rw [hcp] at hz; simp at hz
      | some y=>
       rw [hcp] at hz
       simp only [ane] at hz
       subst hz
       have hu:=ih hg hs hs'
       have key:∀(n:Nat) {c:K} {x:El c} {s u y:Dat},aP n c x=some s->dm n c x u=some y->u.1.size=s.1.size->y.1.size=c.size:=by
        intro n
        induction n with
        | zero=>
         intro c x s u y h1 h2 e
         cases c with
         | pair a b=>simp only [aP,dm,ane] at h1 h2; subst h1; subst h2; simp only at e; simp [K.size,e]
         | _=>simp [aP] at h1
        | succ n ih=>
         intro c x s u y h1 h2 e
         cases c with
         | pair a b=>
          simp only [aP,dm] at h1 h2
          cases h3:dm n b x.2 u with
          | none=>rw [h3] at h2; simp at h2
          | some y2=>rw [h3] at h2; simp only [ane] at h2; subst h2; simp [K.size,ih h1 h3 e]
         | _=>simp [aP] at h1
       show y.1.size=c.size
       exact key n (c:=c) hcg hcp hu
   | _=>simp [aR] at hg
  | idx i=>
   cases k with
   | sl e k=>
    simp only [eF] at hz
    cases hs':eF p k ((show List (El k) from x).getD i.toNat k.zero) t with
    | none=>rw [hs'] at hz; simp at hz
    | some u=>
     rw [hs'] at hz
     simp only at hz
     cases hck:bQ u.1 k u.2 with
     | none=>rw [hck] at hz; simp at hz
     | some y=>rw [hck] at hz; simp only [ane] at hz; subst hz; rfl
   | _=>simp [aR] at hg
theorem uZ {R R':Root} (h:R'.kind=R.kind) (loc:Nat×Nat):vZ R' loc=vZ R loc:=by unfold vZ; rw [h]
theorem om {R R':Root} (h:R'.kind=R.kind) (loc:Nat×Nat) (fo:List Nat):iX R' loc fo=iX R loc fo:=by unfold iX; rw [h]
theorem Lv (R:Root) (loc:Nat×Nat) (fo:List Nat):iX R loc fo=(match vZ R loc with
 | some q=>[q.1]
 | none=>[])++fo:=by unfold iX vZ; cases R.kind <;> rfl
theorem dX {R:Root} {loc:Nat×Nat} {fo:List Nat} {b:Nat}:b∈iX R loc fo↔(∃o,vZ R loc=some (b,o))\/b∈fo:=by
 rw [Lv]
 cases h:vZ R loc with
 | none=>simp
 | some q=>obtain ⟨b0,o0⟩:=q; simp; constructor <;> (intro h; rcases h with h | h <;> simp_all)
theorem nD {R:Root} {loc:Nat×Nat} {fo:List Nat}:(iX R loc fo).Nodup↔(∀b o,vZ R loc=some (b,o)->b∉fo)/\fo.Nodup:=by
 rw [Lv]
 cases h:vZ R loc with
 | none=>simp
 | some q=>obtain ⟨b0,o0⟩:=q; simp [anN]
theorem Sm {R R':Root} (h:R'.kind=R.kind):R'.bg=R.bg:=by unfold Root.bg; rw [h]
theorem PX {k k':K} {v:Value} {cs:List Value} (h:tZ k'=tZ k):VC k' v cs↔VC k v cs:=by
 cases k <;> cases k' <;> first | exact Iff.rfl | simp [tZ] at h
theorem Jr {p:List Stp} {k:K} {x:El k} {t z:Dat} (hp:p≠[]) (hz:eF p k x t=some z):tZ z.1=tZ k:=by
 cases p with
 | nil=>exact absurd rfl hp
 | cons s p=>
  cases s with
  | gu n=>
   cases k with
   | st c=>
    simp only [eF] at hz
    cases hcg:aP n c x with
    | none=>rw [hcg] at hz; simp at hz
    | some s=>
     rw [hcg] at hz
     simp only at hz
     cases hs':eF p s.1 s.2 t with
     | none=>rw [hs'] at hz; simp at hz
     | some u=>
      rw [hs'] at hz
      simp only at hz
      cases hcp:dm n c x u with
      | none=>rw [hcp] at hz; simp at hz
      | some y=>rw [hcp] at hz; simp only [ane] at hz; subst hz; rfl
   | _=>simp [eF] at hz
  | idx i=>
   cases k with
   | sl e k=>
    simp only [eF] at hz
    cases hs':eF p k ((show List (El k) from x).getD i.toNat k.zero) t with
    | none=>rw [hs'] at hz; simp at hz
    | some u=>
     rw [hs'] at hz
     simp only at hz
     cases hck:bQ u.1 k u.2 with
     | none=>rw [hck] at hz; simp at hz
     | some y=>rw [hck] at hz; simp only [ane] at hz; subst hz; rfl
   | _=>simp [eF] at hz
theorem RY (k:K):k.tys≠[]\/rX k++k.tys≠[]:=by
 unfold rX
 cases k.tys with
 | nil=>exact .inr (by simp)
 | cons a l=>exact .inl (by simp)
def fq (R:Root) (d:Dat) (z:Dat):Root:={ R with k:=z.1,x:=z.2,w:=d.1.tys++R.w,h:=rX d.1++d.1.tys++R.h }
def fD (R:Root) (d:Dat) (z:Dat) (own':List TypeId):Root:={ fq R d z with own:=own' }
theorem oJ:∀(q:List Stp) {k:K},∀t∈ah q k,t∈k.tys:=by
 intro q
 induction q with
 | nil=>intro k t ht; simp [ah] at ht
 | cons s q ih=>
  intro k t ht
  cases s with
  | gu n=>
   cases k with
   | st c=>
    simp only [ah] at ht
    cases hc:ah.Eo n c with
    | none=>rw [hc] at ht; simp at ht
    | some k'=>
     rw [hc] at ht
     have h1:=ih t ht
     have:∀(n:Nat) {c k':K},ah.Eo n c=some k'->∀t∈k'.tys,t∈c.tys:=by
      intro n
      induction n with
      | zero=>
       intro c k' h t ht
       cases c with
       | pair a b=>simp only [ah.Eo,ane] at h; subst h; simp [K.tys,ht]
       | _=>simp [ah.Eo] at h
      | succ n ih=>
       intro c k' h t ht
       cases c with
       | pair a b=>simp only [ah.Eo] at h; simp [K.tys,ih h t ht]
       | _=>simp [ah.Eo] at h
     exact this n hc t h1
   | _=>simp [ah] at ht
  | idx i=>
   cases k with
   | sl e k=>
    simp only [ah,anq] at ht
    rcases ht with h | h
    ·simp [K.tys,h]
    ·simp [K.tys,ih t h]
   | _=>simp [ah] at ht
theorem aeR {own':List TypeId} (H:Rel cx Z J F a w) (hr:aQ Z r R) (hv:bB Z R) {p:List Stp} {d z:Dat} (hg:aR p R.k R.x=some d) (hz:eF p R.k R.x (q8 d)=some z) (eZ:mG p R.k R.x)
  (hown:∀t∈ah p R.k,az t R.own=true) (hpv:p≠[]\/∃t,R.kind=.var t) (hso:∀t∈z.1.tys,az t own'=az t R.own) :
  ∃cs1 nG fT rest,bH (hp w) p R.k (J.hdr r) (dY J R r)=some (cs1,nG)/\
   Rel cx (au Z r (fD R d z own')) (aG J r (J.loc r) (J.hdr r) rest) (fT++F) a w/\
   nA cx Z J F w (au Z r (fD R d z own')) (aG J r (J.loc r) (J.hdr r) rest) (fT++F) w (sj r d.1.tys) (sj r (rX d.1++d.1.tys))/\
   Held cx (au Z r (fD R d z own')) (aG J r (J.loc r) (J.hdr r) rest) (fT++F) w d.1 d.2 R.own R.tags cs1 fT/\(∀tys,bD (au Z r (fD R d z own')) tys R.tags=bD Z tys R.tags)/\(J.fo r).Perm (fT++rest):=by
 have K:=H.roots r R hr
 have hnd:=K.nd
 rw [bX,nD] at hnd
 have hO:=K.ow hv
 obtain ⟨cs1,fT,rest,nG,hn,hp1,hd1,hc1,hin,hnone,hup⟩:=focus p hO (fun b o e=>(K.mem b o e).1) hg eZ hown hnd.2 (fun b o e=>hnd.1 b o e)
 have hnt:=(H.dG r R hr.1).2.2
 have hl1:=cZ hd1
 obtain ⟨cs',hl',Gc,hC',hN',hK'⟩:=hup.go (hp w) (jc cx Z J F w R.tags) (q8 d) cs1 [] z hz hl1 (Xq hd1) (fun b hb=>⟨hb,rfl⟩) (fun _ _ _=>rfl)
  (fun b o e=>⟨hc1 b o e,by
   have:∃arr te fr,hp w b=some (.cells arr te fr):=by
    rcases hin b o e with ⟨_,o0,ew,_⟩ | ⟨_,arr,te,lo,hi,h1,_⟩
    ·obtain ⟨_,arr,te,lo,hi,h1,_⟩:=K.mem b o0 ew; exact ⟨arr,te,_,h1⟩
    ·exact ⟨arr,te,_,h1⟩
   obtain ⟨arr,te,fr,h1⟩:=this
   exact iE.of_same _ _ h1 rfl⟩) (fun _=>rfl) (fun _ _ _ _=>rfl)
 have hcs:cs'=J.hdr r:=by
  cases hw:dY J R r with
  | none=>exact hN' hw
  | some q=>exact cells_eq (K.mem q.1 q.2 hw).1 (hC' q.1 q.2 hw) hl'
 rw [hcs,anX] at Gc
 replace Gc:=qY hso Gc
 obtain ⟨_,_,hNK,_⟩:=hK' d.1.tys (rY d.1) (fun q c0 w0 hq _ hn0 hs=>by
  obtain ⟨_,_,_,h3,h4⟩:=Gj (h:=hp w) q (x:=d.2) hs
  exact ⟨h3,c0,by rw [<-hn0]; exact h4 cs1 nG⟩)
 rw [hcs] at hNK
 have hkind:(fD R d z own').kind=R.kind:=rfl
 have afe:(fD R d z own').bg=false:=hr.2
 have I7:∀b,b∈J.fo r↔b∈fT\/b∈rest:=fun b=>by rw [hp1.mem_iff,ann]
 have BI:=hp1.nodup hnd.2
 have hsz:z.1.size=R.k.size:=Dr p (t:=q8 d) hg (rY d.1) hz
 have T1:yN cx Z J F w r R (fD R d z own') rest (fT++F) w d.1.tys (rX d.1++d.1.tys):=by
  refine ⟨.inr ⟨rfl,rfl,anv _,rfl,fun _=>hsz,RY d.1⟩,⟨(H.dG r R hr.1).1,hnt⟩,⟨rfl,rfl,rfl⟩,anv _,fun b _ h=>absurd rfl h, ?_, ?_, ?_, ?_,fun _ _ _ _ _ _ _ _ h=>absurd rfl h,fun _=>⟨rfl,rfl⟩⟩
  ·intro _ b hb
   rw [om hkind,dX] at hb
   refine .inl ?_
   rw [bX,dX,I7]
   exact hb.imp id .inr
  ·intro b hb
   rcases ann.1 hb with h | h
   ·refine .inr (.inr ⟨by rw [bX,dX,I7]; exact .inr (.inl h), .inr (.inl ?_)⟩)
    obtain ⟨e,h1,_,h2⟩:=tN hd1 b h
    exact ⟨e,h1,h2⟩
   ·exact .inl h
  ·refine anl.2 ⟨(anl.1 BI).1,H.xK,fun b h1 c h2 e=>H.iY r R hr b ?_ (e▸h2)⟩
   rw [bX,dX,I7]
   exact .inr (.inl h1)
  ·intro _ b hb hF
   rw [om hkind,dX] at hb
   rcases ann.1 hF with h | h
   ·rcases hb with ⟨o,hb⟩ | hb
    ·exact hnd.1 b o hb ((I7 b).2 (.inl h))
    ·exact (anl.1 BI).2.2 b h b hb rfl
   ·refine H.iY r R hr b ?_ h
    rw [bX,dX,I7]
    exact hb.imp id .inr
 have hT:=T1.turn (hdr':=J.hdr r) H hr
 have Gf:∀tys,bD (au Z r (fD R d z own')) tys R.tags=bD Z tys R.tags:=fun tys=>lF hnt
 refine ⟨cs1,nG,fT,rest,hn,T1.rel H hr ?_ ?_ ?_,hT, ?_,Gf,hp1⟩
 ·intro _
  refine ⟨fun hv'=>?_,by rw [K.len]; exact hsz.symm, ?_, ?_⟩
  ·obtain ⟨h1,h2,_⟩:=hT.views H R.tags _ (H.dG r R hr.1).1 hv'.2
   exact bE (fun b hb=>(h2 b hb.1 (.inl hb.2)).2) (fun b hb=>(h2 b hb.1 (.inl hb.2)).1) (fun _ _=>rfl) (rQ _ (fun _ h=>h) Gc)
  ·intro b o hb
   have:(fD R d z own').k.size=R.k.size:=hsz
   rw [this]
   exact K.mem b o hb
  ·rw [om hkind,nD]
   exact ⟨fun b o e hb=>hnd.1 b o e ((I7 b).2 (.inr hb)),(anl.1 BI).2.1⟩
 ·intro _ q n v hn' hold
  refine ⟨hold.1, ?_⟩
  intro Q hQ Kr hcl hty hsome
  have hQ':Q=fD R d z own':=by
   rw [aI] at hQ
   simpa using hQ.symm
  subst hQ'
  have Vu:dY (aG J r (J.loc r) (J.hdr r) rest) (fD R d z own') r=dY J R r:=by rw [kE,uZ hkind, <-uo]
  have OE:(aG J r (J.loc r) (J.hdr r) rest).hdr r=J.hdr r:=by simp [aG,upd_same]
  have hh:(fD R d z own').h=(rX d.1++d.1.tys)++R.h:=rfl
  rw [hh,o7 hn'] at hcl
  by_cases hq:q=[]
  case neg=>
   have hpt:∀k,eT q k=qh :: ah q k:=by
    intro k
    cases q with
    | nil=>exact absurd rfl hq
    | cons s q=>rfl
   rw [hpt] at hcl
   obtain ⟨k1,k2⟩:=Jv (bad:=d.1.tys) p q hg hz (fun q' h _=>let ⟨h1,h2,h3,_⟩:=Gj (h:=hp w) q' (x:=d.2) h; ⟨h1.trans h2.symm,h3⟩) hsome (fun e he hm=>hcl.1 e (ang _ hm) (anE _ he))
   have k1':ah q R.k=ah q (fD R d z own').k:=k1
   have hty':∀t∈ah q R.k,az t R.own=true:=fun t ht=>by
    have ht':t∈ah q z.1:=k1▸ht
    rw [<-hso t (oJ q t ht')]
    exact hty t ht'
   rw [<-k1'] at hcl
   obtain ⟨g1,cs,b,o,g2,g3⟩:=hold.2 R hr.1 hv (by rw [hpt]; exact hcl.2) hty' k2
   obtain ⟨f1,c1,f2⟩:=hNK q cs (some (b,o)) g1 (fun t ht=>⟨hty' t ht,fun hm=>hcl.1 t (ang _ hm) (anE _ ht)⟩) g2 hsome
   rw [Vu,OE]
   exact ⟨f1,c1,b,o,f2,g3⟩
  subst hq
  obtain ⟨_,cs,b,o,h1,h2⟩:=hold.2 R hr.1 hv (by simp [clean,eT,az]) (fun t ht=>by simp [ah] at ht) rfl
  simp only [bH,ane,anp] at h1
  refine ⟨trivial,(aG J r (J.loc r) (J.hdr r) rest).hdr r,b,o, ?_,h2⟩
  simp only [bH]
  rw [kE,uZ hkind, <-uo,h1.2]
 ·intro _ g v hg' hold Q hQ hgQ
  obtain ⟨hQ',_⟩:=eP hQ
  subst hQ'
  obtain ⟨h1,h2⟩:=hold R hr hgQ
  refine ⟨h1, ?_⟩
  have:(aG J r (J.loc r) (J.hdr r) rest).hdr r=J.hdr r:=by simp [aG,upd_same]
  rw [this]
  rcases hpv with hp | ⟨t,ht⟩
  ·
   cases p with
   | nil=>exact absurd rfl hp
   | cons s p=>
    exact (PX (Jr (by simp) hz)).2 h2
  ·rw [ht] at h1; simp at h1
 ·refine ⟨fun hc=>?_,fun t ht=>hT.tag ((H.dG r R hr.1).1 t ht),fun b hb=>anj _ hb,(anl.1 BI).1,hl1⟩
  obtain ⟨h1,h2,_⟩:=hT.views H R.tags _ (H.dG r R hr.1).1 hc
  exact bE (fun b hb=>(h2 b hb.1 (.inl hb.2)).2) (fun b hb=>(h2 b hb.1 (.inl hb.2)).1) (fun _ _=>rfl) (rQ _ (fun _ h=>h) hd1)
theorem gap (H:Rel cx Z J F a w) (hr:aQ Z r R) (hv:bB Z R) {p:List Stp} {d z:Dat} (hg:aR p R.k R.x=some d) (hz:eF p R.k R.x (q8 d)=some z) (eZ:mG p R.k R.x)
  (hown:∀t∈ah p R.k,az t R.own=true) (hpv:p≠[]\/∃t,R.kind=.var t) :
  ∃cs1 nG fT rest,bH (hp w) p R.k (J.hdr r) (dY J R r)=some (cs1,nG)/\
   Rel cx (au Z r (fq R d z)) (aG J r (J.loc r) (J.hdr r) rest) (fT++F) a w/\
   nA cx Z J F w (au Z r (fq R d z)) (aG J r (J.loc r) (J.hdr r) rest) (fT++F) w (sj r d.1.tys) (sj r (rX d.1++d.1.tys))/\
   Held cx (au Z r (fq R d z)) (aG J r (J.loc r) (J.hdr r) rest) (fT++F) w d.1 d.2 R.own R.tags cs1 fT/\(∀tys,bD (au Z r (fq R d z)) tys R.tags=bD Z tys R.tags)/\(J.fo r).Perm (fT++rest):=
 aeR (own':=R.own) H hr hv hg hz eZ hown hpv (fun _ _=>rfl)
end
end
section
open Go
variable [Fr]
theorem Pp {own own':List TypeId}:∀{k:K},(∀t∈k.tys,az t own'=true->az t own=true)->∀t∈aV own k,t∈aV own' k:=by
 intro k
 induction k with
 | sl e k ih=>
  intro h t ht
  cases hm':az e own' with
  | true=>
   have hm:=h e (by simp [K.tys]) hm'
   simp only [aV,hm,an0] at ht
   simp only [aV,hm',an0]
   exact ih (fun t ht=>h t (by simp [K.tys,ht])) t ht
  | false=>
   have:=Dy ht
   simpa [aV,hm',K.tys] using this
 | pair a b iha ihb=>
  intro h t ht
  simp only [aV,ann] at ht ⊢
  exact ht.imp (iha (fun t ht=>h t (by simp [K.tys,ht])) t) (ihb (fun t ht=>h t (by simp [K.tys,ht])) t)
 | st f ih=>intro h t ht; exact ih h t ht
 | _=>intro _ t ht; simp [aV] at ht
theorem N7 {own:List TypeId}:∀(n:Nat) {c:K} {x:El c} {s u y:Dat},aP n c x=some s->dm n c x u=some y->
  (∀e∈aV own u.1,e∈aV own y.1)/\((∀e∈aV own s.1,e∈aV own u.1)->∀e∈aV own c,e∈aV own y.1):=by
 intro n
 induction n with
 | zero=>
  intro c x s u y hg hp
  cases c with
  | pair a b=>
   simp only [aP,dm,ane] at hg hp
   subst hg; subst hp
   refine ⟨fun e he=>by simp [aV,he],fun h e he=>?_⟩
   simp only [aV,ann] at he ⊢
   exact he.imp (h e) id
  | _=>simp [aP] at hg
 | succ n ih=>
  intro c x s u y hg hp
  cases c with
  | pair a b=>
   simp only [aP,dm] at hg hp
   cases h3:dm n b x.2 u with
   | none=>rw [h3] at hp; simp at hp
   | some y2=>
    rw [h3] at hp
    simp only [ane] at hp
    subst hp
    obtain ⟨g1,g2⟩:=ih hg h3
    refine ⟨fun e he=>by simp [aV,g1 e he],fun h e he=>?_⟩
    simp only [aV,ann] at he ⊢
    exact he.imp id (g2 h e)
  | _=>simp [aP] at hg
theorem JD {own:List TypeId}:∀(p:List Stp) {k:K} {x:El k} {d t z:Dat},aR p k x=some d->eF p k x t=some z->
  (∀e∈aV own t.1,e∈aV own z.1\/∃q∈ah p k,az q own=false)/\((∀e∈aV own d.1,e∈aV own t.1)->∀e∈aV own k,e∈aV own z.1):=by
 intro p
 induction p with
 | nil=>
  intro k x d t z hg hz
  simp only [aR,eF,ane] at hg hz
  subst hg; subst hz
  exact ⟨fun e he=>.inl he,fun h=>h⟩
 | cons s p ih=>
  intro k x d t z hg hz
  cases s with
  | gu n=>
   cases k with
   | st c=>
    simp only [aR,eF] at hg hz
    cases hcg:aP n c x with
    | none=>rw [hcg] at hg; simp at hg
    | some s=>
     rw [hcg] at hg hz
     simp only at hg hz
     cases hs':eF p s.1 s.2 t with
     | none=>rw [hs'] at hz; simp at hz
     | some u=>
      rw [hs'] at hz
      simp only at hz
      cases hcp:dm n c x u with
      | none=>rw [hcp] at hz; simp at hz
      | some y=>
       rw [hcp] at hz
       simp only [ane] at hz
       subst hz
       obtain ⟨g1,g2⟩:=ih hg hs'
       obtain ⟨f1,f2⟩:=N7 (own:=own) n hcg hcp
       have hpt:ah (.gu n :: p) (.st c)=ah p s.1:=by simp [ah,cB n hcg]
       rw [hpt]
       exact ⟨fun e he=>(g1 e he).imp (f1 e) id,fun h=>f2 (g2 h)⟩
   | _=>simp [aR] at hg
  | idx i=>
   cases k with
   | sl e k=>
    simp only [aR,eF] at hg hz
    cases hs':eF p k ((show List (El k) from x).getD i.toNat k.zero) t with
    | none=>rw [hs'] at hz; simp at hz
    | some u=>
     rw [hs'] at hz
     simp only at hz
     cases hck:bQ u.1 k u.2 with
     | none=>rw [hck] at hz; simp at hz
     | some y=>
      rw [hck] at hz
      simp only [ane] at hz
      subst hz
      obtain ⟨g1,g2⟩:=ih hg hs'
      have huk:u.1=k:=by
       unfold bQ at hck
       split at hck
       ·rename_i hb; exact K.eq_of_beq hb
       ·simp at hck
      refine ⟨fun e' he=>?_,fun _ e' he=>he⟩
      cases hm:az e own with
      | false=>exact .inr ⟨e,by simp [ah],hm⟩
      | true=>
       rcases g1 e' he with h | ⟨q,h1,h2⟩
       ·exact .inl (by simp only [aV,hm,an0]; rw [<-huk]; exact h)
       ·exact .inr ⟨q,by simp [ah,h1],h2⟩
   | _=>simp [aR] at hg
theorem LC:∀(n:Nat) {c:K} {x y:El c} {s:Dat},aP n c x=some s->∃t:Dat,aP n c y=some t/\t.1=s.1:=by
 intro n
 induction n with
 | zero=>
  intro c x y s h
  cases c <;> first | (simp only [aP,ane] at h; subst h; exact ⟨_,rfl,rfl⟩) | simp [aP] at h
 | succ n ih=>
  intro c x y s h
  cases c <;> first | exact ih h | simp [aP] at h
theorem Ru:∀(n:Nat) {c:K} {x:El c} {s:Dat},aP n c x=some s->∀t∈s.1.tys,t∈c.tys:=by
 intro n
 induction n with
 | zero=>
  intro c x s h t ht
  cases c with
  | pair a b=>simp only [aP,ane] at h; subst h; simp [K.tys,ht]
  | _=>simp [aP] at h
 | succ n ih=>
  intro c x s h t ht
  cases c with
  | pair a b=>simp only [aP] at h; simp [K.tys,ih h t ht]
  | _=>simp [aP] at h
theorem uO {h h':Heap} {own:List TypeId}:∀(q:List Stp) {k:K} {x y:El k} {cs cs':List Value} {wh:Option (Nat×Nat)} {c0:List Value} {w0:Option (Nat×Nat)},
  mG q k x->(∀t∈ah q k,az t own=true/\t∉k.tys)->bH h q k cs wh=some (c0,w0)->mG q k y/\∃c1,bH h' q k cs' wh=some (c1,w0):=by
 intro q
 induction q with
 | nil=>
  intro k x y cs cs' wh c0 w0 _ _ hn
  simp only [bH,ane,anp] at hn ⊢
  exact ⟨trivial,_,rfl,hn.2⟩
 | cons s q ih=>
  intro k x y cs cs' wh c0 w0 hp ht hn
  cases s with
  | gu n=>
   cases k with
   | st c=>
    simp only [mG] at hp
    cases hg:aP n c x with
    | none=>rw [hg] at hp; exact hp.elim
    | some s=>
     rw [hg] at hp
     simp only at hp
     have hpt:ah (.gu n :: q) (.st c)=ah q s.1:=by simp [ah,cB n hg]
     rw [hpt] at ht
     obtain ⟨t,g1,g2⟩:=LC n (c:=c) (x:=x) (y:=y) hg
     obtain ⟨sk,sx⟩:=s
     obtain ⟨tk,ty⟩:=t
     simp only at g2
     subst g2
     simp only [bH] at hn ⊢
     cases ho:bG n c with
     | none=>rw [ho] at hn; simp at hn
     | some q2=>
      rw [ho] at hn
      simp only at hn
      have hk2:q2.2=tk:=by
       have key:∀(n:Nat) {c:K} {x:El c} {s:Dat} {q:Nat×K},aP n c x=some s->bG n c=some q->q.2=s.1:=by
        intro n
        induction n with
        | zero=>intro c x s q h1 h2; cases c with
         | pair a b=>simp only [aP,bG,ane] at h1 h2; subst h1; subst h2; rfl
         | _=>simp [aP] at h1
        | succ n ih=>intro c x s q h1 h2; cases c with
         | pair a b=>
          simp only [aP,bG] at h1 h2
          cases h3:bG n b with
          | none=>rw [h3] at h2; simp at h2
          | some q3=>rw [h3] at h2; simp only [ane] at h2; subst h2; exact ih (q:=q3) h1 h3
         | _=>simp [aP] at h1
       exact key n hg ho
      obtain ⟨o2,k2⟩:=q2
      simp only at hk2
      subst hk2
      simp only [mG,g1]
      exact ih hp (fun t h=>⟨(ht t h).1,fun h2=>(ht t h).2 (Ru n hg t h2)⟩) hn
   | _=>simp [mG] at hp
  | idx i=>
   cases k with
   | sl e k=>exact absurd (by simp [K.tys]) (ht e (by simp [ah])).2
   | _=>simp [mG] at hp
theorem wX {h:Heap} {b o n:Nat} {arr:Array Value} {e:TypeId} {fr:Nat×Nat} (hb:h b=some (.cells arr e fr)) (hl:o+n<=arr.size):Cells h b o (nL h b o n):=by
 intro i hi
 simp only [nL,aoy,List.length_range] at hi ⊢
 rw [aoG,aoH hi]
 simp only [an1]
 unfold cellAt
 rw [hb]
 simp [show o+i<arr.size by omega]
theorem iE.widen {h0 h h':Heap} {b o n o' n':Nat} (H0:iE h0 h b o n) (H:iE h h' b o' n') (h1:o<=o') (h2:o'+n'<=o+n):iE h0 h' b o n:=by
 obtain ⟨a0,a1,e,fr,g1,g2,g3,g4⟩:=H0
 obtain ⟨b0,b1,e',fr',f1,f2,f3,f4⟩:=H
 rw [g2] at f1
 simp only [ane,Obj.cells.injEq] at f1
 obtain ⟨rfl,rfl,rfl⟩:=f1
 exact ⟨a0,b1,e,fr,g1,f2,f3.trans g3,fun i hi=>(f4 i (by omega)).trans (g4 i hi)⟩
theorem dF {l m:List Tag} {t:Tag}:t∈jq l m↔t∈l\/t∈m:=by
 induction l with
 | nil=>simp [jq]
 | cons s l ih=>
  obtain ⟨r,n⟩:=s
  simp only [jq]
  cases h:m.any fun t=>Nat.beq t.1 r && Nat.beq t.2 n with
  | true=>
   simp only [an0,ih,anq]
   constructor
   ·intro h; exact h.imp .inr id
   ·rintro ((h1 | h1) | h1)
    ·subst h1
     obtain ⟨t,h2,h3⟩:=List.any_eq_true.1 h
     simp only [ank] at h3
     obtain ⟨tr,tn⟩:=t
     have:=ani h3.1
     have:=ani h3.2
     simp_all
    ·exact .inl h1
    ·exact .inr h1
  | false=>simp only [an3,ih,anq,or_assoc]
theorem pg {r:Nat} {l:List Tag} {t:Tag}:t∈wz r l↔t∈l/\t.1≠r:=by
 unfold wz
 rw [anw]
 constructor
 ·rintro ⟨h1,h2⟩
  refine ⟨h1,fun e=>?_⟩
  rw [e] at h2
  simp at h2
 ·rintro ⟨h1,h2⟩
  refine ⟨h1, ?_⟩
  cases hb:Nat.beq t.1 r with
  | true=>exact absurd (ani hb) h2
  | false=>rfl
section
variable {cx:Cx} {Z:St} {J:dP} {F:List Nat} {a:Act} {w:World} {r:Nat} {R:Root}
theorem vN {T T':List Tag} {b:Nat} (h:jc cx Z J F w T b) (hs:∀t∈T,t∈T'):jc cx Z J F w T' b:=
 ⟨h.1,h.2.1,h.2.2.1,fun r R h1 h2=>by obtain ⟨n,hn⟩:=h.2.2.2.1 r R h1 h2; exact ⟨n,hs _ hn⟩,fun hb=>(h.2.2.2.2 hb).imp (fun ⟨j,n,h1,h2⟩=>⟨j,n,hs _ h1,h2⟩) id⟩
theorem ql {T T':List Tag} {tys agk:List TypeId} (h:bD Z tys T=true) (hs:∀t∈T',t∈T) (ht:∀t∈agk,t∈tys):bD Z agk T'=true:=by
 rw [oo] at h ⊢
 intro t h1
 rcases h t (hs t h1) with h | ⟨R,h2,h3,h4⟩
 ·exact .inl h
 ·refine .inr ⟨R,h2,h3, ?_⟩
  unfold clean at h4 ⊢
  rw [anu] at h4 ⊢
  intro x hx
  have:=h4 x hx
  simp only [an7,aW] at this ⊢
  exact fun h=>this (ht x h)
theorem oq (H:Rel cx Z J F a w) (hr:aQ Z r R) {b:Nat} (hb:b∈J.fo r):¬mD cx b:=by
 rintro ⟨j,pi,o,n,h1,h2⟩
 obtain ⟨Q,hQ,hk,hl,_⟩:=H.mE j pi b o n h1 h2
 have hbq:b∈blk J Q (aA j):=by simp [blk,dY,hk,hl]
 have hbr:b∈blk J R r:=ang _ hb
 by_cases e:r=aA j
 ·subst e
  have hQR:Q=R:=by have:=hQ.1; rw [hr.1] at this; simpa using this.symm
  subst hQR
  have hnd:=(H.roots _ _ hr).nd
  rw [bX,nD] at hnd
  exact hnd.1 b o (by simp [vZ,hk,hl]) hb
 ·exact H.EK _ _ _ _ hr hQ e b hbr hbq
theorem rO (H:Rel cx Z J F a w) {b:Nat} (hb:b∈F):¬mD cx b:=by
 rintro ⟨j,pi,o,n,h1,h2⟩
 obtain ⟨Q,hQ,hk,hl,_⟩:=H.mE j pi b o n h1 h2
 have hbq:b∈blk J Q (aA j):=by simp [blk,dY,hk,hl]
 exact H.iY _ _ hQ b hbq hb
def bO (R:Root) (z:Dat) (own:List TypeId) (tags:List Tag) (lw lh:List TypeId) (kp:Bool):Root:=
 { R with k:=z.1,x:=z.2,own:=own,tags:=tags,w:=lw++R.w,h:=lh++R.h,keep:=kp }
theorem pV (H:Rel cx Z J F a w) (hr:aQ Z r R) (hv:bB Z R) {p:List Stp} {d:Dat} (hg:aR p R.k R.x=some d) (eZ:mG p R.k R.x) (hown:∀t∈ah p R.k,az t R.own=true)
  {cs1:List Value} {b o:Nat} (hn:bH (hp w) p R.k (J.hdr r) (dY J R r)=some (cs1,some (b,o))) :
  Cells (hp w) b o cs1/\(∃fT,Ow (hp w) R.own (jc cx Z J F w R.tags) d.1 d.2 cs1 fT/\∀b∈fT,b∈J.fo r)/\b∈blk J R r/\(∃arr e lo hi,hp w b=some (.cells arr e (lo,hi))/\zY arr.size lo hi/\o+d.1.size<=arr.size/\((eO R p=e/\¬mD cx b)\/(mD cx b/\eO R p=SENT)))/\
   (∀b' o',dY J R r=some (b',o')->b=b'->o'<=o/\o+d.1.size<=o'+R.k.size):=by
 have K:=H.roots r R hr
 have hnd:=K.nd
 rw [bX,nD] at hnd
 obtain ⟨pz,fT,rest,nG,hn',hp1,hd1,hc1,hin,hnone,hup⟩:=focus p (K.ow hv) (fun b o e=>(K.mem b o e).1) hg eZ hown hnd.2 (fun b o e=>hnd.1 b o e)
 rw [hn] at hn'
 simp only [ane,anp] at hn'
 obtain ⟨rfl,rfl⟩:=hn'
 refine ⟨hc1 b o rfl,⟨fT,hd1,fun b hb=>hp1.mem_iff.2 (anj _ hb)⟩, ?_, ?_, ?_⟩
 ·rw [bX,dX]
  rcases hin b o rfl with ⟨_,o0,ew,_⟩ | ⟨h1,_⟩
  ·exact .inl ⟨o0,ew⟩
  ·exact .inr (hp1.mem_iff.2 (ang _ h1))
 ·rcases hin b o rfl with ⟨h0,o0,ew,h1,h2⟩ | ⟨h1,arr,e,lo,hi,h2,h3,h4,h5⟩
  ·obtain ⟨_,arr,e,lo,hi,g1,g2,g3,g4⟩:=K.mem b o0 ew
   refine ⟨arr,e,lo,hi,g1,g2,by omega, ?_⟩
   unfold eO
   rw [h0]
   simp only [List.getLastD_nil]
   unfold Root.bt
   cases hk:R.kind with
   | var t=>
    refine .inl ⟨(g4 t hk).symm, ?_⟩
    rintro ⟨j,pi,o',n',h1',h2'⟩
    obtain ⟨Q,hQ,hkQ,hlQ,_⟩:=H.mE j pi b o' n' h1' h2'
    have hbq:b∈blk J Q (aA j):=by simp [blk,dY,hkQ,hlQ]
    have hbr:b∈blk J R r:=by rw [bX,dX]; exact .inl ⟨o0,ew⟩
    by_cases e:r=aA j
    ·subst e
     have hQR:Q=R:=by have:=hQ.1; rw [hr.1] at this; simpa using this.symm
     subst hQR
     rw [hk] at hkQ
     simp at hkQ
    ·exact H.EK _ _ _ _ hr hQ e b hbr hbq
   | par=>
    obtain ⟨j,pi,n,hj1,hj2,hj3⟩:=H.BX r R hr hk
    have:(J.loc r).1=b:=by
     have:=ew
     unfold dY at this
     rw [hk] at this
     simp only [ane] at this
     rw [this]
    exact .inr ⟨⟨j,pi,_,n,hj2,by rw [hj3,this]⟩,rfl⟩
   | anon=>unfold dY at ew; rw [hk] at ew; simp at ew
   | dead=>unfold dY at ew; rw [hk] at ew; simp at ew
  ·refine ⟨arr,e,lo,hi,h2,h3,h5, .inl ⟨?_,oq H hr (hp1.mem_iff.2 (ang _ h1))⟩⟩
   unfold eO
   rw [apO,h4]
   rfl
 ·intro b' o' ew e
  subst e
  rcases hin b o rfl with ⟨_,o0,ew',h1,h2⟩ | ⟨h1,_⟩
  ·rw [ew] at ew'
   simp only [ane,anp,true_and] at ew'
   subst ew'
   exact ⟨h1,h2⟩
  ·exact absurd (hp1.mem_iff.2 (ang _ h1)) (hnd.1 b o' ew)
end
end
section
open Go
variable [Fr]
section
variable {cx:Cx} {Z:St} {J:dP} {F:List Nat} {a:Act} {w:World} {r:Nat} {R:Root}
structure rR (cx:Cx) (Z:St) (J:dP) (F:List Nat) (w:World) (r:Nat) (R:Root) (p:List Stp) (d:Dat) (own':List TypeId) (cs1:List Value) (nG:Option (Nat×Nat)) (fT rest:List Nat)
  (t z:Dat) (tags':List Tag) (lw lh:List TypeId) (kp:Bool) (ft F':List Nat) (cs':List Value) (w':World):Prop where
 hz:eF p R.k R.x t=some z
 ht:t.1.size=d.1.size
 Sg:∀e∈aV own' d.1,e∈aV own' t.1
 os:w'.os=w.os/\w'.tape=w.tape/\w'.output=w.output
 size:w.heap.size<=w'.heap.size
 Nk:∀b,b<w.heap.size->hp w' b≠hp w b->b∈F\/(b∈fT/\∃e∈lw,qm (hp w) b=some e)\/(∃o,nG=some (b,o)/\eO R p∈lw)
 cells:∀b o,nG=some (b,o)->Cells (hp w') b o cs'/\iE (hp w) (hp w') b o d.1.size
 none:nG=none->cs'=cs1
 len:cs'.length=d.1.size
 log:lw≠[]\/lh≠[]
 tags:(∀t∈R.tags,t∈tags')/\fG Z tags'/\∀n,(r,n)∉tags'
 Qy:∀b∈ft,b∈fT\/b∈F\/(w.heap.size<=b/\b<w'.heap.size)
 ajc:ft.Nodup
 newF:∀b∈F',b∈F\/(w.heap.size<=b/\b<w'.heap.size)\/(b∈fT/\∃e∈lw,qm (hp w) b=some e)
 agI:F'.Nodup
 ajb:∀b∈ft,b∉F'
 akh:tZ t.1=tZ d.1\/nG≠Option.none
 aje:t.1=d.1\/(∀q',(aR q' t.1 t.2).isSome=true->(∀e∈ah q' t.1,e∉lh)->ah q' d.1=ah q' t.1/\(aR q' d.1 d.2).isSome=true)\/qh∈lh
 nav:qh∉lh->EG (hp w) (hp w') own' d.1 d.2 cs1 nG t cs' lh
 cont:∀J',nA cx Z J F w (au Z r (bO R z own' tags' lw lh kp)) J' F' w' (sj r lw) (sj r lh)->(∀b∈blk J' (bO R z own' tags' lw lh kp) r,(∃o,dY J R r=some (b,o))\/b∈ft\/b∈rest)->
  bB (au Z r (bO R z own' tags' lw lh kp)) (bO R z own' tags' lw lh kp)->Ow (hp w') own' (jc cx (au Z r (bO R z own' tags' lw lh kp)) J' F' w' tags') t.1 t.2 cs' ft
theorem Rel.place (H:Rel cx Z J F a w) (hr:aQ Z r R) (hv:bB Z R) {p:List Stp} {d:Dat} {own':List TypeId} (hg:aR p R.k R.x=some d) (eZ:mG p R.k R.x)
  (hsub:∀t,az t own'=true->az t R.own=true) (hown:∀t∈ah p R.k,az t own'=true) :
  ∃fd ok' fT rest cs1 nG,bH (hp w) p R.k (J.hdr r) (dY J R r)=some (cs1,nG)/\(J.fo r).Perm (fT++rest++fd)/\Ow (hp w) own' ok' d.1 d.2 cs1 fT/\(∀b∈fT++rest,∃e∈R.k.tys,az e own'=true/\qm (hp w) b=some e)/\
   ((∀t∈R.k.tys,az t own'=az t R.own)->fd=[]/\Ow (hp w) own' (jc cx Z J F w R.tags) d.1 d.2 cs1 fT)/\
   (∀b o,nG=some (b,o)->b∈rest\/∃o0,dY J R r=some (b,o0)/\o0<=o/\o+d.1.size<=o0+R.k.size)/\(∀b o,nG=some (b,o)->b∉fT)/\
   ∀{t z:Dat} {tags':List Tag} {lw lh:List TypeId} {kp:Bool} {ft F':List Nat} {cs':List Value} {w':World},rR cx Z J F w r R p d own' cs1 nG fT rest t z tags' lw lh kp ft F' cs' w'->
    ∃J',Rel cx (au Z r (bO R z own' tags' lw lh kp)) J' F' a w'/\nA cx Z J F w (au Z r (bO R z own' tags' lw lh kp)) J' F' w' (sj r lw) (sj r lh)/\(∀b∈blk J' (bO R z own' tags' lw lh kp) r,(∃o,dY J R r=some (b,o))\/b∈ft\/b∈rest)/\
     (qh∉lh->bB (au Z r (bO R z own' tags' lw lh kp)) (bO R z own' tags' lw lh kp)->bH (hp w') p z.1 (J'.hdr r) (dY J' (bO R z own' tags' lw lh kp) r)=some (cs',nG))/\∀b∈ft,b∈J'.fo r:=by
 have K:=H.roots r R hr
 have hnd:=K.nd
 rw [bX,nD] at hnd
 have hO:=K.ow hv
 obtain ⟨I4,fd,hpK,hOK,hfd0⟩:∃I4 fd,(J.fo r).Perm (I4++fd)/\Ow (hp w) own' (fun b=>(jc cx Z J F w R.tags b\/b∈fd)/\∃t∈aV own' R.k,vo (hp w) b t) R.k R.x (J.hdr r) I4/\((∀t∈R.k.tys,az t own'=az t R.own)->fd=[]):=by
  by_cases hall:∀t∈R.k.tys,az t own'=az t R.own
  ·exact ⟨J.fo r,[],by simp,rQ _ (fun _ h=>h) (bE (fun _ _=>rfl) (fun _ h=>.inl h) (fun _ _=>rfl) (qY hall hO)),fun _=>rfl⟩
  ·obtain ⟨I4,fd,h1,h2⟩:=uK (own':=own') (fun t _ h=>hsub t h) hO
   exact ⟨I4,fd,h1,rQ _ (fun _ h=>h) h2,fun h=>absurd h hall⟩
 have aa8:=hpK.nodup hnd.2
 have ajG:∀b,b∈J.fo r↔b∈I4\/b∈fd:=fun b=>by rw [hpK.mem_iff,ann]
 obtain ⟨cs1,fT,rest,nG,hn,hp1,hd1,hc1,hin,hnone,hup⟩:=focus p hOK (fun b o e=>(K.mem b o e).1) hg eZ hown (anl.1 aa8).1 (fun b o e hb=>hnd.1 b o e ((ajG b).2 (.inl hb)))
 have hpf:(J.fo r).Perm (fT++rest++fd):=hpK.trans (aoE _ hp1)
 have hfo:∀b,b∈J.fo r↔(b∈fT\/b∈rest)\/b∈fd:=fun b=>by rw [hpf.mem_iff,ann,ann]
 have R7:=hpf.nodup hnd.2
 have Mi:=(anl.1 R7).1
 have aka:=tN hOK
 have yf:∀b o,nG=some (b,o)->b∈rest\/∃o0,dY J R r=some (b,o0)/\o0<=o/\o+d.1.size<=o0+R.k.size:=by
  intro b o e
  rcases hin b o e with ⟨_,o0,ew,h1,h2⟩ | ⟨h1,_⟩
  ·exact .inr ⟨o0,ew,h1,h2⟩
  ·exact .inl h1
 have abo:∀b o,nG=some (b,o)->b∉fT:=by
  intro b o e hb
  rcases yf b o e with h | ⟨o0,ew,_⟩
  ·exact (anl.1 Mi).2.2 b hb b h rfl
  ·exact hnd.1 b o0 ew ((hfo b).2 (.inl (.inl hb)))
 have afP:∀b o,nG=some (b,o)->b∉fd:=by
  intro b o e hb
  rcases yf b o e with h | ⟨o0,ew,_⟩
  ·exact (anl.1 R7).2.2 b (ang _ h) b hb rfl
  ·exact hnd.1 b o0 ew ((hfo b).2 (.inr hb))
 refine ⟨fd,_,fT,rest,cs1,nG,hn,hpf,hd1,fun b hb=>aka b (hp1.mem_iff.2 hb), ?_,yf,abo, ?_⟩
 ·intro hall
  have h0:=hfd0 hall
  refine ⟨h0,bE (fun _ _=>rfl) (fun b hb=>?_) (fun _ _=>rfl) hd1⟩
  rcases hb.1 with hb | hb
  ·exact hb
  ·rw [h0] at hb; simp at hb
 intro t z tags' lw lh kp ft F' cs' w' P
 generalize hR':bO R z own' tags' lw lh kp=R' at *
 have Ez:R'.k=z.1:=by rw [<-hR']; rfl
 have hkind:R'.kind=R.kind:=by rw [<-hR']; rfl
 have afe:R'.bg=false:=by rw [Sm hkind]; exact hr.2
 have aeX:R'.own=own':=by rw [<-hR']; rfl
 have U3:R'.tags=tags':=by rw [<-hR']; rfl
 have hRg:R'.g=R.g:=by rw [<-hR']; rfl
 have hRw:R'.w=lw++R.w:=by rw [<-hR']; rfl
 have hRh:R'.h=lh++R.h:=by rw [<-hR']; rfl
 have hsz:z.1.size=R.k.size:=Dr p hg P.ht P.hz
 have ko:∀b,b∈fT\/b∈rest\/b∈fd\/(∃o,dY J R r=some (b,o))->b∈blk J R r:=by
  intro b hb
  rw [bX,dX,hfo]
  rcases hb with h | h | h | h
  ·exact .inr (.inl (.inl h))
  ·exact .inr (.inl (.inr h))
  ·exact .inr (.inr h)
  ·exact .inl h
 have Es:∀b∈blk J R r,b∉F:=fun b hb=>H.iY r R hr b hb
 have hblt:∀b∈blk J R r,b<w.heap.size:=fun b hb=>(K.mine b hb).1
 have aaQ:∀b∈blk J R r,b∉fT->b∉F':=fun b hb hno h=>by
  rcases P.newF b h with h | h | h
  ·exact Es b hb h
  ·have:=hblt b hb; omega
  ·exact hno h.1
 have Vs:∀b∈blk J R r,b∉fT->(∀o,nG≠some (b,o))->hp w' b=hp w b:=by
  intro b hb h1 h2
  refine anC fun hne=>?_
  rcases P.Nk b (hblt b hb) hne with h | ⟨h,_⟩ | ⟨o,h,_⟩
  ·exact Es b hb h
  ·exact h1 h
  ·exact h2 o h
 have XV:∀b∈fd,hp w' b=hp w b:=fun b hb=>Vs b (ko b (.inr (.inr (.inl hb))))
  (fun h=>(anl.1 R7).2.2 b (anj _ h) b hb rfl) (fun o e=>afP b o e hb)
 have Sb:∀b∈rest,nG.map (·.1)≠some b->hp w' b=hp w b:=fun b hb hne=>Vs b (ko b (.inr (.inl hb)))
  (fun h=>(anl.1 Mi).2.2 b h b hb rfl) (fun o e=>hne (by rw [e]; rfl))
 have Qm:∀b o,dY J R r=some (b,o)->nG.map (·.1)≠some b->hp w' b=hp w b:=fun b o e hne=>Vs b (ko b (.inr (.inr (.inr ⟨o,e⟩))))
  (fun h=>hnd.1 b o e ((hfo b).2 (.inl (.inl h)))) (fun o e=>hne (by rw [e]; rfl))
 let hdr':=match dY J R r with
  | some (b0,o0)=>nL (hp w') b0 o0 R.k.size
  | none=>J.hdr r
 have hT1:yN cx Z J F w r R R' (ft++rest) F' w' lw lh:=by
  refine ⟨.inr ⟨hRw,hRh,by rw [hRg]; exact anv _,hkind,fun _=>by rw [Ez]; exact hsz,P.log⟩,by rw [U3]; exact P.tags.2,P.os,P.size, ?_, ?_, ?_,P.agI, ?_, ?_,fun _=>by rw [<-hR']; exact ⟨rfl,rfl⟩⟩
  ·intro b hb hne
   rcases P.Nk b hb hne with h | ⟨h,h2⟩ | ⟨o,h,h2⟩
   ·exact .inl h
   ·exact .inr ⟨ko b (.inl h), .inr (.inl h2)⟩
   ·have hbb:b∈blk J R r:=ko b (by
     rcases yf b o h with h | ⟨o0,ew,_⟩
     ·exact .inr (.inl h)
     ·exact .inr (.inr (.inr ⟨o0,ew⟩)))
    refine .inr ⟨hbb, .inr ?_⟩
    rcases hin b o h with ⟨h0,o0,ew,_⟩ | ⟨_,arr,e,lo,hi,g1,_,g3,_⟩
    ·
     obtain ⟨_,arr,e,lo,hi,g1,g2,g3,g4⟩:=K.mem b o0 ew
     unfold eO at h2
     rw [h0] at h2
     simp only [List.getLastD_nil] at h2
     cases hk:R.kind with
     | var tv=>
      refine .inl ⟨tv, ?_, ?_⟩
      ·unfold Root.bt at h2; rw [hk] at h2; exact h2
      ·unfold qm; rw [g1]; simp [g4 tv hk]
     | par=>
      obtain ⟨j,pi,n,hj1,hj2,hj3⟩:=H.BX r R hr hk
      have:(J.loc r).1=b:=by
       have:=ew
       unfold dY at this
       rw [hk] at this
       simp only [ane] at this
       rw [this]
      exact .inr ⟨⟨j,pi,_,n,hj2,by rw [hj3,this]⟩,fun e=>by rw [e] at h2; simp at h2⟩
     | anon=>unfold dY at ew; rw [hk] at ew; simp at ew
     | dead=>unfold dY at ew; rw [hk] at ew; simp at ew
    ·refine .inl ⟨e, ?_,by unfold qm; rw [g1]⟩
     unfold eO at h2
     rw [apO,g3] at h2
     exact h2
  ·intro _ b hb
   rw [om hkind,dX,ann] at hb
   rcases hb with ⟨o,h⟩ | h | h
   ·exact .inl (ko b (.inr (.inr (.inr ⟨o,h⟩))))
   ·rcases P.Qy b h with h | h | h
    ·exact .inl (ko b (.inl h))
    ·exact .inr (.inl h)
    ·exact .inr (.inr h)
   ·exact .inl (ko b (.inr (.inl h)))
  ·intro b hb
   rcases P.newF b hb with h | h | h
   ·exact .inl h
   ·exact .inr (.inl h)
   ·exact .inr (.inr ⟨ko b (.inl h.1), .inr (.inl h.2)⟩)
  ·intro _ b hb
   rw [om hkind,dX,ann] at hb
   rcases hb with ⟨o,h⟩ | h | h
   ·exact aaQ b (ko b (.inr (.inr (.inr ⟨o,h⟩)))) (fun h1=>hnd.1 b o h ((hfo b).2 (.inl (.inl h1))))
   ·exact P.ajb b h
   ·exact aaQ b (ko b (.inr (.inl h))) (fun h1=>(anl.1 Mi).2.2 b h1 b h rfl)
  ·intro j pi b o n hj hb hrj hne
   obtain ⟨Q,hQ,hk,hl,hs⟩:=H.mE j pi b o n hj hb
   have hQR:Q=R:=by have:=hQ.1; rw [<-hrj,hr.1] at this; simpa using this.symm
   subst hQR
   have hwb:dY J Q r=some (b,o):=by unfold dY; rw [hk,hrj,hl]
   have hbb:=ko b (.inr (.inr (.inr ⟨o,hwb⟩)))
   obtain ⟨_,_,_,_,_,f6⟩:=H.frame
   have h0:=f6 j pi b o n hj hb
   rcases P.Nk b (hblt b hbb) hne with h | ⟨h,_⟩ | ⟨o',h,_⟩
   ·exact absurd h (Es b hbb)
   ·exact absurd ((hfo b).2 (.inl (.inl h))) (hnd.1 b o hwb)
   ·rcases yf b o' h with h1 | ⟨o0,ew,h1,h2⟩
    ·exact absurd ((hfo b).2 (.inl (.inr h1))) (hnd.1 b o hwb)
    ·rw [hwb] at ew
     simp only [ane,anp,true_and] at ew
     subst ew
     exact h0.widen (P.cells b o' h).2 h1 (by omega)
 have hT:=hT1.turn (hdr':=hdr') H hr
 have hblk':∀b∈blk (aG J r (J.loc r) hdr' (ft++rest)) R' r,(∃o,dY J R r=some (b,o))\/b∈ft\/b∈rest:=by
  intro b hb
  rw [fB,om hkind,dX,ann] at hb
  exact hb
 have hwhole:bB (au Z r R') R'->Ow (hp w') own' (jc cx (au Z r R') (aG J r (J.loc r) hdr' (ft++rest)) F' w' tags') z.1 z.2 hdr' (ft++rest)/\
   (qh∉lh->(t.1=d.1->z.1=R.k)/\EG (hp w) (hp w') own' R.k R.x (J.hdr r) (dY J R r) z hdr' lh/\bH (hp w') p z.1 hdr' (dY J R r)=some (cs',nG)):=by
  intro hv'
  have hcont:=P.cont _ (by rw [hR']; exact hT) (by rw [hR']; exact hblk') (by rw [hR']; exact hv')
  rw [hR'] at hcont
  have Sg:∀e∈aV own' R.k,e∈R'.z8:=by
   unfold Root.z8
   rw [aeX,Ez]
   exact (JD p hg P.hz).2 P.Sg
  have hc2:=hv'.2
  rw [U3] at hc2
  obtain ⟨_,hV,_⟩:=hT.views H R.tags (aV own' R.k) (H.dG r R hr.1).1 (ql hc2 P.tags.1 Sg)
  have hok:∀b,((jc cx Z J F w R.tags b\/b∈fd)/\∃t∈aV own' R.k,vo (hp w) b t)->jc cx (au Z r R') (aG J r (J.loc r) hdr' (ft++rest)) F' w' tags' b/\hp w' b=hp w b:=by
   rintro b ⟨hb,hty⟩
   rcases hb with hb | hb
   ·obtain ⟨h1,h2⟩:=hV b hb (.inl hty)
    exact ⟨vN h1 P.tags.1,h2⟩
   ·have hbb:=ko b (.inr (.inr (.inl hb)))
    refine ⟨⟨an5 (hblt b hbb) P.size,aaQ b hbb (fun h1=>(anl.1 R7).2.2 b (anj _ h1) b hb rfl),oq H hr ((hfo b).2 (.inr hb)), ?_, ?_⟩,XV b hb⟩
    ·intro q Q hq hbq
     exfalso
     rcases jS hq with ⟨rfl,rfl,_⟩ | ⟨e,hq'⟩
     ·rcases hblk' b hbq with ⟨o,h⟩ | h | h
      ·exact hnd.1 b o h ((hfo b).2 (.inr hb))
      ·rcases P.Qy b h with h | h | h
       ·exact (anl.1 R7).2.2 b (anj _ h) b hb rfl
       ·exact Es b hbb h
       ·have:=hblt b hbb; omega
      ·exact (anl.1 R7).2.2 b (ang _ h) b hb rfl
     ·rw [(gV (J:=J) (Z:=Z) (R:=R') e).blk] at hbq
      exact H.EK _ _ _ _ hr hq' (Ne.symm e) b hbb hbq
    ·intro hb0
     rcases (K.mine b hbb).2 with h | ⟨j,pi,h1,h2⟩
     ·omega
     ·exact .inr ⟨j,pi,h1,h2⟩
  obtain ⟨csn,hl0,Gc,hC',hN',hK'⟩:=hup.go (hp w') (jc cx (au Z r R') (aG J r (J.loc r) hdr' (ft++rest)) F' w' tags') t cs' ft z P.hz P.len hcont hok Sb P.cells P.none Qm
  have afd:csn=hdr':=by
   cases hw:dY J R r with
   | none=>
    have:hdr'=J.hdr r:=by simp only [hdr']; rw [hw]
    rw [this]
    exact hN' hw
   | some q=>
    have:hdr'=nL (hp w') q.1 q.2 R.k.size:=by simp only [hdr']; rw [hw]
    rw [this]
    have h1:=iR (hC' q.1 q.2 hw)
    rw [hl0,K.len] at h1
    exact h1.symm
  rw [afd] at Gc
  refine ⟨Gc,fun uu=>?_⟩
  have:=hK' lh P.ht (P.nav uu)
  rw [afd] at this
  exact ⟨this.1,this.2.2⟩
 refine ⟨aG J r (J.loc r) hdr' (ft++rest),hT1.rel H hr ?_ ?_ ?_,hT,hblk',fun hgn hv'=>by
  have h3:=((hwhole hv').2 hgn).2.2
  have Vu:dY (aG J r (J.loc r) hdr' (ft++rest)) R' r=dY J R r:=by rw [kE,uZ hkind, <-uo]
  have OE:(aG J r (J.loc r) hdr' (ft++rest)).hdr r=hdr':=by simp [aG,upd_same]
  rw [Vu,OE]
  exact h3,fun b hb=>by
  have ajF:(aG J r (J.loc r) hdr' (ft++rest)).fo r=ft++rest:=by simp [aG,upd_same]
  rw [ajF]
  exact anj _ hb⟩
 ·intro _
  refine ⟨fun hv'=>?_, ?_, ?_, ?_⟩
  ·have:=(hwhole hv').1
   subst hR'
   exact this
  ·rw [Ez,hsz]
   simp only [hdr']
   cases hw:dY J R r with
   | none=>exact K.len
   | some q=>simp [nL]
  ·intro b o hb
   rw [uZ hkind, <-uo] at hb
   have hh:hdr'=nL (hp w') b o R.k.size:=by simp only [hdr']; rw [hb]
   obtain ⟨_,arr,e,lo,hi,g1,g2,g3,g4⟩:=K.mem b o hb
   have hnew:∃kJ,hp w' b=some (.cells kJ e (lo,hi))/\kJ.size=arr.size:=by
    by_cases hbw:nG.map (·.1)=some b
    ·cases abn:nG with
     | none=>rw [abn] at hbw; simp at hbw
     | some q=>
      rw [abn] at hbw
      simp only [an1,ane] at hbw
      obtain ⟨a1,a2,te,fr,f1,f2,f3,_⟩:=(P.cells q.1 q.2 abn).2
      rw [hbw] at f1 f2
      rw [g1] at f1
      simp only [ane,Obj.cells.injEq] at f1
      obtain ⟨rfl,rfl,rfl⟩:=f1
      exact ⟨a2,f2,f3⟩
    ·exact ⟨arr,(Qm b o hb hbw).trans g1,rfl⟩
   obtain ⟨kJ,f1,f2⟩:=hnew
   refine ⟨?_,kJ,e,lo,hi,f1,by rw [f2]; exact g2,by rw [f2,Ez,hsz]; exact g3,fun tv hk=>g4 tv (hkind▸hk)⟩
   rw [hh]
   exact wX f1 (by rw [f2]; exact g3)
  ·rw [om hkind,nD]
   refine ⟨fun b o hb h=>?_,anl.2 ⟨P.ajc,(anl.1 Mi).2.1,fun b h1 c h2 e=>?_⟩⟩
   ·have hbb:=ko b (.inr (.inr (.inr ⟨o,hb⟩)))
    rcases ann.1 h with h | h
    ·rcases P.Qy b h with h | h | h
     ·exact hnd.1 b o hb ((hfo b).2 (.inl (.inl h)))
     ·exact Es b hbb h
     ·have:=hblt b hbb; omega
    ·exact hnd.1 b o hb ((hfo b).2 (.inl (.inr h)))
   ·subst e
    have hbb:=ko b (.inr (.inl h2))
    rcases P.Qy b h1 with h | h | h
    ·exact (anl.1 Mi).2.2 b h b h2 rfl
    ·exact Es b hbb h
    ·have:=hblt b hbb; omega
 ·intro _ q n v hn' hold
  refine ⟨hold.1, ?_⟩
  intro Q hQ Kr hcl hty hsome
  have hQ':Q=R':=by
   rw [aI] at hQ
   simpa using hQ.symm
  subst hQ'
  have Vu:dY (aG J r (J.loc r) hdr' (ft++rest)) Q r=dY J R r:=by rw [kE,uZ hkind, <-uo]
  have OE:(aG J r (J.loc r) hdr' (ft++rest)).hdr r=hdr':=by simp [aG,upd_same]
  rw [Vu,OE]
  rw [hRh,o7 hn'] at hcl
  by_cases hq:q=[]
  ·subst hq
   obtain ⟨_,cs,b,o,h1,h2⟩:=hold.2 R hr.1 hv (by simp [clean,eT,az]) (fun t ht=>by simp [ah] at ht) rfl
   simp only [bH,ane,anp] at h1
   exact ⟨trivial,hdr',b,o,by simp only [bH]; rw [h1.2],h2⟩
  ·have hpt:∀k,eT q k=qh :: ah q k:=by
    intro k
    cases q with
    | nil=>exact absurd rfl hq
    | cons s q=>rfl
   rw [hpt] at hcl
   have hgn:qh∉lh:=fun hm=>hcl.1 qh hm (by simp)
   obtain ⟨hk,hnk,_⟩:=(hwhole Kr).2 hgn
   subst hR'
   have Zr:ah q R.k=ah q z.1/\(aR q R.k R.x).isSome=true:=by
    rcases P.aje with h | h | h
    ·have hk:=hk h
     obtain ⟨zk,zx⟩:=z
     simp only at hk
     subst hk
     exact ⟨rfl,by rw [qC q (y:=zx)]; exact hsome⟩
    ·exact Jv (bad:=lh) p q hg P.hz h hsome (fun e he hm=>hcl.1 e hm (anE _ he))
    ·exact absurd h hgn
   have hpe:ah q (bO R z own' tags' lw lh kp).k=ah q R.k:=Zr.1.symm
   rw [hpe] at hcl hty
   have ajA:∀t∈lh,t∉qh :: ah q R.k:=hcl.1
   obtain ⟨g1,cs,b,o,g2,g3⟩:=hold.2 R hr.1 hv (by rw [hpt]; exact hcl.2) (fun t ht=>hsub t (hty t ht)) Zr.2
   obtain ⟨f1,c1,f2⟩:=hnk q cs (some (b,o)) g1 (fun t ht=>⟨hty t ht,fun h=>ajA t h (anE _ ht)⟩) g2 hsome
   exact ⟨f1,c1,b,o,f2,g3⟩
 ·intro _ g v hg' hold Q hQ hgQ
  obtain ⟨hQ',_⟩:=eP hQ
  subst hQ'
  obtain ⟨h1,h2⟩:=hold R hr (hRg▸hgQ)
  have hw:dY J R r=none:=by unfold dY; rw [h1]
  have hh:hdr'=J.hdr r:=by simp only [hdr']; rw [hw]
  have OE:(aG J r (J.loc r) hdr' (ft++rest)).hdr r=hdr':=by simp [aG,upd_same]
  rw [OE,hh,hkind]
  refine ⟨h1, ?_⟩
  rw [Ez]
  refine (PX ?_).2 h2
  by_cases hp:p=[]
  ·subst hp
   have hz:=P.hz
   simp only [eF,aR,ane] at hz hg
   subst hz
   rcases P.akh with h | h
   ·rw [h, <-hg]
   ·simp only [bH,ane,anp] at hn
    rw [<-hn.2,hw] at h
    exact absurd rfl h
  ·exact Jr hp P.hz
end
end
section
open Go
variable [Fr]
theorem xq:∀{k:K},k.flat=true->k.tys=[]:=by
 intro k
 induction k with
 | sl e k ih=>intro h; simp [K.flat] at h
 | gap n=>intro h; simp [K.flat] at h
 | pair a b iha ihb=>intro h; simp only [K.flat,ank] at h; simp [K.tys,iha h.1,ihb h.2]
 | st f ih=>intro h; exact ih h
 | _=>intro _; rfl
theorem Xp {h h':Heap} {own own':List TypeId} {ok ok':Nat->Prop}:∀{k:K} {x:El k} {cs:List Value} {fo:List Nat},k.flat=true->Ow h own ok k x cs fo->fo=[]/\Ow h' own' ok' k x cs []:=by
 intro k
 induction k with
 | sl e k ih=>intro x cs fo h; simp [K.flat] at h
 | gap n=>intro x cs fo h; simp [K.flat] at h
 | pair a b iha ihb=>
  intro x cs fo h H
  simp only [K.flat,ank] at h
  obtain ⟨c1,c2,f1,f2,e,hp,h1,h2⟩:=H
  obtain ⟨g1,k1⟩:=iha h.1 h1
  obtain ⟨g2,k2⟩:=ihb h.2 h2
  subst g1; subst g2
  exact ⟨hp.eq_nil,c1,c2,[],[],e, .refl _,k1,k2⟩
 | st f ih=>intro x cs fo h H; exact ih (x:=x) h H
 | int ik=>intro x cs fo _ H; exact ⟨H.1,rfl,H.2⟩
 | bool=>intro x cs fo _ H; exact ⟨H.1,rfl,H.2⟩
 | id e=>intro x cs fo _ H; exact ⟨H.1,rfl,H.2⟩
 | str=>intro x cs fo _ H; exact ⟨H.1,rfl,H.2⟩
 | unit=>intro x cs fo _ H; exact ⟨H.1,rfl,H.2⟩
theorem X5 {ik:IntKind} {n:Int} (h:inK ik n=true):GV ik n:=by
 cases ik <;> simp_all [inK,GV,inK.Int.blt,inK.Int.ble]
theorem bF {a b:K} {x:El a} {y:El b} (h:bQ a b x=some y):∃e:a=b,y=e▸x:=by
 unfold bQ at h
 split at h
 ·rename_i hb
  simp only [ane] at h
  exact ⟨K.eq_of_beq hb,h.symm⟩
 ·simp at h
section
variable {A:Type} {cx:Cx} {Z:St} {J:dP} {F:List Nat} {a:Act} {w:World} {z:A}
theorem gG {k:Prog A} {tys:List TypeId}:∀{T:List Tag},(nP T tys k).ends Z z->bD Z tys T=true/\k.ends Z z:=by
 intro T
 induction T with
 | nil=>intro h; exact ⟨rfl,h⟩
 | cons t T ih=>
  obtain ⟨r,n⟩:=t
  intro h
  simp only [nP] at h
  cases he:gy r with
  | true=>
   rw [he] at h
   obtain ⟨h1,h2⟩:=ih h
   exact ⟨by simp [bD,he,h1],h2⟩
  | false=>
   rw [he] at h
   simp only [an3,Prog.ends] at h
   cases hr:Z.roots r with
   | none=>rw [hr] at h; exact h.elim
   | some R=>
    rw [hr] at h
    simp only at h
    cases hc:(!R.bg && clean R.w n tys) with
    | false=>rw [hc] at h; exact h.elim
    | true=>
     rw [hc] at h
     obtain ⟨h1,h2⟩:=ih h
     exact ⟨by simp only [bD,he,hr,an3]; rw [hc,h1]; rfl,h2⟩
theorem bU {r:Nat} {k:Root->Prog A} (h:(oK r k).ends Z z):∃R,aQ Z r R/\bB Z R/\(k R).ends Z z:=by
 unfold oK at h
 simp only [Prog.ends] at h
 cases hr:Z.roots r with
 | none=>rw [hr] at h; exact h.elim
 | some R=>
  rw [hr] at h
  simp only at h
  cases hd:R.bg with
  | true=>rw [hd] at h; exact h.elim
  | false=>
   rw [hd] at h
   obtain ⟨h1,h2⟩:=gG h
   exact ⟨R,⟨hr,hd⟩,⟨hd,h1⟩,h2⟩
theorem Yd (v:Value):bN cx Z J F w (VP v) v/\qM Z (VP v):=by
 unfold VP
 split
 ·rename_i k n
  cases h:inK k n with
  | true=>exact ⟨fun _=>⟨[.int k n],⟨rfl,by simp⟩,rfl,X5 h⟩,fun t ht=>by simp at ht⟩
  | false=>exact ⟨trivial,trivial⟩
 ·exact ⟨fun _=>⟨_,⟨rfl,by simp⟩,rfl⟩,fun t ht=>by simp at ht⟩
 ·rename_i s
  exact ⟨fun _=>⟨_,⟨rfl,by simp⟩,s,rfl,rfl⟩,fun t ht=>by simp at ht⟩
 ·exact ⟨⟨none,rfl⟩,trivial⟩
 ·exact ⟨rfl,trivial⟩
 ·exact ⟨trivial,trivial⟩
theorem rV (H:Rel cx Z J F a w) {x:Operand} {k:wL->Prog A} (h:(uz x k).ends Z z):∃v1,jG cx Z J F w v1 (a.eval x)/\wO Z v1/\(k v1).ends Z z:=by
 cases x with
 | tmp t=>exact ⟨Z.slots t,H.slots t,H.rD t,h⟩
 | const v=>obtain ⟨h1,h2⟩:=Yd (cx:=cx) (Z:=Z) (J:=J) (F:=F) (w:=w) v; exact ⟨.one (VP v),h1,h2,h⟩
 | func f=>exact ⟨.one (.fn f []),⟨[],rfl,trivial⟩,fun c hc=>by simp at hc,h⟩
 | global g=>exact h.elim
theorem bY (H:Rel cx Z J F a w) {x:Operand} {k:AV->Prog A} (h:(dU x k).ends Z z):∃v1,bN cx Z J F w v1 (a.eval x)/\qM Z v1/\(k v1).ends Z z:=by
 obtain ⟨v1,h1,h2,h3⟩:=rV H h
 cases v1 with
 | one v=>exact ⟨v,h1,h2,h3⟩
 | Hq l=>exact h3.elim
 | lit _ _ _=>exact h3.elim
def evs (a:Act) (l:List (Nat×Operand)):List (Nat×Value):=l.map fun p=>(p.1,a.eval p.2)
theorem CQ (H:Rel cx Z J F a w):∀{l:List (Nat×Operand)} {k:List (Nat×AV)->Prog A},(Ad l k).ends Z z->
  ∃vs:List (Nat×AV),vs.map (·.1)=l.map (·.1)/\eD cx Z J F w (vs.map (·.2)) ((evs a l).map (·.2))/\(∀v∈vs,qM Z v.2)/\(k vs).ends Z z:=by
 intro l
 induction l with
 | nil=>intro k h; exact ⟨[],rfl,trivial,by simp,h⟩
 | cons p l ih=>
  obtain ⟨n,x⟩:=p
  intro k h
  simp only [Ad] at h
  obtain ⟨v,h1,h2,h3⟩:=bY H h
  obtain ⟨vs,g1,g2,g3,g4⟩:=ih h3
  exact ⟨(n,v) :: vs,by simp [g1],⟨h1,g2⟩,by simpa using ⟨h2,fun a b hb=>g3 (a,b) hb⟩,g4⟩
theorem jJ (H:Rel cx Z J F a w):∀{l:List Operand} {k:List AV->Prog A},(kH l k).ends Z z->
  ∃vs:List AV,eD cx Z J F w vs (l.map a.eval)/\(∀v∈vs,qM Z v)/\(k vs).ends Z z:=by
 intro l
 induction l with
 | nil=>intro k h; exact ⟨[],trivial,by simp,h⟩
 | cons x l ih=>
  intro k h
  simp only [kH] at h
  obtain ⟨v,h1,h2,h3⟩:=bY H h
  obtain ⟨vs,g2,g3,g4⟩:=ih h3
  exact ⟨v :: vs,⟨h1,g2⟩,by simpa using ⟨h2,g3⟩,g4⟩
theorem wH {ik:IntKind} {n:Int} {T:List Tag} {v:Value} (h:bN cx Z J F w (.val (.int ik) n T) v):v=.int ik n/\GV ik n:=by
 obtain ⟨cs,h1,h2,h3⟩:=h (.inl rfl)
 obtain ⟨h5,_⟩:cs=[v]/\_:=h1
 rw [h5] at h2
 simp only [apr,an9] at h2
 exact ⟨h2,h3⟩
theorem xH {b:Bool} {T:List Tag} {v:Value} (h:bN cx Z J F w (.val .bool b T) v):v=.bool b:=by
 obtain ⟨cs,h1,h2⟩:=h (.inl rfl)
 obtain ⟨h5,_⟩:cs=[v]/\_:=h1
 have h2':cs=[.bool b]:=h2
 rw [h5] at h2'
 simpa using h2'
theorem wI {s:List Int} {T:List Tag} {v:Value} (h:bN cx Z J F w (.val .str s T) v):∃B:ByteArray,v=.string B/\s=bytesOf B:=by
 obtain ⟨cs,h1,B,h2,h3⟩:=h (.inl rfl)
 obtain ⟨h5,_⟩:cs=[v]/\_:=h1
 rw [h5] at h2
 simp only [apr,an9] at h2
 exact ⟨B,h2,h3⟩
theorem OV {ik:IntKind} {n:Int} {T:List Tag} (h:GV ik n):bN cx Z J F w (.val (.int ik) n T) (.int ik n):=fun _=>⟨[.int ik n],⟨rfl,by simp⟩,rfl,h⟩
theorem Ye {b:Bool} {T:List Tag}:bN cx Z J F w (.val .bool b T) (.bool b):=fun _=>⟨[.bool b],⟨rfl,by simp⟩,rfl⟩
theorem OW {B:ByteArray} {T:List Tag}:bN cx Z J F w (.val .str (bytesOf B) T) (.string B):=fun _=>⟨[.string B],⟨rfl,by simp⟩,B,rfl,rfl⟩
theorem xe {x:AV} {v:Value} {k:IntKind->Int->Prog A} (hx:bN cx Z J F w x v) (h:(asInt x k).ends Z z):∃ik n,v=.int ik n/\GV ik n/\(k ik n).ends Z z:=by
 unfold asInt at h
 split at h
 ·rename_i ik n T
  obtain ⟨h1,h2⟩:=wH hx
  exact ⟨ik,n,h1,h2,h⟩
 ·exact h.elim
theorem Fg {x:AV} {v:Value} {k:Bool->Prog A} (hx:bN cx Z J F w x v) (h:(asBool x k).ends Z z):∃b,v=.bool b/\(k b).ends Z z:=by
 unfold asBool at h
 split at h
 ·rename_i b T
  exact ⟨b,xH hx,h⟩
 ·exact h.elim
theorem jc.q {T:List Tag} {b:Nat} (h:jc cx Z J F w T b):GH Z J F w T b:=⟨h.1,h.2.1,h.2.2.2.1⟩
theorem V7 {T T':List Tag} {b:Nat} (h:GH Z J F w T b) (hs:∀t∈T,t∈T'):GH Z J F w T' b:=
 ⟨h.1,h.2.1,fun r R h1 h2=>by obtain ⟨n,hn⟩:=h.2.2 r R h1 h2; exact ⟨n,hs _ hn⟩⟩
variable {r:Nat} {R:Root}
theorem Xr {h:Heap} {own:List TypeId} {ok:Nat->Prop}:∀{k:K} {x:El k} {cs:List Value} {fo:List Nat},(∀t∈k.tys,az t own=false)->Ow h own ok k x cs fo->fo=[]:=by
 intro k
 induction k with
 | sl e k ih=>
  intro x cs fo h H
  unfold Ow at H
  rw [aok (by rw [h e (by simp [K.tys])]; exact aph)] at H
  exact H.1
 | pair a b iha ihb=>
  intro x cs fo h H
  obtain ⟨c1,c2,f1,f2,e,hp,h1,h2⟩:=H
  rw [iha (fun t ht=>h t (by simp [K.tys,ht])) h1,ihb (fun t ht=>h t (by simp [K.tys,ht])) h2] at hp
  exact hp.eq_nil
 | st f ih=>intro x cs fo h H; exact ih (x:=x) h H
 | _=>intro x cs fo _ H; exact H.1
theorem zR (R:Root) (r:Nat) {k:K} (hk:k.flat=false):R.out r k=(r,gY R.w) :: R.tags\/(R.out r k=R.tags/\∀t∈k.tys,az t R.own=false):=by
 unfold Root.out
 rw [hk,an3]
 cases h:k.tys.any fun t=>az t R.own with
 | true=>exact .inl rfl
 | false=>
  refine .inr ⟨rfl,fun t ht=>?_⟩
  have:=List.any_eq_false.1 h t ht
  simpa using this
theorem abG (H:Rel cx Z J F a w) (hr:aQ Z r R) {k:K} (hk:R.out r k=(r,gY R.w) :: R.tags) {b:Nat} (hb:b∈J.fo r):jc cx Z J F w (R.out r k) b:=by
 have hbb:b∈blk J R r:=ang _ hb
 have hm:=(H.roots r R hr).mine b hbb
 refine ⟨hm.1,H.iY r R hr b hbb,oq H hr hb,fun q Q hq hbq=>?_,fun h0=>?_⟩
 ·by_cases e:q=r
  ·subst e
   exact ⟨gY R.w,by rw [hk]; simp⟩
  ·exact absurd hbb (H.EK q Q r R hq hr e b hbq)
 ·rcases hm.2 with h | ⟨j,pi,h1,h2⟩
  ·omega
  ·exact .inr ⟨j,pi,h1,h2⟩
theorem QC {k:K} (hk:k.flat=false):∀t∈R.tags,t∈R.out r k:=fun t ht=>by
 rcases zR R r hk with h | ⟨h,_⟩ <;> rw [h]
 ·exact anE _ ht
 ·exact ht
theorem Ji (H:Rel cx Z J F a w) (hr:aQ Z r R) (k:K):fG Z (R.out r k):=by
 intro t ht
 cases hk:k.flat with
 | true=>unfold Root.out at ht; rw [hk] at ht; simp at ht
 | false=>
  have h1:t=(r,gY R.w)\/t∈R.tags:=by
   rcases zR R r hk with h | ⟨h,_⟩ <;> rw [h] at ht
   ·exact anq.1 ht
   ·exact .inr ht
  rcases h1 with h | h
  ·subst h; exact .inr ⟨R,hr.1, .inr (anv _)⟩
  ·exact (H.dG r R hr.1).1 t h
theorem oG (H:Rel cx Z J F a w) (hr:aQ Z r R) {k:K} {x:El k} {cs:List Value} {fT:List Nat} (hO:Ow (hp w) R.own (jc cx Z J F w R.tags) k x cs fT) (hf:∀b∈fT,b∈J.fo r) :
  Vw (hp w) (jc cx Z J F w (R.out r k)) k x cs:=by
 cases hk:k.flat with
 | true=>exact jA hk (lU (fun _=>True) (fun _ _=>trivial) (fun _ _=>trivial) hO)
 | false=>
  rcases zR R r hk with ho | ⟨_,hn⟩
  ·exact lU _ (fun b hb=>vN hb (QC hk)) (fun b hb=>abG H hr ho (hf b hb)) hO
  ·exact lU _ (fun b hb=>vN hb (QC hk)) (fun b hb=>by rw [Xr hn hO] at hb; simp at hb) hO
theorem rC (H:Rel cx Z J F a w) (hr:aQ Z r R) (hv:bB Z R) {p:List Stp} {d:Dat} (hg:aR p R.k R.x=some d) (eZ:mG p R.k R.x) (hown:∀t∈ah p R.k,az t R.own=true)
  {cs1:List Value} {nG:Option (Nat×Nat)} (hn:bH (hp w) p R.k (J.hdr r) (dY J R r)=some (cs1,nG)) :
  ∃fT,Ow (hp w) R.own (jc cx Z J F w R.tags) d.1 d.2 cs1 fT/\∀b∈fT,b∈J.fo r:=by
 have K:=H.roots r R hr
 have hnd:=K.nd
 rw [bX,nD] at hnd
 obtain ⟨pz,fT,rest,wh2,hn',hp1,hd1,hc1,hin,hnone,hup⟩:=focus p (K.ow hv) (fun b o e=>(K.mem b o e).1) hg eZ hown hnd.2 (fun b o e=>hnd.1 b o e)
 rw [hn] at hn'
 simp only [ane,anp] at hn'
 obtain ⟨rfl,rfl⟩:=hn'
 exact ⟨fT,hd1,fun b hb=>hp1.mem_iff.2 (anj _ hb)⟩
theorem jw {T:List Nat} {own:List Nat} (h:(T.all fun t=>az t own)=true):∀t∈T,az t own=true:=fun t ht=>anu.1 h t ht
theorem uT (H:Rel cx Z J F a w) {x:AV} {v:Value} {k:(kk:K)->El kk->List Tag->Prog A} (hx:bN cx Z J F w x v) (hw:qM Z x) (h:(uB x k).ends Z z) :
  ∃kk y T cs,VC kk v cs/\Vw (hp w) (jc cx Z J F w T) kk y cs/\fG Z T/\(k kk y T).ends Z z:=by
 cases x with
 | val kk y T=>
  obtain ⟨h1,h2⟩:=gG h
  obtain ⟨cs,h3,h4⟩:=hx (.inr h1)
  exact ⟨kk,y,T,cs,h3,h4,hw,h2⟩
 | ref r g=>
  obtain ⟨R,hr,hv,h⟩:=bU h
  cases hg:Nat.beq R.g g with
  | false=>simp only [hg,an3] at h; exact h.elim
  | true=>
   simp only [hg,an0] at h
   obtain ⟨h1,h2⟩:=hx R hr (ani hg)
   exact ⟨R.k,R.x,R.out r R.k,J.hdr r,h2,oG H hr ((H.roots r R hr).ow hv) (fun _ h=>h),Ji H hr _,h⟩
 | rH r p n=>
  obtain ⟨R,hr,hv,h⟩:=bU h
  cases hg:Nat.beq R.qJ n with
  | false=>simp only [hg,an3] at h; exact h.elim
  | true=>
   simp only [hg,an0] at h
   cases uu:aR p R.k R.x with
   | none=>rw [uu] at h; exact h.elim
   | some d=>
    rw [uu] at h
    obtain ⟨h1,h2,cs,wh,h3,h4⟩:=hx R hr.1 hv (ani hg) d uu
    obtain ⟨fT,h5,h6⟩:=rC H hr hv uu h1 h2 h3
    exact ⟨d.1,d.2,R.out r d.1,cs,h4,oG H hr h5 h6,Ji H hr _,h⟩
 | undef=>exact h.elim
 | jy=>exact h.elim
 | ptr r p n=>exact h.elim
 | jE bt kk y T=>exact h.elim
 | FM _ _ _ _=>exact h.elim
 | yI _=>exact h.elim
 | part _ _ _ _ _=>exact h.elim
 | wT _ _ _ _=>exact h.elim
 | sub _ _ _ _ _ _=>exact h.elim
 | sel _ _ _ _ _ _=>exact h.elim
 | app _ _ _ _=>exact h.elim
 | rA=>exact h.elim
 | fn f cs=>exact h.elim
theorem xO (H:Rel cx Z J F a w) {x:AV} {v:Value} {rd:Root->Nat->List Stp->Dat->Prog A} {ro:TypeId->Dat->List Tag->Prog A} (hx:bN cx Z J F w x v) (hw:qM Z x) (h:(addrOf x rd ro).ends Z z) :
  (∃r R p d cs b o,aQ Z r R/\bB Z R/\aR p R.k R.x=some d/\mG p R.k R.x/\(∀t∈ah p R.k,az t R.own=true)/\bH (hp w) p R.k (J.hdr r) (dY J R r)=some (cs,some (b,o))/\v=.pointer (some ⟨b,o,none⟩)/\(rd R r p d).ends Z z)\/
  (∃bt d T b o cs,fG Z T/\v=.pointer (some ⟨b,o,none⟩)/\Cells (hp w) b o cs/\Vw (hp w) (jc cx Z J F w T) d.1 d.2 cs/\GH Z J F w T b/\((bt=SENT/\∀t∈T,gy t.1=true)\/(vo (hp w) b bt/\¬mD cx b))/\(ro bt d T).ends Z z):=by
 cases x with
 | ptr r p n=>
  obtain ⟨R,hr,hv,h⟩:=bU h
  cases hc:(clean R.h n (eT p R.k) && EN p R) with
  | false=>rw [hc] at h; exact h.elim
  | true=>
   rw [hc] at h
   simp only [an0] at h
   simp only [ank] at hc
   cases uu:aR p R.k R.x with
   | none=>rw [uu] at h; exact h.elim
   | some d=>
    rw [uu] at h
    have hown:=jw hc.2
    obtain ⟨h1,cs,b,o,h2,h3⟩:=hx.2 R hr.1 hv hc.1 hown (by rw [uu]; rfl)
    exact .inl ⟨r,R,p,d,cs,b,o,hr,hv,uu,h1,hown,h2,h3,h⟩
 | jE bt k y T=>
  obtain ⟨h1,h2⟩:=gG h
  obtain ⟨b,o,cs,e,hcs,hV,hok,hb⟩:=hx.2 h1
  exact .inr ⟨bt,⟨k,y⟩,T,b,o,cs,hw,e,hcs,hV,hok,hb,h2⟩
 | undef=>exact h.elim
 | jy=>exact h.elim
 | ref r g=>exact h.elim
 | rH r p n=>exact h.elim
 | val kk y T=>exact h.elim
 | FM _ _ _ _=>exact h.elim
 | yI _=>exact h.elim
 | part _ _ _ _ _=>exact h.elim
 | wT _ _ _ _=>exact h.elim
 | sub _ _ _ _ _ _=>exact h.elim
 | sel _ _ _ _ _ _=>exact h.elim
 | app _ _ _ _=>exact h.elim
 | rA=>exact h.elim
 | fn f cs=>exact h.elim
end
end
section
open Go
variable [Fr]
theorem bZ (a b:List Wr):∀Z,aB (a++b) Z=aB b (aB a Z):=by
 induction a with
 | nil=>intro Z; rfl
 | cons w a ih=>intro Z; exact ih _
theorem uR {own:List TypeId} {k:K}:∀(k0:K),(∀t∈k.tys,t∈k0.tys)->aV (k0.tys.filter fun t=>az t own) k=aV own k:=by
 intro k0
 have key:∀t∈k0.tys,az t (k0.tys.filter fun t=>az t own)=az t own:=by
  intro t ht
  cases h:az t own with
  | true=>rw [aM,anw]; exact ⟨ht,h⟩
  | false=>
   rw [aW,anw]
   rintro ⟨_,h2⟩
   rw [h] at h2
   simp at h2
 induction k with
 | sl e k ih=>
  intro h
  simp only [aV]
  rw [key e (h e (by simp [K.tys])),ih (fun t ht=>h t (by simp [K.tys,ht]))]
 | pair a b iha ihb=>intro h; simp only [aV]; rw [iha (fun t ht=>h t (by simp [K.tys,ht])),ihb (fun t ht=>h t (by simp [K.tys,ht]))]
 | st f ih=>intro h; exact ih h
 | _=>intro _; rfl
theorem Eb {own:List TypeId} {k:K}:∀t∈k.tys,az t (k.tys.filter fun t=>az t own)=az t own:=by
 intro t ht
 cases h:az t own with
 | true=>rw [aM,anw]; exact ⟨ht,h⟩
 | false=>
  rw [aW,anw]
  rintro ⟨_,h2⟩
  rw [h] at h2
  simp at h2
theorem NW {own:List TypeId}:∀(n:Nat) {c:K} {x:El c} {s:Dat},aP n c x=some s->∀t∈aV own s.1,t∈aV own c:=by
 intro n
 induction n with
 | zero=>
  intro c x s h t ht
  cases c with
  | pair a b=>simp only [aP,ane] at h; subst h; simp [aV,ht]
  | _=>simp [aP] at h
 | succ n ih=>
  intro c x s h t ht
  cases c with
  | pair a b=>simp only [aP] at h; simp [aV,ih h t ht]
  | _=>simp [aP] at h
theorem wK {own:List TypeId}:∀(p:List Stp) {k:K} {x:El k} {d:Dat},aR p k x=some d->(∀t∈ah p k,az t own=true)->∀t∈aV own d.1,t∈aV own k:=by
 intro p
 induction p with
 | nil=>intro k x d h _; simp only [aR,ane] at h; subst h; exact fun _ h=>h
 | cons s p ih=>
  intro k x d h ht
  cases s with
  | gu n=>
   cases k with
   | st c=>
    simp only [aR] at h
    cases hg:aP n c x with
    | none=>rw [hg] at h; simp at h
    | some s=>
     rw [hg] at h
     simp only at h
     have hpt:ah (.gu n :: p) (.st c)=ah p s.1:=by simp [ah,cB n hg]
     rw [hpt] at ht
     exact fun t h2=>NW n (c:=c) hg t (ih h ht t h2)
   | _=>simp [aR] at h
  | idx i=>
   cases k with
   | sl e k=>
    simp only [aR] at h
    intro t h2
    have:=ih h (fun t h=>ht t (by simp [ah,h])) t h2
    simp only [aV,ht e (by simp [ah]),an0]
    exact this
   | _=>simp [aR] at h
section
variable {cx:Cx} {Z:St} {J:dP} {F:List Nat} {a:Act} {w:World}
theorem ay {b:Bool} {A:Type} {x y:Prog A} {Z:St} {z:A} (h:(bif b then x else y).ends Z z):(b=true/\x.ends Z z)\/(b=false/\y.ends Z z):=by
 cases b with
 | true=>exact .inl ⟨rfl,h⟩
 | false=>exact .inr ⟨rfl,h⟩
theorem ET {h:Heap} {own:List TypeId} {ok:Nat->Prop}:∀{k:K} {x:El k} {cs:List Value} {fo:List Nat},k.flat=true->Ow h own ok k x cs fo->fo=[]:=by
 intro k
 induction k with
 | sl e k ih=>intro x cs fo h; simp [K.flat] at h
 | gap n=>intro x cs fo h; simp [K.flat] at h
 | pair a b iha ihb=>
  intro x cs fo h H
  simp only [K.flat,ank] at h
  obtain ⟨c1,c2,f1,f2,e,hp,h1,h2⟩:=H
  rw [iha h.1 h1,ihb h.2 h2] at hp
  exact hp.eq_nil
 | st f ih=>intro x cs fo h H; exact ih (x:=x) h H
 | _=>intro x cs fo _ H; exact H.1
theorem Xt {h:Heap} {own:List TypeId} {ok:Nat->Prop} {e:TypeId} {kk:K} {xs:List (El kk)} {b b':Option Addr} {n c hi:Nat} {fo:List Nat} (hf:kk.flat=true) (he:az e own=true) (hn:hi<=n) (hb':b'=b)
  (H:Ow h own ok (.sl e kk) xs [.slice b n c] fo):Ow h own ok (.sl e kk) (show List (El kk) from xs.take hi) [.slice b' hi c] fo:=by
 unfold Ow at H ⊢
 rw [aoi he] at H ⊢
 obtain ⟨a,n',c',e1,e2,e3,H⟩:=H
 simp only [apr,apM,an9] at e1
 obtain ⟨rfl,rfl,rfl⟩:=e1
 have hlen:(xs.take hi).length=hi:=by
  have:n=xs.length:=e2
  simp; omega
 refine ⟨b,hi,c,by rw [hb'],hlen.symm,by omega, ?_⟩
 rcases H with H | ⟨bb,o,arr,l,u,ea,hb,hfr,hs,bC,hl,hp,H⟩
 ·exact .inl H
 ·have h0:∀l∈bC,l=[]:=by
   intro l hl'
   obtain ⟨i,hi',rfl⟩:=aoc.1 hl'
   have hl:bC.length=xs.length:=hl
   obtain ⟨ds,_,h2⟩:=H i (by show i<xs.length; omega)
   have:=ET hf h2
   rw [<-this]; simp [anr,hi']
  have hfl:bC.flatten=[]:=List.flatten_eq_nil_iff.2 h0
  have ajE:(bC.take hi).flatten=[]:=List.flatten_eq_nil_iff.2 fun l hl'=>h0 l (an6 hl')
  refine .inr ⟨bb,o,arr,l,u,ea,hb,hfr,hs,bC.take hi,by show (bC.take hi).length=(xs.take hi).length; simp only [aoX]; rw [show bC.length=xs.length from hl],by rw [ajE, <-hfl]; exact hp,fun i hi'=>?_⟩
  have hi2:i<(xs.take hi).length:=hi'
  have hi3:i<hi/\i<xs.length:=by simp at hi2; omega
  obtain ⟨ds,h1,h2⟩:=H i hi3.2
  refine ⟨ds,h1, ?_⟩
  have e1:(show List (El kk) from xs.take hi)[i]'hi'=xs[i]'hi3.2:=by
   show (xs.take hi)[i]=_
   simp
  have e2:(bC.take hi).getD i []=bC.getD i []:=by simp [anr,apy,hi3.1]
  rw [e1,e2]
  exact h2
inductive wo (cx:Cx) (Z:St) (J:dP) (F:List Nat) (w:World) (v:Value) (tk:iW):Prop
 | held (hws:tk.ws=[]) (cs:List Value) (hv:VC tk.k v cs) (h:Held cx Z J F w tk.k tk.x tk.own tk.tags cs []) (hc:bD Z (aV tk.own tk.k) tk.tags=true)
 | ref (r:Nat) (R:Root) (hr:aQ Z r R) (hv:bB Z R) (e:tk=⟨R.k,R.x,R.own,R.tags,[.r r none],R.keep⟩) (hk:R.kind=.anon) (hd:VC R.k v (J.hdr r))
 | gap (r:Nat) (R:Root) (p:List Stp) (d z:Dat) (hr:aQ Z r R) (hv:bB Z R) (hg:aR p R.k R.x=some d) (hz:eF p R.k R.x (q8 d)=some z) (eZ:mG p R.k R.x)
   (hown:∀t∈ah p R.k,az t R.own=true) (hpv:p≠[]\/∃t,R.kind=.var t) (e:tk=⟨d.1,d.2,d.1.tys.filter (fun t=>az t R.own),R.tags,[.r r (some (fq R d z))],R.keep⟩)
   (hn:∃cs wh,bH (hp w) p R.k (J.hdr r) (dY J R r)=some (cs,wh)/\VC d.1 v cs)
 | cut (r:Nat) (R:Root) (cs:List Value) (hr:aQ Z r R) (hv:bB Z R) (hk:R.kind=.anon) (e:tk.own=R.own/\tk.tags=R.tags/\tk.ws=[.r r none]/\tk.keep=R.keep) (hd:VC tk.k v cs) (hl:cs.length=tk.k.size)
   (Sg:aV R.own tk.k=aV R.own R.k) (how:∀ok,Ow (hp w) R.own ok R.k R.x (J.hdr r) (J.fo r)->Ow (hp w) R.own ok tk.k tk.x cs (J.fo r))
theorem Ch {e:TypeId} {k:K} {c:Option Addr}:VC (.sl e k) (.slice c 0 0) [.slice c 0 0]:=⟨rfl,by simp⟩
theorem qG {A:Type} {z:A} (H:Rel cx Z J F a w) {want:K} {x:AV} {v:Value} {k:iW->Prog A} (hx:bN cx Z J F w x v) (hw:qM Z x) (h:(wG want x k).ends Z z) :
  ∃tk,wo cx Z J F w v tk/\(k tk).ends Z z:=by
 cases x with
 | val kk y T=>
  obtain ⟨h1,h2⟩:=gG h
  obtain ⟨cs,h3,h4⟩:=hx (.inr h1)
  have hty:∀t∈aV [] kk,t∈kk.tys:=fun t ht=>Dy ht
  exact ⟨⟨kk,y,[],T,[],false⟩, .held rfl cs h3 ⟨fun _=>qi (fun t _=>rfl) h4,hw,fun b hb=>by simp at hb,an4,mh h4⟩ (ql h1 (fun _ h=>h) hty),h2⟩
 | jy=>
  obtain ⟨c,rfl⟩:=hx
  unfold wG at h
  cases want with
  | sl e kk=>
   refine ⟨_, .held rfl [.slice c 0 0] Ch ⟨fun _=>?_,fun t ht=>by simp at ht,fun b hb=>by simp at hb,an4,rfl⟩ rfl,h⟩
   unfold Ow
   rw [aoi (by simp [az])]
   exact ⟨c,0,0,rfl,rfl,anv _, .inl ⟨rfl,rfl⟩⟩
  | _=>exact h.elim
 | ref r g=>
  obtain ⟨R,hr,hv,h⟩:=bU h
  cases hg:(Nat.beq R.g g && !R.fixed) with
  | false=>simp only [hg,an3] at h; exact h.elim
  | true=>
   simp only [hg,an0] at h
   simp only [ank] at hg
   obtain ⟨h1,h2⟩:=hx R hr (ani hg.1)
   exact ⟨_, .ref r R hr hv rfl h1 h2,h⟩
 | rH r p n=>
  obtain ⟨R,hr,hv,h⟩:=bU h
  cases hg:Nat.beq R.qJ n with
  | false=>simp only [hg,an3] at h; exact h.elim
  | true=>
   simp only [hg,an0] at h
   cases uu:aR p R.k R.x with
   | none=>rw [uu] at h; exact h.elim
   | some d=>
    rw [uu] at h
    obtain ⟨h1,h2,cs,wh,h3,h4⟩:=hx R hr.1 hv (ani hg) d uu
    cases hc:(p.all Stp.lJ && !R.fixed && (!p.isEmpty || R.isVar)) with
    | true=>
     simp only [hc,an0] at h
     cases hga:Af R p d with
     | none=>rw [hga] at h; exact h.elim
     | some R'=>
      rw [hga] at h
      unfold Af at hga
      cases hz:eF p R.k R.x (q8 d) with
      | none=>rw [hz] at hga; simp at hga
      | some zz=>
       rw [hz] at hga
       simp only [ane] at hga
       subst hga
       simp only [ank,aol] at hc
       refine ⟨_, .gap r R p d zz hr hv uu hz h1 h2 ?_ rfl ⟨cs,wh,h3,h4⟩,h⟩
       rcases hc.2 with h | h
       ·left; intro e; subst e; simp at h
       ·right
        unfold Root.isVar at h
        cases hk:R.kind with
        | var t=>exact ⟨t,rfl⟩
        | anon=>rw [hk] at h; simp at h
        | par=>rw [hk] at h; simp at h
        | dead=>rw [hk] at h; simp at h
    | false=>
     simp only [hc,an3] at h
     obtain ⟨fT,h5,h6⟩:=rC H hr hv uu h1 h2 h3
     have hV:=oG H hr h5 h6
     obtain ⟨hc1,h⟩:=gG h
     exact ⟨⟨d.1,d.2,[],R.out r d.1,[],false⟩, .held rfl cs h4 ⟨fun _=>qi (fun t _=>rfl) hV,Ji H hr _,fun b hb=>by simp at hb,an4,mh hV⟩ (ql hc1 (fun _ h=>h) (fun t ht=>Dy ht)),h⟩
 | undef=>exact h.elim
 | ptr r p n=>exact h.elim
 | jE bt kk y T=>exact h.elim
 | FM _ _ _ _=>exact h.elim
 | yI _=>exact h.elim
 | part r g lo hi sz=>
  obtain ⟨R,hr,hv,h⟩:=bU h
  rcases ay h with ⟨hg,h5⟩ | ⟨_,h5⟩
  ·clear h
   simp only [ank] at hg
   obtain ⟨b',b,n,c,e1,eb,e2,e3,e4,hrf⟩:=hx
   obtain ⟨h1,h2⟩:=hrf R hr (ani hg.1.1)
   have hlo:lo=0:=ani hg.2
   subst hlo
   have hK:∀q:Dat,(⟨R.k,R.x⟩:Dat)=q->(match q.1,q.2 with
     | .sl e kk,xs=>bif kk.flat && az e R.own && Nat.beq kk.size sz then k ⟨.sl e kk,(show List (El kk) from xs).take hi,R.own,R.tags,[.r r none],R.keep⟩ else .fail
     | _,_=>Prog.fail).ends Z z->∃tk,wo cx Z J F w v tk/\(k tk).ends Z z:=by
    intro q hq hh0
    obtain ⟨qk,qx⟩:=q
    cases qk with
    | sl e kk=>
     simp only at hh0
     rcases ay hh0 with ⟨hc,hh⟩ | ⟨_,hh⟩
     ·clear hh0
      simp only [ank] at hc
      have hsz:kk.size=sz:=ani hc.2
      subst hsz
      have hVk:VC (.sl e kk) (.slice b n c) (J.hdr r):=by
       have:=congrArg (fun q:Dat=>VC q.1 (.slice b n c) (J.hdr r)) hq
       exact cast this h2
      have hb0:b'=b:=by
       rw [eb (.inl rfl)]
       cases b with
       | none=>rfl
       | some ad=>obtain ⟨x,y,z⟩:=ad; simp [Addr.add]
      refine ⟨⟨.sl e kk,(show List (El kk) from qx).take hi,R.own,R.tags,[.r r none],R.keep⟩, .cut r R [.slice b' hi c] hr hv h1 ⟨rfl,rfl,rfl,rfl⟩ ⟨by rw [e1]; simp,by rw [e1]; simp⟩ rfl ?_ (fun ok hO=>?_),hh⟩
      ·exact congrArg (fun q:Dat=>aV R.own q.1) hq.symm
      ·have hO:=cast (congrArg (fun q:Dat=>Ow (hp w) R.own ok q.1 q.2 (J.hdr r) (J.fo r)) hq) hO
       simp only at hO
       rw [hVk.1] at hO
       exact Xt hc.1.1 hc.1.2 e3 hb0 hO
     ·exact hh.elim
    | _=>exact hh0.elim
   exact hK _ rfl h5
  ·exact h5.elim
 | wT _ _ _ _=>exact h.elim
 | sub _ _ _ _ _ _=>exact h.elim
 | sel _ _ _ _ _ _=>exact h.elim
 | app _ _ _ _=>exact h.elim
 | rA=>exact h.elim
 | fn f cs=>exact h.elim
def qX (cx:Cx) (Z:St) (J:dP) (F:List Nat) (w:World):List (Value×iW)->List (List Value×List Nat)->Prop
 | [],[]=>True
 | it :: l,h :: hs=>(VC it.2.k it.1 h.1/\Held cx Z J F w it.2.k it.2.x it.2.own it.2.tags h.1 h.2/\bD Z (aV it.2.own it.2.k) it.2.tags=true)/\qX cx Z J F w l hs
 | _,_=>False
def um (l:List (Value×iW)):List Wr:=l.flatMap fun it=>it.2.ws
def qH (l:List (Value×iW)):List Tag:=l.flatMap fun it=>it.2.tags
theorem GU (a b:List Wr):(a++b).flatMap Wr.tF=a.flatMap Wr.tF++b.flatMap Wr.tF:=apk
theorem take1 (H:Rel cx Z J F a w) {v:Value} {tk:iW} (h:wo cx Z J F w v tk) :
  ∃J' F' cs fo lw lh,Rel cx (aB tk.ws Z) J' F' a w/\nA cx Z J F w (aB tk.ws Z) J' F' w lw lh/\VC tk.k v cs/\Held cx (aB tk.ws Z) J' F' w tk.k tk.x tk.own tk.tags cs fo/\
   bD (aB tk.ws Z) (aV tk.own tk.k) tk.tags=true/\(∀b∈F,b∈F')/\(∀b∈fo,b∉F)/\(∀q,q∉tk.ws.flatMap Wr.tF->Same Z J (aB tk.ws Z) J' q):=by
 cases h with
 | held hws cs hv hh hc=>
  rw [hws]
  exact ⟨J,F,cs,[],_,_,H,zM H ⟨rfl,rfl,rfl⟩ (anv _) (fun _ _ h=>absurd rfl h) (fun b hb=>.inl hb) H.xK,hv,hh,hc,fun _ h=>h,fun b hb=>by simp at hb,fun q _=>mg ..⟩
 | ref r R hr hv e hk hd=>
  subst e
  obtain ⟨h1,h2,h3,h4⟩:=kill H hr hk hv
  refine ⟨_,_,J.hdr r,J.fo r,_,_,h1,h2,hd,h3,h4,fun b hb=>ang _ hb,fun b hb hF=>H.iY r R hr b (ang _ hb) hF, ?_⟩
  intro q hq
  have hq':q≠r:=by simpa [Wr.tF] using hq
  exact gV hq'
 | cut r R cs hr hv hk e hd hl Sg how=>
  obtain ⟨e1,e2,e3,e4⟩:=e
  obtain ⟨h1,h2,h3,h4⟩:=kill H hr hk hv
  rw [e3]
  refine ⟨_,_,cs,J.fo r,_,_,h1,h2,hd, ?_, ?_,fun b hb=>ang _ hb,fun b hb hF=>H.iY r R hr b (ang _ hb) hF, ?_⟩
  ·rw [e1,e2]
   refine ⟨fun hc=>?_,h3.wt,h3.sub,h3.nd,hl⟩
   have:=h3.ow (by rw [<-Sg]; exact hc)
   exact how _ this
  ·rw [e1,e2]
   show bD (au Z r bT) (aV R.own tk.k) R.tags=true
   rw [Sg]; exact h4
  ·intro q hq
   have hq':q≠r:=by simpa [Wr.tF] using hq
   exact gV hq'
 | gap r R p d z hr hv hg hz eZ hown hpv e hn=>
  subst e
  obtain ⟨cs,wh,hn1,hn2⟩:=hn
  obtain ⟨cs1,nG,fT,rest,g1,g2,g3,g4,g5,_⟩:=gap H hr hv hg hz eZ hown hpv
  rw [hn1] at g1
  simp only [ane,anp] at g1
  obtain ⟨rfl,rfl⟩:=g1
  have hcl:bD (au Z r (fq R d z)) (aV R.own d.1) R.tags=true:=by
   rw [g5]
   exact ql hv.2 (fun _ h=>h) (wK p hg hown)
  refine ⟨_,_,cs,fT,_,_,g2,g3,hn2, ?_, ?_,fun b hb=>ang _ hb, ?_, ?_⟩
  ·refine ⟨fun hc=>?_,g4.wt,g4.sub,g4.nd,g4.len⟩
   exact qY (fun t ht=>Eb t ht) (g4.ow (by rw [uR d.1 (fun _ h=>h)] at hc; exact hc))
  ·show bD (au Z r (fq R d z)) (aV (d.1.tys.filter fun t=>az t R.own) d.1) R.tags=true
   rw [uR d.1 (fun _ h=>h)]
   exact hcl
  ·intro b hb hF
   have:=g2.xK
   exact (anl.1 this).2.2 b hb b hF rfl
  ·intro q hq
   have hq':q≠r:=by simpa [Wr.tF] using hq
   exact gV hq'
theorem fK {Z':St} {tys:List TypeId} {T:List Tag} (h:∀t∈T,Z'.roots t.1=Z.roots t.1):bD Z' tys T=bD Z tys T:=by
 induction T with
 | nil=>rfl
 | cons t T ih=>
  obtain ⟨q,n⟩:=t
  simp only [bD]
  rw [ih (fun t ht=>h t (by simp [ht])),h (q,n) (by simp)]
theorem wo.stays {Z':St} {J':dP} {F':List Nat} {lw lh:Nat->List Nat} {v:Value} {tk:iW} (h:wo cx Z J F w v tk) (H:Rel cx Z J F a w) (T:nA cx Z J F w Z' J' F' w lw lh)
  (hs:∀q,(q∈tk.ws.flatMap Wr.tF\/q∈tk.tags.map (·.1))->Same Z J Z' J' q):wo cx Z' J' F' w v tk:=by
 cases h with
 | held hws cs hv hh hc=>
  exact .held hws cs hv (hh.turn H T (fun b hb=>by simp at hb)) (by rw [fK (fun t ht=>(hs t.1 (.inr (anQ.2 ⟨t,ht,rfl⟩))).root)]; exact hc)
 | ref r R hr hv e hk hd=>
  subst e
  have hS:=hs r (.inl (by simp [Wr.tF]))
  refine .ref r R ((hS.live R).2 hr) ⟨hv.1, ?_⟩ rfl hk (by rw [hS.hdr]; exact hd)
  rw [fK (fun t ht=>(hs t.1 (.inr (anQ.2 ⟨t,ht,rfl⟩))).root)]
  exact hv.2
 | cut r R cs hr hv hk e hd hl Sg how=>
  have hS:=hs r (.inl (by rw [e.2.2.1]; simp [Wr.tF]))
  refine .cut r R cs ((hS.live R).2 hr) ⟨hv.1, ?_⟩ hk e hd hl Sg (by rw [hS.hdr,hS.fo]; exact how)
  rw [fK (fun t ht=>(hs t.1 (.inr (anQ.2 ⟨t,by rw [e.2.1]; exact ht,rfl⟩))).root)]
  exact hv.2
 | gap r R p d z hr hv hg hz eZ hown hpv e hn=>
  subst e
  have hS:=hs r (.inl (by simp [Wr.tF]))
  refine .gap r R p d z ((hS.live R).2 hr) ⟨hv.1, ?_⟩ hg hz eZ hown hpv rfl (by rw [hS.hdr,hS.wh]; exact hn)
  rw [fK (fun t ht=>(hs t.1 (.inr (anQ.2 ⟨t,ht,rfl⟩))).root)]
  exact hv.2
theorem qX.turn {Z':St} {J':dP} {F':List Nat} {lw lh:Nat->List Nat} (H:Rel cx Z J F a w) (T:nA cx Z J F w Z' J' F' w lw lh) (hF:∀b∈F,b∈F') :
  ∀{l:List (Value×iW)} {hs:List (List Value×List Nat)},(∀t∈qH l,Z'.roots t.1=Z.roots t.1)->qX cx Z J F w l hs->qX cx Z' J' F' w l hs
 | [],[],_,_=>trivial
 | it :: l,h :: hs,hr,hh=>by
  refine ⟨⟨hh.1.1,hh.1.2.1.turn H T (fun b hb=>⟨rfl,hF b (hh.1.2.1.sub b hb)⟩), ?_⟩,qX.turn H T hF (fun t ht=>hr t (by simp only [qH,anT,ann]; exact .inr ht)) hh.2⟩
  rw [fK (fun t ht=>hr t (by simp only [qH,anT,ann]; exact .inl ht))]
  exact hh.1.2.2
 | [],_ :: _,_,h=>h.elim
 | _ :: _,[],_,h=>h.elim
theorem vk {l:List Nat}:CE l=true↔l.Nodup:=by
 induction l with
 | nil=>simp [CE]
 | cons n l ih=>simp [CE,ih,aW]
theorem takes:∀(l:List (Value×iW)) {Z:St} {J:dP} {F:List Nat},Rel cx Z J F a w->(∀it∈l,wo cx Z J F w it.1 it.2)->((um l).flatMap Wr.tF).Nodup->(∀t∈qH l,t.1∉(um l).flatMap Wr.tF)->
  ∃J' F' hs,Rel cx (aB (um l) Z) J' F' a w/\qX cx (aB (um l) Z) J' F' w l hs/\(hs.flatMap (·.2)).Nodup/\(∀b∈hs.flatMap (·.2),b∉F)/\(∀b∈F,b∈F')/\
   (∀q,q∉(um l).flatMap Wr.tF->Same Z J (aB (um l) Z) J' q)/\
   (∀k x own tags cs fo,Held cx Z J F w k x own tags cs fo->Held cx (aB (um l) Z) J' F' w k x own tags cs fo)/\Views cx Z J F w (aB (um l) Z) J' F' w/\(∀t,Cj Z t->Cj (aB (um l) Z) t)/\(∀q,Z.roots q=none->(aB (um l) Z).roots q=none):=by
 intro l
 induction l with
 | nil=>intro Z J F H _ _ _; exact ⟨J,F,[],H,trivial,an4,fun b hb=>by simp at hb,fun _ h=>h,fun q _=>mg ..,fun _ _ _ _ _ _ h=>h,fun T tys _ h=>⟨h,fun b hb _=>⟨hb,rfl⟩,fun b hb _=>⟨hb,rfl⟩⟩,fun _ h=>h,fun _ h=>h⟩
 | cons it l ih=>
  intro Z J F H hT hnd tY
  have e1:um (it :: l)=it.2.ws++um l:=rfl
  have e2:qH (it :: l)=it.2.tags++qH l:=rfl
  rw [e1,GU] at hnd tY
  rw [e2] at tY
  obtain ⟨dR,F1,cs,fo,lw,lh,H1,T1,h1,h2,h3,h4,h5,h6⟩:=take1 H (hT it (by simp))
  have hnd':=anl.1 hnd
  obtain ⟨Bj,F2,hs,H2,g1,g2,g3,g4,g5,g6,g7,g8,g9⟩:=ih H1 (fun it' hi=>(hT it' (by simp [hi])).stays H T1 (fun q hq=>by
   refine h6 q ?_
   rcases hq with hq | hq
   ·intro hq'
    exact hnd'.2.2 q hq' q (by
     rw [anR] at hq ⊢
     obtain ⟨wr,hw1,hw2⟩:=hq
     exact ⟨wr,anR.2 ⟨it',hi,hw1⟩,hw2⟩) rfl
   ·obtain ⟨t,ht,rfl⟩:=anQ.1 hq
    intro hq'
    exact tY t (ang _ (anR.2 ⟨it',hi,ht⟩)) (anj _ hq'))) hnd'.2.1
   (fun t ht hq=>tY t (ang _ ht) (ang _ hq))
  rw [e1,bZ]
  have hq1:∀q,q∉(it.2.ws).flatMap Wr.tF++(um l).flatMap Wr.tF->Same Z J (aB (um l) (aB it.2.ws Z)) Bj q:=by
   intro q hq
   simp only [ann,not_or] at hq
   have s1:=h6 q hq.1
   have s2:=g5 q hq.2
   exact ⟨s2.root.trans s1.root,s2.loc.trans s1.loc,s2.hdr.trans s1.hdr,s2.fo.trans s1.fo⟩
  refine ⟨Bj,F2,(cs,fo) :: hs,H2,⟨⟨h1,g6 _ _ _ _ _ _ h2, ?_⟩,g1⟩, ?_, ?_,fun b hb=>g4 b (h4 b hb), ?_,fun k x own tags cs fo hh=>g6 _ _ _ _ _ _ (hh.turn H T1 (fun b hb=>⟨rfl,h4 b (hh.sub b hb)⟩)), ?_,fun t ht=>g8 t (T1.tag ht), ?_⟩
  ·rw [fK (fun t ht=>(g5 t.1 (fun hq=>tY t (anj _ ht) (ang _ hq))).root)]
   exact h3
  ·simp only [anT]
   exact anl.2 ⟨h2.nd,g2,fun b hb c hc e=>g3 c hc (e▸h2.sub b hb)⟩
  ·intro b hb hF
   simp only [anT,ann] at hb
   rcases hb with hb | hb
   ·exact h5 b hb hF
   ·exact g3 b hb (h4 b hF)
  ·rw [GU]
   exact hq1
  ·intro T tys hw hc
   obtain ⟨k1,k2,k3⟩:=g7 T tys (fun t ht=>T1.tag (hw t ht)) hc
   obtain ⟨j1,j2,j3⟩:=T1.views H T tys hw k1
   refine ⟨j1,fun b hb ht=>?_,fun b hb ht=>?_⟩
   ·obtain ⟨a1,a2⟩:=j2 b hb ht
    exact ⟨(k2 b a1 ht).1,rfl⟩
   ·obtain ⟨a1,a2⟩:=j3 b hb ht
    exact ⟨(k3 b a1 ht).1,rfl⟩
  ·intro q hq
   refine g9 q ?_
   cases hq2:(aB it.2.ws Z).roots q with
   | none=>rfl
   | some Q=>
    exfalso
    by_cases hm:q∈(it.2.ws).flatMap Wr.tF
    ·have:=hT it (by simp)
     cases this with
     | held hws cs hv hh hc=>rw [hws] at hm; simp at hm
     | ref r R hr hv e hk hd=>rw [e] at hm; simp [Wr.tF] at hm; subst hm; rw [hr.1] at hq; simp at hq
     | cut r R cs hr hv hk e hd hl Sg how=>rw [e.2.2.1] at hm; simp [Wr.tF] at hm; subst hm; rw [hr.1] at hq; simp at hq
     | gap r R p d z hr hv hg hz eZ hown hpv e hn=>rw [e] at hm; simp [Wr.tF] at hm; subst hm; rw [hr.1] at hq; simp at hq
    ·rw [(h6 q hm).root,hq] at hq2
     simp at hq2
end
end
section
open Go
variable [Fr]
theorem jo (j:Nat):gy (pO j)=true:=by simp [gy,pO,Nat.add_mod]
theorem xP {ws:List Wr} {T:List Tag}:yO ws T=true↔∀t∈T,t.1∉ws.flatMap Wr.tF:=by
 unfold yO
 rw [anu]
 simp [aW]
theorem Yy {ws:List Wr} {r:Nat} (h:(ws.all fun w=>!w.loc.beq (.r r))=true):r∉ws.flatMap Wr.tF:=by
 rw [anR]
 rintro ⟨w,h1,h2⟩
 have:=anu.1 h w h1
 cases w with
 | s n a=>simp [Wr.tF] at h2
 | r n o=>
  simp only [Wr.tF,anz] at h2
  subst h2
  simp [Wr.loc,Loc.beq] at this
theorem xU:∀(n:Nat) {c:K} {x:El c} {s:Dat} {q:Nat×K},aP n c x=some s->bG n c=some q->q.2=s.1:=by
 intro n
 induction n with
 | zero=>intro c x s q h1 h2; cases c with
  | pair a b=>simp only [aP,bG,ane] at h1 h2; subst h1; subst h2; rfl
  | _=>simp [aP] at h1
 | succ n ih=>intro c x s q h1 h2; cases c with
  | pair a b=>
   simp only [aP,bG] at h1 h2
   cases h3:bG n b with
   | none=>rw [h3] at h2; simp at h2
   | some q3=>rw [h3] at h2; simp only [ane] at h2; subst h2; exact ih (q:=q3) h1 h3
  | _=>simp [aP] at h1
theorem V3 {h:Heap}:∀(p:List Stp) {k:K} {x:El k} {cs:List Value} {c1:List Value} {w1:Option (Nat×Nat)},ah p k=[]->(aR p k x).isSome=true->bH h p k cs none=some (c1,w1)->w1=none:=by
 intro p
 induction p with
 | nil=>intro k x cs c1 w1 _ _ h; simp only [bH,ane,anp] at h; exact h.2.symm
 | cons s p ih=>
  intro k x cs c1 w1 h0 hs h
  cases s with
  | gu n=>
   cases k with
   | st c=>
    simp only [aR] at hs
    cases hg:aP n c x with
    | none=>rw [hg] at hs; simp at hs
    | some s=>
     rw [hg] at hs
     have hp2:ah (.gu n :: p) (.st c)=ah p s.1:=by simp [ah,cB n hg]
     rw [hp2] at h0
     simp only [bH] at h
     cases ho:bG n c with
     | none=>rw [ho] at h; simp at h
     | some q=>
      have hk2:q.2=s.1:=xU n (c:=c) hg ho
      rw [ho] at h
      obtain ⟨q1,q2⟩:=q
      simp only at hk2
      subst hk2
      exact ih h0 hs h
   | _=>simp [aR] at hs
  | idx i=>
   cases k with
   | sl e k=>simp [ah] at h0
   | _=>simp [aR] at hs
theorem K.Uy:∀k:K,k.beq k=true:=by
 intro k
 induction k with
 | int ik=>cases ik <;> rfl
 | sl e k ih=>simp [K.beq,ih]
 | pair a b iha ihb=>simp [K.beq,iha,ihb]
 | st f ih=>exact ih
 | gap n=>simp [K.beq]
 | id e=>simp [K.beq]
 | _=>rfl
theorem PS:∀(q:List Stp) {k:K} {x:El k},mG q k x->(aR q k x).isSome=true:=by
 intro q
 induction q with
 | nil=>intro k x _; rfl
 | cons s q ih=>
  intro k x h
  cases s with
  | gu n=>
   cases k with
   | st c=>
    simp only [mG] at h
    simp only [aR]
    cases hc:aP n c x with
    | none=>rw [hc] at h; exact h.elim
    | some d=>rw [hc] at h; exact ih h
   | _=>exact h.elim
  | idx i=>
   cases k with
   | sl e k=>exact ih h.2.2
   | _=>exact h.elim
theorem Xu:∀(q:List Stp) {k:K} {x:El k},ah q k=[]->(aR q k x).isSome=true->mG q k x:=by
 intro q
 induction q with
 | nil=>intro k x _ _; trivial
 | cons s q ih=>
  intro k x h0 hs
  cases s with
  | idx i=>cases k <;> simp [ah,aR] at h0 hs
  | gu n=>
   cases k with
   | st c=>
    simp only [aR] at hs
    cases hg:aP n c x with
    | none=>rw [hg] at hs; simp at hs
    | some s=>
     rw [hg] at hs
     simp only at hs
     have hp2:ah (.gu n :: q) (.st c)=ah q s.1:=by simp [ah,cB n hg]
     rw [hp2] at h0
     simp only [mG,hg]
     exact ih h0 hs
   | _=>simp [aR] at hs
section
variable {cx:Cx} {Z:St} {J:dP} {F:List Nat} {a:Act} {w:World} {r:Nat} {R:Root}
theorem Td {P:Program} {T:jh} {t:TypeId} {kk:K} {x:El kk} {nU:List TypeId} {uA:List Tag} {J6:List Value} {Oz:List Nat} {v:Value} (hT:fM P T t kk)
  (H:Rel cx Z J F a w) (hr:aQ Z r R) (hv:bB Z R) {p:List Stp} {d z:Dat} (hg:aR p R.k R.x=some d) (hz:eF p R.k R.x ⟨kk,x⟩=some z) (eZ:mG p R.k R.x) (hown:∀t∈ah p R.k,az t R.own=true)
  (hh:Held cx Z J F w kk x nU uA J6 Oz) (hc:bD Z (aV nU kk) uA=true) (BJ:VC kk v J6) (hd:d.1=kk\/d.1=kk.hole)
  (hself:kk.flat=true\/KS R r uA (aV nU kk)=true) (hbad:∀t∈ah p R.k,t∉aV nU kk) (kp:Bool)
  {cs1:List Value} {b o:Nat} (hn:bH (hp w) p R.k (J.hdr r) (dY J R r)=some (cs1,some (b,o))) :
  ∃w',(Instr.storeAt t (.pointer (some ⟨b,o,none⟩)) v).run P w=.ok () w'/\∃J' F',
   Rel cx (au Z r (bO R z (bM R.own (aV nU kk)) (bif kk.flat then R.tags else jq (wz r uA) R.tags) [eO R p] ((bif d.1.beq kk then [] else rX kk)++kk.tys) kp)) J' F' a w':=by
 have K0:=H.roots r R hr
 have hnt:=H.dG r R hr.1
 have R3:=hh.ow hc
 obtain ⟨_,_,hbb,⟨arr,e,lo,hi,hb,hf,hs,hlast⟩,_⟩:=pV H hr hv hg eZ hown hn
 have hds:kk.size=d.1.size:=by
  rcases hd with h | h
  ·rw [h]
  ·rw [h,rY]
 have hone:=JM hT.eY R3
 have hrun:=Ee (o:=o) hT hb hf hh.len (by omega) BJ hone
 obtain ⟨s1,s2,kJ,s3,s4,s5,s6⟩:=qF b J6 w arr e (lo,hi) o hb (by rw [hh.len]; omega)
 have s7:=nK b J6 w o
 refine ⟨_,hrun, ?_⟩
 have Zp:∀t∈ah p R.k,az t (bM R.own (aV nU kk))=true:=fun t ht=>dK.2 ⟨hown t ht,hbad t ht⟩
 obtain ⟨fd,ok',fT,rest,pz,nG,hn',hpf,hd1,hty,_,yf,hwf,hgo⟩:=H.place hr hv (own':=bM R.own (aV nU kk)) hg eZ (fun t h=>(dK.1 h).1) Zp
 rw [hn] at hn'
 simp only [ane,anp] at hn'
 obtain ⟨rfl,rfl⟩:=hn'
 obtain ⟨ft,Ae,hpt,hOt⟩:=uK (own':=bM R.own (aV nU kk)) (fun t ht hm=>by
  rcases zF (own:=nU) ht with h | h
  ·exact absurd h (dK.1 hm).2
  ·exact h) (rQ (aV nU kk) (fun _ h=>h) R3)
 have afv:=hpt.nodup hh.nd
 have hft:∀b∈ft,b∈Oz:=fun b hb=>hpt.mem_iff.2 (anj _ hb)
 have aaV:∀b∈Ae,b∈Oz:=fun b hb=>hpt.mem_iff.2 (ang _ hb)
 have Es:b∉F:=H.iY r R hr b hbb
 have afm:=tN hOt
 suffices hP:rR cx Z J F w r R p d (bM R.own (aV nU kk)) cs1 (some (b,o)) fT rest ⟨kk,x⟩ z (bif kk.flat then R.tags else jq (wz r uA) R.tags) [eO R p] ((bif d.1.beq kk then [] else rX kk)++kk.tys) kp ft (F.filter fun b=>!az b Oz) J6 (w.setCells b o J6) by
  obtain ⟨J',h,_⟩:=hgo hP
  exact ⟨J',_,h⟩
 have hF':∀b',b'∈F.filter (fun b=>!az b Oz)↔b'∈F/\b'∉Oz:=fun b'=>by rw [anw]; simp [aW]
 refine ⟨hz,hds, ?_,⟨s7.1,s7.2.1,s7.2.2⟩,by omega, ?_, ?_,fun h=>by simp at h,by rw [hh.len,hds], .inl (by simp), ?_,fun b' hb'=>.inr (.inl (hh.sub b' (hft b' hb'))),(anl.1 afv).1,fun b' hb'=>.inl ((hF' b').1 hb').1,H.xK.filter _,fun b' hb' h=>((hF' b').1 h).2 (hft b' hb'), .inr (by simp), ?_, ?_, ?_⟩
 ·rcases hd with h | h
  ·rw [h]; exact fun _ h=>h
  ·rw [h,Pq]; intro t ht; simp at ht
 ·intro b' _ hne
  refine .inr (.inr ?_)
  by_cases e:b'=b
  ·subst e; exact ⟨o,rfl,by simp⟩
  ·exact absurd (s1 b' e) hne
 ·intro b' o' e'
  simp only [ane,anp] at e'
  obtain ⟨rfl,rfl⟩:=e'
  refine ⟨fun i hi=>?_,arr,kJ,e,(lo,hi),hb,s3,s4,fun i hi=>?_⟩
  ·unfold cellAt
   rw [s3]
   exact s5 i hi
  ·exact s6 i (by rw [hh.len,hds]; exact hi)
 ·cases hfl:kk.flat with
  | true=>exact ⟨fun _ h=>h,hnt.1,hnt.2.2⟩
  | false=>
   refine ⟨fun t ht=>dF.2 (.inr ht),fun t ht=>?_,fun n ht=>?_⟩
   ·rcases dF.1 ht with h | h
    ·exact hh.wt t (pg.1 h).1
    ·exact hnt.1 t h
   ·rcases dF.1 ht with h | h
    ·exact (pg.1 h).2 rfl
    ·exact hnt.2.2 n h
 ·cases hbq:d.1.beq kk with
  | true=>exact .inl (K.eq_of_beq hbq).symm
  | false=>
   have hdh:d.1=kk.hole:=hd.resolve_left (fun e=>by rw [e,K.Uy] at hbq; simp at hbq)
   refine .inr (.inl fun q' h1 h2=>?_)
   have hnil:ah q' kk=[]:=by
    cases he:ah q' kk with
    | nil=>rfl
    | cons e l=>exact absurd (ang _ (oJ q' e (by rw [he]; simp))) (h2 e (by rw [show ah q' (⟨kk,x⟩:Dat).1=ah q' kk from rfl,he]; simp))
   obtain ⟨dk,dx⟩:=d
   simp only at hdh
   subst hdh
   obtain ⟨h3,h4⟩:=Sa q' (y:=x) hnil h1
   refine ⟨?_, ?_⟩
   ·show ah q' kk.hole=ah q' kk
    rw [h3,hnil]
   ·show (aR q' kk.hole dx).isSome=true
    rw [qC q' (y:=tX kk x)]
    exact h4
 ·intro _ q c0 w0 hpq Sd hnq hqs
  obtain ⟨dk,dx⟩:=d
  rcases hd with ek | ek
  ·simp only at ek
   subst ek
   exact uO q hpq (fun t ht=>⟨(Sd t ht).1,fun h=>(Sd t ht).2 (ang _ h)⟩) hnq
  ·simp only at ek
   subst ek
   have hs0:(aR q kk.hole dx).isSome=true:=PS q hpq
   rw [qC q (y:=tX kk x)] at hs0
   obtain ⟨h1,h2,h3,_,h5⟩:=Gj (h:=hp w) q (x:=x) hs0
   have ajZ:bH (hp w) q kk cs1 (some (b,o))=some (c0,w0):=by rw [<-h5]; exact hnq
   exact uO (own:=bM R.own (aV nU kk)) q (Xu q h1 h3) (fun t ht=>by rw [h1] at ht; simp at ht) ajZ
 ·intro J' Tn hblk hval
  cases hfl:kk.flat with
  | true=>
   obtain ⟨e1,e2⟩:=Xp (h':=hp (w.setCells b o J6)) (own':=bM R.own (aV nU kk)) (ok':=jc cx (au Z r (bO R z (bM R.own (aV nU kk)) (bif kk.flat then R.tags else jq (wz r uA) R.tags) [eO R p] ((bif d.1.beq kk then [] else rX kk)++kk.tys) kp)) J' (F.filter fun b=>!az b Oz) (w.setCells b o J6) (bif true then R.tags else jq (wz r uA) R.tags)) hfl hOt
   subst e1
   rw [hfl] at e2
   exact e2
  | false=>
   rw [hfl] at Tn hblk hval
   have CX:=hself.resolve_left (by rw [hfl]; simp)
   simp only [an3] at Tn hblk hval ⊢
   generalize hR':bO R z (bM R.own (aV nU kk)) (jq (wz r uA) R.tags) [eO R p] ((bif d.1.beq kk then [] else rX kk)++kk.tys) kp=R' at *
   have hRw:R'.w=[eO R p]++R.w:=by rw [<-hR']; rfl
   have hRt:R'.tags=jq (wz r uA) R.tags:=by rw [<-hR']; rfl
   have hRv:R'.z8=aV (bM R.own (aV nU kk)) z.1:=by rw [<-hR']; rfl
   have hRd:R'.bg=false:=hval.1
   have afH:∀t∈aV nU kk,t∈R'.z8:=by
    intro t ht
    rw [hRv]
    have h1:=Pp (own:=nU) (own':=bM R.own (aV nU kk)) (k:=kk) (fun t ht hm=>by
     rcases zF (own:=nU) ht with h | h
     ·exact absurd h (dK.1 hm).2
     ·exact h) t ht
    rcases (JD p hg hz).1 t h1 with h | ⟨q,h2,h3⟩
    ·exact h
    ·rw [Zp q h2] at h3; simp at h3
   have Vf:∀n,(r,n)∈uA->eO R p∉aV nU kk:=by
    intro n hn1 hl
    unfold eO at hl
    cases hpt:ah p R.k with
    | nil=>
     rw [hpt] at hl
     simp only [List.getLastD_nil] at hl
     unfold KS at CX
     rw [aol] at CX
     rcases CX with h | h
     ·have:=anu.1 h _ hn1
      simp at this
     ·unfold Root.bt at hl
      cases hk:R.kind with
      | var tv=>rw [hk] at h hl; simp only at h hl; rw [an7,aW] at h; exact h hl
      | par=>rw [hk] at h; simp at h
      | anon=>
       rcases yf b o rfl with h1 | ⟨o0,ew,_⟩
       ·
        rw [hpt] at hbad
        have:=hty b (ang _ h1)
        have hne:dY J R r=none:=by unfold dY; rw [hk]
        rw [hne] at hn
        have:=V3 p hpt (by rw [hg]; rfl) hn
        simp at this
       ·unfold dY at ew; rw [hk] at ew; simp at ew
      | dead=>have:=hr.2; simp [Root.bg,hk] at this
    | cons e l=>
     rw [hpt,apO] at hl
     have:(e :: l).getLast?.getD R.bt∈(e :: l):=by
      rw [List.getLast?_eq_some_getLast (by simp)]
      exact List.getLast_mem _
     exact hbad _ (by rw [hpt]; exact this) hl
   have hc':bD (au Z r R') (aV nU kk) uA=true:=by
    rw [oo]
    intro tg tY
    by_cases e:tg.1=r
    ·refine .inr ⟨R',by rw [e]; exact aI ..,hRd, ?_⟩
     rw [oo] at hc
     rcases hc tg tY with h | ⟨Q,h1,h2,h3⟩
     ·rw [e,hnt.2.1] at h; simp at h
     ·rw [e,hr.1] at h1
      simp only [ane] at h1
      subst h1
      rw [hRw]
      refine (o7 ?_).2 ⟨fun t ht=>?_,h3⟩
      ·rcases hh.wt tg tY with h | ⟨Q,q1,q2⟩
       ·rw [e,hnt.2.1] at h; simp at h
       ·rw [e,hr.1] at q1
        simp only [ane] at q1
        subst q1
        rcases q2 with q2 | q2
        ·rw [hr.2] at q2; simp at q2
        ·exact q2
      ·simp only [anz] at ht
       subst ht
       exact Vf tg.2 (by rw [<-e]; exact tY)
    ·have h2:=hval.2
     rw [hRt,oo] at h2
     rcases h2 tg (dF.2 (.inl (pg.2 ⟨tY,e⟩))) with h | ⟨Q,h3,h4,h5⟩
     ·exact .inl h
     ·refine .inr ⟨Q,h3,h4, ?_⟩
      unfold clean at h5 ⊢
      rw [anu] at h5 ⊢
      intro x hx
      have:=h5 x hx
      simp only [an7,aW] at this ⊢
      exact fun h=>this (afH x h)
   obtain ⟨_,hV,_⟩:=Tn.views H uA (aV nU kk) hh.wt hc'
   have hsame:∀b',b'≠b->hp (w.setCells b o J6) b'=hp w b':=s1
   refine bE ?_ ?_ (fun b' hb'=>hsame b' (fun e=>Es (e▸hh.sub b' (hft b' hb')))) hOt
   ·rintro b' (⟨h1,h2⟩ | h)
    ·exact (hV b' h1 (.inl h2)).2
    ·exact hsame b' (fun e=>Es (e▸hh.sub b' (aaV b' h)))
   ·rintro b' (⟨h1,h2⟩ | h)
    ·obtain ⟨g1,g2,g3,g4,g5⟩:=(hV b' h1 (.inl h2)).1
     refine ⟨g1,g2,g3,fun q Q hq hbq=>?_,fun h0=>?_⟩
     ·obtain ⟨n,hn1⟩:=g4 q Q hq hbq
      by_cases e:q=r
      ·exfalso
       subst e
       obtain ⟨rfl,_⟩:=eP hq
       obtain ⟨tt,ht1,ht2⟩:=h2
       have V5:∀e,mine cx w b'->qm (hp w) b'=some e->az e (bM R.own (aV nU kk))=true->False:=by
        intro e hmn he hm
        have ht2:=H.Po hmn ht2
        rw [ht2] at he
        simp only [ane] at he
        subst he
        exact (dK.1 hm).2 ht1
       rcases hblk b' hbq with ⟨o',h⟩ | h | h
       ·unfold KS at CX
        rw [aol] at CX
        rcases CX with h3 | h3
        ·have:=anu.1 h3 _ hn1
         simp at this
        ·cases hk:R.kind with
         | var tv=>
          rw [hk] at h3
          simp only at h3
          rw [an7,aW] at h3
          obtain ⟨_,alL,e2,lo2,hi2,f1,_,_,f4⟩:=K0.mem b' o' h
          have ht2:=H.Po (K0.mine b' (by unfold blk; rw [h]; exact anM)) ht2
          unfold qm at ht2
          rw [f1] at ht2
          simp only [ane] at ht2
          exact h3 (by rw [<-f4 tv hk,ht2]; exact ht1)
         | par=>rw [hk] at h3; simp at h3
         | anon=>unfold dY at h; rw [hk] at h; simp at h
         | dead=>have:=hr.2; simp [Root.bg,hk] at this
       ·obtain ⟨e,_,h3,h4⟩:=afm b' h
        exact V5 e (H.fl b' (hh.sub b' (hft b' h))) h4 h3
       ·obtain ⟨e,_,h3,h4⟩:=hty b' (ang _ h)
        exact V5 e (K0.mine b' (ang _ (hpf.mem_iff.2 (by simp [h])))) h4 h3
      ·exact ⟨n,dF.2 (.inl (pg.2 ⟨hn1,e⟩))⟩
     ·rcases g5 h0 with ⟨j,n,h3,h4⟩ | h3
      ·refine .inl ⟨j,n,dF.2 (.inl (pg.2 ⟨h3, ?_⟩)),h4⟩
       intro e
       have:=hnt.2.1
       rw [<-e] at this
       simp only at this
       rw [jo] at this
       simp at this
      ·exact .inr h3
    ·have U6:=hh.sub b' (aaV b' h)
     have hm:=H.fl b' U6
     refine ⟨by have:=hm.1; omega,fun h2=>((hF' b').1 h2).2 (aaV b' h),rO H U6,fun q Q hq hbq=>?_,fun h0=>?_⟩
     ·exfalso
      rcases jS hq with ⟨rfl,rfl,_⟩ | ⟨e,hq'⟩
      ·rcases hblk b' hbq with ⟨o',h2⟩ | h2 | h2
       ·exact H.iY _ _ hr b' (by rw [bX,dX]; exact .inl ⟨o',h2⟩) U6
       ·exact (anl.1 afv).2.2 b' h2 b' h rfl
       ·exact H.iY _ _ hr b' (by rw [bX,dX,hpf.mem_iff]; exact .inr (by simp [h2])) U6
      ·obtain ⟨Q2,g1,g2⟩:=Tn.old q Q hq'.1
       have hns:Same Z J (au Z r R') J' q:=by
        refine anC fun hns=>?_
        rcases g2 with ⟨h1,h2⟩ | ⟨_,h2⟩
        ·rw [bP Z R' e] at g1
         rw [hq'.1] at g1
         simp only [ane] at g1
         subst g1
         rw [hq'.2] at h1
         simp at h1
        ·rcases h2.2.2.2.2.2.2 with h3 | ⟨_,_,h3⟩
         ·rw [qd _ e,qd _ e] at h3
          simp at h3
         ·exact hns h3
       rw [hns.blk] at hbq
       exact H.iY _ _ hq' b' hbq U6
     ·rcases hm.2 with h | ⟨j,pi,h1,h2⟩
      ·omega
      ·exact .inr ⟨j,pi,h1,h2⟩
end
end
section
open Go
variable [Fr]
theorem fE (d c:Nat):gy (aY d c)=false:=by
 unfold gy aY
 have:(4 * (8 * d+c)+2) % 4=2:=by omega
 rw [this]; rfl
section
variable {cx:Cx} {Z:St} {J:dP} {F:List Nat} {a:Act} {w:World} {r:Nat}
theorem Nb {T:List Tag} (h:fG Z T) (hn:Z.roots r=none) (hx:gy r=false):∀n,(r,n)∉T:=by
 intro n hn2
 rcases h _ hn2 with h | ⟨Q,h,_⟩
 ·simp only at h; rw [hx] at h; simp at h
 ·simp only at h; rw [hn] at h; simp at h
theorem IG (H:Rel cx Z J F a w) (hn:Z.roots r=none) (hx:gy r=false) {R':Root} (hd:R'.bg=false) (hk:R'.kind≠.par) (q9:fG Z R'.tags) (loc:Nat×Nat) (hdr':List Value) (dO F':List Nat)
  (hblk:∀b∈iX R' loc dO,b∈F/\b∉F') (hnd:(iX R' loc dO).Nodup) (hF':∀b∈F',b∈F) (Md:F'.Nodup)
  (how:bD Z R'.z8 R'.tags=true->Ow (hp w) R'.own (fun b=>jc cx Z J F w R'.tags b\/(b∈F/\b∉F'/\b∉iX R' loc dO)) R'.k R'.x hdr' dO) (hlen:hdr'.length=R'.k.size)
  (hmem:∀b o,vZ R' loc=some (b,o)->Cells (hp w) b o hdr'/\∃arr e lo hi,hp w b=some (.cells arr e (lo,hi))/\zY arr.size lo hi/\o+R'.k.size<=arr.size/\(∀t,R'.kind=.var t->e=t)) :
  Rel cx (au Z r R') (aG J r loc hdr' dO) F' a w/\nA cx Z J F w (au Z r R') (aG J r loc hdr' dO) F' w (sj r []) (sj r []):=by
 have hns:∀{q:Nat},¬Same Z J (au Z r R') (aG J r loc hdr' dO) q->q=r:=fun {q} h=>anC fun e=>h (gV e)
 have hold:∀{q Q},Z.roots q=some Q->q≠r:=fun {q Q} h e=>by rw [e,hn] at h; simp at h
 have T:nA cx Z J F w (au Z r R') (aG J r loc hdr' dO) F' w (sj r []) (sj r []):=by
  refine ⟨rfl,⟨rfl,rfl,rfl⟩,anv _, ?_, ?_, ?_,fun b _ h=>absurd rfl h, ?_,Md, ?_, ?_,fun _ _ _ _ _ _ _ h=>absurd rfl h,fun q Q Q' h1 h2 _=>by rw [bP Z R' (hold h1),h1] at h2; simp only [ane] at h2; subst h2; exact ⟨rfl,rfl⟩⟩
  ·intro q Q hQ
   have e:=hold hQ
   refine ⟨Q,by rw [bP Z R' e]; exact hQ, ?_⟩
   cases hd:Q.bg with
   | true=>exact .inl ⟨rfl,by intro hk; simp [Root.bg,hk] at hd⟩
   | false=>exact .inr ⟨rfl,by rw [qd _ e]; rfl,by rw [qd _ e]; rfl,anv _,rfl,by simp [aG,upd_ne _ _ e],fun _=>rfl, .inr ⟨qd _ e,qd _ e,gV e⟩⟩
  ·intro q Q hQ hs
   have e:=hns hs
   subst e
   rw [aI] at hQ
   simp only [ane] at hQ
   subst hQ
   refine ⟨fun t ht=>?_,hx,Nb q9 hn hx⟩
   have hne:t.1≠q:=fun e=>Nb q9 hn hx t.2 (by rw [<-e]; exact ht)
   rcases q9 t ht with h | ⟨Q,h1,h2⟩
   ·exact .inl h
   ·exact .inr ⟨Q,by rw [bP Z R' hne]; exact h1,h2⟩
  ·intro q Q hq hQ
   by_cases e:q=r
   ·subst e
    rw [aI] at hQ
    simp only [ane] at hQ
    subst hQ
    exact hk
   ·rw [bP Z R' e,hq] at hQ; simp at hQ
  ·rintro b (⟨q,Q,hq,hb,hno⟩ | hb)
   ·rcases jS hq with ⟨rfl,rfl,_⟩ | ⟨e,hq'⟩
    ·rw [fB] at hb
     exact .inl (hblk b hb).1
    ·rw [(gV (J:=J) (Z:=Z) (R:=R') e).blk] at hb
     exact absurd ⟨Q,hq',hb⟩ hno
   ·exact .inl (hF' b hb)
  ·intro q Q hq hs b hb
   have e:=hns hs
   subst e
   obtain ⟨rfl,_⟩:=eP hq
   rw [fB] at hb
   exact (hblk b hb).2
  ·intro q Q q' Q' hq hq' hne hs hs'
   exact absurd ((hns hs).trans (hns hs').symm) hne
 refine ⟨H.turn T ?_ ?_ ?_,T⟩
 ·intro q Q hq hs
  have e:=hns hs
  subst e
  obtain ⟨rfl,_⟩:=eP hq
  refine ⟨fun hv=>?_, ?_, ?_, ?_⟩
  ·have e1:(aG J q loc hdr' dO).hdr q=hdr':=by simp [aG,upd_same]
   have e2:(aG J q loc hdr' dO).fo q=dO:=by simp [aG,upd_same]
   rw [e1,e2]
   obtain ⟨h1,h2,_⟩:=T.views H Q.tags _ q9 hv.2
   refine bE (fun _ _=>rfl) ?_ (fun _ _=>rfl) (rQ _ (fun _ h=>h) (how h1))
   rintro b ⟨hb | ⟨g1,g2,g3⟩,hty⟩
   ·exact (h2 b hb (.inl hty)).1
   ·have hm:=H.fl b g1
    refine ⟨hm.1,g2,rO H g1,fun q' Q' hq' hb'=>?_,fun h0=>?_⟩
    ·exfalso
     rcases jS hq' with ⟨rfl,rfl,_⟩ | ⟨e,hq2⟩
     ·rw [fB] at hb'; exact g3 hb'
     ·rw [(gV (J:=J) (Z:=Z) (R:=Q) e).blk] at hb'
      exact H.iY _ _ hq2 b hb' g1
    ·rcases hm.2 with h | ⟨j,pi,h1,h2⟩
     ·omega
     ·exact .inr ⟨j,pi,h1,h2⟩
  ·simpa [aG,upd_same] using hlen
  ·intro b o hb
   rw [kE] at hb
   simpa [aG,upd_same] using hmem b o hb
  ·rw [fB]; exact hnd
 ·intro q Q hq hs
  exact absurd (hns hs) (hold hq.1)
 ·intro q Q hq hs
  exact absurd (hns hs) (hold hq.1)
theorem gD {R:Root} (h:R.kind=.anon) (loc:Nat×Nat) (fo:List Nat):iX R loc fo=fo:=by simp [iX,h]
theorem uU {R:Root} {t:TypeId} (h:R.kind=.var t) (loc:Nat×Nat) (fo:List Nat):iX R loc fo=loc.1 :: fo:=by simp [iX,h]
theorem uY {R:Root} (h:R.kind=.anon) (loc:Nat×Nat):vZ R loc=none:=by simp [vZ,h]
theorem Nf {R:Root} {t:TypeId} (h:R.kind=.var t) (loc:Nat×Nat):vZ R loc=some loc:=by simp [vZ,h]
theorem VZ {k:K} {x:El k} {own:List TypeId} {tags:List Tag} {kp:Bool} {hdr:List Value} {fo F':List Nat} {loc:Nat×Nat} {v:Value} {w:World} (h:VC k v hdr) :
  bN cx (au Z r (aK k x own tags .anon kp)) (aG J r loc hdr fo) F' w (.ref r 0) v:=by
 intro Q hQ _
 obtain ⟨rfl,_⟩:=eP hQ
 refine ⟨rfl, ?_⟩
 simp only [aG,upd_same]
 exact h
theorem abD {k:K} {x:El k} {own:List TypeId} {tags:List Tag} {kp:Bool} {hdr:List Value} {fo F':List Nat} {b:Nat} {t:TypeId} {w:World} :
  bN cx (au Z r (aK k x own tags (.var t) kp)) (aG J r (b,0) hdr fo) F' w (.ptr r [] 0) (.pointer (some ⟨b,0,none⟩)):=by
 refine ⟨⟨b,0,rfl⟩, ?_⟩
 intro Q hQ _ _ _ _
 rw [aI] at hQ
 simp only [ane] at hQ
 subst hQ
 refine ⟨trivial,hdr,b,0, ?_,rfl⟩
 simp only [bH]
 rw [kE]
 simp [vZ,aK,aG,upd_same]
theorem Yf {k:K} {x:El k} {own:List TypeId} {tags:List Tag} {kp:Bool} {hdr:List Value} {fo F':List Nat} {b o:Nat} {t:TypeId} {w:World} :
  bN cx (au Z r (aK k x own tags (.var t) kp)) (aG J r (b,o) hdr fo) F' w (.ptr r [] 0) (.pointer (some ⟨b,o,none⟩)):=by
 refine ⟨⟨b,o,rfl⟩, ?_⟩
 intro Q hQ _ _ _ _
 rw [aI] at hQ
 simp only [ane] at hQ
 subst hQ
 refine ⟨trivial,hdr,b,o, ?_,rfl⟩
 simp only [bH]
 rw [kE]
 simp [vZ,aK,aG,upd_same]
theorem zW {tk:iW} (h:fG Z tk.tags):fG Z tk.iD:=by
 unfold iW.iD
 split
 ·intro t ht; simp at ht
 ·exact h
theorem gI {h:Heap} {own:List TypeId} {ok ok':Nat->Prop} {k:K} {x:El k} {cs:List Value} {fo:List Nat} (hv:aV own k=[]) (H:Ow h own ok k x cs fo):Ow h own ok' k x cs fo:=by
 refine bE (fun _ _=>rfl) (fun b hb=>?_) (fun _ _=>rfl) (rQ [] (by rw [hv]; exact fun _ h=>h) H)
 obtain ⟨_,t,ht,_⟩:=hb
 simp at ht
theorem PZ {P:Program} {tk:iW} {t:TypeId} {v:Value} {cs:List Value} {fo:List Nat} (H:Rel cx Z J F a w) (hn:Z.roots r=none) (hx:gy r=false) (hh:Held cx Z J F w tk.k tk.x tk.own tk.tags cs fo)
  (hc:bD Z (aV tk.own tk.k) tk.tags=true) (hv:VC tk.k v cs) (kp:Bool) :
  (Instr.box t v).run P w=.ok (.pointer (some ⟨w.heap.size,0,none⟩)) (w.alloc (.cells v.cells t))/\
   ∃J' F',Rel cx (au Z r (aK tk.k tk.x tk.own tk.iD (.var t) kp)) J' F' a (w.alloc (.cells v.cells t))/\
    bN cx (au Z r (aK tk.k tk.x tk.own tk.iD (.var t) kp)) J' F' (w.alloc (.cells v.cells t)) (.ptr r [] 0) (.pointer (some ⟨w.heap.size,0,none⟩)):=by
 refine ⟨Jq t v w, ?_⟩
 have hcs:v.cells=cs.toArray:=by
  have:=hv.cells
  apply aod
  simpa using this
 rw [hcs]
 obtain ⟨H1,T1⟩:=H.alloc (.cells cs.toArray t)
 have hh1:=hh.turn H T1 (fun b hb=>⟨mW w _ (H.fl b (hh.sub b hb)).1,anE _ (hh.sub b hb)⟩)
 have hnew:hp (w.alloc (.cells cs.toArray t)) w.heap.size=some (.cells cs.toArray t (0,0)):=o9 w _
 have Es:w.heap.size∉F:=fun h=>by have:=(H.fl _ h).1; omega
 have hbf:w.heap.size∉fo:=fun h=>Es (hh.sub _ h)
 have hk:(aK tk.k tk.x tk.own tk.iD (.var t) kp).kind=.var t:=rfl
 obtain ⟨h1,h2⟩:=IG (R':=aK tk.k tk.x tk.own tk.iD (.var t) kp) H1 hn hx rfl (by simp [aK]) (zW hh1.wt) (w.heap.size,0) cs fo (F.filter fun b=>!az b fo)
  (fun b hb=>by
   rw [uU hk] at hb
   rcases anq.1 hb with h | h
   ·simp only at h; subst h
    exact ⟨anM,fun h=>Es (anw.1 h).1⟩
   ·refine ⟨anE _ (hh.sub b h),fun h2=>?_⟩
    have:=(anw.1 h2).2
    simp only [an7,aW] at this
    exact this h)
  (by rw [uU hk]; exact anN.2 ⟨hbf,hh.nd⟩)
  (fun b hb=>anE _ (anw.1 hb).1) (H.xK.filter _)
  (fun hcl=>by
   show Ow _ tk.own _ tk.k tk.x cs fo
   cases hb:tk.bad with
   | nil=>exact gI hb (hh1.ow hc)
   | cons t0 l=>
    have et:(aK tk.k tk.x tk.own tk.iD (.var t) kp).tags=tk.tags:=by
     show tk.iD=tk.tags
     unfold iW.iD
     rw [hb]
    rw [et] at hcl ⊢
    exact bE (fun _ _=>rfl) (fun b h=>.inl h) (fun _ _=>rfl) (hh1.ow hcl)) hh.len
  (fun b o hb=>by
   rw [Nf hk] at hb
   simp only [ane,anp] at hb
   obtain ⟨rfl,rfl⟩:=hb
   refine ⟨fun i hi=>?_,cs.toArray,t,0,0,hnew,zY.zero, ?_,fun t' ht'=>?_⟩
   ·unfold cellAt
    rw [hnew]
    simp
   ·show 0+tk.k.size<=_
    simp [hh.len]
   ·have:DK.var t=DK.var t':=ht'
    simpa using this)
 exact ⟨_,_,h1,abD⟩
theorem II {k:K} {x:El k} {own:List TypeId} {tags:List Tag} {v:Value} {cs:List Value} {fo:List Nat} (H:Rel cx Z J F a w) (hn:Z.roots r=none) (hx:gy r=false)
  (hsub:∀b∈fo,b∈F) (hnd:fo.Nodup) (hwt:fG Z tags) {F':List Nat} (hF':∀b∈F',b∈F/\b∉fo) (Md:F'.Nodup) (hlen:cs.length=k.size)
  (how:bD Z (aV own k) tags=true->Ow (hp w) own (fun b=>jc cx Z J F w tags b\/(b∈F/\b∉F'/\b∉fo)) k x cs fo) (hv:VC k v cs) (kp:Bool) :
  Rel cx (au Z r (aK k x own tags .anon kp)) (aG J r (0,0) cs fo) F' a w/\bN cx (au Z r (aK k x own tags .anon kp)) (aG J r (0,0) cs fo) F' w (.ref r 0) v:=by
 have hk:(aK k x own tags .anon kp).kind=.anon:=rfl
 obtain ⟨h1,h2⟩:=IG (R':=aK k x own tags .anon kp) H hn hx rfl (by simp [aK]) hwt (0,0) cs fo F'
  (fun b hb=>by rw [gD hk] at hb; exact ⟨hsub b hb,fun h=>(hF' b h).2 hb⟩) (by rw [gD hk]; exact hnd) (fun b hb=>(hF' b hb).1) Md
  (fun hc=>by rw [gD hk]; exact how hc) hlen (fun b o hb=>by rw [uY hk] at hb; simp at hb)
 exact ⟨h1,VZ hv⟩
theorem w9 {k:K} {x:El k} {own:List TypeId} {tags:List Tag} {v:Value} {cs:List Value} {fo:List Nat} (H:Rel cx Z J F a w) (hn:Z.roots r=none) (hx:gy r=false)
  (hsub:∀b∈fo,b∈F) (hnd:fo.Nodup) (hwt:fG Z tags) {F':List Nat} (hF':∀b∈F',b∈F/\b∉fo) (Md:F'.Nodup) (hlen:cs.length=k.size)
  (how:bD Z (aV own k) tags=true->Ow (hp w) own (fun b=>jc cx Z J F w tags b\/(b∈F/\b∉F'/\b∉fo)) k x cs fo) (hv:VC k v cs) (kp:Bool) :
  ∃J',Rel cx (au Z r (aK k x own tags .anon kp)) J' F' a w/\bN cx (au Z r (aK k x own tags .anon kp)) J' F' w (.ref r 0) v:=
 ⟨_,II H hn hx hsub hnd hwt hF' Md hlen how hv kp⟩
end
end
section
open Go
variable [Fr]
def pY (P:Program) (cx:Cx) (o:Oper) (a:Act) (w:World) (Z':St):Prop:=
 ∃v w' J' F',((execOp a.eval o).run P w=.ok (.value v) w'\/((execOp a.eval o).run P w=.ok .skip w'/\v=undef))/\Rel cx Z' J' F' (a.put o.dst v) w'
theorem pY.wp {P:Program} {cx:Cx} {o:Oper} {a:Act} {w:World} {Z':St} (h:pY P cx o a w Z') {K:Act->World->Prop} {Q:Exit->Act->World->Prop}
  (hK:∀J' F' a' w',Rel cx Z' J' F' a' w'->K a' w'):o.wp P a w K Q:=by
 obtain ⟨v,w',J',F',h | ⟨h,rfl⟩,h2⟩:=h
 ·unfold Oper.wp; rw [h]; exact hK _ _ _ _ h2
 ·unfold Oper.wp; rw [h]; exact hK _ _ _ _ h2
section
variable {P:Program} {T:jh} {cx:Cx} {Z:St} {J:dP} {F:List Nat} {a:Act} {w:World} {o:Oper} {d:Nat} {ws:List Wr}
theorem bR (H:Rel cx Z J F a w) (hd:o.dst=some d) (hdn:d<cx.nt) {x:wL} {v:Value} (hrun:(execOp a.eval o).run P w=.ok (.value v) w) (hx:jG cx Z J F w x v) (hw:wO Z x) :
  pY P cx o a w (aB [.s d x] Z):=by
 refine ⟨v,w,J,F, .inl hrun, ?_⟩
 rw [hd]
 exact H.put hdn hw hx
theorem iF {Z1:St} {dR:dP} {F1:List Nat} {w1:World} (H:Rel cx Z1 dR F1 a w1) (hd:o.dst=some d) (hdn:d<cx.nt) {x:wL} {v:Value} (hrun:(execOp a.eval o).run P w=.ok (.value v) w1) (hx:jG cx Z1 dR F1 w1 x v) (hw:wO Z1 x) :
  pY P cx o a w (aB [.s d x] Z1):=by
 refine ⟨v,w1,dR,F1, .inl hrun, ?_⟩
 rw [hd]
 exact H.put hdn hw hx
theorem fC {A:Type} {z:A} {r:Nat} {k:Prog A} (h:(iL r k).ends Z z):Z.roots r=none/\k.ends Z z:=by
 unfold iL at h
 simp only [Prog.ends] at h
 cases hr:Z.roots r with
 | none=>rw [hr] at h; exact ⟨rfl,h⟩
 | some R=>rw [hr] at h; exact h.elim
theorem aD {A:Type} {z x:A} (h:(Prog.ret x).ends Z z):z=x:=h
theorem UI (H:Rel cx Z J F a w) (hd:o.dst=some d) (hdn:d<cx.nt) {x:Operand} (ho:o.op=.move x) (h:(uz x fun v=>(.ret [.s d v]:Prog (List Wr))).ends Z ws):pY P cx o a w (aB ws Z):=by
 obtain ⟨v,h1,h2,h3⟩:=rV H h
 rw [aD h3]
 exact bR H hd hdn (by simp [execOp,ho]) h1 h2
theorem fM.sl {t:TypeId} {e:TypeId} {k:K} (h:fM P T t (.sl e k)):P.underlying t=some (.slice e)/\fM P T e k/\0<k.size/\∃i,P.info? e=some i/\i.bytes=T.bytes e/\0<i.bytes:=by
 unfold fM j5 at h
 exact ⟨h.1,h.2.2.1,h.2.2.2.1,h.2.2.2.2⟩
theorem zi {e:TypeId} {k:K} {c:Option Addr} {own:List TypeId} {ok:Nat->Prop} {h:Heap}:Ow h own ok (.sl e k) ([]:List (El k)) [.slice c 0 0] []:=by
 unfold Ow
 split
 ·exact ⟨c,0,0,rfl,rfl,anv _, .inl ⟨rfl,rfl⟩⟩
 ·exact ⟨rfl,c,0,0,rfl,rfl,anv _,fun h=>by omega⟩
theorem Oe {L:K->List TypeId} (H:Rel cx Z J F a w) (hd:o.dst=some d) (hdn:d<cx.nt) {x:Operand} (ho:o.op=.assign x)
  (h:(uz x fun
   | .one .jy=>match T.ty o.type with
    | some (.sl e kk)=>.root (aY d 0) fun
     | none=>.ret [.r (aY d 0) (some (aK (.sl e kk) [] (e :: L kk) [] .anon)), .s d (.one (.ref (aY d 0) 0))]
     | some _=>.ret [.s d (.one .jy)]
    | _=>.fail
   | v=>(.ret [.s d v]:Prog (List Wr))).ends Z ws):pY P cx o a w (aB ws Z):=by
 obtain ⟨v,h1,h2,h3⟩:=rV H h
 have hrun:(execOp a.eval o).run P w=.ok (.value (a.eval x)) w:=by simp [execOp,ho]
 have key:ws=[.s d v]->pY P cx o a w (aB ws Z):=fun e=>by rw [e]; exact bR H hd hdn hrun h1 h2
 cases v with
 | Hq l=>exact key (aD h3)
 | lit _ _ _=>exact key (aD h3)
 | one v=>
  cases v with
  | jy=>
   have h1':=h1
   obtain ⟨c,hc⟩:=h1
   simp only at h3
   split at h3
   ·rename_i e kk hty
    simp only [Prog.ends] at h3
    cases g1:Z.roots (aY d 0) with
    | some Q=>
     rw [g1] at h3
     exact key (aD h3)
    | none=>
    rw [g1] at h3
    have g2:=h3
    rw [aD g2]
    obtain ⟨J',k1,k2⟩:=w9 (k:=.sl e kk) (x:=([]:List (El kk))) (own:=e :: L kk) (tags:=[]) (v:=a.eval x) (cs:=[.slice c 0 0]) (fo:=[]) (r:=aY d 0) (F':=F) H g1 (fE d 0) (fun b hb=>by simp at hb) an4 (fun t ht=>by simp at ht)
     (fun b hb=>⟨hb,by simp⟩) H.xK rfl (fun _=>zi) (by rw [hc]; exact Ch) false
    exact iF (x:=.one (.ref (aY d 0) 0)) k1 hd hdn hrun k2 ⟨_,aI .., .inr (anO _)⟩
   ·exact h3.elim
  | _=>exact key (aD h3)
theorem UJ (H:Rel cx Z J F a w) (hd:o.dst=some d) (hdn:d<cx.nt) {c x y:Operand} (ho:o.op=.pick c x y)
  (h:(dU c fun c=>asBool c fun c=>uz x fun v=>uz y fun u=>.br c (.ret [.s d v]) ((.ret [.s d u]):Prog (List Wr))).ends Z ws):pY P cx o a w (aB ws Z):=by
 obtain ⟨vc,h1,_,h⟩:=bY H h
 obtain ⟨b,h2,h⟩:=Fg h1 h
 obtain ⟨v,h3,h4,h⟩:=rV H h
 obtain ⟨u,h5,h6,h⟩:=rV H h
 rcases h with ⟨hb,h⟩ | ⟨hb,h⟩
 ·rw [aD h]
  exact bR H hd hdn (by simp [execOp,ho,h2,hb,Go.asBool]) h3 h4
 ·rw [aD h]
  exact bR H hd hdn (by simp [execOp,ho,h2,hb,Go.asBool]) h5 h6
theorem fM.shape {t:TypeId} {k:K} (h:fM P T t k):(∀a b,k≠.pair a b)/\k≠.unit/\∀n,k≠.gap n:=by
 unfold fM j5 at h
 refine ⟨fun a b e=>?_,fun e=>?_,fun n e=>?_⟩ <;> subst e <;> exact h.elim
theorem dH {own:List TypeId} {k:K} (h:∀t∈k.tys,az t own=true):aV own k=[]:=by
 cases he:aV own k with
 | nil=>rfl
 | cons t l=>
  exfalso
  have key:∀(k:K),(∀t∈k.tys,az t own=true)->∀t,t∉aV own k:=by
   intro k
   induction k with
   | sl e k ih=>
    intro h t ht
    simp only [aV,h e (by simp [K.tys]),an0] at ht
    exact ih (fun t ht=>h t (by simp [K.tys,ht])) t ht
   | pair a b iha ihb=>
    intro h t ht
    simp only [aV,ann] at ht
    rcases ht with ht | ht
    ·exact iha (fun t ht=>h t (by simp [K.tys,ht])) t ht
    ·exact ihb (fun t ht=>h t (by simp [K.tys,ht])) t ht
   | st f ih=>intro h t ht; exact ih h t ht
   | _=>intro _ t ht; simp [aV] at ht
  exact key k h t (by rw [he]; simp)
theorem SF {l:List Nat}:∀t∈l,az t l=true:=fun t ht=>aM.2 ht
theorem RF (hT:eG P T) (H:Rel cx Z J F a w) (hd:o.dst=some d) (hdn:d<cx.nt) {t:TypeId} (ho:o.op=.alloc t)
  (h:(match T.ty t with
   | some kk=>iL (aY d 0) (.ret [Wr.r (aY d 0) (some (aK kk kk.zero kk.tys [] (.var t))),Wr.s d (.one (.ptr (aY d 0) [] 0))])
   | none=>(.fail:Prog (List Wr))).ends Z ws):pY P cx o a w (aB ws Z):=by
 split at h
 ·rename_i kk hty
  have ht:=hT.ty t kk hty
  obtain ⟨g1,g2⟩:=fC h
  rw [aD g2]
  obtain ⟨s1,s2,s3⟩:=ht.shape
  have hz:Ow (hp w) kk.tys (jc cx Z J F w []) kk kk.zero (bS kk) []:=Cq ht.eY SF
  obtain ⟨k0,J',F',k1,k2⟩:=PZ (P:=P) (tk:=⟨kk,kk.zero,kk.tys,[],[],false⟩) (t:=t) (v:=pG kk) (cs:=bS kk) (fo:=[]) (r:=aY d 0) H g1 (fE d 0)
   ⟨fun _=>hz,fun t ht=>by simp at ht,fun b hb=>by simp at hb,an4,cZ hz⟩ rfl (QL s1 s2 s3) false
  have e0:(iW.iD ⟨kk,kk.zero,kk.tys,[],[],false⟩)=[]:=by unfold iW.iD; split <;> rfl
  rw [e0] at k1 k2
  exact iF (x:=.one (.ptr (aY d 0) [] 0)) k1 hd hdn (by
   have:=MX (P:=P) ht w
   simp only [execOp,ho,anF,this,anx,anK]) k2 ⟨_,aI .., .inr (anO _)⟩
 ·exact h.elim
theorem Kc (H:Rel cx Z J F a w) (hd:o.dst=some d) (hdn:d<cx.nt) {x:Operand} (ho:o.op=.nilCheck x)
  (h:(dU x fun
   | .ptr r p h=>.ret [.s d (.one (.ptr r p h))]
   | .jE bt kk y tags=>.ret [.s d (.one (.jE bt kk y tags))]
   | _=>(.fail:Prog (List Wr))).ends Z ws):pY P cx o a w (aB ws Z):=by
 obtain ⟨v,h1,h2,h⟩:=bY H h
 cases v with
 | ptr r p n=>
  rw [aD h]
  obtain ⟨b,q,hv⟩:=h1.1
  exact bR (v:=a.eval x) H hd hdn (by simp [execOp,ho,hv]) h1 h2
 | jE bt kk y tags=>
  rw [aD h]
  obtain ⟨b,q,hv⟩:=h1.1
  exact bR (v:=a.eval x) H hd hdn (by simp [execOp,ho,hv]) h1 h2
 | _=>exact h.elim
end
end
end Go.Proofs.YtailcbngagacaaaGreat.Ow
