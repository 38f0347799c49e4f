/- A verified reading of translated code: values in place of memory; part B of 6, spaces and remarks taken out. No condition. Own work of this seat. -/
import Derived.Test.YtailcbngagacaabGreatOwA
set_option linter.unusedSectionVars false
set_option linter.unusedVariables false
set_option linter.unusedSimpArgs false
namespace Go.Proofs.YtailcbngagacaabGreat.Ow
section
open Go
variable [Fr]
theorem upd_same {A:Type} (f:Nat→A) (n:Nat) (v:A):upd f n v n=v:=by simp [upd]
theorem upd_ne {A:Type} (f:Nat→A) {n m:Nat} (v:A) (h:m≠n):upd f n v m=f m:=by
 unfold upd
 cases h':Nat.beq m n with
 | true=>exact absurd (an1 h') h
 | false=>rfl
structure Same (σ:St) (α:dL) (σ':St) (α':dL) (r:Nat):Prop where
 root:σ'.roots r=σ.roots r
 loc:α'.loc r=α.loc r
 hdr:α'.hdr r=α.hdr r
 fo:α'.fo r=α.fo r
theorem Same.wh {σ σ':St} {α α':dL} {r:Nat} (h:Same σ α σ' α' r) (R:Root):dU α' R r=dU α R r:=by unfold dU; rw [h.loc]
theorem Same.blk {σ σ':St} {α α':dL} {r:Nat} (h:Same σ α σ' α' r) (R:Root):blk α' R r=blk α R r:=by unfold Ow.blk; rw [h.wh,h.fo]
theorem Same.live {σ σ':St} {α α':dL} {r:Nat} (h:Same σ α σ' α' r) (R:Root):aP σ' r R↔aP σ r R:=by unfold aP; rw [h.root]
def Stepped (σ:St) (α:dL) (σ':St) (α':dL) (lw lh:Nat→List Nat) (r:Nat) (R R':Root):Prop:=
 R'.w=lw r++R.w∧R'.h=lh r++R.h∧R.g≤R'.g∧R'.kind=R.kind∧α'.loc r=α.loc r∧(R.kind=.par→R'.k.size=R.k.size)∧((lw r≠[]∨lh r≠[])∨(lw r=[]∧lh r=[]∧Same σ α σ' α' r))
def Loose (cx:Cx) (σ':St) (lw:Nat→List Nat) (w:World) (r b:Nat):Prop:=
 (∀R',σ'.roots r=some R'→R'.aX=true)∨(∃e∈lw r,qQ (hp w) b=some e)∨(lU cx b∧lw r≠[])
structure mJ (cx:Cx) (σ:St) (α:dL) (F:List Nat) (w:World) (σ':St) (α':dL) (F':List Nat) (w':World) (lw lh:Nat→List Nat):Prop where
 slots:σ'.slots=σ.slots
 os:w'.os=w.os∧w'.tape=w.tape∧w'.output=w.output
 size:w.heap.size≤w'.heap.size
 old:∀r R,σ.roots r=some R→∃R',σ'.roots r=some R'∧((R'.aX=true∧R.kind≠.par)∨(R.aX=false∧Stepped σ α σ' α' lw lh r R R'))
 wr:∀r R',σ'.roots r=some R'→¬Same σ α σ' α' r→eZ σ' R'.tags∧fJ r=false∧(∀n,(r,n)∉R'.tags)
 ag3:∀r R',σ.roots r=none→σ'.roots r=some R'→R'.kind≠.par
 Q7:∀b,b<w.heap.size→hp w' b≠hp w b→b∈F∨∃r R,aP σ r R∧b∈blk α R r∧Loose cx σ' lw w r b
 new:∀b,((∃r R',aP σ' r R'∧b∈blk α' R' r∧¬∃R,aP σ r R∧b∈blk α R r)∨b∈F')→b∈F∨(w.heap.size≤b∧b<w'.heap.size)∨∃r R,aP σ r R∧b∈blk α R r∧Loose cx σ' lw w r b
 zG:F'.Nodup
 iX:∀r R',aP σ' r R'→¬Same σ α σ' α' r→∀b∈blk α' R' r,b∉F'
 IK:∀r R r' R',aP σ' r R→aP σ' r' R'→r≠r'→¬Same σ α σ' α' r→¬Same σ α σ' α' r'→∀b∈blk α' R r,b∉blk α' R' r'
 base:∀j pi b o n,cx.par j=some pi→pi.base=some (b,o,n)→hp w' b≠hp w b→gQ (hp cx.w0) (hp w') b o n
 ev:∀r R R',σ.roots r=some R→σ'.roots r=some R'→R'.aX=false→R'.ew=R.ew∧R'.eh=R.eh
section
variable {cx:Cx} {σ:St} {α:dL} {F:List Nat} {a:Act} {w:World} {σ':St} {α':dL} {F':List Nat} {w':World} {lw lh:Nat→List Nat}
theorem mJ.tag (T:mJ cx σ α F w σ' α' F' w' lw lh) {t:Tag} (h:E5 σ t):E5 σ' t:=by
 rcases h with h | ⟨R,h1,h2⟩
 ·exact .inl h
 ·obtain ⟨R',g1,g2⟩:=T.old _ R h1
  refine .inr ⟨R',g1, ?_⟩
  rcases g2 with ⟨g2,_⟩ | ⟨gd,g2,_⟩
  ·exact .inl g2
  ·rcases h2 with h2 | h2
   ·rw [gd] at h2; simp at h2
   ·right
    rw [g2]
    simp only [pJ,an5] at h2 ⊢
    omega
theorem mJ.rR (T:mJ cx σ α F w σ' α' F' w' lw lh) {x:AV} (h:rR σ x):rR σ' x:=by
 have key:∀(q:Nat) (f:Root→Nat) (n:Nat),(∀R R',Stepped σ α σ' α' lw lh q R R'→f R≤f R')→(∃Q,σ.roots q=some Q∧(Q.aX=true∨n≤f Q))→∃Q,σ'.roots q=some Q∧(Q.aX=true∨n≤f Q):=by
  intro q f n hf ⟨Q,h1,h2⟩
  obtain ⟨R',g1,g2⟩:=T.old _ Q h1
  refine ⟨R',g1, ?_⟩
  rcases g2 with ⟨g2,_⟩ | ⟨gd,g2⟩
  ·exact .inl g2
  ·rcases h2 with h2 | h2
   ·rw [gd] at h2; simp at h2
   ·exact .inr (Nat.le_trans h2 (hf _ _ g2))
 cases x with
 | undef=>trivial
 | val k x Tg=>exact fun t ht=>T.tag (h t ht)
 | iP=>trivial
 | ref q g=>exact key q (·.g) g (fun R R' h=>h.2.2.1) h
 | JK q g k p=>exact key q (·.g) g (fun R R' h=>h.2.2.1) h
 | sV q p n=>exact key q Root.wR n (fun R R' h=>by simp only [Root.wR,h.1,h.2.1,pJ,an5]; omega) h
 | ptr q p n=>exact key q (fun R=>gJ R.h) n (fun R R' h=>by simp only [h.2.1,pJ,an5]; omega) h
 | jg bt k x Tg=>exact fun t ht=>T.tag (h t ht)
 | su=>trivial
 | Av _=>trivial
 | part q g _ _ _=>exact key q (·.g) g (fun R R' h=>h.2.2.1) h
 | xY q p n _=>exact key q Root.wR n (fun R R' h=>by simp only [Root.wR,h.1,h.2.1,pJ,an5]; omega) h
 | app q p n q2=>
  refine ⟨key q Root.wR n (fun R R' h=>by simp only [Root.wR,h.1,h.2.1,pJ,an5]; omega) h.1, ?_⟩
  obtain ⟨R,hR⟩:=h.2
  obtain ⟨R',g1,_⟩:=T.old _ R hR
  exact ⟨R',g1⟩
 | fn f cs=>exact fun c hc t ht=>T.tag (h c hc t ht)
theorem mJ.xS (T:mJ cx σ α F w σ' α' F' w' lw lh) {x:xP} (h:xS σ x):xS σ' x:=by
 cases x with
 | one a=>exact T.rR h
 | Lc l=>exact fun a ha=>T.rR (h a ha)
 | lit _ _ l=>exact fun a ha=>T.rR (h a ha)
theorem mJ.held (H:Rel cx σ α F a w) (T:mJ cx σ α F w σ' α' F' w' lw lh) {Tg:List Tag} {tys:List TypeId} (hw:eZ σ Tg) (hc:bq σ' tys Tg=true) {r n b:Nat} {R:Root} (hr:aP σ r R) (hn:(r,n)∈Tg) (hbr:b∈blk α R r)
  (hty:(∃t∈tys,vU (hp w) b t)∧¬lU cx b∨∀t∈Tg,fJ t.1=true):clean R.w n tys=true∧¬Loose cx σ' lw w r b:=by
 have hnr:fJ r=false:=(H.dz r R hr.1).2.1
 rw [oI] at hc
 rcases hc (r,n) hn with h | ⟨Q,h1,h2,h3⟩
 ·simp only at h; rw [hnr] at h; simp at h
 ·obtain ⟨R',g1,g2⟩:=T.old _ R hr.1
  simp only at h1 h3
  rw [g1] at h1
  simp only [anX] at h1
  subst h1
  rcases g2 with ⟨g2,_⟩ | ⟨gd,g2,_⟩
  ·rw [h2] at g2; simp at g2
  ·have hb:n≤gJ R.w:=by
    rcases hw (r,n) hn with h | ⟨Q,q1,q2⟩
    ·simp only at h; rw [hnr] at h; simp at h
    ·simp only at q1 q2
     rw [hr.1] at q1
     simp only [anX] at q1
     subst q1
     rcases q2 with q2 | q2
     ·rw [hr.2] at q2; simp at q2
     ·exact q2
   rw [g2,pF hb] at h3
   refine ⟨h3.2, ?_⟩
   rintro (hx | ⟨e,he,hel⟩ | ⟨hx,_⟩)
   rotate_left 2
   ·rcases hty with ⟨_,hnb⟩ | hty
    ·exact hnb hx
    ·have:=hty (r,n) hn
     simp only at this
     rw [hnr] at this
     simp at this
   ·have:=hx R' g1
    rw [h2] at this
    simp at this
   ·rcases hty with ⟨⟨t,ht,XT⟩,_⟩ | hty
    ·have XT:=H.Tt ((H.roots r R hr).mine b hbr) XT
     rw [hel] at XT
     simp only [anX] at XT
     subst XT
     exact h3.1 e he ht
    ·have:=hty (r,n) hn
     simp only at this
     rw [hnr] at this
     simp at this
theorem mJ.views (H:Rel cx σ α F a w) (T:mJ cx σ α F w σ' α' F' w' lw lh):Views cx σ α F w σ' α' F' w':=by
 intro Tg tys hw hc
 refine ⟨?_, ?_⟩
 ·rw [oI]
  intro t ht
  have hc':=oI.1 hc t ht
  rcases hw t ht with h | ⟨R,h1,h2⟩
  ·exact .inl h
  ·cases hd:R.aX with
   | false=>
    refine .inr ⟨R,h1,hd, ?_⟩
    rcases hc' with hx | ⟨Q,q1,q2,q3⟩
    ·have:=(H.dz _ _ h1).2.1
     rw [hx] at this
     simp at this
    ·obtain ⟨R',g1,g2⟩:=T.old _ R h1
     rw [g1] at q1
     simp only [anX] at q1
     subst q1
     rcases g2 with ⟨g2,_⟩ | ⟨_,g2,_⟩
     ·rw [q2] at g2; simp at g2
     ·rcases h2 with h2 | h2
      ·rw [hd] at h2; simp at h2
      ·rw [g2,pF h2] at q3
       exact q3.2
   | true=>
    rcases hc' with hx | ⟨Q,q1,q2,q3⟩
    ·exact .inl hx
    ·obtain ⟨R',g1,g2⟩:=T.old _ R h1
     rw [g1] at q1
     simp only [anX] at q1
     subst q1
     rcases g2 with ⟨g2,_⟩ | ⟨g2,_⟩
     ·rw [q2] at g2; simp at g2
     ·rw [hd] at g2; simp at g2
 ·have hQ:∀b,KL σ α F w Tg b→((∃t∈tys,vU (hp w) b t)∧¬lU cx b∨∀t∈Tg,fJ t.1=true)→KL σ' α' F' w' Tg b∧hp w' b=hp w b:=by
   intro b hb hty
   obtain ⟨hb1,hb2,hb3⟩:=hb
   have hno:¬∃r R,aP σ r R∧b∈blk α R r∧Loose cx σ' lw w r b:=by
    rintro ⟨r,R,hr,hbr,hl⟩
    obtain ⟨n,hn⟩:=hb3 r R hr hbr
    exact (T.held H hw hc hr hn hbr hty).2 hl
   have hsame:hp w' b=hp w b:=by
    refine aoj fun hne=>?_
    rcases T.Q7 b hb1 hne with h | h
    ·exact hb2 h
    ·exact hno h
   have hnew:¬(b∈F∨(w.heap.size≤b∧b<w'.heap.size)∨∃r R,aP σ r R∧b∈blk α R r∧Loose cx σ' lw w r b):=by
    rintro (h | h | h)
    ·exact hb2 h
    ·omega
    ·exact hno h
   refine ⟨⟨Nat.lt_of_lt_of_le hb1 T.size,fun hF=>hnew (T.new b (.inr hF)), ?_⟩,hsame⟩
   intro q Q hq hbq
   by_cases e:∃R,aP σ q R∧b∈blk α R q
   ·obtain ⟨R,hR,hbR⟩:=e
    exact hb3 q R hR hbR
   ·exact absurd (T.new b (.inl ⟨q,Q,hq,hbq,e⟩)) hnew
  refine ⟨fun b hb hty=>?_,hQ⟩
  obtain ⟨hb1,hb2,hb5,hb3,hb4⟩:=hb
  obtain ⟨⟨g1,g2,g3⟩,g4⟩:=hQ b ⟨hb1,hb2,hb3⟩ (hty.imp (fun h=>⟨h,hb5⟩) id)
  exact ⟨⟨g1,g2,hb5,g3,hb4⟩,g4⟩
theorem mJ.stay (H:Rel cx σ α F a w) (T:mJ cx σ α F w σ' α' F' w' lw lh) {q:Nat} {Q:Root} (hq:aP σ q Q) (hs:Same σ α σ' α' q):∀b∈blk α Q q,¬(b∈F∨(w.heap.size≤b∧b<w'.heap.size)∨∃r R,aP σ r R∧b∈blk α R r∧Loose cx σ' lw w r b):=by
 rintro b hb (h | h | ⟨r,R,hr,hbr,hl⟩)
 ·exact H.iX q Q hq b hb h
 ·have:=((H.roots q Q hq).mine b hb).1; omega
 ·by_cases e:q=r
  ·subst e
   obtain ⟨R',g1,g2⟩:=T.old _ Q hq.1
   have hR':R'=Q:=by
    have:=hs.root
    rw [g1,hq.1] at this
    simpa using this
   subst hR'
   rcases g2 with ⟨g2,_⟩ | ⟨_,g2,_⟩
   ·rw [hq.2] at g2; simp at g2
   ·have hw0:lw q=[]:=by
     have:=congrArg List.length g2
     simp at this
     exact this
    rcases hl with hl | ⟨e,he,_⟩ | ⟨_,hl⟩
    ·have:=hl R' g1
     rw [hq.2] at this
     simp at this
    ·rw [hw0] at he; simp at he
    ·exact hl hw0
  ·exact H.IK q Q r R hq hr e b hb hbr
theorem mJ.other (H:Rel cx σ α F a w) (T:mJ cx σ α F w σ' α' F' w' lw lh) {q:Nat} {Q:Root} (hq:aP σ q Q) (hs:Same σ α σ' α' q):∀b∈blk α Q q,hp w' b=hp w b:=by
 intro b hb
 refine aoj fun hne=>?_
 have:=T.stay H hq hs b hb
 rcases T.Q7 b ((H.roots q Q hq).mine b hb).1 hne with h | h
 ·exact this (.inl h)
 ·exact this (.inr (.inr h))
theorem mJ.av (H:Rel cx σ α F a w) (T:mJ cx σ α F w σ' α' F' w' lw lh)
  (F6:∀r R,aP σ r R→¬Same σ α σ' α' r→∀p n v,n≤gJ R.h→bI cx σ α F w (.ptr r p n) v→bI cx σ' α' F' w' (.ptr r p n) v)
  (Cn:∀r R,aP σ r R→¬Same σ α σ' α' r→∀g v,g≤R.g→bI cx σ α F w (.ref r g) v→bI cx σ' α' F' w' (.ref r g) v)
  {x:AV} {v:Value} (hx:Ow.rR σ x) (h:bI cx σ α F w x v):bI cx σ' α' F' w' x v:=by
 have hV:=T.views H
 have Cm:∀{q:Nat} {Q:Root} {p:List Stp},σ.roots q=some Q→Same σ α σ' α' q→bu σ' Q→nk p Q.k Q.x→(∀t∈ah p Q.k,az t Q.own=true)→
   bG (hp w') p Q.k (α'.hdr q) (dU α' Q q)=bG (hp w) p Q.k (α.hdr q) (dU α Q q):=by
  intro q Q p hq hs hv hin hty
  have hv':=vL hV (H.dz q Q hq).1 hv
  have hlive:aP σ q Q:=⟨hq,hv'.1⟩
  rw [hs.hdr,hs.wh]
  exact KG p ((H.roots q Q hlive).ow hv') hin hty (fun b hb=>T.other H hlive hs b (anZ _ hb))
 have hlive:∀{q:Nat} {Q R':Root},σ.roots q=some Q→σ'.roots q=some R'→R'.aX=false→aP σ q Q∧Stepped σ α σ' α' lw lh q Q R':=by
  intro q Q R' h1 h2 hd
  obtain ⟨R'',g1,g2⟩:=T.old _ Q h1
  rw [h2] at g1
  simp only [anX] at g1
  subst g1
  rcases g2 with ⟨g2,_⟩ | ⟨gd,g2⟩
  ·rw [hd] at g2; simp at g2
  ·exact ⟨⟨h1,gd⟩,g2⟩
 have Ya:∀q g v,Ow.rR σ (.ref q g)→bI cx σ α F w (.ref q g) v→bI cx σ' α' F' w' (.ref q g) v:=by
  intro q g v hx h
  obtain ⟨Q,h1,h2⟩:=hx
  intro R' hR' hg
  obtain ⟨hl,hst⟩:=hlive h1 hR'.1 hR'.2
  by_cases e:Same σ α σ' α' q
  ·have hQ:R'=Q:=by
    have:=e.root
    rw [hR'.1,h1] at this
    simpa using this
   subst hQ
   have:=h R' hl hg
   rw [e.hdr]
   exact this
  ·rcases h2 with h2 | h2
   ·rw [hl.2] at h2; simp at h2
   ·exact Cn q Q hl e g v h2 h R' hR' hg
 have abC:∀{q:Nat} {Q R':Root} {n:Nat},σ.roots q=some Q→(Q.aX=true∨n≤Q.wR)→σ'.roots q=some R'→R'.aX=false→R'.wR=n→aP σ q Q∧Same σ α σ' α' q:=by
  intro q Q R' n h1 h2 hR' hd hn
  obtain ⟨hl,hst⟩:=hlive h1 hR' hd
  obtain ⟨s1,s2,_,_,_,_,s6⟩:=hst
  rcases s6 with s6 | ⟨_,_,e⟩
  ·exfalso
   rcases h2 with h2 | h2
   ·rw [hl.2] at h2; simp at h2
   ·simp only [Root.wR,s1,s2,pJ,an5] at hn h2
    rcases s6 with g5 | g5 <;> (have:=List.length_pos_iff.2 g5; omega)
  ·exact ⟨hl,e⟩
 cases x with
 | undef=>trivial
 | val k x Tg=>
  intro hc
  rcases hc with hc | hc
  ·obtain ⟨cs,h1,h2⟩:=h (.inl hc)
   exact ⟨cs,h1,iy hc h2⟩
  ·obtain ⟨cs,h1,h2⟩:=h (.inr (hV Tg _ hx hc).1)
   exact ⟨cs,h1,hV.vw hx hc (fun _ h=>h) h2⟩
 | iP=>exact h
 | ref q g=>exact Ya q g v hx h
 | JK q g k p=>
  obtain ⟨u,b,off,k1,e1,hq,hc,e2,hr⟩:=h
  obtain ⟨h1,h2⟩:=(hV [] [] (fun _ h=>by simp at h) rfl).2.2 b hq (.inr (fun _ h=>by simp at h))
  exact ⟨u,b,off,k1,e1,h1,hc.congr h2,e2,Ya q g u hx hr⟩
 | sV q p n=>
  obtain ⟨Q,h1,h2⟩:=hx
  intro R' hR' hv hn d hd
  obtain ⟨hl,hst⟩:=hlive h1 hR' hv.1
  obtain ⟨s1,s2,_,_,_,_,s6⟩:=hst
  rcases s6 with s6 | ⟨_,_,e⟩
  ·exfalso
   rcases h2 with h2 | h2
   ·rw [hl.2] at h2; simp at h2
   ·simp only [Root.wR,s1,s2,pJ,an5] at hn h2
    rcases s6 with g5 | g5 <;> (have:=List.length_pos_iff.2 g5; omega)
  ·have hQ:R'=Q:=by
    have:=e.root
    rw [hR',h1] at this
    simpa using this
   subst hQ
   have hv':=vL hV (H.dz q R' h1).1 hv
   obtain ⟨h1',h2',cs,wh,h3,h4⟩:=h R' h1 hv' hn d hd
   exact ⟨h1',h2',cs,wh,by rw [Cm h1 e hv h1' h2']; exact h3,h4⟩
 | ptr q p n=>
  obtain ⟨Q,h1,h2⟩:=hx
  refine ⟨h.1, ?_⟩
  intro R' hR' hv hn hty hs
  obtain ⟨hl,hst⟩:=hlive h1 hR' hv.1
  by_cases e:Same σ α σ' α' q
  ·have hQ:R'=Q:=by
    have:=e.root
    rw [hR',h1] at this
    simpa using this
   subst hQ
   have hv':=vL hV (H.dz q R' h1).1 hv
   obtain ⟨h1',cs,b,o,h3,h4⟩:=h.2 R' h1 hv' hn hty hs
   exact ⟨h1',cs,b,o,by rw [Cm h1 e hv h1' hty]; exact h3,h4⟩
  ·rcases h2 with h2 | h2
   ·rw [hl.2] at h2; simp at h2
   ·exact (F6 q Q hl e p n v h2 h).2 R' hR' hv hn hty hs
 | jg bt k x Tg=>exact hV.ro hx h
 | su=>exact h
 | Av _=>exact h
 | part q g lo hi sz=>
  obtain ⟨b',b,n,c,e1,e2,e3,e4,e5,hr⟩:=h
  exact ⟨b',b,n,c,e1,e2,e3,e4,e5,Ya q g (.slice b n c) hx hr⟩
 | xY q p n m=>
  obtain ⟨Q,h1,h2⟩:=hx
  obtain ⟨b,c,ev,h⟩:=h
  refine ⟨b,c,ev, ?_⟩
  intro R' hR' hv hn d hd
  obtain ⟨hl,e⟩:=abC h1 h2 hR' hv.1 hn
  have hQ:R'=Q:=by
   have:=e.root
   rw [hR',h1] at this
   simpa using this
  subst hQ
  have hv':=vL hV (H.dz q R' h1).1 hv
  obtain ⟨h1',h2',n',wh,h3,h4⟩:=h R' h1 hv' hn d hd
  exact ⟨h1',h2',n',wh,by rw [Cm h1 e hv h1' h2']; exact h3,h4⟩
 | app q p n q2=>
  obtain ⟨⟨Q,h1,h2⟩,⟨Q2,h12⟩⟩:=hx
  intro R' hR' hv hn R2 hR2 hn2
  obtain ⟨hl,e⟩:=abC h1 h2 hR' hv.1 hn
  have hQ:R'=Q:=by
   have:=e.root
   rw [hR',h1] at this
   simpa using this
  subst hQ
  obtain ⟨hl2,ala⟩:=hlive h12 hR2.1 hR2.2
  have e2:Same σ α σ' α' q2:=by
   obtain ⟨s1,s2,_,_,_,_,s6⟩:=ala
   rcases s6 with s6 | ⟨_,_,e⟩
   ·exfalso
    simp only [Root.wR,s1,s2,pJ,an5] at hn2
    rcases s6 with g5 | g5 <;> (have:=List.length_pos_iff.2 g5; omega)
   ·exact e
  have hQ2:R2=Q2:=by
   have:=e2.root
   rw [hR2.1,h12] at this
   simpa using this
  subst hQ2
  have hv':=vL hV (H.dz q R' h1).1 hv
  obtain ⟨te,kk,xs,wh,b,m,c,ce,hq,b1,o1,c1,arr,lo,hi,a1,a2,a3,a4,a5,a6,a7,a8,a9,a10,Xd,a12,a13,a14⟩:=h R' h1 hv' hn R2 hl2 hn2
  have hsR:∀b∈α.fo q,hp w' b=hp w b:=fun b hb=>T.other H hl e b (anZ _ hb)
  have hsQ:∀b∈α.fo q2,hp w' b=hp w b:=fun b hb=>T.other H hl2 e2 b (anZ _ hb)
  have hb1:hp w' b1=hp w b1:=by
   rcases a14 with ⟨_,h,_⟩ | ⟨_,h,_⟩
   ·exact hsR b1 h
   ·exact hsQ b1 h
  refine ⟨te,kk,xs,wh,b,m,c,ce,hq,b1,o1,c1,arr,lo,hi,a1,a2,a3,by rw [Cm h1 e hv a2 a3]; exact a4,a5,by rw [e2.hdr]; exact a6,a7,a8,a9,hb1.trans a10,Xd,a12,a13.congr hb1, ?_⟩
  rcases a14 with ⟨z1,z2,z3⟩ | ⟨z1,z2,z3⟩
  ·exact .inl ⟨z1,by rw [e.fo]; exact z2,z3⟩
  ·refine .inr ⟨z1,by rw [e2.fo]; exact z2,fun hm=>?_⟩
   obtain ⟨b0,o0,y1,y2,y3⟩:=z3 hm
   exact ⟨b0,o0,y1,by rw [e.fo]; exact y2,fun i hi'=>by rw [vv hb1,vv (hsR b0 y2)]; exact y3 i hi'⟩
 | fn f cs=>
  obtain ⟨vs,h1,h2⟩:=h
  exact ⟨vs,h1,hV.caps hx h2⟩
theorem C9 {cx:Cx} {σ σ':St} {α α':dL} {F F':List Nat} {w w':World} {P:AV→Prop} (h:∀x v,P x→bI cx σ α F w x v→bI cx σ' α' F' w' x v) :
  ∀{l:List AV} {vs:List Value},(∀x∈l,P x)→dR cx σ α F w l vs→dR cx σ' α' F' w' l vs
 | [],[],_,_=>trivial
 | x :: l,v :: vs,hp,hl=>⟨h x v (hp x (by simp)) hl.1,C9 h (fun y hy=>hp y (by simp [hy])) hl.2⟩
 | [],_ :: _,_,hl=>hl.elim
 | _ :: _,[],_,hl=>hl.elim
theorem UC {cx:Cx} {σ σ':St} {α α':dL} {F F':List Nat} {w w':World} (h:∀x v,rR σ x→bI cx σ α F w x v→bI cx σ' α' F' w' x v) {x:xP} {v:Value} (hx:xS σ x) (hv:iT cx σ α F w x v):iT cx σ' α' F' w' x v:=by
 cases x with
 | one a=>exact h a v hx hv
 | Lc l=>
  obtain ⟨vs,h1,h2⟩:=hv
  exact ⟨vs,h1,C9 h hx h2⟩
 | lit _ _ l=>
  obtain ⟨vs,cs,h1,h2⟩:=hv
  exact ⟨vs,cs,h1,C9 h hx h2⟩
theorem Rel.turn (H:Rel cx σ α F a w) (T:mJ cx σ α F w σ' α' F' w' lw lh)
  (hroot:∀r R,aP σ' r R→¬Same σ α σ' α' r→(bu σ' R→Ow (hp w') R.own (iQ cx σ' α' F' w' R.tags) R.k R.x (α'.hdr r) (α'.fo r))∧(α'.hdr r).length=R.k.size∧
   (∀b o,dU α' R r=some (b,o)→Cells (hp w') b o (α'.hdr r)∧∃arr e lo hi,hp w' b=some (.cells arr e (lo,hi))∧(∀i,i<arr.size→¬(lo≤i∧i<hi))∧o+R.k.size≤arr.size∧(∀t,R.kind=.var t→e=t))∧
   (blk α' R r).Nodup)
  (F6:∀r R,aP σ r R→¬Same σ α σ' α' r→∀p n v,n≤gJ R.h→bI cx σ α F w (.ptr r p n) v→bI cx σ' α' F' w' (.ptr r p n) v)
  (Cn:∀r R,aP σ r R→¬Same σ α σ' α' r→∀g v,g≤R.g→bI cx σ α F w (.ref r g) v→bI cx σ' α' F' w' (.ref r g) v) :
  Rel cx σ' α' F' a w':=by
 have hV:=T.views H
 have X4:∀{r R b},aP σ r R→b∈blk α R r→mine cx w' b:=fun hr hb=>by
  have:=(H.roots _ _ hr).mine _ hb
  exact ⟨Nat.lt_of_lt_of_le this.1 T.size,this.2⟩
 have jJ:∀b,(b∈F∨(w.heap.size≤b∧b<w'.heap.size)∨∃r R,aP σ r R∧b∈blk α R r∧Loose cx σ' lw w r b)→mine cx w' b:=by
  rintro b (hb | hb | ⟨r,R,hr,hb,_⟩)
  ·have:=H.fl b hb
   exact ⟨Nat.lt_of_lt_of_le this.1 T.size,this.2⟩
  ·exact ⟨hb.2, .inl (Nat.le_trans H.frame.2.2.2.1 hb.1)⟩
  ·exact X4 hr hb
 have X3:∀{r R b},aP σ' r R→b∈blk α' R r→mine cx w' b:=by
  intro r R b hr hb
  by_cases e:∃Q,aP σ r Q∧b∈blk α Q r
  ·obtain ⟨Q,hQ,hbQ⟩:=e
   exact X4 hQ hbQ
  ·exact jJ b (T.new b (.inl ⟨r,R,hr,hb,e⟩))
 have Qh:∀{q Q r R b},aP σ' q Q→Same σ α σ' α' q→aP σ' r R→r≠q→b∈blk α' Q q→b∉blk α' R r:=by
  intro q Q r R b hq hs hr hne hb hb'
  have hq':=(hs.live Q).1 hq
  rw [hs.blk] at hb
  by_cases e:∃R0,aP σ r R0∧b∈blk α R0 r
  ·obtain ⟨R0,h1,h2⟩:=e
   exact H.IK q Q r R0 hq' h1 (Ne.symm hne) b hb h2
  ·exact T.stay H hq' hs b hb (T.new b (.inl ⟨r,R,hr,hb',e⟩))
 constructor
 ·exact H.defs
 ·exact H.sz
 ·intro j pi b o n hj hb
  obtain ⟨R,h1,h2,h3,h4⟩:=H.kI j pi b o n hj hb
  obtain ⟨R',g1,g2⟩:=T.old _ R h1.1
  rcases g2 with g2 | ⟨_,g2⟩
  ·exact absurd h2 g2.2
  ·refine ⟨R',⟨g1, ?_⟩,g2.2.2.2.1.trans h2,g2.2.2.2.2.1.trans h3,(g2.2.2.2.2.2.1 h2).trans h4⟩
   unfold Root.aX
   rw [g2.2.2.2.1,h2]
 ·intro q Q hq hk
  cases hs:σ.roots q with
  | none=>exact absurd hk (T.ag3 q Q hs hq.1)
  | some R=>
   obtain ⟨R',g1,g2⟩:=T.old q R hs
   rw [hq.1] at g1
   simp only [anX] at g1
   subst g1
   rcases g2 with ⟨g2,_⟩ | ⟨gd,g2⟩
   ·rw [hq.2] at g2; simp at g2
   ·rw [g2.2.2.2.2.1]
    exact H.EE q R ⟨hs,gd⟩ (g2.2.2.2.1▸hk)
 ·intro s
  rw [T.slots]
  exact UC (fun x v hx h=>T.av H F6 Cn hx h) (H.sF s) (H.slots s)
 ·intro s
  rw [T.slots]
  exact T.xS (H.sF s)
 ·intro q Q hq
  by_cases e:Same σ α σ' α' q
  ·have hq':=(e.live Q).1 hq
   have K:=H.roots q Q hq'
   have hsame:=T.other H hq' e
   constructor
   ·intro hv
    have hv':=vL hV (H.dz q Q hq'.1).1 hv
    rw [e.hdr,e.fo]
    have hO:=K.ow hv'
    obtain ⟨_,g2,_⟩:=hV Q.tags Q.Co (H.dz q Q hq'.1).1 hv.2
    exact bz (fun b hb=>(g2 b hb.1 (.inl hb.2)).2) (fun b hb=>(g2 b hb.1 (.inl hb.2)).1) (fun b hb=>hsame b (anZ _ hb)) (sS Q.Co (fun _ h=>h) hO)
   ·rw [e.hdr]; exact K.len
   ·intro b o hb
    rw [e.wh] at hb
    rw [e.hdr]
    obtain ⟨h1,arr,te,lo,hi,h2,h3⟩:=K.mem b o hb
    have hbb:hp w' b=hp w b:=hsame b (by unfold blk; rw [hb]; simp)
    exact ⟨h1.congr hbb,arr,te,lo,hi,hbb.trans h2,h3⟩
   ·rw [e.blk]; exact K.nd
   ·exact fun b hb=>X3 hq hb
  ·obtain ⟨h1,h2,h3,h4⟩:=hroot q Q hq e
   exact ⟨h1,h2,h3,h4,fun b hb=>X3 hq hb⟩
 ·intro q Q hq
  by_cases e:Same σ α σ' α' q
  ·obtain ⟨h1,h2,h3⟩:=H.dz q Q (by rw [←e.root]; exact hq)
   exact ⟨fun t ht=>T.tag (h1 t ht),h2,h3⟩
  ·exact T.wr q Q hq e
 ·intro q Q q' Q' hq hq' hne b hb hb'
  by_cases e:Same σ α σ' α' q
  ·exact Qh hq e hq' (Ne.symm hne) hb hb'
  ·by_cases e':Same σ α σ' α' q'
   ·exact Qh hq' e' hq hne hb' hb
   ·exact T.IK q Q q' Q' hq hq' hne e e' b hb hb'
 ·exact fun b hb=>jJ b (T.new b (.inr hb))
 ·exact T.zG
 ·intro q Q hq b hb hF
  by_cases e:Same σ α σ' α' q
  ·rw [e.blk] at hb
   exact T.stay H ((e.live Q).1 hq) e b hb (T.new b (.inr hF))
  ·exact T.iX q Q hq e b hb hF
 ·obtain ⟨f1,f2,f3,f4,f5,f6⟩:=H.frame
  refine ⟨T.os.1.trans f1,T.os.2.1.trans f2,T.os.2.2.trans f3,Nat.le_trans f4 T.size, ?_, ?_⟩
  ·intro b hb hno
   have:hp w' b=hp w b:=by
    refine aoj fun hne=>?_
    have hm:mine cx w b:=by
     rcases T.Q7 b (Nat.lt_of_lt_of_le hb f4) hne with h | ⟨r,R,hr,h,_⟩
     ·exact H.fl b h
     ·exact (H.roots r R hr).mine b h
    rcases hm.2 with h | ⟨j,pi,h1,h2⟩
    ·omega
    ·exact hno j pi h1 h2
   exact this.trans (f5 b hb hno)
  ·intro j pi b o n hj hb
   by_cases hne:hp w' b=hp w b
   ·have:=f6 j pi b o n hj hb
    obtain ⟨arr,kL,e,fr,h1,h2,h3⟩:=this
    exact ⟨arr,kL,e,fr,h1,hne.trans h2,h3⟩
   ·exact T.base j pi b o n hj hb hne
 ·intro j pi hj hk
  obtain ⟨R,h1,h2⟩:=H.uE j pi hj hk
  obtain ⟨R',g1,g2⟩:=T.old _ R h1
  refine ⟨R',g1,fun hd b hb hnb=>?_⟩
  rcases g2 with ⟨g2,_⟩ | ⟨gd,g2,_⟩
  ·rw [hd] at g2; simp at g2
  ·have hev:=(T.ev _ R R' h1 g1 hd).1
   rcases h2 gd b hb hnb with ⟨e,he,xW⟩ | ⟨hs,hF,hown⟩
   ·refine .inl ⟨e,he, ?_⟩
    rw [g2,hev]
    rcases xW with h | h
    ·exact .inl (anZ _ h)
    ·exact .inr h
   ·by_cases xW:∃e∈lw (ay j),qQ (hp w) b=some e
    ·obtain ⟨e,he,hel⟩:=xW
     exact .inl ⟨e,(JR hs).symm.trans hel, .inl (by rw [g2]; exact an2 _ he)⟩
    ·have hno:¬∃r Q,aP σ r Q∧b∈blk α Q r∧Loose cx σ' lw w r b:=by
      rintro ⟨r,Q,hr,hbr,hl⟩
      have e:=hown r Q hr hbr
      subst e
      rcases hl with hl | hl | ⟨hl,_⟩
      ·have:=hl R' g1
       rw [hd] at this
       simp at this
      ·exact xW hl
      ·exact hnb hl
     by_cases hlt:b<w.heap.size
     ·refine .inr ⟨?_, ?_, ?_⟩
      ·refine Eq.trans ?_ hs
       refine aoj fun hne=>?_
       rcases T.Q7 b hlt hne with h | h
       ·exact hF h
       ·exact hno h
      ·intro hF'
       rcases T.new b (.inr hF') with h | h | h
       ·exact hF h
       ·omega
       ·exact hno h
      ·intro q Q hq hbq
       by_cases e:∃R,aP σ q R∧b∈blk α R q
       ·obtain ⟨R0,hR0,hbR⟩:=e
        exact hown q R0 hR0 hbR
       ·rcases T.new b (.inl ⟨q,Q,hq,hbq,e⟩) with h | h | h
        ·exact absurd h hF
        ·omega
        ·exact absurd h hno
     ·exact absurd (H.oP.1 j pi hj b hb) (by have:=H.frame.2.2.2.1; omega)
 ·exact H.oP
 ·intro j p ts v hv
  obtain ⟨hvp,R,h1,h2⟩:=H.wo j p ts v hv
  obtain ⟨R',g1,g2⟩:=T.old _ R h1
  refine ⟨hvp,R',g1,fun ht=>?_⟩
  cases hd:R'.aX with
  | true=>
   rcases g2 with ⟨_,g2⟩ | ⟨gd,g2⟩
   ·refine ⟨hvp,fun Q hQ hv'=>?_⟩
    rw [g1] at hQ
    simp only [anX] at hQ
    subst hQ
    have:=hv'.1
    rw [hd] at this
    simp at this
   ·have:R'.aX=R.aX:=by unfold Root.aX; rw [g2.2.2.2.1]
    rw [hd,gd] at this
    simp at this
  | false=>
   have hev:=(T.ev _ R R' h1 g1 hd).2
   exact T.av H F6 Cn (show Ow.rR σ (.ptr (ay j) p 0) from ⟨R,h1, .inr (aov _)⟩) (h2 (by rw [←hev]; exact ht))
 ·intro j v hv
  obtain ⟨⟨R,h1⟩,h2⟩:=H.wu j v hv
  obtain ⟨R',g1,_⟩:=T.old _ R h1
  exact ⟨⟨R',g1⟩,T.av H F6 Cn (show Ow.rR σ (.ref (ay j) 0) from ⟨R,h1, .inr (aov _)⟩) h2⟩
end
def au (σ:St) (r:Nat) (R:Root):St:={ σ with roots:=upd σ.roots r (some R) }
def aG (α:dL) (r:Nat) (loc:Nat×Nat) (hdr:List Value) (fo:List Nat):dL:=⟨upd α.loc r loc,upd α.hdr r hdr,upd α.fo r fo⟩
theorem aI (σ:St) (r:Nat) (R:Root):(au σ r R).roots r=some R:=upd_same _ _ _
theorem bU (σ:St) {r q:Nat} (R:Root) (h:q≠r):(au σ r R).roots q=σ.roots q:=upd_ne _ _ h
theorem Kz {σ:St} {r q:Nat} {R Q:Root} (h:q≠r):aP (au σ r R) q Q↔aP σ q Q:=by unfold aP; rw [bU σ R h]
theorem eU {σ:St} {r:Nat} {R Q:Root} (h:aP (au σ r R) r Q):Q=R∧R.aX=false:=by
 have h1:=h.1
 rw [aI] at h1
 simp only [anX] at h1
 subst h1
 exact ⟨rfl,h.2⟩
theorem iw {σ:St} {α:dL} {r q:Nat} {R:Root} {loc:Nat×Nat} {hdr:List Value} {fo:List Nat} (h:q≠r):Same σ α (au σ r R) (aG α r loc hdr fo) q:=
 ⟨bU σ R h,upd_ne _ _ h,upd_ne _ _ h,upd_ne _ _ h⟩
theorem lJ (σ:St) (α:dL) (q:Nat):Same σ α σ α q:=⟨rfl,rfl,rfl,rfl⟩
def iE (R:Root) (loc:Nat×Nat) (fo:List Nat):List Nat:=(match R.kind with
 | .var _=>[loc.1]
 | .par=>[loc.1]
 | _=>[])++fo
theorem eG {α:dL} {r:Nat} {loc:Nat×Nat} {hdr:List Value} {fo:List Nat} {Q:Root}:blk (aG α r loc hdr fo) Q r=iE Q loc fo:=by
 unfold blk iE dU aG
 simp only [upd_same] <;> cases Q.kind <;> rfl
theorem bW (α:dL) (R:Root) (r:Nat):blk α R r=iE R (α.loc r) (α.fo r):=by
 unfold blk iE dU
 cases R.kind <;> rfl
def wU (R:Root) (loc:Nat×Nat):Option (Nat×Nat):=match R.kind with
 | .var _=>some loc
 | .par=>some loc
 | _=>none
theorem jN {α:dL} {r:Nat} {loc:Nat×Nat} {hdr:List Value} {fo:List Nat} {Q:Root}:dU (aG α r loc hdr fo) Q r=wU Q loc:=by
 unfold dU wU aG
 simp only [upd_same] <;> cases Q.kind <;> rfl
theorem uK (α:dL) (R:Root) (r:Nat):dU α R r=wU R (α.loc r):=rfl
end
section
open Go
variable [Fr]
def jB (σ:St) (s:Nat→xP):St:=⟨s,σ.roots⟩
theorem rT (σ:St) (s:Nat→xP) (tys:List TypeId):∀(T:List Tag),bq (jB σ s) tys T=bq σ tys T
 | []=>rfl
 | (r,n) :: T=>by simp only [bq,rT σ s tys T]; rfl
section
variable {cx:Cx} {σ:St} {α:dL} {F:List Nat} {a:Act} {w:World}
theorem MW (s:Nat→xP):iQ cx (jB σ s) α F w=iQ cx σ α F w:=rfl
theorem KV (s:Nat→xP) {bt:TypeId} {k:K} {x:El k} {T:List Tag} {v:Value}:KU cx (jB σ s) α F w bt k x T v↔KU cx σ α F w bt k x T v:=by
 unfold KU
 rw [rT,MW]
 exact Iff.rfl
theorem Ea (s:Nat→xP):∀{cs:List (TypeId×Dat×List Tag)} {vs:List Value},kG cx (jB σ s) α F w cs vs↔kG cx σ α F w cs vs
 | [],[]=>Iff.rfl
 | c :: cs,v :: vs=>by simp only [kG,KV s,Ea s]
 | [],_ :: _=>Iff.rfl
 | _ :: _,[]=>Iff.rfl
theorem pO (s:Nat→xP) {R:Root}:bu (jB σ s) R↔bu σ R:=by unfold bu; rw [rT]
theorem y7 (s:Nat→xP) {x:AV} {v:Value}:bI cx (jB σ s) α F w x v↔bI cx σ α F w x v:=by
 cases x with
 | undef=>exact Iff.rfl
 | val k x T=>simp only [bI,rT,MW]
 | iP=>exact Iff.rfl
 | ref r g=>exact Iff.rfl
 | JK r g k p=>exact Iff.rfl
 | sV r p n=>simp only [bI,pO]; exact Iff.rfl
 | ptr r p n=>simp only [bI,pO]; exact Iff.rfl
 | jg bt k x T=>exact KV s
 | su=>exact Iff.rfl
 | Av _=>exact Iff.rfl
 | part _ _ _ _ _=>exact Iff.rfl
 | xY _ _ _ _=>simp only [bI,pO]; exact Iff.rfl
 | app _ _ _ _=>simp only [bI,pO]; exact Iff.rfl
 | fn f cs=>simp only [bI,Ea s]
theorem zM (s:Nat→xP):∀{l:List AV} {vs:List Value},dR cx (jB σ s) α F w l vs↔dR cx σ α F w l vs
 | [],[]=>Iff.rfl
 | c :: cs,v :: vs=>by simp only [dR,y7 s,zM s]
 | [],_ :: _=>Iff.rfl
 | _ :: _,[]=>Iff.rfl
theorem Gy (s:Nat→xP) {x:xP} {v:Value}:iT cx (jB σ s) α F w x v↔iT cx σ α F w x v:=by
 cases x with
 | one a=>exact y7 s
 | Lc l=>simp only [iT,zM s]
 | lit _ _ l=>simp only [iT,zM s]
theorem Js (s:Nat→xP) {x:xP}:xS (jB σ s) x↔xS σ x:=by cases x <;> exact Iff.rfl
theorem Rel.put (H:Rel cx σ α F a w) {d:Nat} {x:xP} {v:Value} (hd:d<cx.nt) (hw:xS σ x) (hx:iT cx σ α F w x v) :
  Rel cx (jB σ (upd σ.slots d x)) α F (a.put (some d) v) w where
 defs:=H.defs
 sz:=by simpa [Act.put] using H.sz
 kI:=H.kI
 EE:=H.EE
 slots:=by
  intro s
  rw [Gy]
  show iT cx σ α F w (upd σ.slots d x s) _
  by_cases e:s=d
  ·subst e
   rw [upd_same]
   have:(a.put (some s) v).tmps.getD s undef=v:=by
    have:=H.sz
    simp [Act.put,Array.getElem?_setIfInBounds_self_of_lt (show s<a.tmps.size by omega)]
   rw [this]
   exact hx
  ·rw [upd_ne _ _ e]
   have:(a.put (some d) v).tmps.getD s undef=a.tmps.getD s undef:=by
    simp [Act.put,Array.getElem?_setIfInBounds_ne (Ne.symm e)]
   rw [this]
   exact H.slots s
 sF:=by
  intro s
  rw [Js]
  show xS σ (upd σ.slots d x s)
  by_cases e:s=d
  ·subst e; rw [upd_same]; exact hw
  ·rw [upd_ne _ _ e]; exact H.sF s
 roots:=by
  intro r R hr
  have K:=H.roots r R hr
  exact ⟨fun hv=>K.ow ((pO _).1 hv),K.len,K.mem,K.nd,K.mine⟩
 dz:=H.dz
 IK:=H.IK
 fl:=H.fl
 zG:=H.zG
 iX:=H.iX
 frame:=H.frame
 uE:=H.uE
 oP:=H.oP
 wo:=fun j p ts v h=>let ⟨h0,R,h1,h2⟩:=H.wo j p ts v h; ⟨h0,R,h1,fun ht=>(y7 _).2 (h2 ht)⟩
 wu:=H.wu
def dw (w:World) (n:Nat):World:={ w with drawn:=n }
theorem Mw (n:Nat):∀{cs:List (TypeId×Dat×List Tag)} {vs:List Value},kG cx σ α F w cs vs→kG cx σ α F (dw w n) cs vs
 | [],[],_=>trivial
 | _ :: _,_ :: _,h=>⟨h.1,Mw n h.2⟩
 | [],_ :: _,h=>h.elim
 | _ :: _,[],h=>h.elim
theorem IE (n:Nat) {x:AV} {v:Value} (h:bI cx σ α F w x v):bI cx σ α F (dw w n) x v:=by
 cases x with
 | fn f cs=>obtain ⟨vs,h1,h2⟩:=h; exact ⟨vs,h1,Mw n h2⟩
 | undef=>exact h
 | val k x T=>exact h
 | iP=>exact h
 | ref r g=>exact h
 | JK r g k p=>exact h
 | sV r p n=>exact h
 | ptr r p n=>exact h
 | jg bt k x T=>exact h
 | su=>exact h
 | Av _=>exact h
 | part _ _ _ _ _=>exact h
 | xY _ _ _ _=>exact h
 | app _ _ _ _=>exact h
theorem Rel.drawn (H:Rel cx σ α F a w) (n:Nat):Rel cx σ α F a (dw w n) where
 defs:=H.defs
 sz:=H.sz
 kI:=H.kI
 EE:=H.EE
 slots:=fun s=>by
  have h:=H.slots s
  generalize σ.slots s=x at h
  cases x with
  | one a=>exact IE n h
  | Lc l=>
   obtain ⟨vs,h1,h2⟩:=h
   refine ⟨vs,h1, ?_⟩
   clear h1
   induction l generalizing vs with
   | nil=>cases vs with
    | nil=>trivial
    | cons v vs=>exact h2.elim
   | cons b l ih=>cases vs with
    | nil=>exact h2.elim
    | cons v vs=>exact ⟨IE n h2.1,ih vs h2.2⟩
  | lit _ _ l=>
   obtain ⟨vs,cs,h1,h2⟩:=h
   refine ⟨vs,cs,h1, ?_⟩
   clear h1
   induction l generalizing vs with
   | nil=>cases vs with
    | nil=>trivial
    | cons v vs=>exact h2.elim
   | cons b l ih=>cases vs with
    | nil=>exact h2.elim
    | cons v vs=>exact ⟨IE n h2.1,ih vs h2.2⟩
 sF:=H.sF
 roots:=fun r R hr=>let K:=H.roots r R hr; ⟨K.ow,K.len,K.mem,K.nd,K.mine⟩
 dz:=H.dz
 IK:=H.IK
 fl:=H.fl
 zG:=H.zG
 iX:=H.iX
 frame:=H.frame
 uE:=H.uE
 oP:=H.oP
 wo:=fun j p ts v h=>let ⟨h0,R,h1,h2⟩:=H.wo j p ts v h; ⟨h0,R,h1,fun ht=>IE n (h2 ht)⟩
 wu:=H.wu
def tF (r:Nat) (l:List Nat):Nat→List Nat:=fun q=>if q=r then l else []
theorem vK (r:Nat) (l:List Nat):tF r l r=l:=if_pos rfl
theorem qw {r q:Nat} (l:List Nat) (h:q≠r):tF r l q=[]:=if_neg h
variable {r:Nat} {R R':Root} {hdr':List Value} {dH F':List Nat} {w':World} {lw lh:List Nat}
def Rl (cx:Cx) (R':Root) (lw:List Nat) (w:World) (b:Nat):Prop:=R'.aX=true∨(∃e∈lw,qQ (hp w) b=some e)∨(lU cx b∧lw≠[])
structure AR (cx:Cx) (σ:St) (α:dL) (F:List Nat) (w:World) (r:Nat) (R R':Root) (dH F':List Nat) (w':World) (lw lh:List Nat):Prop where
 step:(R'.aX=true∧R.kind≠.par)∨(R'.w=lw++R.w∧R'.h=lh++R.h∧R.g≤R'.g∧R'.kind=R.kind∧(R.kind=.par→R'.k.size=R.k.size)∧(lw≠[]∨lh≠[]))
 tags:eZ σ R'.tags∧∀n,(r,n)∉R'.tags
 os:w'.os=w.os∧w'.tape=w.tape∧w'.output=w.output
 size:w.heap.size≤w'.heap.size
 Q7:∀b,b<w.heap.size→hp w' b≠hp w b→b∈F∨(b∈blk α R r∧Rl cx R' lw w b)
 new:R'.aX=false→∀b∈iE R' (α.loc r) dH,b∈blk α R r∨b∈F∨(w.heap.size≤b∧b<w'.heap.size)
 newF:∀b∈F',b∈F∨(w.heap.size≤b∧b<w'.heap.size)∨(b∈blk α R r∧Rl cx R' lw w b)
 zG:F'.Nodup
 iX:R'.aX=false→∀b∈iE R' (α.loc r) dH,b∉F'
 base:∀j pi b o n,cx.par j=some pi→pi.base=some (b,o,n)→r=ay j→hp w' b≠hp w b→gQ (hp cx.w0) (hp w') b o n
 ev:R'.aX=false→R'.ew=R.ew∧R'.eh=R.eh
theorem jw {q:Nat} {Q:Root} (h:aP (au σ r R') q Q):(q=r∧Q=R'∧R'.aX=false)∨(q≠r∧aP σ q Q):=by
 by_cases e:q=r
 ·subst e
  obtain ⟨h1,h2⟩:=eU h
  exact .inl ⟨rfl,h1,h2⟩
 ·exact .inr ⟨e,(Kz e).1 h⟩
theorem AR.turn (H:Rel cx σ α F a w) (hr:aP σ r R) (T:AR cx σ α F w r R R' dH F' w' lw lh) :
  mJ cx σ α F w (au σ r R') (aG α r (α.loc r) hdr' dH) F' w' (tF r lw) (tF r lh):=by
 have hsame:∀q,q≠r→Same σ α (au σ r R') (aG α r (α.loc r) hdr' dH) q:=fun q h=>iw h
 have X0:∀b,Rl cx R' lw w b→Loose cx (au σ r R') (tF r lw) w r b:=by
  rintro b (h | ⟨e,he,hb⟩ | ⟨h,hl⟩)
  ·refine .inl fun Q hQ=>?_
   rw [aI] at hQ
   simp only [anX] at hQ
   subst hQ
   exact h
  ·exact .inr (.inl ⟨e,by rw [vK]; exact he,hb⟩)
  ·exact .inr (.inr ⟨h,by rw [vK]; exact hl⟩)
 have hns:∀{q:Nat},¬Same σ α (au σ r R') (aG α r (α.loc r) hdr' dH) q→q=r:=fun {q} h=>aoj fun e=>h (hsame q e)
 refine ⟨rfl,T.os,T.size, ?_, ?_, ?_, ?_, ?_,T.zG, ?_, ?_, ?_, ?_⟩
 ·intro q Q hQ
  by_cases e:q=r
  ·subst e
   rw [hr.1] at hQ
   simp only [anX] at hQ
   subst hQ
   refine ⟨R',aI .., ?_⟩
   rcases T.step with h | ⟨h1,h2,h3,h4,h5,h6⟩
   ·exact .inl h
   ·exact .inr ⟨hr.2,by rw [vK]; exact h1,by rw [vK]; exact h2,h3,h4,by simp [aG,upd_same],h5,by rw [vK,vK]; exact .inl h6⟩
  ·refine ⟨Q,by rw [bU σ R' e]; exact hQ, ?_⟩
   cases hd:Q.aX with
   | true=>
    refine .inl ⟨rfl, ?_⟩
    intro hk
    simp [Root.aX,hk] at hd
   | false=>exact .inr ⟨rfl,by rw [qw lw e]; rfl,by rw [qw lh e]; rfl,aod _,rfl,by simp [aG,upd_ne _ _ e],fun _=>rfl, .inr ⟨qw lw e,qw lh e,hsame q e⟩⟩
 ·intro q Q hQ hs
  have e:=hns hs
  subst e
  rw [aI] at hQ
  simp only [anX] at hQ
  subst hQ
  refine ⟨fun t ht=>?_,(H.dz q R hr.1).2.1,T.tags.2⟩
  have hne:t.1≠q:=fun e=>T.tags.2 t.2 (by rw [←e]; exact ht)
  rcases T.tags.1 t ht with h | ⟨Q,h1,h2⟩
  ·exact .inl h
  ·exact .inr ⟨Q,by rw [bU σ R' hne]; exact h1,h2⟩
 ·intro q Q hn hQ
  have e:q≠r:=fun e=>by rw [e,hr.1] at hn; simp at hn
  rw [bU σ R' e,hn] at hQ
  simp at hQ
 ·intro b hb hne
  exact (T.Q7 b hb hne).imp id (fun h=>⟨r,R,hr,h.1,X0 b h.2⟩)
 ·rintro b (⟨q,Q,hq,hb,hno⟩ | hb)
  ·rcases jw hq with ⟨rfl,rfl,hd⟩ | ⟨e,hq'⟩
   ·rw [eG] at hb
    rcases T.new hd b hb with h | h | h
    ·exact absurd ⟨R,hr,h⟩ hno
    ·exact .inl h
    ·exact .inr (.inl h)
   ·rw [(hsame q e).blk] at hb
    exact absurd ⟨Q,hq',hb⟩ hno
  ·rcases T.newF b hb with h | h | h
   ·exact .inl h
   ·exact .inr (.inl h)
   ·exact .inr (.inr ⟨r,R,hr,h.1,X0 b h.2⟩)
 ·intro q Q hq hs b hb
  have e:=hns hs
  subst e
  obtain ⟨rfl,hd⟩:=eU hq
  rw [eG] at hb
  exact T.iX hd b hb
 ·intro q Q q' Q' hq hq' hne hs hs'
  exact absurd ((hns hs).trans (hns hs').symm) hne
 ·intro j pi b o n hj hb hne
  obtain ⟨Q,hQ,hk,hl,hs⟩:=H.kI j pi b o n hj hb
  have hbq:b∈blk α Q (ay j):=by simp [blk,dU,hk,hl]
  have hm:=(H.roots _ _ hQ).mine b hbq
  rcases T.Q7 b hm.1 hne with h | ⟨h1,_⟩
  ·exact absurd h (H.iX _ _ hQ b hbq)
  ·refine T.base j pi b o n hj hb ?_ hne
   refine aoj fun e=>?_
   exact H.IK _ _ _ _ hr hQ e b h1 hbq
 ·intro q Q Q' hQ hQ' hd
  by_cases e:q=r
  ·subst e
   rw [hr.1] at hQ
   rw [aI] at hQ'
   simp only [anX] at hQ hQ'
   subst hQ
   subst hQ'
   exact T.ev hd
  ·rw [bU σ R' e,hQ] at hQ'
   simp only [anX] at hQ'
   subst hQ'
   exact ⟨rfl,rfl⟩
theorem AR.rel (H:Rel cx σ α F a w) (hr:aP σ r R) (T:AR cx σ α F w r R R' dH F' w' lw lh)
  (hroot:R'.aX=false→(bu (au σ r R') R'→Ow (hp w') R'.own (iQ cx (au σ r R') (aG α r (α.loc r) hdr' dH) F' w' R'.tags) R'.k R'.x hdr' dH)∧hdr'.length=R'.k.size∧
   (∀b o,wU R' (α.loc r)=some (b,o)→Cells (hp w') b o hdr'∧∃arr e lo hi,hp w' b=some (.cells arr e (lo,hi))∧(∀i,i<arr.size→¬(lo≤i∧i<hi))∧o+R'.k.size≤arr.size∧(∀t,R'.kind=.var t→e=t))∧
   (iE R' (α.loc r) dH).Nodup)
  (F6:R'.aX=false→∀p n v,n≤gJ R.h→bI cx σ α F w (.ptr r p n) v→bI cx (au σ r R') (aG α r (α.loc r) hdr' dH) F' w' (.ptr r p n) v)
  (Cn:R'.aX=false→∀g v,g≤R.g→bI cx σ α F w (.ref r g) v→bI cx (au σ r R') (aG α r (α.loc r) hdr' dH) F' w' (.ref r g) v) :
  Rel cx (au σ r R') (aG α r (α.loc r) hdr' dH) F' a w':=by
 have hns:∀{q:Nat},¬Same σ α (au σ r R') (aG α r (α.loc r) hdr' dH) q→q=r:=fun {q} h=>aoj fun e=>h (iw e)
 have hRq:∀{Q:Root},aP σ r Q→Q=R:=fun {Q} hQ=>by have:=hQ.1; rw [hr.1] at this; simpa using this.symm
 refine H.turn (T.turn H hr) ?_ ?_ ?_
 ·intro q Q hq hs
  have e:=hns hs
  subst e
  obtain ⟨rfl,hd⟩:=eU hq
  obtain ⟨h1,h2,h3,h4⟩:=hroot hd
  refine ⟨fun hv=>?_, ?_, ?_, ?_⟩
  ·have:=h1 hv
   simpa [aG,upd_same] using this
  ·simpa [aG,upd_same] using h2
  ·intro b o hb
   rw [jN] at hb
   have:=h3 b o hb
   simpa [aG,upd_same] using this
  ·rw [eG]; exact h4
 ·intro q Q hq hs p n v hn hv
  have e:=hns hs
  subst e
  obtain rfl:=hRq hq
  cases hd:R'.aX with
  | false=>exact F6 hd p n v hn hv
  | true=>
   refine ⟨hv.1, ?_⟩
   intro Q' hQ' hval
   rw [aI] at hQ'
   simp only [anX] at hQ'
   subst hQ'
   have:=hval.1
   rw [hd] at this
   simp at this
 ·intro q Q hq hs g v hg hv
  have e:=hns hs
  subst e
  obtain rfl:=hRq hq
  cases hd:R'.aX with
  | false=>exact Cn hd g v hg hv
  | true=>
   intro Q' hQ'
   have:=(eU hQ').2
   rw [hd] at this
   simp at this
structure Held (cx:Cx) (σ:St) (α:dL) (F:List Nat) (w:World) (k:K) (x:El k) (own:List TypeId) (tags:List Tag) (cs:List Value) (fo:List Nat):Prop where
 ow:bq σ (aU own k) tags=true→Ow (hp w) own (iQ cx σ α F w tags) k x cs fo
 wt:eZ σ tags
 sub:∀b∈fo,b∈F
 nd:fo.Nodup
 len:cs.length=k.size
theorem Held.turn {σ':St} {α':dL} {lw lh:Nat→List Nat} {k:K} {x:El k} {own:List TypeId} {tags:List Tag} {cs:List Value} {fo:List Nat}
  (H:Rel cx σ α F a w) (T:mJ cx σ α F w σ' α' F' w' lw lh) (h:Held cx σ α F w k x own tags cs fo) (hs:∀b∈fo,hp w' b=hp w b∧b∈F'):Held cx σ' α' F' w' k x own tags cs fo where
 ow:=fun hc=>by
  obtain ⟨h1,h2,_⟩:=T.views H tags _ h.wt hc
  exact bz (fun b hb=>(h2 b hb.1 (.inl hb.2)).2) (fun b hb=>(h2 b hb.1 (.inl hb.2)).1) (fun b hb=>(hs b hb).1) (sS _ (fun _ h=>h) (h.ow h1))
 wt:=fun t ht=>T.tag (h.wt t ht)
 sub:=fun b hb=>(hs b hb).2
 nd:=h.nd
 len:=h.len
theorem Held.slots {k:K} {x:El k} {own:List TypeId} {tags:List Tag} {cs:List Value} {fo:List Nat} (s:Nat→xP) (h:Held cx σ α F w k x own tags cs fo):Held cx (jB σ s) α F w k x own tags cs fo:=
 ⟨fun hc=>h.ow (by rw [rT] at hc; exact hc),h.wt,h.sub,h.nd,h.len⟩
end
end
section
open Go
variable [Fr]
theorem uu {h:Heap} {own:List TypeId} {ok:Nat→Prop}:∀{k:K} {x:El k} {cs:List Value} {fo:List Nat},Ow h own ok k x cs fo→∀b∈fo,∃e∈k.tys,az e own=true∧qQ h b=some e:=by
 intro k
 induction k with
 | int ik=>intro x cs fo H b hb; rw [H.1] at hb; simp at hb
 | bool=>intro x cs fo H b hb; rw [H.1] at hb; simp at hb
 | id e=>intro x cs fo H b hb; rw [H.1] at hb; simp at hb
 | str=>intro x cs fo H b hb; rw [H.1] at hb; simp at hb
 | sl e k ih=>
  intro x cs fo H b' hb'
  unfold Ow at H
  split at H
  ·rename_i hm
   obtain ⟨a,n,c,e1,e2,e3,H⟩:=H
   rcases H with ⟨_,h1⟩ | ⟨b,o,arr,lo,hi,ea,hb,hf,hs,bD,hl,hp,H⟩
   ·rw [h1] at hb'; simp at hb'
   ·rcases an9.1 (hp.mem_iff.1 hb') with h | h
    ·subst h
     exact ⟨e,by simp [K.tys],hm,by unfold qQ; rw [hb]⟩
    ·obtain ⟨l,hl1,hl2⟩:=List.mem_flatten.1 h
     obtain ⟨i,hi,rfl⟩:=List.mem_iff_getElem.1 hl1
     obtain ⟨ds,_,h2⟩:=H i (by omega)
     rw [bZ hi] at h2
     obtain ⟨e',g1,g2⟩:=ih h2 b' hl2
     exact ⟨e',by simp [K.tys,g1],g2⟩
  ·rw [H.1] at hb'; simp at hb'
 | unit=>intro x cs fo H b hb; rw [H.1] at hb; simp at hb
 | pair a b iha ihb=>
  intro x cs fo H b' hb'
  obtain ⟨c1,c2,f1,f2,e,hp,h1,h2⟩:=H
  rcases an6.1 (hp.mem_iff.1 hb') with h | h
  ·obtain ⟨e',g1,g2⟩:=iha h1 b' h; exact ⟨e',by simp [K.tys,g1],g2⟩
  ·obtain ⟨e',g1,g2⟩:=ihb h2 b' h; exact ⟨e',by simp [K.tys,g1],g2⟩
 | st f ih=>intro x cs fo H; exact ih (x:=x) H
 | gap n=>intro x cs fo H b hb; rw [H.1] at hb; simp at hb
theorem dD {t:Nat} {own bad:List TypeId}:az t (bF own bad)=true↔az t own=true∧t∉bad:=by
 rw [aM,aM]
 unfold bF
 rw [aoe]
 simp [aV]
theorem BL {own:List TypeId}:∀{k:K} {t:TypeId},t∈k.tys→t∈aU own k∨az t own=true:=by
 intro k
 induction k with
 | sl e k ih=>
  intro t ht
  simp only [K.tys,an9] at ht
  cases hm:az e own with
  | true=>
   rcases ht with ht | ht
   ·subst ht; exact .inr hm
   ·exact (ih ht).imp (fun h=>by simp [aU,hm,h]) id
  | false=>exact .inl (by simpa [aU,hm] using ht)
 | pair a b iha ihb=>
  intro t ht
  simp only [K.tys,an6] at ht
  rcases ht with ht | ht
  ·exact (iha ht).imp (fun h=>by simp [aU,h]) id
  ·exact (ihb ht).imp (fun h=>by simp [aU,h]) id
 | st f ih=>intro t ht; exact ih ht
 | _=>intro t ht; simp [K.tys] at ht
theorem Gu {own:List TypeId}:∀{k:K} {t:TypeId},t∈aU own k→t∈k.tys:=by
 intro k
 induction k with
 | sl e k ih=>
  intro t ht
  cases hm:az e own with
  | true=>simp only [aU,hm,cond_true] at ht; simp [K.tys,ih ht]
  | false=>simpa [aU,hm,K.tys] using ht
 | pair a b iha ihb=>
  intro t ht
  simp only [aU,an6] at ht
  simp only [K.tys,an6]
  exact ht.imp iha ihb
 | st f ih=>intro t ht; exact ih ht
 | _=>intro t ht; simp [aU] at ht
section
variable {cx:Cx} {σ:St} {α:dL} {F:List Nat} {a:Act} {w:World} {F':List Nat} {w':World}
theorem Ey (H:Rel cx σ α F a w) (hos:w'.os=w.os∧w'.tape=w.tape∧w'.output=w.output) (hsize:w.heap.size≤w'.heap.size) (Ke:∀b,b<w.heap.size→hp w' b≠hp w b→b∈F)
  (hnew:∀b∈F',b∈F∨(w.heap.size≤b∧b<w'.heap.size)) (hnd:F'.Nodup):mJ cx σ α F w σ α F' w' (fun _=>[]) (fun _=>[]) where
 slots:=rfl
 os:=hos
 size:=hsize
 old:=fun r R hr=>⟨R,hr,by
  cases hd:R.aX with
  | true=>exact .inl ⟨rfl,by intro hk; simp [Root.aX,hk] at hd⟩
  | false=>exact .inr ⟨rfl,rfl,rfl,aod _,rfl,rfl,fun _=>rfl, .inr ⟨rfl,rfl,lJ ..⟩⟩⟩
 wr:=fun r R' _ h=>absurd (lJ ..) h
 ag3:=fun r R' h1 h2=>by rw [h1] at h2; simp at h2
 Q7:=fun b hb hne=>.inl (Ke b hb hne)
 new:=by
  rintro b (⟨r,R',h1,h2,h3⟩ | h)
  ·exact absurd ⟨R',h1,h2⟩ h3
  ·exact (hnew b h).imp id .inl
 zG:=hnd
 iX:=fun r R' _ h=>absurd (lJ ..) h
 IK:=fun r R r' R' _ _ _ h=>absurd (lJ ..) h
 base:=by
  intro j pi b o n hj hb hne
  obtain ⟨Q,hQ,hk,hl,hs⟩:=H.kI j pi b o n hj hb
  have hbq:b∈blk α Q (ay j):=by simp [blk,dU,hk,hl]
  have hm:=(H.roots _ _ hQ).mine b hbq
  exact absurd (Ke b hm.1 hne) (H.iX _ _ hQ b hbq)
 ev:=fun r R R' h1 h2 _=>by rw [h1] at h2; simp only [anX] at h2; subst h2; exact ⟨rfl,rfl⟩
theorem Rel.mem (H:Rel cx σ α F a w) (T:mJ cx σ α F w σ α F' w' (fun _=>[]) (fun _=>[])):Rel cx σ α F' a w':=
 H.turn T (fun _ _ _ h=>absurd (lJ ..) h) (fun _ _ _ h=>absurd (lJ ..) h) (fun _ _ _ h=>absurd (lJ ..) h)
theorem Rel.alloc (H:Rel cx σ α F a w) (o:Obj):Rel cx σ α (w.heap.size :: F) a (w.alloc o)∧mJ cx σ α F w σ α (w.heap.size :: F) (w.alloc o) (fun _=>[]) (fun _=>[]):=by
 have hs:(w.alloc o).heap.size=w.heap.size+1:=Array.size_push ..
 have T:mJ cx σ α F w σ α (w.heap.size :: F) (w.alloc o) (fun _=>[]) (fun _=>[]):=Ey H ⟨rfl,rfl,rfl⟩ (by omega) (fun b hb hne=>absurd (pI w o hb) hne)
  (fun b hb=>by rcases an9.1 hb with h | h; exact .inr ⟨by omega,by omega⟩; exact .inl h)
  (aou.2 ⟨fun h=>by have:=(H.fl _ h).1; omega,H.zG⟩)
 exact ⟨H.mem T,T⟩
variable {r:Nat} {R:Root}
theorem jW:bT.aX=true:=rfl
theorem mK {R':Root} {tys:List TypeId} {T:List Tag} (h:∀n,(r,n)∉T):bq (au σ r R') tys T=bq σ tys T:=by
 induction T with
 | nil=>rfl
 | cons t T ih=>
  obtain ⟨q,n⟩:=t
  have hq:q≠r:=fun e=>h n (by simp [e])
  have ih':=ih (fun n hn=>h n (by simp [hn]))
  simp only [bq]
  rw [ih',bU σ R' hq]
def jK (α:dL) (r:Nat):dL:=aG α r (α.loc r) (α.hdr r) []
theorem kill (H:Rel cx σ α F a w) (hr:aP σ r R) (hk:R.kind=.anon) (hv:bu σ R) :
  Rel cx (au σ r bT) (jK α r) (α.fo r++F) a w∧mJ cx σ α F w (au σ r bT) (jK α r) (α.fo r++F) w (tF r []) (tF r [])∧
  Held cx (au σ r bT) (jK α r) (α.fo r++F) w R.k R.x R.own R.tags (α.hdr r) (α.fo r)∧bq (au σ r bT) (aU R.own R.k) R.tags=true:=by
 have hb:blk α R r=α.fo r:=by simp [blk,dU,hk]
 have K:=H.roots r R hr
 have hnd:(α.fo r).Nodup:=by rw [←hb]; exact K.nd
 have T1:AR cx σ α F w r R bT [] (α.fo r++F) w [] []:=by
  refine ⟨.inl ⟨rfl,by rw [hk]; simp⟩,⟨fun t ht=>by simp [bT] at ht,fun n hn=>by simp [bT] at hn⟩,⟨rfl,rfl,rfl⟩,aod _,fun b _ h=>absurd rfl h,fun h=>by simp [jW] at h, ?_, ?_,fun h=>by simp [jW] at h,fun _ _ _ _ _ _ _ _ h=>absurd rfl h,fun h=>by simp [jW] at h⟩
  ·intro b hb'
   rcases an6.1 hb' with h | h
   ·exact .inr (.inr ⟨by rw [hb]; exact h, .inl rfl⟩)
   ·exact .inl h
  ·exact an4.2 ⟨hnd,H.zG,fun b h1 c h2 e=>H.iX r R hr b (by rw [hb]; exact h1) (e▸h2)⟩
 have hT:=T1.turn (hdr':=α.hdr r) H hr
 have hnt:=(H.dz r R hr.1).2.2
 have Kg:bq (au σ r bT) (aU R.own R.k) R.tags=true:=by rw [mK hnt]; exact hv.2
 refine ⟨T1.rel H hr (fun h=>by simp [jW] at h) (fun h=>by simp [jW] at h) (fun h=>by simp [jW] at h),hT, ?_,Kg⟩
 refine ⟨fun hc=>?_,fun t ht=>hT.tag ((H.dz r R hr.1).1 t ht),fun b hb=>an2 _ hb,hnd,K.len⟩
 obtain ⟨h1,h2,_⟩:=hT.views H R.tags _ (H.dz r R hr.1).1 hc
 exact bz (fun b hb=>(h2 b hb.1 (.inl hb.2)).2) (fun b hb=>(h2 b hb.1 (.inl hb.2)).1) (fun _ _=>rfl) (sS _ (fun _ h=>h) (K.ow hv))
theorem agY (H:Rel cx σ α F a w) (hr:aP σ r R) (hk:R.kind≠.par) (hv:bu σ R) :
  Rel cx (au σ r bT) (jK α r) (blk α R r++F) a w∧mJ cx σ α F w (au σ r bT) (jK α r) (blk α R r++F) w (tF r []) (tF r [])∧
  Held cx (au σ r bT) (jK α r) (blk α R r++F) w R.k R.x R.own R.tags (α.hdr r) (α.fo r)∧bq (au σ r bT) (aU R.own R.k) R.tags=true:=by
 have K:=H.roots r R hr
 have hnd:(blk α R r).Nodup:=K.nd
 have T1:AR cx σ α F w r R bT [] (blk α R r++F) w [] []:=by
  refine ⟨.inl ⟨rfl,hk⟩,⟨fun t ht=>by simp [bT] at ht,fun n hn=>by simp [bT] at hn⟩,⟨rfl,rfl,rfl⟩,aod _,fun b _ h=>absurd rfl h,fun h=>by simp [jW] at h, ?_, ?_,fun h=>by simp [jW] at h,fun _ _ _ _ _ _ _ _ h=>absurd rfl h,fun h=>by simp [jW] at h⟩
  ·intro b hb'
   rcases an6.1 hb' with h | h
   ·exact .inr (.inr ⟨h, .inl rfl⟩)
   ·exact .inl h
  ·exact an4.2 ⟨hnd,H.zG,fun b h1 c h2 e=>H.iX r R hr b h1 (e▸h2)⟩
 have hT:=T1.turn (hdr':=α.hdr r) H hr
 have hnt:=(H.dz r R hr.1).2.2
 have Kg:bq (au σ r bT) (aU R.own R.k) R.tags=true:=by rw [mK hnt]; exact hv.2
 refine ⟨T1.rel H hr (fun h=>by simp [jW] at h) (fun h=>by simp [jW] at h) (fun h=>by simp [jW] at h),hT, ?_,Kg⟩
 refine ⟨fun hc=>?_,fun t ht=>hT.tag ((H.dz r R hr.1).1 t ht),fun b hb=>an2 _ (anZ _ hb),(an4.1 hnd).2.1,K.len⟩
 obtain ⟨h1,h2,_⟩:=hT.views H R.tags _ (H.dz r R hr.1).1 hc
 exact bz (fun b hb=>(h2 b hb.1 (.inl hb.2)).2) (fun b hb=>(h2 b hb.1 (.inl hb.2)).1) (fun _ _=>rfl) (sS _ (fun _ h=>h) (K.ow hv))
theorem qJ:∀(p:List Stp) {k:K} {x y:El k},(aS p k x).isSome=(aS p k y).isSome:=by
 intro p
 induction p with
 | nil=>intro k x y; rfl
 | cons s p ih=>
  intro k x y
  cases s with
  | fO n=>
   cases k with
   | st c=>
    simp only [aS]
    have key:∀(n:Nat) {c:K} {x y:El c},(∃s t:Dat,aO n c x=some s∧aO n c y=some t∧s.1=t.1)∨(aO n c x=none∧aO n c y=none):=by
     intro n
     induction n with
     | zero=>intro c x y; cases c <;> first | exact .inl ⟨_,_,rfl,rfl,rfl⟩ | exact .inr ⟨rfl,rfl⟩
     | succ n ih=>intro c x y; cases c <;> first | exact ih | exact .inr ⟨rfl,rfl⟩
    rcases key n (c:=c) (x:=x) (y:=y) with ⟨s,t,h1,h2,h3⟩ | ⟨h1,h2⟩
    ·rw [h1,h2]
     obtain ⟨sk,sx⟩:=s
     obtain ⟨tk,ty⟩:=t
     simp only at h3
     subst h3
     exact ih
    ·rw [h1,h2]
   | _=>simp [aS]
  | idx i=>
   cases k with
   | sl e k=>simp only [aS]; exact ih
   | _=>simp [aS]
theorem Eb:∀(n m:Nat) {c:K} {x:El c} {u y:Dat},m≠n→cz n c x u=some y→aO m y.1 y.2=aO m c x:=by
 intro n
 induction n with
 | zero=>
  intro m c x u y hm h
  cases c with
  | pair a b=>
   simp only [cz,anX] at h
   subst h
   cases m with
   | zero=>exact absurd rfl hm
   | succ m=>rfl
  | _=>simp [cz] at h
 | succ n ih=>
  intro m c x u y hm h
  cases c with
  | pair a b=>
   simp only [cz] at h
   cases h4:cz n b x.2 u with
   | none=>rw [h4] at h; simp at h
   | some y2=>
    rw [h4] at h
    simp only [anX] at h
    subst h
    cases m with
    | zero=>rfl
    | succ m=>exact ih m (by omega) h4
  | _=>simp [cz] at h
theorem Ni {bad:List TypeId}:∀(p q:List Stp) {k:K} {x:El k} {t d z:Dat},aS p k x=some d→dX p k x t=some z→
  (∀q',(aS q' t.1 t.2).isSome=true→(∀e∈ah q' t.1,e∉bad)→ah q' d.1=ah q' t.1∧(aS q' d.1 d.2).isSome=true)→(aS q z.1 z.2).isSome=true→(∀e∈ah q z.1,e∉bad)→
   ah q k=ah q z.1∧(aS q k x).isSome=true:=by
 intro p
 induction p with
 | nil=>
  intro q k x t d z hg hz ht hs hb
  simp only [dX,anX] at hz
  simp only [aS,anX] at hg
  subst hz
  subst hg
  exact ht q hs hb
 | cons s p ih=>
  intro q k x t d z hg hz ht hs hb
  cases s with
  | fO n=>
   cases k with
   | st c=>
    simp only [aS,dX] at hg hz
    cases hcg:aO n c x with
    | none=>rw [hcg] at hg; simp at hg
    | some s=>
     rw [hcg] at hg hz
     simp only at hg hz
     cases hs':dX p s.1 s.2 t with
     | none=>rw [hs'] at hz; simp at hz
     | some u=>
      rw [hs'] at hz
      simp only at hz
      cases hcp:cz n c x u with
      | none=>rw [hcp] at hz; simp at hz
      | some y=>
       rw [hcp] at hz
       simp only [anX] at hz
       subst hz
       cases q with
       | nil=>exact ⟨rfl,rfl⟩
       | cons s2 q=>
        cases s2 with
        | idx i=>simp [aS] at hs
        | fO m=>
         by_cases hmn:m=n
         ·subst hmn
          have e1:aO m y.1 y.2=some u:=yz m hcp
          have p1:ah (.fO m :: q) (.st c)=ah q s.1:=by simp [ah,bX m hcg]
          have p2:ah (.fO m :: q) (.st y.1)=ah q u.1:=by simp [ah,bX m e1]
          have hs2:(aS (.fO m :: q) (.st y.1) y.2).isSome=true:=hs
          simp only [aS,e1] at hs2
          have hb2:∀e∈ah (.fO m :: q) (.st y.1),e∉bad:=hb
          rw [p2] at hb2
          obtain ⟨h1,h2⟩:=ih q hg hs' ht hs2 hb2
          refine ⟨?_, ?_⟩
          ·show ah (.fO m :: q) (.st c)=ah (.fO m :: q) (.st y.1)
           rw [p1,p2,h1]
          ·simp only [aS,hcg]
           exact h2
         ·have e1:=Eb n m hmn hcp
          have hs2:(aS (.fO m :: q) (.st y.1) y.2).isSome=true:=hs
          simp only [aS,e1] at hs2
          cases hg2:aO m c x with
          | none=>rw [hg2] at hs2; simp at hs2
          | some s2=>
           refine ⟨?_, ?_⟩
           ·show ah (.fO m :: q) (.st c)=ah (.fO m :: q) (.st y.1)
            simp only [ah,bX m hg2,bX m (e1.trans hg2)]
           ·simp only [aS,hg2]
            rw [hg2] at hs2
            exact hs2
   | _=>simp [aS] at hg
  | idx i=>
   cases k with
   | sl e k=>
    simp only [dX] at hz
    cases hs':dX p k ((show List (El k) from x).getD i.toNat k.zero) t with
    | none=>rw [hs'] at hz; simp at hz
    | some u=>
     rw [hs'] at hz
     simp only at hz
     cases hck:bP u.1 k u.2 with
     | none=>rw [hck] at hz; simp at hz
     | some y=>
      rw [hck] at hz
      simp only [anX] at hz
      subst hz
      exact ⟨rfl,by rw [qJ q (y:=((show List (El k) from x).set i.toNat y))]; exact hs⟩
   | _=>simp [dX] at hz
theorem tu:∀k:K,k.hole.size=k.size:=by
 intro k
 induction k with
 | pair a b iha ihb=>simp [K.hole,K.size,iha,ihb]
 | st f ih=>simp [K.hole,K.size,ih]
 | _=>rfl
theorem ZR {h:Heap} {own:List TypeId} {ok:Nat→Prop}:∀{k:K} {x:El k} {cs:List Value} {fo:List Nat},Ow h own ok k x cs fo→Ow h own ok k.hole (uB k x) cs []:=by
 intro k
 induction k with
 | int ik=>intro x cs fo H; exact ⟨rfl,H.2⟩
 | bool=>intro x cs fo H; exact ⟨rfl,H.2⟩
 | id e=>intro x cs fo H; exact ⟨rfl,H.2⟩
 | str=>intro x cs fo H; exact ⟨rfl,H.2⟩
 | sl e k ih=>intro x cs fo H; exact ⟨rfl,dh H⟩
 | unit=>intro x cs fo H; exact ⟨rfl,H.2⟩
 | pair a b iha ihb=>intro x cs fo H; obtain ⟨c1,c2,f1,f2,e,hp,h1,h2⟩:=H; exact ⟨c1,c2,[],[],e, .refl _,iha h1,ihb h2⟩
 | st f ih=>intro x cs fo H; exact ih (x:=x) H
 | gap n=>intro x cs fo H; exact ⟨rfl,H.2⟩
theorem JF:∀(n:Nat) {c:K} {x:El c},aO n c.hole (uB c x)=(aO n c x).map rU:=by
 intro n
 induction n with
 | zero=>intro c x; cases c <;> rfl
 | succ n ih=>
  intro c x
  cases c with
  | pair a b=>simp only [K.hole,uB,aO]; exact ih
  | _=>rfl
theorem RJ:∀(n:Nat) {c:K},bB n c.hole=(bB n c).map fun q=>(q.1,q.2.hole):=by
 intro n
 induction n with
 | zero=>intro c; cases c <;> rfl
 | succ n ih=>
  intro c
  cases c with
  | pair a b=>
   simp only [K.hole,bB]
   rw [ih (c:=b)]
   cases bB n b with
   | none=>rfl
   | some q=>simp [tu]
  | _=>rfl
theorem Kk {h:Heap}:∀(q:List Stp) {k:K} {x:El k},(aS q k.hole (uB k x)).isSome=true→
  ah q k=[]∧ah q k.hole=[]∧(aS q k x).isSome=true∧nk q k.hole (uB k x)∧∀cs wh,bG h q k.hole cs wh=bG h q k cs wh:=by
 intro q
 induction q with
 | nil=>intro k x _; exact ⟨by simp [ah],by simp [ah],rfl,trivial,fun _ _=>rfl⟩
 | cons s q ih=>
  intro k x hs
  cases s with
  | idx i=>cases k <;> simp [K.hole,aS] at hs
  | fO n=>
   cases k with
   | st c=>
    have e:aO n c.hole (uB c x)=(aO n c x).map rU:=JF n
    have hs':(aS (.fO n :: q) (.st c.hole) (uB c x)).isSome=true:=hs
    simp only [aS,e] at hs'
    cases hg:aO n c x with
    | none=>rw [hg] at hs'; simp at hs'
    | some s=>
     rw [hg] at hs' e
     simp only [Option.map_some,rU] at hs' e
     obtain ⟨h1,h2,h3,h4,h5⟩:=ih (k:=s.1) (x:=s.2) hs'
     refine ⟨by simp [ah,bX n hg,h1], ?_,by simp only [aS,hg]; exact h3, ?_,fun cs wh=>?_⟩
     ·show ah (.fO n :: q) (.st c.hole)=[]
      simp [ah,bX n e,h2]
     ·show nk (.fO n :: q) (.st c.hole) (uB c x)
      simp only [nk,e]
      exact h4
     ·show bG h (.fO n :: q) (.st c.hole) cs wh=_
      simp only [bG]
      rw [RJ n]
      cases ho:bB n c with
      | none=>rfl
      | some w=>
       simp only [Option.map_some]
       have hk:w.2=s.1:=by
        have key:∀(n:Nat) {c:K} {x:El c} {s:Dat} {q:Nat×K},aO n c x=some s→bB n c=some q→q.2=s.1:=by
         intro n
         induction n with
         | zero=>intro c x s q h1 h2; cases c with
          | pair a b=>simp only [aO,bB,anX] at h1 h2; subst h1; subst h2; rfl
          | _=>simp [aO] at h1
         | succ n ih=>intro c x s q h1 h2; cases c with
          | pair a b=>
           simp only [aO,bB] at h1 h2
           cases h3:bB n b with
           | none=>rw [h3] at h2; simp at h2
           | some q3=>rw [h3] at h2; simp only [anX] at h2; subst h2; exact ih (q:=q3) h1 h3
          | _=>simp [aO] at h1
        exact key n (c:=c) hg ho
       obtain ⟨w1,w2⟩:=w
       simp only at hk
       subst hk
       simp only [tu]
       exact h5 _ _
   | _=>simp [K.hole,aS] at hs
theorem VA:∀(q:List Stp) {k:K} {x y:El k},ah q k=[]→(aS q k x).isSome=true→ah q k.hole=[]∧(aS q k.hole (uB k y)).isSome=true:=by
 intro q
 induction q with
 | nil=>intro k x y _ _; exact ⟨by simp [ah],rfl⟩
 | cons s q ih=>
  intro k x y h0 hs
  cases s with
  | idx i=>cases k <;> simp [ah,aS] at h0 hs
  | fO n=>
   cases k with
   | st c=>
    simp only [aS] at hs
    cases hg:aO n c x with
    | none=>rw [hg] at hs; simp at hs
    | some s=>
     rw [hg] at hs
     simp only at hs
     have hp2:ah (.fO n :: q) (.st c)=ah q s.1:=by simp [ah,bX n hg]
     rw [hp2] at h0
     have key:∀(n:Nat) {c:K} {x y:El c} {s:Dat},aO n c x=some s→∃t:Dat,aO n c y=some t∧t.1=s.1:=by
      intro n
      induction n with
      | zero=>intro c x y s h; cases c <;> first | (simp only [aO,anX] at h; subst h; exact ⟨_,rfl,rfl⟩) | simp [aO] at h
      | succ n ih=>intro c x y s h; cases c <;> first | exact ih h | simp [aO] at h
     obtain ⟨t,g1,g2⟩:=key n (c:=c) (y:=y) hg
     obtain ⟨sk,sx⟩:=s
     obtain ⟨tk,ty⟩:=t
     simp only at g2
     subst g2
     obtain ⟨h1,h2⟩:=ih (y:=ty) h0 hs
     have e:aO n c.hole (uB c y)=some (rU ⟨tk,ty⟩):=by rw [JF n,g1]; rfl
     refine ⟨?_, ?_⟩
     ·show ah (.fO n :: q) (.st c.hole)=[]
      simp [ah,bX n e,rU,h1]
     ·show (aS (.fO n :: q) (.st c.hole) (uB c y)).isSome=true
      simp only [aS,e]
      exact h2
   | _=>simp [aS] at hs
theorem Tw {own:List TypeId}:∀k:K,aU own k.hole=[]:=by
 intro k
 induction k with
 | pair a b iha ihb=>simp [K.hole,aU,iha,ihb]
 | st f ih=>exact ih
 | _=>rfl
theorem cells_eq {h:Heap} {b o:Nat} {cs cs':List Value} (h1:Cells h b o cs) (h2:Cells h b o cs') (hl:cs'.length=cs.length):cs'=cs:=by
 apply List.ext_getElem? 
 intro i
 by_cases hi:i<cs.length
 ·rw [←h1 i hi, ←h2 i (by omega)]
 ·rw [List.getElem?_eq_none (by omega),List.getElem?_eq_none (by omega)]
theorem Gp:∀(p:List Stp) {k:K} {x:El k} {t d z:Dat},aS p k x=some d→t.1.size=d.1.size→dX p k x t=some z→z.1.size=k.size:=by
 intro p
 induction p with
 | nil=>
  intro k x t d z hg hs hz
  simp only [aS,dX,anX] at hg hz
  subst hg; subst hz; exact hs
 | cons s p ih=>
  intro k x t d z hg hs hz
  cases s with
  | fO n=>
   cases k with
   | st c=>
    simp only [aS,dX] at hg hz
    cases hcg:aO n c x with
    | none=>rw [hcg] at hg; simp at hg
    | some s=>
     rw [hcg] at hg hz
     simp only at hg hz
     cases hs':dX p s.1 s.2 t with
     | none=>rw [hs'] at hz; simp at hz
     | some u=>
      rw [hs'] at hz
      simp only at hz
      cases hcp:cz n c x u with
      | none=>rw [hcp] at hz; simp at hz
      | some y=>
       rw [hcp] at hz
       simp only [anX] at hz
       subst hz
       have hu:=ih hg hs hs'
       have key:∀(n:Nat) {c:K} {x:El c} {s u y:Dat},aO n c x=some s→cz n c x u=some y→u.1.size=s.1.size→y.1.size=c.size:=by
        intro n
        induction n with
        | zero=>
         intro c x s u y h1 h2 e
         cases c with
         | pair a b=>simp only [aO,cz,anX] at h1 h2; subst h1; subst h2; simp only at e; simp [K.size,e]
         | _=>simp [aO] at h1
        | succ n ih=>
         intro c x s u y h1 h2 e
         cases c with
         | pair a b=>
          simp only [aO,cz] at h1 h2
          cases h3:cz n b x.2 u with
          | none=>rw [h3] at h2; simp at h2
          | some y2=>rw [h3] at h2; simp only [anX] at h2; subst h2; simp [K.size,ih h1 h3 e]
         | _=>simp [aO] at h1
       show y.1.size=c.size
       exact key n (c:=c) hcg hcp hu
   | _=>simp [aS] at hg
  | idx i=>
   cases k with
   | sl e k=>
    simp only [dX] at hz
    cases hs':dX p k ((show List (El k) from x).getD i.toNat k.zero) t with
    | none=>rw [hs'] at hz; simp at hz
    | some u=>
     rw [hs'] at hz
     simp only at hz
     cases hck:bP u.1 k u.2 with
     | none=>rw [hck] at hz; simp at hz
     | some y=>rw [hck] at hz; simp only [anX] at hz; subst hz; rfl
   | _=>simp [aS] at hg
theorem vM {R R':Root} (h:R'.kind=R.kind) (loc:Nat×Nat):wU R' loc=wU R loc:=by unfold wU; rw [h]
theorem oH {R R':Root} (h:R'.kind=R.kind) (loc:Nat×Nat) (fo:List Nat):iE R' loc fo=iE R loc fo:=by unfold iE; rw [h]
theorem Pw (R:Root) (loc:Nat×Nat) (fo:List Nat):iE R loc fo=(match wU R loc with
 | some q=>[q.1]
 | none=>[])++fo:=by unfold iE wU; cases R.kind <;> rfl
theorem fu {R:Root} {loc:Nat×Nat} {fo:List Nat} {b:Nat}:b∈iE R loc fo↔(∃o,wU R loc=some (b,o))∨b∈fo:=by
 rw [Pw]
 cases h:wU R loc with
 | none=>simp
 | some q=>obtain ⟨b0,o0⟩:=q; simp; constructor <;> (intro h; rcases h with h | h <;> simp_all)
theorem ny {R:Root} {loc:Nat×Nat} {fo:List Nat}:(iE R loc fo).Nodup↔(∀b o,wU R loc=some (b,o)→b∉fo)∧fo.Nodup:=by
 rw [Pw]
 cases h:wU R loc with
 | none=>simp
 | some q=>obtain ⟨b0,o0⟩:=q; simp [aou]
theorem VJ {R R':Root} (h:R'.kind=R.kind):R'.aX=R.aX:=by unfold Root.aX; rw [h]
theorem TJ {k k':K} {v:Value} {cs:List Value} (h:uD k'=uD k):VC k' v cs↔VC k v cs:=by
 cases k <;> cases k' <;> first | exact Iff.rfl | simp [uD] at h
theorem Nc {p:List Stp} {k:K} {x:El k} {t z:Dat} (hp:p≠[]) (hz:dX p k x t=some z):uD z.1=uD k:=by
 cases p with
 | nil=>exact absurd rfl hp
 | cons s p=>
  cases s with
  | fO n=>
   cases k with
   | st c=>
    simp only [dX] at hz
    cases hcg:aO n c x with
    | none=>rw [hcg] at hz; simp at hz
    | some s=>
     rw [hcg] at hz
     simp only at hz
     cases hs':dX p s.1 s.2 t with
     | none=>rw [hs'] at hz; simp at hz
     | some u=>
      rw [hs'] at hz
      simp only at hz
      cases hcp:cz n c x u with
      | none=>rw [hcp] at hz; simp at hz
      | some y=>rw [hcp] at hz; simp only [anX] at hz; subst hz; rfl
   | _=>simp [dX] at hz
  | idx i=>
   cases k with
   | sl e k=>
    simp only [dX] at hz
    cases hs':dX p k ((show List (El k) from x).getD i.toNat k.zero) t with
    | none=>rw [hs'] at hz; simp at hz
    | some u=>
     rw [hs'] at hz
     simp only at hz
     cases hck:bP u.1 k u.2 with
     | none=>rw [hck] at hz; simp at hz
     | some y=>rw [hck] at hz; simp only [anX] at hz; subst hz; rfl
   | _=>simp [dX] at hz
theorem Vo (k:K):k.tys≠[]∨tq k++k.tys≠[]:=by
 unfold tq
 cases k.tys with
 | nil=>exact .inr (by simp)
 | cons a l=>exact .inl (by simp)
def dZ (R:Root) (d:Dat) (z:Dat):Root:={ R with k:=z.1,x:=z.2,w:=d.1.tys++R.w,h:=tq d.1++d.1.tys++R.h }
def eH (R:Root) (d:Dat) (z:Dat) (own':List TypeId):Root:={ dZ R d z with own:=own' }
theorem oQ:∀(q:List Stp) {k:K},∀t∈ah q k,t∈k.tys:=by
 intro q
 induction q with
 | nil=>intro k t ht; simp [ah] at ht
 | cons s q ih=>
  intro k t ht
  cases s with
  | fO n=>
   cases k with
   | st c=>
    simp only [ah] at ht
    cases hc:ah.Ia n c with
    | none=>rw [hc] at ht; simp at ht
    | some k'=>
     rw [hc] at ht
     have h1:=ih t ht
     have:∀(n:Nat) {c k':K},ah.Ia n c=some k'→∀t∈k'.tys,t∈c.tys:=by
      intro n
      induction n with
      | zero=>
       intro c k' h t ht
       cases c with
       | pair a b=>simp only [ah.Ia,anX] at h; subst h; simp [K.tys,ht]
       | _=>simp [ah.Ia] at h
      | succ n ih=>
       intro c k' h t ht
       cases c with
       | pair a b=>simp only [ah.Ia] at h; simp [K.tys,ih h t ht]
       | _=>simp [ah.Ia] at h
     exact this n hc t h1
   | _=>simp [ah] at ht
  | idx i=>
   cases k with
   | sl e k=>
    simp only [ah,an9] at ht
    rcases ht with h | h
    ·simp [K.tys,h]
    ·simp [K.tys,ih t h]
   | _=>simp [ah] at ht
theorem afX {own':List TypeId} (H:Rel cx σ α F a w) (hr:aP σ r R) (hv:bu σ R) {p:List Stp} {d z:Dat} (hg:aS p R.k R.x=some d) (hz:dX p R.k R.x (rU d)=some z) (fT:nk p R.k R.x)
  (hown:∀t∈ah p R.k,az t R.own=true) (hpv:p≠[]∨∃t,R.kind=.var t) (hso:∀t∈z.1.tys,az t own'=az t R.own) :
  ∃cs1 nG fP rest,bG (hp w) p R.k (α.hdr r) (dU α R r)=some (cs1,nG)∧
   Rel cx (au σ r (eH R d z own')) (aG α r (α.loc r) (α.hdr r) rest) (fP++F) a w∧
   mJ cx σ α F w (au σ r (eH R d z own')) (aG α r (α.loc r) (α.hdr r) rest) (fP++F) w (tF r d.1.tys) (tF r (tq d.1++d.1.tys))∧
   Held cx (au σ r (eH R d z own')) (aG α r (α.loc r) (α.hdr r) rest) (fP++F) w d.1 d.2 R.own R.tags cs1 fP∧(∀tys,bq (au σ r (eH R d z own')) tys R.tags=bq σ tys R.tags)∧(α.fo r).Perm (fP++rest):=by
 have K:=H.roots r R hr
 have hnd:=K.nd
 rw [bW,ny] at hnd
 have hO:=K.ow hv
 obtain ⟨cs1,fP,rest,nG,hn,hp1,hd1,hc1,hin,hnone,hup⟩:=focus p hO (fun b o e=>(K.mem b o e).1) hg fT hown hnd.2 (fun b o e=>hnd.1 b o e)
 have hnt:=(H.dz r R hr.1).2.2
 have hl1:=dh hd1
 obtain ⟨cs',hl',Kb,hC',hN',hK'⟩:=hup.go (hp w) (iQ cx σ α F w R.tags) (rU d) cs1 [] z hz hl1 (ZR hd1) (fun b hb=>⟨hb,rfl⟩) (fun _ _ _=>rfl)
  (fun b o e=>⟨hc1 b o e,by
   have:∃arr te fr,hp w b=some (.cells arr te fr):=by
    rcases hin b o e with ⟨_,o0,ew,_⟩ | ⟨_,arr,te,lo,hi,h1,_⟩
    ·obtain ⟨_,arr,te,lo,hi,h1,_⟩:=K.mem b o0 ew; exact ⟨arr,te,_,h1⟩
    ·exact ⟨arr,te,_,h1⟩
   obtain ⟨arr,te,fr,h1⟩:=this
   exact gQ.of_same _ _ h1 rfl⟩) (fun _=>rfl) (fun _ _ _ _=>rfl)
 have hcs:cs'=α.hdr r:=by
  cases hw:dU α R r with
  | none=>exact hN' hw
  | some q=>exact cells_eq (K.mem q.1 q.2 hw).1 (hC' q.1 q.2 hw) hl'
 rw [hcs,List.nil_append] at Kb
 replace Kb:=rQ hso Kb
 obtain ⟨_,_,hNK,_⟩:=hK' d.1.tys (tu d.1) (fun q c0 w0 hq _ hn0 hs=>by
  obtain ⟨_,_,_,h3,h4⟩:=Kk (h:=hp w) q (x:=d.2) hs
  exact ⟨h3,c0,by rw [←hn0]; exact h4 cs1 nG⟩)
 rw [hcs] at hNK
 have hkind:(eH R d z own').kind=R.kind:=rfl
 have agi:(eH R d z own').aX=false:=hr.2
 have MJ:∀b,b∈α.fo r↔b∈fP∨b∈rest:=fun b=>by rw [hp1.mem_iff,an6]
 have Em:=hp1.nodup hnd.2
 have hsz:z.1.size=R.k.size:=Gp p (t:=rU d) hg (tu d.1) hz
 have T1:AR cx σ α F w r R (eH R d z own') rest (fP++F) w d.1.tys (tq d.1++d.1.tys):=by
  refine ⟨.inr ⟨rfl,rfl,aod _,rfl,fun _=>hsz,Vo d.1⟩,⟨(H.dz r R hr.1).1,hnt⟩,⟨rfl,rfl,rfl⟩,aod _,fun b _ h=>absurd rfl h, ?_, ?_, ?_, ?_,fun _ _ _ _ _ _ _ _ h=>absurd rfl h,fun _=>⟨rfl,rfl⟩⟩
  ·intro _ b hb
   rw [oH hkind,fu] at hb
   refine .inl ?_
   rw [bW,fu,MJ]
   exact hb.imp id .inr
  ·intro b hb
   rcases an6.1 hb with h | h
   ·refine .inr (.inr ⟨by rw [bW,fu,MJ]; exact .inr (.inl h), .inr (.inl ?_)⟩)
    obtain ⟨e,h1,_,h2⟩:=uu hd1 b h
    exact ⟨e,h1,h2⟩
   ·exact .inl h
  ·refine an4.2 ⟨(an4.1 Em).1,H.zG,fun b h1 c h2 e=>H.iX r R hr b ?_ (e▸h2)⟩
   rw [bW,fu,MJ]
   exact .inr (.inl h1)
  ·intro _ b hb hF
   rw [oH hkind,fu] at hb
   rcases an6.1 hF with h | h
   ·rcases hb with ⟨o,hb⟩ | hb
    ·exact hnd.1 b o hb ((MJ b).2 (.inl h))
    ·exact (an4.1 Em).2.2 b h b hb rfl
   ·refine H.iX r R hr b ?_ h
    rw [bW,fu,MJ]
    exact hb.imp id .inr
 have hT:=T1.turn (hdr':=α.hdr r) H hr
 have Kg:∀tys,bq (au σ r (eH R d z own')) tys R.tags=bq σ tys R.tags:=fun tys=>mK hnt
 refine ⟨cs1,nG,fP,rest,hn,T1.rel H hr ?_ ?_ ?_,hT, ?_,Kg,hp1⟩
 ·intro _
  refine ⟨fun hv'=>?_,by rw [K.len]; exact hsz.symm, ?_, ?_⟩
  ·obtain ⟨h1,h2,_⟩:=hT.views H R.tags _ (H.dz r R hr.1).1 hv'.2
   exact bz (fun b hb=>(h2 b hb.1 (.inl hb.2)).2) (fun b hb=>(h2 b hb.1 (.inl hb.2)).1) (fun _ _=>rfl) (sS _ (fun _ h=>h) Kb)
  ·intro b o hb
   have:(eH R d z own').k.size=R.k.size:=hsz
   rw [this]
   exact K.mem b o hb
  ·rw [oH hkind,ny]
   exact ⟨fun b o e hb=>hnd.1 b o e ((MJ b).2 (.inr hb)),(an4.1 Em).2.1⟩
 ·intro _ q n v hn' hold
  refine ⟨hold.1, ?_⟩
  intro Q hQ hvQ hcl hty hsome
  have hQ':Q=eH R d z own':=by
   rw [aI] at hQ
   simpa using hQ.symm
  subst hQ'
  have Yh:dU (aG α r (α.loc r) (α.hdr r) rest) (eH R d z own') r=dU α R r:=by rw [jN,vM hkind, ←uK]
  have Sr:(aG α r (α.loc r) (α.hdr r) rest).hdr r=α.hdr r:=by simp [aG,upd_same]
  have hh:(eH R d z own').h=(tq d.1++d.1.tys)++R.h:=rfl
  rw [hh,pF hn'] at hcl
  by_cases hq:q=[]
  case neg=>
   have hpt:∀k,dY q k=qz :: ah q k:=by
    intro k
    cases q with
    | nil=>exact absurd rfl hq
    | cons s q=>rfl
   rw [hpt] at hcl
   obtain ⟨k1,k2⟩:=Ni (bad:=d.1.tys) p q hg hz (fun q' h _=>let ⟨h1,h2,h3,_⟩:=Kk (h:=hp w) q' (x:=d.2) h; ⟨h1.trans h2.symm,h3⟩) hsome (fun e he hm=>hcl.1 e (anZ _ hm) (aol _ he))
   have k1':ah q R.k=ah q (eH R d z own').k:=k1
   have hty':∀t∈ah q R.k,az t R.own=true:=fun t ht=>by
    have ht':t∈ah q z.1:=k1▸ht
    rw [←hso t (oQ q t ht')]
    exact hty t ht'
   rw [←k1'] at hcl
   obtain ⟨g1,cs,b,o,g2,g3⟩:=hold.2 R hr.1 hv (by rw [hpt]; exact hcl.2) hty' k2
   obtain ⟨f1,c1,f2⟩:=hNK q cs (some (b,o)) g1 (fun t ht=>⟨hty' t ht,fun hm=>hcl.1 t (anZ _ hm) (aol _ ht)⟩) g2 hsome
   rw [Yh,Sr]
   exact ⟨f1,c1,b,o,f2,g3⟩
  subst hq
  obtain ⟨_,cs,b,o,h1,h2⟩:=hold.2 R hr.1 hv (by simp [clean,dY,az]) (fun t ht=>by simp [ah] at ht) rfl
  simp only [bG,anX,an8] at h1
  refine ⟨trivial,(aG α r (α.loc r) (α.hdr r) rest).hdr r,b,o, ?_,h2⟩
  simp only [bG]
  rw [jN,vM hkind, ←uK,h1.2]
 ·intro _ g v hg' hold Q hQ hgQ
  obtain ⟨hQ',_⟩:=eU hQ
  subst hQ'
  obtain ⟨h1,h2⟩:=hold R hr hgQ
  refine ⟨h1, ?_⟩
  have:(aG α r (α.loc r) (α.hdr r) rest).hdr r=α.hdr r:=by simp [aG,upd_same]
  rw [this]
  rcases hpv with hp | ⟨t,ht⟩
  ·
   cases p with
   | nil=>exact absurd rfl hp
   | cons s p=>
    exact (TJ (Nc (by simp) hz)).2 h2
  ·rw [ht] at h1; simp at h1
 ·refine ⟨fun hc=>?_,fun t ht=>hT.tag ((H.dz r R hr.1).1 t ht),fun b hb=>an2 _ hb,(an4.1 Em).1,hl1⟩
  obtain ⟨h1,h2,_⟩:=hT.views H R.tags _ (H.dz r R hr.1).1 hc
  exact bz (fun b hb=>(h2 b hb.1 (.inl hb.2)).2) (fun b hb=>(h2 b hb.1 (.inl hb.2)).1) (fun _ _=>rfl) (sS _ (fun _ h=>h) hd1)
theorem gap (H:Rel cx σ α F a w) (hr:aP σ r R) (hv:bu σ R) {p:List Stp} {d z:Dat} (hg:aS p R.k R.x=some d) (hz:dX p R.k R.x (rU d)=some z) (fT:nk p R.k R.x)
  (hown:∀t∈ah p R.k,az t R.own=true) (hpv:p≠[]∨∃t,R.kind=.var t) :
  ∃cs1 nG fP rest,bG (hp w) p R.k (α.hdr r) (dU α R r)=some (cs1,nG)∧
   Rel cx (au σ r (dZ R d z)) (aG α r (α.loc r) (α.hdr r) rest) (fP++F) a w∧
   mJ cx σ α F w (au σ r (dZ R d z)) (aG α r (α.loc r) (α.hdr r) rest) (fP++F) w (tF r d.1.tys) (tF r (tq d.1++d.1.tys))∧
   Held cx (au σ r (dZ R d z)) (aG α r (α.loc r) (α.hdr r) rest) (fP++F) w d.1 d.2 R.own R.tags cs1 fP∧(∀tys,bq (au σ r (dZ R d z)) tys R.tags=bq σ tys R.tags)∧(α.fo r).Perm (fP++rest):=
 afX (own':=R.own) H hr hv hg hz fT hown hpv (fun _ _=>rfl)
end
end
section
open Go
variable [Fr]
theorem Tv {own own':List TypeId}:∀{k:K},(∀t∈k.tys,az t own'=true→az t own=true)→∀t∈aU own k,t∈aU own' k:=by
 intro k
 induction k with
 | sl e k ih=>
  intro h t ht
  cases hm':az e own' with
  | true=>
   have hm:=h e (by simp [K.tys]) hm'
   simp only [aU,hm,cond_true] at ht
   simp only [aU,hm',cond_true]
   exact ih (fun t ht=>h t (by simp [K.tys,ht])) t ht
  | false=>
   have:=Gu ht
   simpa [aU,hm',K.tys] using this
 | pair a b iha ihb=>
  intro h t ht
  simp only [aU,an6] at ht ⊢
  exact ht.imp (iha (fun t ht=>h t (by simp [K.tys,ht])) t) (ihb (fun t ht=>h t (by simp [K.tys,ht])) t)
 | st f ih=>intro h t ht; exact ih h t ht
 | _=>intro _ t ht; simp [aU] at ht
theorem RN {own:List TypeId}:∀(n:Nat) {c:K} {x:El c} {s u y:Dat},aO n c x=some s→cz n c x u=some y→
  (∀e∈aU own u.1,e∈aU own y.1)∧((∀e∈aU own s.1,e∈aU own u.1)→∀e∈aU own c,e∈aU own y.1):=by
 intro n
 induction n with
 | zero=>
  intro c x s u y hg hp
  cases c with
  | pair a b=>
   simp only [aO,cz,anX] at hg hp
   subst hg; subst hp
   refine ⟨fun e he=>by simp [aU,he],fun h e he=>?_⟩
   simp only [aU,an6] at he ⊢
   exact he.imp (h e) id
  | _=>simp [aO] at hg
 | succ n ih=>
  intro c x s u y hg hp
  cases c with
  | pair a b=>
   simp only [aO,cz] at hg hp
   cases h3:cz n b x.2 u with
   | none=>rw [h3] at hp; simp at hp
   | some y2=>
    rw [h3] at hp
    simp only [anX] at hp
    subst hp
    obtain ⟨g1,g2⟩:=ih hg h3
    refine ⟨fun e he=>by simp [aU,g1 e he],fun h e he=>?_⟩
    simp only [aU,an6] at he ⊢
    exact he.imp id (g2 h e)
  | _=>simp [aO] at hg
theorem Nn {own:List TypeId}:∀(p:List Stp) {k:K} {x:El k} {d t z:Dat},aS p k x=some d→dX p k x t=some z→
  (∀e∈aU own t.1,e∈aU own z.1∨∃q∈ah p k,az q own=false)∧((∀e∈aU own d.1,e∈aU own t.1)→∀e∈aU own k,e∈aU own z.1):=by
 intro p
 induction p with
 | nil=>
  intro k x d t z hg hz
  simp only [aS,dX,anX] at hg hz
  subst hg; subst hz
  exact ⟨fun e he=>.inl he,fun h=>h⟩
 | cons s p ih=>
  intro k x d t z hg hz
  cases s with
  | fO n=>
   cases k with
   | st c=>
    simp only [aS,dX] at hg hz
    cases hcg:aO n c x with
    | none=>rw [hcg] at hg; simp at hg
    | some s=>
     rw [hcg] at hg hz
     simp only at hg hz
     cases hs':dX p s.1 s.2 t with
     | none=>rw [hs'] at hz; simp at hz
     | some u=>
      rw [hs'] at hz
      simp only at hz
      cases hcp:cz n c x u with
      | none=>rw [hcp] at hz; simp at hz
      | some y=>
       rw [hcp] at hz
       simp only [anX] at hz
       subst hz
       obtain ⟨g1,g2⟩:=ih hg hs'
       obtain ⟨f1,f2⟩:=RN (own:=own) n hcg hcp
       have hpt:ah (.fO n :: p) (.st c)=ah p s.1:=by simp [ah,bX n hcg]
       rw [hpt]
       exact ⟨fun e he=>(g1 e he).imp (f1 e) id,fun h=>f2 (g2 h)⟩
   | _=>simp [aS] at hg
  | idx i=>
   cases k with
   | sl e k=>
    simp only [aS,dX] at hg hz
    cases hs':dX p k ((show List (El k) from x).getD i.toNat k.zero) t with
    | none=>rw [hs'] at hz; simp at hz
    | some u=>
     rw [hs'] at hz
     simp only at hz
     cases hck:bP u.1 k u.2 with
     | none=>rw [hck] at hz; simp at hz
     | some y=>
      rw [hck] at hz
      simp only [anX] at hz
      subst hz
      obtain ⟨g1,g2⟩:=ih hg hs'
      have huk:u.1=k:=by
       unfold bP at hck
       split at hck
       ·rename_i hb; exact K.eq_of_beq hb
       ·simp at hck
      refine ⟨fun e' he=>?_,fun _ e' he=>he⟩
      cases hm:az e own with
      | false=>exact .inr ⟨e,by simp [ah],hm⟩
      | true=>
       rcases g1 e' he with h | ⟨q,h1,h2⟩
       ·exact .inl (by simp only [aU,hm,cond_true]; rw [←huk]; exact h)
       ·exact .inr ⟨q,by simp [ah,h1],h2⟩
   | _=>simp [aS] at hg
theorem PD:∀(n:Nat) {c:K} {x y:El c} {s:Dat},aO n c x=some s→∃t:Dat,aO n c y=some t∧t.1=s.1:=by
 intro n
 induction n with
 | zero=>
  intro c x y s h
  cases c <;> first | (simp only [aO,anX] at h; subst h; exact ⟨_,rfl,rfl⟩) | simp [aO] at h
 | succ n ih=>
  intro c x y s h
  cases c <;> first | exact ih h | simp [aO] at h
theorem U5:∀(n:Nat) {c:K} {x:El c} {s:Dat},aO n c x=some s→∀t∈s.1.tys,t∈c.tys:=by
 intro n
 induction n with
 | zero=>
  intro c x s h t ht
  cases c with
  | pair a b=>simp only [aO,anX] at h; subst h; simp [K.tys,ht]
  | _=>simp [aO] at h
 | succ n ih=>
  intro c x s h t ht
  cases c with
  | pair a b=>simp only [aO] at h; simp [K.tys,ih h t ht]
  | _=>simp [aO] at h
theorem vD {h h':Heap} {own:List TypeId}:∀(q:List Stp) {k:K} {x y:El k} {cs cs':List Value} {wh:Option (Nat×Nat)} {c0:List Value} {w0:Option (Nat×Nat)},
  nk q k x→(∀t∈ah q k,az t own=true∧t∉k.tys)→bG h q k cs wh=some (c0,w0)→nk q k y∧∃c1,bG h' q k cs' wh=some (c1,w0):=by
 intro q
 induction q with
 | nil=>
  intro k x y cs cs' wh c0 w0 _ _ hn
  simp only [bG,anX,an8] at hn ⊢
  exact ⟨trivial,_,rfl,hn.2⟩
 | cons s q ih=>
  intro k x y cs cs' wh c0 w0 hp ht hn
  cases s with
  | fO n=>
   cases k with
   | st c=>
    simp only [nk] at hp
    cases hg:aO n c x with
    | none=>rw [hg] at hp; exact hp.elim
    | some s=>
     rw [hg] at hp
     simp only at hp
     have hpt:ah (.fO n :: q) (.st c)=ah q s.1:=by simp [ah,bX n hg]
     rw [hpt] at ht
     obtain ⟨t,g1,g2⟩:=PD n (c:=c) (x:=x) (y:=y) hg
     obtain ⟨sk,sx⟩:=s
     obtain ⟨tk,ty⟩:=t
     simp only at g2
     subst g2
     simp only [bG] at hn ⊢
     cases ho:bB n c with
     | none=>rw [ho] at hn; simp at hn
     | some q2=>
      rw [ho] at hn
      simp only at hn
      have hk2:q2.2=tk:=by
       have key:∀(n:Nat) {c:K} {x:El c} {s:Dat} {q:Nat×K},aO n c x=some s→bB n c=some q→q.2=s.1:=by
        intro n
        induction n with
        | zero=>intro c x s q h1 h2; cases c with
         | pair a b=>simp only [aO,bB,anX] at h1 h2; subst h1; subst h2; rfl
         | _=>simp [aO] at h1
        | succ n ih=>intro c x s q h1 h2; cases c with
         | pair a b=>
          simp only [aO,bB] at h1 h2
          cases h3:bB n b with
          | none=>rw [h3] at h2; simp at h2
          | some q3=>rw [h3] at h2; simp only [anX] at h2; subst h2; exact ih (q:=q3) h1 h3
         | _=>simp [aO] at h1
       exact key n hg ho
      obtain ⟨o2,k2⟩:=q2
      simp only at hk2
      subst hk2
      simp only [nk,g1]
      exact ih hp (fun t h=>⟨(ht t h).1,fun h2=>(ht t h).2 (U5 n hg t h2)⟩) hn
   | _=>simp [nk] at hp
  | idx i=>
   cases k with
   | sl e k=>exact absurd (by simp [K.tys]) (ht e (by simp [ah])).2
   | _=>simp [nk] at hp
theorem Fg {h:Heap} {b o n:Nat} {arr:Array Value} {e:TypeId} {fr:Nat×Nat} (hb:h b=some (.cells arr e fr)) (hl:o+n≤arr.size):Cells h b o (qg h b o n):=by
 intro i hi
 simp only [qg,List.length_map,List.length_range] at hi ⊢
 rw [List.getElem?_map,List.getElem?_range hi]
 simp only [Option.map_some]
 unfold cellAt
 rw [hb]
 simp [show o+i<arr.size by omega]
theorem gQ.widen {h0 h h':Heap} {b o n o' n':Nat} (H0:gQ h0 h b o n) (H:gQ h h' b o' n') (h1:o≤o') (h2:o'+n'≤o+n):gQ h0 h' b o n:=by
 obtain ⟨a0,a1,e,fr,g1,g2,g3,g4⟩:=H0
 obtain ⟨b0,b1,e',fr',f1,f2,f3,f4⟩:=H
 rw [g2] at f1
 simp only [anX,Obj.cells.injEq] at f1
 obtain ⟨rfl,rfl,rfl⟩:=f1
 exact ⟨a0,b1,e,fr,g1,f2,f3.trans g3,fun i hi=>(f4 i (by omega)).trans (g4 i hi)⟩
theorem cZ {l m:List Tag} {t:Tag}:t∈iO l m↔t∈l∨t∈m:=by
 induction l with
 | nil=>simp [iO]
 | cons s l ih=>
  obtain ⟨r,n⟩:=s
  simp only [iO]
  cases h:m.any fun t=>Nat.beq t.1 r && Nat.beq t.2 n with
  | true=>
   simp only [cond_true,ih,an9]
   constructor
   ·intro h; exact h.imp .inr id
   ·rintro ((h1 | h1) | h1)
    ·subst h1
     obtain ⟨t,h2,h3⟩:=List.any_eq_true.1 h
     simp only [an3] at h3
     obtain ⟨tr,tn⟩:=t
     have:=an1 h3.1
     have:=an1 h3.2
     simp_all
    ·exact .inl h1
    ·exact .inr h1
  | false=>simp only [cond_false,ih,an9,or_assoc]
theorem pK {r:Nat} {l:List Tag} {t:Tag}:t∈xq r l↔t∈l∧t.1≠r:=by
 unfold xq
 rw [aoe]
 constructor
 ·rintro ⟨h1,h2⟩
  refine ⟨h1,fun e=>?_⟩
  rw [e] at h2
  simp at h2
 ·rintro ⟨h1,h2⟩
  refine ⟨h1, ?_⟩
  cases hb:Nat.beq t.1 r with
  | true=>exact absurd (an1 hb) h2
  | false=>rfl
section
variable {cx:Cx} {σ:St} {α:dL} {F:List Nat} {a:Act} {w:World} {r:Nat} {R:Root}
theorem wD {T T':List Tag} {b:Nat} (h:iQ cx σ α F w T b) (hs:∀t∈T,t∈T'):iQ cx σ α F w T' b:=
 ⟨h.1,h.2.1,h.2.2.1,fun r R h1 h2=>by obtain ⟨n,hn⟩:=h.2.2.2.1 r R h1 h2; exact ⟨n,hs _ hn⟩,fun hb=>(h.2.2.2.2 hb).imp (fun ⟨j,n,h1,h2⟩=>⟨j,n,hs _ h1,h2⟩) id⟩
theorem qB {T T':List Tag} {tys ahh:List TypeId} (h:bq σ tys T=true) (hs:∀t∈T',t∈T) (ht:∀t∈ahh,t∈tys):bq σ ahh T'=true:=by
 rw [oI] at h ⊢
 intro t h1
 rcases h t (hs t h1) with h | ⟨R,h2,h3,h4⟩
 ·exact .inl h
 ·refine .inr ⟨R,h2,h3, ?_⟩
  unfold clean at h4 ⊢
  rw [aoc] at h4 ⊢
  intro x hx
  have:=h4 x hx
  simp only [Bool.not_eq_true',aV] at this ⊢
  exact fun h=>this (ht x h)
theorem oJ (H:Rel cx σ α F a w) (hr:aP σ r R) {b:Nat} (hb:b∈α.fo r):¬lU cx b:=by
 rintro ⟨j,pi,o,n,h1,h2⟩
 obtain ⟨Q,hQ,hk,hl,_⟩:=H.kI j pi b o n h1 h2
 have hbq:b∈blk α Q (ay j):=by simp [blk,dU,hk,hl]
 have hbr:b∈blk α R r:=anZ _ hb
 by_cases e:r=ay j
 ·subst e
  have hQR:Q=R:=by have:=hQ.1; rw [hr.1] at this; simpa using this.symm
  subst hQR
  have hnd:=(H.roots _ _ hr).nd
  rw [bW,ny] at hnd
  exact hnd.1 b o (by simp [wU,hk,hl]) hb
 ·exact H.IK _ _ _ _ hr hQ e b hbr hbq
theorem sO (H:Rel cx σ α F a w) {b:Nat} (hb:b∈F):¬lU cx b:=by
 rintro ⟨j,pi,o,n,h1,h2⟩
 obtain ⟨Q,hQ,hk,hl,_⟩:=H.kI j pi b o n h1 h2
 have hbq:b∈blk α Q (ay j):=by simp [blk,dU,hk,hl]
 exact H.iX _ _ hQ b hbq hb
def bH (R:Root) (z:Dat) (own:List TypeId) (tags:List Tag) (lw lh:List TypeId) (kp:Bool):Root:=
 { R with k:=z.1,x:=z.2,own:=own,tags:=tags,w:=lw++R.w,h:=lh++R.h,keep:=kp }
theorem qd (H:Rel cx σ α F a w) (hr:aP σ r R) (hv:bu σ R) {p:List Stp} {d:Dat} (hg:aS p R.k R.x=some d) (fT:nk p R.k R.x) (hown:∀t∈ah p R.k,az t R.own=true)
  {cs1:List Value} {b o:Nat} (hn:bG (hp w) p R.k (α.hdr r) (dU α R r)=some (cs1,some (b,o))) :
  Cells (hp w) b o cs1∧(∃fP,Ow (hp w) R.own (iQ cx σ α F w R.tags) d.1 d.2 cs1 fP∧∀b∈fP,b∈α.fo r)∧b∈blk α R r∧(∃arr e lo hi,hp w b=some (.cells arr e (lo,hi))∧(∀i,i<arr.size→¬(lo≤i∧i<hi))∧o+d.1.size≤arr.size∧((eT R p=e∧¬lU cx b)∨(lU cx b∧eT R p=SENT)))∧
   (∀b' o',dU α R r=some (b',o')→b=b'→o'≤o∧o+d.1.size≤o'+R.k.size):=by
 have K:=H.roots r R hr
 have hnd:=K.nd
 rw [bW,ny] at hnd
 obtain ⟨pU,fP,rest,nG,hn',hp1,hd1,hc1,hin,hnone,hup⟩:=focus p (K.ow hv) (fun b o e=>(K.mem b o e).1) hg fT hown hnd.2 (fun b o e=>hnd.1 b o e)
 rw [hn] at hn'
 simp only [anX,an8] at hn'
 obtain ⟨rfl,rfl⟩:=hn'
 refine ⟨hc1 b o rfl,⟨fP,hd1,fun b hb=>hp1.mem_iff.2 (an2 _ hb)⟩, ?_, ?_, ?_⟩
 ·rw [bW,fu]
  rcases hin b o rfl with ⟨_,o0,ew,_⟩ | ⟨h1,_⟩
  ·exact .inl ⟨o0,ew⟩
  ·exact .inr (hp1.mem_iff.2 (anZ _ h1))
 ·rcases hin b o rfl with ⟨h0,o0,ew,h1,h2⟩ | ⟨h1,arr,e,lo,hi,h2,h3,h4,h5⟩
  ·obtain ⟨_,arr,e,lo,hi,g1,g2,g3,g4⟩:=K.mem b o0 ew
   refine ⟨arr,e,lo,hi,g1,g2,by omega, ?_⟩
   unfold eT
   rw [h0]
   simp only [List.getLastD_nil]
   unfold Root.bt
   cases hk:R.kind with
   | var t=>
    refine .inl ⟨(g4 t hk).symm, ?_⟩
    rintro ⟨j,pi,o',n',h1',h2'⟩
    obtain ⟨Q,hQ,hkQ,hlQ,_⟩:=H.kI j pi b o' n' h1' h2'
    have hbq:b∈blk α Q (ay j):=by simp [blk,dU,hkQ,hlQ]
    have hbr:b∈blk α R r:=by rw [bW,fu]; exact .inl ⟨o0,ew⟩
    by_cases e:r=ay j
    ·subst e
     have hQR:Q=R:=by have:=hQ.1; rw [hr.1] at this; simpa using this.symm
     subst hQR
     rw [hk] at hkQ
     simp at hkQ
    ·exact H.IK _ _ _ _ hr hQ e b hbr hbq
   | par=>
    obtain ⟨j,pi,n,hj1,hj2,hj3⟩:=H.EE r R hr hk
    have:(α.loc r).1=b:=by
     have:=ew
     unfold dU at this
     rw [hk] at this
     simp only [anX] at this
     rw [this]
    exact .inr ⟨⟨j,pi,_,n,hj2,by rw [hj3,this]⟩,rfl⟩
   | anon=>unfold dU at ew; rw [hk] at ew; simp at ew
   | dead=>unfold dU at ew; rw [hk] at ew; simp at ew
  ·refine ⟨arr,e,lo,hi,h2,h3,h5, .inl ⟨?_,oJ H hr (hp1.mem_iff.2 (anZ _ h1))⟩⟩
   unfold eT
   rw [List.getLastD_eq_getLast?,h4]
   rfl
 ·intro b' o' ew e
  subst e
  rcases hin b o rfl with ⟨_,o0,ew',h1,h2⟩ | ⟨h1,_⟩
  ·rw [ew] at ew'
   simp only [anX,an8,true_and] at ew'
   subst ew'
   exact ⟨h1,h2⟩
  ·exact absurd (hp1.mem_iff.2 (anZ _ h1)) (hnd.1 b o' ew)
end
end
section
open Go
variable [Fr]
section
variable {cx:Cx} {σ:St} {α:dL} {F:List Nat} {a:Act} {w:World} {r:Nat} {R:Root}
structure sU (cx:Cx) (σ:St) (α:dL) (F:List Nat) (w:World) (r:Nat) (R:Root) (p:List Stp) (d:Dat) (own':List TypeId) (cs1:List Value) (nG:Option (Nat×Nat)) (fP rest:List Nat)
  (t z:Dat) (tags':List Tag) (lw lh:List TypeId) (kp:Bool) (ft F':List Nat) (cs':List Value) (w':World):Prop where
 hz:dX p R.k R.x t=some z
 ht:t.1.size=d.1.size
 VE:∀e∈aU own' d.1,e∈aU own' t.1
 os:w'.os=w.os∧w'.tape=w.tape∧w'.output=w.output
 size:w.heap.size≤w'.heap.size
 Q7:∀b,b<w.heap.size→hp w' b≠hp w b→b∈F∨(b∈fP∧∃e∈lw,qQ (hp w) b=some e)∨(∃o,nG=some (b,o)∧eT R p∈lw)
 cells:∀b o,nG=some (b,o)→Cells (hp w') b o cs'∧gQ (hp w) (hp w') b o d.1.size
 none:nG=none→cs'=cs1
 len:cs'.length=d.1.size
 log:lw≠[]∨lh≠[]
 tags:(∀t∈R.tags,t∈tags')∧eZ σ tags'∧∀n,(r,n)∉tags'
 Uk:∀b∈ft,b∈fP∨b∈F∨(w.heap.size≤b∧b<w'.heap.size)
 aj8:ft.Nodup
 newF:∀b∈F',b∈F∨(w.heap.size≤b∧b<w'.heap.size)∨(b∈fP∧∃e∈lw,qQ (hp w) b=some e)
 ahA:F'.Nodup
 aj7:∀b∈ft,b∉F'
 ali:uD t.1=uD d.1∨nG≠Option.none
 aka:t.1=d.1∨(∀q',(aS q' t.1 t.2).isSome=true→(∀e∈ah q' t.1,e∉lh)→ah q' d.1=ah q' t.1∧(aS q' d.1 d.2).isSome=true)∨qz∈lh
 nav:qz∉lh→IG (hp w) (hp w') own' d.1 d.2 cs1 nG t cs' lh
 cont:∀α',mJ cx σ α F w (au σ r (bH R z own' tags' lw lh kp)) α' F' w' (tF r lw) (tF r lh)→(∀b∈blk α' (bH R z own' tags' lw lh kp) r,(∃o,dU α R r=some (b,o))∨b∈ft∨b∈rest)→
  bu (au σ r (bH R z own' tags' lw lh kp)) (bH R z own' tags' lw lh kp)→Ow (hp w') own' (iQ cx (au σ r (bH R z own' tags' lw lh kp)) α' F' w' tags') t.1 t.2 cs' ft
theorem Rel.place (H:Rel cx σ α F a w) (hr:aP σ r R) (hv:bu σ R) {p:List Stp} {d:Dat} {own':List TypeId} (hg:aS p R.k R.x=some d) (fT:nk p R.k R.x)
  (hsub:∀t,az t own'=true→az t R.own=true) (hown:∀t∈ah p R.k,az t own'=true) :
  ∃fd ok' fP rest cs1 nG,bG (hp w) p R.k (α.hdr r) (dU α R r)=some (cs1,nG)∧(α.fo r).Perm (fP++rest++fd)∧Ow (hp w) own' ok' d.1 d.2 cs1 fP∧(∀b∈fP++rest,∃e∈R.k.tys,az e own'=true∧qQ (hp w) b=some e)∧
   ((∀t∈R.k.tys,az t own'=az t R.own)→fd=[]∧Ow (hp w) own' (iQ cx σ α F w R.tags) d.1 d.2 cs1 fP)∧
   (∀b o,nG=some (b,o)→b∈rest∨∃o0,dU α R r=some (b,o0)∧o0≤o∧o+d.1.size≤o0+R.k.size)∧(∀b o,nG=some (b,o)→b∉fP)∧
   ∀{t z:Dat} {tags':List Tag} {lw lh:List TypeId} {kp:Bool} {ft F':List Nat} {cs':List Value} {w':World},sU cx σ α F w r R p d own' cs1 nG fP rest t z tags' lw lh kp ft F' cs' w'→
    ∃α',Rel cx (au σ r (bH R z own' tags' lw lh kp)) α' F' a w'∧mJ cx σ α F w (au σ r (bH R z own' tags' lw lh kp)) α' F' w' (tF r lw) (tF r lh)∧(∀b∈blk α' (bH R z own' tags' lw lh kp) r,(∃o,dU α R r=some (b,o))∨b∈ft∨b∈rest)∧
     (qz∉lh→bu (au σ r (bH R z own' tags' lw lh kp)) (bH R z own' tags' lw lh kp)→bG (hp w') p z.1 (α'.hdr r) (dU α' (bH R z own' tags' lw lh kp) r)=some (cs',nG))∧∀b∈ft,b∈α'.fo r:=by
 have K:=H.roots r R hr
 have hnd:=K.nd
 rw [bW,ny] at hnd
 have hO:=K.ow hv
 obtain ⟨MH,fd,hpK,hOK,hfd0⟩:∃MH fd,(α.fo r).Perm (MH++fd)∧Ow (hp w) own' (fun b=>(iQ cx σ α F w R.tags b∨b∈fd)∧∃t∈aU own' R.k,vU (hp w) b t) R.k R.x (α.hdr r) MH∧((∀t∈R.k.tys,az t own'=az t R.own)→fd=[]):=by
  by_cases hall:∀t∈R.k.tys,az t own'=az t R.own
  ·exact ⟨α.fo r,[],by simp,sS _ (fun _ h=>h) (bz (fun _ _=>rfl) (fun _ h=>.inl h) (fun _ _=>rfl) (rQ hall hO)),fun _=>rfl⟩
  ·obtain ⟨MH,fd,h1,h2⟩:=vk (own':=own') (fun t _ h=>hsub t h) hO
   exact ⟨MH,fd,h1,sS _ (fun _ h=>h) h2,fun h=>absurd h hall⟩
 have adh:=hpK.nodup hnd.2
 have akD:∀b,b∈α.fo r↔b∈MH∨b∈fd:=fun b=>by rw [hpK.mem_iff,an6]
 obtain ⟨cs1,fP,rest,nG,hn,hp1,hd1,hc1,hin,hnone,hup⟩:=focus p hOK (fun b o e=>(K.mem b o e).1) hg fT hown (an4.1 adh).1 (fun b o e hb=>hnd.1 b o e ((akD b).2 (.inl hb)))
 have hpf:(α.fo r).Perm (fP++rest++fd):=hpK.trans (List.Perm.append_right _ hp1)
 have hfo:∀b,b∈α.fo r↔(b∈fP∨b∈rest)∨b∈fd:=fun b=>by rw [hpf.mem_iff,an6,an6]
 have Vy:=hpf.nodup hnd.2
 have Qd:=(an4.1 Vy).1
 have alc:=uu hOK
 have zJ:∀b o,nG=some (b,o)→b∈rest∨∃o0,dU α R r=some (b,o0)∧o0≤o∧o+d.1.size≤o0+R.k.size:=by
  intro b o e
  rcases hin b o e with ⟨_,o0,ew,h1,h2⟩ | ⟨h1,_⟩
  ·exact .inr ⟨o0,ew,h1,h2⟩
  ·exact .inl h1
 have adu:∀b o,nG=some (b,o)→b∉fP:=by
  intro b o e hb
  rcases zJ b o e with h | ⟨o0,ew,_⟩
  ·exact (an4.1 Qd).2.2 b hb b h rfl
  ·exact hnd.1 b o0 ew ((hfo b).2 (.inl (.inl hb)))
 have agT:∀b o,nG=some (b,o)→b∉fd:=by
  intro b o e hb
  rcases zJ b o e with h | ⟨o0,ew,_⟩
  ·exact (an4.1 Vy).2.2 b (anZ _ h) b hb rfl
  ·exact hnd.1 b o0 ew ((hfo b).2 (.inr hb))
 refine ⟨fd,_,fP,rest,cs1,nG,hn,hpf,hd1,fun b hb=>alc b (hp1.mem_iff.2 hb), ?_,zJ,adu, ?_⟩
 ·intro hall
  have h0:=hfd0 hall
  refine ⟨h0,bz (fun _ _=>rfl) (fun b hb=>?_) (fun _ _=>rfl) hd1⟩
  rcases hb.1 with hb | hb
  ·exact hb
  ·rw [h0] at hb; simp at hb
 intro t z tags' lw lh kp ft F' cs' w' P
 generalize hR':bH R z own' tags' lw lh kp=R' at *
 have Ez:R'.k=z.1:=by rw [←hR']; rfl
 have hkind:R'.kind=R.kind:=by rw [←hR']; rfl
 have agi:R'.aX=false:=by rw [VJ hkind]; exact hr.2
 have af4:R'.own=own':=by rw [←hR']; rfl
 have XL:R'.tags=tags':=by rw [←hR']; rfl
 have hRg:R'.g=R.g:=by rw [←hR']; rfl
 have hRw:R'.w=lw++R.w:=by rw [←hR']; rfl
 have hRh:R'.h=lh++R.h:=by rw [←hR']; rfl
 have hsz:z.1.size=R.k.size:=Gp p hg P.ht P.hz
 have jJ:∀b,b∈fP∨b∈rest∨b∈fd∨(∃o,dU α R r=some (b,o))→b∈blk α R r:=by
  intro b hb
  rw [bW,fu,hfo]
  rcases hb with h | h | h | h
  ·exact .inr (.inl (.inl h))
  ·exact .inr (.inl (.inr h))
  ·exact .inr (.inr h)
  ·exact .inl h
 have Ie:∀b∈blk α R r,b∉F:=fun b hb=>H.iX r R hr b hb
 have hblt:∀b∈blk α R r,b<w.heap.size:=fun b hb=>(K.mine b hb).1
 have ac1:∀b∈blk α R r,b∉fP→b∉F':=fun b hb hno h=>by
  rcases P.newF b h with h | h | h
  ·exact Ie b hb h
  ·have:=hblt b hb; omega
  ·exact hno h.1
 have Ye:∀b∈blk α R r,b∉fP→(∀o,nG≠some (b,o))→hp w' b=hp w b:=by
  intro b hb h1 h2
  refine aoj fun hne=>?_
  rcases P.Q7 b (hblt b hb) hne with h | ⟨h,_⟩ | ⟨o,h,_⟩
  ·exact Ie b hb h
  ·exact h1 h
  ·exact h2 o h
 have aan:∀b∈fd,hp w' b=hp w b:=fun b hb=>Ye b (jJ b (.inr (.inr (.inl hb))))
  (fun h=>(an4.1 Vy).2.2 b (an2 _ h) b hb rfl) (fun o e=>agT b o e hb)
 have VB:∀b∈rest,nG.map (·.1)≠some b→hp w' b=hp w b:=fun b hb hne=>Ye b (jJ b (.inr (.inl hb)))
  (fun h=>(an4.1 Qd).2.2 b h b hb rfl) (fun o e=>hne (by rw [e]; rfl))
 have Uc:∀b o,dU α R r=some (b,o)→nG.map (·.1)≠some b→hp w' b=hp w b:=fun b o e hne=>Ye b (jJ b (.inr (.inr (.inr ⟨o,e⟩))))
  (fun h=>hnd.1 b o e ((hfo b).2 (.inl (.inl h)))) (fun o e=>hne (by rw [e]; rfl))
 let hdr':=match dU α R r with
  | some (b0,o0)=>qg (hp w') b0 o0 R.k.size
  | none=>α.hdr r
 have hT1:AR cx σ α F w r R R' (ft++rest) F' w' lw lh:=by
  refine ⟨.inr ⟨hRw,hRh,by rw [hRg]; exact aod _,hkind,fun _=>by rw [Ez]; exact hsz,P.log⟩,by rw [XL]; exact P.tags.2,P.os,P.size, ?_, ?_, ?_,P.ahA, ?_, ?_,fun _=>by rw [←hR']; exact ⟨rfl,rfl⟩⟩
  ·intro b hb hne
   rcases P.Q7 b hb hne with h | ⟨h,h2⟩ | ⟨o,h,h2⟩
   ·exact .inl h
   ·exact .inr ⟨jJ b (.inl h), .inr (.inl h2)⟩
   ·have hbb:b∈blk α R r:=jJ b (by
     rcases zJ b o h with h | ⟨o0,ew,_⟩
     ·exact .inr (.inl h)
     ·exact .inr (.inr (.inr ⟨o0,ew⟩)))
    refine .inr ⟨hbb, .inr ?_⟩
    rcases hin b o h with ⟨h0,o0,ew,_⟩ | ⟨_,arr,e,lo,hi,g1,_,g3,_⟩
    ·
     obtain ⟨_,arr,e,lo,hi,g1,g2,g3,g4⟩:=K.mem b o0 ew
     unfold eT at h2
     rw [h0] at h2
     simp only [List.getLastD_nil] at h2
     cases hk:R.kind with
     | var tv=>
      refine .inl ⟨tv, ?_, ?_⟩
      ·unfold Root.bt at h2; rw [hk] at h2; exact h2
      ·unfold qQ; rw [g1]; simp [g4 tv hk]
     | par=>
      obtain ⟨j,pi,n,hj1,hj2,hj3⟩:=H.EE r R hr hk
      have:(α.loc r).1=b:=by
       have:=ew
       unfold dU at this
       rw [hk] at this
       simp only [anX] at this
       rw [this]
      exact .inr ⟨⟨j,pi,_,n,hj2,by rw [hj3,this]⟩,fun e=>by rw [e] at h2; simp at h2⟩
     | anon=>unfold dU at ew; rw [hk] at ew; simp at ew
     | dead=>unfold dU at ew; rw [hk] at ew; simp at ew
    ·refine .inl ⟨e, ?_,by unfold qQ; rw [g1]⟩
     unfold eT at h2
     rw [List.getLastD_eq_getLast?,g3] at h2
     exact h2
  ·intro _ b hb
   rw [oH hkind,fu,an6] at hb
   rcases hb with ⟨o,h⟩ | h | h
   ·exact .inl (jJ b (.inr (.inr (.inr ⟨o,h⟩))))
   ·rcases P.Uk b h with h | h | h
    ·exact .inl (jJ b (.inl h))
    ·exact .inr (.inl h)
    ·exact .inr (.inr h)
   ·exact .inl (jJ b (.inr (.inl h)))
  ·intro b hb
   rcases P.newF b hb with h | h | h
   ·exact .inl h
   ·exact .inr (.inl h)
   ·exact .inr (.inr ⟨jJ b (.inl h.1), .inr (.inl h.2)⟩)
  ·intro _ b hb
   rw [oH hkind,fu,an6] at hb
   rcases hb with ⟨o,h⟩ | h | h
   ·exact ac1 b (jJ b (.inr (.inr (.inr ⟨o,h⟩)))) (fun h1=>hnd.1 b o h ((hfo b).2 (.inl (.inl h1))))
   ·exact P.aj7 b h
   ·exact ac1 b (jJ b (.inr (.inl h))) (fun h1=>(an4.1 Qd).2.2 b h1 b h rfl)
  ·intro j pi b o n hj hb hrj hne
   obtain ⟨Q,hQ,hk,hl,hs⟩:=H.kI j pi b o n hj hb
   have hQR:Q=R:=by have:=hQ.1; rw [←hrj,hr.1] at this; simpa using this.symm
   subst hQR
   have hwb:dU α Q r=some (b,o):=by unfold dU; rw [hk,hrj,hl]
   have hbb:=jJ b (.inr (.inr (.inr ⟨o,hwb⟩)))
   obtain ⟨_,_,_,_,_,f6⟩:=H.frame
   have h0:=f6 j pi b o n hj hb
   rcases P.Q7 b (hblt b hbb) hne with h | ⟨h,_⟩ | ⟨o',h,_⟩
   ·exact absurd h (Ie b hbb)
   ·exact absurd ((hfo b).2 (.inl (.inl h))) (hnd.1 b o hwb)
   ·rcases zJ b o' h with h1 | ⟨o0,ew,h1,h2⟩
    ·exact absurd ((hfo b).2 (.inl (.inr h1))) (hnd.1 b o hwb)
    ·rw [hwb] at ew
     simp only [anX,an8,true_and] at ew
     subst ew
     exact h0.widen (P.cells b o' h).2 h1 (by omega)
 have hT:=hT1.turn (hdr':=hdr') H hr
 have hblk':∀b∈blk (aG α r (α.loc r) hdr' (ft++rest)) R' r,(∃o,dU α R r=some (b,o))∨b∈ft∨b∈rest:=by
  intro b hb
  rw [eG,oH hkind,fu,an6] at hb
  exact hb
 have hwhole:bu (au σ r R') R'→Ow (hp w') own' (iQ cx (au σ r R') (aG α r (α.loc r) hdr' (ft++rest)) F' w' tags') z.1 z.2 hdr' (ft++rest)∧
   (qz∉lh→(t.1=d.1→z.1=R.k)∧IG (hp w) (hp w') own' R.k R.x (α.hdr r) (dU α R r) z hdr' lh∧bG (hp w') p z.1 hdr' (dU α R r)=some (cs',nG)):=by
  intro hv'
  have hcont:=P.cont _ (by rw [hR']; exact hT) (by rw [hR']; exact hblk') (by rw [hR']; exact hv')
  rw [hR'] at hcont
  have VE:∀e∈aU own' R.k,e∈R'.Co:=by
   unfold Root.Co
   rw [af4,Ez]
   exact (Nn p hg P.hz).2 P.VE
  have hc2:=hv'.2
  rw [XL] at hc2
  obtain ⟨_,hV,_⟩:=hT.views H R.tags (aU own' R.k) (H.dz r R hr.1).1 (qB hc2 P.tags.1 VE)
  have hok:∀b,((iQ cx σ α F w R.tags b∨b∈fd)∧∃t∈aU own' R.k,vU (hp w) b t)→iQ cx (au σ r R') (aG α r (α.loc r) hdr' (ft++rest)) F' w' tags' b∧hp w' b=hp w b:=by
   rintro b ⟨hb,hty⟩
   rcases hb with hb | hb
   ·obtain ⟨h1,h2⟩:=hV b hb (.inl hty)
    exact ⟨wD h1 P.tags.1,h2⟩
   ·have hbb:=jJ b (.inr (.inr (.inl hb)))
    refine ⟨⟨Nat.lt_of_lt_of_le (hblt b hbb) P.size,ac1 b hbb (fun h1=>(an4.1 Vy).2.2 b (an2 _ h1) b hb rfl),oJ H hr ((hfo b).2 (.inr hb)), ?_, ?_⟩,aan b hb⟩
    ·intro q Q hq hbq
     exfalso
     rcases jw hq with ⟨rfl,rfl,_⟩ | ⟨e,hq'⟩
     ·rcases hblk' b hbq with ⟨o,h⟩ | h | h
      ·exact hnd.1 b o h ((hfo b).2 (.inr hb))
      ·rcases P.Uk b h with h | h | h
       ·exact (an4.1 Vy).2.2 b (an2 _ h) b hb rfl
       ·exact Ie b hbb h
       ·have:=hblt b hbb; omega
      ·exact (an4.1 Vy).2.2 b (anZ _ h) b hb rfl
     ·rw [(iw (α:=α) (σ:=σ) (R:=R') e).blk] at hbq
      exact H.IK _ _ _ _ hr hq' (Ne.symm e) b hbb hbq
    ·intro hb0
     rcases (K.mine b hbb).2 with h | ⟨j,pi,h1,h2⟩
     ·omega
     ·exact .inr ⟨j,pi,h1,h2⟩
  obtain ⟨csn,hl0,Kb,hC',hN',hK'⟩:=hup.go (hp w') (iQ cx (au σ r R') (aG α r (α.loc r) hdr' (ft++rest)) F' w' tags') t cs' ft z P.hz P.len hcont hok VB P.cells P.none Uc
  have agh:csn=hdr':=by
   cases hw:dU α R r with
   | none=>
    have:hdr'=α.hdr r:=by simp only [hdr']; rw [hw]
    rw [this]
    exact hN' hw
   | some q=>
    have:hdr'=qg (hp w') q.1 q.2 R.k.size:=by simp only [hdr']; rw [hw]
    rw [this]
    have h1:=iB (hC' q.1 q.2 hw)
    rw [hl0,K.len] at h1
    exact h1.symm
  rw [agh] at Kb
  refine ⟨Kb,fun uL=>?_⟩
  have:=hK' lh P.ht (P.nav uL)
  rw [agh] at this
  exact ⟨this.1,this.2.2⟩
 refine ⟨aG α r (α.loc r) hdr' (ft++rest),hT1.rel H hr ?_ ?_ ?_,hT,hblk',fun hgn hv'=>by
  have h3:=((hwhole hv').2 hgn).2.2
  have Yh:dU (aG α r (α.loc r) hdr' (ft++rest)) R' r=dU α R r:=by rw [jN,vM hkind, ←uK]
  have Sr:(aG α r (α.loc r) hdr' (ft++rest)).hdr r=hdr':=by simp [aG,upd_same]
  rw [Yh,Sr]
  exact h3,fun b hb=>by
  have akC:(aG α r (α.loc r) hdr' (ft++rest)).fo r=ft++rest:=by simp [aG,upd_same]
  rw [akC]
  exact an2 _ hb⟩
 ·intro _
  refine ⟨fun hv'=>?_, ?_, ?_, ?_⟩
  ·have:=(hwhole hv').1
   subst hR'
   exact this
  ·rw [Ez,hsz]
   simp only [hdr']
   cases hw:dU α R r with
   | none=>exact K.len
   | some q=>simp [qg]
  ·intro b o hb
   rw [vM hkind, ←uK] at hb
   have hh:hdr'=qg (hp w') b o R.k.size:=by simp only [hdr']; rw [hb]
   obtain ⟨_,arr,e,lo,hi,g1,g2,g3,g4⟩:=K.mem b o hb
   have hnew:∃kL,hp w' b=some (.cells kL e (lo,hi))∧kL.size=arr.size:=by
    by_cases hbw:nG.map (·.1)=some b
    ·cases adt:nG with
     | none=>rw [adt] at hbw; simp at hbw
     | some q=>
      rw [adt] at hbw
      simp only [Option.map_some,anX] at hbw
      obtain ⟨a1,a2,te,fr,f1,f2,f3,_⟩:=(P.cells q.1 q.2 adt).2
      rw [hbw] at f1 f2
      rw [g1] at f1
      simp only [anX,Obj.cells.injEq] at f1
      obtain ⟨rfl,rfl,rfl⟩:=f1
      exact ⟨a2,f2,f3⟩
    ·exact ⟨arr,(Uc b o hb hbw).trans g1,rfl⟩
   obtain ⟨kL,f1,f2⟩:=hnew
   refine ⟨?_,kL,e,lo,hi,f1,by rw [f2]; exact g2,by rw [f2,Ez,hsz]; exact g3,fun tv hk=>g4 tv (hkind▸hk)⟩
   rw [hh]
   exact Fg f1 (by rw [f2]; exact g3)
  ·rw [oH hkind,ny]
   refine ⟨fun b o hb h=>?_,an4.2 ⟨P.aj8,(an4.1 Qd).2.1,fun b h1 c h2 e=>?_⟩⟩
   ·have hbb:=jJ b (.inr (.inr (.inr ⟨o,hb⟩)))
    rcases an6.1 h with h | h
    ·rcases P.Uk b h with h | h | h
     ·exact hnd.1 b o hb ((hfo b).2 (.inl (.inl h)))
     ·exact Ie b hbb h
     ·have:=hblt b hbb; omega
    ·exact hnd.1 b o hb ((hfo b).2 (.inl (.inr h)))
   ·subst e
    have hbb:=jJ b (.inr (.inl h2))
    rcases P.Uk b h1 with h | h | h
    ·exact (an4.1 Qd).2.2 b h b h2 rfl
    ·exact Ie b hbb h
    ·have:=hblt b hbb; omega
 ·intro _ q n v hn' hold
  refine ⟨hold.1, ?_⟩
  intro Q hQ hvQ hcl hty hsome
  have hQ':Q=R':=by
   rw [aI] at hQ
   simpa using hQ.symm
  subst hQ'
  have Yh:dU (aG α r (α.loc r) hdr' (ft++rest)) Q r=dU α R r:=by rw [jN,vM hkind, ←uK]
  have Sr:(aG α r (α.loc r) hdr' (ft++rest)).hdr r=hdr':=by simp [aG,upd_same]
  rw [Yh,Sr]
  rw [hRh,pF hn'] at hcl
  by_cases hq:q=[]
  ·subst hq
   obtain ⟨_,cs,b,o,h1,h2⟩:=hold.2 R hr.1 hv (by simp [clean,dY,az]) (fun t ht=>by simp [ah] at ht) rfl
   simp only [bG,anX,an8] at h1
   exact ⟨trivial,hdr',b,o,by simp only [bG]; rw [h1.2],h2⟩
  ·have hpt:∀k,dY q k=qz :: ah q k:=by
    intro k
    cases q with
    | nil=>exact absurd rfl hq
    | cons s q=>rfl
   rw [hpt] at hcl
   have hgn:qz∉lh:=fun hm=>hcl.1 qz hm (by simp)
   obtain ⟨hk,hnk,_⟩:=(hwhole hvQ).2 hgn
   subst hR'
   have aby:ah q R.k=ah q z.1∧(aS q R.k R.x).isSome=true:=by
    rcases P.aka with h | h | h
    ·have hk:=hk h
     obtain ⟨zk,zx⟩:=z
     simp only at hk
     subst hk
     exact ⟨rfl,by rw [qJ q (y:=zx)]; exact hsome⟩
    ·exact Ni (bad:=lh) p q hg P.hz h hsome (fun e he hm=>hcl.1 e hm (aol _ he))
    ·exact absurd h hgn
   have hpe:ah q (bH R z own' tags' lw lh kp).k=ah q R.k:=aby.1.symm
   rw [hpe] at hcl hty
   have akx:∀t∈lh,t∉qz :: ah q R.k:=hcl.1
   obtain ⟨g1,cs,b,o,g2,g3⟩:=hold.2 R hr.1 hv (by rw [hpt]; exact hcl.2) (fun t ht=>hsub t (hty t ht)) aby.2
   obtain ⟨f1,c1,f2⟩:=hnk q cs (some (b,o)) g1 (fun t ht=>⟨hty t ht,fun h=>akx t h (aol _ ht)⟩) g2 hsome
   exact ⟨f1,c1,b,o,f2,g3⟩
 ·intro _ g v hg' hold Q hQ hgQ
  obtain ⟨hQ',_⟩:=eU hQ
  subst hQ'
  obtain ⟨h1,h2⟩:=hold R hr (hRg▸hgQ)
  have hw:dU α R r=none:=by unfold dU; rw [h1]
  have hh:hdr'=α.hdr r:=by simp only [hdr']; rw [hw]
  have Sr:(aG α r (α.loc r) hdr' (ft++rest)).hdr r=hdr':=by simp [aG,upd_same]
  rw [Sr,hh,hkind]
  refine ⟨h1, ?_⟩
  rw [Ez]
  refine (TJ ?_).2 h2
  by_cases hp:p=[]
  ·subst hp
   have hz:=P.hz
   simp only [dX,aS,anX] at hz hg
   subst hz
   rcases P.ali with h | h
   ·rw [h, ←hg]
   ·simp only [bG,anX,an8] at hn
    rw [←hn.2,hw] at h
    exact absurd rfl h
  ·exact Nc hp P.hz
end
end
section
open Go
variable [Fr]
theorem vX:∀{k:K},k.flat=true→k.tys=[]:=by
 intro k
 induction k with
 | sl e k ih=>intro h; simp [K.flat] at h
 | gap n=>intro h; simp [K.flat] at h
 | pair a b iha ihb=>intro h; simp only [K.flat,an3] at h; simp [K.tys,iha h.1,ihb h.2]
 | st f ih=>intro h; exact ih h
 | _=>intro _; rfl
theorem ZQ {h h':Heap} {own own':List TypeId} {ok ok':Nat→Prop}:∀{k:K} {x:El k} {cs:List Value} {fo:List Nat},k.flat=true→Ow h own ok k x cs fo→fo=[]∧Ow h' own' ok' k x cs []:=by
 intro k
 induction k with
 | sl e k ih=>intro x cs fo h; simp [K.flat] at h
 | gap n=>intro x cs fo h; simp [K.flat] at h
 | pair a b iha ihb=>
  intro x cs fo h H
  simp only [K.flat,an3] at h
  obtain ⟨c1,c2,f1,f2,e,hp,h1,h2⟩:=H
  obtain ⟨g1,k1⟩:=iha h.1 h1
  obtain ⟨g2,k2⟩:=ihb h.2 h2
  subst g1; subst g2
  exact ⟨hp.eq_nil,c1,c2,[],[],e, .refl _,k1,k2⟩
 | st f ih=>intro x cs fo h H; exact ih (x:=x) h H
 | int ik=>intro x cs fo _ H; exact ⟨H.1,rfl,H.2⟩
 | bool=>intro x cs fo _ H; exact ⟨H.1,rfl,H.2⟩
 | id e=>intro x cs fo _ H; exact ⟨H.1,rfl,H.2⟩
 | str=>intro x cs fo _ H; exact ⟨H.1,rfl,H.2⟩
 | unit=>intro x cs fo _ H; exact ⟨H.1,rfl,H.2⟩
theorem aax {ik:IntKind} {n:Int} (h:inK ik n=true):G9 ik n:=by
 cases ik <;> simp_all [inK,G9,inK.Int.blt,inK.Int.ble]
theorem bM {a b:K} {x:El a} {y:El b} (h:bP a b x=some y):∃e:a=b,y=e▸x:=by
 unfold bP at h
 split at h
 ·rename_i hb
  simp only [anX] at h
  exact ⟨K.eq_of_beq hb,h.symm⟩
 ·simp at h
section
variable {A:Type} {cx:Cx} {σ:St} {α:dL} {F:List Nat} {a:Act} {w:World} {z:A}
theorem gu {k:Prog A} {tys:List TypeId}:∀{T:List Tag},(nP T tys k).ends σ z→bq σ tys T=true∧k.ends σ z:=by
 intro T
 induction T with
 | nil=>intro h; exact ⟨rfl,h⟩
 | cons t T ih=>
  obtain ⟨r,n⟩:=t
  intro h
  simp only [nP] at h
  cases he:fJ r with
  | true=>
   rw [he] at h
   obtain ⟨h1,h2⟩:=ih h
   exact ⟨by simp [bq,he,h1],h2⟩
  | false=>
   rw [he] at h
   simp only [cond_false,Prog.ends] at h
   cases hr:σ.roots r with
   | none=>rw [hr] at h; exact h.elim
   | some R=>
    rw [hr] at h
    simp only at h
    cases hc:(!R.aX && clean R.w n tys) with
    | false=>rw [hc] at h; exact h.elim
    | true=>
     rw [hc] at h
     obtain ⟨h1,h2⟩:=ih h
     exact ⟨by simp only [bq,he,hr,cond_false]; rw [hc,h1]; rfl,h2⟩
theorem cB {r:Nat} {k:Root→Prog A} (h:(sD r k).ends σ z):∃R,aP σ r R∧bu σ R∧(k R).ends σ z:=by
 unfold sD at h
 simp only [Prog.ends] at h
 cases hr:σ.roots r with
 | none=>rw [hr] at h; exact h.elim
 | some R=>
  rw [hr] at h
  simp only at h
  cases hd:R.aX with
  | true=>rw [hd] at h; exact h.elim
  | false=>
   rw [hd] at h
   obtain ⟨h1,h2⟩:=gu h
   exact ⟨R,⟨hr,hd⟩,⟨hd,h1⟩,h2⟩
theorem aaC (v:Value):bI cx σ α F w (YA v) v∧rR σ (YA v):=by
 unfold YA
 split
 ·rename_i k n
  cases h:inK k n with
  | true=>exact ⟨fun _=>⟨[.int k n],⟨rfl,by simp⟩,rfl,aax h⟩,fun t ht=>by simp at ht⟩
  | false=>exact ⟨trivial,trivial⟩
 ·exact ⟨fun _=>⟨_,⟨rfl,by simp⟩,rfl⟩,fun t ht=>by simp at ht⟩
 ·rename_i s
  exact ⟨fun _=>⟨_,⟨rfl,by simp⟩,s,rfl,rfl⟩,fun t ht=>by simp at ht⟩
 ·exact ⟨⟨none,rfl⟩,trivial⟩
 ·exact ⟨rfl,trivial⟩
 ·exact ⟨trivial,trivial⟩
theorem sZ (H:Rel cx σ α F a w) {x:Operand} {k:xP→Prog A} (h:(uS x k).ends σ z):∃v1,iT cx σ α F w v1 (a.eval x)∧xS σ v1∧(k v1).ends σ z:=by
 cases x with
 | tmp t=>exact ⟨σ.slots t,H.slots t,H.sF t,h⟩
 | const v=>obtain ⟨h1,h2⟩:=aaC (cx:=cx) (σ:=σ) (α:=α) (F:=F) (w:=w) v; exact ⟨.one (YA v),h1,h2,h⟩
 | func f=>exact ⟨.one (.fn f []),⟨[],rfl,trivial⟩,fun c hc=>by simp at hc,h⟩
 | global g=>exact h.elim
theorem bR (H:Rel cx σ α F a w) {x:Operand} {k:AV→Prog A} (h:(dN x k).ends σ z):∃v1,bI cx σ α F w v1 (a.eval x)∧rR σ v1∧(k v1).ends σ z:=by
 obtain ⟨v1,h1,h2,h3⟩:=sZ H h
 cases v1 with
 | one v=>exact ⟨v,h1,h2,h3⟩
 | Lc l=>exact h3.elim
 | lit _ _ _=>exact h3.elim
def evs (a:Act) (l:List (Nat×Operand)):List (Nat×Value):=l.map fun p=>(p.1,a.eval p.2)
theorem FW (H:Rel cx σ α F a w):∀{l:List (Nat×Operand)} {k:List (Nat×AV)→Prog A},(Cw l k).ends σ z→
  ∃vs:List (Nat×AV),vs.map (·.1)=l.map (·.1)∧dR cx σ α F w (vs.map (·.2)) ((evs a l).map (·.2))∧(∀v∈vs,rR σ v.2)∧(k vs).ends σ z:=by
 intro l
 induction l with
 | nil=>intro k h; exact ⟨[],rfl,trivial,by simp,h⟩
 | cons p l ih=>
  obtain ⟨n,x⟩:=p
  intro k h
  simp only [Cw] at h
  obtain ⟨v,h1,h2,h3⟩:=bR H h
  obtain ⟨vs,g1,g2,g3,g4⟩:=ih h3
  exact ⟨(n,v) :: vs,by simp [g1],⟨h1,g2⟩,by simpa using ⟨h2,fun a b hb=>g3 (a,b) hb⟩,g4⟩
theorem ji (H:Rel cx σ α F a w):∀{l:List Operand} {k:List AV→Prog A},(jR l k).ends σ z→
  ∃vs:List AV,dR cx σ α F w vs (l.map a.eval)∧(∀v∈vs,rR σ v)∧(k vs).ends σ z:=by
 intro l
 induction l with
 | nil=>intro k h; exact ⟨[],trivial,by simp,h⟩
 | cons x l ih=>
  intro k h
  simp only [jR] at h
  obtain ⟨v,h1,h2,h3⟩:=bR H h
  obtain ⟨vs,g2,g3,g4⟩:=ih h3
  exact ⟨v :: vs,⟨h1,g2⟩,by simpa using ⟨h2,g3⟩,g4⟩
theorem xL {ik:IntKind} {n:Int} {T:List Tag} {v:Value} (h:bI cx σ α F w (.val (.int ik) n T) v):v=.int ik n∧G9 ik n:=by
 obtain ⟨cs,h1,h2,h3⟩:=h (.inl rfl)
 obtain ⟨h5,_⟩:cs=[v]∧_:=h1
 rw [h5] at h2
 simp only [List.cons.injEq,and_true] at h2
 exact ⟨h2,h3⟩
theorem yX {b:Bool} {T:List Tag} {v:Value} (h:bI cx σ α F w (.val .bool b T) v):v=.bool b:=by
 obtain ⟨cs,h1,h2⟩:=h (.inl rfl)
 obtain ⟨h5,_⟩:cs=[v]∧_:=h1
 have h2':cs=[.bool b]:=h2
 rw [h5] at h2'
 simpa using h2'
theorem xM {s:List Int} {T:List Tag} {v:Value} (h:bI cx σ α F w (.val .str s T) v):∃B:ByteArray,v=.string B∧s=bytesOf B:=by
 obtain ⟨cs,h1,B,h2,h3⟩:=h (.inl rfl)
 obtain ⟨h5,_⟩:cs=[v]∧_:=h1
 rw [h5] at h2
 simp only [List.cons.injEq,and_true] at h2
 exact ⟨B,h2,h3⟩
theorem SF {ik:IntKind} {n:Int} {T:List Tag} (h:G9 ik n):bI cx σ α F w (.val (.int ik) n T) (.int ik n):=fun _=>⟨[.int ik n],⟨rfl,by simp⟩,rfl,h⟩
theorem aaE {b:Bool} {T:List Tag}:bI cx σ α F w (.val .bool b T) (.bool b):=fun _=>⟨[.bool b],⟨rfl,by simp⟩,rfl⟩
theorem SG {B:ByteArray} {T:List Tag}:bI cx σ α F w (.val .str (bytesOf B) T) (.string B):=fun _=>⟨[.string B],⟨rfl,by simp⟩,B,rfl,rfl⟩
theorem yx {x:AV} {v:Value} {k:IntKind→Int→Prog A} (hx:bI cx σ α F w x v) (h:(asInt x k).ends σ z):∃ik n,v=.int ik n∧G9 ik n∧(k ik n).ends σ z:=by
 unfold asInt at h
 split at h
 ·rename_i ik n T
  obtain ⟨h1,h2⟩:=xL hx
  exact ⟨ik,n,h1,h2,h⟩
 ·exact h.elim
theorem Jq {x:AV} {v:Value} {k:Bool→Prog A} (hx:bI cx σ α F w x v) (h:(asBool x k).ends σ z):∃b,v=.bool b∧(k b).ends σ z:=by
 unfold asBool at h
 split at h
 ·rename_i b T
  exact ⟨b,yX hx,h⟩
 ·exact h.elim
theorem iQ.q {T:List Tag} {b:Nat} (h:iQ cx σ α F w T b):KL σ α F w T b:=⟨h.1,h.2.1,h.2.2.2.1⟩
theorem YP {T T':List Tag} {b:Nat} (h:KL σ α F w T b) (hs:∀t∈T,t∈T'):KL σ α F w T' b:=
 ⟨h.1,h.2.1,fun r R h1 h2=>by obtain ⟨n,hn⟩:=h.2.2 r R h1 h2; exact ⟨n,hs _ hn⟩⟩
variable {r:Nat} {R:Root}
theorem ZT {h:Heap} {own:List TypeId} {ok:Nat→Prop}:∀{k:K} {x:El k} {cs:List Value} {fo:List Nat},(∀t∈k.tys,az t own=false)→Ow h own ok k x cs fo→fo=[]:=by
 intro k
 induction k with
 | sl e k ih=>
  intro x cs fo h H
  unfold Ow at H
  rw [if_neg (by rw [h e (by simp [K.tys])]; exact Bool.false_ne_true)] at H
  exact H.1
 | pair a b iha ihb=>
  intro x cs fo h H
  obtain ⟨c1,c2,f1,f2,e,hp,h1,h2⟩:=H
  rw [iha (fun t ht=>h t (by simp [K.tys,ht])) h1,ihb (fun t ht=>h t (by simp [K.tys,ht])) h2] at hp
  exact hp.eq_nil
 | st f ih=>intro x cs fo h H; exact ih (x:=x) h H
 | _=>intro x cs fo _ H; exact H.1
theorem Cb (R:Root) (r:Nat) {k:K} (hk:k.flat=false):R.out r k=(r,gJ R.w) :: R.tags∨(R.out r k=R.tags∧∀t∈k.tys,az t R.own=false):=by
 unfold Root.out
 rw [hk,cond_false]
 cases h:k.tys.any fun t=>az t R.own with
 | true=>exact .inl rfl
 | false=>
  refine .inr ⟨rfl,fun t ht=>?_⟩
  have:=List.any_eq_false.1 h t ht
  simpa using this
theorem adL (H:Rel cx σ α F a w) (hr:aP σ r R) {k:K} (hk:R.out r k=(r,gJ R.w) :: R.tags) {b:Nat} (hb:b∈α.fo r):iQ cx σ α F w (R.out r k) b:=by
 have hbb:b∈blk α R r:=anZ _ hb
 have hm:=(H.roots r R hr).mine b hbb
 refine ⟨hm.1,H.iX r R hr b hbb,oJ H hr hb,fun q Q hq hbq=>?_,fun h0=>?_⟩
 ·by_cases e:q=r
  ·subst e
   exact ⟨gJ R.w,by rw [hk]; simp⟩
  ·exact absurd hbb (H.IK q Q r R hq hr e b hbq)
 ·rcases hm.2 with h | ⟨j,pi,h1,h2⟩
  ·omega
  ·exact .inr ⟨j,pi,h1,h2⟩
theorem Uo {k:K} (hk:k.flat=false):∀t∈R.tags,t∈R.out r k:=fun t ht=>by
 rcases Cb R r hk with h | ⟨h,_⟩ <;> rw [h]
 ·exact aol _ ht
 ·exact ht
theorem MZ (H:Rel cx σ α F a w) (hr:aP σ r R) (k:K):eZ σ (R.out r k):=by
 intro t ht
 cases hk:k.flat with
 | true=>unfold Root.out at ht; rw [hk] at ht; simp at ht
 | false=>
  have h1:t=(r,gJ R.w)∨t∈R.tags:=by
   rcases Cb R r hk with h | ⟨h,_⟩ <;> rw [h] at ht
   ·exact an9.1 ht
   ·exact .inr ht
  rcases h1 with h | h
  ·subst h; exact .inr ⟨R,hr.1, .inr (aod _)⟩
  ·exact (H.dz r R hr.1).1 t h
theorem oN (H:Rel cx σ α F a w) (hr:aP σ r R) {k:K} {x:El k} {cs:List Value} {fP:List Nat} (hO:Ow (hp w) R.own (iQ cx σ α F w R.tags) k x cs fP) (hf:∀b∈fP,b∈α.fo r) :
  Vw (hp w) (iQ cx σ α F w (R.out r k)) k x cs:=by
 cases hk:k.flat with
 | true=>exact iy hk (kW (fun _=>True) (fun _ _=>trivial) (fun _ _=>trivial) hO)
 | false=>
  rcases Cb R r hk with ho | ⟨_,hn⟩
  ·exact kW _ (fun b hb=>wD hb (Uo hk)) (fun b hb=>adL H hr ho (hf b hb)) hO
  ·exact kW _ (fun b hb=>wD hb (Uo hk)) (fun b hb=>by rw [ZT hn hO] at hb; simp at hb) hO
theorem vE (H:Rel cx σ α F a w) (hr:aP σ r R) (hv:bu σ R) {p:List Stp} {d:Dat} (hg:aS p R.k R.x=some d) (fT:nk p R.k R.x) (hown:∀t∈ah p R.k,az t R.own=true)
  {cs1:List Value} {nG:Option (Nat×Nat)} (hn:bG (hp w) p R.k (α.hdr r) (dU α R r)=some (cs1,nG)) :
  ∃fP,Ow (hp w) R.own (iQ cx σ α F w R.tags) d.1 d.2 cs1 fP∧∀b∈fP,b∈α.fo r:=by
 have K:=H.roots r R hr
 have hnd:=K.nd
 rw [bW,ny] at hnd
 obtain ⟨pU,fP,rest,wh2,hn',hp1,hd1,hc1,hin,hnone,hup⟩:=focus p (K.ow hv) (fun b o e=>(K.mem b o e).1) hg fT hown hnd.2 (fun b o e=>hnd.1 b o e)
 rw [hn] at hn'
 simp only [anX,an8] at hn'
 obtain ⟨rfl,rfl⟩:=hn'
 exact ⟨fP,hd1,fun b hb=>hp1.mem_iff.2 (an2 _ hb)⟩
theorem ku {T:List Nat} {own:List Nat} (h:(T.all fun t=>az t own)=true):∀t∈T,az t own=true:=fun t ht=>aoc.1 h t ht
theorem vG (H:Rel cx σ α F a w) {x:AV} {v:Value} {k:(kk:K)→El kk→List Tag→Prog A} (hx:bI cx σ α F w x v) (hw:rR σ x) (h:(uX x k).ends σ z) :
  ∃kk y T cs,VC kk v cs∧Vw (hp w) (iQ cx σ α F w T) kk y cs∧eZ σ T∧(k kk y T).ends σ z:=by
 cases x with
 | val kk y T=>
  obtain ⟨h1,h2⟩:=gu h
  obtain ⟨cs,h3,h4⟩:=hx (.inr h1)
  exact ⟨kk,y,T,cs,h3,h4,hw,h2⟩
 | ref r g=>
  obtain ⟨R,hr,hv,h⟩:=cB h
  cases hg:Nat.beq R.g g with
  | false=>simp only [hg,cond_false] at h; exact h.elim
  | true=>
   simp only [hg,cond_true] at h
   obtain ⟨h1,h2⟩:=hx R hr (an1 hg)
   exact ⟨R.k,R.x,R.out r R.k,α.hdr r,h2,oN H hr ((H.roots r R hr).ow hv) (fun _ h=>h),MZ H hr _,h⟩
 | sV r p n=>
  obtain ⟨R,hr,hv,h⟩:=cB h
  cases hg:Nat.beq R.wR n with
  | false=>simp only [hg,cond_false] at h; exact h.elim
  | true=>
   simp only [hg,cond_true] at h
   cases uL:aS p R.k R.x with
   | none=>rw [uL] at h; exact h.elim
   | some d=>
    rw [uL] at h
    obtain ⟨h1,h2,cs,wh,h3,h4⟩:=hx R hr.1 hv (an1 hg) d uL
    obtain ⟨fP,h5,h6⟩:=vE H hr hv uL h1 h2 h3
    exact ⟨d.1,d.2,R.out r d.1,cs,h4,oN H hr h5 h6,MZ H hr _,h⟩
 | undef=>exact h.elim
 | iP=>exact h.elim
 | ptr r p n=>exact h.elim
 | jg bt kk y T=>exact h.elim
 | JK _ _ _ _=>exact h.elim
 | Av _=>exact h.elim
 | part _ _ _ _ _=>exact h.elim
 | xY _ _ _ _=>exact h.elim
 | app _ _ _ _=>exact h.elim
 | su=>exact h.elim
 | fn f cs=>exact h.elim
theorem zi (H:Rel cx σ α F a w) {x:AV} {v:Value} {rd:Root→Nat→List Stp→Dat→Prog A} {ro:TypeId→Dat→List Tag→Prog A} (hx:bI cx σ α F w x v) (hw:rR σ x) (h:(addrOf x rd ro).ends σ z) :
  (∃r R p d cs b o,aP σ r R∧bu σ R∧aS p R.k R.x=some d∧nk p R.k R.x∧(∀t∈ah p R.k,az t R.own=true)∧bG (hp w) p R.k (α.hdr r) (dU α R r)=some (cs,some (b,o))∧v=.pointer (some ⟨b,o,none⟩)∧(rd R r p d).ends σ z)∨
  (∃bt d T b o cs,eZ σ T∧v=.pointer (some ⟨b,o,none⟩)∧Cells (hp w) b o cs∧Vw (hp w) (iQ cx σ α F w T) d.1 d.2 cs∧KL σ α F w T b∧((bt=SENT∧∀t∈T,fJ t.1=true)∨(vU (hp w) b bt∧¬lU cx b))∧(ro bt d T).ends σ z):=by
 cases x with
 | ptr r p n=>
  obtain ⟨R,hr,hv,h⟩:=cB h
  cases hc:(clean R.h n (dY p R.k) && IU p R) with
  | false=>rw [hc] at h; exact h.elim
  | true=>
   rw [hc] at h
   simp only [cond_true] at h
   simp only [an3] at hc
   cases uL:aS p R.k R.x with
   | none=>rw [uL] at h; exact h.elim
   | some d=>
    rw [uL] at h
    have hown:=ku hc.2
    obtain ⟨h1,cs,b,o,h2,h3⟩:=hx.2 R hr.1 hv hc.1 hown (by rw [uL]; rfl)
    exact .inl ⟨r,R,p,d,cs,b,o,hr,hv,uL,h1,hown,h2,h3,h⟩
 | jg bt k y T=>
  obtain ⟨h1,h2⟩:=gu h
  obtain ⟨b,o,cs,e,hcs,hV,hok,hb⟩:=hx.2 h1
  exact .inr ⟨bt,⟨k,y⟩,T,b,o,cs,hw,e,hcs,hV,hok,hb,h2⟩
 | undef=>exact h.elim
 | iP=>exact h.elim
 | ref r g=>exact h.elim
 | sV r p n=>exact h.elim
 | val kk y T=>exact h.elim
 | JK _ _ _ _=>exact h.elim
 | Av _=>exact h.elim
 | part _ _ _ _ _=>exact h.elim
 | xY _ _ _ _=>exact h.elim
 | app _ _ _ _=>exact h.elim
 | su=>exact h.elim
 | fn f cs=>exact h.elim
end
end
section
open Go
variable [Fr]
theorem bN (a b:List Wr):∀σ,aB (a++b) σ=aB b (aB a σ):=by
 induction a with
 | nil=>intro σ; rfl
 | cons w a ih=>intro σ; exact ih _
theorem vF {own:List TypeId} {k:K}:∀(k0:K),(∀t∈k.tys,t∈k0.tys)→aU (k0.tys.filter fun t=>az t own) k=aU own k:=by
 intro k0
 have key:∀t∈k0.tys,az t (k0.tys.filter fun t=>az t own)=az t own:=by
  intro t ht
  cases h:az t own with
  | true=>rw [aM,aoe]; exact ⟨ht,h⟩
  | false=>
   rw [aV,aoe]
   rintro ⟨_,h2⟩
   rw [h] at h2
   simp at h2
 induction k with
 | sl e k ih=>
  intro h
  simp only [aU]
  rw [key e (h e (by simp [K.tys])),ih (fun t ht=>h t (by simp [K.tys,ht]))]
 | pair a b iha ihb=>intro h; simp only [aU]; rw [iha (fun t ht=>h t (by simp [K.tys,ht])),ihb (fun t ht=>h t (by simp [K.tys,ht]))]
 | st f ih=>intro h; exact ih h
 | _=>intro _; rfl
theorem G6 {own:List TypeId} {k:K}:∀t∈k.tys,az t (k.tys.filter fun t=>az t own)=az t own:=by
 intro t ht
 cases h:az t own with
 | true=>rw [aM,aoe]; exact ⟨ht,h⟩
 | false=>
  rw [aV,aoe]
  rintro ⟨_,h2⟩
  rw [h] at h2
  simp at h2
theorem RI {own:List TypeId}:∀(n:Nat) {c:K} {x:El c} {s:Dat},aO n c x=some s→∀t∈aU own s.1,t∈aU own c:=by
 intro n
 induction n with
 | zero=>
  intro c x s h t ht
  cases c with
  | pair a b=>simp only [aO,anX] at h; subst h; simp [aU,ht]
  | _=>simp [aO] at h
 | succ n ih=>
  intro c x s h t ht
  cases c with
  | pair a b=>simp only [aO] at h; simp [aU,ih h t ht]
  | _=>simp [aO] at h
theorem xO {own:List TypeId}:∀(p:List Stp) {k:K} {x:El k} {d:Dat},aS p k x=some d→(∀t∈ah p k,az t own=true)→∀t∈aU own d.1,t∈aU own k:=by
 intro p
 induction p with
 | nil=>intro k x d h _; simp only [aS,anX] at h; subst h; exact fun _ h=>h
 | cons s p ih=>
  intro k x d h ht
  cases s with
  | fO n=>
   cases k with
   | st c=>
    simp only [aS] at h
    cases hg:aO n c x with
    | none=>rw [hg] at h; simp at h
    | some s=>
     rw [hg] at h
     simp only at h
     have hpt:ah (.fO n :: p) (.st c)=ah p s.1:=by simp [ah,bX n hg]
     rw [hpt] at ht
     exact fun t h2=>RI n (c:=c) hg t (ih h ht t h2)
   | _=>simp [aS] at h
  | idx i=>
   cases k with
   | sl e k=>
    simp only [aS] at h
    intro t h2
    have:=ih h (fun t h=>ht t (by simp [ah,h])) t h2
    simp only [aU,ht e (by simp [ah]),cond_true]
    exact this
   | _=>simp [aS] at h
section
variable {cx:Cx} {σ:St} {α:dL} {F:List Nat} {a:Act} {w:World}
theorem aA {b:Bool} {A:Type} {x y:Prog A} {σ:St} {z:A} (h:(bif b then x else y).ends σ z):(b=true∧x.ends σ z)∨(b=false∧y.ends σ z):=by
 cases b with
 | true=>exact .inl ⟨rfl,h⟩
 | false=>exact .inr ⟨rfl,h⟩
theorem Je {h:Heap} {own:List TypeId} {ok:Nat→Prop}:∀{k:K} {x:El k} {cs:List Value} {fo:List Nat},k.flat=true→Ow h own ok k x cs fo→fo=[]:=by
 intro k
 induction k with
 | sl e k ih=>intro x cs fo h; simp [K.flat] at h
 | gap n=>intro x cs fo h; simp [K.flat] at h
 | pair a b iha ihb=>
  intro x cs fo h H
  simp only [K.flat,an3] at h
  obtain ⟨c1,c2,f1,f2,e,hp,h1,h2⟩:=H
  rw [iha h.1 h1,ihb h.2 h2] at hp
  exact hp.eq_nil
 | st f ih=>intro x cs fo h H; exact ih (x:=x) h H
 | _=>intro x cs fo _ H; exact H.1
theorem ZU {h:Heap} {own:List TypeId} {ok:Nat→Prop} {e:TypeId} {kk:K} {xs:List (El kk)} {b b':Option Addr} {n c hi:Nat} {fo:List Nat} (hf:kk.flat=true) (he:az e own=true) (hn:hi≤n) (hb':b'=b)
  (H:Ow h own ok (.sl e kk) xs [.slice b n c] fo):Ow h own ok (.sl e kk) (show List (El kk) from xs.take hi) [.slice b' hi c] fo:=by
 unfold Ow at H ⊢
 rw [if_pos he] at H ⊢
 obtain ⟨a,n',c',e1,e2,e3,H⟩:=H
 simp only [List.cons.injEq,Value.slice.injEq,and_true] at e1
 obtain ⟨rfl,rfl,rfl⟩:=e1
 have hlen:(xs.take hi).length=hi:=by
  have:n=xs.length:=e2
  simp; omega
 refine ⟨b,hi,c,by rw [hb'],hlen.symm,by omega, ?_⟩
 rcases H with H | ⟨bb,o,arr,l,u,ea,hb,hfr,hs,bD,hl,hp,H⟩
 ·exact .inl H
 ·have h0:∀l∈bD,l=[]:=by
   intro l hl'
   obtain ⟨i,hi',rfl⟩:=List.mem_iff_getElem.1 hl'
   have hl:bD.length=xs.length:=hl
   obtain ⟨ds,_,h2⟩:=H i (by show i<xs.length; omega)
   have:=Je hf h2
   rw [←this]; simp [aoa,hi']
  have hfl:bD.flatten=[]:=List.flatten_eq_nil_iff.2 h0
  have akB:(bD.take hi).flatten=[]:=List.flatten_eq_nil_iff.2 fun l hl'=>h0 l (List.mem_of_mem_take hl')
  refine .inr ⟨bb,o,arr,l,u,ea,hb,hfr,hs,bD.take hi,by show (bD.take hi).length=(xs.take hi).length; simp only [List.length_take]; rw [show bD.length=xs.length from hl],by rw [akB, ←hfl]; exact hp,fun i hi'=>?_⟩
  have hi2:i<(xs.take hi).length:=hi'
  have hi3:i<hi∧i<xs.length:=by simp at hi2; omega
  obtain ⟨ds,h1,h2⟩:=H i hi3.2
  refine ⟨ds,h1, ?_⟩
  have e1:(show List (El kk) from xs.take hi)[i]'hi'=xs[i]'hi3.2:=by
   show (xs.take hi)[i]=_
   simp
  have e2:(bD.take hi).getD i []=bD.getD i []:=by simp [aoa,List.getElem?_take,hi3.1]
  rw [e1,e2]
  exact h2
inductive xm (cx:Cx) (σ:St) (α:dL) (F:List Nat) (w:World) (v:Value) (tk:iD):Prop
 | held (hws:tk.ws=[]) (cs:List Value) (hv:VC tk.k v cs) (h:Held cx σ α F w tk.k tk.x tk.own tk.tags cs []) (hc:bq σ (aU tk.own tk.k) tk.tags=true)
 | ref (r:Nat) (R:Root) (hr:aP σ r R) (hv:bu σ R) (e:tk=⟨R.k,R.x,R.own,R.tags,[.r r none],R.keep⟩) (hk:R.kind=.anon) (hd:VC R.k v (α.hdr r))
 | gap (r:Nat) (R:Root) (p:List Stp) (d z:Dat) (hr:aP σ r R) (hv:bu σ R) (hg:aS p R.k R.x=some d) (hz:dX p R.k R.x (rU d)=some z) (fT:nk p R.k R.x)
   (hown:∀t∈ah p R.k,az t R.own=true) (hpv:p≠[]∨∃t,R.kind=.var t) (e:tk=⟨d.1,d.2,d.1.tys.filter (fun t=>az t R.own),R.tags,[.r r (some (dZ R d z))],R.keep⟩)
   (hn:∃cs wh,bG (hp w) p R.k (α.hdr r) (dU α R r)=some (cs,wh)∧VC d.1 v cs)
 | cut (r:Nat) (R:Root) (cs:List Value) (hr:aP σ r R) (hv:bu σ R) (hk:R.kind=.anon) (e:tk.own=R.own∧tk.tags=R.tags∧tk.ws=[.r r none]∧tk.keep=R.keep) (hd:VC tk.k v cs) (hl:cs.length=tk.k.size)
   (VE:aU R.own tk.k=aU R.own R.k) (how:∀ok,Ow (hp w) R.own ok R.k R.x (α.hdr r) (α.fo r)→Ow (hp w) R.own ok tk.k tk.x cs (α.fo r))
theorem BH {e:TypeId} {k:K} {c:Option Addr}:VC (.sl e k) (.slice c 0 0) [.slice c 0 0]:=⟨rfl,by simp⟩
theorem qO {A:Type} {z:A} (H:Rel cx σ α F a w) {want:K} {x:AV} {v:Value} {k:iD→Prog A} (hx:bI cx σ α F w x v) (hw:rR σ x) (h:(xK want x k).ends σ z) :
  ∃tk,xm cx σ α F w v tk∧(k tk).ends σ z:=by
 cases x with
 | val kk y T=>
  obtain ⟨h1,h2⟩:=gu h
  obtain ⟨cs,h3,h4⟩:=hx (.inr h1)
  have hty:∀t∈aU [] kk,t∈kk.tys:=fun t ht=>Gu ht
  exact ⟨⟨kk,y,[],T,[],false⟩, .held rfl cs h3 ⟨fun _=>oG (fun t _=>rfl) h4,hw,fun b hb=>by simp at hb,List.nodup_nil,lN h4⟩ (qB h1 (fun _ h=>h) hty),h2⟩
 | iP=>
  obtain ⟨c,rfl⟩:=hx
  unfold xK at h
  cases want with
  | sl e kk=>
   refine ⟨_, .held rfl [.slice c 0 0] BH ⟨fun _=>?_,fun t ht=>by simp at ht,fun b hb=>by simp at hb,List.nodup_nil,rfl⟩ rfl,h⟩
   unfold Ow
   rw [if_pos (by simp [az])]
   exact ⟨c,0,0,rfl,rfl,aod _, .inl ⟨rfl,rfl⟩⟩
  | _=>exact h.elim
 | ref r g=>
  obtain ⟨R,hr,hv,h⟩:=cB h
  cases hg:(Nat.beq R.g g && !R.fixed) with
  | false=>simp only [hg,cond_false] at h; exact h.elim
  | true=>
   simp only [hg,cond_true] at h
   simp only [an3] at hg
   obtain ⟨h1,h2⟩:=hx R hr (an1 hg.1)
   exact ⟨_, .ref r R hr hv rfl h1 h2,h⟩
 | sV r p n=>
  obtain ⟨R,hr,hv,h⟩:=cB h
  cases hg:Nat.beq R.wR n with
  | false=>simp only [hg,cond_false] at h; exact h.elim
  | true=>
   simp only [hg,cond_true] at h
   cases uL:aS p R.k R.x with
   | none=>rw [uL] at h; exact h.elim
   | some d=>
    rw [uL] at h
    obtain ⟨h1,h2,cs,wh,h3,h4⟩:=hx R hr.1 hv (an1 hg) d uL
    cases hc:(p.all Stp.qL && !R.fixed && (!p.isEmpty || R.isVar)) with
    | true=>
     simp only [hc,cond_true] at h
     cases hga:Cz R p d with
     | none=>rw [hga] at h; exact h.elim
     | some R'=>
      rw [hga] at h
      unfold Cz at hga
      cases hz:dX p R.k R.x (rU d) with
      | none=>rw [hz] at hga; simp at hga
      | some zz=>
       rw [hz] at hga
       simp only [anX] at hga
       subst hga
       simp only [an3,Bool.or_eq_true] at hc
       refine ⟨_, .gap r R p d zz hr hv uL hz h1 h2 ?_ rfl ⟨cs,wh,h3,h4⟩,h⟩
       rcases hc.2 with h | h
       ·left; intro e; subst e; simp at h
       ·right
        unfold Root.isVar at h
        cases hk:R.kind with
        | var t=>exact ⟨t,rfl⟩
        | anon=>rw [hk] at h; simp at h
        | par=>rw [hk] at h; simp at h
        | dead=>rw [hk] at h; simp at h
    | false=>
     simp only [hc,cond_false] at h
     obtain ⟨fP,h5,h6⟩:=vE H hr hv uL h1 h2 h3
     have hV:=oN H hr h5 h6
     obtain ⟨hc1,h⟩:=gu h
     exact ⟨⟨d.1,d.2,[],R.out r d.1,[],false⟩, .held rfl cs h4 ⟨fun _=>oG (fun t _=>rfl) hV,MZ H hr _,fun b hb=>by simp at hb,List.nodup_nil,lN hV⟩ (qB hc1 (fun _ h=>h) (fun t ht=>Gu ht)),h⟩
 | undef=>exact h.elim
 | ptr r p n=>exact h.elim
 | jg bt kk y T=>exact h.elim
 | JK _ _ _ _=>exact h.elim
 | Av _=>exact h.elim
 | part r g lo hi sz=>
  obtain ⟨R,hr,hv,h⟩:=cB h
  rcases aA h with ⟨hg,h5⟩ | ⟨_,h5⟩
  ·clear h
   simp only [an3] at hg
   obtain ⟨b',b,n,c,e1,eb,e2,e3,e4,hrf⟩:=hx
   obtain ⟨h1,h2⟩:=hrf R hr (an1 hg.1.1)
   have hlo:lo=0:=an1 hg.2
   subst hlo
   have hK:∀q:Dat,(⟨R.k,R.x⟩:Dat)=q→(match q.1,q.2 with
     | .sl e kk,xs=>bif kk.flat && az e R.own && Nat.beq kk.size sz then k ⟨.sl e kk,(show List (El kk) from xs).take hi,R.own,R.tags,[.r r none],R.keep⟩ else .fail
     | _,_=>Prog.fail).ends σ z→∃tk,xm cx σ α F w v tk∧(k tk).ends σ z:=by
    intro q hq hh0
    obtain ⟨qk,qx⟩:=q
    cases qk with
    | sl e kk=>
     simp only at hh0
     rcases aA hh0 with ⟨hc,hh⟩ | ⟨_,hh⟩
     ·clear hh0
      simp only [an3] at hc
      have hsz:kk.size=sz:=an1 hc.2
      subst hsz
      have hVk:VC (.sl e kk) (.slice b n c) (α.hdr r):=by
       have:=congrArg (fun q:Dat=>VC q.1 (.slice b n c) (α.hdr r)) hq
       exact cast this h2
      have hb0:b'=b:=by
       rw [eb (.inl rfl)]
       cases b with
       | none=>rfl
       | some ad=>obtain ⟨x,y,z⟩:=ad; simp [Addr.add]
      refine ⟨⟨.sl e kk,(show List (El kk) from qx).take hi,R.own,R.tags,[.r r none],R.keep⟩, .cut r R [.slice b' hi c] hr hv h1 ⟨rfl,rfl,rfl,rfl⟩ ⟨by rw [e1]; simp,by rw [e1]; simp⟩ rfl ?_ (fun ok hO=>?_),hh⟩
      ·exact congrArg (fun q:Dat=>aU R.own q.1) hq.symm
      ·have hO:=cast (congrArg (fun q:Dat=>Ow (hp w) R.own ok q.1 q.2 (α.hdr r) (α.fo r)) hq) hO
       simp only at hO
       rw [hVk.1] at hO
       exact ZU hc.1.1 hc.1.2 e3 hb0 hO
     ·exact hh.elim
    | _=>exact hh0.elim
   exact hK _ rfl h5
  ·exact h5.elim
 | xY _ _ _ _=>exact h.elim
 | app _ _ _ _=>exact h.elim
 | su=>exact h.elim
 | fn f cs=>exact h.elim
def rG (cx:Cx) (σ:St) (α:dL) (F:List Nat) (w:World):List (Value×iD)→List (List Value×List Nat)→Prop
 | [],[]=>True
 | it :: l,h :: hs=>(VC it.2.k it.1 h.1∧Held cx σ α F w it.2.k it.2.x it.2.own it.2.tags h.1 h.2∧bq σ (aU it.2.own it.2.k) it.2.tags=true)∧rG cx σ α F w l hs
 | _,_=>False
def uJ (l:List (Value×iD)):List Wr:=l.flatMap fun it=>it.2.ws
def qP (l:List (Value×iD)):List Tag:=l.flatMap fun it=>it.2.tags
theorem KT (a b:List Wr):(a++b).flatMap Wr.um=a.flatMap Wr.um++b.flatMap Wr.um:=List.flatMap_append
theorem take1 (H:Rel cx σ α F a w) {v:Value} {tk:iD} (h:xm cx σ α F w v tk) :
  ∃α' F' cs fo lw lh,Rel cx (aB tk.ws σ) α' F' a w∧mJ cx σ α F w (aB tk.ws σ) α' F' w lw lh∧VC tk.k v cs∧Held cx (aB tk.ws σ) α' F' w tk.k tk.x tk.own tk.tags cs fo∧
   bq (aB tk.ws σ) (aU tk.own tk.k) tk.tags=true∧(∀b∈F,b∈F')∧(∀b∈fo,b∉F)∧(∀q,q∉tk.ws.flatMap Wr.um→Same σ α (aB tk.ws σ) α' q):=by
 cases h with
 | held hws cs hv hh hc=>
  rw [hws]
  exact ⟨α,F,cs,[],_,_,H,Ey H ⟨rfl,rfl,rfl⟩ (aod _) (fun _ _ h=>absurd rfl h) (fun b hb=>.inl hb) H.zG,hv,hh,hc,fun _ h=>h,fun b hb=>by simp at hb,fun q _=>lJ ..⟩
 | ref r R hr hv e hk hd=>
  subst e
  obtain ⟨h1,h2,h3,h4⟩:=kill H hr hk hv
  refine ⟨_,_,α.hdr r,α.fo r,_,_,h1,h2,hd,h3,h4,fun b hb=>anZ _ hb,fun b hb hF=>H.iX r R hr b (anZ _ hb) hF, ?_⟩
  intro q hq
  have hq':q≠r:=by simpa [Wr.um] using hq
  exact iw hq'
 | cut r R cs hr hv hk e hd hl VE how=>
  obtain ⟨e1,e2,e3,e4⟩:=e
  obtain ⟨h1,h2,h3,h4⟩:=kill H hr hk hv
  rw [e3]
  refine ⟨_,_,cs,α.fo r,_,_,h1,h2,hd, ?_, ?_,fun b hb=>anZ _ hb,fun b hb hF=>H.iX r R hr b (anZ _ hb) hF, ?_⟩
  ·rw [e1,e2]
   refine ⟨fun hc=>?_,h3.wt,h3.sub,h3.nd,hl⟩
   have:=h3.ow (by rw [←VE]; exact hc)
   exact how _ this
  ·rw [e1,e2]
   show bq (au σ r bT) (aU R.own tk.k) R.tags=true
   rw [VE]; exact h4
  ·intro q hq
   have hq':q≠r:=by simpa [Wr.um] using hq
   exact iw hq'
 | gap r R p d z hr hv hg hz fT hown hpv e hn=>
  subst e
  obtain ⟨cs,wh,hn1,hn2⟩:=hn
  obtain ⟨cs1,nG,fP,rest,g1,g2,g3,g4,g5,_⟩:=gap H hr hv hg hz fT hown hpv
  rw [hn1] at g1
  simp only [anX,an8] at g1
  obtain ⟨rfl,rfl⟩:=g1
  have hcl:bq (au σ r (dZ R d z)) (aU R.own d.1) R.tags=true:=by
   rw [g5]
   exact qB hv.2 (fun _ h=>h) (xO p hg hown)
  refine ⟨_,_,cs,fP,_,_,g2,g3,hn2, ?_, ?_,fun b hb=>anZ _ hb, ?_, ?_⟩
  ·refine ⟨fun hc=>?_,g4.wt,g4.sub,g4.nd,g4.len⟩
   exact rQ (fun t ht=>G6 t ht) (g4.ow (by rw [vF d.1 (fun _ h=>h)] at hc; exact hc))
  ·show bq (au σ r (dZ R d z)) (aU (d.1.tys.filter fun t=>az t R.own) d.1) R.tags=true
   rw [vF d.1 (fun _ h=>h)]
   exact hcl
  ·intro b hb hF
   have:=g2.zG
   exact (an4.1 this).2.2 b hb b hF rfl
  ·intro q hq
   have hq':q≠r:=by simpa [Wr.um] using hq
   exact iw hq'
theorem fD {σ':St} {tys:List TypeId} {T:List Tag} (h:∀t∈T,σ'.roots t.1=σ.roots t.1):bq σ' tys T=bq σ tys T:=by
 induction T with
 | nil=>rfl
 | cons t T ih=>
  obtain ⟨q,n⟩:=t
  simp only [bq]
  rw [ih (fun t ht=>h t (by simp [ht])),h (q,n) (by simp)]
theorem xm.stays {σ':St} {α':dL} {F':List Nat} {lw lh:Nat→List Nat} {v:Value} {tk:iD} (h:xm cx σ α F w v tk) (H:Rel cx σ α F a w) (T:mJ cx σ α F w σ' α' F' w lw lh)
  (hs:∀q,(q∈tk.ws.flatMap Wr.um∨q∈tk.tags.map (·.1))→Same σ α σ' α' q):xm cx σ' α' F' w v tk:=by
 cases h with
 | held hws cs hv hh hc=>
  exact .held hws cs hv (hh.turn H T (fun b hb=>by simp at hb)) (by rw [fD (fun t ht=>(hs t.1 (.inr (aox.2 ⟨t,ht,rfl⟩))).root)]; exact hc)
 | ref r R hr hv e hk hd=>
  subst e
  have hS:=hs r (.inl (by simp [Wr.um]))
  refine .ref r R ((hS.live R).2 hr) ⟨hv.1, ?_⟩ rfl hk (by rw [hS.hdr]; exact hd)
  rw [fD (fun t ht=>(hs t.1 (.inr (aox.2 ⟨t,ht,rfl⟩))).root)]
  exact hv.2
 | cut r R cs hr hv hk e hd hl VE how=>
  have hS:=hs r (.inl (by rw [e.2.2.1]; simp [Wr.um]))
  refine .cut r R cs ((hS.live R).2 hr) ⟨hv.1, ?_⟩ hk e hd hl VE (by rw [hS.hdr,hS.fo]; exact how)
  rw [fD (fun t ht=>(hs t.1 (.inr (aox.2 ⟨t,by rw [e.2.1]; exact ht,rfl⟩))).root)]
  exact hv.2
 | gap r R p d z hr hv hg hz fT hown hpv e hn=>
  subst e
  have hS:=hs r (.inl (by simp [Wr.um]))
  refine .gap r R p d z ((hS.live R).2 hr) ⟨hv.1, ?_⟩ hg hz fT hown hpv rfl (by rw [hS.hdr,hS.wh]; exact hn)
  rw [fD (fun t ht=>(hs t.1 (.inr (aox.2 ⟨t,ht,rfl⟩))).root)]
  exact hv.2
theorem rG.turn {σ':St} {α':dL} {F':List Nat} {lw lh:Nat→List Nat} (H:Rel cx σ α F a w) (T:mJ cx σ α F w σ' α' F' w lw lh) (hF:∀b∈F,b∈F') :
  ∀{l:List (Value×iD)} {hs:List (List Value×List Nat)},(∀t∈qP l,σ'.roots t.1=σ.roots t.1)→rG cx σ α F w l hs→rG cx σ' α' F' w l hs
 | [],[],_,_=>trivial
 | it :: l,h :: hs,hr,hh=>by
  refine ⟨⟨hh.1.1,hh.1.2.1.turn H T (fun b hb=>⟨rfl,hF b (hh.1.2.1.sub b hb)⟩), ?_⟩,rG.turn H T hF (fun t ht=>hr t (by simp only [qP,List.flatMap_cons,an6]; exact .inr ht)) hh.2⟩
  rw [fD (fun t ht=>hr t (by simp only [qP,List.flatMap_cons,an6]; exact .inl ht))]
  exact hh.1.2.2
 | [],_ :: _,_,h=>h.elim
 | _ :: _,[],_,h=>h.elim
theorem vT {l:List Nat}:FO l=true↔l.Nodup:=by
 induction l with
 | nil=>simp [FO]
 | cons n l ih=>simp [FO,ih,aV]
theorem takes:∀(l:List (Value×iD)) {σ:St} {α:dL} {F:List Nat},Rel cx σ α F a w→(∀it∈l,xm cx σ α F w it.1 it.2)→((uJ l).flatMap Wr.um).Nodup→(∀t∈qP l,t.1∉(uJ l).flatMap Wr.um)→
  ∃α' F' hs,Rel cx (aB (uJ l) σ) α' F' a w∧rG cx (aB (uJ l) σ) α' F' w l hs∧(hs.flatMap (·.2)).Nodup∧(∀b∈hs.flatMap (·.2),b∉F)∧(∀b∈F,b∈F')∧
   (∀q,q∉(uJ l).flatMap Wr.um→Same σ α (aB (uJ l) σ) α' q)∧
   (∀k x own tags cs fo,Held cx σ α F w k x own tags cs fo→Held cx (aB (uJ l) σ) α' F' w k x own tags cs fo)∧Views cx σ α F w (aB (uJ l) σ) α' F' w∧(∀t,E5 σ t→E5 (aB (uJ l) σ) t)∧(∀q,σ.roots q=none→(aB (uJ l) σ).roots q=none):=by
 intro l
 induction l with
 | nil=>intro σ α F H _ _ _; exact ⟨α,F,[],H,trivial,List.nodup_nil,fun b hb=>by simp at hb,fun _ h=>h,fun q _=>lJ ..,fun _ _ _ _ _ _ h=>h,fun T tys _ h=>⟨h,fun b hb _=>⟨hb,rfl⟩,fun b hb _=>⟨hb,rfl⟩⟩,fun _ h=>h,fun _ h=>h⟩
 | cons it l ih=>
  intro σ α F H hT hnd uC
  have e1:uJ (it :: l)=it.2.ws++uJ l:=rfl
  have e2:qP (it :: l)=it.2.tags++qP l:=rfl
  rw [e1,KT] at hnd uC
  rw [e2] at uC
  obtain ⟨dK,F1,cs,fo,lw,lh,H1,T1,h1,h2,h3,h4,h5,h6⟩:=take1 H (hT it (by simp))
  have hnd':=an4.1 hnd
  obtain ⟨Dy,F2,hs,H2,g1,g2,g3,g4,g5,g6,g7,g8,g9⟩:=ih H1 (fun it' hi=>(hT it' (by simp [hi])).stays H T1 (fun q hq=>by
   refine h6 q ?_
   rcases hq with hq | hq
   ·intro hq'
    exact hnd'.2.2 q hq' q (by
     rw [aoy] at hq ⊢
     obtain ⟨wr,hw1,hw2⟩:=hq
     exact ⟨wr,aoy.2 ⟨it',hi,hw1⟩,hw2⟩) rfl
   ·obtain ⟨t,ht,rfl⟩:=aox.1 hq
    intro hq'
    exact uC t (anZ _ (aoy.2 ⟨it',hi,ht⟩)) (an2 _ hq'))) hnd'.2.1
   (fun t ht hq=>uC t (anZ _ ht) (anZ _ hq))
  rw [e1,bN]
  have hq1:∀q,q∉(it.2.ws).flatMap Wr.um++(uJ l).flatMap Wr.um→Same σ α (aB (uJ l) (aB it.2.ws σ)) Dy q:=by
   intro q hq
   simp only [an6,not_or] at hq
   have s1:=h6 q hq.1
   have s2:=g5 q hq.2
   exact ⟨s2.root.trans s1.root,s2.loc.trans s1.loc,s2.hdr.trans s1.hdr,s2.fo.trans s1.fo⟩
  refine ⟨Dy,F2,(cs,fo) :: hs,H2,⟨⟨h1,g6 _ _ _ _ _ _ h2, ?_⟩,g1⟩, ?_, ?_,fun b hb=>g4 b (h4 b hb), ?_,fun k x own tags cs fo hh=>g6 _ _ _ _ _ _ (hh.turn H T1 (fun b hb=>⟨rfl,h4 b (hh.sub b hb)⟩)), ?_,fun t ht=>g8 t (T1.tag ht), ?_⟩
  ·rw [fD (fun t ht=>(g5 t.1 (fun hq=>uC t (an2 _ ht) (anZ _ hq))).root)]
   exact h3
  ·simp only [List.flatMap_cons]
   exact an4.2 ⟨h2.nd,g2,fun b hb c hc e=>g3 c hc (e▸h2.sub b hb)⟩
  ·intro b hb hF
   simp only [List.flatMap_cons,an6] at hb
   rcases hb with hb | hb
   ·exact h5 b hb hF
   ·exact g3 b hb (h4 b hF)
  ·rw [KT]
   exact hq1
  ·intro T tys hw hc
   obtain ⟨k1,k2,k3⟩:=g7 T tys (fun t ht=>T1.tag (hw t ht)) hc
   obtain ⟨j1,j2,j3⟩:=T1.views H T tys hw k1
   refine ⟨j1,fun b hb ht=>?_,fun b hb ht=>?_⟩
   ·obtain ⟨a1,a2⟩:=j2 b hb ht
    exact ⟨(k2 b a1 ht).1,rfl⟩
   ·obtain ⟨a1,a2⟩:=j3 b hb ht
    exact ⟨(k3 b a1 ht).1,rfl⟩
  ·intro q hq
   refine g9 q ?_
   cases hq2:(aB it.2.ws σ).roots q with
   | none=>rfl
   | some Q=>
    exfalso
    by_cases hm:q∈(it.2.ws).flatMap Wr.um
    ·have:=hT it (by simp)
     cases this with
     | held hws cs hv hh hc=>rw [hws] at hm; simp at hm
     | ref r R hr hv e hk hd=>rw [e] at hm; simp [Wr.um] at hm; subst hm; rw [hr.1] at hq; simp at hq
     | cut r R cs hr hv hk e hd hl VE how=>rw [e.2.2.1] at hm; simp [Wr.um] at hm; subst hm; rw [hr.1] at hq; simp at hq
     | gap r R p d z hr hv hg hz fT hown hpv e hn=>rw [e] at hm; simp [Wr.um] at hm; subst hm; rw [hr.1] at hq; simp at hq
    ·rw [(h6 q hm).root,hq] at hq2
     simp at hq2
end
end
section
open Go
variable [Fr]
theorem iN (j:Nat):fJ (pV j)=true:=by simp [fJ,pV,Nat.add_mod]
theorem zl {ws:List Wr} {T:List Tag}:AU ws T=true↔∀t∈T,t.1∉ws.flatMap Wr.um:=by
 unfold AU
 rw [aoc]
 simp [aV]
theorem aaV {ws:List Wr} {r:Nat} (h:(ws.all fun w=>!w.loc.beq (.r r))=true):r∉ws.flatMap Wr.um:=by
 rw [aoy]
 rintro ⟨w,h1,h2⟩
 have:=aoc.1 h w h1
 cases w with
 | s n a=>simp [Wr.um] at h2
 | r n o=>
  simp only [Wr.um,aog] at h2
  subst h2
  simp [Wr.loc,Loc.beq] at this
theorem zu:∀(n:Nat) {c:K} {x:El c} {s:Dat} {q:Nat×K},aO n c x=some s→bB n c=some q→q.2=s.1:=by
 intro n
 induction n with
 | zero=>intro c x s q h1 h2; cases c with
  | pair a b=>simp only [aO,bB,anX] at h1 h2; subst h1; subst h2; rfl
  | _=>simp [aO] at h1
 | succ n ih=>intro c x s q h1 h2; cases c with
  | pair a b=>
   simp only [aO,bB] at h1 h2
   cases h3:bB n b with
   | none=>rw [h3] at h2; simp at h2
   | some q3=>rw [h3] at h2; simp only [anX] at h2; subst h2; exact ih (q:=q3) h1 h3
  | _=>simp [aO] at h1
theorem YL {h:Heap}:∀(p:List Stp) {k:K} {x:El k} {cs:List Value} {c1:List Value} {w1:Option (Nat×Nat)},ah p k=[]→(aS p k x).isSome=true→bG h p k cs none=some (c1,w1)→w1=none:=by
 intro p
 induction p with
 | nil=>intro k x cs c1 w1 _ _ h; simp only [bG,anX,an8] at h; exact h.2.symm
 | cons s p ih=>
  intro k x cs c1 w1 h0 hs h
  cases s with
  | fO n=>
   cases k with
   | st c=>
    simp only [aS] at hs
    cases hg:aO n c x with
    | none=>rw [hg] at hs; simp at hs
    | some s=>
     rw [hg] at hs
     have hp2:ah (.fO n :: p) (.st c)=ah p s.1:=by simp [ah,bX n hg]
     rw [hp2] at h0
     simp only [bG] at h
     cases ho:bB n c with
     | none=>rw [ho] at h; simp at h
     | some q=>
      have hk2:q.2=s.1:=zu n (c:=c) hg ho
      rw [ho] at h
      obtain ⟨q1,q2⟩:=q
      simp only at hk2
      subst hk2
      exact ih h0 hs h
   | _=>simp [aS] at hs
  | idx i=>
   cases k with
   | sl e k=>simp [ah] at h0
   | _=>simp [aS] at hs
theorem K.Xl:∀k:K,k.beq k=true:=by
 intro k
 induction k with
 | int ik=>cases ik <;> rfl
 | sl e k ih=>simp [K.beq,ih]
 | pair a b iha ihb=>simp [K.beq,iha,ihb]
 | st f ih=>exact ih
 | gap n=>simp [K.beq]
 | id e=>simp [K.beq]
 | _=>rfl
theorem TE:∀(q:List Stp) {k:K} {x:El k},nk q k x→(aS q k x).isSome=true:=by
 intro q
 induction q with
 | nil=>intro k x _; rfl
 | cons s q ih=>
  intro k x h
  cases s with
  | fO n=>
   cases k with
   | st c=>
    simp only [nk] at h
    simp only [aS]
    cases hc:aO n c x with
    | none=>rw [hc] at h; exact h.elim
    | some d=>rw [hc] at h; exact ih h
   | _=>exact h.elim
  | idx i=>
   cases k with
   | sl e k=>exact ih h.2.2
   | _=>exact h.elim
theorem ZV:∀(q:List Stp) {k:K} {x:El k},ah q k=[]→(aS q k x).isSome=true→nk q k x:=by
 intro q
 induction q with
 | nil=>intro k x _ _; trivial
 | cons s q ih=>
  intro k x h0 hs
  cases s with
  | idx i=>cases k <;> simp [ah,aS] at h0 hs
  | fO n=>
   cases k with
   | st c=>
    simp only [aS] at hs
    cases hg:aO n c x with
    | none=>rw [hg] at hs; simp at hs
    | some s=>
     rw [hg] at hs
     simp only at hs
     have hp2:ah (.fO n :: q) (.st c)=ah q s.1:=by simp [ah,bX n hg]
     rw [hp2] at h0
     simp only [nk,hg]
     exact ih h0 hs
   | _=>simp [aS] at hs
section
variable {cx:Cx} {σ:St} {α:dL} {F:List Nat} {a:Act} {w:World} {r:Nat} {R:Root}
theorem Wm {P:Program} {T:iV} {t:TypeId} {kk:K} {x:El kk} {nU:List TypeId} {uT:List Tag} {NS:List Value} {Si:List Nat} {v:Value} (hT:fK P T t kk)
  (H:Rel cx σ α F a w) (hr:aP σ r R) (hv:bu σ R) {p:List Stp} {d z:Dat} (hg:aS p R.k R.x=some d) (hz:dX p R.k R.x ⟨kk,x⟩=some z) (fT:nk p R.k R.x) (hown:∀t∈ah p R.k,az t R.own=true)
  (hh:Held cx σ α F w kk x nU uT NS Si) (hc:bq σ (aU nU kk) uT=true) (En:VC kk v NS) (hd:d.1=kk∨d.1=kk.hole)
  (hself:kk.flat=true∨OJ R r uT (aU nU kk)=true) (hbad:∀t∈ah p R.k,t∉aU nU kk) (kp:Bool)
  {cs1:List Value} {b o:Nat} (hn:bG (hp w) p R.k (α.hdr r) (dU α R r)=some (cs1,some (b,o))) :
  ∃w',(Instr.storeAt t (.pointer (some ⟨b,o,none⟩)) v).run P w=.ok () w'∧∃α' F',
   Rel cx (au σ r (bH R z (bF R.own (aU nU kk)) (bif kk.flat then R.tags else iO (xq r uT) R.tags) [eT R p] ((bif d.1.beq kk then [] else tq kk)++kk.tys) kp)) α' F' a w':=by
 have K0:=H.roots r R hr
 have hnt:=H.dz r R hr.1
 have Vs:=hh.ow hc
 obtain ⟨_,_,hbb,⟨arr,e,lo,hi,hb,hf,hs,hlast⟩,_⟩:=qd H hr hv hg fT hown hn
 have hds:kk.size=d.1.size:=by
  rcases hd with h | h
  ·rw [h]
  ·rw [h,tu]
 have hone:=Rm hT.eX Vs
 have hrun:=He (o:=o) hT hb hf hh.len (by omega) En hone
 obtain ⟨s1,s2,kL,s3,s4,s5,s6⟩:=uI b NS w arr e (lo,hi) o hb (by rw [hh.len]; omega)
 have s7:=qh b NS w o
 refine ⟨_,hrun, ?_⟩
 have abw:∀t∈ah p R.k,az t (bF R.own (aU nU kk))=true:=fun t ht=>dD.2 ⟨hown t ht,hbad t ht⟩
 obtain ⟨fd,ok',fP,rest,pU,nG,hn',hpf,hd1,hty,_,zJ,hwf,hgo⟩:=H.place hr hv (own':=bF R.own (aU nU kk)) hg fT (fun t h=>(dD.1 h).1) abw
 rw [hn] at hn'
 simp only [anX,an8] at hn'
 obtain ⟨rfl,rfl⟩:=hn'
 obtain ⟨ft,Cy,hpt,hOt⟩:=vk (own':=bF R.own (aU nU kk)) (fun t ht hm=>by
  rcases BL (own:=nU) ht with h | h
  ·exact absurd h (dD.1 hm).2
  ·exact h) (sS (aU nU kk) (fun _ h=>h) Vs)
 have agy:=hpt.nodup hh.nd
 have hft:∀b∈ft,b∈Si:=fun b hb=>hpt.mem_iff.2 (an2 _ hb)
 have ac7:∀b∈Cy,b∈Si:=fun b hb=>hpt.mem_iff.2 (anZ _ hb)
 have Ie:b∉F:=H.iX r R hr b hbb
 have agp:=uu hOt
 suffices hP:sU cx σ α F w r R p d (bF R.own (aU nU kk)) cs1 (some (b,o)) fP rest ⟨kk,x⟩ z (bif kk.flat then R.tags else iO (xq r uT) R.tags) [eT R p] ((bif d.1.beq kk then [] else tq kk)++kk.tys) kp ft (F.filter fun b=>!az b Si) NS (w.setCells b o NS) by
  obtain ⟨α',h,_⟩:=hgo hP
  exact ⟨α',_,h⟩
 have hF':∀b',b'∈F.filter (fun b=>!az b Si)↔b'∈F∧b'∉Si:=fun b'=>by rw [aoe]; simp [aV]
 refine ⟨hz,hds, ?_,⟨s7.1,s7.2.1,s7.2.2⟩,by omega, ?_, ?_,fun h=>by simp at h,by rw [hh.len,hds], .inl (by simp), ?_,fun b' hb'=>.inr (.inl (hh.sub b' (hft b' hb'))),(an4.1 agy).1,fun b' hb'=>.inl ((hF' b').1 hb').1,H.zG.filter _,fun b' hb' h=>((hF' b').1 h).2 (hft b' hb'), .inr (by simp), ?_, ?_, ?_⟩
 ·rcases hd with h | h
  ·rw [h]; exact fun _ h=>h
  ·rw [h,Tw]; intro t ht; simp at ht
 ·intro b' _ hne
  refine .inr (.inr ?_)
  by_cases e:b'=b
  ·subst e; exact ⟨o,rfl,by simp⟩
  ·exact absurd (s1 b' e) hne
 ·intro b' o' e'
  simp only [anX,an8] at e'
  obtain ⟨rfl,rfl⟩:=e'
  refine ⟨fun i hi=>?_,arr,kL,e,(lo,hi),hb,s3,s4,fun i hi=>?_⟩
  ·unfold cellAt
   rw [s3]
   exact s5 i hi
  ·exact s6 i (by rw [hh.len,hds]; exact hi)
 ·cases hfl:kk.flat with
  | true=>exact ⟨fun _ h=>h,hnt.1,hnt.2.2⟩
  | false=>
   refine ⟨fun t ht=>cZ.2 (.inr ht),fun t ht=>?_,fun n ht=>?_⟩
   ·rcases cZ.1 ht with h | h
    ·exact hh.wt t (pK.1 h).1
    ·exact hnt.1 t h
   ·rcases cZ.1 ht with h | h
    ·exact (pK.1 h).2 rfl
    ·exact hnt.2.2 n h
 ·cases hbq:d.1.beq kk with
  | true=>exact .inl (K.eq_of_beq hbq).symm
  | false=>
   have hdh:d.1=kk.hole:=hd.resolve_left (fun e=>by rw [e,K.Xl] at hbq; simp at hbq)
   refine .inr (.inl fun q' h1 h2=>?_)
   have hnil:ah q' kk=[]:=by
    cases he:ah q' kk with
    | nil=>rfl
    | cons e l=>exact absurd (anZ _ (oQ q' e (by rw [he]; simp))) (h2 e (by rw [show ah q' (⟨kk,x⟩:Dat).1=ah q' kk from rfl,he]; simp))
   obtain ⟨dk,dx⟩:=d
   simp only at hdh
   subst hdh
   obtain ⟨h3,h4⟩:=VA q' (y:=x) hnil h1
   refine ⟨?_, ?_⟩
   ·show ah q' kk.hole=ah q' kk
    rw [h3,hnil]
   ·show (aS q' kk.hole dx).isSome=true
    rw [qJ q' (y:=uB kk x)]
    exact h4
 ·intro _ q c0 w0 hpq Yg hnq hqs
  obtain ⟨dk,dx⟩:=d
  rcases hd with ek | ek
  ·simp only at ek
   subst ek
   exact vD q hpq (fun t ht=>⟨(Yg t ht).1,fun h=>(Yg t ht).2 (anZ _ h)⟩) hnq
  ·simp only at ek
   subst ek
   have hs0:(aS q kk.hole dx).isSome=true:=TE q hpq
   rw [qJ q (y:=uB kk x)] at hs0
   obtain ⟨h1,h2,h3,_,h5⟩:=Kk (h:=hp w) q (x:=x) hs0
   have ak1:bG (hp w) q kk cs1 (some (b,o))=some (c0,w0):=by rw [←h5]; exact hnq
   exact vD (own:=bF R.own (aU nU kk)) q (ZV q h1 h3) (fun t ht=>by rw [h1] at ht; simp at ht) ak1
 ·intro α' Tn hblk hval
  cases hfl:kk.flat with
  | true=>
   obtain ⟨e1,e2⟩:=ZQ (h':=hp (w.setCells b o NS)) (own':=bF R.own (aU nU kk)) (ok':=iQ cx (au σ r (bH R z (bF R.own (aU nU kk)) (bif kk.flat then R.tags else iO (xq r uT) R.tags) [eT R p] ((bif d.1.beq kk then [] else tq kk)++kk.tys) kp)) α' (F.filter fun b=>!az b Si) (w.setCells b o NS) (bif true then R.tags else iO (xq r uT) R.tags)) hfl hOt
   subst e1
   rw [hfl] at e2
   exact e2
  | false=>
   rw [hfl] at Tn hblk hval
   have F7:=hself.resolve_left (by rw [hfl]; simp)
   simp only [cond_false] at Tn hblk hval ⊢
   generalize hR':bH R z (bF R.own (aU nU kk)) (iO (xq r uT) R.tags) [eT R p] ((bif d.1.beq kk then [] else tq kk)++kk.tys) kp=R' at *
   have hRw:R'.w=[eT R p]++R.w:=by rw [←hR']; rfl
   have hRt:R'.tags=iO (xq r uT) R.tags:=by rw [←hR']; rfl
   have hRv:R'.Co=aU (bF R.own (aU nU kk)) z.1:=by rw [←hR']; rfl
   have hRd:R'.aX=false:=hval.1
   have agL:∀t∈aU nU kk,t∈R'.Co:=by
    intro t ht
    rw [hRv]
    have h1:=Tv (own:=nU) (own':=bF R.own (aU nU kk)) (k:=kk) (fun t ht hm=>by
     rcases BL (own:=nU) ht with h | h
     ·exact absurd h (dD.1 hm).2
     ·exact h) t ht
    rcases (Nn p hg hz).1 t h1 with h | ⟨q,h2,h3⟩
    ·exact h
    ·rw [abw q h2] at h3; simp at h3
   have XZ:∀n,(r,n)∈uT→eT R p∉aU nU kk:=by
    intro n hn1 hl
    unfold eT at hl
    cases hpt:ah p R.k with
    | nil=>
     rw [hpt] at hl
     simp only [List.getLastD_nil] at hl
     unfold OJ at F7
     rw [Bool.or_eq_true] at F7
     rcases F7 with h | h
     ·have:=aoc.1 h _ hn1
      simp at this
     ·unfold Root.bt at hl
      cases hk:R.kind with
      | var tv=>rw [hk] at h hl; simp only at h hl; rw [Bool.not_eq_true',aV] at h; exact h hl
      | par=>rw [hk] at h; simp at h
      | anon=>
       rcases zJ b o rfl with h1 | ⟨o0,ew,_⟩
       ·
        rw [hpt] at hbad
        have:=hty b (anZ _ h1)
        have hne:dU α R r=none:=by unfold dU; rw [hk]
        rw [hne] at hn
        have:=YL p hpt (by rw [hg]; rfl) hn
        simp at this
       ·unfold dU at ew; rw [hk] at ew; simp at ew
      | dead=>have:=hr.2; simp [Root.aX,hk] at this
    | cons e l=>
     rw [hpt,List.getLastD_eq_getLast?] at hl
     have:(e :: l).getLast?.getD R.bt∈(e :: l):=by
      rw [List.getLast?_eq_some_getLast (by simp)]
      exact List.getLast_mem _
     exact hbad _ (by rw [hpt]; exact this) hl
   have hc':bq (au σ r R') (aU nU kk) uT=true:=by
    rw [oI]
    intro tg uC
    by_cases e:tg.1=r
    ·refine .inr ⟨R',by rw [e]; exact aI ..,hRd, ?_⟩
     rw [oI] at hc
     rcases hc tg uC with h | ⟨Q,h1,h2,h3⟩
     ·rw [e,hnt.2.1] at h; simp at h
     ·rw [e,hr.1] at h1
      simp only [anX] at h1
      subst h1
      rw [hRw]
      refine (pF ?_).2 ⟨fun t ht=>?_,h3⟩
      ·rcases hh.wt tg uC with h | ⟨Q,q1,q2⟩
       ·rw [e,hnt.2.1] at h; simp at h
       ·rw [e,hr.1] at q1
        simp only [anX] at q1
        subst q1
        rcases q2 with q2 | q2
        ·rw [hr.2] at q2; simp at q2
        ·exact q2
      ·simp only [aog] at ht
       subst ht
       exact XZ tg.2 (by rw [←e]; exact uC)
    ·have h2:=hval.2
     rw [hRt,oI] at h2
     rcases h2 tg (cZ.2 (.inl (pK.2 ⟨uC,e⟩))) with h | ⟨Q,h3,h4,h5⟩
     ·exact .inl h
     ·refine .inr ⟨Q,h3,h4, ?_⟩
      unfold clean at h5 ⊢
      rw [aoc] at h5 ⊢
      intro x hx
      have:=h5 x hx
      simp only [Bool.not_eq_true',aV] at this ⊢
      exact fun h=>this (agL x h)
   obtain ⟨_,hV,_⟩:=Tn.views H uT (aU nU kk) hh.wt hc'
   have hsame:∀b',b'≠b→hp (w.setCells b o NS) b'=hp w b':=s1
   refine bz ?_ ?_ (fun b' hb'=>hsame b' (fun e=>Ie (e▸hh.sub b' (hft b' hb')))) hOt
   ·rintro b' (⟨h1,h2⟩ | h)
    ·exact (hV b' h1 (.inl h2)).2
    ·exact hsame b' (fun e=>Ie (e▸hh.sub b' (ac7 b' h)))
   ·rintro b' (⟨h1,h2⟩ | h)
    ·obtain ⟨g1,g2,g3,g4,g5⟩:=(hV b' h1 (.inl h2)).1
     refine ⟨g1,g2,g3,fun q Q hq hbq=>?_,fun h0=>?_⟩
     ·obtain ⟨n,hn1⟩:=g4 q Q hq hbq
      by_cases e:q=r
      ·exfalso
       subst e
       obtain ⟨rfl,_⟩:=eU hq
       obtain ⟨tt,ht1,ht2⟩:=h2
       have YN:∀e,mine cx w b'→qQ (hp w) b'=some e→az e (bF R.own (aU nU kk))=true→False:=by
        intro e hmn he hm
        have ht2:=H.Tt hmn ht2
        rw [ht2] at he
        simp only [anX] at he
        subst he
        exact (dD.1 hm).2 ht1
       rcases hblk b' hbq with ⟨o',h⟩ | h | h
       ·unfold OJ at F7
        rw [Bool.or_eq_true] at F7
        rcases F7 with h3 | h3
        ·have:=aoc.1 h3 _ hn1
         simp at this
        ·cases hk:R.kind with
         | var tv=>
          rw [hk] at h3
          simp only at h3
          rw [Bool.not_eq_true',aV] at h3
          obtain ⟨_,ams,e2,lo2,hi2,f1,_,_,f4⟩:=K0.mem b' o' h
          have ht2:=H.Tt (K0.mine b' (by unfold blk; rw [h]; exact aot)) ht2
          unfold qQ at ht2
          rw [f1] at ht2
          simp only [anX] at ht2
          exact h3 (by rw [←f4 tv hk,ht2]; exact ht1)
         | par=>rw [hk] at h3; simp at h3
         | anon=>unfold dU at h; rw [hk] at h; simp at h
         | dead=>have:=hr.2; simp [Root.aX,hk] at this
       ·obtain ⟨e,_,h3,h4⟩:=agp b' h
        exact YN e (H.fl b' (hh.sub b' (hft b' h))) h4 h3
       ·obtain ⟨e,_,h3,h4⟩:=hty b' (anZ _ h)
        exact YN e (K0.mine b' (anZ _ (hpf.mem_iff.2 (by simp [h])))) h4 h3
      ·exact ⟨n,cZ.2 (.inl (pK.2 ⟨hn1,e⟩))⟩
     ·rcases g5 h0 with ⟨j,n,h3,h4⟩ | h3
      ·refine .inl ⟨j,n,cZ.2 (.inl (pK.2 ⟨h3, ?_⟩)),h4⟩
       intro e
       have:=hnt.2.1
       rw [←e] at this
       simp only at this
       rw [iN] at this
       simp at this
      ·exact .inr h3
    ·have XO:=hh.sub b' (ac7 b' h)
     have hm:=H.fl b' XO
     refine ⟨by have:=hm.1; omega,fun h2=>((hF' b').1 h2).2 (ac7 b' h),sO H XO,fun q Q hq hbq=>?_,fun h0=>?_⟩
     ·exfalso
      rcases jw hq with ⟨rfl,rfl,_⟩ | ⟨e,hq'⟩
      ·rcases hblk b' hbq with ⟨o',h2⟩ | h2 | h2
       ·exact H.iX _ _ hr b' (by rw [bW,fu]; exact .inl ⟨o',h2⟩) XO
       ·exact (an4.1 agy).2.2 b' h2 b' h rfl
       ·exact H.iX _ _ hr b' (by rw [bW,fu,hpf.mem_iff]; exact .inr (by simp [h2])) XO
      ·obtain ⟨Q2,g1,g2⟩:=Tn.old q Q hq'.1
       have hns:Same σ α (au σ r R') α' q:=by
        refine aoj fun hns=>?_
        rcases g2 with ⟨h1,h2⟩ | ⟨_,h2⟩
        ·rw [bU σ R' e] at g1
         rw [hq'.1] at g1
         simp only [anX] at g1
         subst g1
         rw [hq'.2] at h1
         simp at h1
        ·rcases h2.2.2.2.2.2.2 with h3 | ⟨_,_,h3⟩
         ·rw [qw _ e,qw _ e] at h3
          simp at h3
         ·exact hns h3
       rw [hns.blk] at hbq
       exact H.iX _ _ hq' b' hbq XO
     ·rcases hm.2 with h | ⟨j,pi,h1,h2⟩
      ·omega
      ·exact .inr ⟨j,pi,h1,h2⟩
end
end
section
open Go
variable [Fr]
theorem fB (d c:Nat):fJ (aZ d c)=false:=by
 unfold fJ aZ
 have:(4 * (8 * d+c)+2) % 4=2:=by omega
 rw [this]; rfl
section
variable {cx:Cx} {σ:St} {α:dL} {F:List Nat} {a:Act} {w:World} {r:Nat}
theorem QY {T:List Tag} (h:eZ σ T) (hn:σ.roots r=none) (hx:fJ r=false):∀n,(r,n)∉T:=by
 intro n hn2
 rcases h _ hn2 with h | ⟨Q,h,_⟩
 ·simp only at h; rw [hx] at h; simp at h
 ·simp only at h; rw [hn] at h; simp at h
theorem Pm (H:Rel cx σ α F a w) (hn:σ.roots r=none) (hx:fJ r=false) {R':Root} (hd:R'.aX=false) (hk:R'.kind≠.par) (rW:eZ σ R'.tags) (loc:Nat×Nat) (hdr':List Value) (dH F':List Nat)
  (hblk:∀b∈iE R' loc dH,b∈F∧b∉F') (hnd:(iE R' loc dH).Nodup) (hF':∀b∈F',b∈F) (P9:F'.Nodup)
  (how:bq σ R'.Co R'.tags=true→Ow (hp w) R'.own (fun b=>iQ cx σ α F w R'.tags b∨(b∈F∧b∉F'∧b∉iE R' loc dH)) R'.k R'.x hdr' dH) (hlen:hdr'.length=R'.k.size)
  (hmem:∀b o,wU R' loc=some (b,o)→Cells (hp w) b o hdr'∧∃arr e lo hi,hp w b=some (.cells arr e (lo,hi))∧(∀i,i<arr.size→¬(lo≤i∧i<hi))∧o+R'.k.size≤arr.size∧(∀t,R'.kind=.var t→e=t)) :
  Rel cx (au σ r R') (aG α r loc hdr' dH) F' a w∧mJ cx σ α F w (au σ r R') (aG α r loc hdr' dH) F' w (tF r []) (tF r []):=by
 have hns:∀{q:Nat},¬Same σ α (au σ r R') (aG α r loc hdr' dH) q→q=r:=fun {q} h=>aoj fun e=>h (iw e)
 have hold:∀{q Q},σ.roots q=some Q→q≠r:=fun {q Q} h e=>by rw [e,hn] at h; simp at h
 have T:mJ cx σ α F w (au σ r R') (aG α r loc hdr' dH) F' w (tF r []) (tF r []):=by
  refine ⟨rfl,⟨rfl,rfl,rfl⟩,aod _, ?_, ?_, ?_,fun b _ h=>absurd rfl h, ?_,P9, ?_, ?_,fun _ _ _ _ _ _ _ h=>absurd rfl h,fun q Q Q' h1 h2 _=>by rw [bU σ R' (hold h1),h1] at h2; simp only [anX] at h2; subst h2; exact ⟨rfl,rfl⟩⟩
  ·intro q Q hQ
   have e:=hold hQ
   refine ⟨Q,by rw [bU σ R' e]; exact hQ, ?_⟩
   cases hd:Q.aX with
   | true=>exact .inl ⟨rfl,by intro hk; simp [Root.aX,hk] at hd⟩
   | false=>exact .inr ⟨rfl,by rw [qw _ e]; rfl,by rw [qw _ e]; rfl,aod _,rfl,by simp [aG,upd_ne _ _ e],fun _=>rfl, .inr ⟨qw _ e,qw _ e,iw e⟩⟩
  ·intro q Q hQ hs
   have e:=hns hs
   subst e
   rw [aI] at hQ
   simp only [anX] at hQ
   subst hQ
   refine ⟨fun t ht=>?_,hx,QY rW hn hx⟩
   have hne:t.1≠q:=fun e=>QY rW hn hx t.2 (by rw [←e]; exact ht)
   rcases rW t ht with h | ⟨Q,h1,h2⟩
   ·exact .inl h
   ·exact .inr ⟨Q,by rw [bU σ R' hne]; exact h1,h2⟩
  ·intro q Q hq hQ
   by_cases e:q=r
   ·subst e
    rw [aI] at hQ
    simp only [anX] at hQ
    subst hQ
    exact hk
   ·rw [bU σ R' e,hq] at hQ; simp at hQ
  ·rintro b (⟨q,Q,hq,hb,hno⟩ | hb)
   ·rcases jw hq with ⟨rfl,rfl,_⟩ | ⟨e,hq'⟩
    ·rw [eG] at hb
     exact .inl (hblk b hb).1
    ·rw [(iw (α:=α) (σ:=σ) (R:=R') e).blk] at hb
     exact absurd ⟨Q,hq',hb⟩ hno
   ·exact .inl (hF' b hb)
  ·intro q Q hq hs b hb
   have e:=hns hs
   subst e
   obtain ⟨rfl,_⟩:=eU hq
   rw [eG] at hb
   exact (hblk b hb).2
  ·intro q Q q' Q' hq hq' hne hs hs'
   exact absurd ((hns hs).trans (hns hs').symm) hne
 refine ⟨H.turn T ?_ ?_ ?_,T⟩
 ·intro q Q hq hs
  have e:=hns hs
  subst e
  obtain ⟨rfl,_⟩:=eU hq
  refine ⟨fun hv=>?_, ?_, ?_, ?_⟩
  ·have e1:(aG α q loc hdr' dH).hdr q=hdr':=by simp [aG,upd_same]
   have e2:(aG α q loc hdr' dH).fo q=dH:=by simp [aG,upd_same]
   rw [e1,e2]
   obtain ⟨h1,h2,_⟩:=T.views H Q.tags _ rW hv.2
   refine bz (fun _ _=>rfl) ?_ (fun _ _=>rfl) (sS _ (fun _ h=>h) (how h1))
   rintro b ⟨hb | ⟨g1,g2,g3⟩,hty⟩
   ·exact (h2 b hb (.inl hty)).1
   ·have hm:=H.fl b g1
    refine ⟨hm.1,g2,sO H g1,fun q' Q' hq' hb'=>?_,fun h0=>?_⟩
    ·exfalso
     rcases jw hq' with ⟨rfl,rfl,_⟩ | ⟨e,hq2⟩
     ·rw [eG] at hb'; exact g3 hb'
     ·rw [(iw (α:=α) (σ:=σ) (R:=Q) e).blk] at hb'
      exact H.iX _ _ hq2 b hb' g1
    ·rcases hm.2 with h | ⟨j,pi,h1,h2⟩
     ·omega
     ·exact .inr ⟨j,pi,h1,h2⟩
  ·simpa [aG,upd_same] using hlen
  ·intro b o hb
   rw [jN] at hb
   simpa [aG,upd_same] using hmem b o hb
  ·rw [eG]; exact hnd
 ·intro q Q hq hs
  exact absurd (hns hs) (hold hq.1)
 ·intro q Q hq hs
  exact absurd (hns hs) (hold hq.1)
theorem gY {R:Root} (h:R.kind=.anon) (loc:Nat×Nat) (fo:List Nat):iE R loc fo=fo:=by simp [iE,h]
theorem vH {R:Root} {t:TypeId} (h:R.kind=.var t) (loc:Nat×Nat) (fo:List Nat):iE R loc fo=loc.1 :: fo:=by simp [iE,h]
theorem yY {R:Root} (h:R.kind=.anon) (loc:Nat×Nat):wU R loc=none:=by simp [wU,h]
theorem QZ {R:Root} {t:TypeId} (h:R.kind=.var t) (loc:Nat×Nat):wU R loc=some loc:=by simp [wU,h]
theorem YK {k:K} {x:El k} {own:List TypeId} {tags:List Tag} {kp:Bool} {hdr:List Value} {fo F':List Nat} {loc:Nat×Nat} {v:Value} {w:World} (h:VC k v hdr) :
  bI cx (au σ r (aL k x own tags .anon kp)) (aG α r loc hdr fo) F' w (.ref r 0) v:=by
 intro Q hQ _
 obtain ⟨rfl,_⟩:=eU hQ
 refine ⟨rfl, ?_⟩
 simp only [aG,upd_same]
 exact h
theorem adJ {k:K} {x:El k} {own:List TypeId} {tags:List Tag} {kp:Bool} {hdr:List Value} {fo F':List Nat} {b:Nat} {t:TypeId} {w:World} :
  bI cx (au σ r (aL k x own tags (.var t) kp)) (aG α r (b,0) hdr fo) F' w (.ptr r [] 0) (.pointer (some ⟨b,0,none⟩)):=by
 refine ⟨⟨b,0,rfl⟩, ?_⟩
 intro Q hQ _ _ _ _
 rw [aI] at hQ
 simp only [anX] at hQ
 subst hQ
 refine ⟨trivial,hdr,b,0, ?_,rfl⟩
 simp only [bG]
 rw [jN]
 simp [wU,aL,aG,upd_same]
theorem aaF {k:K} {x:El k} {own:List TypeId} {tags:List Tag} {kp:Bool} {hdr:List Value} {fo F':List Nat} {b o:Nat} {t:TypeId} {w:World} :
  bI cx (au σ r (aL k x own tags (.var t) kp)) (aG α r (b,o) hdr fo) F' w (.ptr r [] 0) (.pointer (some ⟨b,o,none⟩)):=by
 refine ⟨⟨b,o,rfl⟩, ?_⟩
 intro Q hQ _ _ _ _
 rw [aI] at hQ
 simp only [anX] at hQ
 subst hQ
 refine ⟨trivial,hdr,b,o, ?_,rfl⟩
 simp only [bG]
 rw [jN]
 simp [wU,aL,aG,upd_same]
theorem Cf {tk:iD} (h:eZ σ tk.tags):eZ σ tk.gN:=by
 unfold iD.gN
 split
 ·intro t ht; simp at ht
 ·exact h
theorem gH {h:Heap} {own:List TypeId} {ok ok':Nat→Prop} {k:K} {x:El k} {cs:List Value} {fo:List Nat} (hv:aU own k=[]) (H:Ow h own ok k x cs fo):Ow h own ok' k x cs fo:=by
 refine bz (fun _ _=>rfl) (fun b hb=>?_) (fun _ _=>rfl) (sS [] (by rw [hv]; exact fun _ h=>h) H)
 obtain ⟨_,t,ht,_⟩:=hb
 simp at ht
theorem TL {P:Program} {tk:iD} {t:TypeId} {v:Value} {cs:List Value} {fo:List Nat} (H:Rel cx σ α F a w) (hn:σ.roots r=none) (hx:fJ r=false) (hh:Held cx σ α F w tk.k tk.x tk.own tk.tags cs fo)
  (hc:bq σ (aU tk.own tk.k) tk.tags=true) (hv:VC tk.k v cs) (kp:Bool) :
  (Instr.box t v).run P w=.ok (.pointer (some ⟨w.heap.size,0,none⟩)) (w.alloc (.cells v.cells t))∧
   ∃α' F',Rel cx (au σ r (aL tk.k tk.x tk.own tk.gN (.var t) kp)) α' F' a (w.alloc (.cells v.cells t))∧
    bI cx (au σ r (aL tk.k tk.x tk.own tk.gN (.var t) kp)) α' F' (w.alloc (.cells v.cells t)) (.ptr r [] 0) (.pointer (some ⟨w.heap.size,0,none⟩)):=by
 refine ⟨Na t v w, ?_⟩
 have hcs:v.cells=cs.toArray:=by
  have:=hv.cells
  apply Array.ext'
  simpa using this
 rw [hcs]
 obtain ⟨H1,T1⟩:=H.alloc (.cells cs.toArray t)
 have hh1:=hh.turn H T1 (fun b hb=>⟨pI w _ (H.fl b (hh.sub b hb)).1,aol _ (hh.sub b hb)⟩)
 have hnew:hp (w.alloc (.cells cs.toArray t)) w.heap.size=some (.cells cs.toArray t (0,0)):=rV w _
 have Ie:w.heap.size∉F:=fun h=>by have:=(H.fl _ h).1; omega
 have hbf:w.heap.size∉fo:=fun h=>Ie (hh.sub _ h)
 have hk:(aL tk.k tk.x tk.own tk.gN (.var t) kp).kind=.var t:=rfl
 obtain ⟨h1,h2⟩:=Pm (R':=aL tk.k tk.x tk.own tk.gN (.var t) kp) H1 hn hx rfl (by simp [aL]) (Cf hh1.wt) (w.heap.size,0) cs fo (F.filter fun b=>!az b fo)
  (fun b hb=>by
   rw [vH hk] at hb
   rcases an9.1 hb with h | h
   ·simp only at h; subst h
    exact ⟨aot,fun h=>Ie (aoe.1 h).1⟩
   ·refine ⟨aol _ (hh.sub b h),fun h2=>?_⟩
    have:=(aoe.1 h2).2
    simp only [Bool.not_eq_true',aV] at this
    exact this h)
  (by rw [vH hk]; exact aou.2 ⟨hbf,hh.nd⟩)
  (fun b hb=>aol _ (aoe.1 hb).1) (H.zG.filter _)
  (fun hcl=>by
   show Ow _ tk.own _ tk.k tk.x cs fo
   cases hb:tk.bad with
   | nil=>exact gH hb (hh1.ow hc)
   | cons t0 l=>
    have et:(aL tk.k tk.x tk.own tk.gN (.var t) kp).tags=tk.tags:=by
     show tk.gN=tk.tags
     unfold iD.gN
     rw [hb]
    rw [et] at hcl ⊢
    exact bz (fun _ _=>rfl) (fun b h=>.inl h) (fun _ _=>rfl) (hh1.ow hcl)) hh.len
  (fun b o hb=>by
   rw [QZ hk] at hb
   simp only [anX,an8] at hb
   obtain ⟨rfl,rfl⟩:=hb
   refine ⟨fun i hi=>?_,cs.toArray,t,0,0,hnew,fun i _=>by omega, ?_,fun t' ht'=>?_⟩
   ·unfold cellAt
    rw [hnew]
    simp
   ·show 0+tk.k.size≤_
    simp [hh.len]
   ·have:GH.var t=GH.var t':=ht'
    simpa using this)
 exact ⟨_,_,h1,adJ⟩
theorem Ml {k:K} {x:El k} {own:List TypeId} {tags:List Tag} {v:Value} {cs:List Value} {fo:List Nat} (H:Rel cx σ α F a w) (hn:σ.roots r=none) (hx:fJ r=false)
  (hsub:∀b∈fo,b∈F) (hnd:fo.Nodup) (hwt:eZ σ tags) {F':List Nat} (hF':∀b∈F',b∈F∧b∉fo) (P9:F'.Nodup) (hlen:cs.length=k.size)
  (how:bq σ (aU own k) tags=true→Ow (hp w) own (fun b=>iQ cx σ α F w tags b∨(b∈F∧b∉F'∧b∉fo)) k x cs fo) (hv:VC k v cs) (kp:Bool) :
  Rel cx (au σ r (aL k x own tags .anon kp)) (aG α r (0,0) cs fo) F' a w∧bI cx (au σ r (aL k x own tags .anon kp)) (aG α r (0,0) cs fo) F' w (.ref r 0) v:=by
 have hk:(aL k x own tags .anon kp).kind=.anon:=rfl
 obtain ⟨h1,h2⟩:=Pm (R':=aL k x own tags .anon kp) H hn hx rfl (by simp [aL]) hwt (0,0) cs fo F'
  (fun b hb=>by rw [gY hk] at hb; exact ⟨hsub b hb,fun h=>(hF' b h).2 hb⟩) (by rw [gY hk]; exact hnd) (fun b hb=>(hF' b hb).1) P9
  (fun hc=>by rw [gY hk]; exact how hc) hlen (fun b o hb=>by rw [yY hk] at hb; simp at hb)
 exact ⟨h1,YK hv⟩
theorem yw {k:K} {x:El k} {own:List TypeId} {tags:List Tag} {v:Value} {cs:List Value} {fo:List Nat} (H:Rel cx σ α F a w) (hn:σ.roots r=none) (hx:fJ r=false)
  (hsub:∀b∈fo,b∈F) (hnd:fo.Nodup) (hwt:eZ σ tags) {F':List Nat} (hF':∀b∈F',b∈F∧b∉fo) (P9:F'.Nodup) (hlen:cs.length=k.size)
  (how:bq σ (aU own k) tags=true→Ow (hp w) own (fun b=>iQ cx σ α F w tags b∨(b∈F∧b∉F'∧b∉fo)) k x cs fo) (hv:VC k v cs) (kp:Bool) :
  ∃α',Rel cx (au σ r (aL k x own tags .anon kp)) α' F' a w∧bI cx (au σ r (aL k x own tags .anon kp)) α' F' w (.ref r 0) v:=
 ⟨_,Ml H hn hx hsub hnd hwt hF' P9 hlen how hv kp⟩
end
end
section
open Go
variable [Fr]
def qU (P:Program) (cx:Cx) (o:Oper) (a:Act) (w:World) (σ':St):Prop:=
 ∃v w' α' F',((execOp a.eval o).run P w=.ok (.value v) w'∨((execOp a.eval o).run P w=.ok .skip w'∧v=undef))∧Rel cx σ' α' F' (a.put o.dst v) w'
theorem qU.wp {P:Program} {cx:Cx} {o:Oper} {a:Act} {w:World} {σ':St} (h:qU P cx o a w σ') {K:Act→World→Prop} {Q:Exit→Act→World→Prop}
  (hK:∀α' F' a' w',Rel cx σ' α' F' a' w'→K a' w'):o.wp P a w K Q:=by
 obtain ⟨v,w',α',F',h | ⟨h,rfl⟩,h2⟩:=h
 ·unfold Oper.wp; rw [h]; exact hK _ _ _ _ h2
 ·unfold Oper.wp; rw [h]; exact hK _ _ _ _ h2
section
variable {P:Program} {T:iV} {cx:Cx} {σ:St} {α:dL} {F:List Nat} {a:Act} {w:World} {o:Oper} {d:Nat} {ws:List Wr}
theorem bJ (H:Rel cx σ α F a w) (hd:o.dst=some d) (hdn:d<cx.nt) {x:xP} {v:Value} (hrun:(execOp a.eval o).run P w=.ok (.value v) w) (hx:iT cx σ α F w x v) (hw:xS σ x) :
  qU P cx o a w (aB [.s d x] σ):=by
 refine ⟨v,w,α,F, .inl hrun, ?_⟩
 rw [hd]
 exact H.put hdn hw hx
theorem iW {σ1:St} {dK:dL} {F1:List Nat} {w1:World} (H:Rel cx σ1 dK F1 a w1) (hd:o.dst=some d) (hdn:d<cx.nt) {x:xP} {v:Value} (hrun:(execOp a.eval o).run P w=.ok (.value v) w1) (hx:iT cx σ1 dK F1 w1 x v) (hw:xS σ1 x) :
  qU P cx o a w (aB [.s d x] σ1):=by
 refine ⟨v,w1,dK,F1, .inl hrun, ?_⟩
 rw [hd]
 exact H.put hdn hw hx
theorem fQ {A:Type} {z:A} {r:Nat} {k:Prog A} (h:(iL r k).ends σ z):σ.roots r=none∧k.ends σ z:=by
 unfold iL at h
 simp only [Prog.ends] at h
 cases hr:σ.roots r with
 | none=>rw [hr] at h; exact ⟨rfl,h⟩
 | some R=>rw [hr] at h; exact h.elim
theorem aC {A:Type} {z x:A} (h:(Prog.ret x).ends σ z):z=x:=h
theorem Xw (H:Rel cx σ α F a w) (hd:o.dst=some d) (hdn:d<cx.nt) {x:Operand} (ho:o.op=.move x) (h:(uS x fun v=>(.ret [.s d v]:Prog (List Wr))).ends σ ws):qU P cx o a w (aB ws σ):=by
 obtain ⟨v,h1,h2,h3⟩:=sZ H h
 rw [aC h3]
 exact bJ H hd hdn (by simp [execOp,ho]) h1 h2
theorem fK.sl {t:TypeId} {e:TypeId} {k:K} (h:fK P T t (.sl e k)):P.underlying t=some (.slice e)∧fK P T e k∧0<k.size∧∃i,P.info? e=some i∧i.bytes=T.bytes e∧0<i.bytes:=by
 unfold fK jT at h
 exact ⟨h.1,h.2.2.1,h.2.2.2.1,h.2.2.2.2⟩
theorem yG {e:TypeId} {k:K} {c:Option Addr} {own:List TypeId} {ok:Nat→Prop} {h:Heap}:Ow h own ok (.sl e k) ([]:List (El k)) [.slice c 0 0] []:=by
 unfold Ow
 split
 ·exact ⟨c,0,0,rfl,rfl,aod _, .inl ⟨rfl,rfl⟩⟩
 ·exact ⟨rfl,c,0,0,rfl,rfl,aod _,fun h=>by omega⟩
theorem RY {L:K→List TypeId} (H:Rel cx σ α F a w) (hd:o.dst=some d) (hdn:d<cx.nt) {x:Operand} (ho:o.op=.assign x)
  (h:(uS x fun
   | .one .iP=>match T.ty o.type with
    | some (.sl e kk)=>.root (aZ d 0) fun
     | none=>.ret [.r (aZ d 0) (some (aL (.sl e kk) [] (e :: L kk) [] .anon)), .s d (.one (.ref (aZ d 0) 0))]
     | some _=>.ret [.s d (.one .iP)]
    | _=>.fail
   | v=>(.ret [.s d v]:Prog (List Wr))).ends σ ws):qU P cx o a w (aB ws σ):=by
 obtain ⟨v,h1,h2,h3⟩:=sZ H h
 have hrun:(execOp a.eval o).run P w=.ok (.value (a.eval x)) w:=by simp [execOp,ho]
 have key:ws=[.s d v]→qU P cx o a w (aB ws σ):=fun e=>by rw [e]; exact bJ H hd hdn hrun h1 h2
 cases v with
 | Lc l=>exact key (aC h3)
 | lit _ _ _=>exact key (aC h3)
 | one v=>
  cases v with
  | iP=>
   have h1':=h1
   obtain ⟨c,hc⟩:=h1
   simp only at h3
   split at h3
   ·rename_i e kk hty
    simp only [Prog.ends] at h3
    cases g1:σ.roots (aZ d 0) with
    | some Q=>
     rw [g1] at h3
     exact key (aC h3)
    | none=>
    rw [g1] at h3
    have g2:=h3
    rw [aC g2]
    obtain ⟨α',k1,k2⟩:=yw (k:=.sl e kk) (x:=([]:List (El kk))) (own:=e :: L kk) (tags:=[]) (v:=a.eval x) (cs:=[.slice c 0 0]) (fo:=[]) (r:=aZ d 0) (F':=F) H g1 (fB d 0) (fun b hb=>by simp at hb) List.nodup_nil (fun t ht=>by simp at ht)
     (fun b hb=>⟨hb,by simp⟩) H.zG rfl (fun _=>yG) (by rw [hc]; exact BH) false
    exact iW (x:=.one (.ref (aZ d 0) 0)) k1 hd hdn hrun k2 ⟨_,aI .., .inr (aov _)⟩
   ·exact h3.elim
  | _=>exact key (aC h3)
theorem Xx (H:Rel cx σ α F a w) (hd:o.dst=some d) (hdn:d<cx.nt) {c x y:Operand} (ho:o.op=.pick c x y)
  (h:(dN c fun c=>asBool c fun c=>uS x fun v=>uS y fun u=>.br c (.ret [.s d v]) ((.ret [.s d u]):Prog (List Wr))).ends σ ws):qU P cx o a w (aB ws σ):=by
 obtain ⟨vc,h1,_,h⟩:=bR H h
 obtain ⟨b,h2,h⟩:=Jq h1 h
 obtain ⟨v,h3,h4,h⟩:=sZ H h
 obtain ⟨u,h5,h6,h⟩:=sZ H h
 rcases h with ⟨hb,h⟩ | ⟨hb,h⟩
 ·rw [aC h]
  exact bJ H hd hdn (by simp [execOp,ho,h2,hb,Go.asBool]) h3 h4
 ·rw [aC h]
  exact bJ H hd hdn (by simp [execOp,ho,h2,hb,Go.asBool]) h5 h6
theorem fK.shape {t:TypeId} {k:K} (h:fK P T t k):(∀a b,k≠.pair a b)∧k≠.unit∧∀n,k≠.gap n:=by
 unfold fK jT at h
 refine ⟨fun a b e=>?_,fun e=>?_,fun n e=>?_⟩ <;> subst e <;> exact h.elim
theorem dA {own:List TypeId} {k:K} (h:∀t∈k.tys,az t own=true):aU own k=[]:=by
 cases he:aU own k with
 | nil=>rfl
 | cons t l=>
  exfalso
  have key:∀(k:K),(∀t∈k.tys,az t own=true)→∀t,t∉aU own k:=by
   intro k
   induction k with
   | sl e k ih=>
    intro h t ht
    simp only [aU,h e (by simp [K.tys]),cond_true] at ht
    exact ih (fun t ht=>h t (by simp [K.tys,ht])) t ht
   | pair a b iha ihb=>
    intro h t ht
    simp only [aU,an6] at ht
    rcases ht with ht | ht
    ·exact iha (fun t ht=>h t (by simp [K.tys,ht])) t ht
    ·exact ihb (fun t ht=>h t (by simp [K.tys,ht])) t ht
   | st f ih=>intro h t ht; exact ih h t ht
   | _=>intro _ t ht; simp [aU] at ht
  exact key k h t (by rw [he]; simp)
theorem VY {l:List Nat}:∀t∈l,az t l=true:=fun t ht=>aM.2 ht
theorem Vb (hT:eF P T) (H:Rel cx σ α F a w) (hd:o.dst=some d) (hdn:d<cx.nt) {t:TypeId} (ho:o.op=.alloc t)
  (h:(match T.ty t with
   | some kk=>iL (aZ d 0) (.ret [Wr.r (aZ d 0) (some (aL kk kk.zero kk.tys [] (.var t))),Wr.s d (.one (.ptr (aZ d 0) [] 0))])
   | none=>(.fail:Prog (List Wr))).ends σ ws):qU P cx o a w (aB ws σ):=by
 split at h
 ·rename_i kk hty
  have ht:=hT.ty t kk hty
  obtain ⟨g1,g2⟩:=fQ h
  rw [aC g2]
  obtain ⟨s1,s2,s3⟩:=ht.shape
  have hz:Ow (hp w) kk.tys (iQ cx σ α F w []) kk kk.zero (bK kk) []:=Fa ht.eX VY
  obtain ⟨k0,α',F',k1,k2⟩:=TL (P:=P) (tk:=⟨kk,kk.zero,kk.tys,[],[],false⟩) (t:=t) (v:=sJ kk) (cs:=bK kk) (fo:=[]) (r:=aZ d 0) H g1 (fB d 0)
   ⟨fun _=>hz,fun t ht=>by simp at ht,fun b hb=>by simp at hb,List.nodup_nil,dh hz⟩ rfl (UB s1 s2 s3) false
  have e0:(iD.gN ⟨kk,kk.zero,kk.tys,[],[],false⟩)=[]:=by unfold iD.gN; split <;> rfl
  rw [e0] at k1 k2
  exact iW (x:=.one (.ptr (aZ d 0) [] 0)) k1 hd hdn (by
   have:=QM (P:=P) ht w
   simp only [execOp,ho,aom,this,aof,aor]) k2 ⟨_,aI .., .inr (aov _)⟩
 ·exact h.elim
theorem NY (H:Rel cx σ α F a w) (hd:o.dst=some d) (hdn:d<cx.nt) {x:Operand} (ho:o.op=.nilCheck x)
  (h:(dN x fun
   | .ptr r p h=>.ret [.s d (.one (.ptr r p h))]
   | .jg bt kk y tags=>.ret [.s d (.one (.jg bt kk y tags))]
   | _=>(.fail:Prog (List Wr))).ends σ ws):qU P cx o a w (aB ws σ):=by
 obtain ⟨v,h1,h2,h⟩:=bR H h
 cases v with
 | ptr r p n=>
  rw [aC h]
  obtain ⟨b,q,hv⟩:=h1.1
  exact bJ (v:=a.eval x) H hd hdn (by simp [execOp,ho,hv]) h1 h2
 | jg bt kk y tags=>
  rw [aC h]
  obtain ⟨b,q,hv⟩:=h1.1
  exact bJ (v:=a.eval x) H hd hdn (by simp [execOp,ho,hv]) h1 h2
 | _=>exact h.elim
end
end
end Go.Proofs.YtailcbngagacaabGreat.Ow
