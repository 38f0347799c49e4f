/- A verified reading of translated code: values in place of memory; part B of 6, spaces and remarks taken out. No condition. Own work of this seat. -/
import Derived.Test.YtabnmpabdhmkoaaOwA
set_option linter.unusedSectionVars false
set_option linter.unusedVariables false
set_option linter.unusedSimpArgs false
namespace Go.Proofs.Ytabnmpabdhmkoaa.Ow
section
open Go
variable [Fr]
theorem upd_same {A:Type} (f:Nat→A) (n:Nat) (v:A):upd f n v n=v:=by simp [upd]
theorem upd_ne {A:Type} (f:Nat→A) {n m:Nat} (v:A) (h:m≠n):upd f n v m=f m:=by
 unfold upd
 cases h':Nat.beq m n with
 | true=>exact absurd (afU h') h
 | false=>rfl
structure Same (σ:St) (α:dI) (σ':St) (α':dI) (r:Nat):Prop where
 root:σ'.roots r=σ.roots r
 loc:α'.loc r=α.loc r
 hdr:α'.hdr r=α.hdr r
 fo:α'.fo r=α.fo r
theorem Same.wh {σ σ':St} {α α':dI} {r:Nat} (h:Same σ α σ' α' r) (R:Root):dQ α' R r=dQ α R r:=by unfold dQ; rw [h.loc]
theorem Same.blk {σ σ':St} {α α':dI} {r:Nat} (h:Same σ α σ' α' r) (R:Root):blk α' R r=blk α R r:=by unfold Ow.blk; rw [h.wh,h.fo]
theorem Same.live {σ σ':St} {α α':dI} {r:Nat} (h:Same σ α σ' α' r) (R:Root):aN σ' r R↔aN σ r R:=by unfold aN; rw [h.root]
def Stepped (σ:St) (α:dI) (σ':St) (α':dI) (lw lh:Nat→List Nat) (r:Nat) (R R':Root):Prop:=
 R'.w=lw r++R.w∧R'.h=lh r++R.h∧R.g≤R'.g∧R'.kind=R.kind∧α'.loc r=α.loc r∧(R.kind=.par→R'.k.size=R.k.size)∧((lw r≠[]∨lh r≠[])∨(lw r=[]∧lh r=[]∧Same σ α σ' α' r))
def Loose (cx:Cx) (σ':St) (lw:Nat→List Nat) (w:World) (r b:Nat):Prop:=
 (∀R',σ'.roots r=some R'→R'.aZ=true)∨(∃e∈lw r,ni (hp w) b=some e)∨(jS cx b∧lw r≠[])
structure kI (cx:Cx) (σ:St) (α:dI) (F:List Nat) (w:World) (σ':St) (α':dI) (F':List Nat) (w':World) (lw lh:Nat→List Nat):Prop where
 slots:σ'.slots=σ.slots
 os:w'.os=w.os∧w'.tape=w.tape∧w'.output=w.output
 size:w.heap.size≤w'.heap.size
 old:∀r R,σ.roots r=some R→∃R',σ'.roots r=some R'∧((R'.aZ=true∧R.kind≠.par)∨(R.aZ=false∧Stepped σ α σ' α' lw lh r R R'))
 wr:∀r R',σ'.roots r=some R'→¬Same σ α σ' α' r→eG σ' R'.tags∧fC r=false∧(∀n,(r,n)∉R'.tags)
 Ye:∀r R',σ.roots r=none→σ'.roots r=some R'→R'.kind≠.par
 Iw:∀b,b<w.heap.size→hp w' b≠hp w b→b∈F∨∃r R,aN σ r R∧b∈blk α R r∧Loose cx σ' lw w r b
 new:∀b,((∃r R',aN σ' r R'∧b∈blk α' R' r∧¬∃R,aN σ r R∧b∈blk α R r)∨b∈F')→b∈F∨(w.heap.size≤b∧b<w'.heap.size)∨∃r R,aN σ r R∧b∈blk α R r∧Loose cx σ' lw w r b
 uU:F'.Nodup
 iB:∀r R',aN σ' r R'→¬Same σ α σ' α' r→∀b∈blk α' R' r,b∉F'
 AB:∀r R r' R',aN σ' r R→aN σ' r' R'→r≠r'→¬Same σ α σ' α' r→¬Same σ α σ' α' r'→∀b∈blk α' R r,b∉blk α' R' r'
 base:∀j pi b o n,cx.par j=some pi→pi.base=some (b,o,n)→hp w' b≠hp w b→gu (hp cx.w0) (hp w') b o n
 ev:∀r R R',σ.roots r=some R→σ'.roots r=some R'→R'.aZ=false→R'.ew=R.ew∧R'.eh=R.eh
section
variable {cx:Cx} {σ:St} {α:dI} {F:List Nat} {a:Act} {w:World} {σ':St} {α':dI} {F':List Nat} {w':World} {lw lh:Nat→List Nat}
theorem kI.tag (T:kI cx σ α F w σ' α' F' w' lw lh) {t:Tag} (h:yE σ t):yE σ' t:=by
 rcases h with h | ⟨R,h1,h2⟩
 ·exact .inl h
 ·obtain ⟨R',g1,g2⟩:=T.old _ R h1
  refine .inr ⟨R',g1, ?_⟩
  rcases g2 with ⟨g2,_⟩ | ⟨gd,g2,_⟩
  ·exact .inl g2
  ·rcases h2 with h2 | h2
   ·rw [gd] at h2; simp at h2
   ·right
    rw [g2]
    simp only [mh,afY] at h2 ⊢
    omega
theorem kI.nW (T:kI cx σ α F w σ' α' F' w' lw lh) {x:AV} (h:nW σ x):nW σ' x:=by
 have key:∀(q:Nat) (f:Root→Nat) (n:Nat),(∀R R',Stepped σ α σ' α' lw lh q R R'→f R≤f R')→(∃Q,σ.roots q=some Q∧(Q.aZ=true∨n≤f Q))→∃Q,σ'.roots q=some Q∧(Q.aZ=true∨n≤f Q):=by
  intro q f n hf ⟨Q,h1,h2⟩
  obtain ⟨R',g1,g2⟩:=T.old _ Q h1
  refine ⟨R',g1, ?_⟩
  rcases g2 with ⟨g2,_⟩ | ⟨gd,g2⟩
  ·exact .inl g2
  ·rcases h2 with h2 | h2
   ·rw [gd] at h2; simp at h2
   ·exact .inr (Nat.le_trans h2 (hf _ _ g2))
 cases x with
 | undef=>trivial
 | val k x Tg=>exact fun t ht=>T.tag (h t ht)
 | iC=>trivial
 | ref q g=>exact key q (·.g) g (fun R R' h=>h.2.2.1) h
 | Bu q g k p=>exact key q (·.g) g (fun R R' h=>h.2.2.1) h
 | oQ q p n=>exact key q Root.rR n (fun R R' h=>by simp only [Root.rR,h.1,h.2.1,mh,afY]; omega) h
 | ptr q p n=>exact key q (fun R=>fV R.h) n (fun R R' h=>by simp only [h.2.1,mh,afY]; omega) h
 | iK bt k x Tg=>exact fun t ht=>T.tag (h t ht)
 | oz=>trivial
 | u6 _=>trivial
 | part q g _ _ _=>exact key q (·.g) g (fun R R' h=>h.2.2.1) h
 | sW q p n _=>exact key q Root.rR n (fun R R' h=>by simp only [Root.rR,h.1,h.2.1,mh,afY]; omega) h
 | app q p n q2=>
  refine ⟨key q Root.rR n (fun R R' h=>by simp only [Root.rR,h.1,h.2.1,mh,afY]; omega) h.1, ?_⟩
  obtain ⟨R,hR⟩:=h.2
  obtain ⟨R',g1,_⟩:=T.old _ R hR
  exact ⟨R',g1⟩
 | fn f cs=>exact fun c hc t ht=>T.tag (h c hc t ht)
theorem kI.sO (T:kI cx σ α F w σ' α' F' w' lw lh) {x:sK} (h:sO σ x):sO σ' x:=by
 cases x with
 | one a=>exact T.nW h
 | CV l=>exact fun a ha=>T.nW (h a ha)
 | lit _ _ l=>exact fun a ha=>T.nW (h a ha)
theorem kI.held (H:Rel cx σ α F a w) (T:kI cx σ α F w σ' α' F' w' lw lh) {Tg:List Tag} {tys:List TypeId} (hw:eG σ Tg) (hc:bg σ' tys Tg=true) {r n b:Nat} {R:Root} (hr:aN σ r R) (hn:(r,n)∈Tg) (hbr:b∈blk α R r)
  (hty:(∃t∈tys,q9 (hp w) b t)∧¬jS cx b∨∀t∈Tg,fC t.1=true):clean R.w n tys=true∧¬Loose cx σ' lw w r b:=by
 have hnr:fC r=false:=(H.dh r R hr.1).2.1
 rw [lD] at hc
 rcases hc (r,n) hn with h | ⟨Q,h1,h2,h3⟩
 ·simp only at h; rw [hnr] at h; simp at h
 ·obtain ⟨R',g1,g2⟩:=T.old _ R hr.1
  simp only at h1 h3
  rw [g1] at h1
  simp only [afQ] at h1
  subst h1
  rcases g2 with ⟨g2,_⟩ | ⟨gd,g2,_⟩
  ·rw [h2] at g2; simp at g2
  ·have hb:n≤fV R.w:=by
    rcases hw (r,n) hn with h | ⟨Q,q1,q2⟩
    ·simp only at h; rw [hnr] at h; simp at h
    ·simp only at q1 q2
     rw [hr.1] at q1
     simp only [afQ] at q1
     subst q1
     rcases q2 with q2 | q2
     ·rw [hr.2] at q2; simp at q2
     ·exact q2
   rw [g2,lZ hb] at h3
   refine ⟨h3.2, ?_⟩
   rintro (hx | ⟨e,he,hel⟩ | ⟨hx,_⟩)
   rotate_left 2
   ·rcases hty with ⟨_,hnb⟩ | hty
    ·exact hnb hx
    ·have:=hty (r,n) hn
     simp only at this
     rw [hnr] at this
     simp at this
   ·have:=hx R' g1
    rw [h2] at this
    simp at this
   ·rcases hty with ⟨⟨t,ht,Ou⟩,_⟩ | hty
    ·have Ou:=H.J6 ((H.roots r R hr).mine b hbr) Ou
     rw [hel] at Ou
     simp only [afQ] at Ou
     subst Ou
     exact h3.1 e he ht
    ·have:=hty (r,n) hn
     simp only at this
     rw [hnr] at this
     simp at this
theorem kI.views (H:Rel cx σ α F a w) (T:kI cx σ α F w σ' α' F' w' lw lh):Views cx σ α F w σ' α' F' w':=by
 intro Tg tys hw hc
 refine ⟨?_, ?_⟩
 ·rw [lD]
  intro t ht
  have hc':=lD.1 hc t ht
  rcases hw t ht with h | ⟨R,h1,h2⟩
  ·exact .inl h
  ·cases hd:R.aZ with
   | false=>
    refine .inr ⟨R,h1,hd, ?_⟩
    rcases hc' with hx | ⟨Q,q1,q2,q3⟩
    ·have:=(H.dh _ _ h1).2.1
     rw [hx] at this
     simp at this
    ·obtain ⟨R',g1,g2⟩:=T.old _ R h1
     rw [g1] at q1
     simp only [afQ] at q1
     subst q1
     rcases g2 with ⟨g2,_⟩ | ⟨_,g2,_⟩
     ·rw [q2] at g2; simp at g2
     ·rcases h2 with h2 | h2
      ·rw [hd] at h2; simp at h2
      ·rw [g2,lZ h2] at q3
       exact q3.2
   | true=>
    rcases hc' with hx | ⟨Q,q1,q2,q3⟩
    ·exact .inl hx
    ·obtain ⟨R',g1,g2⟩:=T.old _ R h1
     rw [g1] at q1
     simp only [afQ] at q1
     subst q1
     rcases g2 with ⟨g2,_⟩ | ⟨g2,_⟩
     ·rw [q2] at g2; simp at g2
     ·rw [hd] at g2; simp at g2
 ·have hQ:∀b,Cv σ α F w Tg b→((∃t∈tys,q9 (hp w) b t)∧¬jS cx b∨∀t∈Tg,fC t.1=true)→Cv σ' α' F' w' Tg b∧hp w' b=hp w b:=by
   intro b hb hty
   obtain ⟨hb1,hb2,hb3⟩:=hb
   have hno:¬∃r R,aN σ r R∧b∈blk α R r∧Loose cx σ' lw w r b:=by
    rintro ⟨r,R,hr,hbr,hl⟩
    obtain ⟨n,hn⟩:=hb3 r R hr hbr
    exact (T.held H hw hc hr hn hbr hty).2 hl
   have hsame:hp w' b=hp w b:=by
    refine agc fun hne=>?_
    rcases T.Iw b hb1 hne with h | h
    ·exact hb2 h
    ·exact hno h
   have hnew:¬(b∈F∨(w.heap.size≤b∧b<w'.heap.size)∨∃r R,aN σ r R∧b∈blk α R r∧Loose cx σ' lw w r b):=by
    rintro (h | h | h)
    ·exact hb2 h
    ·omega
    ·exact hno h
   refine ⟨⟨Nat.lt_of_lt_of_le hb1 T.size,fun hF=>hnew (T.new b (.inr hF)), ?_⟩,hsame⟩
   intro q Q hq hbq
   by_cases e:∃R,aN σ q R∧b∈blk α R q
   ·obtain ⟨R,hR,hbR⟩:=e
    exact hb3 q R hR hbR
   ·exact absurd (T.new b (.inl ⟨q,Q,hq,hbq,e⟩)) hnew
  refine ⟨fun b hb hty=>?_,hQ⟩
  obtain ⟨hb1,hb2,hb5,hb3,hb4⟩:=hb
  obtain ⟨⟨g1,g2,g3⟩,g4⟩:=hQ b ⟨hb1,hb2,hb3⟩ (hty.imp (fun h=>⟨h,hb5⟩) id)
  exact ⟨⟨g1,g2,hb5,g3,hb4⟩,g4⟩
theorem kI.stay (H:Rel cx σ α F a w) (T:kI cx σ α F w σ' α' F' w' lw lh) {q:Nat} {Q:Root} (hq:aN σ q Q) (hs:Same σ α σ' α' q):∀b∈blk α Q q,¬(b∈F∨(w.heap.size≤b∧b<w'.heap.size)∨∃r R,aN σ r R∧b∈blk α R r∧Loose cx σ' lw w r b):=by
 rintro b hb (h | h | ⟨r,R,hr,hbr,hl⟩)
 ·exact H.iB q Q hq b hb h
 ·have:=((H.roots q Q hq).mine b hb).1; omega
 ·by_cases e:q=r
  ·subst e
   obtain ⟨R',g1,g2⟩:=T.old _ Q hq.1
   have hR':R'=Q:=by
    have:=hs.root
    rw [g1,hq.1] at this
    simpa using this
   subst hR'
   rcases g2 with ⟨g2,_⟩ | ⟨_,g2,_⟩
   ·rw [hq.2] at g2; simp at g2
   ·have hw0:lw q=[]:=by
     have:=congrArg List.length g2
     simp at this
     exact this
    rcases hl with hl | ⟨e,he,_⟩ | ⟨_,hl⟩
    ·have:=hl R' g1
     rw [hq.2] at this
     simp at this
    ·rw [hw0] at he; simp at he
    ·exact hl hw0
  ·exact H.AB q Q r R hq hr e b hb hbr
theorem kI.other (H:Rel cx σ α F a w) (T:kI cx σ α F w σ' α' F' w' lw lh) {q:Nat} {Q:Root} (hq:aN σ q Q) (hs:Same σ α σ' α' q):∀b∈blk α Q q,hp w' b=hp w b:=by
 intro b hb
 refine agc fun hne=>?_
 have:=T.stay H hq hs b hb
 rcases T.Iw b ((H.roots q Q hq).mine b hb).1 hne with h | h
 ·exact this (.inl h)
 ·exact this (.inr (.inr h))
theorem kI.av (H:Rel cx σ α F a w) (T:kI cx σ α F w σ' α' F' w' lw lh)
  (za:∀r R,aN σ r R→¬Same σ α σ' α' r→∀p n v,n≤fV R.h→bH cx σ α F w (.ptr r p n) v→bH cx σ' α' F' w' (.ptr r p n) v)
  (wE:∀r R,aN σ r R→¬Same σ α σ' α' r→∀g v,g≤R.g→bH cx σ α F w (.ref r g) v→bH cx σ' α' F' w' (.ref r g) v)
  {x:AV} {v:Value} (hx:Ow.nW σ x) (h:bH cx σ α F w x v):bH cx σ' α' F' w' x v:=by
 have hV:=T.views H
 have wD:∀{q:Nat} {Q:Root} {p:List Stp},σ.roots q=some Q→Same σ α σ' α' q→bn σ' Q→kH p Q.k Q.x→(∀t∈aa p Q.k,au t Q.own=true)→
   bE (hp w') p Q.k (α'.hdr q) (dQ α' Q q)=bE (hp w) p Q.k (α.hdr q) (dQ α Q q):=by
  intro q Q p hq hs hv hin hty
  have hv':=qU hV (H.dh q Q hq).1 hv
  have hlive:aN σ q Q:=⟨hq,hv'.1⟩
  rw [hs.hdr,hs.wh]
  exact Cr p ((H.roots q Q hlive).ow hv') hin hty (fun b hb=>T.other H hlive hs b (afS _ hb))
 have hlive:∀{q:Nat} {Q R':Root},σ.roots q=some Q→σ'.roots q=some R'→R'.aZ=false→aN σ q Q∧Stepped σ α σ' α' lw lh q Q R':=by
  intro q Q R' h1 h2 hd
  obtain ⟨R'',g1,g2⟩:=T.old _ Q h1
  rw [h2] at g1
  simp only [afQ] at g1
  subst g1
  rcases g2 with ⟨g2,_⟩ | ⟨gd,g2⟩
  ·rw [hd] at g2; simp at g2
  ·exact ⟨⟨h1,gd⟩,g2⟩
 have OL:∀q g v,Ow.nW σ (.ref q g)→bH cx σ α F w (.ref q g) v→bH cx σ' α' F' w' (.ref q g) v:=by
  intro q g v hx h
  obtain ⟨Q,h1,h2⟩:=hx
  intro R' hR' hg
  obtain ⟨hl,hst⟩:=hlive h1 hR'.1 hR'.2
  by_cases e:Same σ α σ' α' q
  ·have hQ:R'=Q:=by
    have:=e.root
    rw [hR'.1,h1] at this
    simpa using this
   subst hQ
   have:=h R' hl hg
   rw [e.hdr]
   exact this
  ·rcases h2 with h2 | h2
   ·rw [hl.2] at h2; simp at h2
   ·exact wE q Q hl e g v h2 h R' hR' hg
 have Sn:∀{q:Nat} {Q R':Root} {n:Nat},σ.roots q=some Q→(Q.aZ=true∨n≤Q.rR)→σ'.roots q=some R'→R'.aZ=false→R'.rR=n→aN σ q Q∧Same σ α σ' α' q:=by
  intro q Q R' n h1 h2 hR' hd hn
  obtain ⟨hl,hst⟩:=hlive h1 hR' hd
  obtain ⟨s1,s2,_,_,_,_,s6⟩:=hst
  rcases s6 with s6 | ⟨_,_,e⟩
  ·exfalso
   rcases h2 with h2 | h2
   ·rw [hl.2] at h2; simp at h2
   ·simp only [Root.rR,s1,s2,mh,afY] at hn h2
    rcases s6 with g5 | g5 <;> (have:=List.length_pos_iff.2 g5; omega)
  ·exact ⟨hl,e⟩
 cases x with
 | undef=>trivial
 | val k x Tg=>
  intro hc
  rcases hc with hc | hc
  ·obtain ⟨cs,h1,h2⟩:=h (.inl hc)
   exact ⟨cs,h1,iF hc h2⟩
  ·obtain ⟨cs,h1,h2⟩:=h (.inr (hV Tg _ hx hc).1)
   exact ⟨cs,h1,hV.vw hx hc (fun _ h=>h) h2⟩
 | iC=>exact h
 | ref q g=>exact OL q g v hx h
 | Bu q g k p=>
  obtain ⟨u,b,off,k1,e1,hq,hc,e2,hr⟩:=h
  obtain ⟨h1,h2⟩:=(hV [] [] (fun _ h=>by simp at h) rfl).2.2 b hq (.inr (fun _ h=>by simp at h))
  exact ⟨u,b,off,k1,e1,h1,hc.congr h2,e2,OL q g u hx hr⟩
 | oQ q p n=>
  obtain ⟨Q,h1,h2⟩:=hx
  intro R' hR' hv hn d hd
  obtain ⟨hl,hst⟩:=hlive h1 hR' hv.1
  obtain ⟨s1,s2,_,_,_,_,s6⟩:=hst
  rcases s6 with s6 | ⟨_,_,e⟩
  ·exfalso
   rcases h2 with h2 | h2
   ·rw [hl.2] at h2; simp at h2
   ·simp only [Root.rR,s1,s2,mh,afY] at hn h2
    rcases s6 with g5 | g5 <;> (have:=List.length_pos_iff.2 g5; omega)
  ·have hQ:R'=Q:=by
    have:=e.root
    rw [hR',h1] at this
    simpa using this
   subst hQ
   have hv':=qU hV (H.dh q R' h1).1 hv
   obtain ⟨h1',h2',cs,wh,h3,h4⟩:=h R' h1 hv' hn d hd
   exact ⟨h1',h2',cs,wh,by rw [wD h1 e hv h1' h2']; exact h3,h4⟩
 | ptr q p n=>
  obtain ⟨Q,h1,h2⟩:=hx
  refine ⟨h.1, ?_⟩
  intro R' hR' hv hn hty hs
  obtain ⟨hl,hst⟩:=hlive h1 hR' hv.1
  by_cases e:Same σ α σ' α' q
  ·have hQ:R'=Q:=by
    have:=e.root
    rw [hR',h1] at this
    simpa using this
   subst hQ
   have hv':=qU hV (H.dh q R' h1).1 hv
   obtain ⟨h1',cs,b,o,h3,h4⟩:=h.2 R' h1 hv' hn hty hs
   exact ⟨h1',cs,b,o,by rw [wD h1 e hv h1' hty]; exact h3,h4⟩
  ·rcases h2 with h2 | h2
   ·rw [hl.2] at h2; simp at h2
   ·exact (za q Q hl e p n v h2 h).2 R' hR' hv hn hty hs
 | iK bt k x Tg=>exact hV.ro hx h
 | oz=>exact h
 | u6 _=>exact h
 | part q g lo hi sz=>
  obtain ⟨b',b,n,c,e1,e2,e3,e4,e5,hr⟩:=h
  exact ⟨b',b,n,c,e1,e2,e3,e4,e5,OL q g (.slice b n c) hx hr⟩
 | sW q p n m=>
  obtain ⟨Q,h1,h2⟩:=hx
  obtain ⟨b,c,ev,h⟩:=h
  refine ⟨b,c,ev, ?_⟩
  intro R' hR' hv hn d hd
  obtain ⟨hl,e⟩:=Sn h1 h2 hR' hv.1 hn
  have hQ:R'=Q:=by
   have:=e.root
   rw [hR',h1] at this
   simpa using this
  subst hQ
  have hv':=qU hV (H.dh q R' h1).1 hv
  obtain ⟨h1',h2',n',wh,h3,h4⟩:=h R' h1 hv' hn d hd
  exact ⟨h1',h2',n',wh,by rw [wD h1 e hv h1' h2']; exact h3,h4⟩
 | app q p n q2=>
  obtain ⟨⟨Q,h1,h2⟩,⟨Q2,h12⟩⟩:=hx
  intro R' hR' hv hn R2 hR2 hn2
  obtain ⟨hl,e⟩:=Sn h1 h2 hR' hv.1 hn
  have hQ:R'=Q:=by
   have:=e.root
   rw [hR',h1] at this
   simpa using this
  subst hQ
  obtain ⟨hl2,acO⟩:=hlive h12 hR2.1 hR2.2
  have e2:Same σ α σ' α' q2:=by
   obtain ⟨s1,s2,_,_,_,_,s6⟩:=acO
   rcases s6 with s6 | ⟨_,_,e⟩
   ·exfalso
    simp only [Root.rR,s1,s2,mh,afY] at hn2
    rcases s6 with g5 | g5 <;> (have:=List.length_pos_iff.2 g5; omega)
   ·exact e
  have Ub:R2=Q2:=by
   have:=e2.root
   rw [hR2.1,h12] at this
   simpa using this
  subst Ub
  have hv':=qU hV (H.dh q R' h1).1 hv
  obtain ⟨te,kk,xs,wh,b,m,c,ce,hq,b1,o1,c1,arr,lo,hi,a1,a2,a3,a4,a5,a6,a7,a8,a9,a10,a11,a12,a13,TN⟩:=h R' h1 hv' hn R2 hl2 hn2
  have hsR:∀b∈α.fo q,hp w' b=hp w b:=fun b hb=>T.other H hl e b (afS _ hb)
  have hsQ:∀b∈α.fo q2,hp w' b=hp w b:=fun b hb=>T.other H hl2 e2 b (afS _ hb)
  have hb1:hp w' b1=hp w b1:=by
   rcases TN with ⟨_,h,_⟩ | ⟨_,h,_⟩
   ·exact hsR b1 h
   ·exact hsQ b1 h
  refine ⟨te,kk,xs,wh,b,m,c,ce,hq,b1,o1,c1,arr,lo,hi,a1,a2,a3,by rw [wD h1 e hv a2 a3]; exact a4,a5,by rw [e2.hdr]; exact a6,a7,a8,a9,hb1.trans a10,a11,a12,a13.congr hb1, ?_⟩
  rcases TN with ⟨z1,z2,z3⟩ | ⟨z1,z2,z3⟩
  ·exact .inl ⟨z1,by rw [e.fo]; exact z2,z3⟩
  ·refine .inr ⟨z1,by rw [e2.fo]; exact z2,fun hm=>?_⟩
   obtain ⟨b0,o0,y1,y2,y3⟩:=z3 hm
   exact ⟨b0,o0,y1,by rw [e.fo]; exact y2,fun i hi'=>by rw [qJ hb1,qJ (hsR b0 y2)]; exact y3 i hi'⟩
 | fn f cs=>
  obtain ⟨vs,h1,h2⟩:=h
  exact ⟨vs,h1,hV.caps hx h2⟩
theorem xe {cx:Cx} {σ σ':St} {α α':dI} {F F':List Nat} {w w':World} {P:AV→Prop} (h:∀x v,P x→bH cx σ α F w x v→bH cx σ' α' F' w' x v) :
  ∀{l:List AV} {vs:List Value},(∀x∈l,P x)→dO cx σ α F w l vs→dO cx σ' α' F' w' l vs
 | [],[],_,_=>trivial
 | x :: l,v :: vs,hp,hl=>⟨h x v (hp x (by simp)) hl.1,xe h (fun y hy=>hp y (by simp [hy])) hl.2⟩
 | [],_ :: _,_,hl=>hl.elim
 | _ :: _,[],_,hl=>hl.elim
theorem Lc {cx:Cx} {σ σ':St} {α α':dI} {F F':List Nat} {w w':World} (h:∀x v,nW σ x→bH cx σ α F w x v→bH cx σ' α' F' w' x v) {x:sK} {v:Value} (hx:sO σ x) (hv:iM cx σ α F w x v):iM cx σ' α' F' w' x v:=by
 cases x with
 | one a=>exact h a v hx hv
 | CV l=>
  obtain ⟨vs,h1,h2⟩:=hv
  exact ⟨vs,h1,xe h hx h2⟩
 | lit _ _ l=>
  obtain ⟨vs,cs,h1,h2⟩:=hv
  exact ⟨vs,cs,h1,xe h hx h2⟩
theorem Rel.turn (H:Rel cx σ α F a w) (T:kI cx σ α F w σ' α' F' w' lw lh)
  (hroot:∀r R,aN σ' r R→¬Same σ α σ' α' r→(bn σ' R→Ow (hp w') R.own (gV cx σ' α' F' w' R.tags) R.k R.x (α'.hdr r) (α'.fo r))∧(α'.hdr r).length=R.k.size∧
   (∀b o,dQ α' R r=some (b,o)→Cells (hp w') b o (α'.hdr r)∧∃arr e lo hi,hp w' b=some (.cells arr e (lo,hi))∧yI arr.size lo hi∧o+R.k.size≤arr.size∧(∀t,R.kind=.var t→e=t))∧
   (blk α' R r).Nodup)
  (za:∀r R,aN σ r R→¬Same σ α σ' α' r→∀p n v,n≤fV R.h→bH cx σ α F w (.ptr r p n) v→bH cx σ' α' F' w' (.ptr r p n) v)
  (wE:∀r R,aN σ r R→¬Same σ α σ' α' r→∀g v,g≤R.g→bH cx σ α F w (.ref r g) v→bH cx σ' α' F' w' (.ref r g) v) :
  Rel cx σ' α' F' a w':=by
 have hV:=T.views H
 have OD:∀{r R b},aN σ r R→b∈blk α R r→mine cx w' b:=fun hr hb=>by
  have:=(H.roots _ _ hr).mine _ hb
  exact ⟨Nat.lt_of_lt_of_le this.1 T.size,this.2⟩
 have iZ:∀b,(b∈F∨(w.heap.size≤b∧b<w'.heap.size)∨∃r R,aN σ r R∧b∈blk α R r∧Loose cx σ' lw w r b)→mine cx w' b:=by
  rintro b (hb | hb | ⟨r,R,hr,hb,_⟩)
  ·have:=H.fl b hb
   exact ⟨Nat.lt_of_lt_of_le this.1 T.size,this.2⟩
  ·exact ⟨hb.2, .inl (Nat.le_trans H.frame.2.2.2.1 hb.1)⟩
  ·exact OD hr hb
 have OC:∀{r R b},aN σ' r R→b∈blk α' R r→mine cx w' b:=by
  intro r R b hr hb
  by_cases e:∃Q,aN σ r Q∧b∈blk α Q r
  ·obtain ⟨Q,hQ,hbQ⟩:=e
   exact OD hQ hbQ
  ·exact iZ b (T.new b (.inl ⟨r,R,hr,hb,e⟩))
 have GZ:∀{q Q r R b},aN σ' q Q→Same σ α σ' α' q→aN σ' r R→r≠q→b∈blk α' Q q→b∉blk α' R r:=by
  intro q Q r R b hq hs hr hne hb hb'
  have hq':=(hs.live Q).1 hq
  rw [hs.blk] at hb
  by_cases e:∃R0,aN σ r R0∧b∈blk α R0 r
  ·obtain ⟨R0,h1,h2⟩:=e
   exact H.AB q Q r R0 hq' h1 (Ne.symm hne) b hb h2
  ·exact T.stay H hq' hs b hb (T.new b (.inl ⟨r,R,hr,hb',e⟩))
 constructor
 ·exact H.defs
 ·exact H.sz
 ·intro j pi b o n hj hb
  obtain ⟨R,h1,h2,h3,h4⟩:=H.jT j pi b o n hj hb
  obtain ⟨R',g1,g2⟩:=T.old _ R h1.1
  rcases g2 with g2 | ⟨_,g2⟩
  ·exact absurd h2 g2.2
  ·refine ⟨R',⟨g1, ?_⟩,g2.2.2.2.1.trans h2,g2.2.2.2.2.1.trans h3,(g2.2.2.2.2.2.1 h2).trans h4⟩
   unfold Root.aZ
   rw [g2.2.2.2.1,h2]
 ·intro q Q hq hk
  cases hs:σ.roots q with
  | none=>exact absurd hk (T.Ye q Q hs hq.1)
  | some R=>
   obtain ⟨R',g1,g2⟩:=T.old q R hs
   rw [hq.1] at g1
   simp only [afQ] at g1
   subst g1
   rcases g2 with ⟨g2,_⟩ | ⟨gd,g2⟩
   ·rw [hq.2] at g2; simp at g2
   ·rw [g2.2.2.2.2.1]
    exact H.yu q R ⟨hs,gd⟩ (g2.2.2.2.1▸hk)
 ·intro s
  rw [T.slots]
  exact Lc (fun x v hx h=>T.av H za wE hx h) (H.oF s) (H.slots s)
 ·intro s
  rw [T.slots]
  exact T.sO (H.oF s)
 ·intro q Q hq
  by_cases e:Same σ α σ' α' q
  ·have hq':=(e.live Q).1 hq
   have K:=H.roots q Q hq'
   have hsame:=T.other H hq' e
   constructor
   ·intro hv
    have hv':=qU hV (H.dh q Q hq'.1).1 hv
    rw [e.hdr,e.fo]
    have hO:=K.ow hv'
    obtain ⟨_,g2,_⟩:=hV Q.tags Q.wF (H.dh q Q hq'.1).1 hv.2
    exact bq (fun b hb=>(g2 b hb.1 (.inl hb.2)).2) (fun b hb=>(g2 b hb.1 (.inl hb.2)).1) (fun b hb=>hsame b (afS _ hb)) (oN Q.wF (fun _ h=>h) hO)
   ·rw [e.hdr]; exact K.len
   ·intro b o hb
    rw [e.wh] at hb
    rw [e.hdr]
    obtain ⟨h1,arr,te,lo,hi,h2,h3⟩:=K.mem b o hb
    have hbb:hp w' b=hp w b:=hsame b (by unfold blk; rw [hb]; simp)
    exact ⟨h1.congr hbb,arr,te,lo,hi,hbb.trans h2,h3⟩
   ·rw [e.blk]; exact K.nd
   ·exact fun b hb=>OC hq hb
  ·obtain ⟨h1,h2,h3,h4⟩:=hroot q Q hq e
   exact ⟨h1,h2,h3,h4,fun b hb=>OC hq hb⟩
 ·intro q Q hq
  by_cases e:Same σ α σ' α' q
  ·obtain ⟨h1,h2,h3⟩:=H.dh q Q (by rw [←e.root]; exact hq)
   exact ⟨fun t ht=>T.tag (h1 t ht),h2,h3⟩
  ·exact T.wr q Q hq e
 ·intro q Q q' Q' hq hq' hne b hb hb'
  by_cases e:Same σ α σ' α' q
  ·exact GZ hq e hq' (Ne.symm hne) hb hb'
  ·by_cases e':Same σ α σ' α' q'
   ·exact GZ hq' e' hq hne hb' hb
   ·exact T.AB q Q q' Q' hq hq' hne e e' b hb hb'
 ·exact fun b hb=>iZ b (T.new b (.inr hb))
 ·exact T.uU
 ·intro q Q hq b hb hF
  by_cases e:Same σ α σ' α' q
  ·rw [e.blk] at hb
   exact T.stay H ((e.live Q).1 hq) e b hb (T.new b (.inr hF))
  ·exact T.iB q Q hq e b hb hF
 ·obtain ⟨f1,f2,f3,f4,f5,f6⟩:=H.frame
  refine ⟨T.os.1.trans f1,T.os.2.1.trans f2,T.os.2.2.trans f3,Nat.le_trans f4 T.size, ?_, ?_⟩
  ·intro b hb hno
   have:hp w' b=hp w b:=by
    refine agc fun hne=>?_
    have hm:mine cx w b:=by
     rcases T.Iw b (Nat.lt_of_lt_of_le hb f4) hne with h | ⟨r,R,hr,h,_⟩
     ·exact H.fl b h
     ·exact (H.roots r R hr).mine b h
    rcases hm.2 with h | ⟨j,pi,h1,h2⟩
    ·omega
    ·exact hno j pi h1 h2
   exact this.trans (f5 b hb hno)
  ·intro j pi b o n hj hb
   by_cases hne:hp w' b=hp w b
   ·have:=f6 j pi b o n hj hb
    obtain ⟨arr,jG,e,fr,h1,h2,h3⟩:=this
    exact ⟨arr,jG,e,fr,h1,hne.trans h2,h3⟩
   ·exact T.base j pi b o n hj hb hne
 ·intro j pi hj hk
  obtain ⟨R,h1,h2⟩:=H.qb j pi hj hk
  obtain ⟨R',g1,g2⟩:=T.old _ R h1
  refine ⟨R',g1,fun hd b hb hnb=>?_⟩
  rcases g2 with ⟨g2,_⟩ | ⟨gd,g2,_⟩
  ·rw [hd] at g2; simp at g2
  ·have hev:=(T.ev _ R R' h1 g1 hd).1
   rcases h2 gd b hb hnb with ⟨e,he,sU⟩ | ⟨hs,hF,hown⟩
   ·refine .inl ⟨e,he, ?_⟩
    rw [g2,hev]
    rcases sU with h | h
    ·exact .inl (afS _ h)
    ·exact .inr h
   ·by_cases sU:∃e∈lw (ak j),ni (hp w) b=some e
    ·obtain ⟨e,he,hel⟩:=sU
     exact .inl ⟨e,(BD hs).symm.trans hel, .inl (by rw [g2]; exact afV _ he)⟩
    ·have hno:¬∃r Q,aN σ r Q∧b∈blk α Q r∧Loose cx σ' lw w r b:=by
      rintro ⟨r,Q,hr,hbr,hl⟩
      have e:=hown r Q hr hbr
      subst e
      rcases hl with hl | hl | ⟨hl,_⟩
      ·have:=hl R' g1
       rw [hd] at this
       simp at this
      ·exact sU hl
      ·exact hnb hl
     by_cases hlt:b<w.heap.size
     ·refine .inr ⟨?_, ?_, ?_⟩
      ·refine Eq.trans ?_ hs
       refine agc fun hne=>?_
       rcases T.Iw b hlt hne with h | h
       ·exact hF h
       ·exact hno h
      ·intro hF'
       rcases T.new b (.inr hF') with h | h | h
       ·exact hF h
       ·omega
       ·exact hno h
      ·intro q Q hq hbq
       by_cases e:∃R,aN σ q R∧b∈blk α R q
       ·obtain ⟨R0,hR0,hbR⟩:=e
        exact hown q R0 hR0 hbR
       ·rcases T.new b (.inl ⟨q,Q,hq,hbq,e⟩) with h | h | h
        ·exact absurd h hF
        ·omega
        ·exact absurd h hno
     ·exact absurd (H.lK.1 j pi hj b hb) (by have:=H.frame.2.2.2.1; omega)
 ·exact H.lK
 ·intro j p ts v hv
  obtain ⟨hvp,R,h1,h2⟩:=H.rA j p ts v hv
  obtain ⟨R',g1,g2⟩:=T.old _ R h1
  refine ⟨hvp,R',g1,fun ht=>?_⟩
  cases hd:R'.aZ with
  | true=>
   rcases g2 with ⟨_,g2⟩ | ⟨gd,g2⟩
   ·refine ⟨hvp,fun Q hQ hv'=>?_⟩
    rw [g1] at hQ
    simp only [afQ] at hQ
    subst hQ
    have:=hv'.1
    rw [hd] at this
    simp at this
   ·have:R'.aZ=R.aZ:=by unfold Root.aZ; rw [g2.2.2.2.1]
    rw [hd,gd] at this
    simp at this
  | false=>
   have hev:=(T.ev _ R R' h1 g1 hd).2
   exact T.av H za wE (show Ow.nW σ (.ptr (ak j) p 0) from ⟨R,h1, .inr (agq _)⟩) (h2 (by rw [←hev]; exact ht))
 ·intro j v hv
  obtain ⟨⟨R,h1⟩,h2⟩:=H.rC j v hv
  obtain ⟨R',g1,_⟩:=T.old _ R h1
  exact ⟨⟨R',g1⟩,T.av H za wE (show Ow.nW σ (.ref (ak j) 0) from ⟨R,h1, .inr (agq _)⟩) h2⟩
end
def aj (σ:St) (r:Nat) (R:Root):St:={ σ with roots:=upd σ.roots r (some R) }
def aG (α:dI) (r:Nat) (loc:Nat×Nat) (hdr:List Value) (fo:List Nat):dI:=⟨upd α.loc r loc,upd α.hdr r hdr,upd α.fo r fo⟩
theorem aH (σ:St) (r:Nat) (R:Root):(aj σ r R).roots r=some R:=upd_same _ _ _
theorem bU (σ:St) {r q:Nat} (R:Root) (h:q≠r):(aj σ r R).roots q=σ.roots q:=upd_ne _ _ h
theorem Ck {σ:St} {r q:Nat} {R Q:Root} (h:q≠r):aN (aj σ r R) q Q↔aN σ q Q:=by unfold aN; rw [bU σ R h]
theorem eD {σ:St} {r:Nat} {R Q:Root} (h:aN (aj σ r R) r Q):Q=R∧R.aZ=false:=by
 have h1:=h.1
 rw [aH] at h1
 simp only [afQ] at h1
 subst h1
 exact ⟨rfl,h.2⟩
theorem gI {σ:St} {α:dI} {r q:Nat} {R:Root} {loc:Nat×Nat} {hdr:List Value} {fo:List Nat} (h:q≠r):Same σ α (aj σ r R) (aG α r loc hdr fo) q:=
 ⟨bU σ R h,upd_ne _ _ h,upd_ne _ _ h,upd_ne _ _ h⟩
theorem jO (σ:St) (α:dI) (q:Nat):Same σ α σ α q:=⟨rfl,rfl,rfl,rfl⟩
def gQ (R:Root) (loc:Nat×Nat) (fo:List Nat):List Nat:=(match R.kind with
 | .var _=>[loc.1]
 | .par=>[loc.1]
 | _=>[])++fo
theorem dY {α:dI} {r:Nat} {loc:Nat×Nat} {hdr:List Value} {fo:List Nat} {Q:Root}:blk (aG α r loc hdr fo) Q r=gQ Q loc fo:=by
 unfold blk gQ dQ aG
 simp only [upd_same] <;> cases Q.kind <;> rfl
theorem bV (α:dI) (R:Root) (r:Nat):blk α R r=gQ R (α.loc r) (α.fo r):=by
 unfold blk gQ dQ
 cases R.kind <;> rfl
def rX (R:Root) (loc:Nat×Nat):Option (Nat×Nat):=match R.kind with
 | .var _=>some loc
 | .par=>some loc
 | _=>none
theorem jf {α:dI} {r:Nat} {loc:Nat×Nat} {hdr:List Value} {fo:List Nat} {Q:Root}:dQ (aG α r loc hdr fo) Q r=rX Q loc:=by
 unfold dQ rX aG
 simp only [upd_same] <;> cases Q.kind <;> rfl
theorem qi (α:dI) (R:Root) (r:Nat):dQ α R r=rX R (α.loc r):=rfl
end
section
open Go
variable [Fr]
def iU (σ:St) (s:Nat→sK):St:=⟨s,σ.roots⟩
theorem nX (σ:St) (s:Nat→sK) (tys:List TypeId):∀(T:List Tag),bg (iU σ s) tys T=bg σ tys T
 | []=>rfl
 | (r,n) :: T=>by simp only [bg,nX σ s tys T]; rfl
section
variable {cx:Cx} {σ:St} {α:dI} {F:List Nat} {a:Act} {w:World}
theorem Ea (s:Nat→sK):gV cx (iU σ s) α F w=gV cx σ α F w:=rfl
theorem CK (s:Nat→sK) {bt:TypeId} {k:K} {x:El k} {T:List Tag} {v:Value}:CJ cx (iU σ s) α F w bt k x T v↔CJ cx σ α F w bt k x T v:=by
 unfold CJ
 rw [nX,Ea]
 exact Iff.rfl
theorem xO (s:Nat→sK):∀{cs:List (TypeId×Dat×List Tag)} {vs:List Value},jB cx (iU σ s) α F w cs vs↔jB cx σ α F w cs vs
 | [],[]=>Iff.rfl
 | c :: cs,v :: vs=>by simp only [jB,CK s,xO s]
 | [],_ :: _=>Iff.rfl
 | _ :: _,[]=>Iff.rfl
theorem mD (s:Nat→sK) {R:Root}:bn (iU σ s) R↔bn σ R:=by unfold bn; rw [nX]
theorem uj (s:Nat→sK) {x:AV} {v:Value}:bH cx (iU σ s) α F w x v↔bH cx σ α F w x v:=by
 cases x with
 | undef=>exact Iff.rfl
 | val k x T=>simp only [bH,nX,Ea]
 | iC=>exact Iff.rfl
 | ref r g=>exact Iff.rfl
 | Bu r g k p=>exact Iff.rfl
 | oQ r p n=>simp only [bH,mD]; exact Iff.rfl
 | ptr r p n=>simp only [bH,mD]; exact Iff.rfl
 | iK bt k x T=>exact CK s
 | oz=>exact Iff.rfl
 | u6 _=>exact Iff.rfl
 | part _ _ _ _ _=>exact Iff.rfl
 | sW _ _ _ _=>simp only [bH,mD]; exact Iff.rfl
 | app _ _ _ _=>simp only [bH,mD]; exact Iff.rfl
 | fn f cs=>simp only [bH,xO s]
theorem uO (s:Nat→sK):∀{l:List AV} {vs:List Value},dO cx (iU σ s) α F w l vs↔dO cx σ α F w l vs
 | [],[]=>Iff.rfl
 | c :: cs,v :: vs=>by simp only [dO,uj s,uO s]
 | [],_ :: _=>Iff.rfl
 | _ :: _,[]=>Iff.rfl
theorem zB (s:Nat→sK) {x:sK} {v:Value}:iM cx (iU σ s) α F w x v↔iM cx σ α F w x v:=by
 cases x with
 | one a=>exact uj s
 | CV l=>simp only [iM,uO s]
 | lit _ _ l=>simp only [iM,uO s]
theorem Bd (s:Nat→sK) {x:sK}:sO (iU σ s) x↔sO σ x:=by cases x <;> exact Iff.rfl
theorem Rel.put (H:Rel cx σ α F a w) {d:Nat} {x:sK} {v:Value} (hd:d<cx.nt) (hw:sO σ x) (hx:iM cx σ α F w x v) :
  Rel cx (iU σ (upd σ.slots d x)) α F (a.put (some d) v) w where
 defs:=H.defs
 sz:=by simpa [Act.put] using H.sz
 jT:=H.jT
 yu:=H.yu
 slots:=by
  intro s
  rw [zB]
  show iM cx σ α F w (upd σ.slots d x s) _
  by_cases e:s=d
  ·subst e
   rw [upd_same]
   have:(a.put (some s) v).tmps.getD s undef=v:=by
    have:=H.sz
    simp [Act.put,Array.getElem?_setIfInBounds_self_of_lt (show s<a.tmps.size by omega)]
   rw [this]
   exact hx
  ·rw [upd_ne _ _ e]
   have:(a.put (some d) v).tmps.getD s undef=a.tmps.getD s undef:=by
    simp [Act.put,Array.getElem?_setIfInBounds_ne (Ne.symm e)]
   rw [this]
   exact H.slots s
 oF:=by
  intro s
  rw [Bd]
  show sO σ (upd σ.slots d x s)
  by_cases e:s=d
  ·subst e; rw [upd_same]; exact hw
  ·rw [upd_ne _ _ e]; exact H.oF s
 roots:=by
  intro r R hr
  have K:=H.roots r R hr
  exact ⟨fun hv=>K.ow ((mD _).1 hv),K.len,K.mem,K.nd,K.mine⟩
 dh:=H.dh
 AB:=H.AB
 fl:=H.fl
 uU:=H.uU
 iB:=H.iB
 frame:=H.frame
 qb:=H.qb
 lK:=H.lK
 rA:=fun j p ts v h=>let ⟨h0,R,h1,h2⟩:=H.rA j p ts v h; ⟨h0,R,h1,fun ht=>(uj _).2 (h2 ht)⟩
 rC:=H.rC
def dw (w:World) (n:Nat):World:={ w with drawn:=n }
theorem DL (n:Nat):∀{cs:List (TypeId×Dat×List Tag)} {vs:List Value},jB cx σ α F w cs vs→jB cx σ α F (dw w n) cs vs
 | [],[],_=>trivial
 | _ :: _,_ :: _,h=>⟨h.1,DL n h.2⟩
 | [],_ :: _,h=>h.elim
 | _ :: _,[],h=>h.elim
theorem Au (n:Nat) {x:AV} {v:Value} (h:bH cx σ α F w x v):bH cx σ α F (dw w n) x v:=by
 cases x with
 | fn f cs=>obtain ⟨vs,h1,h2⟩:=h; exact ⟨vs,h1,DL n h2⟩
 | undef=>exact h
 | val k x T=>exact h
 | iC=>exact h
 | ref r g=>exact h
 | Bu r g k p=>exact h
 | oQ r p n=>exact h
 | ptr r p n=>exact h
 | iK bt k x T=>exact h
 | oz=>exact h
 | u6 _=>exact h
 | part _ _ _ _ _=>exact h
 | sW _ _ _ _=>exact h
 | app _ _ _ _=>exact h
theorem Rel.drawn (H:Rel cx σ α F a w) (n:Nat):Rel cx σ α F a (dw w n) where
 defs:=H.defs
 sz:=H.sz
 jT:=H.jT
 yu:=H.yu
 slots:=fun s=>by
  have h:=H.slots s
  generalize σ.slots s=x at h
  cases x with
  | one a=>exact Au n h
  | CV l=>
   obtain ⟨vs,h1,h2⟩:=h
   refine ⟨vs,h1, ?_⟩
   clear h1
   induction l generalizing vs with
   | nil=>cases vs with
    | nil=>trivial
    | cons v vs=>exact h2.elim
   | cons b l ih=>cases vs with
    | nil=>exact h2.elim
    | cons v vs=>exact ⟨Au n h2.1,ih vs h2.2⟩
  | lit _ _ l=>
   obtain ⟨vs,cs,h1,h2⟩:=h
   refine ⟨vs,cs,h1, ?_⟩
   clear h1
   induction l generalizing vs with
   | nil=>cases vs with
    | nil=>trivial
    | cons v vs=>exact h2.elim
   | cons b l ih=>cases vs with
    | nil=>exact h2.elim
    | cons v vs=>exact ⟨Au n h2.1,ih vs h2.2⟩
 oF:=H.oF
 roots:=fun r R hr=>let K:=H.roots r R hr; ⟨K.ow,K.len,K.mem,K.nd,K.mine⟩
 dh:=H.dh
 AB:=H.AB
 fl:=H.fl
 uU:=H.uU
 iB:=H.iB
 frame:=H.frame
 qb:=H.qb
 lK:=H.lK
 rA:=fun j p ts v h=>let ⟨h0,R,h1,h2⟩:=H.rA j p ts v h; ⟨h0,R,h1,fun ht=>Au n (h2 ht)⟩
 rC:=H.rC
def o8 (r:Nat) (l:List Nat):Nat→List Nat:=fun q=>if q=r then l else []
theorem qR (r:Nat) (l:List Nat):o8 r l r=l:=if_pos rfl
theorem mW {r q:Nat} (l:List Nat) (h:q≠r):o8 r l q=[]:=if_neg h
variable {r:Nat} {R R':Root} {hdr':List Value} {dA F':List Nat} {w':World} {lw lh:List Nat}
def II (cx:Cx) (R':Root) (lw:List Nat) (w:World) (b:Nat):Prop:=R'.aZ=true∨(∃e∈lw,ni (hp w) b=some e)∨(jS cx b∧lw≠[])
structure vg (cx:Cx) (σ:St) (α:dI) (F:List Nat) (w:World) (r:Nat) (R R':Root) (dA F':List Nat) (w':World) (lw lh:List Nat):Prop where
 step:(R'.aZ=true∧R.kind≠.par)∨(R'.w=lw++R.w∧R'.h=lh++R.h∧R.g≤R'.g∧R'.kind=R.kind∧(R.kind=.par→R'.k.size=R.k.size)∧(lw≠[]∨lh≠[]))
 tags:eG σ R'.tags∧∀n,(r,n)∉R'.tags
 os:w'.os=w.os∧w'.tape=w.tape∧w'.output=w.output
 size:w.heap.size≤w'.heap.size
 Iw:∀b,b<w.heap.size→hp w' b≠hp w b→b∈F∨(b∈blk α R r∧II cx R' lw w b)
 new:R'.aZ=false→∀b∈gQ R' (α.loc r) dA,b∈blk α R r∨b∈F∨(w.heap.size≤b∧b<w'.heap.size)
 newF:∀b∈F',b∈F∨(w.heap.size≤b∧b<w'.heap.size)∨(b∈blk α R r∧II cx R' lw w b)
 uU:F'.Nodup
 iB:R'.aZ=false→∀b∈gQ R' (α.loc r) dA,b∉F'
 base:∀j pi b o n,cx.par j=some pi→pi.base=some (b,o,n)→r=ak j→hp w' b≠hp w b→gu (hp cx.w0) (hp w') b o n
 ev:R'.aZ=false→R'.ew=R.ew∧R'.eh=R.eh
theorem iQ {q:Nat} {Q:Root} (h:aN (aj σ r R') q Q):(q=r∧Q=R'∧R'.aZ=false)∨(q≠r∧aN σ q Q):=by
 by_cases e:q=r
 ·subst e
  obtain ⟨h1,h2⟩:=eD h
  exact .inl ⟨rfl,h1,h2⟩
 ·exact .inr ⟨e,(Ck e).1 h⟩
theorem vg.turn (H:Rel cx σ α F a w) (hr:aN σ r R) (T:vg cx σ α F w r R R' dA F' w' lw lh) :
  kI cx σ α F w (aj σ r R') (aG α r (α.loc r) hdr' dA) F' w' (o8 r lw) (o8 r lh):=by
 have hsame:∀q,q≠r→Same σ α (aj σ r R') (aG α r (α.loc r) hdr' dA) q:=fun q h=>gI h
 have OB:∀b,II cx R' lw w b→Loose cx (aj σ r R') (o8 r lw) w r b:=by
  rintro b (h | ⟨e,he,hb⟩ | ⟨h,hl⟩)
  ·refine .inl fun Q hQ=>?_
   rw [aH] at hQ
   simp only [afQ] at hQ
   subst hQ
   exact h
  ·exact .inr (.inl ⟨e,by rw [qR]; exact he,hb⟩)
  ·exact .inr (.inr ⟨h,by rw [qR]; exact hl⟩)
 have hns:∀{q:Nat},¬Same σ α (aj σ r R') (aG α r (α.loc r) hdr' dA) q→q=r:=fun {q} h=>agc fun e=>h (hsame q e)
 refine ⟨rfl,T.os,T.size, ?_, ?_, ?_, ?_, ?_,T.uU, ?_, ?_, ?_, ?_⟩
 ·intro q Q hQ
  by_cases e:q=r
  ·subst e
   rw [hr.1] at hQ
   simp only [afQ] at hQ
   subst hQ
   refine ⟨R',aH .., ?_⟩
   rcases T.step with h | ⟨h1,h2,h3,h4,h5,h6⟩
   ·exact .inl h
   ·exact .inr ⟨hr.2,by rw [qR]; exact h1,by rw [qR]; exact h2,h3,h4,by simp [aG,upd_same],h5,by rw [qR,qR]; exact .inl h6⟩
  ·refine ⟨Q,by rw [bU σ R' e]; exact hQ, ?_⟩
   cases hd:Q.aZ with
   | true=>
    refine .inl ⟨rfl, ?_⟩
    intro hk
    simp [Root.aZ,hk] at hd
   | false=>exact .inr ⟨rfl,by rw [mW lw e]; rfl,by rw [mW lh e]; rfl,af6 _,rfl,by simp [aG,upd_ne _ _ e],fun _=>rfl, .inr ⟨mW lw e,mW lh e,hsame q e⟩⟩
 ·intro q Q hQ hs
  have e:=hns hs
  subst e
  rw [aH] at hQ
  simp only [afQ] at hQ
  subst hQ
  refine ⟨fun t ht=>?_,(H.dh q R hr.1).2.1,T.tags.2⟩
  have hne:t.1≠q:=fun e=>T.tags.2 t.2 (by rw [←e]; exact ht)
  rcases T.tags.1 t ht with h | ⟨Q,h1,h2⟩
  ·exact .inl h
  ·exact .inr ⟨Q,by rw [bU σ R' hne]; exact h1,h2⟩
 ·intro q Q hn hQ
  have e:q≠r:=fun e=>by rw [e,hr.1] at hn; simp at hn
  rw [bU σ R' e,hn] at hQ
  simp at hQ
 ·intro b hb hne
  exact (T.Iw b hb hne).imp id (fun h=>⟨r,R,hr,h.1,OB b h.2⟩)
 ·rintro b (⟨q,Q,hq,hb,hno⟩ | hb)
  ·rcases iQ hq with ⟨rfl,rfl,hd⟩ | ⟨e,hq'⟩
   ·rw [dY] at hb
    rcases T.new hd b hb with h | h | h
    ·exact absurd ⟨R,hr,h⟩ hno
    ·exact .inl h
    ·exact .inr (.inl h)
   ·rw [(hsame q e).blk] at hb
    exact absurd ⟨Q,hq',hb⟩ hno
  ·rcases T.newF b hb with h | h | h
   ·exact .inl h
   ·exact .inr (.inl h)
   ·exact .inr (.inr ⟨r,R,hr,h.1,OB b h.2⟩)
 ·intro q Q hq hs b hb
  have e:=hns hs
  subst e
  obtain ⟨rfl,hd⟩:=eD hq
  rw [dY] at hb
  exact T.iB hd b hb
 ·intro q Q q' Q' hq hq' hne hs hs'
  exact absurd ((hns hs).trans (hns hs').symm) hne
 ·intro j pi b o n hj hb hne
  obtain ⟨Q,hQ,hk,hl,hs⟩:=H.jT j pi b o n hj hb
  have hbq:b∈blk α Q (ak j):=by simp [blk,dQ,hk,hl]
  have hm:=(H.roots _ _ hQ).mine b hbq
  rcases T.Iw b hm.1 hne with h | ⟨h1,_⟩
  ·exact absurd h (H.iB _ _ hQ b hbq)
  ·refine T.base j pi b o n hj hb ?_ hne
   refine agc fun e=>?_
   exact H.AB _ _ _ _ hr hQ e b h1 hbq
 ·intro q Q Q' hQ hQ' hd
  by_cases e:q=r
  ·subst e
   rw [hr.1] at hQ
   rw [aH] at hQ'
   simp only [afQ] at hQ hQ'
   subst hQ
   subst hQ'
   exact T.ev hd
  ·rw [bU σ R' e,hQ] at hQ'
   simp only [afQ] at hQ'
   subst hQ'
   exact ⟨rfl,rfl⟩
theorem vg.rel (H:Rel cx σ α F a w) (hr:aN σ r R) (T:vg cx σ α F w r R R' dA F' w' lw lh)
  (hroot:R'.aZ=false→(bn (aj σ r R') R'→Ow (hp w') R'.own (gV cx (aj σ r R') (aG α r (α.loc r) hdr' dA) F' w' R'.tags) R'.k R'.x hdr' dA)∧hdr'.length=R'.k.size∧
   (∀b o,rX R' (α.loc r)=some (b,o)→Cells (hp w') b o hdr'∧∃arr e lo hi,hp w' b=some (.cells arr e (lo,hi))∧yI arr.size lo hi∧o+R'.k.size≤arr.size∧(∀t,R'.kind=.var t→e=t))∧
   (gQ R' (α.loc r) dA).Nodup)
  (za:R'.aZ=false→∀p n v,n≤fV R.h→bH cx σ α F w (.ptr r p n) v→bH cx (aj σ r R') (aG α r (α.loc r) hdr' dA) F' w' (.ptr r p n) v)
  (wE:R'.aZ=false→∀g v,g≤R.g→bH cx σ α F w (.ref r g) v→bH cx (aj σ r R') (aG α r (α.loc r) hdr' dA) F' w' (.ref r g) v) :
  Rel cx (aj σ r R') (aG α r (α.loc r) hdr' dA) F' a w':=by
 have hns:∀{q:Nat},¬Same σ α (aj σ r R') (aG α r (α.loc r) hdr' dA) q→q=r:=fun {q} h=>agc fun e=>h (gI e)
 have hRq:∀{Q:Root},aN σ r Q→Q=R:=fun {Q} hQ=>by have:=hQ.1; rw [hr.1] at this; simpa using this.symm
 refine H.turn (T.turn H hr) ?_ ?_ ?_
 ·intro q Q hq hs
  have e:=hns hs
  subst e
  obtain ⟨rfl,hd⟩:=eD hq
  obtain ⟨h1,h2,h3,h4⟩:=hroot hd
  refine ⟨fun hv=>?_, ?_, ?_, ?_⟩
  ·have:=h1 hv
   simpa [aG,upd_same] using this
  ·simpa [aG,upd_same] using h2
  ·intro b o hb
   rw [jf] at hb
   have:=h3 b o hb
   simpa [aG,upd_same] using this
  ·rw [dY]; exact h4
 ·intro q Q hq hs p n v hn hv
  have e:=hns hs
  subst e
  obtain rfl:=hRq hq
  cases hd:R'.aZ with
  | false=>exact za hd p n v hn hv
  | true=>
   refine ⟨hv.1, ?_⟩
   intro Q' hQ' hval
   rw [aH] at hQ'
   simp only [afQ] at hQ'
   subst hQ'
   have:=hval.1
   rw [hd] at this
   simp at this
 ·intro q Q hq hs g v hg hv
  have e:=hns hs
  subst e
  obtain rfl:=hRq hq
  cases hd:R'.aZ with
  | false=>exact wE hd g v hg hv
  | true=>
   intro Q' hQ'
   have:=(eD hQ').2
   rw [hd] at this
   simp at this
structure Held (cx:Cx) (σ:St) (α:dI) (F:List Nat) (w:World) (k:K) (x:El k) (own:List TypeId) (tags:List Tag) (cs:List Value) (fo:List Nat):Prop where
 ow:bg σ (aR own k) tags=true→Ow (hp w) own (gV cx σ α F w tags) k x cs fo
 wt:eG σ tags
 sub:∀b∈fo,b∈F
 nd:fo.Nodup
 len:cs.length=k.size
theorem Held.turn {σ':St} {α':dI} {lw lh:Nat→List Nat} {k:K} {x:El k} {own:List TypeId} {tags:List Tag} {cs:List Value} {fo:List Nat}
  (H:Rel cx σ α F a w) (T:kI cx σ α F w σ' α' F' w' lw lh) (h:Held cx σ α F w k x own tags cs fo) (hs:∀b∈fo,hp w' b=hp w b∧b∈F'):Held cx σ' α' F' w' k x own tags cs fo where
 ow:=fun hc=>by
  obtain ⟨h1,h2,_⟩:=T.views H tags _ h.wt hc
  exact bq (fun b hb=>(h2 b hb.1 (.inl hb.2)).2) (fun b hb=>(h2 b hb.1 (.inl hb.2)).1) (fun b hb=>(hs b hb).1) (oN _ (fun _ h=>h) (h.ow h1))
 wt:=fun t ht=>T.tag (h.wt t ht)
 sub:=fun b hb=>(hs b hb).2
 nd:=h.nd
 len:=h.len
theorem Held.slots {k:K} {x:El k} {own:List TypeId} {tags:List Tag} {cs:List Value} {fo:List Nat} (s:Nat→sK) (h:Held cx σ α F w k x own tags cs fo):Held cx (iU σ s) α F w k x own tags cs fo:=
 ⟨fun hc=>h.ow (by rw [nX] at hc; exact hc),h.wt,h.sub,h.nd,h.len⟩
end
end
section
open Go
variable [Fr]
theorem pU {h:Heap} {own:List TypeId} {ok:Nat→Prop}:∀{k:K} {x:El k} {cs:List Value} {fo:List Nat},Ow h own ok k x cs fo→∀b∈fo,∃e∈k.tys,au e own=true∧ni h b=some e:=by
 intro k
 induction k with
 | int ik=>intro x cs fo H b hb; rw [H.1] at hb; simp at hb
 | bool=>intro x cs fo H b hb; rw [H.1] at hb; simp at hb
 | id e=>intro x cs fo H b hb; rw [H.1] at hb; simp at hb
 | str=>intro x cs fo H b hb; rw [H.1] at hb; simp at hb
 | sl e k ih=>
  intro x cs fo H b' hb'
  unfold Ow at H
  split at H
  ·rename_i hm
   obtain ⟨a,n,c,e1,e2,e3,H⟩:=H
   rcases H with ⟨_,h1⟩ | ⟨b,o,arr,lo,hi,ea,hb,hf,hs,bz,hl,hp,H⟩
   ·rw [h1] at hb'; simp at hb'
   ·rcases af2.1 (hp.mem_iff.1 hb') with h | h
    ·subst h
     exact ⟨e,by simp [K.tys],hm,by unfold ni; rw [hb]⟩
    ·obtain ⟨l,hl1,hl2⟩:=List.mem_flatten.1 h
     obtain ⟨i,hi,rfl⟩:=List.mem_iff_getElem.1 hl1
     obtain ⟨ds,_,h2⟩:=H i (by omega)
     rw [bZ hi] at h2
     obtain ⟨e',g1,g2⟩:=ih h2 b' hl2
     exact ⟨e',by simp [K.tys,g1],g2⟩
  ·rw [H.1] at hb'; simp at hb'
 | unit=>intro x cs fo H b hb; rw [H.1] at hb; simp at hb
 | pair a b iha ihb=>
  intro x cs fo H b' hb'
  obtain ⟨c1,c2,f1,f2,e,hp,h1,h2⟩:=H
  rcases afZ.1 (hp.mem_iff.1 hb') with h | h
  ·obtain ⟨e',g1,g2⟩:=iha h1 b' h; exact ⟨e',by simp [K.tys,g1],g2⟩
  ·obtain ⟨e',g1,g2⟩:=ihb h2 b' h; exact ⟨e',by simp [K.tys,g1],g2⟩
 | st f ih=>intro x cs fo H; exact ih (x:=x) H
 | gap n=>intro x cs fo H b hb; rw [H.1] at hb; simp at hb
theorem dn {t:Nat} {own bad:List TypeId}:au t (bD own bad)=true↔au t own=true∧t∉bad:=by
 rw [aJ,aJ]
 unfold bD
 rw [af7]
 simp [aS]
theorem vW {own:List TypeId}:∀{k:K} {t:TypeId},t∈k.tys→t∈aR own k∨au t own=true:=by
 intro k
 induction k with
 | sl e k ih=>
  intro t ht
  simp only [K.tys,af2] at ht
  cases hm:au e own with
  | true=>
   rcases ht with ht | ht
   ·subst ht; exact .inr hm
   ·exact (ih ht).imp (fun h=>by simp [aR,hm,h]) id
  | false=>exact .inl (by simpa [aR,hm] using ht)
 | pair a b iha ihb=>
  intro t ht
  simp only [K.tys,afZ] at ht
  rcases ht with ht | ht
  ·exact (iha ht).imp (fun h=>by simp [aR,h]) id
  ·exact (ihb ht).imp (fun h=>by simp [aR,h]) id
 | st f ih=>intro t ht; exact ih ht
 | _=>intro t ht; simp [K.tys] at ht
theorem zw {own:List TypeId}:∀{k:K} {t:TypeId},t∈aR own k→t∈k.tys:=by
 intro k
 induction k with
 | sl e k ih=>
  intro t ht
  cases hm:au e own with
  | true=>simp only [aR,hm,cond_true] at ht; simp [K.tys,ih ht]
  | false=>simpa [aR,hm,K.tys] using ht
 | pair a b iha ihb=>
  intro t ht
  simp only [aR,afZ] at ht
  simp only [K.tys,afZ]
  exact ht.imp iha ihb
 | st f ih=>intro t ht; exact ih ht
 | _=>intro t ht; simp [aR] at ht
section
variable {cx:Cx} {σ:St} {α:dI} {F:List Nat} {a:Act} {w:World} {F':List Nat} {w':World}
theorem yh (H:Rel cx σ α F a w) (hos:w'.os=w.os∧w'.tape=w.tape∧w'.output=w.output) (hsize:w.heap.size≤w'.heap.size) (BX:∀b,b<w.heap.size→hp w' b≠hp w b→b∈F)
  (hnew:∀b∈F',b∈F∨(w.heap.size≤b∧b<w'.heap.size)) (hnd:F'.Nodup):kI cx σ α F w σ α F' w' (fun _=>[]) (fun _=>[]) where
 slots:=rfl
 os:=hos
 size:=hsize
 old:=fun r R hr=>⟨R,hr,by
  cases hd:R.aZ with
  | true=>exact .inl ⟨rfl,by intro hk; simp [Root.aZ,hk] at hd⟩
  | false=>exact .inr ⟨rfl,rfl,rfl,af6 _,rfl,rfl,fun _=>rfl, .inr ⟨rfl,rfl,jO ..⟩⟩⟩
 wr:=fun r R' _ h=>absurd (jO ..) h
 Ye:=fun r R' h1 h2=>by rw [h1] at h2; simp at h2
 Iw:=fun b hb hne=>.inl (BX b hb hne)
 new:=by
  rintro b (⟨r,R',h1,h2,h3⟩ | h)
  ·exact absurd ⟨R',h1,h2⟩ h3
  ·exact (hnew b h).imp id .inl
 uU:=hnd
 iB:=fun r R' _ h=>absurd (jO ..) h
 AB:=fun r R r' R' _ _ _ h=>absurd (jO ..) h
 base:=by
  intro j pi b o n hj hb hne
  obtain ⟨Q,hQ,hk,hl,hs⟩:=H.jT j pi b o n hj hb
  have hbq:b∈blk α Q (ak j):=by simp [blk,dQ,hk,hl]
  have hm:=(H.roots _ _ hQ).mine b hbq
  exact absurd (BX b hm.1 hne) (H.iB _ _ hQ b hbq)
 ev:=fun r R R' h1 h2 _=>by rw [h1] at h2; simp only [afQ] at h2; subst h2; exact ⟨rfl,rfl⟩
theorem Rel.mem (H:Rel cx σ α F a w) (T:kI cx σ α F w σ α F' w' (fun _=>[]) (fun _=>[])):Rel cx σ α F' a w':=
 H.turn T (fun _ _ _ h=>absurd (jO ..) h) (fun _ _ _ h=>absurd (jO ..) h) (fun _ _ _ h=>absurd (jO ..) h)
theorem Rel.alloc (H:Rel cx σ α F a w) (o:Obj):Rel cx σ α (w.heap.size :: F) a (w.alloc o)∧kI cx σ α F w σ α (w.heap.size :: F) (w.alloc o) (fun _=>[]) (fun _=>[]):=by
 have hs:(w.alloc o).heap.size=w.heap.size+1:=Array.size_push ..
 have T:kI cx σ α F w σ α (w.heap.size :: F) (w.alloc o) (fun _=>[]) (fun _=>[]):=yh H ⟨rfl,rfl,rfl⟩ (by omega) (fun b hb hne=>absurd (mg w o hb) hne)
  (fun b hb=>by rcases af2.1 hb with h | h; exact .inr ⟨by omega,by omega⟩; exact .inl h)
  (agp.2 ⟨fun h=>by have:=(H.fl _ h).1; omega,H.uU⟩)
 exact ⟨H.mem T,T⟩
variable {r:Nat} {R:Root}
theorem jo:bT.aZ=true:=rfl
theorem kr {R':Root} {tys:List TypeId} {T:List Tag} (h:∀n,(r,n)∉T):bg (aj σ r R') tys T=bg σ tys T:=by
 induction T with
 | nil=>rfl
 | cons t T ih=>
  obtain ⟨q,n⟩:=t
  have hq:q≠r:=fun e=>h n (by simp [e])
  have ih':=ih (fun n hn=>h n (by simp [hn]))
  simp only [bg]
  rw [ih',bU σ R' hq]
def jd (α:dI) (r:Nat):dI:=aG α r (α.loc r) (α.hdr r) []
theorem kill (H:Rel cx σ α F a w) (hr:aN σ r R) (hk:R.kind=.anon) (hv:bn σ R) :
  Rel cx (aj σ r bT) (jd α r) (α.fo r++F) a w∧kI cx σ α F w (aj σ r bT) (jd α r) (α.fo r++F) w (o8 r []) (o8 r [])∧
  Held cx (aj σ r bT) (jd α r) (α.fo r++F) w R.k R.x R.own R.tags (α.hdr r) (α.fo r)∧bg (aj σ r bT) (aR R.own R.k) R.tags=true:=by
 have hb:blk α R r=α.fo r:=by simp [blk,dQ,hk]
 have K:=H.roots r R hr
 have hnd:(α.fo r).Nodup:=by rw [←hb]; exact K.nd
 have T1:vg cx σ α F w r R bT [] (α.fo r++F) w [] []:=by
  refine ⟨.inl ⟨rfl,by rw [hk]; simp⟩,⟨fun t ht=>by simp [bT] at ht,fun n hn=>by simp [bT] at hn⟩,⟨rfl,rfl,rfl⟩,af6 _,fun b _ h=>absurd rfl h,fun h=>by simp [jo] at h, ?_, ?_,fun h=>by simp [jo] at h,fun _ _ _ _ _ _ _ _ h=>absurd rfl h,fun h=>by simp [jo] at h⟩
  ·intro b hb'
   rcases afZ.1 hb' with h | h
   ·exact .inr (.inr ⟨by rw [hb]; exact h, .inl rfl⟩)
   ·exact .inl h
  ·exact afX.2 ⟨hnd,H.uU,fun b h1 c h2 e=>H.iB r R hr b (by rw [hb]; exact h1) (e▸h2)⟩
 have hT:=T1.turn (hdr':=α.hdr r) H hr
 have hnt:=(H.dh r R hr.1).2.2
 have BZ:bg (aj σ r bT) (aR R.own R.k) R.tags=true:=by rw [kr hnt]; exact hv.2
 refine ⟨T1.rel H hr (fun h=>by simp [jo] at h) (fun h=>by simp [jo] at h) (fun h=>by simp [jo] at h),hT, ?_,BZ⟩
 refine ⟨fun hc=>?_,fun t ht=>hT.tag ((H.dh r R hr.1).1 t ht),fun b hb=>afV _ hb,hnd,K.len⟩
 obtain ⟨h1,h2,_⟩:=hT.views H R.tags _ (H.dh r R hr.1).1 hc
 exact bq (fun b hb=>(h2 b hb.1 (.inl hb.2)).2) (fun b hb=>(h2 b hb.1 (.inl hb.2)).1) (fun _ _=>rfl) (oN _ (fun _ h=>h) (K.ow hv))
theorem X9 (H:Rel cx σ α F a w) (hr:aN σ r R) (hk:R.kind≠.par) (hv:bn σ R) :
  Rel cx (aj σ r bT) (jd α r) (blk α R r++F) a w∧kI cx σ α F w (aj σ r bT) (jd α r) (blk α R r++F) w (o8 r []) (o8 r [])∧
  Held cx (aj σ r bT) (jd α r) (blk α R r++F) w R.k R.x R.own R.tags (α.hdr r) (α.fo r)∧bg (aj σ r bT) (aR R.own R.k) R.tags=true:=by
 have K:=H.roots r R hr
 have hnd:(blk α R r).Nodup:=K.nd
 have T1:vg cx σ α F w r R bT [] (blk α R r++F) w [] []:=by
  refine ⟨.inl ⟨rfl,hk⟩,⟨fun t ht=>by simp [bT] at ht,fun n hn=>by simp [bT] at hn⟩,⟨rfl,rfl,rfl⟩,af6 _,fun b _ h=>absurd rfl h,fun h=>by simp [jo] at h, ?_, ?_,fun h=>by simp [jo] at h,fun _ _ _ _ _ _ _ _ h=>absurd rfl h,fun h=>by simp [jo] at h⟩
  ·intro b hb'
   rcases afZ.1 hb' with h | h
   ·exact .inr (.inr ⟨h, .inl rfl⟩)
   ·exact .inl h
  ·exact afX.2 ⟨hnd,H.uU,fun b h1 c h2 e=>H.iB r R hr b h1 (e▸h2)⟩
 have hT:=T1.turn (hdr':=α.hdr r) H hr
 have hnt:=(H.dh r R hr.1).2.2
 have BZ:bg (aj σ r bT) (aR R.own R.k) R.tags=true:=by rw [kr hnt]; exact hv.2
 refine ⟨T1.rel H hr (fun h=>by simp [jo] at h) (fun h=>by simp [jo] at h) (fun h=>by simp [jo] at h),hT, ?_,BZ⟩
 refine ⟨fun hc=>?_,fun t ht=>hT.tag ((H.dh r R hr.1).1 t ht),fun b hb=>afV _ (afS _ hb),(afX.1 hnd).2.1,K.len⟩
 obtain ⟨h1,h2,_⟩:=hT.views H R.tags _ (H.dh r R hr.1).1 hc
 exact bq (fun b hb=>(h2 b hb.1 (.inl hb.2)).2) (fun b hb=>(h2 b hb.1 (.inl hb.2)).1) (fun _ _=>rfl) (oN _ (fun _ h=>h) (K.ow hv))
theorem nD:∀(p:List Stp) {k:K} {x y:El k},(aO p k x).isSome=(aO p k y).isSome:=by
 intro p
 induction p with
 | nil=>intro k x y; rfl
 | cons s p ih=>
  intro k x y
  cases s with
  | fD n=>
   cases k with
   | st c=>
    simp only [aO]
    have key:∀(n:Nat) {c:K} {x y:El c},(∃s t:Dat,aK n c x=some s∧aK n c y=some t∧s.1=t.1)∨(aK n c x=none∧aK n c y=none):=by
     intro n
     induction n with
     | zero=>intro c x y; cases c <;> first | exact .inl ⟨_,_,rfl,rfl,rfl⟩ | exact .inr ⟨rfl,rfl⟩
     | succ n ih=>intro c x y; cases c <;> first | exact ih | exact .inr ⟨rfl,rfl⟩
    rcases key n (c:=c) (x:=x) (y:=y) with ⟨s,t,h1,h2,h3⟩ | ⟨h1,h2⟩
    ·rw [h1,h2]
     obtain ⟨sk,sx⟩:=s
     obtain ⟨tk,ty⟩:=t
     simp only at h3
     subst h3
     exact ih
    ·rw [h1,h2]
   | _=>simp [aO]
  | idx i=>
   cases k with
   | sl e k=>simp only [aO]; exact ih
   | _=>simp [aO]
theorem xP:∀(n m:Nat) {c:K} {x:El c} {u y:Dat},m≠n→cu n c x u=some y→aK m y.1 y.2=aK m c x:=by
 intro n
 induction n with
 | zero=>
  intro m c x u y hm h
  cases c with
  | pair a b=>
   simp only [cu,afQ] at h
   subst h
   cases m with
   | zero=>exact absurd rfl hm
   | succ m=>rfl
  | _=>simp [cu] at h
 | succ n ih=>
  intro m c x u y hm h
  cases c with
  | pair a b=>
   simp only [cu] at h
   cases h4:cu n b x.2 u with
   | none=>rw [h4] at h; simp at h
   | some y2=>
    rw [h4] at h
    simp only [afQ] at h
    subst h
    cases m with
    | zero=>rfl
    | succ m=>exact ih m (by omega) h4
  | _=>simp [cu] at h
theorem Ep {bad:List TypeId}:∀(p q:List Stp) {k:K} {x:El k} {t d z:Dat},aO p k x=some d→dR p k x t=some z→
  (∀q',(aO q' t.1 t.2).isSome=true→(∀e∈aa q' t.1,e∉bad)→aa q' d.1=aa q' t.1∧(aO q' d.1 d.2).isSome=true)→(aO q z.1 z.2).isSome=true→(∀e∈aa q z.1,e∉bad)→
   aa q k=aa q z.1∧(aO q k x).isSome=true:=by
 intro p
 induction p with
 | nil=>
  intro q k x t d z hg hz ht hs hb
  simp only [dR,afQ] at hz
  simp only [aO,afQ] at hg
  subst hz
  subst hg
  exact ht q hs hb
 | cons s p ih=>
  intro q k x t d z hg hz ht hs hb
  cases s with
  | fD n=>
   cases k with
   | st c=>
    simp only [aO,dR] at hg hz
    cases hcg:aK n c x with
    | none=>rw [hcg] at hg; simp at hg
    | some s=>
     rw [hcg] at hg hz
     simp only at hg hz
     cases hs':dR p s.1 s.2 t with
     | none=>rw [hs'] at hz; simp at hz
     | some u=>
      rw [hs'] at hz
      simp only at hz
      cases hcp:cu n c x u with
      | none=>rw [hcp] at hz; simp at hz
      | some y=>
       rw [hcp] at hz
       simp only [afQ] at hz
       subst hz
       cases q with
       | nil=>exact ⟨rfl,rfl⟩
       | cons s2 q=>
        cases s2 with
        | idx i=>simp [aO] at hs
        | fD m=>
         by_cases hmn:m=n
         ·subst hmn
          have e1:aK m y.1 y.2=some u:=tN m hcp
          have p1:aa (.fD m :: q) (.st c)=aa q s.1:=by simp [aa,bW m hcg]
          have p2:aa (.fD m :: q) (.st y.1)=aa q u.1:=by simp [aa,bW m e1]
          have hs2:(aO (.fD m :: q) (.st y.1) y.2).isSome=true:=hs
          simp only [aO,e1] at hs2
          have hb2:∀e∈aa (.fD m :: q) (.st y.1),e∉bad:=hb
          rw [p2] at hb2
          obtain ⟨h1,h2⟩:=ih q hg hs' ht hs2 hb2
          refine ⟨?_, ?_⟩
          ·show aa (.fD m :: q) (.st c)=aa (.fD m :: q) (.st y.1)
           rw [p1,p2,h1]
          ·simp only [aO,hcg]
           exact h2
         ·have e1:=xP n m hmn hcp
          have hs2:(aO (.fD m :: q) (.st y.1) y.2).isSome=true:=hs
          simp only [aO,e1] at hs2
          cases hg2:aK m c x with
          | none=>rw [hg2] at hs2; simp at hs2
          | some s2=>
           refine ⟨?_, ?_⟩
           ·show aa (.fD m :: q) (.st c)=aa (.fD m :: q) (.st y.1)
            simp only [aa,bW m hg2,bW m (e1.trans hg2)]
           ·simp only [aO,hg2]
            rw [hg2] at hs2
            exact hs2
   | _=>simp [aO] at hg
  | idx i=>
   cases k with
   | sl e k=>
    simp only [dR] at hz
    cases hs':dR p k ((show List (El k) from x).getD i.toNat k.zero) t with
    | none=>rw [hs'] at hz; simp at hz
    | some u=>
     rw [hs'] at hz
     simp only at hz
     cases hck:bR u.1 k u.2 with
     | none=>rw [hck] at hz; simp at hz
     | some y=>
      rw [hck] at hz
      simp only [afQ] at hz
      subst hz
      exact ⟨rfl,by rw [nD q (y:=((show List (El k) from x).set i.toNat y))]; exact hs⟩
   | _=>simp [dR] at hz
theorem oZ:∀k:K,k.hole.size=k.size:=by
 intro k
 induction k with
 | pair a b iha ihb=>simp [K.hole,K.size,iha,ihb]
 | st f ih=>simp [K.hole,K.size,ih]
 | _=>rfl
theorem Qz {h:Heap} {own:List TypeId} {ok:Nat→Prop}:∀{k:K} {x:El k} {cs:List Value} {fo:List Nat},Ow h own ok k x cs fo→Ow h own ok k.hole (pY k x) cs []:=by
 intro k
 induction k with
 | int ik=>intro x cs fo H; exact ⟨rfl,H.2⟩
 | bool=>intro x cs fo H; exact ⟨rfl,H.2⟩
 | id e=>intro x cs fo H; exact ⟨rfl,H.2⟩
 | str=>intro x cs fo H; exact ⟨rfl,H.2⟩
 | sl e k ih=>intro x cs fo H; exact ⟨rfl,cO H⟩
 | unit=>intro x cs fo H; exact ⟨rfl,H.2⟩
 | pair a b iha ihb=>intro x cs fo H; obtain ⟨c1,c2,f1,f2,e,hp,h1,h2⟩:=H; exact ⟨c1,c2,[],[],e, .refl _,iha h1,ihb h2⟩
 | st f ih=>intro x cs fo H; exact ih (x:=x) H
 | gap n=>intro x cs fo H; exact ⟨rfl,H.2⟩
theorem Bo:∀(n:Nat) {c:K} {x:El c},aK n c.hole (pY c x)=(aK n c x).map og:=by
 intro n
 induction n with
 | zero=>intro c x; cases c <;> rfl
 | succ n ih=>
  intro c x
  cases c with
  | pair a b=>simp only [K.hole,pY,aK]; exact ih
  | _=>rfl
theorem I6:∀(n:Nat) {c:K},bu n c.hole=(bu n c).map fun q=>(q.1,q.2.hole):=by
 intro n
 induction n with
 | zero=>intro c; cases c <;> rfl
 | succ n ih=>
  intro c
  cases c with
  | pair a b=>
   simp only [K.hole,bu]
   rw [ih (c:=b)]
   cases bu n b with
   | none=>rfl
   | some q=>simp [oZ]
  | _=>rfl
theorem Ce {h:Heap}:∀(q:List Stp) {k:K} {x:El k},(aO q k.hole (pY k x)).isSome=true→
  aa q k=[]∧aa q k.hole=[]∧(aO q k x).isSome=true∧kH q k.hole (pY k x)∧∀cs wh,bE h q k.hole cs wh=bE h q k cs wh:=by
 intro q
 induction q with
 | nil=>intro k x _; exact ⟨by simp [aa],by simp [aa],rfl,trivial,fun _ _=>rfl⟩
 | cons s q ih=>
  intro k x hs
  cases s with
  | idx i=>cases k <;> simp [K.hole,aO] at hs
  | fD n=>
   cases k with
   | st c=>
    have e:aK n c.hole (pY c x)=(aK n c x).map og:=Bo n
    have hs':(aO (.fD n :: q) (.st c.hole) (pY c x)).isSome=true:=hs
    simp only [aO,e] at hs'
    cases hg:aK n c x with
    | none=>rw [hg] at hs'; simp at hs'
    | some s=>
     rw [hg] at hs' e
     simp only [Option.map_some,og] at hs' e
     obtain ⟨h1,h2,h3,h4,h5⟩:=ih (k:=s.1) (x:=s.2) hs'
     refine ⟨by simp [aa,bW n hg,h1], ?_,by simp only [aO,hg]; exact h3, ?_,fun cs wh=>?_⟩
     ·show aa (.fD n :: q) (.st c.hole)=[]
      simp [aa,bW n e,h2]
     ·show kH (.fD n :: q) (.st c.hole) (pY c x)
      simp only [kH,e]
      exact h4
     ·show bE h (.fD n :: q) (.st c.hole) cs wh=_
      simp only [bE]
      rw [I6 n]
      cases ho:bu n c with
      | none=>rfl
      | some w=>
       simp only [Option.map_some]
       have hk:w.2=s.1:=by
        have key:∀(n:Nat) {c:K} {x:El c} {s:Dat} {q:Nat×K},aK n c x=some s→bu n c=some q→q.2=s.1:=by
         intro n
         induction n with
         | zero=>intro c x s q h1 h2; cases c with
          | pair a b=>simp only [aK,bu,afQ] at h1 h2; subst h1; subst h2; rfl
          | _=>simp [aK] at h1
         | succ n ih=>intro c x s q h1 h2; cases c with
          | pair a b=>
           simp only [aK,bu] at h1 h2
           cases h3:bu n b with
           | none=>rw [h3] at h2; simp at h2
           | some q3=>rw [h3] at h2; simp only [afQ] at h2; subst h2; exact ih (q:=q3) h1 h3
          | _=>simp [aK] at h1
        exact key n (c:=c) hg ho
       obtain ⟨w1,w2⟩:=w
       simp only at hk
       subst hk
       simp only [oZ]
       exact h5 _ _
   | _=>simp [K.hole,aO] at hs
theorem Mi:∀(q:List Stp) {k:K} {x y:El k},aa q k=[]→(aO q k x).isSome=true→aa q k.hole=[]∧(aO q k.hole (pY k y)).isSome=true:=by
 intro q
 induction q with
 | nil=>intro k x y _ _; exact ⟨by simp [aa],rfl⟩
 | cons s q ih=>
  intro k x y h0 hs
  cases s with
  | idx i=>cases k <;> simp [aa,aO] at h0 hs
  | fD n=>
   cases k with
   | st c=>
    simp only [aO] at hs
    cases hg:aK n c x with
    | none=>rw [hg] at hs; simp at hs
    | some s=>
     rw [hg] at hs
     simp only at hs
     have hp2:aa (.fD n :: q) (.st c)=aa q s.1:=by simp [aa,bW n hg]
     rw [hp2] at h0
     have key:∀(n:Nat) {c:K} {x y:El c} {s:Dat},aK n c x=some s→∃t:Dat,aK n c y=some t∧t.1=s.1:=by
      intro n
      induction n with
      | zero=>intro c x y s h; cases c <;> first | (simp only [aK,afQ] at h; subst h; exact ⟨_,rfl,rfl⟩) | simp [aK] at h
      | succ n ih=>intro c x y s h; cases c <;> first | exact ih h | simp [aK] at h
     obtain ⟨t,g1,g2⟩:=key n (c:=c) (y:=y) hg
     obtain ⟨sk,sx⟩:=s
     obtain ⟨tk,ty⟩:=t
     simp only at g2
     subst g2
     obtain ⟨h1,h2⟩:=ih (y:=ty) h0 hs
     have e:aK n c.hole (pY c y)=some (og ⟨tk,ty⟩):=by rw [Bo n,g1]; rfl
     refine ⟨?_, ?_⟩
     ·show aa (.fD n :: q) (.st c.hole)=[]
      simp [aa,bW n e,og,h1]
     ·show (aO (.fD n :: q) (.st c.hole) (pY c y)).isSome=true
      simp only [aO,e]
      exact h2
   | _=>simp [aO] at hs
theorem J8 {own:List TypeId}:∀k:K,aR own k.hole=[]:=by
 intro k
 induction k with
 | pair a b iha ihb=>simp [K.hole,aR,iha,ihb]
 | st f ih=>exact ih
 | _=>rfl
theorem cells_eq {h:Heap} {b o:Nat} {cs cs':List Value} (h1:Cells h b o cs) (h2:Cells h b o cs') (hl:cs'.length=cs.length):cs'=cs:=by
 apply List.ext_getElem? 
 intro i
 by_cases hi:i<cs.length
 ·rw [←h1 i hi, ←h2 i (by omega)]
 ·rw [List.getElem?_eq_none (by omega),List.getElem?_eq_none (by omega)]
theorem zn:∀(p:List Stp) {k:K} {x:El k} {t d z:Dat},aO p k x=some d→t.1.size=d.1.size→dR p k x t=some z→z.1.size=k.size:=by
 intro p
 induction p with
 | nil=>
  intro k x t d z hg hs hz
  simp only [aO,dR,afQ] at hg hz
  subst hg; subst hz; exact hs
 | cons s p ih=>
  intro k x t d z hg hs hz
  cases s with
  | fD n=>
   cases k with
   | st c=>
    simp only [aO,dR] at hg hz
    cases hcg:aK n c x with
    | none=>rw [hcg] at hg; simp at hg
    | some s=>
     rw [hcg] at hg hz
     simp only at hg hz
     cases hs':dR p s.1 s.2 t with
     | none=>rw [hs'] at hz; simp at hz
     | some u=>
      rw [hs'] at hz
      simp only at hz
      cases hcp:cu n c x u with
      | none=>rw [hcp] at hz; simp at hz
      | some y=>
       rw [hcp] at hz
       simp only [afQ] at hz
       subst hz
       have hu:=ih hg hs hs'
       have key:∀(n:Nat) {c:K} {x:El c} {s u y:Dat},aK n c x=some s→cu n c x u=some y→u.1.size=s.1.size→y.1.size=c.size:=by
        intro n
        induction n with
        | zero=>
         intro c x s u y h1 h2 e
         cases c with
         | pair a b=>simp only [aK,cu,afQ] at h1 h2; subst h1; subst h2; simp only at e; simp [K.size,e]
         | _=>simp [aK] at h1
        | succ n ih=>
         intro c x s u y h1 h2 e
         cases c with
         | pair a b=>
          simp only [aK,cu] at h1 h2
          cases h3:cu n b x.2 u with
          | none=>rw [h3] at h2; simp at h2
          | some y2=>rw [h3] at h2; simp only [afQ] at h2; subst h2; simp [K.size,ih h1 h3 e]
         | _=>simp [aK] at h1
       show y.1.size=c.size
       exact key n (c:=c) hcg hcp hu
   | _=>simp [aO] at hg
  | idx i=>
   cases k with
   | sl e k=>
    simp only [dR] at hz
    cases hs':dR p k ((show List (El k) from x).getD i.toNat k.zero) t with
    | none=>rw [hs'] at hz; simp at hz
    | some u=>
     rw [hs'] at hz
     simp only at hz
     cases hck:bR u.1 k u.2 with
     | none=>rw [hck] at hz; simp at hz
     | some y=>rw [hck] at hz; simp only [afQ] at hz; subst hz; rfl
   | _=>simp [aO] at hg
theorem qV {R R':Root} (h:R'.kind=R.kind) (loc:Nat×Nat):rX R' loc=rX R loc:=by unfold rX; rw [h]
theorem lC {R R':Root} (h:R'.kind=R.kind) (loc:Nat×Nat) (fo:List Nat):gQ R' loc fo=gQ R loc fo:=by unfold gQ; rw [h]
theorem Gj (R:Root) (loc:Nat×Nat) (fo:List Nat):gQ R loc fo=(match rX R loc with
 | some q=>[q.1]
 | none=>[])++fo:=by unfold gQ rX; cases R.kind <;> rfl
theorem eH {R:Root} {loc:Nat×Nat} {fo:List Nat} {b:Nat}:b∈gQ R loc fo↔(∃o,rX R loc=some (b,o))∨b∈fo:=by
 rw [Gj]
 cases h:rX R loc with
 | none=>simp
 | some q=>obtain ⟨b0,o0⟩:=q; simp; constructor <;> (intro h; rcases h with h | h <;> simp_all)
theorem kJ {R:Root} {loc:Nat×Nat} {fo:List Nat}:(gQ R loc fo).Nodup↔(∀b o,rX R loc=some (b,o)→b∉fo)∧fo.Nodup:=by
 rw [Gj]
 cases h:rX R loc with
 | none=>simp
 | some q=>obtain ⟨b0,o0⟩:=q; simp [agp]
theorem Ms {R R':Root} (h:R'.kind=R.kind):R'.aZ=R.aZ:=by unfold Root.aZ; rw [h]
theorem Km {k k':K} {v:Value} {cs:List Value} (h:qa k'=qa k):VC k' v cs↔VC k v cs:=by
 cases k <;> cases k' <;> first | exact Iff.rfl | simp [qa] at h
theorem Em {p:List Stp} {k:K} {x:El k} {t z:Dat} (hp:p≠[]) (hz:dR p k x t=some z):qa z.1=qa k:=by
 cases p with
 | nil=>exact absurd rfl hp
 | cons s p=>
  cases s with
  | fD n=>
   cases k with
   | st c=>
    simp only [dR] at hz
    cases hcg:aK n c x with
    | none=>rw [hcg] at hz; simp at hz
    | some s=>
     rw [hcg] at hz
     simp only at hz
     cases hs':dR p s.1 s.2 t with
     | none=>rw [hs'] at hz; simp at hz
     | some u=>
      rw [hs'] at hz
      simp only at hz
      cases hcp:cu n c x u with
      | none=>rw [hcp] at hz; simp at hz
      | some y=>rw [hcp] at hz; simp only [afQ] at hz; subst hz; rfl
   | _=>simp [dR] at hz
  | idx i=>
   cases k with
   | sl e k=>
    simp only [dR] at hz
    cases hs':dR p k ((show List (El k) from x).getD i.toNat k.zero) t with
    | none=>rw [hs'] at hz; simp at hz
    | some u=>
     rw [hs'] at hz
     simp only at hz
     cases hck:bR u.1 k u.2 with
     | none=>rw [hck] at hz; simp at hz
     | some y=>rw [hck] at hz; simp only [afQ] at hz; subst hz; rfl
   | _=>simp [dR] at hz
theorem Ma (k:K):k.tys≠[]∨oW k++k.tys≠[]:=by
 unfold oW
 cases k.tys with
 | nil=>exact .inr (by simp)
 | cons a l=>exact .inl (by simp)
def dV (R:Root) (d:Dat) (z:Dat):Root:={ R with k:=z.1,x:=z.2,w:=d.1.tys++R.w,h:=oW d.1++d.1.tys++R.h }
def dZ (R:Root) (d:Dat) (z:Dat) (own':List TypeId):Root:={ dV R d z with own:=own' }
theorem lM:∀(q:List Stp) {k:K},∀t∈aa q k,t∈k.tys:=by
 intro q
 induction q with
 | nil=>intro k t ht; simp [aa] at ht
 | cons s q ih=>
  intro k t ht
  cases s with
  | fD n=>
   cases k with
   | st c=>
    simp only [aa] at ht
    cases hc:aa.Ae n c with
    | none=>rw [hc] at ht; simp at ht
    | some k'=>
     rw [hc] at ht
     have h1:=ih t ht
     have:∀(n:Nat) {c k':K},aa.Ae n c=some k'→∀t∈k'.tys,t∈c.tys:=by
      intro n
      induction n with
      | zero=>
       intro c k' h t ht
       cases c with
       | pair a b=>simp only [aa.Ae,afQ] at h; subst h; simp [K.tys,ht]
       | _=>simp [aa.Ae] at h
      | succ n ih=>
       intro c k' h t ht
       cases c with
       | pair a b=>simp only [aa.Ae] at h; simp [K.tys,ih h t ht]
       | _=>simp [aa.Ae] at h
     exact this n hc t h1
   | _=>simp [aa] at ht
  | idx i=>
   cases k with
   | sl e k=>
    simp only [aa,af2] at ht
    rcases ht with h | h
    ·simp [K.tys,h]
    ·simp [K.tys,ih t h]
   | _=>simp [aa] at ht
theorem Xa {own':List TypeId} (H:Rel cx σ α F a w) (hr:aN σ r R) (hv:bn σ R) {p:List Stp} {d z:Dat} (hg:aO p R.k R.x=some d) (hz:dR p R.k R.x (og d)=some z) (fG:kH p R.k R.x)
  (hown:∀t∈aa p R.k,au t R.own=true) (hpv:p≠[]∨∃t,R.kind=.var t) (hso:∀t∈z.1.tys,au t own'=au t R.own) :
  ∃cs1 kP fE rest,bE (hp w) p R.k (α.hdr r) (dQ α R r)=some (cs1,kP)∧
   Rel cx (aj σ r (dZ R d z own')) (aG α r (α.loc r) (α.hdr r) rest) (fE++F) a w∧
   kI cx σ α F w (aj σ r (dZ R d z own')) (aG α r (α.loc r) (α.hdr r) rest) (fE++F) w (o8 r d.1.tys) (o8 r (oW d.1++d.1.tys))∧
   Held cx (aj σ r (dZ R d z own')) (aG α r (α.loc r) (α.hdr r) rest) (fE++F) w d.1 d.2 R.own R.tags cs1 fE∧(∀tys,bg (aj σ r (dZ R d z own')) tys R.tags=bg σ tys R.tags)∧(α.fo r).Perm (fE++rest):=by
 have K:=H.roots r R hr
 have hnd:=K.nd
 rw [bV,kJ] at hnd
 have hO:=K.ow hv
 obtain ⟨cs1,fE,rest,kP,hn,hp1,hd1,hc1,hin,hnone,hup⟩:=focus p hO (fun b o e=>(K.mem b o e).1) hg fG hown hnd.2 (fun b o e=>hnd.1 b o e)
 have hnt:=(H.dh r R hr.1).2.2
 have hl1:=cO hd1
 obtain ⟨cs',hl',BS,hC',hN',hK'⟩:=hup.go (hp w) (gV cx σ α F w R.tags) (og d) cs1 [] z hz hl1 (Qz hd1) (fun b hb=>⟨hb,rfl⟩) (fun _ _ _=>rfl)
  (fun b o e=>⟨hc1 b o e,by
   have:∃arr te fr,hp w b=some (.cells arr te fr):=by
    rcases hin b o e with ⟨_,o0,ew,_⟩ | ⟨_,arr,te,lo,hi,h1,_⟩
    ·obtain ⟨_,arr,te,lo,hi,h1,_⟩:=K.mem b o0 ew; exact ⟨arr,te,_,h1⟩
    ·exact ⟨arr,te,_,h1⟩
   obtain ⟨arr,te,fr,h1⟩:=this
   exact gu.of_same _ _ h1 rfl⟩) (fun _=>rfl) (fun _ _ _ _=>rfl)
 have hcs:cs'=α.hdr r:=by
  cases hw:dQ α R r with
  | none=>exact hN' hw
  | some q=>exact cells_eq (K.mem q.1 q.2 hw).1 (hC' q.1 q.2 hw) hl'
 rw [hcs,List.nil_append] at BS
 replace BS:=nV hso BS
 obtain ⟨_,_,hNK,_⟩:=hK' d.1.tys (oZ d.1) (fun q c0 w0 hq _ hn0 hs=>by
  obtain ⟨_,_,_,h3,h4⟩:=Ce (h:=hp w) q (x:=d.2) hs
  exact ⟨h3,c0,by rw [←hn0]; exact h4 cs1 kP⟩)
 rw [hcs] at hNK
 have hkind:(dZ R d z own').kind=R.kind:=rfl
 have Xt:(dZ R d z own').aZ=false:=hr.2
 have DY:∀b,b∈α.fo r↔b∈fE∨b∈rest:=fun b=>by rw [hp1.mem_iff,afZ]
 have xZ:=hp1.nodup hnd.2
 have hsz:z.1.size=R.k.size:=zn p (t:=og d) hg (oZ d.1) hz
 have T1:vg cx σ α F w r R (dZ R d z own') rest (fE++F) w d.1.tys (oW d.1++d.1.tys):=by
  refine ⟨.inr ⟨rfl,rfl,af6 _,rfl,fun _=>hsz,Ma d.1⟩,⟨(H.dh r R hr.1).1,hnt⟩,⟨rfl,rfl,rfl⟩,af6 _,fun b _ h=>absurd rfl h, ?_, ?_, ?_, ?_,fun _ _ _ _ _ _ _ _ h=>absurd rfl h,fun _=>⟨rfl,rfl⟩⟩
  ·intro _ b hb
   rw [lC hkind,eH] at hb
   refine .inl ?_
   rw [bV,eH,DY]
   exact hb.imp id .inr
  ·intro b hb
   rcases afZ.1 hb with h | h
   ·refine .inr (.inr ⟨by rw [bV,eH,DY]; exact .inr (.inl h), .inr (.inl ?_)⟩)
    obtain ⟨e,h1,_,h2⟩:=pU hd1 b h
    exact ⟨e,h1,h2⟩
   ·exact .inl h
  ·refine afX.2 ⟨(afX.1 xZ).1,H.uU,fun b h1 c h2 e=>H.iB r R hr b ?_ (e▸h2)⟩
   rw [bV,eH,DY]
   exact .inr (.inl h1)
  ·intro _ b hb hF
   rw [lC hkind,eH] at hb
   rcases afZ.1 hF with h | h
   ·rcases hb with ⟨o,hb⟩ | hb
    ·exact hnd.1 b o hb ((DY b).2 (.inl h))
    ·exact (afX.1 xZ).2.2 b h b hb rfl
   ·refine H.iB r R hr b ?_ h
    rw [bV,eH,DY]
    exact hb.imp id .inr
 have hT:=T1.turn (hdr':=α.hdr r) H hr
 have BZ:∀tys,bg (aj σ r (dZ R d z own')) tys R.tags=bg σ tys R.tags:=fun tys=>kr hnt
 refine ⟨cs1,kP,fE,rest,hn,T1.rel H hr ?_ ?_ ?_,hT, ?_,BZ,hp1⟩
 ·intro _
  refine ⟨fun hv'=>?_,by rw [K.len]; exact hsz.symm, ?_, ?_⟩
  ·obtain ⟨h1,h2,_⟩:=hT.views H R.tags _ (H.dh r R hr.1).1 hv'.2
   exact bq (fun b hb=>(h2 b hb.1 (.inl hb.2)).2) (fun b hb=>(h2 b hb.1 (.inl hb.2)).1) (fun _ _=>rfl) (oN _ (fun _ h=>h) BS)
  ·intro b o hb
   have:(dZ R d z own').k.size=R.k.size:=hsz
   rw [this]
   exact K.mem b o hb
  ·rw [lC hkind,kJ]
   exact ⟨fun b o e hb=>hnd.1 b o e ((DY b).2 (.inr hb)),(afX.1 xZ).2.1⟩
 ·intro _ q n v hn' hold
  refine ⟨hold.1, ?_⟩
  intro Q hQ Rl hcl hty hsome
  have hQ':Q=dZ R d z own':=by
   rw [aH] at hQ
   simpa using hQ.symm
  subst hQ'
  have OV:dQ (aG α r (α.loc r) (α.hdr r) rest) (dZ R d z own') r=dQ α R r:=by rw [jf,qV hkind, ←qi]
  have Jz:(aG α r (α.loc r) (α.hdr r) rest).hdr r=α.hdr r:=by simp [aG,upd_same]
  have hh:(dZ R d z own').h=(oW d.1++d.1.tys)++R.h:=rfl
  rw [hh,lZ hn'] at hcl
  by_cases hq:q=[]
  case neg=>
   have hpt:∀k,dS q k=mY :: aa q k:=by
    intro k
    cases q with
    | nil=>exact absurd rfl hq
    | cons s q=>rfl
   rw [hpt] at hcl
   obtain ⟨k1,k2⟩:=Ep (bad:=d.1.tys) p q hg hz (fun q' h _=>let ⟨h1,h2,h3,_⟩:=Ce (h:=hp w) q' (x:=d.2) h; ⟨h1.trans h2.symm,h3⟩) hsome (fun e he hm=>hcl.1 e (afS _ hm) (age _ he))
   have k1':aa q R.k=aa q (dZ R d z own').k:=k1
   have hty':∀t∈aa q R.k,au t R.own=true:=fun t ht=>by
    have ht':t∈aa q z.1:=k1▸ht
    rw [←hso t (lM q t ht')]
    exact hty t ht'
   rw [←k1'] at hcl
   obtain ⟨g1,cs,b,o,g2,g3⟩:=hold.2 R hr.1 hv (by rw [hpt]; exact hcl.2) hty' k2
   obtain ⟨f1,c1,f2⟩:=hNK q cs (some (b,o)) g1 (fun t ht=>⟨hty' t ht,fun hm=>hcl.1 t (afS _ hm) (age _ ht)⟩) g2 hsome
   rw [OV,Jz]
   exact ⟨f1,c1,b,o,f2,g3⟩
  subst hq
  obtain ⟨_,cs,b,o,h1,h2⟩:=hold.2 R hr.1 hv (by simp [clean,dS,au]) (fun t ht=>by simp [aa] at ht) rfl
  simp only [bE,afQ,af1] at h1
  refine ⟨trivial,(aG α r (α.loc r) (α.hdr r) rest).hdr r,b,o, ?_,h2⟩
  simp only [bE]
  rw [jf,qV hkind, ←qi,h1.2]
 ·intro _ g v hg' hold Q hQ YP
  obtain ⟨hQ',_⟩:=eD hQ
  subst hQ'
  obtain ⟨h1,h2⟩:=hold R hr YP
  refine ⟨h1, ?_⟩
  have:(aG α r (α.loc r) (α.hdr r) rest).hdr r=α.hdr r:=by simp [aG,upd_same]
  rw [this]
  rcases hpv with hp | ⟨t,ht⟩
  ·
   cases p with
   | nil=>exact absurd rfl hp
   | cons s p=>
    exact (Km (Em (by simp) hz)).2 h2
  ·rw [ht] at h1; simp at h1
 ·refine ⟨fun hc=>?_,fun t ht=>hT.tag ((H.dh r R hr.1).1 t ht),fun b hb=>afV _ hb,(afX.1 xZ).1,hl1⟩
  obtain ⟨h1,h2,_⟩:=hT.views H R.tags _ (H.dh r R hr.1).1 hc
  exact bq (fun b hb=>(h2 b hb.1 (.inl hb.2)).2) (fun b hb=>(h2 b hb.1 (.inl hb.2)).1) (fun _ _=>rfl) (oN _ (fun _ h=>h) hd1)
theorem gap (H:Rel cx σ α F a w) (hr:aN σ r R) (hv:bn σ R) {p:List Stp} {d z:Dat} (hg:aO p R.k R.x=some d) (hz:dR p R.k R.x (og d)=some z) (fG:kH p R.k R.x)
  (hown:∀t∈aa p R.k,au t R.own=true) (hpv:p≠[]∨∃t,R.kind=.var t) :
  ∃cs1 kP fE rest,bE (hp w) p R.k (α.hdr r) (dQ α R r)=some (cs1,kP)∧
   Rel cx (aj σ r (dV R d z)) (aG α r (α.loc r) (α.hdr r) rest) (fE++F) a w∧
   kI cx σ α F w (aj σ r (dV R d z)) (aG α r (α.loc r) (α.hdr r) rest) (fE++F) w (o8 r d.1.tys) (o8 r (oW d.1++d.1.tys))∧
   Held cx (aj σ r (dV R d z)) (aG α r (α.loc r) (α.hdr r) rest) (fE++F) w d.1 d.2 R.own R.tags cs1 fE∧(∀tys,bg (aj σ r (dV R d z)) tys R.tags=bg σ tys R.tags)∧(α.fo r).Perm (fE++rest):=
 Xa (own':=R.own) H hr hv hg hz fG hown hpv (fun _ _=>rfl)
end
end
section
open Go
variable [Fr]
theorem J7 {own own':List TypeId}:∀{k:K},(∀t∈k.tys,au t own'=true→au t own=true)→∀t∈aR own k,t∈aR own' k:=by
 intro k
 induction k with
 | sl e k ih=>
  intro h t ht
  cases hm':au e own' with
  | true=>
   have hm:=h e (by simp [K.tys]) hm'
   simp only [aR,hm,cond_true] at ht
   simp only [aR,hm',cond_true]
   exact ih (fun t ht=>h t (by simp [K.tys,ht])) t ht
  | false=>
   have:=zw ht
   simpa [aR,hm',K.tys] using this
 | pair a b iha ihb=>
  intro h t ht
  simp only [aR,afZ] at ht ⊢
  exact ht.imp (iha (fun t ht=>h t (by simp [K.tys,ht])) t) (ihb (fun t ht=>h t (by simp [K.tys,ht])) t)
 | st f ih=>intro h t ht; exact ih h t ht
 | _=>intro _ t ht; simp [aR] at ht
theorem I8 {own:List TypeId}:∀(n:Nat) {c:K} {x:El c} {s u y:Dat},aK n c x=some s→cu n c x u=some y→
  (∀e∈aR own u.1,e∈aR own y.1)∧((∀e∈aR own s.1,e∈aR own u.1)→∀e∈aR own c,e∈aR own y.1):=by
 intro n
 induction n with
 | zero=>
  intro c x s u y hg hp
  cases c with
  | pair a b=>
   simp only [aK,cu,afQ] at hg hp
   subst hg; subst hp
   refine ⟨fun e he=>by simp [aR,he],fun h e he=>?_⟩
   simp only [aR,afZ] at he ⊢
   exact he.imp (h e) id
  | _=>simp [aK] at hg
 | succ n ih=>
  intro c x s u y hg hp
  cases c with
  | pair a b=>
   simp only [aK,cu] at hg hp
   cases h3:cu n b x.2 u with
   | none=>rw [h3] at hp; simp at hp
   | some y2=>
    rw [h3] at hp
    simp only [afQ] at hp
    subst hp
    obtain ⟨g1,g2⟩:=ih hg h3
    refine ⟨fun e he=>by simp [aR,g1 e he],fun h e he=>?_⟩
    simp only [aR,afZ] at he ⊢
    exact he.imp id (g2 h e)
  | _=>simp [aK] at hg
theorem Es {own:List TypeId}:∀(p:List Stp) {k:K} {x:El k} {d t z:Dat},aO p k x=some d→dR p k x t=some z→
  (∀e∈aR own t.1,e∈aR own z.1∨∃q∈aa p k,au q own=false)∧((∀e∈aR own d.1,e∈aR own t.1)→∀e∈aR own k,e∈aR own z.1):=by
 intro p
 induction p with
 | nil=>
  intro k x d t z hg hz
  simp only [aO,dR,afQ] at hg hz
  subst hg; subst hz
  exact ⟨fun e he=>.inl he,fun h=>h⟩
 | cons s p ih=>
  intro k x d t z hg hz
  cases s with
  | fD n=>
   cases k with
   | st c=>
    simp only [aO,dR] at hg hz
    cases hcg:aK n c x with
    | none=>rw [hcg] at hg; simp at hg
    | some s=>
     rw [hcg] at hg hz
     simp only at hg hz
     cases hs':dR p s.1 s.2 t with
     | none=>rw [hs'] at hz; simp at hz
     | some u=>
      rw [hs'] at hz
      simp only at hz
      cases hcp:cu n c x u with
      | none=>rw [hcp] at hz; simp at hz
      | some y=>
       rw [hcp] at hz
       simp only [afQ] at hz
       subst hz
       obtain ⟨g1,g2⟩:=ih hg hs'
       obtain ⟨f1,f2⟩:=I8 (own:=own) n hcg hcp
       have hpt:aa (.fD n :: p) (.st c)=aa p s.1:=by simp [aa,bW n hcg]
       rw [hpt]
       exact ⟨fun e he=>(g1 e he).imp (f1 e) id,fun h=>f2 (g2 h)⟩
   | _=>simp [aO] at hg
  | idx i=>
   cases k with
   | sl e k=>
    simp only [aO,dR] at hg hz
    cases hs':dR p k ((show List (El k) from x).getD i.toNat k.zero) t with
    | none=>rw [hs'] at hz; simp at hz
    | some u=>
     rw [hs'] at hz
     simp only at hz
     cases hck:bR u.1 k u.2 with
     | none=>rw [hck] at hz; simp at hz
     | some y=>
      rw [hck] at hz
      simp only [afQ] at hz
      subst hz
      obtain ⟨g1,g2⟩:=ih hg hs'
      have huk:u.1=k:=by
       unfold bR at hck
       split at hck
       ·rename_i hb; exact K.eq_of_beq hb
       ·simp at hck
      refine ⟨fun e' he=>?_,fun _ e' he=>he⟩
      cases hm:au e own with
      | false=>exact .inr ⟨e,by simp [aa],hm⟩
      | true=>
       rcases g1 e' he with h | ⟨q,h1,h2⟩
       ·exact .inl (by simp only [aR,hm,cond_true]; rw [←huk]; exact h)
       ·exact .inr ⟨q,by simp [aa,h1],h2⟩
   | _=>simp [aO] at hg
theorem Gp:∀(n:Nat) {c:K} {x y:El c} {s:Dat},aK n c x=some s→∃t:Dat,aK n c y=some t∧t.1=s.1:=by
 intro n
 induction n with
 | zero=>
  intro c x y s h
  cases c <;> first | (simp only [aK,afQ] at h; subst h; exact ⟨_,rfl,rfl⟩) | simp [aK] at h
 | succ n ih=>
  intro c x y s h
  cases c <;> first | exact ih h | simp [aK] at h
theorem LC:∀(n:Nat) {c:K} {x:El c} {s:Dat},aK n c x=some s→∀t∈s.1.tys,t∈c.tys:=by
 intro n
 induction n with
 | zero=>
  intro c x s h t ht
  cases c with
  | pair a b=>simp only [aK,afQ] at h; subst h; simp [K.tys,ht]
  | _=>simp [aK] at h
 | succ n ih=>
  intro c x s h t ht
  cases c with
  | pair a b=>simp only [aK] at h; simp [K.tys,ih h t ht]
  | _=>simp [aK] at h
theorem qL {h h':Heap} {own:List TypeId}:∀(q:List Stp) {k:K} {x y:El k} {cs cs':List Value} {wh:Option (Nat×Nat)} {c0:List Value} {w0:Option (Nat×Nat)},
  kH q k x→(∀t∈aa q k,au t own=true∧t∉k.tys)→bE h q k cs wh=some (c0,w0)→kH q k y∧∃c1,bE h' q k cs' wh=some (c1,w0):=by
 intro q
 induction q with
 | nil=>
  intro k x y cs cs' wh c0 w0 _ _ hn
  simp only [bE,afQ,af1] at hn ⊢
  exact ⟨trivial,_,rfl,hn.2⟩
 | cons s q ih=>
  intro k x y cs cs' wh c0 w0 hp ht hn
  cases s with
  | fD n=>
   cases k with
   | st c=>
    simp only [kH] at hp
    cases hg:aK n c x with
    | none=>rw [hg] at hp; exact hp.elim
    | some s=>
     rw [hg] at hp
     simp only at hp
     have hpt:aa (.fD n :: q) (.st c)=aa q s.1:=by simp [aa,bW n hg]
     rw [hpt] at ht
     obtain ⟨t,g1,g2⟩:=Gp n (c:=c) (x:=x) (y:=y) hg
     obtain ⟨sk,sx⟩:=s
     obtain ⟨tk,ty⟩:=t
     simp only at g2
     subst g2
     simp only [bE] at hn ⊢
     cases ho:bu n c with
     | none=>rw [ho] at hn; simp at hn
     | some q2=>
      rw [ho] at hn
      simp only at hn
      have hk2:q2.2=tk:=by
       have key:∀(n:Nat) {c:K} {x:El c} {s:Dat} {q:Nat×K},aK n c x=some s→bu n c=some q→q.2=s.1:=by
        intro n
        induction n with
        | zero=>intro c x s q h1 h2; cases c with
         | pair a b=>simp only [aK,bu,afQ] at h1 h2; subst h1; subst h2; rfl
         | _=>simp [aK] at h1
        | succ n ih=>intro c x s q h1 h2; cases c with
         | pair a b=>
          simp only [aK,bu] at h1 h2
          cases h3:bu n b with
          | none=>rw [h3] at h2; simp at h2
          | some q3=>rw [h3] at h2; simp only [afQ] at h2; subst h2; exact ih (q:=q3) h1 h3
         | _=>simp [aK] at h1
       exact key n hg ho
      obtain ⟨o2,k2⟩:=q2
      simp only at hk2
      subst hk2
      simp only [kH,g1]
      exact ih hp (fun t h=>⟨(ht t h).1,fun h2=>(ht t h).2 (LC n hg t h2)⟩) hn
   | _=>simp [kH] at hp
  | idx i=>
   cases k with
   | sl e k=>exact absurd (by simp [K.tys]) (ht e (by simp [aa])).2
   | _=>simp [kH] at hp
theorem yK {h:Heap} {b o n:Nat} {arr:Array Value} {e:TypeId} {fr:Nat×Nat} (hb:h b=some (.cells arr e fr)) (hl:o+n≤arr.size):Cells h b o (mP h b o n):=by
 intro i hi
 simp only [mP,List.length_map,List.length_range] at hi ⊢
 rw [List.getElem?_map,List.getElem?_range hi]
 simp only [Option.map_some]
 unfold cellAt
 rw [hb]
 simp [show o+i<arr.size by omega]
theorem gu.widen {h0 h h':Heap} {b o n o' n':Nat} (H0:gu h0 h b o n) (H:gu h h' b o' n') (h1:o≤o') (h2:o'+n'≤o+n):gu h0 h' b o n:=by
 obtain ⟨a0,a1,e,fr,g1,g2,g3,g4⟩:=H0
 obtain ⟨b0,b1,e',fr',f1,f2,f3,f4⟩:=H
 rw [g2] at f1
 simp only [afQ,Obj.cells.injEq] at f1
 obtain ⟨rfl,rfl,rfl⟩:=f1
 exact ⟨a0,b1,e,fr,g1,f2,f3.trans g3,fun i hi=>(f4 i (by omega)).trans (g4 i hi)⟩
theorem cK {l m:List Tag} {t:Tag}:t∈iy l m↔t∈l∨t∈m:=by
 induction l with
 | nil=>simp [iy]
 | cons s l ih=>
  obtain ⟨r,n⟩:=s
  simp only [iy]
  cases h:m.any fun t=>Nat.beq t.1 r && Nat.beq t.2 n with
  | true=>
   simp only [cond_true,ih,af2]
   constructor
   ·intro h; exact h.imp .inr id
   ·rintro ((h1 | h1) | h1)
    ·subst h1
     obtain ⟨t,h2,h3⟩:=List.any_eq_true.1 h
     simp only [afW] at h3
     obtain ⟨tr,tn⟩:=t
     have:=afU h3.1
     have:=afU h3.2
     simp_all
    ·exact .inl h1
    ·exact .inr h1
  | false=>simp only [cond_false,ih,af2,or_assoc]
theorem mo {r:Nat} {l:List Tag} {t:Tag}:t∈sj r l↔t∈l∧t.1≠r:=by
 unfold sj
 rw [af7]
 constructor
 ·rintro ⟨h1,h2⟩
  refine ⟨h1,fun e=>?_⟩
  rw [e] at h2
  simp at h2
 ·rintro ⟨h1,h2⟩
  refine ⟨h1, ?_⟩
  cases hb:Nat.beq t.1 r with
  | true=>exact absurd (afU hb) h2
  | false=>rfl
section
variable {cx:Cx} {σ:St} {α:dI} {F:List Nat} {a:Act} {w:World} {r:Nat} {R:Root}
theorem rG {T T':List Tag} {b:Nat} (h:gV cx σ α F w T b) (hs:∀t∈T,t∈T'):gV cx σ α F w T' b:=
 ⟨h.1,h.2.1,h.2.2.1,fun r R h1 h2=>by obtain ⟨n,hn⟩:=h.2.2.2.1 r R h1 h2; exact ⟨n,hs _ hn⟩,fun hb=>(h.2.2.2.2 hb).imp (fun ⟨j,n,h1,h2⟩=>⟨j,n,hs _ h1,h2⟩) id⟩
theorem ng {T T':List Tag} {tys YE:List TypeId} (h:bg σ tys T=true) (hs:∀t∈T',t∈T) (ht:∀t∈YE,t∈tys):bg σ YE T'=true:=by
 rw [lD] at h ⊢
 intro t h1
 rcases h t (hs t h1) with h | ⟨R,h2,h3,h4⟩
 ·exact .inl h
 ·refine .inr ⟨R,h2,h3, ?_⟩
  unfold clean at h4 ⊢
  rw [af5] at h4 ⊢
  intro x hx
  have:=h4 x hx
  simp only [Bool.not_eq_true',aS] at this ⊢
  exact fun h=>this (ht x h)
theorem lF (H:Rel cx σ α F a w) (hr:aN σ r R) {b:Nat} (hb:b∈α.fo r):¬jS cx b:=by
 rintro ⟨j,pi,o,n,h1,h2⟩
 obtain ⟨Q,hQ,hk,hl,_⟩:=H.jT j pi b o n h1 h2
 have hbq:b∈blk α Q (ak j):=by simp [blk,dQ,hk,hl]
 have hbr:b∈blk α R r:=afS _ hb
 by_cases e:r=ak j
 ·subst e
  have hQR:Q=R:=by have:=hQ.1; rw [hr.1] at this; simpa using this.symm
  subst hQR
  have hnd:=(H.roots _ _ hr).nd
  rw [bV,kJ] at hnd
  exact hnd.1 b o (by simp [rX,hk,hl]) hb
 ·exact H.AB _ _ _ _ hr hQ e b hbr hbq
theorem oL (H:Rel cx σ α F a w) {b:Nat} (hb:b∈F):¬jS cx b:=by
 rintro ⟨j,pi,o,n,h1,h2⟩
 obtain ⟨Q,hQ,hk,hl,_⟩:=H.jT j pi b o n h1 h2
 have hbq:b∈blk α Q (ak j):=by simp [blk,dQ,hk,hl]
 exact H.iB _ _ hQ b hbq hb
def bG (R:Root) (z:Dat) (own:List TypeId) (tags:List Tag) (lw lh:List TypeId) (kp:Bool):Root:=
 { R with k:=z.1,x:=z.2,own:=own,tags:=tags,w:=lw++R.w,h:=lh++R.h,keep:=kp }
theorem mO (H:Rel cx σ α F a w) (hr:aN σ r R) (hv:bn σ R) {p:List Stp} {d:Dat} (hg:aO p R.k R.x=some d) (fG:kH p R.k R.x) (hown:∀t∈aa p R.k,au t R.own=true)
  {cs1:List Value} {b o:Nat} (hn:bE (hp w) p R.k (α.hdr r) (dQ α R r)=some (cs1,some (b,o))) :
  Cells (hp w) b o cs1∧(∃fE,Ow (hp w) R.own (gV cx σ α F w R.tags) d.1 d.2 cs1 fE∧∀b∈fE,b∈α.fo r)∧b∈blk α R r∧(∃arr e lo hi,hp w b=some (.cells arr e (lo,hi))∧yI arr.size lo hi∧o+d.1.size≤arr.size∧((eB R p=e∧¬jS cx b)∨(jS cx b∧eB R p=SENT)))∧
   (∀b' o',dQ α R r=some (b',o')→b=b'→o'≤o∧o+d.1.size≤o'+R.k.size):=by
 have K:=H.roots r R hr
 have hnd:=K.nd
 rw [bV,kJ] at hnd
 obtain ⟨mF,fE,rest,kP,hn',hp1,hd1,hc1,hin,hnone,hup⟩:=focus p (K.ow hv) (fun b o e=>(K.mem b o e).1) hg fG hown hnd.2 (fun b o e=>hnd.1 b o e)
 rw [hn] at hn'
 simp only [afQ,af1] at hn'
 obtain ⟨rfl,rfl⟩:=hn'
 refine ⟨hc1 b o rfl,⟨fE,hd1,fun b hb=>hp1.mem_iff.2 (afV _ hb)⟩, ?_, ?_, ?_⟩
 ·rw [bV,eH]
  rcases hin b o rfl with ⟨_,o0,ew,_⟩ | ⟨h1,_⟩
  ·exact .inl ⟨o0,ew⟩
  ·exact .inr (hp1.mem_iff.2 (afS _ h1))
 ·rcases hin b o rfl with ⟨h0,o0,ew,h1,h2⟩ | ⟨h1,arr,e,lo,hi,h2,h3,h4,h5⟩
  ·obtain ⟨_,arr,e,lo,hi,g1,g2,g3,g4⟩:=K.mem b o0 ew
   refine ⟨arr,e,lo,hi,g1,g2,by omega, ?_⟩
   unfold eB
   rw [h0]
   simp only [List.getLastD_nil]
   unfold Root.bt
   cases hk:R.kind with
   | var t=>
    refine .inl ⟨(g4 t hk).symm, ?_⟩
    rintro ⟨j,pi,o',n',h1',h2'⟩
    obtain ⟨Q,hQ,hkQ,hlQ,_⟩:=H.jT j pi b o' n' h1' h2'
    have hbq:b∈blk α Q (ak j):=by simp [blk,dQ,hkQ,hlQ]
    have hbr:b∈blk α R r:=by rw [bV,eH]; exact .inl ⟨o0,ew⟩
    by_cases e:r=ak j
    ·subst e
     have hQR:Q=R:=by have:=hQ.1; rw [hr.1] at this; simpa using this.symm
     subst hQR
     rw [hk] at hkQ
     simp at hkQ
    ·exact H.AB _ _ _ _ hr hQ e b hbr hbq
   | par=>
    obtain ⟨j,pi,n,hj1,hj2,hj3⟩:=H.yu r R hr hk
    have:(α.loc r).1=b:=by
     have:=ew
     unfold dQ at this
     rw [hk] at this
     simp only [afQ] at this
     rw [this]
    exact .inr ⟨⟨j,pi,_,n,hj2,by rw [hj3,this]⟩,rfl⟩
   | anon=>unfold dQ at ew; rw [hk] at ew; simp at ew
   | dead=>unfold dQ at ew; rw [hk] at ew; simp at ew
  ·refine ⟨arr,e,lo,hi,h2,h3,h5, .inl ⟨?_,lF H hr (hp1.mem_iff.2 (afS _ h1))⟩⟩
   unfold eB
   rw [List.getLastD_eq_getLast?,h4]
   rfl
 ·intro b' o' ew e
  subst e
  rcases hin b o rfl with ⟨_,o0,ew',h1,h2⟩ | ⟨h1,_⟩
  ·rw [ew] at ew'
   simp only [afQ,af1,true_and] at ew'
   subst ew'
   exact ⟨h1,h2⟩
  ·exact absurd (hp1.mem_iff.2 (afS _ h1)) (hnd.1 b o' ew)
end
end
section
open Go
variable [Fr]
section
variable {cx:Cx} {σ:St} {α:dI} {F:List Nat} {a:Act} {w:World} {r:Nat} {R:Root}
structure oO (cx:Cx) (σ:St) (α:dI) (F:List Nat) (w:World) (r:Nat) (R:Root) (p:List Stp) (d:Dat) (own':List TypeId) (cs1:List Value) (kP:Option (Nat×Nat)) (fE rest:List Nat)
  (t z:Dat) (tags':List Tag) (lw lh:List TypeId) (kp:Bool) (ft F':List Nat) (cs':List Value) (w':World):Prop where
 hz:dR p R.k R.x t=some z
 ht:t.1.size=d.1.size
 Ml:∀e∈aR own' d.1,e∈aR own' t.1
 os:w'.os=w.os∧w'.tape=w.tape∧w'.output=w.output
 size:w.heap.size≤w'.heap.size
 Iw:∀b,b<w.heap.size→hp w' b≠hp w b→b∈F∨(b∈fE∧∃e∈lw,ni (hp w) b=some e)∨(∃o,kP=some (b,o)∧eB R p∈lw)
 cells:∀b o,kP=some (b,o)→Cells (hp w') b o cs'∧gu (hp w) (hp w') b o d.1.size
 none:kP=none→cs'=cs1
 len:cs'.length=d.1.size
 log:lw≠[]∨lh≠[]
 tags:(∀t∈R.tags,t∈tags')∧eG σ tags'∧∀n,(r,n)∉tags'
 KV:∀b∈ft,b∈fE∨b∈F∨(w.heap.size≤b∧b<w'.heap.size)
 abE:ft.Nodup
 newF:∀b∈F',b∈F∨(w.heap.size≤b∧b<w'.heap.size)∨(b∈fE∧∃e∈lw,ni (hp w) b=some e)
 YY:F'.Nodup
 abD:∀b∈ft,b∉F'
 acX:qa t.1=qa d.1∨kP≠Option.none
 abG:t.1=d.1∨(∀q',(aO q' t.1 t.2).isSome=true→(∀e∈aa q' t.1,e∉lh)→aa q' d.1=aa q' t.1∧(aO q' d.1 d.2).isSome=true)∨mY∈lh
 nav:mY∉lh→Aw (hp w) (hp w') own' d.1 d.2 cs1 kP t cs' lh
 cont:∀α',kI cx σ α F w (aj σ r (bG R z own' tags' lw lh kp)) α' F' w' (o8 r lw) (o8 r lh)→(∀b∈blk α' (bG R z own' tags' lw lh kp) r,(∃o,dQ α R r=some (b,o))∨b∈ft∨b∈rest)→
  bn (aj σ r (bG R z own' tags' lw lh kp)) (bG R z own' tags' lw lh kp)→Ow (hp w') own' (gV cx (aj σ r (bG R z own' tags' lw lh kp)) α' F' w' tags') t.1 t.2 cs' ft
theorem Rel.place (H:Rel cx σ α F a w) (hr:aN σ r R) (hv:bn σ R) {p:List Stp} {d:Dat} {own':List TypeId} (hg:aO p R.k R.x=some d) (fG:kH p R.k R.x)
  (hsub:∀t,au t own'=true→au t R.own=true) (hown:∀t∈aa p R.k,au t own'=true) :
  ∃fd ok' fE rest cs1 kP,bE (hp w) p R.k (α.hdr r) (dQ α R r)=some (cs1,kP)∧(α.fo r).Perm (fE++rest++fd)∧Ow (hp w) own' ok' d.1 d.2 cs1 fE∧(∀b∈fE++rest,∃e∈R.k.tys,au e own'=true∧ni (hp w) b=some e)∧
   ((∀t∈R.k.tys,au t own'=au t R.own)→fd=[]∧Ow (hp w) own' (gV cx σ α F w R.tags) d.1 d.2 cs1 fE)∧
   (∀b o,kP=some (b,o)→b∈rest∨∃o0,dQ α R r=some (b,o0)∧o0≤o∧o+d.1.size≤o0+R.k.size)∧(∀b o,kP=some (b,o)→b∉fE)∧
   ∀{t z:Dat} {tags':List Tag} {lw lh:List TypeId} {kp:Bool} {ft F':List Nat} {cs':List Value} {w':World},oO cx σ α F w r R p d own' cs1 kP fE rest t z tags' lw lh kp ft F' cs' w'→
    ∃α',Rel cx (aj σ r (bG R z own' tags' lw lh kp)) α' F' a w'∧kI cx σ α F w (aj σ r (bG R z own' tags' lw lh kp)) α' F' w' (o8 r lw) (o8 r lh)∧(∀b∈blk α' (bG R z own' tags' lw lh kp) r,(∃o,dQ α R r=some (b,o))∨b∈ft∨b∈rest)∧
     (mY∉lh→bn (aj σ r (bG R z own' tags' lw lh kp)) (bG R z own' tags' lw lh kp)→bE (hp w') p z.1 (α'.hdr r) (dQ α' (bG R z own' tags' lw lh kp) r)=some (cs',kP))∧∀b∈ft,b∈α'.fo r:=by
 have K:=H.roots r R hr
 have hnd:=K.nd
 rw [bV,kJ] at hnd
 have hO:=K.ow hv
 obtain ⟨DW,fd,hpK,hOK,hfd0⟩:∃DW fd,(α.fo r).Perm (DW++fd)∧Ow (hp w) own' (fun b=>(gV cx σ α F w R.tags b∨b∈fd)∧∃t∈aR own' R.k,q9 (hp w) b t) R.k R.x (α.hdr r) DW∧((∀t∈R.k.tys,au t own'=au t R.own)→fd=[]):=by
  by_cases hall:∀t∈R.k.tys,au t own'=au t R.own
  ·exact ⟨α.fo r,[],by simp,oN _ (fun _ h=>h) (bq (fun _ _=>rfl) (fun _ h=>.inl h) (fun _ _=>rfl) (nV hall hO)),fun _=>rfl⟩
  ·obtain ⟨DW,fd,h1,h2⟩:=qG (own':=own') (fun t _ h=>hsub t h) hO
   exact ⟨DW,fd,h1,oN _ (fun _ h=>h) h2,fun h=>absurd h hall⟩
 have Uv:=hpK.nodup hnd.2
 have ab9:∀b,b∈α.fo r↔b∈DW∨b∈fd:=fun b=>by rw [hpK.mem_iff,afZ]
 obtain ⟨cs1,fE,rest,kP,hn,hp1,hd1,hc1,hin,hnone,hup⟩:=focus p hOK (fun b o e=>(K.mem b o e).1) hg fG hown (afX.1 Uv).1 (fun b o e hb=>hnd.1 b o e ((ab9 b).2 (.inl hb)))
 have hpf:(α.fo r).Perm (fE++rest++fd):=hpK.trans (List.Perm.append_right _ hp1)
 have hfo:∀b,b∈α.fo r↔(b∈fE∨b∈rest)∨b∈fd:=fun b=>by rw [hpf.mem_iff,afZ,afZ]
 have Mg:=hpf.nodup hnd.2
 have GU:=(afX.1 Mg).1
 have acQ:=pU hOK
 have uL:∀b o,kP=some (b,o)→b∈rest∨∃o0,dQ α R r=some (b,o0)∧o0≤o∧o+d.1.size≤o0+R.k.size:=by
  intro b o e
  rcases hin b o e with ⟨_,o0,ew,h1,h2⟩ | ⟨h1,_⟩
  ·exact .inr ⟨o0,ew,h1,h2⟩
  ·exact .inl h1
 have UI:∀b o,kP=some (b,o)→b∉fE:=by
  intro b o e hb
  rcases uL b o e with h | ⟨o0,ew,_⟩
  ·exact (afX.1 GU).2.2 b hb b h rfl
  ·exact hnd.1 b o0 ew ((hfo b).2 (.inl (.inl hb)))
 have X5:∀b o,kP=some (b,o)→b∉fd:=by
  intro b o e hb
  rcases uL b o e with h | ⟨o0,ew,_⟩
  ·exact (afX.1 Mg).2.2 b (afS _ h) b hb rfl
  ·exact hnd.1 b o0 ew ((hfo b).2 (.inr hb))
 refine ⟨fd,_,fE,rest,cs1,kP,hn,hpf,hd1,fun b hb=>acQ b (hp1.mem_iff.2 hb), ?_,uL,UI, ?_⟩
 ·intro hall
  have h0:=hfd0 hall
  refine ⟨h0,bq (fun _ _=>rfl) (fun b hb=>?_) (fun _ _=>rfl) hd1⟩
  rcases hb.1 with hb | hb
  ·exact hb
  ·rw [h0] at hb; simp at hb
 intro t z tags' lw lh kp ft F' cs' w' P
 generalize hR':bG R z own' tags' lw lh kp=R' at *
 have Ez:R'.k=z.1:=by rw [←hR']; rfl
 have hkind:R'.kind=R.kind:=by rw [←hR']; rfl
 have Xt:R'.aZ=false:=by rw [Ms hkind]; exact hr.2
 have Xf:R'.own=own':=by rw [←hR']; rfl
 have Oi:R'.tags=tags':=by rw [←hR']; rfl
 have hRg:R'.g=R.g:=by rw [←hR']; rfl
 have hRw:R'.w=lw++R.w:=by rw [←hR']; rfl
 have hRh:R'.h=lh++R.h:=by rw [←hR']; rfl
 have hsz:z.1.size=R.k.size:=zn p hg P.ht P.hz
 have iZ:∀b,b∈fE∨b∈rest∨b∈fd∨(∃o,dQ α R r=some (b,o))→b∈blk α R r:=by
  intro b hb
  rw [bV,eH,hfo]
  rcases hb with h | h | h | h
  ·exact .inr (.inl (.inl h))
  ·exact .inr (.inl (.inr h))
  ·exact .inr (.inr h)
  ·exact .inl h
 have Ah:∀b∈blk α R r,b∉F:=fun b hb=>H.iB r R hr b hb
 have hblt:∀b∈blk α R r,b<w.heap.size:=fun b hb=>(K.mine b hb).1
 have Ug:∀b∈blk α R r,b∉fE→b∉F':=fun b hb hno h=>by
  rcases P.newF b h with h | h | h
  ·exact Ah b hb h
  ·have:=hblt b hb; omega
  ·exact hno h.1
 have OQ:∀b∈blk α R r,b∉fE→(∀o,kP≠some (b,o))→hp w' b=hp w b:=by
  intro b hb h1 h2
  refine agc fun hne=>?_
  rcases P.Iw b (hblt b hb) hne with h | ⟨h,_⟩ | ⟨o,h,_⟩
  ·exact Ah b hb h
  ·exact h1 h
  ·exact h2 o h
 have Q7:∀b∈fd,hp w' b=hp w b:=fun b hb=>OQ b (iZ b (.inr (.inr (.inl hb))))
  (fun h=>(afX.1 Mg).2.2 b (afV _ h) b hb rfl) (fun o e=>X5 b o e hb)
 have Mj:∀b∈rest,kP.map (·.1)≠some b→hp w' b=hp w b:=fun b hb hne=>OQ b (iZ b (.inr (.inl hb)))
  (fun h=>(afX.1 GU).2.2 b h b hb rfl) (fun o e=>hne (by rw [e]; rfl))
 have KJ:∀b o,dQ α R r=some (b,o)→kP.map (·.1)≠some b→hp w' b=hp w b:=fun b o e hne=>OQ b (iZ b (.inr (.inr (.inr ⟨o,e⟩))))
  (fun h=>hnd.1 b o e ((hfo b).2 (.inl (.inl h)))) (fun o e=>hne (by rw [e]; rfl))
 let hdr':=match dQ α R r with
  | some (b0,o0)=>mP (hp w') b0 o0 R.k.size
  | none=>α.hdr r
 have hT1:vg cx σ α F w r R R' (ft++rest) F' w' lw lh:=by
  refine ⟨.inr ⟨hRw,hRh,by rw [hRg]; exact af6 _,hkind,fun _=>by rw [Ez]; exact hsz,P.log⟩,by rw [Oi]; exact P.tags.2,P.os,P.size, ?_, ?_, ?_,P.YY, ?_, ?_,fun _=>by rw [←hR']; exact ⟨rfl,rfl⟩⟩
  ·intro b hb hne
   rcases P.Iw b hb hne with h | ⟨h,h2⟩ | ⟨o,h,h2⟩
   ·exact .inl h
   ·exact .inr ⟨iZ b (.inl h), .inr (.inl h2)⟩
   ·have hbb:b∈blk α R r:=iZ b (by
     rcases uL b o h with h | ⟨o0,ew,_⟩
     ·exact .inr (.inl h)
     ·exact .inr (.inr (.inr ⟨o0,ew⟩)))
    refine .inr ⟨hbb, .inr ?_⟩
    rcases hin b o h with ⟨h0,o0,ew,_⟩ | ⟨_,arr,e,lo,hi,g1,_,g3,_⟩
    ·
     obtain ⟨_,arr,e,lo,hi,g1,g2,g3,g4⟩:=K.mem b o0 ew
     unfold eB at h2
     rw [h0] at h2
     simp only [List.getLastD_nil] at h2
     cases hk:R.kind with
     | var tv=>
      refine .inl ⟨tv, ?_, ?_⟩
      ·unfold Root.bt at h2; rw [hk] at h2; exact h2
      ·unfold ni; rw [g1]; simp [g4 tv hk]
     | par=>
      obtain ⟨j,pi,n,hj1,hj2,hj3⟩:=H.yu r R hr hk
      have:(α.loc r).1=b:=by
       have:=ew
       unfold dQ at this
       rw [hk] at this
       simp only [afQ] at this
       rw [this]
      exact .inr ⟨⟨j,pi,_,n,hj2,by rw [hj3,this]⟩,fun e=>by rw [e] at h2; simp at h2⟩
     | anon=>unfold dQ at ew; rw [hk] at ew; simp at ew
     | dead=>unfold dQ at ew; rw [hk] at ew; simp at ew
    ·refine .inl ⟨e, ?_,by unfold ni; rw [g1]⟩
     unfold eB at h2
     rw [List.getLastD_eq_getLast?,g3] at h2
     exact h2
  ·intro _ b hb
   rw [lC hkind,eH,afZ] at hb
   rcases hb with ⟨o,h⟩ | h | h
   ·exact .inl (iZ b (.inr (.inr (.inr ⟨o,h⟩))))
   ·rcases P.KV b h with h | h | h
    ·exact .inl (iZ b (.inl h))
    ·exact .inr (.inl h)
    ·exact .inr (.inr h)
   ·exact .inl (iZ b (.inr (.inl h)))
  ·intro b hb
   rcases P.newF b hb with h | h | h
   ·exact .inl h
   ·exact .inr (.inl h)
   ·exact .inr (.inr ⟨iZ b (.inl h.1), .inr (.inl h.2)⟩)
  ·intro _ b hb
   rw [lC hkind,eH,afZ] at hb
   rcases hb with ⟨o,h⟩ | h | h
   ·exact Ug b (iZ b (.inr (.inr (.inr ⟨o,h⟩)))) (fun h1=>hnd.1 b o h ((hfo b).2 (.inl (.inl h1))))
   ·exact P.abD b h
   ·exact Ug b (iZ b (.inr (.inl h))) (fun h1=>(afX.1 GU).2.2 b h1 b h rfl)
  ·intro j pi b o n hj hb Vg hne
   obtain ⟨Q,hQ,hk,hl,hs⟩:=H.jT j pi b o n hj hb
   have hQR:Q=R:=by have:=hQ.1; rw [←Vg,hr.1] at this; simpa using this.symm
   subst hQR
   have hwb:dQ α Q r=some (b,o):=by unfold dQ; rw [hk,Vg,hl]
   have hbb:=iZ b (.inr (.inr (.inr ⟨o,hwb⟩)))
   obtain ⟨_,_,_,_,_,f6⟩:=H.frame
   have h0:=f6 j pi b o n hj hb
   rcases P.Iw b (hblt b hbb) hne with h | ⟨h,_⟩ | ⟨o',h,_⟩
   ·exact absurd h (Ah b hbb)
   ·exact absurd ((hfo b).2 (.inl (.inl h))) (hnd.1 b o hwb)
   ·rcases uL b o' h with h1 | ⟨o0,ew,h1,h2⟩
    ·exact absurd ((hfo b).2 (.inl (.inr h1))) (hnd.1 b o hwb)
    ·rw [hwb] at ew
     simp only [afQ,af1,true_and] at ew
     subst ew
     exact h0.widen (P.cells b o' h).2 h1 (by omega)
 have hT:=hT1.turn (hdr':=hdr') H hr
 have hblk':∀b∈blk (aG α r (α.loc r) hdr' (ft++rest)) R' r,(∃o,dQ α R r=some (b,o))∨b∈ft∨b∈rest:=by
  intro b hb
  rw [dY,lC hkind,eH,afZ] at hb
  exact hb
 have hwhole:bn (aj σ r R') R'→Ow (hp w') own' (gV cx (aj σ r R') (aG α r (α.loc r) hdr' (ft++rest)) F' w' tags') z.1 z.2 hdr' (ft++rest)∧
   (mY∉lh→(t.1=d.1→z.1=R.k)∧Aw (hp w) (hp w') own' R.k R.x (α.hdr r) (dQ α R r) z hdr' lh∧bE (hp w') p z.1 hdr' (dQ α R r)=some (cs',kP)):=by
  intro hv'
  have hcont:=P.cont _ (by rw [hR']; exact hT) (by rw [hR']; exact hblk') (by rw [hR']; exact hv')
  rw [hR'] at hcont
  have Ml:∀e∈aR own' R.k,e∈R'.wF:=by
   unfold Root.wF
   rw [Xf,Ez]
   exact (Es p hg P.hz).2 P.Ml
  have hc2:=hv'.2
  rw [Oi] at hc2
  obtain ⟨_,hV,_⟩:=hT.views H R.tags (aR own' R.k) (H.dh r R hr.1).1 (ng hc2 P.tags.1 Ml)
  have hok:∀b,((gV cx σ α F w R.tags b∨b∈fd)∧∃t∈aR own' R.k,q9 (hp w) b t)→gV cx (aj σ r R') (aG α r (α.loc r) hdr' (ft++rest)) F' w' tags' b∧hp w' b=hp w b:=by
   rintro b ⟨hb,hty⟩
   rcases hb with hb | hb
   ·obtain ⟨h1,h2⟩:=hV b hb (.inl hty)
    exact ⟨rG h1 P.tags.1,h2⟩
   ·have hbb:=iZ b (.inr (.inr (.inl hb)))
    refine ⟨⟨Nat.lt_of_lt_of_le (hblt b hbb) P.size,Ug b hbb (fun h1=>(afX.1 Mg).2.2 b (afV _ h1) b hb rfl),lF H hr ((hfo b).2 (.inr hb)), ?_, ?_⟩,Q7 b hb⟩
    ·intro q Q hq hbq
     exfalso
     rcases iQ hq with ⟨rfl,rfl,_⟩ | ⟨e,hq'⟩
     ·rcases hblk' b hbq with ⟨o,h⟩ | h | h
      ·exact hnd.1 b o h ((hfo b).2 (.inr hb))
      ·rcases P.KV b h with h | h | h
       ·exact (afX.1 Mg).2.2 b (afV _ h) b hb rfl
       ·exact Ah b hbb h
       ·have:=hblt b hbb; omega
      ·exact (afX.1 Mg).2.2 b (afS _ h) b hb rfl
     ·rw [(gI (α:=α) (σ:=σ) (R:=R') e).blk] at hbq
      exact H.AB _ _ _ _ hr hq' (Ne.symm e) b hbb hbq
    ·intro hb0
     rcases (K.mine b hbb).2 with h | ⟨j,pi,h1,h2⟩
     ·omega
     ·exact .inr ⟨j,pi,h1,h2⟩
  obtain ⟨csn,hl0,BS,hC',hN',hK'⟩:=hup.go (hp w') (gV cx (aj σ r R') (aG α r (α.loc r) hdr' (ft++rest)) F' w' tags') t cs' ft z P.hz P.len hcont hok Mj P.cells P.none KJ
  have Xr:csn=hdr':=by
   cases hw:dQ α R r with
   | none=>
    have:hdr'=α.hdr r:=by simp only [hdr']; rw [hw]
    rw [this]
    exact hN' hw
   | some q=>
    have:hdr'=mP (hp w') q.1 q.2 R.k.size:=by simp only [hdr']; rw [hw]
    rw [this]
    have h1:=gM (hC' q.1 q.2 hw)
    rw [hl0,K.len] at h1
    exact h1.symm
  rw [Xr] at BS
  refine ⟨BS,fun qj=>?_⟩
  have:=hK' lh P.ht (P.nav qj)
  rw [Xr] at this
  exact ⟨this.1,this.2.2⟩
 refine ⟨aG α r (α.loc r) hdr' (ft++rest),hT1.rel H hr ?_ ?_ ?_,hT,hblk',fun hgn hv'=>by
  have h3:=((hwhole hv').2 hgn).2.2
  have OV:dQ (aG α r (α.loc r) hdr' (ft++rest)) R' r=dQ α R r:=by rw [jf,qV hkind, ←qi]
  have Jz:(aG α r (α.loc r) hdr' (ft++rest)).hdr r=hdr':=by simp [aG,upd_same]
  rw [OV,Jz]
  exact h3,fun b hb=>by
  have ab8:(aG α r (α.loc r) hdr' (ft++rest)).fo r=ft++rest:=by simp [aG,upd_same]
  rw [ab8]
  exact afV _ hb⟩
 ·intro _
  refine ⟨fun hv'=>?_, ?_, ?_, ?_⟩
  ·have:=(hwhole hv').1
   subst hR'
   exact this
  ·rw [Ez,hsz]
   simp only [hdr']
   cases hw:dQ α R r with
   | none=>exact K.len
   | some q=>simp [mP]
  ·intro b o hb
   rw [qV hkind, ←qi] at hb
   have hh:hdr'=mP (hp w') b o R.k.size:=by simp only [hdr']; rw [hb]
   obtain ⟨_,arr,e,lo,hi,g1,g2,g3,g4⟩:=K.mem b o hb
   have hnew:∃jG,hp w' b=some (.cells jG e (lo,hi))∧jG.size=arr.size:=by
    by_cases hbw:kP.map (·.1)=some b
    ·cases UH:kP with
     | none=>rw [UH] at hbw; simp at hbw
     | some q=>
      rw [UH] at hbw
      simp only [Option.map_some,afQ] at hbw
      obtain ⟨a1,a2,te,fr,f1,f2,f3,_⟩:=(P.cells q.1 q.2 UH).2
      rw [hbw] at f1 f2
      rw [g1] at f1
      simp only [afQ,Obj.cells.injEq] at f1
      obtain ⟨rfl,rfl,rfl⟩:=f1
      exact ⟨a2,f2,f3⟩
    ·exact ⟨arr,(KJ b o hb hbw).trans g1,rfl⟩
   obtain ⟨jG,f1,f2⟩:=hnew
   refine ⟨?_,jG,e,lo,hi,f1,by rw [f2]; exact g2,by rw [f2,Ez,hsz]; exact g3,fun tv hk=>g4 tv (hkind▸hk)⟩
   rw [hh]
   exact yK f1 (by rw [f2]; exact g3)
  ·rw [lC hkind,kJ]
   refine ⟨fun b o hb h=>?_,afX.2 ⟨P.abE,(afX.1 GU).2.1,fun b h1 c h2 e=>?_⟩⟩
   ·have hbb:=iZ b (.inr (.inr (.inr ⟨o,hb⟩)))
    rcases afZ.1 h with h | h
    ·rcases P.KV b h with h | h | h
     ·exact hnd.1 b o hb ((hfo b).2 (.inl (.inl h)))
     ·exact Ah b hbb h
     ·have:=hblt b hbb; omega
    ·exact hnd.1 b o hb ((hfo b).2 (.inl (.inr h)))
   ·subst e
    have hbb:=iZ b (.inr (.inl h2))
    rcases P.KV b h1 with h | h | h
    ·exact (afX.1 GU).2.2 b h b h2 rfl
    ·exact Ah b hbb h
    ·have:=hblt b hbb; omega
 ·intro _ q n v hn' hold
  refine ⟨hold.1, ?_⟩
  intro Q hQ Rl hcl hty hsome
  have hQ':Q=R':=by
   rw [aH] at hQ
   simpa using hQ.symm
  subst hQ'
  have OV:dQ (aG α r (α.loc r) hdr' (ft++rest)) Q r=dQ α R r:=by rw [jf,qV hkind, ←qi]
  have Jz:(aG α r (α.loc r) hdr' (ft++rest)).hdr r=hdr':=by simp [aG,upd_same]
  rw [OV,Jz]
  rw [hRh,lZ hn'] at hcl
  by_cases hq:q=[]
  ·subst hq
   obtain ⟨_,cs,b,o,h1,h2⟩:=hold.2 R hr.1 hv (by simp [clean,dS,au]) (fun t ht=>by simp [aa] at ht) rfl
   simp only [bE,afQ,af1] at h1
   exact ⟨trivial,hdr',b,o,by simp only [bE]; rw [h1.2],h2⟩
  ·have hpt:∀k,dS q k=mY :: aa q k:=by
    intro k
    cases q with
    | nil=>exact absurd rfl hq
    | cons s q=>rfl
   rw [hpt] at hcl
   have hgn:mY∉lh:=fun hm=>hcl.1 mY hm (by simp)
   obtain ⟨hk,hnk,_⟩:=(hwhole Rl).2 hgn
   subst hR'
   have Sj:aa q R.k=aa q z.1∧(aO q R.k R.x).isSome=true:=by
    rcases P.abG with h | h | h
    ·have hk:=hk h
     obtain ⟨zk,zx⟩:=z
     simp only at hk
     subst hk
     exact ⟨rfl,by rw [nD q (y:=zx)]; exact hsome⟩
    ·exact Ep (bad:=lh) p q hg P.hz h hsome (fun e he hm=>hcl.1 e hm (age _ he))
    ·exact absurd h hgn
   have hpe:aa q (bG R z own' tags' lw lh kp).k=aa q R.k:=Sj.1.symm
   rw [hpe] at hcl hty
   have ab3:∀t∈lh,t∉mY :: aa q R.k:=hcl.1
   obtain ⟨g1,cs,b,o,g2,g3⟩:=hold.2 R hr.1 hv (by rw [hpt]; exact hcl.2) (fun t ht=>hsub t (hty t ht)) Sj.2
   obtain ⟨f1,c1,f2⟩:=hnk q cs (some (b,o)) g1 (fun t ht=>⟨hty t ht,fun h=>ab3 t h (age _ ht)⟩) g2 hsome
   exact ⟨f1,c1,b,o,f2,g3⟩
 ·intro _ g v hg' hold Q hQ YP
  obtain ⟨hQ',_⟩:=eD hQ
  subst hQ'
  obtain ⟨h1,h2⟩:=hold R hr (hRg▸YP)
  have hw:dQ α R r=none:=by unfold dQ; rw [h1]
  have hh:hdr'=α.hdr r:=by simp only [hdr']; rw [hw]
  have Jz:(aG α r (α.loc r) hdr' (ft++rest)).hdr r=hdr':=by simp [aG,upd_same]
  rw [Jz,hh,hkind]
  refine ⟨h1, ?_⟩
  rw [Ez]
  refine (Km ?_).2 h2
  by_cases hp:p=[]
  ·subst hp
   have hz:=P.hz
   simp only [dR,aO,afQ] at hz hg
   subst hz
   rcases P.acX with h | h
   ·rw [h, ←hg]
   ·simp only [bE,afQ,af1] at hn
    rw [←hn.2,hw] at h
    exact absurd rfl h
  ·exact Em hp P.hz
end
end
section
open Go
variable [Fr]
theorem tO:∀{k:K},k.flat=true→k.tys=[]:=by
 intro k
 induction k with
 | sl e k ih=>intro h; simp [K.flat] at h
 | gap n=>intro h; simp [K.flat] at h
 | pair a b iha ihb=>intro h; simp only [K.flat,afW] at h; simp [K.tys,iha h.1,ihb h.2]
 | st f ih=>intro h; exact ih h
 | _=>intro _; rfl
theorem Qy {h h':Heap} {own own':List TypeId} {ok ok':Nat→Prop}:∀{k:K} {x:El k} {cs:List Value} {fo:List Nat},k.flat=true→Ow h own ok k x cs fo→fo=[]∧Ow h' own' ok' k x cs []:=by
 intro k
 induction k with
 | sl e k ih=>intro x cs fo h; simp [K.flat] at h
 | gap n=>intro x cs fo h; simp [K.flat] at h
 | pair a b iha ihb=>
  intro x cs fo h H
  simp only [K.flat,afW] at h
  obtain ⟨c1,c2,f1,f2,e,hp,h1,h2⟩:=H
  obtain ⟨g1,k1⟩:=iha h.1 h1
  obtain ⟨g2,k2⟩:=ihb h.2 h2
  subst g1; subst g2
  exact ⟨hp.eq_nil,c1,c2,[],[],e, .refl _,k1,k2⟩
 | st f ih=>intro x cs fo h H; exact ih (x:=x) h H
 | int ik=>intro x cs fo _ H; exact ⟨H.1,rfl,H.2⟩
 | bool=>intro x cs fo _ H; exact ⟨H.1,rfl,H.2⟩
 | id e=>intro x cs fo _ H; exact ⟨H.1,rfl,H.2⟩
 | str=>intro x cs fo _ H; exact ⟨H.1,rfl,H.2⟩
 | unit=>intro x cs fo _ H; exact ⟨H.1,rfl,H.2⟩
theorem Ro {ik:IntKind} {n:Int} (h:Vi ik n=true):CG ik n:=by
 cases ik <;> simp_all [Vi,CG,Vi.Int.blt,Vi.Int.ble]
theorem bL {a b:K} {x:El a} {y:El b} (h:bR a b x=some y):∃e:a=b,y=e▸x:=by
 unfold bR at h
 split at h
 ·rename_i hb
  simp only [afQ] at h
  exact ⟨K.eq_of_beq hb,h.symm⟩
 ·simp at h
section
variable {A:Type} {cx:Cx} {σ:St} {α:dI} {F:List Nat} {a:Act} {w:World} {z:A}
theorem fH {k:Prog A} {tys:List TypeId}:∀{T:List Tag},(kS T tys k).ends σ z→bg σ tys T=true∧k.ends σ z:=by
 intro T
 induction T with
 | nil=>intro h; exact ⟨rfl,h⟩
 | cons t T ih=>
  obtain ⟨r,n⟩:=t
  intro h
  simp only [kS] at h
  cases he:fC r with
  | true=>
   rw [he] at h
   obtain ⟨h1,h2⟩:=ih h
   exact ⟨by simp [bg,he,h1],h2⟩
  | false=>
   rw [he] at h
   simp only [cond_false,Prog.ends] at h
   cases hr:σ.roots r with
   | none=>rw [hr] at h; exact h.elim
   | some R=>
    rw [hr] at h
    simp only at h
    cases hc:(!R.aZ && clean R.w n tys) with
    | false=>rw [hc] at h; exact h.elim
    | true=>
     rw [hc] at h
     obtain ⟨h1,h2⟩:=ih h
     exact ⟨by simp only [bg,he,hr,cond_false]; rw [hc,h1]; rfl,h2⟩
theorem cz {r:Nat} {k:Root→Prog A} (h:(oD r k).ends σ z):∃R,aN σ r R∧bn σ R∧(k R).ends σ z:=by
 unfold oD at h
 simp only [Prog.ends] at h
 cases hr:σ.roots r with
 | none=>rw [hr] at h; exact h.elim
 | some R=>
  rw [hr] at h
  simp only at h
  cases hd:R.aZ with
  | true=>rw [hd] at h; exact h.elim
  | false=>
   rw [hd] at h
   obtain ⟨h1,h2⟩:=fH h
   exact ⟨R,⟨hr,hd⟩,⟨hd,h1⟩,h2⟩
theorem Ru (v:Value):bH cx σ α F w (Pg v) v∧nW σ (Pg v):=by
 unfold Pg
 split
 ·rename_i k n
  cases h:Vi k n with
  | true=>exact ⟨fun _=>⟨[.int k n],⟨rfl,by simp⟩,rfl,Ro h⟩,fun t ht=>by simp at ht⟩
  | false=>exact ⟨trivial,trivial⟩
 ·exact ⟨fun _=>⟨_,⟨rfl,by simp⟩,rfl⟩,fun t ht=>by simp at ht⟩
 ·rename_i s
  exact ⟨fun _=>⟨_,⟨rfl,by simp⟩,s,rfl,rfl⟩,fun t ht=>by simp at ht⟩
 ·exact ⟨⟨none,rfl⟩,trivial⟩
 ·exact ⟨rfl,trivial⟩
 ·exact ⟨trivial,trivial⟩
theorem oV (H:Rel cx σ α F a w) {x:Operand} {k:sK→Prog A} (h:(qp x k).ends σ z):∃v1,iM cx σ α F w v1 (a.eval x)∧sO σ v1∧(k v1).ends σ z:=by
 cases x with
 | tmp t=>exact ⟨σ.slots t,H.slots t,H.oF t,h⟩
 | const v=>obtain ⟨h1,h2⟩:=Ru (cx:=cx) (σ:=σ) (α:=α) (F:=F) (w:=w) v; exact ⟨.one (Pg v),h1,h2,h⟩
 | func f=>exact ⟨.one (.fn f []),⟨[],rfl,trivial⟩,fun c hc=>by simp at hc,h⟩
 | global g=>exact h.elim
theorem bP (H:Rel cx σ α F a w) {x:Operand} {k:AV→Prog A} (h:(dJ x k).ends σ z):∃v1,bH cx σ α F w v1 (a.eval x)∧nW σ v1∧(k v1).ends σ z:=by
 obtain ⟨v1,h1,h2,h3⟩:=oV H h
 cases v1 with
 | one v=>exact ⟨v,h1,h2,h3⟩
 | CV l=>exact h3.elim
 | lit _ _ _=>exact h3.elim
def evs (a:Act) (l:List (Nat×Operand)):List (Nat×Value):=l.map fun p=>(p.1,a.eval p.2)
theorem yZ (H:Rel cx σ α F a w):∀{l:List (Nat×Operand)} {k:List (Nat×AV)→Prog A},(wI l k).ends σ z→
  ∃vs:List (Nat×AV),vs.map (·.1)=l.map (·.1)∧dO cx σ α F w (vs.map (·.2)) ((evs a l).map (·.2))∧(∀v∈vs,nW σ v.2)∧(k vs).ends σ z:=by
 intro l
 induction l with
 | nil=>intro k h; exact ⟨[],rfl,trivial,by simp,h⟩
 | cons p l ih=>
  obtain ⟨n,x⟩:=p
  intro k h
  simp only [wI] at h
  obtain ⟨v,h1,h2,h3⟩:=bP H h
  obtain ⟨vs,g1,g2,g3,g4⟩:=ih h3
  exact ⟨(n,v) :: vs,by simp [g1],⟨h1,g2⟩,by simpa using ⟨h2,fun a b hb=>g3 (a,b) hb⟩,g4⟩
theorem iN (H:Rel cx σ α F a w):∀{l:List Operand} {k:List AV→Prog A},(jg l k).ends σ z→
  ∃vs:List AV,dO cx σ α F w vs (l.map a.eval)∧(∀v∈vs,nW σ v)∧(k vs).ends σ z:=by
 intro l
 induction l with
 | nil=>intro k h; exact ⟨[],trivial,by simp,h⟩
 | cons x l ih=>
  intro k h
  simp only [jg] at h
  obtain ⟨v,h1,h2,h3⟩:=bP H h
  obtain ⟨vs,g2,g3,g4⟩:=ih h3
  exact ⟨v :: vs,⟨h1,g2⟩,by simpa using ⟨h2,g3⟩,g4⟩
theorem sG {ik:IntKind} {n:Int} {T:List Tag} {v:Value} (h:bH cx σ α F w (.val (.int ik) n T) v):v=.int ik n∧CG ik n:=by
 obtain ⟨cs,h1,h2,h3⟩:=h (.inl rfl)
 obtain ⟨h5,_⟩:cs=[v]∧_:=h1
 rw [h5] at h2
 simp only [List.cons.injEq,and_true] at h2
 exact ⟨h2,h3⟩
theorem tX {b:Bool} {T:List Tag} {v:Value} (h:bH cx σ α F w (.val .bool b T) v):v=.bool b:=by
 obtain ⟨cs,h1,h2⟩:=h (.inl rfl)
 obtain ⟨h5,_⟩:cs=[v]∧_:=h1
 have h2':cs=[.bool b]:=h2
 rw [h5] at h2'
 simpa using h2'
theorem sH {s:List Int} {T:List Tag} {v:Value} (h:bH cx σ α F w (.val .str s T) v):∃B:ByteArray,v=.string B∧s=bytesOf B:=by
 obtain ⟨cs,h1,B,h2,h3⟩:=h (.inl rfl)
 obtain ⟨h5,_⟩:cs=[v]∧_:=h1
 rw [h5] at h2
 simp only [List.cons.injEq,and_true] at h2
 exact ⟨B,h2,h3⟩
theorem JJ {ik:IntKind} {n:Int} {T:List Tag} (h:CG ik n):bH cx σ α F w (.val (.int ik) n T) (.int ik n):=fun _=>⟨[.int ik n],⟨rfl,by simp⟩,rfl,h⟩
theorem Rv {b:Bool} {T:List Tag}:bH cx σ α F w (.val .bool b T) (.bool b):=fun _=>⟨[.bool b],⟨rfl,by simp⟩,rfl⟩
theorem JK {B:ByteArray} {T:List Tag}:bH cx σ α F w (.val .str (bytesOf B) T) (.string B):=fun _=>⟨[.string B],⟨rfl,by simp⟩,B,rfl,rfl⟩
theorem tK {x:AV} {v:Value} {k:IntKind→Int→Prog A} (hx:bH cx σ α F w x v) (h:(asInt x k).ends σ z):∃ik n,v=.int ik n∧CG ik n∧(k ik n).ends σ z:=by
 unfold asInt at h
 split at h
 ·rename_i ik n T
  obtain ⟨h1,h2⟩:=sG hx
  exact ⟨ik,n,h1,h2,h⟩
 ·exact h.elim
theorem Bb {x:AV} {v:Value} {k:Bool→Prog A} (hx:bH cx σ α F w x v) (h:(asBool x k).ends σ z):∃b,v=.bool b∧(k b).ends σ z:=by
 unfold asBool at h
 split at h
 ·rename_i b T
  exact ⟨b,tX hx,h⟩
 ·exact h.elim
theorem gV.q {T:List Tag} {b:Nat} (h:gV cx σ α F w T b):Cv σ α F w T b:=⟨h.1,h.2.1,h.2.2.2.1⟩
theorem Py {T T':List Tag} {b:Nat} (h:Cv σ α F w T b) (hs:∀t∈T,t∈T'):Cv σ α F w T' b:=
 ⟨h.1,h.2.1,fun r R h1 h2=>by obtain ⟨n,hn⟩:=h.2.2 r R h1 h2; exact ⟨n,hs _ hn⟩⟩
variable {r:Nat} {R:Root}
theorem QA {h:Heap} {own:List TypeId} {ok:Nat→Prop}:∀{k:K} {x:El k} {cs:List Value} {fo:List Nat},(∀t∈k.tys,au t own=false)→Ow h own ok k x cs fo→fo=[]:=by
 intro k
 induction k with
 | sl e k ih=>
  intro x cs fo h H
  unfold Ow at H
  rw [if_neg (by rw [h e (by simp [K.tys])]; exact Bool.false_ne_true)] at H
  exact H.1
 | pair a b iha ihb=>
  intro x cs fo h H
  obtain ⟨c1,c2,f1,f2,e,hp,h1,h2⟩:=H
  rw [iha (fun t ht=>h t (by simp [K.tys,ht])) h1,ihb (fun t ht=>h t (by simp [K.tys,ht])) h2] at hp
  exact hp.eq_nil
 | st f ih=>intro x cs fo h H; exact ih (x:=x) h H
 | _=>intro x cs fo _ H; exact H.1
theorem wu (R:Root) (r:Nat) {k:K} (hk:k.flat=false):R.out r k=(r,fV R.w) :: R.tags∨(R.out r k=R.tags∧∀t∈k.tys,au t R.own=false):=by
 unfold Root.out
 rw [hk,cond_false]
 cases h:k.tys.any fun t=>au t R.own with
 | true=>exact .inl rfl
 | false=>
  refine .inr ⟨rfl,fun t ht=>?_⟩
  have:=List.any_eq_false.1 h t ht
  simpa using this
theorem U0 (H:Rel cx σ α F a w) (hr:aN σ r R) {k:K} (hk:R.out r k=(r,fV R.w) :: R.tags) {b:Nat} (hb:b∈α.fo r):gV cx σ α F w (R.out r k) b:=by
 have hbb:b∈blk α R r:=afS _ hb
 have hm:=(H.roots r R hr).mine b hbb
 refine ⟨hm.1,H.iB r R hr b hbb,lF H hr hb,fun q Q hq hbq=>?_,fun h0=>?_⟩
 ·by_cases e:q=r
  ·subst e
   exact ⟨fV R.w,by rw [hk]; simp⟩
  ·exact absurd hbb (H.AB q Q r R hq hr e b hbq)
 ·rcases hm.2 with h | ⟨j,pi,h1,h2⟩
  ·omega
  ·exact .inr ⟨j,pi,h1,h2⟩
theorem K3 {k:K} (hk:k.flat=false):∀t∈R.tags,t∈R.out r k:=fun t ht=>by
 rcases wu R r hk with h | ⟨h,_⟩ <;> rw [h]
 ·exact age _ ht
 ·exact ht
theorem Ec (H:Rel cx σ α F a w) (hr:aN σ r R) (k:K):eG σ (R.out r k):=by
 intro t ht
 cases hk:k.flat with
 | true=>unfold Root.out at ht; rw [hk] at ht; simp at ht
 | false=>
  have h1:t=(r,fV R.w)∨t∈R.tags:=by
   rcases wu R r hk with h | ⟨h,_⟩ <;> rw [h] at ht
   ·exact af2.1 ht
   ·exact .inr ht
  rcases h1 with h | h
  ·subst h; exact .inr ⟨R,hr.1, .inr (af6 _)⟩
  ·exact (H.dh r R hr.1).1 t h
theorem lI (H:Rel cx σ α F a w) (hr:aN σ r R) {k:K} {x:El k} {cs:List Value} {fE:List Nat} (hO:Ow (hp w) R.own (gV cx σ α F w R.tags) k x cs fE) (hf:∀b∈fE,b∈α.fo r) :
  Vw (hp w) (gV cx σ α F w (R.out r k)) k x cs:=by
 cases hk:k.flat with
 | true=>exact iF hk (jJ (fun _=>True) (fun _ _=>trivial) (fun _ _=>trivial) hO)
 | false=>
  rcases wu R r hk with ho | ⟨_,hn⟩
  ·exact jJ _ (fun b hb=>rG hb (K3 hk)) (fun b hb=>U0 H hr ho (hf b hb)) hO
  ·exact jJ _ (fun b hb=>rG hb (K3 hk)) (fun b hb=>by rw [QA hn hO] at hb; simp at hb) hO
theorem qM (H:Rel cx σ α F a w) (hr:aN σ r R) (hv:bn σ R) {p:List Stp} {d:Dat} (hg:aO p R.k R.x=some d) (fG:kH p R.k R.x) (hown:∀t∈aa p R.k,au t R.own=true)
  {cs1:List Value} {kP:Option (Nat×Nat)} (hn:bE (hp w) p R.k (α.hdr r) (dQ α R r)=some (cs1,kP)) :
  ∃fE,Ow (hp w) R.own (gV cx σ α F w R.tags) d.1 d.2 cs1 fE∧∀b∈fE,b∈α.fo r:=by
 have K:=H.roots r R hr
 have hnd:=K.nd
 rw [bV,kJ] at hnd
 obtain ⟨mF,fE,rest,wh2,hn',hp1,hd1,hc1,hin,hnone,hup⟩:=focus p (K.ow hv) (fun b o e=>(K.mem b o e).1) hg fG hown hnd.2 (fun b o e=>hnd.1 b o e)
 rw [hn] at hn'
 simp only [afQ,af1] at hn'
 obtain ⟨rfl,rfl⟩:=hn'
 exact ⟨fE,hd1,fun b hb=>hp1.mem_iff.2 (afV _ hb)⟩
theorem jy {T:List Nat} {own:List Nat} (h:(T.all fun t=>au t own)=true):∀t∈T,au t own=true:=fun t ht=>af5.1 h t ht
theorem qO (H:Rel cx σ α F a w) {x:AV} {v:Value} {k:(kk:K)→El kk→List Tag→Prog A} (hx:bH cx σ α F w x v) (hw:nW σ x) (h:(qz x k).ends σ z) :
  ∃kk y T cs,VC kk v cs∧Vw (hp w) (gV cx σ α F w T) kk y cs∧eG σ T∧(k kk y T).ends σ z:=by
 cases x with
 | val kk y T=>
  obtain ⟨h1,h2⟩:=fH h
  obtain ⟨cs,h3,h4⟩:=hx (.inr h1)
  exact ⟨kk,y,T,cs,h3,h4,hw,h2⟩
 | ref r g=>
  obtain ⟨R,hr,hv,h⟩:=cz h
  cases hg:Nat.beq R.g g with
  | false=>simp only [hg,cond_false] at h; exact h.elim
  | true=>
   simp only [hg,cond_true] at h
   obtain ⟨h1,h2⟩:=hx R hr (afU hg)
   exact ⟨R.k,R.x,R.out r R.k,α.hdr r,h2,lI H hr ((H.roots r R hr).ow hv) (fun _ h=>h),Ec H hr _,h⟩
 | oQ r p n=>
  obtain ⟨R,hr,hv,h⟩:=cz h
  cases hg:Nat.beq R.rR n with
  | false=>simp only [hg,cond_false] at h; exact h.elim
  | true=>
   simp only [hg,cond_true] at h
   cases qj:aO p R.k R.x with
   | none=>rw [qj] at h; exact h.elim
   | some d=>
    rw [qj] at h
    obtain ⟨h1,h2,cs,wh,h3,h4⟩:=hx R hr.1 hv (afU hg) d qj
    obtain ⟨fE,h5,h6⟩:=qM H hr hv qj h1 h2 h3
    exact ⟨d.1,d.2,R.out r d.1,cs,h4,lI H hr h5 h6,Ec H hr _,h⟩
 | undef=>exact h.elim
 | iC=>exact h.elim
 | ptr r p n=>exact h.elim
 | iK bt kk y T=>exact h.elim
 | Bu _ _ _ _=>exact h.elim
 | u6 _=>exact h.elim
 | part _ _ _ _ _=>exact h.elim
 | sW _ _ _ _=>exact h.elim
 | app _ _ _ _=>exact h.elim
 | oz=>exact h.elim
 | fn f cs=>exact h.elim
theorem uw (H:Rel cx σ α F a w) {x:AV} {v:Value} {rd:Root→Nat→List Stp→Dat→Prog A} {ro:TypeId→Dat→List Tag→Prog A} (hx:bH cx σ α F w x v) (hw:nW σ x) (h:(addrOf x rd ro).ends σ z) :
  (∃r R p d cs b o,aN σ r R∧bn σ R∧aO p R.k R.x=some d∧kH p R.k R.x∧(∀t∈aa p R.k,au t R.own=true)∧bE (hp w) p R.k (α.hdr r) (dQ α R r)=some (cs,some (b,o))∧v=.pointer (some ⟨b,o,none⟩)∧(rd R r p d).ends σ z)∨
  (∃bt d T b o cs,eG σ T∧v=.pointer (some ⟨b,o,none⟩)∧Cells (hp w) b o cs∧Vw (hp w) (gV cx σ α F w T) d.1 d.2 cs∧Cv σ α F w T b∧((bt=SENT∧∀t∈T,fC t.1=true)∨(q9 (hp w) b bt∧¬jS cx b))∧(ro bt d T).ends σ z):=by
 cases x with
 | ptr r p n=>
  obtain ⟨R,hr,hv,h⟩:=cz h
  cases hc:(clean R.h n (dS p R.k) && AO p R) with
  | false=>rw [hc] at h; exact h.elim
  | true=>
   rw [hc] at h
   simp only [cond_true] at h
   simp only [afW] at hc
   cases qj:aO p R.k R.x with
   | none=>rw [qj] at h; exact h.elim
   | some d=>
    rw [qj] at h
    have hown:=jy hc.2
    obtain ⟨h1,cs,b,o,h2,h3⟩:=hx.2 R hr.1 hv hc.1 hown (by rw [qj]; rfl)
    exact .inl ⟨r,R,p,d,cs,b,o,hr,hv,qj,h1,hown,h2,h3,h⟩
 | iK bt k y T=>
  obtain ⟨h1,h2⟩:=fH h
  obtain ⟨b,o,cs,e,hcs,hV,hok,hb⟩:=hx.2 h1
  exact .inr ⟨bt,⟨k,y⟩,T,b,o,cs,hw,e,hcs,hV,hok,hb,h2⟩
 | undef=>exact h.elim
 | iC=>exact h.elim
 | ref r g=>exact h.elim
 | oQ r p n=>exact h.elim
 | val kk y T=>exact h.elim
 | Bu _ _ _ _=>exact h.elim
 | u6 _=>exact h.elim
 | part _ _ _ _ _=>exact h.elim
 | sW _ _ _ _=>exact h.elim
 | app _ _ _ _=>exact h.elim
 | oz=>exact h.elim
 | fn f cs=>exact h.elim
end
end
section
open Go
variable [Fr]
theorem bQ (a b:List Wr):∀σ,az (a++b) σ=az b (az a σ):=by
 induction a with
 | nil=>intro σ; rfl
 | cons w a ih=>intro σ; exact ih _
theorem qN {own:List TypeId} {k:K}:∀(k0:K),(∀t∈k.tys,t∈k0.tys)→aR (k0.tys.filter fun t=>au t own) k=aR own k:=by
 intro k0
 have key:∀t∈k0.tys,au t (k0.tys.filter fun t=>au t own)=au t own:=by
  intro t ht
  cases h:au t own with
  | true=>rw [aJ,af7]; exact ⟨ht,h⟩
  | false=>
   rw [aS,af7]
   rintro ⟨_,h2⟩
   rw [h] at h2
   simp at h2
 induction k with
 | sl e k ih=>
  intro h
  simp only [aR]
  rw [key e (h e (by simp [K.tys])),ih (fun t ht=>h t (by simp [K.tys,ht]))]
 | pair a b iha ihb=>intro h; simp only [aR]; rw [iha (fun t ht=>h t (by simp [K.tys,ht])),ihb (fun t ht=>h t (by simp [K.tys,ht]))]
 | st f ih=>intro h; exact ih h
 | _=>intro _; rfl
theorem zX {own:List TypeId} {k:K}:∀t∈k.tys,au t (k.tys.filter fun t=>au t own)=au t own:=by
 intro t ht
 cases h:au t own with
 | true=>rw [aJ,af7]; exact ⟨ht,h⟩
 | false=>
  rw [aS,af7]
  rintro ⟨_,h2⟩
  rw [h] at h2
  simp at h2
theorem I5 {own:List TypeId}:∀(n:Nat) {c:K} {x:El c} {s:Dat},aK n c x=some s→∀t∈aR own s.1,t∈aR own c:=by
 intro n
 induction n with
 | zero=>
  intro c x s h t ht
  cases c with
  | pair a b=>simp only [aK,afQ] at h; subst h; simp [aR,ht]
  | _=>simp [aK] at h
 | succ n ih=>
  intro c x s h t ht
  cases c with
  | pair a b=>simp only [aK] at h; simp [aR,ih h t ht]
  | _=>simp [aK] at h
theorem sJ {own:List TypeId}:∀(p:List Stp) {k:K} {x:El k} {d:Dat},aO p k x=some d→(∀t∈aa p k,au t own=true)→∀t∈aR own d.1,t∈aR own k:=by
 intro p
 induction p with
 | nil=>intro k x d h _; simp only [aO,afQ] at h; subst h; exact fun _ h=>h
 | cons s p ih=>
  intro k x d h ht
  cases s with
  | fD n=>
   cases k with
   | st c=>
    simp only [aO] at h
    cases hg:aK n c x with
    | none=>rw [hg] at h; simp at h
    | some s=>
     rw [hg] at h
     simp only at h
     have hpt:aa (.fD n :: p) (.st c)=aa p s.1:=by simp [aa,bW n hg]
     rw [hpt] at ht
     exact fun t h2=>I5 n (c:=c) hg t (ih h ht t h2)
   | _=>simp [aO] at h
  | idx i=>
   cases k with
   | sl e k=>
    simp only [aO] at h
    intro t h2
    have:=ih h (fun t h=>ht t (by simp [aa,h])) t h2
    simp only [aR,ht e (by simp [aa]),cond_true]
    exact this
   | _=>simp [aO] at h
section
variable {cx:Cx} {σ:St} {α:dI} {F:List Nat} {a:Act} {w:World}
theorem ay {b:Bool} {A:Type} {x y:Prog A} {σ:St} {z:A} (h:(bif b then x else y).ends σ z):(b=true∧x.ends σ z)∨(b=false∧y.ends σ z):=by
 cases b with
 | true=>exact .inl ⟨rfl,h⟩
 | false=>exact .inr ⟨rfl,h⟩
theorem AU {h:Heap} {own:List TypeId} {ok:Nat→Prop}:∀{k:K} {x:El k} {cs:List Value} {fo:List Nat},k.flat=true→Ow h own ok k x cs fo→fo=[]:=by
 intro k
 induction k with
 | sl e k ih=>intro x cs fo h; simp [K.flat] at h
 | gap n=>intro x cs fo h; simp [K.flat] at h
 | pair a b iha ihb=>
  intro x cs fo h H
  simp only [K.flat,afW] at h
  obtain ⟨c1,c2,f1,f2,e,hp,h1,h2⟩:=H
  rw [iha h.1 h1,ihb h.2 h2] at hp
  exact hp.eq_nil
 | st f ih=>intro x cs fo h H; exact ih (x:=x) h H
 | _=>intro x cs fo _ H; exact H.1
theorem QB {h:Heap} {own:List TypeId} {ok:Nat→Prop} {e:TypeId} {kk:K} {xs:List (El kk)} {b b':Option Addr} {n c hi:Nat} {fo:List Nat} (hf:kk.flat=true) (he:au e own=true) (hn:hi≤n) (hb':b'=b)
  (H:Ow h own ok (.sl e kk) xs [.slice b n c] fo):Ow h own ok (.sl e kk) (show List (El kk) from xs.take hi) [.slice b' hi c] fo:=by
 unfold Ow at H ⊢
 rw [if_pos he] at H ⊢
 obtain ⟨a,n',c',e1,e2,e3,H⟩:=H
 simp only [List.cons.injEq,Value.slice.injEq,and_true] at e1
 obtain ⟨rfl,rfl,rfl⟩:=e1
 have hlen:(xs.take hi).length=hi:=by
  have:n=xs.length:=e2
  simp; omega
 refine ⟨b,hi,c,by rw [hb'],hlen.symm,by omega, ?_⟩
 rcases H with H | ⟨bb,o,arr,l,u,ea,hb,hfr,hs,bz,hl,hp,H⟩
 ·exact .inl H
 ·have h0:∀l∈bz,l=[]:=by
   intro l hl'
   obtain ⟨i,hi',rfl⟩:=List.mem_iff_getElem.1 hl'
   have hl:bz.length=xs.length:=hl
   obtain ⟨ds,_,h2⟩:=H i (by show i<xs.length; omega)
   have:=AU hf h2
   rw [←this]; simp [af3,hi']
  have hfl:bz.flatten=[]:=List.flatten_eq_nil_iff.2 h0
  have ab7:(bz.take hi).flatten=[]:=List.flatten_eq_nil_iff.2 fun l hl'=>h0 l (List.mem_of_mem_take hl')
  refine .inr ⟨bb,o,arr,l,u,ea,hb,hfr,hs,bz.take hi,by show (bz.take hi).length=(xs.take hi).length; simp only [List.length_take]; rw [show bz.length=xs.length from hl],by rw [ab7, ←hfl]; exact hp,fun i hi'=>?_⟩
  have hi2:i<(xs.take hi).length:=hi'
  have hi3:i<hi∧i<xs.length:=by simp at hi2; omega
  obtain ⟨ds,h1,h2⟩:=H i hi3.2
  refine ⟨ds,h1, ?_⟩
  have e1:(show List (El kk) from xs.take hi)[i]'hi'=xs[i]'hi3.2:=by
   show (xs.take hi)[i]=_
   simp
  have e2:(bz.take hi).getD i []=bz.getD i []:=by simp [af3,List.getElem?_take,hi3.1]
  rw [e1,e2]
  exact h2
inductive rZ (cx:Cx) (σ:St) (α:dI) (F:List Nat) (w:World) (v:Value) (tk:gP):Prop
 | held (hws:tk.ws=[]) (cs:List Value) (hv:VC tk.k v cs) (h:Held cx σ α F w tk.k tk.x tk.own tk.tags cs []) (hc:bg σ (aR tk.own tk.k) tk.tags=true)
 | ref (r:Nat) (R:Root) (hr:aN σ r R) (hv:bn σ R) (e:tk=⟨R.k,R.x,R.own,R.tags,[.r r none],R.keep⟩) (hk:R.kind=.anon) (hd:VC R.k v (α.hdr r))
 | gap (r:Nat) (R:Root) (p:List Stp) (d z:Dat) (hr:aN σ r R) (hv:bn σ R) (hg:aO p R.k R.x=some d) (hz:dR p R.k R.x (og d)=some z) (fG:kH p R.k R.x)
   (hown:∀t∈aa p R.k,au t R.own=true) (hpv:p≠[]∨∃t,R.kind=.var t) (e:tk=⟨d.1,d.2,d.1.tys.filter (fun t=>au t R.own),R.tags,[.r r (some (dV R d z))],R.keep⟩)
   (hn:∃cs wh,bE (hp w) p R.k (α.hdr r) (dQ α R r)=some (cs,wh)∧VC d.1 v cs)
 | cut (r:Nat) (R:Root) (cs:List Value) (hr:aN σ r R) (hv:bn σ R) (hk:R.kind=.anon) (e:tk.own=R.own∧tk.tags=R.tags∧tk.ws=[.r r none]∧tk.keep=R.keep) (hd:VC tk.k v cs) (hl:cs.length=tk.k.size)
   (Ml:aR R.own tk.k=aR R.own R.k) (how:∀ok,Ow (hp w) R.own ok R.k R.x (α.hdr r) (α.fo r)→Ow (hp w) R.own ok tk.k tk.x cs (α.fo r))
theorem yC {e:TypeId} {k:K} {c:Option Addr}:VC (.sl e k) (.slice c 0 0) [.slice c 0 0]:=⟨rfl,by simp⟩
theorem nH {A:Type} {z:A} (H:Rel cx σ α F a w) {want:K} {x:AV} {v:Value} {k:gP→Prog A} (hx:bH cx σ α F w x v) (hw:nW σ x) (h:(sF want x k).ends σ z) :
  ∃tk,rZ cx σ α F w v tk∧(k tk).ends σ z:=by
 cases x with
 | val kk y T=>
  obtain ⟨h1,h2⟩:=fH h
  obtain ⟨cs,h3,h4⟩:=hx (.inr h1)
  have hty:∀t∈aR [] kk,t∈kk.tys:=fun t ht=>zw ht
  exact ⟨⟨kk,y,[],T,[],false⟩, .held rfl cs h3 ⟨fun _=>mZ (fun t _=>rfl) h4,hw,fun b hb=>by simp at hb,List.nodup_nil,jP h4⟩ (ng h1 (fun _ h=>h) hty),h2⟩
 | iC=>
  obtain ⟨c,rfl⟩:=hx
  unfold sF at h
  cases want with
  | sl e kk=>
   refine ⟨_, .held rfl [.slice c 0 0] yC ⟨fun _=>?_,fun t ht=>by simp at ht,fun b hb=>by simp at hb,List.nodup_nil,rfl⟩ rfl,h⟩
   unfold Ow
   rw [if_pos (by simp [au])]
   exact ⟨c,0,0,rfl,rfl,af6 _, .inl ⟨rfl,rfl⟩⟩
  | _=>exact h.elim
 | ref r g=>
  obtain ⟨R,hr,hv,h⟩:=cz h
  cases hg:(Nat.beq R.g g && !R.fixed) with
  | false=>simp only [hg,cond_false] at h; exact h.elim
  | true=>
   simp only [hg,cond_true] at h
   simp only [afW] at hg
   obtain ⟨h1,h2⟩:=hx R hr (afU hg.1)
   exact ⟨_, .ref r R hr hv rfl h1 h2,h⟩
 | oQ r p n=>
  obtain ⟨R,hr,hv,h⟩:=cz h
  cases hg:Nat.beq R.rR n with
  | false=>simp only [hg,cond_false] at h; exact h.elim
  | true=>
   simp only [hg,cond_true] at h
   cases qj:aO p R.k R.x with
   | none=>rw [qj] at h; exact h.elim
   | some d=>
    rw [qj] at h
    obtain ⟨h1,h2,cs,wh,h3,h4⟩:=hx R hr.1 hv (afU hg) d qj
    cases hc:(p.all Stp.nG && !R.fixed && (!p.isEmpty || R.isVar)) with
    | true=>
     simp only [hc,cond_true] at h
     cases hga:wK R p d with
     | none=>rw [hga] at h; exact h.elim
     | some R'=>
      rw [hga] at h
      unfold wK at hga
      cases hz:dR p R.k R.x (og d) with
      | none=>rw [hz] at hga; simp at hga
      | some zz=>
       rw [hz] at hga
       simp only [afQ] at hga
       subst hga
       simp only [afW,Bool.or_eq_true] at hc
       refine ⟨_, .gap r R p d zz hr hv qj hz h1 h2 ?_ rfl ⟨cs,wh,h3,h4⟩,h⟩
       rcases hc.2 with h | h
       ·left; intro e; subst e; simp at h
       ·right
        unfold Root.isVar at h
        cases hk:R.kind with
        | var t=>exact ⟨t,rfl⟩
        | anon=>rw [hk] at h; simp at h
        | par=>rw [hk] at h; simp at h
        | dead=>rw [hk] at h; simp at h
    | false=>
     simp only [hc,cond_false] at h
     obtain ⟨fE,h5,h6⟩:=qM H hr hv qj h1 h2 h3
     have hV:=lI H hr h5 h6
     obtain ⟨hc1,h⟩:=fH h
     exact ⟨⟨d.1,d.2,[],R.out r d.1,[],false⟩, .held rfl cs h4 ⟨fun _=>mZ (fun t _=>rfl) hV,Ec H hr _,fun b hb=>by simp at hb,List.nodup_nil,jP hV⟩ (ng hc1 (fun _ h=>h) (fun t ht=>zw ht)),h⟩
 | undef=>exact h.elim
 | ptr r p n=>exact h.elim
 | iK bt kk y T=>exact h.elim
 | Bu _ _ _ _=>exact h.elim
 | u6 _=>exact h.elim
 | part r g lo hi sz=>
  obtain ⟨R,hr,hv,h⟩:=cz h
  rcases ay h with ⟨hg,h5⟩ | ⟨_,h5⟩
  ·clear h
   simp only [afW] at hg
   obtain ⟨b',b,n,c,e1,eb,e2,e3,e4,hrf⟩:=hx
   obtain ⟨h1,h2⟩:=hrf R hr (afU hg.1.1)
   have hlo:lo=0:=afU hg.2
   subst hlo
   have hK:∀q:Dat,(⟨R.k,R.x⟩:Dat)=q→(match q.1,q.2 with
     | .sl e kk,xs=>bif kk.flat && au e R.own && Nat.beq kk.size sz then k ⟨.sl e kk,(show List (El kk) from xs).take hi,R.own,R.tags,[.r r none],R.keep⟩ else .fail
     | _,_=>Prog.fail).ends σ z→∃tk,rZ cx σ α F w v tk∧(k tk).ends σ z:=by
    intro q hq hh0
    obtain ⟨qk,qx⟩:=q
    cases qk with
    | sl e kk=>
     simp only at hh0
     rcases ay hh0 with ⟨hc,hh⟩ | ⟨_,hh⟩
     ·clear hh0
      simp only [afW] at hc
      have hsz:kk.size=sz:=afU hc.2
      subst hsz
      have Xk:VC (.sl e kk) (.slice b n c) (α.hdr r):=by
       have:=congrArg (fun q:Dat=>VC q.1 (.slice b n c) (α.hdr r)) hq
       exact cast this h2
      have hb0:b'=b:=by
       rw [eb (.inl rfl)]
       cases b with
       | none=>rfl
       | some ad=>obtain ⟨x,y,z⟩:=ad; simp [Addr.add]
      refine ⟨⟨.sl e kk,(show List (El kk) from qx).take hi,R.own,R.tags,[.r r none],R.keep⟩, .cut r R [.slice b' hi c] hr hv h1 ⟨rfl,rfl,rfl,rfl⟩ ⟨by rw [e1]; simp,by rw [e1]; simp⟩ rfl ?_ (fun ok hO=>?_),hh⟩
      ·exact congrArg (fun q:Dat=>aR R.own q.1) hq.symm
      ·have hO:=cast (congrArg (fun q:Dat=>Ow (hp w) R.own ok q.1 q.2 (α.hdr r) (α.fo r)) hq) hO
       simp only at hO
       rw [Xk.1] at hO
       exact QB hc.1.1 hc.1.2 e3 hb0 hO
     ·exact hh.elim
    | _=>exact hh0.elim
   exact hK _ rfl h5
  ·exact h5.elim
 | sW _ _ _ _=>exact h.elim
 | app _ _ _ _=>exact h.elim
 | oz=>exact h.elim
 | fn f cs=>exact h.elim
def nU (cx:Cx) (σ:St) (α:dI) (F:List Nat) (w:World):List (Value×gP)→List (List Value×List Nat)→Prop
 | [],[]=>True
 | it :: l,h :: hs=>(VC it.2.k it.1 h.1∧Held cx σ α F w it.2.k it.2.x it.2.own it.2.tags h.1 h.2∧bg σ (aR it.2.own it.2.k) it.2.tags=true)∧nU cx σ α F w l hs
 | _,_=>False
def qh (l:List (Value×gP)):List Wr:=l.flatMap fun it=>it.2.ws
def nI (l:List (Value×gP)):List Tag:=l.flatMap fun it=>it.2.tags
theorem CF (a b:List Wr):(a++b).flatMap Wr.pQ=a.flatMap Wr.pQ++b.flatMap Wr.pQ:=List.flatMap_append
theorem take1 (H:Rel cx σ α F a w) {v:Value} {tk:gP} (h:rZ cx σ α F w v tk) :
  ∃α' F' cs fo lw lh,Rel cx (az tk.ws σ) α' F' a w∧kI cx σ α F w (az tk.ws σ) α' F' w lw lh∧VC tk.k v cs∧Held cx (az tk.ws σ) α' F' w tk.k tk.x tk.own tk.tags cs fo∧
   bg (az tk.ws σ) (aR tk.own tk.k) tk.tags=true∧(∀b∈F,b∈F')∧(∀b∈fo,b∉F)∧(∀q,q∉tk.ws.flatMap Wr.pQ→Same σ α (az tk.ws σ) α' q):=by
 cases h with
 | held hws cs hv hh hc=>
  rw [hws]
  exact ⟨α,F,cs,[],_,_,H,yh H ⟨rfl,rfl,rfl⟩ (af6 _) (fun _ _ h=>absurd rfl h) (fun b hb=>.inl hb) H.uU,hv,hh,hc,fun _ h=>h,fun b hb=>by simp at hb,fun q _=>jO ..⟩
 | ref r R hr hv e hk hd=>
  subst e
  obtain ⟨h1,h2,h3,h4⟩:=kill H hr hk hv
  refine ⟨_,_,α.hdr r,α.fo r,_,_,h1,h2,hd,h3,h4,fun b hb=>afS _ hb,fun b hb hF=>H.iB r R hr b (afS _ hb) hF, ?_⟩
  intro q hq
  have hq':q≠r:=by simpa [Wr.pQ] using hq
  exact gI hq'
 | cut r R cs hr hv hk e hd hl Ml how=>
  obtain ⟨e1,e2,e3,e4⟩:=e
  obtain ⟨h1,h2,h3,h4⟩:=kill H hr hk hv
  rw [e3]
  refine ⟨_,_,cs,α.fo r,_,_,h1,h2,hd, ?_, ?_,fun b hb=>afS _ hb,fun b hb hF=>H.iB r R hr b (afS _ hb) hF, ?_⟩
  ·rw [e1,e2]
   refine ⟨fun hc=>?_,h3.wt,h3.sub,h3.nd,hl⟩
   have:=h3.ow (by rw [←Ml]; exact hc)
   exact how _ this
  ·rw [e1,e2]
   show bg (aj σ r bT) (aR R.own tk.k) R.tags=true
   rw [Ml]; exact h4
  ·intro q hq
   have hq':q≠r:=by simpa [Wr.pQ] using hq
   exact gI hq'
 | gap r R p d z hr hv hg hz fG hown hpv e hn=>
  subst e
  obtain ⟨cs,wh,hn1,hn2⟩:=hn
  obtain ⟨cs1,kP,fE,rest,g1,g2,g3,g4,g5,_⟩:=gap H hr hv hg hz fG hown hpv
  rw [hn1] at g1
  simp only [afQ,af1] at g1
  obtain ⟨rfl,rfl⟩:=g1
  have hcl:bg (aj σ r (dV R d z)) (aR R.own d.1) R.tags=true:=by
   rw [g5]
   exact ng hv.2 (fun _ h=>h) (sJ p hg hown)
  refine ⟨_,_,cs,fE,_,_,g2,g3,hn2, ?_, ?_,fun b hb=>afS _ hb, ?_, ?_⟩
  ·refine ⟨fun hc=>?_,g4.wt,g4.sub,g4.nd,g4.len⟩
   exact nV (fun t ht=>zX t ht) (g4.ow (by rw [qN d.1 (fun _ h=>h)] at hc; exact hc))
  ·show bg (aj σ r (dV R d z)) (aR (d.1.tys.filter fun t=>au t R.own) d.1) R.tags=true
   rw [qN d.1 (fun _ h=>h)]
   exact hcl
  ·intro b hb hF
   have:=g2.uU
   exact (afX.1 this).2.2 b hb b hF rfl
  ·intro q hq
   have hq':q≠r:=by simpa [Wr.pQ] using hq
   exact gI hq'
theorem eP {σ':St} {tys:List TypeId} {T:List Tag} (h:∀t∈T,σ'.roots t.1=σ.roots t.1):bg σ' tys T=bg σ tys T:=by
 induction T with
 | nil=>rfl
 | cons t T ih=>
  obtain ⟨q,n⟩:=t
  simp only [bg]
  rw [ih (fun t ht=>h t (by simp [ht])),h (q,n) (by simp)]
theorem rZ.stays {σ':St} {α':dI} {F':List Nat} {lw lh:Nat→List Nat} {v:Value} {tk:gP} (h:rZ cx σ α F w v tk) (H:Rel cx σ α F a w) (T:kI cx σ α F w σ' α' F' w lw lh)
  (hs:∀q,(q∈tk.ws.flatMap Wr.pQ∨q∈tk.tags.map (·.1))→Same σ α σ' α' q):rZ cx σ' α' F' w v tk:=by
 cases h with
 | held hws cs hv hh hc=>
  exact .held hws cs hv (hh.turn H T (fun b hb=>by simp at hb)) (by rw [eP (fun t ht=>(hs t.1 (.inr (ags.2 ⟨t,ht,rfl⟩))).root)]; exact hc)
 | ref r R hr hv e hk hd=>
  subst e
  have hS:=hs r (.inl (by simp [Wr.pQ]))
  refine .ref r R ((hS.live R).2 hr) ⟨hv.1, ?_⟩ rfl hk (by rw [hS.hdr]; exact hd)
  rw [eP (fun t ht=>(hs t.1 (.inr (ags.2 ⟨t,ht,rfl⟩))).root)]
  exact hv.2
 | cut r R cs hr hv hk e hd hl Ml how=>
  have hS:=hs r (.inl (by rw [e.2.2.1]; simp [Wr.pQ]))
  refine .cut r R cs ((hS.live R).2 hr) ⟨hv.1, ?_⟩ hk e hd hl Ml (by rw [hS.hdr,hS.fo]; exact how)
  rw [eP (fun t ht=>(hs t.1 (.inr (ags.2 ⟨t,by rw [e.2.1]; exact ht,rfl⟩))).root)]
  exact hv.2
 | gap r R p d z hr hv hg hz fG hown hpv e hn=>
  subst e
  have hS:=hs r (.inl (by simp [Wr.pQ]))
  refine .gap r R p d z ((hS.live R).2 hr) ⟨hv.1, ?_⟩ hg hz fG hown hpv rfl (by rw [hS.hdr,hS.wh]; exact hn)
  rw [eP (fun t ht=>(hs t.1 (.inr (ags.2 ⟨t,ht,rfl⟩))).root)]
  exact hv.2
theorem nU.turn {σ':St} {α':dI} {F':List Nat} {lw lh:Nat→List Nat} (H:Rel cx σ α F a w) (T:kI cx σ α F w σ' α' F' w lw lh) (hF:∀b∈F,b∈F') :
  ∀{l:List (Value×gP)} {hs:List (List Value×List Nat)},(∀t∈nI l,σ'.roots t.1=σ.roots t.1)→nU cx σ α F w l hs→nU cx σ' α' F' w l hs
 | [],[],_,_=>trivial
 | it :: l,h :: hs,hr,hh=>by
  refine ⟨⟨hh.1.1,hh.1.2.1.turn H T (fun b hb=>⟨rfl,hF b (hh.1.2.1.sub b hb)⟩), ?_⟩,nU.turn H T hF (fun t ht=>hr t (by simp only [nI,List.flatMap_cons,afZ]; exact .inr ht)) hh.2⟩
  rw [eP (fun t ht=>hr t (by simp only [nI,List.flatMap_cons,afZ]; exact .inl ht))]
  exact hh.1.2.2
 | [],_ :: _,_,h=>h.elim
 | _ :: _,[],_,h=>h.elim
theorem q8 {l:List Nat}:yR l=true↔l.Nodup:=by
 induction l with
 | nil=>simp [yR]
 | cons n l ih=>simp [yR,ih,aS]
theorem takes:∀(l:List (Value×gP)) {σ:St} {α:dI} {F:List Nat},Rel cx σ α F a w→(∀it∈l,rZ cx σ α F w it.1 it.2)→((qh l).flatMap Wr.pQ).Nodup→(∀t∈nI l,t.1∉(qh l).flatMap Wr.pQ)→
  ∃α' F' hs,Rel cx (az (qh l) σ) α' F' a w∧nU cx (az (qh l) σ) α' F' w l hs∧(hs.flatMap (·.2)).Nodup∧(∀b∈hs.flatMap (·.2),b∉F)∧(∀b∈F,b∈F')∧
   (∀q,q∉(qh l).flatMap Wr.pQ→Same σ α (az (qh l) σ) α' q)∧
   (∀k x own tags cs fo,Held cx σ α F w k x own tags cs fo→Held cx (az (qh l) σ) α' F' w k x own tags cs fo)∧Views cx σ α F w (az (qh l) σ) α' F' w∧(∀t,yE σ t→yE (az (qh l) σ) t)∧(∀q,σ.roots q=none→(az (qh l) σ).roots q=none):=by
 intro l
 induction l with
 | nil=>intro σ α F H _ _ _; exact ⟨α,F,[],H,trivial,List.nodup_nil,fun b hb=>by simp at hb,fun _ h=>h,fun q _=>jO ..,fun _ _ _ _ _ _ h=>h,fun T tys _ h=>⟨h,fun b hb _=>⟨hb,rfl⟩,fun b hb _=>⟨hb,rfl⟩⟩,fun _ h=>h,fun _ h=>h⟩
 | cons it l ih=>
  intro σ α F H hT hnd p9
  have e1:qh (it :: l)=it.2.ws++qh l:=rfl
  have e2:nI (it :: l)=it.2.tags++nI l:=rfl
  rw [e1,CF] at hnd p9
  rw [e2] at p9
  obtain ⟨dH,F1,cs,fo,lw,lh,H1,T1,h1,h2,h3,h4,h5,h6⟩:=take1 H (hT it (by simp))
  have hnd':=afX.1 hnd
  obtain ⟨xE,F2,hs,H2,g1,g2,g3,g4,g5,g6,g7,g8,g9⟩:=ih H1 (fun it' hi=>(hT it' (by simp [hi])).stays H T1 (fun q hq=>by
   refine h6 q ?_
   rcases hq with hq | hq
   ·intro hq'
    exact hnd'.2.2 q hq' q (by
     rw [agt] at hq ⊢
     obtain ⟨wr,hw1,hw2⟩:=hq
     exact ⟨wr,agt.2 ⟨it',hi,hw1⟩,hw2⟩) rfl
   ·obtain ⟨t,ht,rfl⟩:=ags.1 hq
    intro hq'
    exact p9 t (afS _ (agt.2 ⟨it',hi,ht⟩)) (afV _ hq'))) hnd'.2.1
   (fun t ht hq=>p9 t (afS _ ht) (afS _ hq))
  rw [e1,bQ]
  have hq1:∀q,q∉(it.2.ws).flatMap Wr.pQ++(qh l).flatMap Wr.pQ→Same σ α (az (qh l) (az it.2.ws σ)) xE q:=by
   intro q hq
   simp only [afZ,not_or] at hq
   have s1:=h6 q hq.1
   have s2:=g5 q hq.2
   exact ⟨s2.root.trans s1.root,s2.loc.trans s1.loc,s2.hdr.trans s1.hdr,s2.fo.trans s1.fo⟩
  refine ⟨xE,F2,(cs,fo) :: hs,H2,⟨⟨h1,g6 _ _ _ _ _ _ h2, ?_⟩,g1⟩, ?_, ?_,fun b hb=>g4 b (h4 b hb), ?_,fun k x own tags cs fo hh=>g6 _ _ _ _ _ _ (hh.turn H T1 (fun b hb=>⟨rfl,h4 b (hh.sub b hb)⟩)), ?_,fun t ht=>g8 t (T1.tag ht), ?_⟩
  ·rw [eP (fun t ht=>(g5 t.1 (fun hq=>p9 t (afV _ ht) (afS _ hq))).root)]
   exact h3
  ·simp only [List.flatMap_cons]
   exact afX.2 ⟨h2.nd,g2,fun b hb c hc e=>g3 c hc (e▸h2.sub b hb)⟩
  ·intro b hb hF
   simp only [List.flatMap_cons,afZ] at hb
   rcases hb with hb | hb
   ·exact h5 b hb hF
   ·exact g3 b hb (h4 b hF)
  ·rw [CF]
   exact hq1
  ·intro T tys hw hc
   obtain ⟨k1,k2,k3⟩:=g7 T tys (fun t ht=>T1.tag (hw t ht)) hc
   obtain ⟨j1,j2,j3⟩:=T1.views H T tys hw k1
   refine ⟨j1,fun b hb ht=>?_,fun b hb ht=>?_⟩
   ·obtain ⟨a1,a2⟩:=j2 b hb ht
    exact ⟨(k2 b a1 ht).1,rfl⟩
   ·obtain ⟨a1,a2⟩:=j3 b hb ht
    exact ⟨(k3 b a1 ht).1,rfl⟩
  ·intro q hq
   refine g9 q ?_
   cases hq2:(az it.2.ws σ).roots q with
   | none=>rfl
   | some Q=>
    exfalso
    by_cases hm:q∈(it.2.ws).flatMap Wr.pQ
    ·have:=hT it (by simp)
     cases this with
     | held hws cs hv hh hc=>rw [hws] at hm; simp at hm
     | ref r R hr hv e hk hd=>rw [e] at hm; simp [Wr.pQ] at hm; subst hm; rw [hr.1] at hq; simp at hq
     | cut r R cs hr hv hk e hd hl Ml how=>rw [e.2.2.1] at hm; simp [Wr.pQ] at hm; subst hm; rw [hr.1] at hq; simp at hq
     | gap r R p d z hr hv hg hz fG hown hpv e hn=>rw [e] at hm; simp [Wr.pQ] at hm; subst hm; rw [hr.1] at hq; simp at hq
    ·rw [(h6 q hm).root,hq] at hq2
     simp at hq2
end
end
section
open Go
variable [Fr]
theorem iw (j:Nat):fC (mM j)=true:=by simp [fC,mM,Nat.add_mod]
theorem uy {ws:List Wr} {T:List Tag}:vk ws T=true↔∀t∈T,t.1∉ws.flatMap Wr.pQ:=by
 unfold vk
 rw [af5]
 simp [aS]
theorem RP {ws:List Wr} {r:Nat} (h:(ws.all fun w=>!w.loc.beq (.r r))=true):r∉ws.flatMap Wr.pQ:=by
 rw [agt]
 rintro ⟨w,h1,h2⟩
 have:=af5.1 h w h1
 cases w with
 | s n a=>simp [Wr.pQ] at h2
 | r n o=>
  simp only [Wr.pQ,af9] at h2
  subst h2
  simp [Wr.loc,Loc.beq] at this
theorem uC:∀(n:Nat) {c:K} {x:El c} {s:Dat} {q:Nat×K},aK n c x=some s→bu n c=some q→q.2=s.1:=by
 intro n
 induction n with
 | zero=>intro c x s q h1 h2; cases c with
  | pair a b=>simp only [aK,bu,afQ] at h1 h2; subst h1; subst h2; rfl
  | _=>simp [aK] at h1
 | succ n ih=>intro c x s q h1 h2; cases c with
  | pair a b=>
   simp only [aK,bu] at h1 h2
   cases h3:bu n b with
   | none=>rw [h3] at h2; simp at h2
   | some q3=>rw [h3] at h2; simp only [afQ] at h2; subst h2; exact ih (q:=q3) h1 h3
  | _=>simp [aK] at h1
theorem Pt {h:Heap}:∀(p:List Stp) {k:K} {x:El k} {cs:List Value} {c1:List Value} {w1:Option (Nat×Nat)},aa p k=[]→(aO p k x).isSome=true→bE h p k cs none=some (c1,w1)→w1=none:=by
 intro p
 induction p with
 | nil=>intro k x cs c1 w1 _ _ h; simp only [bE,afQ,af1] at h; exact h.2.symm
 | cons s p ih=>
  intro k x cs c1 w1 h0 hs h
  cases s with
  | fD n=>
   cases k with
   | st c=>
    simp only [aO] at hs
    cases hg:aK n c x with
    | none=>rw [hg] at hs; simp at hs
    | some s=>
     rw [hg] at hs
     have hp2:aa (.fD n :: p) (.st c)=aa p s.1:=by simp [aa,bW n hg]
     rw [hp2] at h0
     simp only [bE] at h
     cases ho:bu n c with
     | none=>rw [ho] at h; simp at h
     | some q=>
      have hk2:q.2=s.1:=uC n (c:=c) hg ho
      rw [ho] at h
      obtain ⟨q1,q2⟩:=q
      simp only at hk2
      subst hk2
      exact ih h0 hs h
   | _=>simp [aO] at hs
  | idx i=>
   cases k with
   | sl e k=>simp [aa] at h0
   | _=>simp [aO] at hs
theorem K.NJ:∀k:K,k.beq k=true:=by
 intro k
 induction k with
 | int ik=>cases ik <;> rfl
 | sl e k ih=>simp [K.beq,ih]
 | pair a b iha ihb=>simp [K.beq,iha,ihb]
 | st f ih=>exact ih
 | gap n=>simp [K.beq]
 | id e=>simp [K.beq]
 | _=>rfl
theorem Kh:∀(q:List Stp) {k:K} {x:El k},kH q k x→(aO q k x).isSome=true:=by
 intro q
 induction q with
 | nil=>intro k x _; rfl
 | cons s q ih=>
  intro k x h
  cases s with
  | fD n=>
   cases k with
   | st c=>
    simp only [kH] at h
    simp only [aO]
    cases hc:aK n c x with
    | none=>rw [hc] at h; exact h.elim
    | some d=>rw [hc] at h; exact ih h
   | _=>exact h.elim
  | idx i=>
   cases k with
   | sl e k=>exact ih h.2.2
   | _=>exact h.elim
theorem QC:∀(q:List Stp) {k:K} {x:El k},aa q k=[]→(aO q k x).isSome=true→kH q k x:=by
 intro q
 induction q with
 | nil=>intro k x _ _; trivial
 | cons s q ih=>
  intro k x h0 hs
  cases s with
  | idx i=>cases k <;> simp [aa,aO] at h0 hs
  | fD n=>
   cases k with
   | st c=>
    simp only [aO] at hs
    cases hg:aK n c x with
    | none=>rw [hg] at hs; simp at hs
    | some s=>
     rw [hg] at hs
     simp only at hs
     have hp2:aa (.fD n :: q) (.st c)=aa q s.1:=by simp [aa,bW n hg]
     rw [hp2] at h0
     simp only [kH,hg]
     exact ih h0 hs
   | _=>simp [aO] at hs
section
variable {cx:Cx} {σ:St} {α:dI} {F:List Nat} {a:Act} {w:World} {r:Nat} {R:Root}
theorem M0 {P:Program} {T:iD} {t:TypeId} {kk:K} {x:El kk} {kX:List TypeId} {qw:List Tag} {ER:List Value} {Jt:List Nat} {v:Value} (hT:fB P T t kk)
  (H:Rel cx σ α F a w) (hr:aN σ r R) (hv:bn σ R) {p:List Stp} {d z:Dat} (hg:aO p R.k R.x=some d) (hz:dR p R.k R.x ⟨kk,x⟩=some z) (fG:kH p R.k R.x) (hown:∀t∈aa p R.k,au t R.own=true)
  (hh:Held cx σ α F w kk x kX qw ER Jt) (hc:bg σ (aR kX kk) qw=true) (x8:VC kk v ER) (hd:d.1=kk∨d.1=kk.hole)
  (hself:kk.flat=true∨FK R r qw (aR kX kk)=true) (hbad:∀t∈aa p R.k,t∉aR kX kk) (kp:Bool)
  {cs1:List Value} {b o:Nat} (hn:bE (hp w) p R.k (α.hdr r) (dQ α R r)=some (cs1,some (b,o))) :
  ∃w',(Instr.storeAt t (.pointer (some ⟨b,o,none⟩)) v).run P w=.ok () w'∧∃α' F',
   Rel cx (aj σ r (bG R z (bD R.own (aR kX kk)) (bif kk.flat then R.tags else iy (sj r qw) R.tags) [eB R p] ((bif d.1.beq kk then [] else oW kk)++kk.tys) kp)) α' F' a w':=by
 have K0:=H.roots r R hr
 have hnt:=H.dh r R hr.1
 have Md:=hh.ow hc
 obtain ⟨_,_,hbb,⟨arr,e,lo,hi,hb,hf,hs,hlast⟩,_⟩:=mO H hr hv hg fG hown hn
 have hds:kk.size=d.1.size:=by
  rcases hd with h | h
  ·rw [h]
  ·rw [h,oZ]
 have hone:=IJ hT.eF Md
 have hrun:=z8 (o:=o) hT hb hf hh.len (by omega) x8 hone
 obtain ⟨s1,s2,jG,s3,s4,s5,s6⟩:=qd b ER w arr e (lo,hi) o hb (by rw [hh.len]; omega)
 have s7:=mQ b ER w o
 refine ⟨_,hrun, ?_⟩
 have Sg:∀t∈aa p R.k,au t (bD R.own (aR kX kk))=true:=fun t ht=>dn.2 ⟨hown t ht,hbad t ht⟩
 obtain ⟨fd,ok',fE,rest,mF,kP,hn',hpf,hd1,hty,_,uL,hwf,hgo⟩:=H.place hr hv (own':=bD R.own (aR kX kk)) hg fG (fun t h=>(dn.1 h).1) Sg
 rw [hn] at hn'
 simp only [afQ,af1] at hn'
 obtain ⟨rfl,rfl⟩:=hn'
 obtain ⟨ft,wJ,hpt,Xd⟩:=qG (own':=bD R.own (aR kX kk)) (fun t ht hm=>by
  rcases vW (own:=kX) ht with h | h
  ·exact absurd h (dn.1 hm).2
  ·exact h) (oN (aR kX kk) (fun _ h=>h) Md)
 have XI:=hpt.nodup hh.nd
 have hft:∀b∈ft,b∈Jt:=fun b hb=>hpt.mem_iff.2 (afV _ hb)
 have Um:∀b∈wJ,b∈Jt:=fun b hb=>hpt.mem_iff.2 (afS _ hb)
 have Ah:b∉F:=H.iB r R hr b hbb
 have XA:=pU Xd
 suffices hP:oO cx σ α F w r R p d (bD R.own (aR kX kk)) cs1 (some (b,o)) fE rest ⟨kk,x⟩ z (bif kk.flat then R.tags else iy (sj r qw) R.tags) [eB R p] ((bif d.1.beq kk then [] else oW kk)++kk.tys) kp ft (F.filter fun b=>!au b Jt) ER (w.setCells b o ER) by
  obtain ⟨α',h,_⟩:=hgo hP
  exact ⟨α',_,h⟩
 have hF':∀b',b'∈F.filter (fun b=>!au b Jt)↔b'∈F∧b'∉Jt:=fun b'=>by rw [af7]; simp [aS]
 refine ⟨hz,hds, ?_,⟨s7.1,s7.2.1,s7.2.2⟩,by omega, ?_, ?_,fun h=>by simp at h,by rw [hh.len,hds], .inl (by simp), ?_,fun b' hb'=>.inr (.inl (hh.sub b' (hft b' hb'))),(afX.1 XI).1,fun b' hb'=>.inl ((hF' b').1 hb').1,H.uU.filter _,fun b' hb' h=>((hF' b').1 h).2 (hft b' hb'), .inr (by simp), ?_, ?_, ?_⟩
 ·rcases hd with h | h
  ·rw [h]; exact fun _ h=>h
  ·rw [h,J8]; intro t ht; simp at ht
 ·intro b' _ hne
  refine .inr (.inr ?_)
  by_cases e:b'=b
  ·subst e; exact ⟨o,rfl,by simp⟩
  ·exact absurd (s1 b' e) hne
 ·intro b' o' e'
  simp only [afQ,af1] at e'
  obtain ⟨rfl,rfl⟩:=e'
  refine ⟨fun i hi=>?_,arr,jG,e,(lo,hi),hb,s3,s4,fun i hi=>?_⟩
  ·unfold cellAt
   rw [s3]
   exact s5 i hi
  ·exact s6 i (by rw [hh.len,hds]; exact hi)
 ·cases hfl:kk.flat with
  | true=>exact ⟨fun _ h=>h,hnt.1,hnt.2.2⟩
  | false=>
   refine ⟨fun t ht=>cK.2 (.inr ht),fun t ht=>?_,fun n ht=>?_⟩
   ·rcases cK.1 ht with h | h
    ·exact hh.wt t (mo.1 h).1
    ·exact hnt.1 t h
   ·rcases cK.1 ht with h | h
    ·exact (mo.1 h).2 rfl
    ·exact hnt.2.2 n h
 ·cases hbq:d.1.beq kk with
  | true=>exact .inl (K.eq_of_beq hbq).symm
  | false=>
   have hdh:d.1=kk.hole:=hd.resolve_left (fun e=>by rw [e,K.NJ] at hbq; simp at hbq)
   refine .inr (.inl fun q' h1 h2=>?_)
   have hnil:aa q' kk=[]:=by
    cases he:aa q' kk with
    | nil=>rfl
    | cons e l=>exact absurd (afS _ (lM q' e (by rw [he]; simp))) (h2 e (by rw [show aa q' (⟨kk,x⟩:Dat).1=aa q' kk from rfl,he]; simp))
   obtain ⟨dk,dx⟩:=d
   simp only at hdh
   subst hdh
   obtain ⟨h3,h4⟩:=Mi q' (y:=x) hnil h1
   refine ⟨?_, ?_⟩
   ·show aa q' kk.hole=aa q' kk
    rw [h3,hnil]
   ·show (aO q' kk.hole dx).isSome=true
    rw [nD q' (y:=pY kk x)]
    exact h4
 ·intro _ q c0 w0 hpq OU hnq Vf
  obtain ⟨dk,dx⟩:=d
  rcases hd with ek | ek
  ·simp only at ek
   subst ek
   exact qL q hpq (fun t ht=>⟨(OU t ht).1,fun h=>(OU t ht).2 (afS _ h)⟩) hnq
  ·simp only at ek
   subst ek
   have hs0:(aO q kk.hole dx).isSome=true:=Kh q hpq
   rw [nD q (y:=pY kk x)] at hs0
   obtain ⟨h1,h2,h3,_,h5⟩:=Ce (h:=hp w) q (x:=x) hs0
   have acE:bE (hp w) q kk cs1 (some (b,o))=some (c0,w0):=by rw [←h5]; exact hnq
   exact qL (own:=bD R.own (aR kX kk)) q (QC q h1 h3) (fun t ht=>by rw [h1] at ht; simp at ht) acE
 ·intro α' Tn hblk hval
  cases hfl:kk.flat with
  | true=>
   obtain ⟨e1,e2⟩:=Qy (h':=hp (w.setCells b o ER)) (own':=bD R.own (aR kX kk)) (ok':=gV cx (aj σ r (bG R z (bD R.own (aR kX kk)) (bif kk.flat then R.tags else iy (sj r qw) R.tags) [eB R p] ((bif d.1.beq kk then [] else oW kk)++kk.tys) kp)) α' (F.filter fun b=>!au b Jt) (w.setCells b o ER) (bif true then R.tags else iy (sj r qw) R.tags)) hfl Xd
   subst e1
   rw [hfl] at e2
   exact e2
  | false=>
   rw [hfl] at Tn hblk hval
   have zb:=hself.resolve_left (by rw [hfl]; simp)
   simp only [cond_false] at Tn hblk hval ⊢
   generalize hR':bG R z (bD R.own (aR kX kk)) (iy (sj r qw) R.tags) [eB R p] ((bif d.1.beq kk then [] else oW kk)++kk.tys) kp=R' at *
   have hRw:R'.w=[eB R p]++R.w:=by rw [←hR']; rfl
   have hRt:R'.tags=iy (sj r qw) R.tags:=by rw [←hR']; rfl
   have hRv:R'.wF=aR (bD R.own (aR kX kk)) z.1:=by rw [←hR']; rfl
   have hRd:R'.aZ=false:=hval.1
   have XV:∀t∈aR kX kk,t∈R'.wF:=by
    intro t ht
    rw [hRv]
    have h1:=J7 (own:=kX) (own':=bD R.own (aR kX kk)) (k:=kk) (fun t ht hm=>by
     rcases vW (own:=kX) ht with h | h
     ·exact absurd h (dn.1 hm).2
     ·exact h) t ht
    rcases (Es p hg hz).1 t h1 with h | ⟨q,h2,h3⟩
    ·exact h
    ·rw [Sg q h2] at h3; simp at h3
   have OA:∀n,(r,n)∈qw→eB R p∉aR kX kk:=by
    intro n hn1 hl
    unfold eB at hl
    cases hpt:aa p R.k with
    | nil=>
     rw [hpt] at hl
     simp only [List.getLastD_nil] at hl
     unfold FK at zb
     rw [Bool.or_eq_true] at zb
     rcases zb with h | h
     ·have:=af5.1 h _ hn1
      simp at this
     ·unfold Root.bt at hl
      cases hk:R.kind with
      | var tv=>rw [hk] at h hl; simp only at h hl; rw [Bool.not_eq_true',aS] at h; exact h hl
      | par=>rw [hk] at h; simp at h
      | anon=>
       rcases uL b o rfl with h1 | ⟨o0,ew,_⟩
       ·
        rw [hpt] at hbad
        have:=hty b (afS _ h1)
        have hne:dQ α R r=none:=by unfold dQ; rw [hk]
        rw [hne] at hn
        have:=Pt p hpt (by rw [hg]; rfl) hn
        simp at this
       ·unfold dQ at ew; rw [hk] at ew; simp at ew
      | dead=>have:=hr.2; simp [Root.aZ,hk] at this
    | cons e l=>
     rw [hpt,List.getLastD_eq_getLast?] at hl
     have:(e :: l).getLast?.getD R.bt∈(e :: l):=by
      rw [List.getLast?_eq_some_getLast (by simp)]
      exact List.getLast_mem _
     exact hbad _ (by rw [hpt]; exact this) hl
   have hc':bg (aj σ r R') (aR kX kk) qw=true:=by
    rw [lD]
    intro tg p9
    by_cases e:tg.1=r
    ·refine .inr ⟨R',by rw [e]; exact aH ..,hRd, ?_⟩
     rw [lD] at hc
     rcases hc tg p9 with h | ⟨Q,h1,h2,h3⟩
     ·rw [e,hnt.2.1] at h; simp at h
     ·rw [e,hr.1] at h1
      simp only [afQ] at h1
      subst h1
      rw [hRw]
      refine (lZ ?_).2 ⟨fun t ht=>?_,h3⟩
      ·rcases hh.wt tg p9 with h | ⟨Q,q1,q2⟩
       ·rw [e,hnt.2.1] at h; simp at h
       ·rw [e,hr.1] at q1
        simp only [afQ] at q1
        subst q1
        rcases q2 with q2 | q2
        ·rw [hr.2] at q2; simp at q2
        ·exact q2
      ·simp only [af9] at ht
       subst ht
       exact OA tg.2 (by rw [←e]; exact p9)
    ·have h2:=hval.2
     rw [hRt,lD] at h2
     rcases h2 tg (cK.2 (.inl (mo.2 ⟨p9,e⟩))) with h | ⟨Q,h3,h4,h5⟩
     ·exact .inl h
     ·refine .inr ⟨Q,h3,h4, ?_⟩
      unfold clean at h5 ⊢
      rw [af5] at h5 ⊢
      intro x hx
      have:=h5 x hx
      simp only [Bool.not_eq_true',aS] at this ⊢
      exact fun h=>this (XV x h)
   obtain ⟨_,hV,_⟩:=Tn.views H qw (aR kX kk) hh.wt hc'
   have hsame:∀b',b'≠b→hp (w.setCells b o ER) b'=hp w b':=s1
   refine bq ?_ ?_ (fun b' hb'=>hsame b' (fun e=>Ah (e▸hh.sub b' (hft b' hb')))) Xd
   ·rintro b' (⟨h1,h2⟩ | h)
    ·exact (hV b' h1 (.inl h2)).2
    ·exact hsame b' (fun e=>Ah (e▸hh.sub b' (Um b' h)))
   ·rintro b' (⟨h1,h2⟩ | h)
    ·obtain ⟨g1,g2,g3,g4,g5⟩:=(hV b' h1 (.inl h2)).1
     refine ⟨g1,g2,g3,fun q Q hq hbq=>?_,fun h0=>?_⟩
     ·obtain ⟨n,hn1⟩:=g4 q Q hq hbq
      by_cases e:q=r
      ·exfalso
       subst e
       obtain ⟨rfl,_⟩:=eD hq
       obtain ⟨tt,ht1,ht2⟩:=h2
       have Pw:∀e,mine cx w b'→ni (hp w) b'=some e→au e (bD R.own (aR kX kk))=true→False:=by
        intro e hmn he hm
        have ht2:=H.J6 hmn ht2
        rw [ht2] at he
        simp only [afQ] at he
        subst he
        exact (dn.1 hm).2 ht1
       rcases hblk b' hbq with ⟨o',h⟩ | h | h
       ·unfold FK at zb
        rw [Bool.or_eq_true] at zb
        rcases zb with h3 | h3
        ·have:=af5.1 h3 _ hn1
         simp at this
        ·cases hk:R.kind with
         | var tv=>
          rw [hk] at h3
          simp only at h3
          rw [Bool.not_eq_true',aS] at h3
          obtain ⟨_,aeu,e2,lo2,hi2,f1,_,_,f4⟩:=K0.mem b' o' h
          have ht2:=H.J6 (K0.mine b' (by unfold blk; rw [h]; exact agn)) ht2
          unfold ni at ht2
          rw [f1] at ht2
          simp only [afQ] at ht2
          exact h3 (by rw [←f4 tv hk,ht2]; exact ht1)
         | par=>rw [hk] at h3; simp at h3
         | anon=>unfold dQ at h; rw [hk] at h; simp at h
         | dead=>have:=hr.2; simp [Root.aZ,hk] at this
       ·obtain ⟨e,_,h3,h4⟩:=XA b' h
        exact Pw e (H.fl b' (hh.sub b' (hft b' h))) h4 h3
       ·obtain ⟨e,_,h3,h4⟩:=hty b' (afS _ h)
        exact Pw e (K0.mine b' (afS _ (hpf.mem_iff.2 (by simp [h])))) h4 h3
      ·exact ⟨n,cK.2 (.inl (mo.2 ⟨hn1,e⟩))⟩
     ·rcases g5 h0 with ⟨j,n,h3,h4⟩ | h3
      ·refine .inl ⟨j,n,cK.2 (.inl (mo.2 ⟨h3, ?_⟩)),h4⟩
       intro e
       have:=hnt.2.1
       rw [←e] at this
       simp only at this
       rw [iw] at this
       simp at this
      ·exact .inr h3
    ·have Om:=hh.sub b' (Um b' h)
     have hm:=H.fl b' Om
     refine ⟨by have:=hm.1; omega,fun h2=>((hF' b').1 h2).2 (Um b' h),oL H Om,fun q Q hq hbq=>?_,fun h0=>?_⟩
     ·exfalso
      rcases iQ hq with ⟨rfl,rfl,_⟩ | ⟨e,hq'⟩
      ·rcases hblk b' hbq with ⟨o',h2⟩ | h2 | h2
       ·exact H.iB _ _ hr b' (by rw [bV,eH]; exact .inl ⟨o',h2⟩) Om
       ·exact (afX.1 XI).2.2 b' h2 b' h rfl
       ·exact H.iB _ _ hr b' (by rw [bV,eH,hpf.mem_iff]; exact .inr (by simp [h2])) Om
      ·obtain ⟨Q2,g1,g2⟩:=Tn.old q Q hq'.1
       have hns:Same σ α (aj σ r R') α' q:=by
        refine agc fun hns=>?_
        rcases g2 with ⟨h1,h2⟩ | ⟨_,h2⟩
        ·rw [bU σ R' e] at g1
         rw [hq'.1] at g1
         simp only [afQ] at g1
         subst g1
         rw [hq'.2] at h1
         simp at h1
        ·rcases h2.2.2.2.2.2.2 with h3 | ⟨_,_,h3⟩
         ·rw [mW _ e,mW _ e] at h3
          simp at h3
         ·exact hns h3
       rw [hns.blk] at hbq
       exact H.iB _ _ hq' b' hbq Om
     ·rcases hm.2 with h | ⟨j,pi,h1,h2⟩
      ·omega
      ·exact .inr ⟨j,pi,h1,h2⟩
end
end
section
open Go
variable [Fr]
theorem eO (d c:Nat):fC (aX d c)=false:=by
 unfold fC aX
 have:(4 * (8 * d+c)+2) % 4=2:=by omega
 rw [this]; rfl
section
variable {cx:Cx} {σ:St} {α:dI} {F:List Nat} {a:Act} {w:World} {r:Nat}
theorem Im {T:List Tag} (h:eG σ T) (hn:σ.roots r=none) (hx:fC r=false):∀n,(r,n)∉T:=by
 intro n hn2
 rcases h _ hn2 with h | ⟨Q,h,_⟩
 ·simp only at h; rw [hx] at h; simp at h
 ·simp only at h; rw [hn] at h; simp at h
theorem Gc (H:Rel cx σ α F a w) (hn:σ.roots r=none) (hx:fC r=false) {R':Root} (hd:R'.aZ=false) (hk:R'.kind≠.par) (om:eG σ R'.tags) (loc:Nat×Nat) (hdr':List Value) (dA F':List Nat)
  (hblk:∀b∈gQ R' loc dA,b∈F∧b∉F') (hnd:(gQ R' loc dA).Nodup) (hF':∀b∈F',b∈F) (GN:F'.Nodup)
  (how:bg σ R'.wF R'.tags=true→Ow (hp w) R'.own (fun b=>gV cx σ α F w R'.tags b∨(b∈F∧b∉F'∧b∉gQ R' loc dA)) R'.k R'.x hdr' dA) (hlen:hdr'.length=R'.k.size)
  (hmem:∀b o,rX R' loc=some (b,o)→Cells (hp w) b o hdr'∧∃arr e lo hi,hp w b=some (.cells arr e (lo,hi))∧yI arr.size lo hi∧o+R'.k.size≤arr.size∧(∀t,R'.kind=.var t→e=t)) :
  Rel cx (aj σ r R') (aG α r loc hdr' dA) F' a w∧kI cx σ α F w (aj σ r R') (aG α r loc hdr' dA) F' w (o8 r []) (o8 r []):=by
 have hns:∀{q:Nat},¬Same σ α (aj σ r R') (aG α r loc hdr' dA) q→q=r:=fun {q} h=>agc fun e=>h (gI e)
 have hold:∀{q Q},σ.roots q=some Q→q≠r:=fun {q Q} h e=>by rw [e,hn] at h; simp at h
 have T:kI cx σ α F w (aj σ r R') (aG α r loc hdr' dA) F' w (o8 r []) (o8 r []):=by
  refine ⟨rfl,⟨rfl,rfl,rfl⟩,af6 _, ?_, ?_, ?_,fun b _ h=>absurd rfl h, ?_,GN, ?_, ?_,fun _ _ _ _ _ _ _ h=>absurd rfl h,fun q Q Q' h1 h2 _=>by rw [bU σ R' (hold h1),h1] at h2; simp only [afQ] at h2; subst h2; exact ⟨rfl,rfl⟩⟩
  ·intro q Q hQ
   have e:=hold hQ
   refine ⟨Q,by rw [bU σ R' e]; exact hQ, ?_⟩
   cases hd:Q.aZ with
   | true=>exact .inl ⟨rfl,by intro hk; simp [Root.aZ,hk] at hd⟩
   | false=>exact .inr ⟨rfl,by rw [mW _ e]; rfl,by rw [mW _ e]; rfl,af6 _,rfl,by simp [aG,upd_ne _ _ e],fun _=>rfl, .inr ⟨mW _ e,mW _ e,gI e⟩⟩
  ·intro q Q hQ hs
   have e:=hns hs
   subst e
   rw [aH] at hQ
   simp only [afQ] at hQ
   subst hQ
   refine ⟨fun t ht=>?_,hx,Im om hn hx⟩
   have hne:t.1≠q:=fun e=>Im om hn hx t.2 (by rw [←e]; exact ht)
   rcases om t ht with h | ⟨Q,h1,h2⟩
   ·exact .inl h
   ·exact .inr ⟨Q,by rw [bU σ R' hne]; exact h1,h2⟩
  ·intro q Q hq hQ
   by_cases e:q=r
   ·subst e
    rw [aH] at hQ
    simp only [afQ] at hQ
    subst hQ
    exact hk
   ·rw [bU σ R' e,hq] at hQ; simp at hQ
  ·rintro b (⟨q,Q,hq,hb,hno⟩ | hb)
   ·rcases iQ hq with ⟨rfl,rfl,_⟩ | ⟨e,hq'⟩
    ·rw [dY] at hb
     exact .inl (hblk b hb).1
    ·rw [(gI (α:=α) (σ:=σ) (R:=R') e).blk] at hb
     exact absurd ⟨Q,hq',hb⟩ hno
   ·exact .inl (hF' b hb)
  ·intro q Q hq hs b hb
   have e:=hns hs
   subst e
   obtain ⟨rfl,_⟩:=eD hq
   rw [dY] at hb
   exact (hblk b hb).2
  ·intro q Q q' Q' hq hq' hne hs hs'
   exact absurd ((hns hs).trans (hns hs').symm) hne
 refine ⟨H.turn T ?_ ?_ ?_,T⟩
 ·intro q Q hq hs
  have e:=hns hs
  subst e
  obtain ⟨rfl,_⟩:=eD hq
  refine ⟨fun hv=>?_, ?_, ?_, ?_⟩
  ·have e1:(aG α q loc hdr' dA).hdr q=hdr':=by simp [aG,upd_same]
   have e2:(aG α q loc hdr' dA).fo q=dA:=by simp [aG,upd_same]
   rw [e1,e2]
   obtain ⟨h1,h2,_⟩:=T.views H Q.tags _ om hv.2
   refine bq (fun _ _=>rfl) ?_ (fun _ _=>rfl) (oN _ (fun _ h=>h) (how h1))
   rintro b ⟨hb | ⟨g1,g2,g3⟩,hty⟩
   ·exact (h2 b hb (.inl hty)).1
   ·have hm:=H.fl b g1
    refine ⟨hm.1,g2,oL H g1,fun q' Q' hq' hb'=>?_,fun h0=>?_⟩
    ·exfalso
     rcases iQ hq' with ⟨rfl,rfl,_⟩ | ⟨e,hq2⟩
     ·rw [dY] at hb'; exact g3 hb'
     ·rw [(gI (α:=α) (σ:=σ) (R:=Q) e).blk] at hb'
      exact H.iB _ _ hq2 b hb' g1
    ·rcases hm.2 with h | ⟨j,pi,h1,h2⟩
     ·omega
     ·exact .inr ⟨j,pi,h1,h2⟩
  ·simpa [aG,upd_same] using hlen
  ·intro b o hb
   rw [jf] at hb
   simpa [aG,upd_same] using hmem b o hb
  ·rw [dY]; exact hnd
 ·intro q Q hq hs
  exact absurd (hns hs) (hold hq.1)
 ·intro q Q hq hs
  exact absurd (hns hs) (hold hq.1)
theorem gF {R:Root} (h:R.kind=.anon) (loc:Nat×Nat) (fo:List Nat):gQ R loc fo=fo:=by simp [gQ,h]
theorem qP {R:Root} {t:TypeId} (h:R.kind=.var t) (loc:Nat×Nat) (fo:List Nat):gQ R loc fo=loc.1 :: fo:=by simp [gQ,h]
theorem tY {R:Root} (h:R.kind=.anon) (loc:Nat×Nat):rX R loc=none:=by simp [rX,h]
theorem Ip {R:Root} {t:TypeId} (h:R.kind=.var t) (loc:Nat×Nat):rX R loc=some loc:=by simp [rX,h]
theorem Pq {k:K} {x:El k} {own:List TypeId} {tags:List Tag} {kp:Bool} {hdr:List Value} {fo F':List Nat} {loc:Nat×Nat} {v:Value} {w:World} (h:VC k v hdr) :
  bH cx (aj σ r (aI k x own tags .anon kp)) (aG α r loc hdr fo) F' w (.ref r 0) v:=by
 intro Q hQ _
 obtain ⟨rfl,_⟩:=eD hQ
 refine ⟨rfl, ?_⟩
 simp only [aG,upd_same]
 exact h
theorem UY {k:K} {x:El k} {own:List TypeId} {tags:List Tag} {kp:Bool} {hdr:List Value} {fo F':List Nat} {b:Nat} {t:TypeId} {w:World} :
  bH cx (aj σ r (aI k x own tags (.var t) kp)) (aG α r (b,0) hdr fo) F' w (.ptr r [] 0) (.pointer (some ⟨b,0,none⟩)):=by
 refine ⟨⟨b,0,rfl⟩, ?_⟩
 intro Q hQ _ _ _ _
 rw [aH] at hQ
 simp only [afQ] at hQ
 subst hQ
 refine ⟨trivial,hdr,b,0, ?_,rfl⟩
 simp only [bE]
 rw [jf]
 simp [rX,aI,aG,upd_same]
theorem Ry {k:K} {x:El k} {own:List TypeId} {tags:List Tag} {kp:Bool} {hdr:List Value} {fo F':List Nat} {b o:Nat} {t:TypeId} {w:World} :
  bH cx (aj σ r (aI k x own tags (.var t) kp)) (aG α r (b,o) hdr fo) F' w (.ptr r [] 0) (.pointer (some ⟨b,o,none⟩)):=by
 refine ⟨⟨b,o,rfl⟩, ?_⟩
 intro Q hQ _ _ _ _
 rw [aH] at hQ
 simp only [afQ] at hQ
 subst hQ
 refine ⟨trivial,hdr,b,o, ?_,rfl⟩
 simp only [bE]
 rw [jf]
 simp [rX,aI,aG,upd_same]
theorem wC {tk:gP} (h:eG σ tk.tags):eG σ tk.gq:=by
 unfold gP.gq
 split
 ·intro t ht; simp at ht
 ·exact h
theorem fP {h:Heap} {own:List TypeId} {ok ok':Nat→Prop} {k:K} {x:El k} {cs:List Value} {fo:List Nat} (hv:aR own k=[]) (H:Ow h own ok k x cs fo):Ow h own ok' k x cs fo:=by
 refine bq (fun _ _=>rfl) (fun b hb=>?_) (fun _ _=>rfl) (oN [] (by rw [hv]; exact fun _ h=>h) H)
 obtain ⟨_,t,ht,_⟩:=hb
 simp at ht
theorem Kt {P:Program} {tk:gP} {t:TypeId} {v:Value} {cs:List Value} {fo:List Nat} (H:Rel cx σ α F a w) (hn:σ.roots r=none) (hx:fC r=false) (hh:Held cx σ α F w tk.k tk.x tk.own tk.tags cs fo)
  (hc:bg σ (aR tk.own tk.k) tk.tags=true) (hv:VC tk.k v cs) (kp:Bool) :
  (Instr.box t v).run P w=.ok (.pointer (some ⟨w.heap.size,0,none⟩)) (w.alloc (.cells v.cells t))∧
   ∃α' F',Rel cx (aj σ r (aI tk.k tk.x tk.own tk.gq (.var t) kp)) α' F' a (w.alloc (.cells v.cells t))∧
    bH cx (aj σ r (aI tk.k tk.x tk.own tk.gq (.var t) kp)) α' F' (w.alloc (.cells v.cells t)) (.ptr r [] 0) (.pointer (some ⟨w.heap.size,0,none⟩)):=by
 refine ⟨Ej t v w, ?_⟩
 have hcs:v.cells=cs.toArray:=by
  have:=hv.cells
  apply Array.ext'
  simpa using this
 rw [hcs]
 obtain ⟨H1,T1⟩:=H.alloc (.cells cs.toArray t)
 have hh1:=hh.turn H T1 (fun b hb=>⟨mg w _ (H.fl b (hh.sub b hb)).1,age _ (hh.sub b hb)⟩)
 have hnew:hp (w.alloc (.cells cs.toArray t)) w.heap.size=some (.cells cs.toArray t (0,0)):=oh w _
 have Ah:w.heap.size∉F:=fun h=>by have:=(H.fl _ h).1; omega
 have hbf:w.heap.size∉fo:=fun h=>Ah (hh.sub _ h)
 have hk:(aI tk.k tk.x tk.own tk.gq (.var t) kp).kind=.var t:=rfl
 obtain ⟨h1,h2⟩:=Gc (R':=aI tk.k tk.x tk.own tk.gq (.var t) kp) H1 hn hx rfl (by simp [aI]) (wC hh1.wt) (w.heap.size,0) cs fo (F.filter fun b=>!au b fo)
  (fun b hb=>by
   rw [qP hk] at hb
   rcases af2.1 hb with h | h
   ·simp only at h; subst h
    exact ⟨agn,fun h=>Ah (af7.1 h).1⟩
   ·refine ⟨age _ (hh.sub b h),fun h2=>?_⟩
    have:=(af7.1 h2).2
    simp only [Bool.not_eq_true',aS] at this
    exact this h)
  (by rw [qP hk]; exact agp.2 ⟨hbf,hh.nd⟩)
  (fun b hb=>age _ (af7.1 hb).1) (H.uU.filter _)
  (fun hcl=>by
   show Ow _ tk.own _ tk.k tk.x cs fo
   cases hb:tk.bad with
   | nil=>exact fP hb (hh1.ow hc)
   | cons t0 l=>
    have et:(aI tk.k tk.x tk.own tk.gq (.var t) kp).tags=tk.tags:=by
     show tk.gq=tk.tags
     unfold gP.gq
     rw [hb]
    rw [et] at hcl ⊢
    exact bq (fun _ _=>rfl) (fun b h=>.inl h) (fun _ _=>rfl) (hh1.ow hcl)) hh.len
  (fun b o hb=>by
   rw [Ip hk] at hb
   simp only [afQ,af1] at hb
   obtain ⟨rfl,rfl⟩:=hb
   refine ⟨fun i hi=>?_,cs.toArray,t,0,0,hnew,yI.zero, ?_,fun t' ht'=>?_⟩
   ·unfold cellAt
    rw [hnew]
    simp
   ·show 0+tk.k.size≤_
    simp [hh.len]
   ·have:zD.var t=zD.var t':=ht'
    simpa using this)
 exact ⟨_,_,h1,UY⟩
theorem DC {k:K} {x:El k} {own:List TypeId} {tags:List Tag} {v:Value} {cs:List Value} {fo:List Nat} (H:Rel cx σ α F a w) (hn:σ.roots r=none) (hx:fC r=false)
  (hsub:∀b∈fo,b∈F) (hnd:fo.Nodup) (hwt:eG σ tags) {F':List Nat} (hF':∀b∈F',b∈F∧b∉fo) (GN:F'.Nodup) (hlen:cs.length=k.size)
  (how:bg σ (aR own k) tags=true→Ow (hp w) own (fun b=>gV cx σ α F w tags b∨(b∈F∧b∉F'∧b∉fo)) k x cs fo) (hv:VC k v cs) (kp:Bool) :
  Rel cx (aj σ r (aI k x own tags .anon kp)) (aG α r (0,0) cs fo) F' a w∧bH cx (aj σ r (aI k x own tags .anon kp)) (aG α r (0,0) cs fo) F' w (.ref r 0) v:=by
 have hk:(aI k x own tags .anon kp).kind=.anon:=rfl
 obtain ⟨h1,h2⟩:=Gc (R':=aI k x own tags .anon kp) H hn hx rfl (by simp [aI]) hwt (0,0) cs fo F'
  (fun b hb=>by rw [gF hk] at hb; exact ⟨hsub b hb,fun h=>(hF' b h).2 hb⟩) (by rw [gF hk]; exact hnd) (fun b hb=>(hF' b hb).1) GN
  (fun hc=>by rw [gF hk]; exact how hc) hlen (fun b o hb=>by rw [tY hk] at hb; simp at hb)
 exact ⟨h1,Pq hv⟩
theorem tJ {k:K} {x:El k} {own:List TypeId} {tags:List Tag} {v:Value} {cs:List Value} {fo:List Nat} (H:Rel cx σ α F a w) (hn:σ.roots r=none) (hx:fC r=false)
  (hsub:∀b∈fo,b∈F) (hnd:fo.Nodup) (hwt:eG σ tags) {F':List Nat} (hF':∀b∈F',b∈F∧b∉fo) (GN:F'.Nodup) (hlen:cs.length=k.size)
  (how:bg σ (aR own k) tags=true→Ow (hp w) own (fun b=>gV cx σ α F w tags b∨(b∈F∧b∉F'∧b∉fo)) k x cs fo) (hv:VC k v cs) (kp:Bool) :
  ∃α',Rel cx (aj σ r (aI k x own tags .anon kp)) α' F' a w∧bH cx (aj σ r (aI k x own tags .anon kp)) α' F' w (.ref r 0) v:=
 ⟨_,DC H hn hx hsub hnd hwt hF' GN hlen how hv kp⟩
end
end
section
open Go
variable [Fr]
def nJ (P:Program) (cx:Cx) (o:Oper) (a:Act) (w:World) (σ':St):Prop:=
 ∃v w' α' F',((execOp a.eval o).run P w=.ok (.value v) w'∨((execOp a.eval o).run P w=.ok .skip w'∧v=undef))∧Rel cx σ' α' F' (a.put o.dst v) w'
theorem nJ.wp {P:Program} {cx:Cx} {o:Oper} {a:Act} {w:World} {σ':St} (h:nJ P cx o a w σ') {K:Act→World→Prop} {Q:Exit→Act→World→Prop}
  (hK:∀α' F' a' w',Rel cx σ' α' F' a' w'→K a' w'):o.wp P a w K Q:=by
 obtain ⟨v,w',α',F',h | ⟨h,rfl⟩,h2⟩:=h
 ·unfold Oper.wp; rw [h]; exact hK _ _ _ _ h2
 ·unfold Oper.wp; rw [h]; exact hK _ _ _ _ h2
section
variable {P:Program} {T:iD} {cx:Cx} {σ:St} {α:dI} {F:List Nat} {a:Act} {w:World} {o:Oper} {d:Nat} {ws:List Wr}
theorem bI (H:Rel cx σ α F a w) (hd:o.dst=some d) (hdn:d<cx.nt) {x:sK} {v:Value} (hrun:(execOp a.eval o).run P w=.ok (.value v) w) (hx:iM cx σ α F w x v) (hw:sO σ x) :
  nJ P cx o a w (az [.s d x] σ):=by
 refine ⟨v,w,α,F, .inl hrun, ?_⟩
 rw [hd]
 exact H.put hdn hw hx
theorem gT {σ1:St} {dH:dI} {F1:List Nat} {w1:World} (H:Rel cx σ1 dH F1 a w1) (hd:o.dst=some d) (hdn:d<cx.nt) {x:sK} {v:Value} (hrun:(execOp a.eval o).run P w=.ok (.value v) w1) (hx:iM cx σ1 dH F1 w1 x v) (hw:sO σ1 x) :
  nJ P cx o a w (az [.s d x] σ1):=by
 refine ⟨v,w1,dH,F1, .inl hrun, ?_⟩
 rw [hd]
 exact H.put hdn hw hx
theorem fF {A:Type} {z:A} {r:Nat} {k:Prog A} (h:(ig r k).ends σ z):σ.roots r=none∧k.ends σ z:=by
 unfold ig at h
 simp only [Prog.ends] at h
 cases hr:σ.roots r with
 | none=>rw [hr] at h; exact ⟨rfl,h⟩
 | some R=>rw [hr] at h; exact h.elim
theorem aA {A:Type} {z x:A} (h:(Prog.ret x).ends σ z):z=x:=h
theorem NT (H:Rel cx σ α F a w) (hd:o.dst=some d) (hdn:d<cx.nt) {x:Operand} (ho:o.op=.move x) (h:(qp x fun v=>(.ret [.s d v]:Prog (List Wr))).ends σ ws):nJ P cx o a w (az ws σ):=by
 obtain ⟨v,h1,h2,h3⟩:=oV H h
 rw [aA h3]
 exact bI H hd hdn (by simp [execOp,ho]) h1 h2
theorem fB.sl {t:TypeId} {e:TypeId} {k:K} (h:fB P T t (.sl e k)):P.underlying t=some (.slice e)∧fB P T e k∧0<k.size∧∃i,P.info? e=some i∧i.bytes=T.bytes e∧0<i.bytes:=by
 unfold fB iW at h
 exact ⟨h.1,h.2.2.1,h.2.2.2.1,h.2.2.2.2⟩
theorem vM {e:TypeId} {k:K} {c:Option Addr} {own:List TypeId} {ok:Nat→Prop} {h:Heap}:Ow h own ok (.sl e k) ([]:List (El k)) [.slice c 0 0] []:=by
 unfold Ow
 split
 ·exact ⟨c,0,0,rfl,rfl,af6 _, .inl ⟨rfl,rfl⟩⟩
 ·exact ⟨rfl,c,0,0,rfl,rfl,af6 _,fun h=>by omega⟩
theorem Jf {L:K→List TypeId} (H:Rel cx σ α F a w) (hd:o.dst=some d) (hdn:d<cx.nt) {x:Operand} (ho:o.op=.assign x)
  (h:(qp x fun
   | .one .iC=>match T.ty o.type with
    | some (.sl e kk)=>.root (aX d 0) fun
     | none=>.ret [.r (aX d 0) (some (aI (.sl e kk) [] (e :: L kk) [] .anon)), .s d (.one (.ref (aX d 0) 0))]
     | some _=>.ret [.s d (.one .iC)]
    | _=>.fail
   | v=>(.ret [.s d v]:Prog (List Wr))).ends σ ws):nJ P cx o a w (az ws σ):=by
 obtain ⟨v,h1,h2,h3⟩:=oV H h
 have hrun:(execOp a.eval o).run P w=.ok (.value (a.eval x)) w:=by simp [execOp,ho]
 have key:ws=[.s d v]→nJ P cx o a w (az ws σ):=fun e=>by rw [e]; exact bI H hd hdn hrun h1 h2
 cases v with
 | CV l=>exact key (aA h3)
 | lit _ _ _=>exact key (aA h3)
 | one v=>
  cases v with
  | iC=>
   have h1':=h1
   obtain ⟨c,hc⟩:=h1
   simp only at h3
   split at h3
   ·rename_i e kk hty
    simp only [Prog.ends] at h3
    cases g1:σ.roots (aX d 0) with
    | some Q=>
     rw [g1] at h3
     exact key (aA h3)
    | none=>
    rw [g1] at h3
    have g2:=h3
    rw [aA g2]
    obtain ⟨α',k1,k2⟩:=tJ (k:=.sl e kk) (x:=([]:List (El kk))) (own:=e :: L kk) (tags:=[]) (v:=a.eval x) (cs:=[.slice c 0 0]) (fo:=[]) (r:=aX d 0) (F':=F) H g1 (eO d 0) (fun b hb=>by simp at hb) List.nodup_nil (fun t ht=>by simp at ht)
     (fun b hb=>⟨hb,by simp⟩) H.uU rfl (fun _=>vM) (by rw [hc]; exact yC) false
    exact gT (x:=.one (.ref (aX d 0) 0)) k1 hd hdn hrun k2 ⟨_,aH .., .inr (agq _)⟩
   ·exact h3.elim
  | _=>exact key (aA h3)
theorem NU (H:Rel cx σ α F a w) (hd:o.dst=some d) (hdn:d<cx.nt) {c x y:Operand} (ho:o.op=.pick c x y)
  (h:(dJ c fun c=>asBool c fun c=>qp x fun v=>qp y fun u=>.br c (.ret [.s d v]) ((.ret [.s d u]):Prog (List Wr))).ends σ ws):nJ P cx o a w (az ws σ):=by
 obtain ⟨vc,h1,_,h⟩:=bP H h
 obtain ⟨b,h2,h⟩:=Bb h1 h
 obtain ⟨v,h3,h4,h⟩:=oV H h
 obtain ⟨u,h5,h6,h⟩:=oV H h
 rcases h with ⟨hb,h⟩ | ⟨hb,h⟩
 ·rw [aA h]
  exact bI H hd hdn (by simp [execOp,ho,h2,hb,Go.asBool]) h3 h4
 ·rw [aA h]
  exact bI H hd hdn (by simp [execOp,ho,h2,hb,Go.asBool]) h5 h6
theorem fB.shape {t:TypeId} {k:K} (h:fB P T t k):(∀a b,k≠.pair a b)∧k≠.unit∧∀n,k≠.gap n:=by
 unfold fB iW at h
 refine ⟨fun a b e=>?_,fun e=>?_,fun n e=>?_⟩ <;> subst e <;> exact h.elim
theorem dm {own:List TypeId} {k:K} (h:∀t∈k.tys,au t own=true):aR own k=[]:=by
 cases he:aR own k with
 | nil=>rfl
 | cons t l=>
  exfalso
  have key:∀(k:K),(∀t∈k.tys,au t own=true)→∀t,t∉aR own k:=by
   intro k
   induction k with
   | sl e k ih=>
    intro h t ht
    simp only [aR,h e (by simp [K.tys]),cond_true] at ht
    exact ih (fun t ht=>h t (by simp [K.tys,ht])) t ht
   | pair a b iha ihb=>
    intro h t ht
    simp only [aR,afZ] at ht
    rcases ht with ht | ht
    ·exact iha (fun t ht=>h t (by simp [K.tys,ht])) t ht
    ·exact ihb (fun t ht=>h t (by simp [K.tys,ht])) t ht
   | st f ih=>intro h t ht; exact ih h t ht
   | _=>intro _ t ht; simp [aR] at ht
  exact key k h t (by rw [he]; simp)
theorem MK {l:List Nat}:∀t∈l,au t l=true:=fun t ht=>aJ.2 ht
theorem LJ (hT:dU P T) (H:Rel cx σ α F a w) (hd:o.dst=some d) (hdn:d<cx.nt) {t:TypeId} (ho:o.op=.alloc t)
  (h:(match T.ty t with
   | some kk=>ig (aX d 0) (.ret [Wr.r (aX d 0) (some (aI kk kk.zero kk.tys [] (.var t))),Wr.s d (.one (.ptr (aX d 0) [] 0))])
   | none=>(.fail:Prog (List Wr))).ends σ ws):nJ P cx o a w (az ws σ):=by
 split at h
 ·rename_i kk hty
  have ht:=hT.ty t kk hty
  obtain ⟨g1,g2⟩:=fF h
  rw [aA g2]
  obtain ⟨s1,s2,s3⟩:=ht.shape
  have hz:Ow (hp w) kk.tys (gV cx σ α F w []) kk kk.zero (bK kk) []:=yG ht.eF MK
  obtain ⟨k0,α',F',k1,k2⟩:=Kt (P:=P) (tk:=⟨kk,kk.zero,kk.tys,[],[],false⟩) (t:=t) (v:=oJ kk) (cs:=bK kk) (fo:=[]) (r:=aX d 0) H g1 (eO d 0)
   ⟨fun _=>hz,fun t ht=>by simp at ht,fun b hb=>by simp at hb,List.nodup_nil,cO hz⟩ rfl (Lb s1 s2 s3) false
  have e0:(gP.gq ⟨kk,kk.zero,kk.tys,[],[],false⟩)=[]:=by unfold gP.gq; split <;> rfl
  rw [e0] at k1 k2
  exact gT (x:=.one (.ptr (aX d 0) [] 0)) k1 hd hdn (by
   have:=Ie (P:=P) ht w
   simp only [execOp,ho,agf,this,af8,agl]) k2 ⟨_,aH .., .inr (agq _)⟩
 ·exact h.elim
theorem EX (H:Rel cx σ α F a w) (hd:o.dst=some d) (hdn:d<cx.nt) {x:Operand} (ho:o.op=.nilCheck x)
  (h:(dJ x fun
   | .ptr r p h=>.ret [.s d (.one (.ptr r p h))]
   | .iK bt kk y tags=>.ret [.s d (.one (.iK bt kk y tags))]
   | _=>(.fail:Prog (List Wr))).ends σ ws):nJ P cx o a w (az ws σ):=by
 obtain ⟨v,h1,h2,h⟩:=bP H h
 cases v with
 | ptr r p n=>
  rw [aA h]
  obtain ⟨b,q,hv⟩:=h1.1
  exact bI (v:=a.eval x) H hd hdn (by simp [execOp,ho,hv]) h1 h2
 | iK bt kk y tags=>
  rw [aA h]
  obtain ⟨b,q,hv⟩:=h1.1
  exact bI (v:=a.eval x) H hd hdn (by simp [execOp,ho,hv]) h1 h2
 | _=>exact h.elim
end
end
end Go.Proofs.Ytabnmpabdhmkoaa.Ow
