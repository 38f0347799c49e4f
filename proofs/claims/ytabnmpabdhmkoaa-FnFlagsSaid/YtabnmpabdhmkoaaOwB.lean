/- A verified reading of translated code: values in place of memory; part B of 6, spaces and remarks taken out. No condition. Own work of this seat. -/
import Derived.Test.YtabnmpabdhmkoaaOwA
set_option linter.unusedSectionVars false
set_option linter.unusedVariables false
set_option linter.unusedSimpArgs false
namespace Go.Proofs.Ytabnmpabdhmkoaa.Ow
section
open Go
variable [Fr]
theorem upd_same {A:Type} (f:Nat→A) (n:Nat) (v:A):upd f n v n=v:=by simp [upd]
theorem upd_ne {A:Type} (f:Nat→A) {n m:Nat} (v:A) (h:m≠n):upd f n v m=f m:=by
 unfold upd
 cases h':Nat.beq m n with
 | true=>exact absurd (abw h') h
 | false=>rfl
structure Same (σ:St) (α:dA) (σ':St) (α':dA) (r:Nat):Prop where
 root:σ'.roots r=σ.roots r
 loc:α'.loc r=α.loc r
 hdr:α'.hdr r=α.hdr r
 fo:α'.fo r=α.fo r
theorem Same.wh {σ σ':St} {α α':dA} {r:Nat} (h:Same σ α σ' α' r) (R:Root):dY α' R r=dY α R r:=by unfold dY; rw [h.loc]
theorem Same.blk {σ σ':St} {α α':dA} {r:Nat} (h:Same σ α σ' α' r) (R:Root):blk α' R r=blk α R r:=by unfold Ow.blk; rw [h.wh,h.fo]
theorem Same.live {σ σ':St} {α α':dA} {r:Nat} (h:Same σ α σ' α' r) (R:Root):aM σ' r R↔aM σ r R:=by unfold aM; rw [h.root]
def Stepped (σ:St) (α:dA) (σ':St) (α':dA) (lw lh:Nat→List Nat) (r:Nat) (R R':Root):Prop:=
 R'.w=lw r++R.w∧R'.h=lh r++R.h∧R.g≤R'.g∧R'.kind=R.kind∧α'.loc r=α.loc r∧(R.kind=.par→R'.k.size=R.k.size)∧((lw r≠[]∨lh r≠[])∨(lw r=[]∧lh r=[]∧Same σ α σ' α' r))
def Loose (cx:Cx) (σ':St) (lw:Nat→List Nat) (w:World) (r b:Nat):Prop:=
 (∀R',σ'.roots r=some R'→R'.aT=true)∨(∃e∈lw r,lH (hp w) b=some e)∨(jq cx b∧lw r≠[])
structure jN (cx:Cx) (σ:St) (α:dA) (F:List Nat) (w:World) (σ':St) (α':dA) (F':List Nat) (w':World) (lw lh:Nat→List Nat):Prop where
 slots:σ'.slots=σ.slots
 os:w'.os=w.os∧w'.tape=w.tape∧w'.output=w.output
 size:w.heap.size≤w'.heap.size
 old:∀r R,σ.roots r=some R→∃R',σ'.roots r=some R'∧((R'.aT=true∧R.kind≠.par)∨(R.aT=false∧Stepped σ α σ' α' lw lh r R R'))
 wr:∀r R',σ'.roots r=some R'→¬Same σ α σ' α' r→dW σ' R'.tags∧eH r=false∧(∀n,(r,n)∉R'.tags)
 U5:∀r R',σ.roots r=none→σ'.roots r=some R'→R'.kind≠.par
 Fp:∀b,b<w.heap.size→hp w' b≠hp w b→b∈F∨∃r R,aM σ r R∧b∈blk α R r∧Loose cx σ' lw w r b
 new:∀b,((∃r R',aM σ' r R'∧b∈blk α' R' r∧¬∃R,aM σ r R∧b∈blk α R r)∨b∈F')→b∈F∨(w.heap.size≤b∧b<w'.heap.size)∨∃r R,aM σ r R∧b∈blk α R r∧Loose cx σ' lw w r b
 rZ:F'.Nodup
 gQ:∀r R',aM σ' r R'→¬Same σ α σ' α' r→∀b∈blk α' R' r,b∉F'
 yI:∀r R r' R',aM σ' r R→aM σ' r' R'→r≠r'→¬Same σ α σ' α' r→¬Same σ α σ' α' r'→∀b∈blk α' R r,b∉blk α' R' r'
 base:∀j pi b o n,cx.par j=some pi→pi.base=some (b,o,n)→hp w' b≠hp w b→fJ (hp cx.w0) (hp w') b o n
 ev:∀r R R',σ.roots r=some R→σ'.roots r=some R'→R'.aT=false→R'.ew=R.ew∧R'.eh=R.eh
section
variable {cx:Cx} {σ:St} {α:dA} {F:List Nat} {a:Act} {w:World} {σ':St} {α':dA} {F':List Nat} {w':World} {lw lh:Nat→List Nat}
theorem jN.tag (T:jN cx σ α F w σ' α' F' w' lw lh) {t:Tag} (h:wM σ t):wM σ' t:=by
 rcases h with h | ⟨R,h1,h2⟩
 ·exact .inl h
 ·obtain ⟨R',g1,g2⟩:=T.old _ R h1
  refine .inr ⟨R',g1, ?_⟩
  rcases g2 with ⟨g2,_⟩ | ⟨gd,g2,_⟩
  ·exact .inl g2
  ·rcases h2 with h2 | h2
   ·rw [gd] at h2; simp at h2
   ·right
    rw [g2]
    simp only [kL,abA] at h2 ⊢
    omega
theorem jN.l9 (T:jN cx σ α F w σ' α' F' w' lw lh) {x:AV} (h:l9 σ x):l9 σ' x:=by
 have key:∀(q:Nat) (f:Root→Nat) (n:Nat),(∀R R',Stepped σ α σ' α' lw lh q R R'→f R≤f R')→(∃Q,σ.roots q=some Q∧(Q.aT=true∨n≤f Q))→∃Q,σ'.roots q=some Q∧(Q.aT=true∨n≤f Q):=by
  intro q f n hf ⟨Q,h1,h2⟩
  obtain ⟨R',g1,g2⟩:=T.old _ Q h1
  refine ⟨R',g1, ?_⟩
  rcases g2 with ⟨g2,_⟩ | ⟨gd,g2⟩
  ·exact .inl g2
  ·rcases h2 with h2 | h2
   ·rw [gd] at h2; simp at h2
   ·exact .inr (Nat.le_trans h2 (hf _ _ g2))
 cases x with
 | undef=>trivial
 | val k x Tg=>exact fun t ht=>T.tag (h t ht)
 | gK=>trivial
 | ref q g=>exact key q (·.g) g (fun R R' h=>h.2.2.1) h
 | zo q g k p=>exact key q (·.g) g (fun R R' h=>h.2.2.1) h
 | mU q p n=>exact key q Root.pR n (fun R R' h=>by simp only [Root.pR,h.1,h.2.1,kL,abA]; omega) h
 | ptr q p n=>exact key q (fun R=>fF R.h) n (fun R R' h=>by simp only [h.2.1,kL,abA]; omega) h
 | gV bt k x Tg=>exact fun t ht=>T.tag (h t ht)
 | mE=>trivial
 | sI _=>trivial
 | part q g _ _ _=>exact key q (·.g) g (fun R R' h=>h.2.2.1) h
 | qE q p n _=>exact key q Root.pR n (fun R R' h=>by simp only [Root.pR,h.1,h.2.1,kL,abA]; omega) h
 | app q p n q2=>
  refine ⟨key q Root.pR n (fun R R' h=>by simp only [Root.pR,h.1,h.2.1,kL,abA]; omega) h.1, ?_⟩
  obtain ⟨R,hR⟩:=h.2
  obtain ⟨R',g1,_⟩:=T.old _ R hR
  exact ⟨R',g1⟩
 | fn f cs=>exact fun c hc t ht=>T.tag (h c hc t ht)
theorem jN.rF (T:jN cx σ α F w σ' α' F' w' lw lh) {x:qH} (h:rF σ x):rF σ' x:=by
 cases x with
 | one a=>exact T.l9 h
 | Cb l=>exact fun a ha=>T.l9 (h a ha)
 | lit _ _ l=>exact fun a ha=>T.l9 (h a ha)
theorem jN.held (H:Rel cx σ α F a w) (T:jN cx σ α F w σ' α' F' w' lw lh) {Tg:List Tag} {tys:List TypeId} (hw:dW σ Tg) (hc:aU σ' tys Tg=true) {r n b:Nat} {R:Root} (hr:aM σ r R) (hn:(r,n)∈Tg) (hbr:b∈blk α R r)
  (hty:(∃t∈tys,oW (hp w) b t)∧¬jq cx b∨∀t∈Tg,eH t.1=true):clean R.w n tys=true∧¬Loose cx σ' lw w r b:=by
 have hnr:eH r=false:=(H.cB r R hr.1).2.1
 rw [jF] at hc
 rcases hc (r,n) hn with h | ⟨Q,h1,h2,h3⟩
 ·simp only at h; rw [hnr] at h; simp at h
 ·obtain ⟨R',g1,g2⟩:=T.old _ R hr.1
  simp only at h1 h3
  rw [g1] at h1
  simp only [abr] at h1
  subst h1
  rcases g2 with ⟨g2,_⟩ | ⟨gd,g2,_⟩
  ·rw [h2] at g2; simp at g2
  ·have hb:n≤fF R.w:=by
    rcases hw (r,n) hn with h | ⟨Q,q1,q2⟩
    ·simp only at h; rw [hnr] at h; simp at h
    ·simp only at q1 q2
     rw [hr.1] at q1
     simp only [abr] at q1
     subst q1
     rcases q2 with q2 | q2
     ·rw [hr.2] at q2; simp at q2
     ·exact q2
   rw [g2,kH hb] at h3
   refine ⟨h3.2, ?_⟩
   rintro (hx | ⟨e,he,hel⟩ | ⟨hx,_⟩)
   rotate_left 2
   ·rcases hty with ⟨_,hnb⟩ | hty
    ·exact hnb hx
    ·have:=hty (r,n) hn
     simp only at this
     rw [hnr] at this
     simp at this
   ·have:=hx R' g1
    rw [h2] at this
    simp at this
   ·rcases hty with ⟨⟨t,ht,K7⟩,_⟩ | hty
    ·have K7:=H.GQ ((H.roots r R hr).mine b hbr) K7
     rw [hel] at K7
     simp only [abr] at K7
     subst K7
     exact h3.1 e he ht
    ·have:=hty (r,n) hn
     simp only at this
     rw [hnr] at this
     simp at this
theorem jN.views (H:Rel cx σ α F a w) (T:jN cx σ α F w σ' α' F' w' lw lh):Views cx σ α F w σ' α' F' w':=by
 intro Tg tys hw hc
 refine ⟨?_, ?_⟩
 ·rw [jF]
  intro t ht
  have hc':=jF.1 hc t ht
  rcases hw t ht with h | ⟨R,h1,h2⟩
  ·exact .inl h
  ·cases hd:R.aT with
   | false=>
    refine .inr ⟨R,h1,hd, ?_⟩
    rcases hc' with hx | ⟨Q,q1,q2,q3⟩
    ·have:=(H.cB _ _ h1).2.1
     rw [hx] at this
     simp at this
    ·obtain ⟨R',g1,g2⟩:=T.old _ R h1
     rw [g1] at q1
     simp only [abr] at q1
     subst q1
     rcases g2 with ⟨g2,_⟩ | ⟨_,g2,_⟩
     ·rw [q2] at g2; simp at g2
     ·rcases h2 with h2 | h2
      ·rw [hd] at h2; simp at h2
      ·rw [g2,kH h2] at q3
       exact q3.2
   | true=>
    rcases hc' with hx | ⟨Q,q1,q2,q3⟩
    ·exact .inl hx
    ·obtain ⟨R',g1,g2⟩:=T.old _ R h1
     rw [g1] at q1
     simp only [abr] at q1
     subst q1
     rcases g2 with ⟨g2,_⟩ | ⟨g2,_⟩
     ·rw [q2] at g2; simp at g2
     ·rw [hd] at g2; simp at g2
 ·have hQ:∀b,Ad σ α F w Tg b→((∃t∈tys,oW (hp w) b t)∧¬jq cx b∨∀t∈Tg,eH t.1=true)→Ad σ' α' F' w' Tg b∧hp w' b=hp w b:=by
   intro b hb hty
   obtain ⟨hb1,hb2,hb3⟩:=hb
   have hno:¬∃r R,aM σ r R∧b∈blk α R r∧Loose cx σ' lw w r b:=by
    rintro ⟨r,R,hr,hbr,hl⟩
    obtain ⟨n,hn⟩:=hb3 r R hr hbr
    exact (T.held H hw hc hr hn hbr hty).2 hl
   have hsame:hp w' b=hp w b:=by
    refine abO fun hne=>?_
    rcases T.Fp b hb1 hne with h | h
    ·exact hb2 h
    ·exact hno h
   have hnew:¬(b∈F∨(w.heap.size≤b∧b<w'.heap.size)∨∃r R,aM σ r R∧b∈blk α R r∧Loose cx σ' lw w r b):=by
    rintro (h | h | h)
    ·exact hb2 h
    ·omega
    ·exact hno h
   refine ⟨⟨Nat.lt_of_lt_of_le hb1 T.size,fun hF=>hnew (T.new b (.inr hF)), ?_⟩,hsame⟩
   intro q Q hq hbq
   by_cases e:∃R,aM σ q R∧b∈blk α R q
   ·obtain ⟨R,hR,hbR⟩:=e
    exact hb3 q R hR hbR
   ·exact absurd (T.new b (.inl ⟨q,Q,hq,hbq,e⟩)) hnew
  refine ⟨fun b hb hty=>?_,hQ⟩
  obtain ⟨hb1,hb2,hb5,hb3,hb4⟩:=hb
  obtain ⟨⟨g1,g2,g3⟩,g4⟩:=hQ b ⟨hb1,hb2,hb3⟩ (hty.imp (fun h=>⟨h,hb5⟩) id)
  exact ⟨⟨g1,g2,hb5,g3,hb4⟩,g4⟩
theorem jN.stay (H:Rel cx σ α F a w) (T:jN cx σ α F w σ' α' F' w' lw lh) {q:Nat} {Q:Root} (hq:aM σ q Q) (hs:Same σ α σ' α' q):∀b∈blk α Q q,¬(b∈F∨(w.heap.size≤b∧b<w'.heap.size)∨∃r R,aM σ r R∧b∈blk α R r∧Loose cx σ' lw w r b):=by
 rintro b hb (h | h | ⟨r,R,hr,hbr,hl⟩)
 ·exact H.gQ q Q hq b hb h
 ·have:=((H.roots q Q hq).mine b hb).1; omega
 ·by_cases e:q=r
  ·subst e
   obtain ⟨R',g1,g2⟩:=T.old _ Q hq.1
   have hR':R'=Q:=by
    have:=hs.root
    rw [g1,hq.1] at this
    simpa using this
   subst hR'
   rcases g2 with ⟨g2,_⟩ | ⟨_,g2,_⟩
   ·rw [hq.2] at g2; simp at g2
   ·have hw0:lw q=[]:=by
     have:=congrArg List.length g2
     simp at this
     exact this
    rcases hl with hl | ⟨e,he,_⟩ | ⟨_,hl⟩
    ·have:=hl R' g1
     rw [hq.2] at this
     simp at this
    ·rw [hw0] at he; simp at he
    ·exact hl hw0
  ·exact H.yI q Q r R hq hr e b hb hbr
theorem jN.other (H:Rel cx σ α F a w) (T:jN cx σ α F w σ' α' F' w' lw lh) {q:Nat} {Q:Root} (hq:aM σ q Q) (hs:Same σ α σ' α' q):∀b∈blk α Q q,hp w' b=hp w b:=by
 intro b hb
 refine abO fun hne=>?_
 have:=T.stay H hq hs b hb
 rcases T.Fp b ((H.roots q Q hq).mine b hb).1 hne with h | h
 ·exact this (.inl h)
 ·exact this (.inr (.inr h))
theorem jN.av (H:Rel cx σ α F a w) (T:jN cx σ α F w σ' α' F' w' lw lh)
  (CL:∀r R,aM σ r R→¬Same σ α σ' α' r→∀p n v,n≤fF R.h→bz cx σ α F w (.ptr r p n) v→bz cx σ' α' F' w' (.ptr r p n) v)
  (xw:∀r R,aM σ r R→¬Same σ α σ' α' r→∀g v,g≤R.g→bz cx σ α F w (.ref r g) v→bz cx σ' α' F' w' (.ref r g) v)
  {x:AV} {v:Value} (hx:Ow.l9 σ x) (h:bz cx σ α F w x v):bz cx σ' α' F' w' x v:=by
 have hV:=T.views H
 have uI:∀{q:Nat} {Q:Root} {p:List Stp},σ.roots q=some Q→Same σ α σ' α' q→bg σ' Q→jM p Q.k Q.x→(∀t∈aa p Q.k,aA t Q.own=true)→
   bn (hp w') p Q.k (α'.hdr q) (dY α' Q q)=bn (hp w) p Q.k (α.hdr q) (dY α Q q):=by
  intro q Q p hq hs hv hin hty
  have hv':=oK hV (H.cB q Q hq).1 hv
  have hlive:aM σ q Q:=⟨hq,hv'.1⟩
  rw [hs.hdr,hs.wh]
  exact Aa p ((H.roots q Q hlive).ow hv') hin hty (fun b hb=>T.other H hlive hs b (abu _ hb))
 have hlive:∀{q:Nat} {Q R':Root},σ.roots q=some Q→σ'.roots q=some R'→R'.aT=false→aM σ q Q∧Stepped σ α σ' α' lw lh q Q R':=by
  intro q Q R' h1 h2 hd
  obtain ⟨R'',g1,g2⟩:=T.old _ Q h1
  rw [h2] at g1
  simp only [abr] at g1
  subst g1
  rcases g2 with ⟨g2,_⟩ | ⟨gd,g2⟩
  ·rw [hd] at g2; simp at g2
  ·exact ⟨⟨h1,gd⟩,g2⟩
 have Li:∀q g v,Ow.l9 σ (.ref q g)→bz cx σ α F w (.ref q g) v→bz cx σ' α' F' w' (.ref q g) v:=by
  intro q g v hx h
  obtain ⟨Q,h1,h2⟩:=hx
  intro R' hR' hg
  obtain ⟨hl,hst⟩:=hlive h1 hR'.1 hR'.2
  by_cases e:Same σ α σ' α' q
  ·have hQ:R'=Q:=by
    have:=e.root
    rw [hR'.1,h1] at this
    simpa using this
   subst hQ
   have:=h R' hl hg
   rw [e.hdr]
   exact this
  ·rcases h2 with h2 | h2
   ·rw [hl.2] at h2; simp at h2
   ·exact xw q Q hl e g v h2 h R' hR' hg
 have Pf:∀{q:Nat} {Q R':Root} {n:Nat},σ.roots q=some Q→(Q.aT=true∨n≤Q.pR)→σ'.roots q=some R'→R'.aT=false→R'.pR=n→aM σ q Q∧Same σ α σ' α' q:=by
  intro q Q R' n h1 h2 hR' hd hn
  obtain ⟨hl,hst⟩:=hlive h1 hR' hd
  obtain ⟨s1,s2,_,_,_,_,s6⟩:=hst
  rcases s6 with s6 | ⟨_,_,e⟩
  ·exfalso
   rcases h2 with h2 | h2
   ·rw [hl.2] at h2; simp at h2
   ·simp only [Root.pR,s1,s2,kL,abA] at hn h2
    rcases s6 with g5 | g5 <;> (have:=List.length_pos_iff.2 g5; omega)
  ·exact ⟨hl,e⟩
 cases x with
 | undef=>trivial
 | val k x Tg=>
  intro hc
  rcases hc with hc | hc
  ·obtain ⟨cs,h1,h2⟩:=h (.inl hc)
   exact ⟨cs,h1,gN hc h2⟩
  ·obtain ⟨cs,h1,h2⟩:=h (.inr (hV Tg _ hx hc).1)
   exact ⟨cs,h1,hV.vw hx hc (fun _ h=>h) h2⟩
 | gK=>exact h
 | ref q g=>exact Li q g v hx h
 | zo q g k p=>
  obtain ⟨u,b,off,k1,e1,hq,hc,e2,hr⟩:=h
  obtain ⟨h1,h2⟩:=(hV [] [] (fun _ h=>by simp at h) rfl).2.2 b hq (.inr (fun _ h=>by simp at h))
  exact ⟨u,b,off,k1,e1,h1,hc.congr h2,e2,Li q g u hx hr⟩
 | mU q p n=>
  obtain ⟨Q,h1,h2⟩:=hx
  intro R' hR' hv hn d hd
  obtain ⟨hl,hst⟩:=hlive h1 hR' hv.1
  obtain ⟨s1,s2,_,_,_,_,s6⟩:=hst
  rcases s6 with s6 | ⟨_,_,e⟩
  ·exfalso
   rcases h2 with h2 | h2
   ·rw [hl.2] at h2; simp at h2
   ·simp only [Root.pR,s1,s2,kL,abA] at hn h2
    rcases s6 with g5 | g5 <;> (have:=List.length_pos_iff.2 g5; omega)
  ·have hQ:R'=Q:=by
    have:=e.root
    rw [hR',h1] at this
    simpa using this
   subst hQ
   have hv':=oK hV (H.cB q R' h1).1 hv
   obtain ⟨h1',h2',cs,wh,h3,h4⟩:=h R' h1 hv' hn d hd
   exact ⟨h1',h2',cs,wh,by rw [uI h1 e hv h1' h2']; exact h3,h4⟩
 | ptr q p n=>
  obtain ⟨Q,h1,h2⟩:=hx
  refine ⟨h.1, ?_⟩
  intro R' hR' hv hn hty hs
  obtain ⟨hl,hst⟩:=hlive h1 hR' hv.1
  by_cases e:Same σ α σ' α' q
  ·have hQ:R'=Q:=by
    have:=e.root
    rw [hR',h1] at this
    simpa using this
   subst hQ
   have hv':=oK hV (H.cB q R' h1).1 hv
   obtain ⟨h1',cs,b,o,h3,h4⟩:=h.2 R' h1 hv' hn hty hs
   exact ⟨h1',cs,b,o,by rw [uI h1 e hv h1' hty]; exact h3,h4⟩
  ·rcases h2 with h2 | h2
   ·rw [hl.2] at h2; simp at h2
   ·exact (CL q Q hl e p n v h2 h).2 R' hR' hv hn hty hs
 | gV bt k x Tg=>exact hV.ro hx h
 | mE=>exact h
 | sI _=>exact h
 | part q g lo hi sz=>
  obtain ⟨b',b,n,c,e1,e2,e3,e4,e5,hr⟩:=h
  exact ⟨b',b,n,c,e1,e2,e3,e4,e5,Li q g (.slice b n c) hx hr⟩
 | qE q p n m=>
  obtain ⟨Q,h1,h2⟩:=hx
  obtain ⟨b,c,ev,h⟩:=h
  refine ⟨b,c,ev, ?_⟩
  intro R' hR' hv hn d hd
  obtain ⟨hl,e⟩:=Pf h1 h2 hR' hv.1 hn
  have hQ:R'=Q:=by
   have:=e.root
   rw [hR',h1] at this
   simpa using this
  subst hQ
  have hv':=oK hV (H.cB q R' h1).1 hv
  obtain ⟨h1',h2',n',wh,h3,h4⟩:=h R' h1 hv' hn d hd
  exact ⟨h1',h2',n',wh,by rw [uI h1 e hv h1' h2']; exact h3,h4⟩
 | app q p n q2=>
  obtain ⟨⟨Q,h1,h2⟩,⟨Q2,h12⟩⟩:=hx
  intro R' hR' hv hn R2 hR2 hn2
  obtain ⟨hl,e⟩:=Pf h1 h2 hR' hv.1 hn
  have hQ:R'=Q:=by
   have:=e.root
   rw [hR',h1] at this
   simpa using this
  subst hQ
  obtain ⟨hl2,YC⟩:=hlive h12 hR2.1 hR2.2
  have e2:Same σ α σ' α' q2:=by
   obtain ⟨s1,s2,_,_,_,_,s6⟩:=YC
   rcases s6 with s6 | ⟨_,_,e⟩
   ·exfalso
    simp only [Root.pR,s1,s2,kL,abA] at hn2
    rcases s6 with g5 | g5 <;> (have:=List.length_pos_iff.2 g5; omega)
   ·exact e
  have Qf:R2=Q2:=by
   have:=e2.root
   rw [hR2.1,h12] at this
   simpa using this
  subst Qf
  have hv':=oK hV (H.cB q R' h1).1 hv
  obtain ⟨te,kk,xs,wh,b,m,c,ce,hq,b1,o1,c1,arr,lo,hi,a1,a2,a3,a4,a5,a6,a7,a8,a9,Xn,Xo,a12,Xp,PZ⟩:=h R' h1 hv' hn R2 hl2 hn2
  have hsR:∀b∈α.fo q,hp w' b=hp w b:=fun b hb=>T.other H hl e b (abu _ hb)
  have hsQ:∀b∈α.fo q2,hp w' b=hp w b:=fun b hb=>T.other H hl2 e2 b (abu _ hb)
  have hb1:hp w' b1=hp w b1:=by
   rcases PZ with ⟨_,h,_⟩ | ⟨_,h,_⟩
   ·exact hsR b1 h
   ·exact hsQ b1 h
  refine ⟨te,kk,xs,wh,b,m,c,ce,hq,b1,o1,c1,arr,lo,hi,a1,a2,a3,by rw [uI h1 e hv a2 a3]; exact a4,a5,by rw [e2.hdr]; exact a6,a7,a8,a9,hb1.trans Xn,Xo,a12,Xp.congr hb1, ?_⟩
  rcases PZ with ⟨z1,z2,z3⟩ | ⟨z1,z2,z3⟩
  ·exact .inl ⟨z1,by rw [e.fo]; exact z2,z3⟩
  ·refine .inr ⟨z1,by rw [e2.fo]; exact z2,fun hm=>?_⟩
   obtain ⟨b0,o0,y1,y2,y3⟩:=z3 hm
   exact ⟨b0,o0,y1,by rw [e.fo]; exact y2,fun i hi'=>by rw [oq hb1,oq (hsR b0 y2)]; exact y3 i hi'⟩
 | fn f cs=>
  obtain ⟨vs,h1,h2⟩:=h
  exact ⟨vs,h1,hV.caps hx h2⟩
theorem vg {cx:Cx} {σ σ':St} {α α':dA} {F F':List Nat} {w w':World} {P:AV→Prop} (h:∀x v,P x→bz cx σ α F w x v→bz cx σ' α' F' w' x v) :
  ∀{l:List AV} {vs:List Value},(∀x∈l,P x)→dJ cx σ α F w l vs→dJ cx σ' α' F' w' l vs
 | [],[],_,_=>trivial
 | x :: l,v :: vs,hp,hl=>⟨h x v (hp x (by simp)) hl.1,vg h (fun y hy=>hp y (by simp [hy])) hl.2⟩
 | [],_ :: _,_,hl=>hl.elim
 | _ :: _,[],_,hl=>hl.elim
theorem II {cx:Cx} {σ σ':St} {α α':dA} {F F':List Nat} {w w':World} (h:∀x v,l9 σ x→bz cx σ α F w x v→bz cx σ' α' F' w' x v) {x:qH} {v:Value} (hx:rF σ x) (hv:iK cx σ α F w x v):iK cx σ' α' F' w' x v:=by
 cases x with
 | one a=>exact h a v hx hv
 | Cb l=>
  obtain ⟨vs,h1,h2⟩:=hv
  exact ⟨vs,h1,vg h hx h2⟩
 | lit _ _ l=>
  obtain ⟨vs,cs,h1,h2⟩:=hv
  exact ⟨vs,cs,h1,vg h hx h2⟩
theorem Rel.turn (H:Rel cx σ α F a w) (T:jN cx σ α F w σ' α' F' w' lw lh)
  (hroot:∀r R,aM σ' r R→¬Same σ α σ' α' r→(bg σ' R→Ow (hp w') R.own (gy cx σ' α' F' w' R.tags) R.k R.x (α'.hdr r) (α'.fo r))∧(α'.hdr r).length=R.k.size∧
   (∀b o,dY α' R r=some (b,o)→Cells (hp w') b o (α'.hdr r)∧∃arr e lo hi,hp w' b=some (.cells arr e (lo,hi))∧wQ arr.size lo hi∧o+R.k.size≤arr.size∧(∀t,R.kind=.var t→e=t))∧
   (blk α' R r).Nodup)
  (CL:∀r R,aM σ r R→¬Same σ α σ' α' r→∀p n v,n≤fF R.h→bz cx σ α F w (.ptr r p n) v→bz cx σ' α' F' w' (.ptr r p n) v)
  (xw:∀r R,aM σ r R→¬Same σ α σ' α' r→∀g v,g≤R.g→bz cx σ α F w (.ref r g) v→bz cx σ' α' F' w' (.ref r g) v) :
  Rel cx σ' α' F' a w':=by
 have hV:=T.views H
 have Le:∀{r R b},aM σ r R→b∈blk α R r→mine cx w' b:=fun hr hb=>by
  have:=(H.roots _ _ hr).mine _ hb
  exact ⟨Nat.lt_of_lt_of_le this.1 T.size,this.2⟩
 have jm:∀b,(b∈F∨(w.heap.size≤b∧b<w'.heap.size)∨∃r R,aM σ r R∧b∈blk α R r∧Loose cx σ' lw w r b)→mine cx w' b:=by
  rintro b (hb | hb | ⟨r,R,hr,hb,_⟩)
  ·have:=H.fl b hb
   exact ⟨Nat.lt_of_lt_of_le this.1 T.size,this.2⟩
  ·exact ⟨hb.2, .inl (Nat.le_trans H.frame.2.2.2.1 hb.1)⟩
  ·exact Le hr hb
 have Ld:∀{r R b},aM σ' r R→b∈blk α' R r→mine cx w' b:=by
  intro r R b hr hb
  by_cases e:∃Q,aM σ r Q∧b∈blk α Q r
  ·obtain ⟨Q,hQ,hbQ⟩:=e
   exact Le hQ hbQ
  ·exact jm b (T.new b (.inl ⟨r,R,hr,hb,e⟩))
 have Eo:∀{q Q r R b},aM σ' q Q→Same σ α σ' α' q→aM σ' r R→r≠q→b∈blk α' Q q→b∉blk α' R r:=by
  intro q Q r R b hq hs hr hne hb hb'
  have hq':=(hs.live Q).1 hq
  rw [hs.blk] at hb
  by_cases e:∃R0,aM σ r R0∧b∈blk α R0 r
  ·obtain ⟨R0,h1,h2⟩:=e
   exact H.yI q Q r R0 hq' h1 (Ne.symm hne) b hb h2
  ·exact T.stay H hq' hs b hb (T.new b (.inl ⟨r,R,hr,hb',e⟩))
 constructor
 ·exact H.defs
 ·exact H.sz
 ·intro j pi b o n hj hb
  obtain ⟨R,h1,h2,h3,h4⟩:=H.kP j pi b o n hj hb
  obtain ⟨R',g1,g2⟩:=T.old _ R h1.1
  rcases g2 with g2 | ⟨_,g2⟩
  ·exact absurd h2 g2.2
  ·refine ⟨R',⟨g1, ?_⟩,g2.2.2.2.1.trans h2,g2.2.2.2.2.1.trans h3,(g2.2.2.2.2.2.1 h2).trans h4⟩
   unfold Root.aT
   rw [g2.2.2.2.1,h2]
 ·intro q Q hq hk
  cases hs:σ.roots q with
  | none=>exact absurd hk (T.U5 q Q hs hq.1)
  | some R=>
   obtain ⟨R',g1,g2⟩:=T.old q R hs
   rw [hq.1] at g1
   simp only [abr] at g1
   subst g1
   rcases g2 with ⟨g2,_⟩ | ⟨gd,g2⟩
   ·rw [hq.2] at g2; simp at g2
   ·rw [g2.2.2.2.2.1]
    exact H.yx q R ⟨hs,gd⟩ (g2.2.2.2.1▸hk)
 ·intro s
  rw [T.slots]
  exact II (fun x v hx h=>T.av H CL xw hx h) (H.mH s) (H.slots s)
 ·intro s
  rw [T.slots]
  exact T.rF (H.mH s)
 ·intro q Q hq
  by_cases e:Same σ α σ' α' q
  ·have hq':=(e.live Q).1 hq
   have K:=H.roots q Q hq'
   have hsame:=T.other H hq' e
   constructor
   ·intro hv
    have hv':=oK hV (H.cB q Q hq'.1).1 hv
    rw [e.hdr,e.fo]
    have hO:=K.ow hv'
    obtain ⟨_,g2,_⟩:=hV Q.tags Q.uK (H.cB q Q hq'.1).1 hv.2
    exact aY (fun b hb=>(g2 b hb.1 (.inl hb.2)).2) (fun b hb=>(g2 b hb.1 (.inl hb.2)).1) (fun b hb=>hsame b (abu _ hb)) (mQ Q.uK (fun _ h=>h) hO)
   ·rw [e.hdr]; exact K.len
   ·intro b o hb
    rw [e.wh] at hb
    rw [e.hdr]
    obtain ⟨h1,arr,te,lo,hi,h2,h3⟩:=K.mem b o hb
    have hbb:hp w' b=hp w b:=hsame b (by unfold blk; rw [hb]; simp)
    exact ⟨h1.congr hbb,arr,te,lo,hi,hbb.trans h2,h3⟩
   ·rw [e.blk]; exact K.nd
   ·exact fun b hb=>Ld hq hb
  ·obtain ⟨h1,h2,h3,h4⟩:=hroot q Q hq e
   exact ⟨h1,h2,h3,h4,fun b hb=>Ld hq hb⟩
 ·intro q Q hq
  by_cases e:Same σ α σ' α' q
  ·obtain ⟨h1,h2,h3⟩:=H.cB q Q (by rw [←e.root]; exact hq)
   exact ⟨fun t ht=>T.tag (h1 t ht),h2,h3⟩
  ·exact T.wr q Q hq e
 ·intro q Q q' Q' hq hq' hne b hb hb'
  by_cases e:Same σ α σ' α' q
  ·exact Eo hq e hq' (Ne.symm hne) hb hb'
  ·by_cases e':Same σ α σ' α' q'
   ·exact Eo hq' e' hq hne hb' hb
   ·exact T.yI q Q q' Q' hq hq' hne e e' b hb hb'
 ·exact fun b hb=>jm b (T.new b (.inr hb))
 ·exact T.rZ
 ·intro q Q hq b hb hF
  by_cases e:Same σ α σ' α' q
  ·rw [e.blk] at hb
   exact T.stay H ((e.live Q).1 hq) e b hb (T.new b (.inr hF))
  ·exact T.gQ q Q hq e b hb hF
 ·obtain ⟨f1,f2,f3,f4,f5,f6⟩:=H.frame
  refine ⟨T.os.1.trans f1,T.os.2.1.trans f2,T.os.2.2.trans f3,Nat.le_trans f4 T.size, ?_, ?_⟩
  ·intro b hb hno
   have:hp w' b=hp w b:=by
    refine abO fun hne=>?_
    have hm:mine cx w b:=by
     rcases T.Fp b (Nat.lt_of_lt_of_le hb f4) hne with h | ⟨r,R,hr,h,_⟩
     ·exact H.fl b h
     ·exact (H.roots r R hr).mine b h
    rcases hm.2 with h | ⟨j,pi,h1,h2⟩
    ·omega
    ·exact hno j pi h1 h2
   exact this.trans (f5 b hb hno)
  ·intro j pi b o n hj hb
   by_cases hne:hp w' b=hp w b
   ·have:=f6 j pi b o n hj hb
    obtain ⟨arr,iW,e,fr,h1,h2,h3⟩:=this
    exact ⟨arr,iW,e,fr,h1,hne.trans h2,h3⟩
   ·exact T.base j pi b o n hj hb hne
 ·intro j pi hj hk
  obtain ⟨R,h1,h2⟩:=H.tJ j pi hj hk
  obtain ⟨R',g1,g2⟩:=T.old _ R h1
  refine ⟨R',g1,fun hd b hb hnb=>?_⟩
  rcases g2 with ⟨g2,_⟩ | ⟨gd,g2,_⟩
  ·rw [hd] at g2; simp at g2
  ·have hev:=(T.ev _ R R' h1 g1 hd).1
   rcases h2 gd b hb hnb with ⟨e,he,xu⟩ | ⟨hs,hF,hown⟩
   ·refine .inl ⟨e,he, ?_⟩
    rw [g2,hev]
    rcases xu with h | h
    ·exact .inl (abu _ h)
    ·exact .inr h
   ·by_cases xu:∃e∈lw (aL j),lH (hp w) b=some e
    ·obtain ⟨e,he,hel⟩:=xu
     exact .inl ⟨e,(zA hs).symm.trans hel, .inl (by rw [g2]; exact abx _ he)⟩
    ·have hno:¬∃r Q,aM σ r Q∧b∈blk α Q r∧Loose cx σ' lw w r b:=by
      rintro ⟨r,Q,hr,hbr,hl⟩
      have e:=hown r Q hr hbr
      subst e
      rcases hl with hl | hl | ⟨hl,_⟩
      ·have:=hl R' g1
       rw [hd] at this
       simp at this
      ·exact xu hl
      ·exact hnb hl
     by_cases hlt:b<w.heap.size
     ·refine .inr ⟨?_, ?_, ?_⟩
      ·refine Eq.trans ?_ hs
       refine abO fun hne=>?_
       rcases T.Fp b hlt hne with h | h
       ·exact hF h
       ·exact hno h
      ·intro hF'
       rcases T.new b (.inr hF') with h | h | h
       ·exact hF h
       ·omega
       ·exact hno h
      ·intro q Q hq hbq
       by_cases e:∃R,aM σ q R∧b∈blk α R q
       ·obtain ⟨R0,hR0,hbR⟩:=e
        exact hown q R0 hR0 hbR
       ·rcases T.new b (.inl ⟨q,Q,hq,hbq,e⟩) with h | h | h
        ·exact absurd h hF
        ·omega
        ·exact absurd h hno
     ·exact absurd (H.pG.1 j pi hj b hb) (by have:=H.frame.2.2.2.1; omega)
 ·exact H.pG
 ·intro j p ts v hv
  obtain ⟨hvp,R,h1,h2⟩:=H.tK j p ts v hv
  obtain ⟨R',g1,g2⟩:=T.old _ R h1
  refine ⟨hvp,R',g1,fun ht=>?_⟩
  cases hd:R'.aT with
  | true=>
   rcases g2 with ⟨_,g2⟩ | ⟨gd,g2⟩
   ·refine ⟨hvp,fun Q hQ hv'=>?_⟩
    rw [g1] at hQ
    simp only [abr] at hQ
    subst hQ
    have:=hv'.1
    rw [hd] at this
    simp at this
   ·have:R'.aT=R.aT:=by unfold Root.aT; rw [g2.2.2.2.1]
    rw [hd,gd] at this
    simp at this
  | false=>
   have hev:=(T.ev _ R R' h1 g1 hd).2
   exact T.av H CL xw (show Ow.l9 σ (.ptr (aL j) p 0) from ⟨R,h1, .inr (ab0 _)⟩) (h2 (by rw [←hev]; exact ht))
 ·intro j v hv
  obtain ⟨⟨R,h1⟩,h2⟩:=H.tL j v hv
  obtain ⟨R',g1,_⟩:=T.old _ R h1
  exact ⟨⟨R',g1⟩,T.av H CL xw (show Ow.l9 σ (.ref (aL j) 0) from ⟨R,h1, .inr (ab0 _)⟩) h2⟩
end
def ak (σ:St) (r:Nat) (R:Root):St:={ σ with roots:=upd σ.roots r (some R) }
def aB (α:dA) (r:Nat) (loc:Nat×Nat) (hdr:List Value) (fo:List Nat):dA:=⟨upd α.loc r loc,upd α.hdr r hdr,upd α.fo r fo⟩
theorem aF (σ:St) (r:Nat) (R:Root):(ak σ r R).roots r=some R:=upd_same _ _ _
theorem bS (σ:St) {r q:Nat} (R:Root) (h:q≠r):(ak σ r R).roots q=σ.roots q:=upd_ne _ _ h
theorem zW {σ:St} {r q:Nat} {R Q:Root} (h:q≠r):aM (ak σ r R) q Q↔aM σ q Q:=by unfold aM; rw [bS σ R h]
theorem dU {σ:St} {r:Nat} {R Q:Root} (h:aM (ak σ r R) r Q):Q=R∧R.aT=false:=by
 have h1:=h.1
 rw [aF] at h1
 simp only [abr] at h1
 subst h1
 exact ⟨rfl,h.2⟩
theorem fQ {σ:St} {α:dA} {r q:Nat} {R:Root} {loc:Nat×Nat} {hdr:List Value} {fo:List Nat} (h:q≠r):Same σ α (ak σ r R) (aB α r loc hdr fo) q:=
 ⟨bS σ R h,upd_ne _ _ h,upd_ne _ _ h,upd_ne _ _ h⟩
theorem jg (σ:St) (α:dA) (q:Nat):Same σ α σ α q:=⟨rfl,rfl,rfl,rfl⟩
def gJ (R:Root) (loc:Nat×Nat) (fo:List Nat):List Nat:=(match R.kind with
 | .var _=>[loc.1]
 | .par=>[loc.1]
 | _=>[])++fo
theorem eU {α:dA} {r:Nat} {loc:Nat×Nat} {hdr:List Value} {fo:List Nat} {Q:Root}:blk (aB α r loc hdr fo) Q r=gJ Q loc fo:=by
 unfold blk gJ dY aB
 simp only [upd_same] <;> cases Q.kind <;> rfl
theorem bO (α:dA) (R:Root) (r:Nat):blk α R r=gJ R (α.loc r) (α.fo r):=by
 unfold blk gJ dY
 cases R.kind <;> rfl
def pX (R:Root) (loc:Nat×Nat):Option (Nat×Nat):=match R.kind with
 | .var _=>some loc
 | .par=>some loc
 | _=>none
theorem iG {α:dA} {r:Nat} {loc:Nat×Nat} {hdr:List Value} {fo:List Nat} {Q:Root}:dY (aB α r loc hdr fo) Q r=pX Q loc:=by
 unfold dY pX aB
 simp only [upd_same] <;> cases Q.kind <;> rfl
theorem nP (α:dA) (R:Root) (r:Nat):dY α R r=pX R (α.loc r):=rfl
end
section
open Go
variable [Fr]
def iy (σ:St) (s:Nat→qH):St:=⟨s,σ.roots⟩
theorem mg (σ:St) (s:Nat→qH) (tys:List TypeId):∀(T:List Tag),aU (iy σ s) tys T=aU σ tys T
 | []=>rfl
 | (r,n) :: T=>by simp only [aU,mg σ s tys T]; rfl
section
variable {cx:Cx} {σ:St} {α:dA} {F:List Nat} {a:Act} {w:World}
theorem BN (s:Nat→qH):gy cx (iy σ s) α F w=gy cx σ α F w:=rfl
theorem Ao (s:Nat→qH) {bt:TypeId} {k:K} {x:El k} {T:List Tag} {v:Value}:Am cx (iy σ s) α F w bt k x T v↔Am cx σ α F w bt k x T v:=by
 unfold Am
 rw [mg,BN]
 exact Iff.rfl
theorem vS (s:Nat→qH):∀{cs:List (TypeId×Dat×List Tag)} {vs:List Value},jE cx (iy σ s) α F w cs vs↔jE cx σ α F w cs vs
 | [],[]=>Iff.rfl
 | c :: cs,v :: vs=>by simp only [jE,Ao s,vS s]
 | [],_ :: _=>Iff.rfl
 | _ :: _,[]=>Iff.rfl
theorem kN (s:Nat→qH) {R:Root}:bg (iy σ s) R↔bg σ R:=by unfold bg; rw [mg]
theorem ru (s:Nat→qH) {x:AV} {v:Value}:bz cx (iy σ s) α F w x v↔bz cx σ α F w x v:=by
 cases x with
 | undef=>exact Iff.rfl
 | val k x T=>simp only [bz,mg,BN]
 | gK=>exact Iff.rfl
 | ref r g=>exact Iff.rfl
 | zo r g k p=>exact Iff.rfl
 | mU r p n=>simp only [bz,kN]; exact Iff.rfl
 | ptr r p n=>simp only [bz,kN]; exact Iff.rfl
 | gV bt k x T=>exact Ao s
 | mE=>exact Iff.rfl
 | sI _=>exact Iff.rfl
 | part _ _ _ _ _=>exact Iff.rfl
 | qE _ _ _ _=>simp only [bz,kN]; exact Iff.rfl
 | app _ _ _ _=>simp only [bz,kN]; exact Iff.rfl
 | fn f cs=>simp only [bz,vS s]
theorem rV (s:Nat→qH):∀{l:List AV} {vs:List Value},dJ cx (iy σ s) α F w l vs↔dJ cx σ α F w l vs
 | [],[]=>Iff.rfl
 | c :: cs,v :: vs=>by simp only [dJ,ru s,rV s]
 | [],_ :: _=>Iff.rfl
 | _ :: _,[]=>Iff.rfl
theorem xH (s:Nat→qH) {x:qH} {v:Value}:iK cx (iy σ s) α F w x v↔iK cx σ α F w x v:=by
 cases x with
 | one a=>exact ru s
 | Cb l=>simp only [iK,rV s]
 | lit _ _ l=>simp only [iK,rV s]
theorem yY (s:Nat→qH) {x:qH}:rF (iy σ s) x↔rF σ x:=by cases x <;> exact Iff.rfl
theorem Rel.put (H:Rel cx σ α F a w) {d:Nat} {x:qH} {v:Value} (hd:d<cx.nt) (hw:rF σ x) (hx:iK cx σ α F w x v) :
  Rel cx (iy σ (upd σ.slots d x)) α F (a.put (some d) v) w where
 defs:=H.defs
 sz:=by simpa [Act.put] using H.sz
 kP:=H.kP
 yx:=H.yx
 slots:=by
  intro s
  rw [xH]
  show iK cx σ α F w (upd σ.slots d x s) _
  by_cases e:s=d
  ·subst e
   rw [upd_same]
   have:(a.put (some s) v).tmps.getD s undef=v:=by
    have:=H.sz
    simp [Act.put,Array.getElem?_setIfInBounds_self_of_lt (show s<a.tmps.size by omega)]
   rw [this]
   exact hx
  ·rw [upd_ne _ _ e]
   have:(a.put (some d) v).tmps.getD s undef=a.tmps.getD s undef:=by
    simp [Act.put,Array.getElem?_setIfInBounds_ne (Ne.symm e)]
   rw [this]
   exact H.slots s
 mH:=by
  intro s
  rw [yY]
  show rF σ (upd σ.slots d x s)
  by_cases e:s=d
  ·subst e; rw [upd_same]; exact hw
  ·rw [upd_ne _ _ e]; exact H.mH s
 roots:=by
  intro r R hr
  have K:=H.roots r R hr
  exact ⟨fun hv=>K.ow ((kN _).1 hv),K.len,K.mem,K.nd,K.mine⟩
 cB:=H.cB
 yI:=H.yI
 fl:=H.fl
 rZ:=H.rZ
 gQ:=H.gQ
 frame:=H.frame
 tJ:=H.tJ
 pG:=H.pG
 tK:=fun j p ts v h=>let ⟨h0,R,h1,h2⟩:=H.tK j p ts v h; ⟨h0,R,h1,fun ht=>(ru _).2 (h2 ht)⟩
 tL:=H.tL
def dw (w:World) (n:Nat):World:={ w with drawn:=n }
theorem Bz (n:Nat):∀{cs:List (TypeId×Dat×List Tag)} {vs:List Value},jE cx σ α F w cs vs→jE cx σ α F (dw w n) cs vs
 | [],[],_=>trivial
 | _ :: _,_ :: _,h=>⟨h.1,Bz n h.2⟩
 | [],_ :: _,h=>h.elim
 | _ :: _,[],h=>h.elim
theorem yD (n:Nat) {x:AV} {v:Value} (h:bz cx σ α F w x v):bz cx σ α F (dw w n) x v:=by
 cases x with
 | fn f cs=>obtain ⟨vs,h1,h2⟩:=h; exact ⟨vs,h1,Bz n h2⟩
 | undef=>exact h
 | val k x T=>exact h
 | gK=>exact h
 | ref r g=>exact h
 | zo r g k p=>exact h
 | mU r p n=>exact h
 | ptr r p n=>exact h
 | gV bt k x T=>exact h
 | mE=>exact h
 | sI _=>exact h
 | part _ _ _ _ _=>exact h
 | qE _ _ _ _=>exact h
 | app _ _ _ _=>exact h
theorem Rel.drawn (H:Rel cx σ α F a w) (n:Nat):Rel cx σ α F a (dw w n) where
 defs:=H.defs
 sz:=H.sz
 kP:=H.kP
 yx:=H.yx
 slots:=fun s=>by
  have h:=H.slots s
  generalize σ.slots s=x at h
  cases x with
  | one a=>exact yD n h
  | Cb l=>
   obtain ⟨vs,h1,h2⟩:=h
   refine ⟨vs,h1, ?_⟩
   clear h1
   induction l generalizing vs with
   | nil=>cases vs with
    | nil=>trivial
    | cons v vs=>exact h2.elim
   | cons b l ih=>cases vs with
    | nil=>exact h2.elim
    | cons v vs=>exact ⟨yD n h2.1,ih vs h2.2⟩
  | lit _ _ l=>
   obtain ⟨vs,cs,h1,h2⟩:=h
   refine ⟨vs,cs,h1, ?_⟩
   clear h1
   induction l generalizing vs with
   | nil=>cases vs with
    | nil=>trivial
    | cons v vs=>exact h2.elim
   | cons b l ih=>cases vs with
    | nil=>exact h2.elim
    | cons v vs=>exact ⟨yD n h2.1,ih vs h2.2⟩
 mH:=H.mH
 roots:=fun r R hr=>let K:=H.roots r R hr; ⟨K.ow,K.len,K.mem,K.nd,K.mine⟩
 cB:=H.cB
 yI:=H.yI
 fl:=H.fl
 rZ:=H.rZ
 gQ:=H.gQ
 frame:=H.frame
 tJ:=H.tJ
 pG:=H.pG
 tK:=fun j p ts v h=>let ⟨h0,R,h1,h2⟩:=H.tK j p ts v h; ⟨h0,R,h1,fun ht=>yD n (h2 ht)⟩
 tL:=H.tL
def ni (r:Nat) (l:List Nat):Nat→List Nat:=fun q=>if q=r then l else []
theorem oJ (r:Nat) (l:List Nat):ni r l r=l:=if_pos rfl
theorem lu {r q:Nat} (l:List Nat) (h:q≠r):ni r l q=[]:=if_neg h
variable {r:Nat} {R R':Root} {hdr':List Value} {gu F':List Nat} {w':World} {lw lh:List Nat}
def Fw (cx:Cx) (R':Root) (lw:List Nat) (w:World) (b:Nat):Prop:=R'.aT=true∨(∃e∈lw,lH (hp w) b=some e)∨(jq cx b∧lw≠[])
structure sQ (cx:Cx) (σ:St) (α:dA) (F:List Nat) (w:World) (r:Nat) (R R':Root) (gu F':List Nat) (w':World) (lw lh:List Nat):Prop where
 step:(R'.aT=true∧R.kind≠.par)∨(R'.w=lw++R.w∧R'.h=lh++R.h∧R.g≤R'.g∧R'.kind=R.kind∧(R.kind=.par→R'.k.size=R.k.size)∧(lw≠[]∨lh≠[]))
 tags:dW σ R'.tags∧∀n,(r,n)∉R'.tags
 os:w'.os=w.os∧w'.tape=w.tape∧w'.output=w.output
 size:w.heap.size≤w'.heap.size
 Fp:∀b,b<w.heap.size→hp w' b≠hp w b→b∈F∨(b∈blk α R r∧Fw cx R' lw w b)
 new:R'.aT=false→∀b∈gJ R' (α.loc r) gu,b∈blk α R r∨b∈F∨(w.heap.size≤b∧b<w'.heap.size)
 newF:∀b∈F',b∈F∨(w.heap.size≤b∧b<w'.heap.size)∨(b∈blk α R r∧Fw cx R' lw w b)
 rZ:F'.Nodup
 gQ:R'.aT=false→∀b∈gJ R' (α.loc r) gu,b∉F'
 base:∀j pi b o n,cx.par j=some pi→pi.base=some (b,o,n)→r=aL j→hp w' b≠hp w b→fJ (hp cx.w0) (hp w') b o n
 ev:R'.aT=false→R'.ew=R.ew∧R'.eh=R.eh
theorem jr {q:Nat} {Q:Root} (h:aM (ak σ r R') q Q):(q=r∧Q=R'∧R'.aT=false)∨(q≠r∧aM σ q Q):=by
 by_cases e:q=r
 ·subst e
  obtain ⟨h1,h2⟩:=dU h
  exact .inl ⟨rfl,h1,h2⟩
 ·exact .inr ⟨e,(zW e).1 h⟩
theorem sQ.turn (H:Rel cx σ α F a w) (hr:aM σ r R) (T:sQ cx σ α F w r R R' gu F' w' lw lh) :
  jN cx σ α F w (ak σ r R') (aB α r (α.loc r) hdr' gu) F' w' (ni r lw) (ni r lh):=by
 have hsame:∀q,q≠r→Same σ α (ak σ r R') (aB α r (α.loc r) hdr' gu) q:=fun q h=>fQ h
 have Lc:∀b,Fw cx R' lw w b→Loose cx (ak σ r R') (ni r lw) w r b:=by
  rintro b (h | ⟨e,he,hb⟩ | ⟨h,hl⟩)
  ·refine .inl fun Q hQ=>?_
   rw [aF] at hQ
   simp only [abr] at hQ
   subst hQ
   exact h
  ·exact .inr (.inl ⟨e,by rw [oJ]; exact he,hb⟩)
  ·exact .inr (.inr ⟨h,by rw [oJ]; exact hl⟩)
 have hns:∀{q:Nat},¬Same σ α (ak σ r R') (aB α r (α.loc r) hdr' gu) q→q=r:=fun {q} h=>abO fun e=>h (hsame q e)
 refine ⟨rfl,T.os,T.size, ?_, ?_, ?_, ?_, ?_,T.rZ, ?_, ?_, ?_, ?_⟩
 ·intro q Q hQ
  by_cases e:q=r
  ·subst e
   rw [hr.1] at hQ
   simp only [abr] at hQ
   subst hQ
   refine ⟨R',aF .., ?_⟩
   rcases T.step with h | ⟨h1,h2,h3,h4,h5,h6⟩
   ·exact .inl h
   ·exact .inr ⟨hr.2,by rw [oJ]; exact h1,by rw [oJ]; exact h2,h3,h4,by simp [aB,upd_same],h5,by rw [oJ,oJ]; exact .inl h6⟩
  ·refine ⟨Q,by rw [bS σ R' e]; exact hQ, ?_⟩
   cases hd:Q.aT with
   | true=>
    refine .inl ⟨rfl, ?_⟩
    intro hk
    simp [Root.aT,hk] at hd
   | false=>exact .inr ⟨rfl,by rw [lu lw e]; rfl,by rw [lu lh e]; rfl,abI _,rfl,by simp [aB,upd_ne _ _ e],fun _=>rfl, .inr ⟨lu lw e,lu lh e,hsame q e⟩⟩
 ·intro q Q hQ hs
  have e:=hns hs
  subst e
  rw [aF] at hQ
  simp only [abr] at hQ
  subst hQ
  refine ⟨fun t ht=>?_,(H.cB q R hr.1).2.1,T.tags.2⟩
  have hne:t.1≠q:=fun e=>T.tags.2 t.2 (by rw [←e]; exact ht)
  rcases T.tags.1 t ht with h | ⟨Q,h1,h2⟩
  ·exact .inl h
  ·exact .inr ⟨Q,by rw [bS σ R' hne]; exact h1,h2⟩
 ·intro q Q hn hQ
  have e:q≠r:=fun e=>by rw [e,hr.1] at hn; simp at hn
  rw [bS σ R' e,hn] at hQ
  simp at hQ
 ·intro b hb hne
  exact (T.Fp b hb hne).imp id (fun h=>⟨r,R,hr,h.1,Lc b h.2⟩)
 ·rintro b (⟨q,Q,hq,hb,hno⟩ | hb)
  ·rcases jr hq with ⟨rfl,rfl,hd⟩ | ⟨e,hq'⟩
   ·rw [eU] at hb
    rcases T.new hd b hb with h | h | h
    ·exact absurd ⟨R,hr,h⟩ hno
    ·exact .inl h
    ·exact .inr (.inl h)
   ·rw [(hsame q e).blk] at hb
    exact absurd ⟨Q,hq',hb⟩ hno
  ·rcases T.newF b hb with h | h | h
   ·exact .inl h
   ·exact .inr (.inl h)
   ·exact .inr (.inr ⟨r,R,hr,h.1,Lc b h.2⟩)
 ·intro q Q hq hs b hb
  have e:=hns hs
  subst e
  obtain ⟨rfl,hd⟩:=dU hq
  rw [eU] at hb
  exact T.gQ hd b hb
 ·intro q Q q' Q' hq hq' hne hs hs'
  exact absurd ((hns hs).trans (hns hs').symm) hne
 ·intro j pi b o n hj hb hne
  obtain ⟨Q,hQ,hk,hl,hs⟩:=H.kP j pi b o n hj hb
  have hbq:b∈blk α Q (aL j):=by simp [blk,dY,hk,hl]
  have hm:=(H.roots _ _ hQ).mine b hbq
  rcases T.Fp b hm.1 hne with h | ⟨h1,_⟩
  ·exact absurd h (H.gQ _ _ hQ b hbq)
  ·refine T.base j pi b o n hj hb ?_ hne
   refine abO fun e=>?_
   exact H.yI _ _ _ _ hr hQ e b h1 hbq
 ·intro q Q Q' hQ hQ' hd
  by_cases e:q=r
  ·subst e
   rw [hr.1] at hQ
   rw [aF] at hQ'
   simp only [abr] at hQ hQ'
   subst hQ
   subst hQ'
   exact T.ev hd
  ·rw [bS σ R' e,hQ] at hQ'
   simp only [abr] at hQ'
   subst hQ'
   exact ⟨rfl,rfl⟩
theorem sQ.rel (H:Rel cx σ α F a w) (hr:aM σ r R) (T:sQ cx σ α F w r R R' gu F' w' lw lh)
  (hroot:R'.aT=false→(bg (ak σ r R') R'→Ow (hp w') R'.own (gy cx (ak σ r R') (aB α r (α.loc r) hdr' gu) F' w' R'.tags) R'.k R'.x hdr' gu)∧hdr'.length=R'.k.size∧
   (∀b o,pX R' (α.loc r)=some (b,o)→Cells (hp w') b o hdr'∧∃arr e lo hi,hp w' b=some (.cells arr e (lo,hi))∧wQ arr.size lo hi∧o+R'.k.size≤arr.size∧(∀t,R'.kind=.var t→e=t))∧
   (gJ R' (α.loc r) gu).Nodup)
  (CL:R'.aT=false→∀p n v,n≤fF R.h→bz cx σ α F w (.ptr r p n) v→bz cx (ak σ r R') (aB α r (α.loc r) hdr' gu) F' w' (.ptr r p n) v)
  (xw:R'.aT=false→∀g v,g≤R.g→bz cx σ α F w (.ref r g) v→bz cx (ak σ r R') (aB α r (α.loc r) hdr' gu) F' w' (.ref r g) v) :
  Rel cx (ak σ r R') (aB α r (α.loc r) hdr' gu) F' a w':=by
 have hns:∀{q:Nat},¬Same σ α (ak σ r R') (aB α r (α.loc r) hdr' gu) q→q=r:=fun {q} h=>abO fun e=>h (fQ e)
 have Zg:∀{Q:Root},aM σ r Q→Q=R:=fun {Q} hQ=>by have:=hQ.1; rw [hr.1] at this; simpa using this.symm
 refine H.turn (T.turn H hr) ?_ ?_ ?_
 ·intro q Q hq hs
  have e:=hns hs
  subst e
  obtain ⟨rfl,hd⟩:=dU hq
  obtain ⟨h1,h2,h3,h4⟩:=hroot hd
  refine ⟨fun hv=>?_, ?_, ?_, ?_⟩
  ·have:=h1 hv
   simpa [aB,upd_same] using this
  ·simpa [aB,upd_same] using h2
  ·intro b o hb
   rw [iG] at hb
   have:=h3 b o hb
   simpa [aB,upd_same] using this
  ·rw [eU]; exact h4
 ·intro q Q hq hs p n v hn hv
  have e:=hns hs
  subst e
  obtain rfl:=Zg hq
  cases hd:R'.aT with
  | false=>exact CL hd p n v hn hv
  | true=>
   refine ⟨hv.1, ?_⟩
   intro Q' hQ' hval
   rw [aF] at hQ'
   simp only [abr] at hQ'
   subst hQ'
   have:=hval.1
   rw [hd] at this
   simp at this
 ·intro q Q hq hs g v hg hv
  have e:=hns hs
  subst e
  obtain rfl:=Zg hq
  cases hd:R'.aT with
  | false=>exact xw hd g v hg hv
  | true=>
   intro Q' hQ'
   have:=(dU hQ').2
   rw [hd] at this
   simp at this
structure Held (cx:Cx) (σ:St) (α:dA) (F:List Nat) (w:World) (k:K) (x:El k) (own:List TypeId) (tags:List Tag) (cs:List Value) (fo:List Nat):Prop where
 ow:aU σ (aK own k) tags=true→Ow (hp w) own (gy cx σ α F w tags) k x cs fo
 wt:dW σ tags
 sub:∀b∈fo,b∈F
 nd:fo.Nodup
 len:cs.length=k.size
theorem Held.turn {σ':St} {α':dA} {lw lh:Nat→List Nat} {k:K} {x:El k} {own:List TypeId} {tags:List Tag} {cs:List Value} {fo:List Nat}
  (H:Rel cx σ α F a w) (T:jN cx σ α F w σ' α' F' w' lw lh) (h:Held cx σ α F w k x own tags cs fo) (hs:∀b∈fo,hp w' b=hp w b∧b∈F'):Held cx σ' α' F' w' k x own tags cs fo where
 ow:=fun hc=>by
  obtain ⟨h1,h2,_⟩:=T.views H tags _ h.wt hc
  exact aY (fun b hb=>(h2 b hb.1 (.inl hb.2)).2) (fun b hb=>(h2 b hb.1 (.inl hb.2)).1) (fun b hb=>(hs b hb).1) (mQ _ (fun _ h=>h) (h.ow h1))
 wt:=fun t ht=>T.tag (h.wt t ht)
 sub:=fun b hb=>(hs b hb).2
 nd:=h.nd
 len:=h.len
theorem Held.slots {k:K} {x:El k} {own:List TypeId} {tags:List Tag} {cs:List Value} {fo:List Nat} (s:Nat→qH) (h:Held cx σ α F w k x own tags cs fo):Held cx (iy σ s) α F w k x own tags cs fo:=
 ⟨fun hc=>h.ow (by rw [mg] at hc; exact hc),h.wt,h.sub,h.nd,h.len⟩
end
end
section
open Go
variable [Fr]
theorem oQ {h:Heap} {own:List TypeId} {ok:Nat→Prop}:∀{k:K} {x:El k} {cs:List Value} {fo:List Nat},Ow h own ok k x cs fo→∀b∈fo,∃e∈k.tys,aA e own=true∧lH h b=some e:=by
 intro k
 induction k with
 | int ik=>intro x cs fo H b hb; rw [H.1] at hb; simp at hb
 | bool=>intro x cs fo H b hb; rw [H.1] at hb; simp at hb
 | id e=>intro x cs fo H b hb; rw [H.1] at hb; simp at hb
 | str=>intro x cs fo H b hb; rw [H.1] at hb; simp at hb
 | sl e k ih=>
  intro x cs fo H b' hb'
  unfold Ow at H
  split at H
  ·rename_i hm
   obtain ⟨a,n,c,e1,e2,e3,H⟩:=H
   rcases H with ⟨_,h1⟩ | ⟨b,o,arr,lo,hi,ea,hb,hf,hs,bE,hl,hp,H⟩
   ·rw [h1] at hb'; simp at hb'
   ·rcases abE.1 (hp.mem_iff.1 hb') with h | h
    ·subst h
     exact ⟨e,by simp [K.tys],hm,by unfold lH; rw [hb]⟩
    ·obtain ⟨l,hl1,hl2⟩:=List.mem_flatten.1 h
     obtain ⟨i,hi,rfl⟩:=List.mem_iff_getElem.1 hl1
     obtain ⟨ds,_,h2⟩:=H i (by omega)
     rw [bR hi] at h2
     obtain ⟨e',g1,g2⟩:=ih h2 b' hl2
     exact ⟨e',by simp [K.tys,g1],g2⟩
  ·rw [H.1] at hb'; simp at hb'
 | unit=>intro x cs fo H b hb; rw [H.1] at hb; simp at hb
 | pair a b iha ihb=>
  intro x cs fo H b' hb'
  obtain ⟨c1,c2,f1,f2,e,hp,h1,h2⟩:=H
  rcases abB.1 (hp.mem_iff.1 hb') with h | h
  ·obtain ⟨e',g1,g2⟩:=iha h1 b' h; exact ⟨e',by simp [K.tys,g1],g2⟩
  ·obtain ⟨e',g1,g2⟩:=ihb h2 b' h; exact ⟨e',by simp [K.tys,g1],g2⟩
 | st f ih=>intro x cs fo H; exact ih (x:=x) H
 | gap n=>intro x cs fo H b hb; rw [H.1] at hb; simp at hb
theorem cZ {t:Nat} {own bad:List TypeId}:aA t (aZ own bad)=true↔aA t own=true∧t∉bad:=by
 rw [bu,bu]
 unfold aZ
 rw [abJ]
 simp [aO]
theorem uu {own:List TypeId}:∀{k:K} {t:TypeId},t∈k.tys→t∈aK own k∨aA t own=true:=by
 intro k
 induction k with
 | sl e k ih=>
  intro t ht
  simp only [K.tys,abE] at ht
  cases hm:aA e own with
  | true=>
   rcases ht with ht | ht
   ·subst ht; exact .inr hm
   ·exact (ih ht).imp (fun h=>by simp [aK,hm,h]) id
  | false=>exact .inl (by simpa [aK,hm] using ht)
 | pair a b iha ihb=>
  intro t ht
  simp only [K.tys,abB] at ht
  rcases ht with ht | ht
  ·exact (iha ht).imp (fun h=>by simp [aK,h]) id
  ·exact (ihb ht).imp (fun h=>by simp [aK,h]) id
 | st f ih=>intro t ht; exact ih ht
 | _=>intro t ht; simp [K.tys] at ht
theorem xE {own:List TypeId}:∀{k:K} {t:TypeId},t∈aK own k→t∈k.tys:=by
 intro k
 induction k with
 | sl e k ih=>
  intro t ht
  cases hm:aA e own with
  | true=>simp only [aK,hm,cond_true] at ht; simp [K.tys,ih ht]
  | false=>simpa [aK,hm,K.tys] using ht
 | pair a b iha ihb=>
  intro t ht
  simp only [aK,abB] at ht
  simp only [K.tys,abB]
  exact ht.imp iha ihb
 | st f ih=>intro t ht; exact ih ht
 | _=>intro t ht; simp [aK] at ht
section
variable {cx:Cx} {σ:St} {α:dA} {F:List Nat} {a:Act} {w:World} {F':List Nat} {w':World}
theorem wG (H:Rel cx σ α F a w) (hos:w'.os=w.os∧w'.tape=w.tape∧w'.output=w.output) (hsize:w.heap.size≤w'.heap.size) (zN:∀b,b<w.heap.size→hp w' b≠hp w b→b∈F)
  (hnew:∀b∈F',b∈F∨(w.heap.size≤b∧b<w'.heap.size)) (hnd:F'.Nodup):jN cx σ α F w σ α F' w' (fun _=>[]) (fun _=>[]) where
 slots:=rfl
 os:=hos
 size:=hsize
 old:=fun r R hr=>⟨R,hr,by
  cases hd:R.aT with
  | true=>exact .inl ⟨rfl,by intro hk; simp [Root.aT,hk] at hd⟩
  | false=>exact .inr ⟨rfl,rfl,rfl,abI _,rfl,rfl,fun _=>rfl, .inr ⟨rfl,rfl,jg ..⟩⟩⟩
 wr:=fun r R' _ h=>absurd (jg ..) h
 U5:=fun r R' h1 h2=>by rw [h1] at h2; simp at h2
 Fp:=fun b hb hne=>.inl (zN b hb hne)
 new:=by
  rintro b (⟨r,R',h1,h2,h3⟩ | h)
  ·exact absurd ⟨R',h1,h2⟩ h3
  ·exact (hnew b h).imp id .inl
 rZ:=hnd
 gQ:=fun r R' _ h=>absurd (jg ..) h
 yI:=fun r R r' R' _ _ _ h=>absurd (jg ..) h
 base:=by
  intro j pi b o n hj hb hne
  obtain ⟨Q,hQ,hk,hl,hs⟩:=H.kP j pi b o n hj hb
  have hbq:b∈blk α Q (aL j):=by simp [blk,dY,hk,hl]
  have hm:=(H.roots _ _ hQ).mine b hbq
  exact absurd (zN b hm.1 hne) (H.gQ _ _ hQ b hbq)
 ev:=fun r R R' h1 h2 _=>by rw [h1] at h2; simp only [abr] at h2; subst h2; exact ⟨rfl,rfl⟩
theorem Rel.mem (H:Rel cx σ α F a w) (T:jN cx σ α F w σ α F' w' (fun _=>[]) (fun _=>[])):Rel cx σ α F' a w':=
 H.turn T (fun _ _ _ h=>absurd (jg ..) h) (fun _ _ _ h=>absurd (jg ..) h) (fun _ _ _ h=>absurd (jg ..) h)
theorem Rel.alloc (H:Rel cx σ α F a w) (o:Obj):Rel cx σ α (w.heap.size :: F) a (w.alloc o)∧jN cx σ α F w σ α (w.heap.size :: F) (w.alloc o) (fun _=>[]) (fun _=>[]):=by
 have hs:(w.alloc o).heap.size=w.heap.size+1:=Array.size_push ..
 have T:jN cx σ α F w σ α (w.heap.size :: F) (w.alloc o) (fun _=>[]) (fun _=>[]):=wG H ⟨rfl,rfl,rfl⟩ (by omega) (fun b hb hne=>absurd (kJ w o hb) hne)
  (fun b hb=>by rcases abE.1 hb with h | h; exact .inr ⟨by omega,by omega⟩; exact .inl h)
  (abZ.2 ⟨fun h=>by have:=(H.fl _ h).1; omega,H.rZ⟩)
 exact ⟨H.mem T,T⟩
variable {r:Nat} {R:Root}
theorem iN:bN.aT=true:=rfl
theorem jG {R':Root} {tys:List TypeId} {T:List Tag} (h:∀n,(r,n)∉T):aU (ak σ r R') tys T=aU σ tys T:=by
 induction T with
 | nil=>rfl
 | cons t T ih=>
  obtain ⟨q,n⟩:=t
  have hq:q≠r:=fun e=>h n (by simp [e])
  have ih':=ih (fun n hn=>h n (by simp [hn]))
  simp only [aU]
  rw [ih',bS σ R' hq]
def iE (α:dA) (r:Nat):dA:=aB α r (α.loc r) (α.hdr r) []
theorem kill (H:Rel cx σ α F a w) (hr:aM σ r R) (hk:R.kind=.anon) (hv:bg σ R) :
  Rel cx (ak σ r bN) (iE α r) (α.fo r++F) a w∧jN cx σ α F w (ak σ r bN) (iE α r) (α.fo r++F) w (ni r []) (ni r [])∧
  Held cx (ak σ r bN) (iE α r) (α.fo r++F) w R.k R.x R.own R.tags (α.hdr r) (α.fo r)∧aU (ak σ r bN) (aK R.own R.k) R.tags=true:=by
 have hb:blk α R r=α.fo r:=by simp [blk,dY,hk]
 have K:=H.roots r R hr
 have hnd:(α.fo r).Nodup:=by rw [←hb]; exact K.nd
 have T1:sQ cx σ α F w r R bN [] (α.fo r++F) w [] []:=by
  refine ⟨.inl ⟨rfl,by rw [hk]; simp⟩,⟨fun t ht=>by simp [bN] at ht,fun n hn=>by simp [bN] at hn⟩,⟨rfl,rfl,rfl⟩,abI _,fun b _ h=>absurd rfl h,fun h=>by simp [iN] at h, ?_, ?_,fun h=>by simp [iN] at h,fun _ _ _ _ _ _ _ _ h=>absurd rfl h,fun h=>by simp [iN] at h⟩
  ·intro b hb'
   rcases abB.1 hb' with h | h
   ·exact .inr (.inr ⟨by rw [hb]; exact h, .inl rfl⟩)
   ·exact .inl h
  ·exact abz.2 ⟨hnd,H.rZ,fun b h1 c h2 e=>H.gQ r R hr b (by rw [hb]; exact h1) (e▸h2)⟩
 have hT:=T1.turn (hdr':=α.hdr r) H hr
 have hnt:=(H.cB r R hr.1).2.2
 have zO:aU (ak σ r bN) (aK R.own R.k) R.tags=true:=by rw [jG hnt]; exact hv.2
 refine ⟨T1.rel H hr (fun h=>by simp [iN] at h) (fun h=>by simp [iN] at h) (fun h=>by simp [iN] at h),hT, ?_,zO⟩
 refine ⟨fun hc=>?_,fun t ht=>hT.tag ((H.cB r R hr.1).1 t ht),fun b hb=>abx _ hb,hnd,K.len⟩
 obtain ⟨h1,h2,_⟩:=hT.views H R.tags _ (H.cB r R hr.1).1 hc
 exact aY (fun b hb=>(h2 b hb.1 (.inl hb.2)).2) (fun b hb=>(h2 b hb.1 (.inl hb.2)).1) (fun _ _=>rfl) (mQ _ (fun _ h=>h) (K.ow hv))
theorem U0 (H:Rel cx σ α F a w) (hr:aM σ r R) (hk:R.kind≠.par) (hv:bg σ R) :
  Rel cx (ak σ r bN) (iE α r) (blk α R r++F) a w∧jN cx σ α F w (ak σ r bN) (iE α r) (blk α R r++F) w (ni r []) (ni r [])∧
  Held cx (ak σ r bN) (iE α r) (blk α R r++F) w R.k R.x R.own R.tags (α.hdr r) (α.fo r)∧aU (ak σ r bN) (aK R.own R.k) R.tags=true:=by
 have K:=H.roots r R hr
 have hnd:(blk α R r).Nodup:=K.nd
 have T1:sQ cx σ α F w r R bN [] (blk α R r++F) w [] []:=by
  refine ⟨.inl ⟨rfl,hk⟩,⟨fun t ht=>by simp [bN] at ht,fun n hn=>by simp [bN] at hn⟩,⟨rfl,rfl,rfl⟩,abI _,fun b _ h=>absurd rfl h,fun h=>by simp [iN] at h, ?_, ?_,fun h=>by simp [iN] at h,fun _ _ _ _ _ _ _ _ h=>absurd rfl h,fun h=>by simp [iN] at h⟩
  ·intro b hb'
   rcases abB.1 hb' with h | h
   ·exact .inr (.inr ⟨h, .inl rfl⟩)
   ·exact .inl h
  ·exact abz.2 ⟨hnd,H.rZ,fun b h1 c h2 e=>H.gQ r R hr b h1 (e▸h2)⟩
 have hT:=T1.turn (hdr':=α.hdr r) H hr
 have hnt:=(H.cB r R hr.1).2.2
 have zO:aU (ak σ r bN) (aK R.own R.k) R.tags=true:=by rw [jG hnt]; exact hv.2
 refine ⟨T1.rel H hr (fun h=>by simp [iN] at h) (fun h=>by simp [iN] at h) (fun h=>by simp [iN] at h),hT, ?_,zO⟩
 refine ⟨fun hc=>?_,fun t ht=>hT.tag ((H.cB r R hr.1).1 t ht),fun b hb=>abx _ (abu _ hb),(abz.1 hnd).2.1,K.len⟩
 obtain ⟨h1,h2,_⟩:=hT.views H R.tags _ (H.cB r R hr.1).1 hc
 exact aY (fun b hb=>(h2 b hb.1 (.inl hb.2)).2) (fun b hb=>(h2 b hb.1 (.inl hb.2)).1) (fun _ _=>rfl) (mQ _ (fun _ h=>h) (K.ow hv))
theorem lK:∀(p:List Stp) {k:K} {x y:El k},(aI p k x).isSome=(aI p k y).isSome:=by
 intro p
 induction p with
 | nil=>intro k x y; rfl
 | cons s p ih=>
  intro k x y
  cases s with
  | fu n=>
   cases k with
   | st c=>
    simp only [aI]
    have key:∀(n:Nat) {c:K} {x y:El c},(∃s t:Dat,aC n c x=some s∧aC n c y=some t∧s.1=t.1)∨(aC n c x=none∧aC n c y=none):=by
     intro n
     induction n with
     | zero=>intro c x y; cases c <;> first | exact .inl ⟨_,_,rfl,rfl,rfl⟩ | exact .inr ⟨rfl,rfl⟩
     | succ n ih=>intro c x y; cases c <;> first | exact ih | exact .inr ⟨rfl,rfl⟩
    rcases key n (c:=c) (x:=x) (y:=y) with ⟨s,t,h1,h2,h3⟩ | ⟨h1,h2⟩
    ·rw [h1,h2]
     obtain ⟨sk,sx⟩:=s
     obtain ⟨tk,ty⟩:=t
     simp only at h3
     subst h3
     exact ih
    ·rw [h1,h2]
   | _=>simp [aI]
  | idx i=>
   cases k with
   | sl e k=>simp only [aI]; exact ih
   | _=>simp [aI]
theorem vT:∀(n m:Nat) {c:K} {x:El c} {u y:Dat},m≠n→bT n c x u=some y→aC m y.1 y.2=aC m c x:=by
 intro n
 induction n with
 | zero=>
  intro m c x u y hm h
  cases c with
  | pair a b=>
   simp only [bT,abr] at h
   subst h
   cases m with
   | zero=>exact absurd rfl hm
   | succ m=>rfl
  | _=>simp [bT] at h
 | succ n ih=>
  intro m c x u y hm h
  cases c with
  | pair a b=>
   simp only [bT] at h
   cases h4:bT n b x.2 u with
   | none=>rw [h4] at h; simp at h
   | some y2=>
    rw [h4] at h
    simp only [abr] at h
    subst h
    cases m with
    | zero=>rfl
    | succ m=>exact ih m (by omega) h4
  | _=>simp [bT] at h
theorem Ca {bad:List TypeId}:∀(p q:List Stp) {k:K} {x:El k} {t d z:Dat},aI p k x=some d→dL p k x t=some z→
  (∀q',(aI q' t.1 t.2).isSome=true→(∀e∈aa q' t.1,e∉bad)→aa q' d.1=aa q' t.1∧(aI q' d.1 d.2).isSome=true)→(aI q z.1 z.2).isSome=true→(∀e∈aa q z.1,e∉bad)→
   aa q k=aa q z.1∧(aI q k x).isSome=true:=by
 intro p
 induction p with
 | nil=>
  intro q k x t d z hg hz ht hs hb
  simp only [dL,abr] at hz
  simp only [aI,abr] at hg
  subst hz
  subst hg
  exact ht q hs hb
 | cons s p ih=>
  intro q k x t d z hg hz ht hs hb
  cases s with
  | fu n=>
   cases k with
   | st c=>
    simp only [aI,dL] at hg hz
    cases hcg:aC n c x with
    | none=>rw [hcg] at hg; simp at hg
    | some s=>
     rw [hcg] at hg hz
     simp only at hg hz
     cases hs':dL p s.1 s.2 t with
     | none=>rw [hs'] at hz; simp at hz
     | some u=>
      rw [hs'] at hz
      simp only at hz
      cases hcp:bT n c x u with
      | none=>rw [hcp] at hz; simp at hz
      | some y=>
       rw [hcp] at hz
       simp only [abr] at hz
       subst hz
       cases q with
       | nil=>exact ⟨rfl,rfl⟩
       | cons s2 q=>
        cases s2 with
        | idx i=>simp [aI] at hs
        | fu m=>
         by_cases hmn:m=n
         ·subst hmn
          have e1:aC m y.1 y.2=some u:=qQ m hcp
          have p1:aa (.fu m :: q) (.st c)=aa q s.1:=by simp [aa,bP m hcg]
          have p2:aa (.fu m :: q) (.st y.1)=aa q u.1:=by simp [aa,bP m e1]
          have hs2:(aI (.fu m :: q) (.st y.1) y.2).isSome=true:=hs
          simp only [aI,e1] at hs2
          have hb2:∀e∈aa (.fu m :: q) (.st y.1),e∉bad:=hb
          rw [p2] at hb2
          obtain ⟨h1,h2⟩:=ih q hg hs' ht hs2 hb2
          refine ⟨?_, ?_⟩
          ·show aa (.fu m :: q) (.st c)=aa (.fu m :: q) (.st y.1)
           rw [p1,p2,h1]
          ·simp only [aI,hcg]
           exact h2
         ·have e1:=vT n m hmn hcp
          have hs2:(aI (.fu m :: q) (.st y.1) y.2).isSome=true:=hs
          simp only [aI,e1] at hs2
          cases hg2:aC m c x with
          | none=>rw [hg2] at hs2; simp at hs2
          | some s2=>
           refine ⟨?_, ?_⟩
           ·show aa (.fu m :: q) (.st c)=aa (.fu m :: q) (.st y.1)
            simp only [aa,bP m hg2,bP m (e1.trans hg2)]
           ·simp only [aI,hg2]
            rw [hg2] at hs2
            exact hs2
   | _=>simp [aI] at hg
  | idx i=>
   cases k with
   | sl e k=>
    simp only [dL] at hz
    cases hs':dL p k ((show List (El k) from x).getD i.toNat k.zero) t with
    | none=>rw [hs'] at hz; simp at hz
    | some u=>
     rw [hs'] at hz
     simp only at hz
     cases hck:bL u.1 k u.2 with
     | none=>rw [hck] at hz; simp at hz
     | some y=>
      rw [hck] at hz
      simp only [abr] at hz
      subst hz
      exact ⟨rfl,by rw [lK q (y:=((show List (El k) from x).set i.toNat y))]; exact hs⟩
   | _=>simp [dL] at hz
theorem mZ:∀k:K,k.hole.size=k.size:=by
 intro k
 induction k with
 | pair a b iha ihb=>simp [K.hole,K.size,iha,ihb]
 | st f ih=>simp [K.hole,K.size,ih]
 | _=>rfl
theorem MZ {h:Heap} {own:List TypeId} {ok:Nat→Prop}:∀{k:K} {x:El k} {cs:List Value} {fo:List Nat},Ow h own ok k x cs fo→Ow h own ok k.hole (nK k x) cs []:=by
 intro k
 induction k with
 | int ik=>intro x cs fo H; exact ⟨rfl,H.2⟩
 | bool=>intro x cs fo H; exact ⟨rfl,H.2⟩
 | id e=>intro x cs fo H; exact ⟨rfl,H.2⟩
 | str=>intro x cs fo H; exact ⟨rfl,H.2⟩
 | sl e k ih=>intro x cs fo H; exact ⟨rfl,cz H⟩
 | unit=>intro x cs fo H; exact ⟨rfl,H.2⟩
 | pair a b iha ihb=>intro x cs fo H; obtain ⟨c1,c2,f1,f2,e,hp,h1,h2⟩:=H; exact ⟨c1,c2,[],[],e, .refl _,iha h1,ihb h2⟩
 | st f ih=>intro x cs fo H; exact ih (x:=x) H
 | gap n=>intro x cs fo H; exact ⟨rfl,H.2⟩
theorem zh:∀(n:Nat) {c:K} {x:El c},aC n c.hole (nK c x)=(aC n c x).map mh:=by
 intro n
 induction n with
 | zero=>intro c x; cases c <;> rfl
 | succ n ih=>
  intro c x
  cases c with
  | pair a b=>simp only [K.hole,nK,aC]; exact ih
  | _=>rfl
theorem FO:∀(n:Nat) {c:K},aV n c.hole=(aV n c).map fun q=>(q.1,q.2.hole):=by
 intro n
 induction n with
 | zero=>intro c; cases c <;> rfl
 | succ n ih=>
  intro c
  cases c with
  | pair a b=>
   simp only [K.hole,aV]
   rw [ih (c:=b)]
   cases aV n b with
   | none=>rfl
   | some q=>simp [mZ]
  | _=>rfl
theorem zS {h:Heap}:∀(q:List Stp) {k:K} {x:El k},(aI q k.hole (nK k x)).isSome=true→
  aa q k=[]∧aa q k.hole=[]∧(aI q k x).isSome=true∧jM q k.hole (nK k x)∧∀cs wh,bn h q k.hole cs wh=bn h q k cs wh:=by
 intro q
 induction q with
 | nil=>intro k x _; exact ⟨by simp [aa],by simp [aa],rfl,trivial,fun _ _=>rfl⟩
 | cons s q ih=>
  intro k x hs
  cases s with
  | idx i=>cases k <;> simp [K.hole,aI] at hs
  | fu n=>
   cases k with
   | st c=>
    have e:aC n c.hole (nK c x)=(aC n c x).map mh:=zh n
    have hs':(aI (.fu n :: q) (.st c.hole) (nK c x)).isSome=true:=hs
    simp only [aI,e] at hs'
    cases hg:aC n c x with
    | none=>rw [hg] at hs'; simp at hs'
    | some s=>
     rw [hg] at hs' e
     simp only [Option.map_some,mh] at hs' e
     obtain ⟨h1,h2,h3,h4,h5⟩:=ih (k:=s.1) (x:=s.2) hs'
     refine ⟨by simp [aa,bP n hg,h1], ?_,by simp only [aI,hg]; exact h3, ?_,fun cs wh=>?_⟩
     ·show aa (.fu n :: q) (.st c.hole)=[]
      simp [aa,bP n e,h2]
     ·show jM (.fu n :: q) (.st c.hole) (nK c x)
      simp only [jM,e]
      exact h4
     ·show bn h (.fu n :: q) (.st c.hole) cs wh=_
      simp only [bn]
      rw [FO n]
      cases ho:aV n c with
      | none=>rfl
      | some w=>
       simp only [Option.map_some]
       have hk:w.2=s.1:=by
        have key:∀(n:Nat) {c:K} {x:El c} {s:Dat} {q:Nat×K},aC n c x=some s→aV n c=some q→q.2=s.1:=by
         intro n
         induction n with
         | zero=>intro c x s q h1 h2; cases c with
          | pair a b=>simp only [aC,aV,abr] at h1 h2; subst h1; subst h2; rfl
          | _=>simp [aC] at h1
         | succ n ih=>intro c x s q h1 h2; cases c with
          | pair a b=>
           simp only [aC,aV] at h1 h2
           cases h3:aV n b with
           | none=>rw [h3] at h2; simp at h2
           | some q3=>rw [h3] at h2; simp only [abr] at h2; subst h2; exact ih (q:=q3) h1 h3
          | _=>simp [aC] at h1
        exact key n (c:=c) hg ho
       obtain ⟨w1,w2⟩:=w
       simp only at hk
       subst hk
       simp only [mZ]
       exact h5 _ _
   | _=>simp [K.hole,aI] at hs
theorem Jp:∀(q:List Stp) {k:K} {x y:El k},aa q k=[]→(aI q k x).isSome=true→aa q k.hole=[]∧(aI q k.hole (nK k y)).isSome=true:=by
 intro q
 induction q with
 | nil=>intro k x y _ _; exact ⟨by simp [aa],rfl⟩
 | cons s q ih=>
  intro k x y h0 hs
  cases s with
  | idx i=>cases k <;> simp [aa,aI] at h0 hs
  | fu n=>
   cases k with
   | st c=>
    simp only [aI] at hs
    cases hg:aC n c x with
    | none=>rw [hg] at hs; simp at hs
    | some s=>
     rw [hg] at hs
     simp only at hs
     have hp2:aa (.fu n :: q) (.st c)=aa q s.1:=by simp [aa,bP n hg]
     rw [hp2] at h0
     have key:∀(n:Nat) {c:K} {x y:El c} {s:Dat},aC n c x=some s→∃t:Dat,aC n c y=some t∧t.1=s.1:=by
      intro n
      induction n with
      | zero=>intro c x y s h; cases c <;> first | (simp only [aC,abr] at h; subst h; exact ⟨_,rfl,rfl⟩) | simp [aC] at h
      | succ n ih=>intro c x y s h; cases c <;> first | exact ih h | simp [aC] at h
     obtain ⟨t,g1,g2⟩:=key n (c:=c) (y:=y) hg
     obtain ⟨sk,sx⟩:=s
     obtain ⟨tk,ty⟩:=t
     simp only at g2
     subst g2
     obtain ⟨h1,h2⟩:=ih (y:=ty) h0 hs
     have e:aC n c.hole (nK c y)=some (mh ⟨tk,ty⟩):=by rw [zh n,g1]; rfl
     refine ⟨?_, ?_⟩
     ·show aa (.fu n :: q) (.st c.hole)=[]
      simp [aa,bP n e,mh,h1]
     ·show (aI (.fu n :: q) (.st c.hole) (nK c y)).isSome=true
      simp only [aI,e]
      exact h2
   | _=>simp [aI] at hs
theorem GU {own:List TypeId}:∀k:K,aK own k.hole=[]:=by
 intro k
 induction k with
 | pair a b iha ihb=>simp [K.hole,aK,iha,ihb]
 | st f ih=>exact ih
 | _=>rfl
theorem cells_eq {h:Heap} {b o:Nat} {cs cs':List Value} (h1:Cells h b o cs) (h2:Cells h b o cs') (hl:cs'.length=cs.length):cs'=cs:=by
 apply List.ext_getElem? 
 intro i
 by_cases hi:i<cs.length
 ·rw [←h1 i hi, ←h2 i (by omega)]
 ·rw [List.getElem?_eq_none (by omega),List.getElem?_eq_none (by omega)]
theorem xD:∀(p:List Stp) {k:K} {x:El k} {t d z:Dat},aI p k x=some d→t.1.size=d.1.size→dL p k x t=some z→z.1.size=k.size:=by
 intro p
 induction p with
 | nil=>
  intro k x t d z hg hs hz
  simp only [aI,dL,abr] at hg hz
  subst hg; subst hz; exact hs
 | cons s p ih=>
  intro k x t d z hg hs hz
  cases s with
  | fu n=>
   cases k with
   | st c=>
    simp only [aI,dL] at hg hz
    cases hcg:aC n c x with
    | none=>rw [hcg] at hg; simp at hg
    | some s=>
     rw [hcg] at hg hz
     simp only at hg hz
     cases hs':dL p s.1 s.2 t with
     | none=>rw [hs'] at hz; simp at hz
     | some u=>
      rw [hs'] at hz
      simp only at hz
      cases hcp:bT n c x u with
      | none=>rw [hcp] at hz; simp at hz
      | some y=>
       rw [hcp] at hz
       simp only [abr] at hz
       subst hz
       have hu:=ih hg hs hs'
       have key:∀(n:Nat) {c:K} {x:El c} {s u y:Dat},aC n c x=some s→bT n c x u=some y→u.1.size=s.1.size→y.1.size=c.size:=by
        intro n
        induction n with
        | zero=>
         intro c x s u y h1 h2 e
         cases c with
         | pair a b=>simp only [aC,bT,abr] at h1 h2; subst h1; subst h2; simp only at e; simp [K.size,e]
         | _=>simp [aC] at h1
        | succ n ih=>
         intro c x s u y h1 h2 e
         cases c with
         | pair a b=>
          simp only [aC,bT] at h1 h2
          cases h3:bT n b x.2 u with
          | none=>rw [h3] at h2; simp at h2
          | some y2=>rw [h3] at h2; simp only [abr] at h2; subst h2; simp [K.size,ih h1 h3 e]
         | _=>simp [aC] at h1
       show y.1.size=c.size
       exact key n (c:=c) hcg hcp hu
   | _=>simp [aI] at hg
  | idx i=>
   cases k with
   | sl e k=>
    simp only [dL] at hz
    cases hs':dL p k ((show List (El k) from x).getD i.toNat k.zero) t with
    | none=>rw [hs'] at hz; simp at hz
    | some u=>
     rw [hs'] at hz
     simp only at hz
     cases hck:bL u.1 k u.2 with
     | none=>rw [hck] at hz; simp at hz
     | some y=>rw [hck] at hz; simp only [abr] at hz; subst hz; rfl
   | _=>simp [aI] at hg
theorem oL {R R':Root} (h:R'.kind=R.kind) (loc:Nat×Nat):pX R' loc=pX R loc:=by unfold pX; rw [h]
theorem kg {R R':Root} (h:R'.kind=R.kind) (loc:Nat×Nat) (fo:List Nat):gJ R' loc fo=gJ R loc fo:=by unfold gJ; rw [h]
theorem DK (R:Root) (loc:Nat×Nat) (fo:List Nat):gJ R loc fo=(match pX R loc with
 | some q=>[q.1]
 | none=>[])++fo:=by unfold gJ pX; cases R.kind <;> rfl
theorem dX {R:Root} {loc:Nat×Nat} {fo:List Nat} {b:Nat}:b∈gJ R loc fo↔(∃o,pX R loc=some (b,o))∨b∈fo:=by
 rw [DK]
 cases h:pX R loc with
 | none=>simp
 | some q=>obtain ⟨b0,o0⟩:=q; simp; constructor <;> (intro h; rcases h with h | h <;> simp_all)
theorem jO {R:Root} {loc:Nat×Nat} {fo:List Nat}:(gJ R loc fo).Nodup↔(∀b o,pX R loc=some (b,o)→b∉fo)∧fo.Nodup:=by
 rw [DK]
 cases h:pX R loc with
 | none=>simp
 | some q=>obtain ⟨b0,o0⟩:=q; simp [abZ]
theorem Jy {R R':Root} (h:R'.kind=R.kind):R'.aT=R.aT:=by unfold Root.aT; rw [h]
theorem Hr {k k':K} {v:Value} {cs:List Value} (h:nM k'=nM k):VC k' v cs↔VC k v cs:=by
 cases k <;> cases k' <;> first | exact Iff.rfl | simp [nM] at h
theorem BX {p:List Stp} {k:K} {x:El k} {t z:Dat} (hp:p≠[]) (hz:dL p k x t=some z):nM z.1=nM k:=by
 cases p with
 | nil=>exact absurd rfl hp
 | cons s p=>
  cases s with
  | fu n=>
   cases k with
   | st c=>
    simp only [dL] at hz
    cases hcg:aC n c x with
    | none=>rw [hcg] at hz; simp at hz
    | some s=>
     rw [hcg] at hz
     simp only at hz
     cases hs':dL p s.1 s.2 t with
     | none=>rw [hs'] at hz; simp at hz
     | some u=>
      rw [hs'] at hz
      simp only at hz
      cases hcp:bT n c x u with
      | none=>rw [hcp] at hz; simp at hz
      | some y=>rw [hcp] at hz; simp only [abr] at hz; subst hz; rfl
   | _=>simp [dL] at hz
  | idx i=>
   cases k with
   | sl e k=>
    simp only [dL] at hz
    cases hs':dL p k ((show List (El k) from x).getD i.toNat k.zero) t with
    | none=>rw [hs'] at hz; simp at hz
    | some u=>
     rw [hs'] at hz
     simp only at hz
     cases hck:bL u.1 k u.2 with
     | none=>rw [hck] at hz; simp at hz
     | some y=>rw [hck] at hz; simp only [abr] at hz; subst hz; rfl
   | _=>simp [dL] at hz
theorem Jj (k:K):k.tys≠[]∨mY k++k.tys≠[]:=by
 unfold mY
 cases k.tys with
 | nil=>exact .inr (by simp)
 | cons a l=>exact .inl (by simp)
def dQ (R:Root) (d:Dat) (z:Dat):Root:={ R with k:=z.1,x:=z.2,w:=d.1.tys++R.w,h:=mY d.1++d.1.tys++R.h }
def dR (R:Root) (d:Dat) (z:Dat) (own':List TypeId):Root:={ dQ R d z with own:=own' }
theorem kD:∀(q:List Stp) {k:K},∀t∈aa q k,t∈k.tys:=by
 intro q
 induction q with
 | nil=>intro k t ht; simp [aa] at ht
 | cons s q ih=>
  intro k t ht
  cases s with
  | fu n=>
   cases k with
   | st c=>
    simp only [aa] at ht
    cases hc:aa.yl n c with
    | none=>rw [hc] at ht; simp at ht
    | some k'=>
     rw [hc] at ht
     have h1:=ih t ht
     have:∀(n:Nat) {c k':K},aa.yl n c=some k'→∀t∈k'.tys,t∈c.tys:=by
      intro n
      induction n with
      | zero=>
       intro c k' h t ht
       cases c with
       | pair a b=>simp only [aa.yl,abr] at h; subst h; simp [K.tys,ht]
       | _=>simp [aa.yl] at h
      | succ n ih=>
       intro c k' h t ht
       cases c with
       | pair a b=>simp only [aa.yl] at h; simp [K.tys,ih h t ht]
       | _=>simp [aa.yl] at h
     exact this n hc t h1
   | _=>simp [aa] at ht
  | idx i=>
   cases k with
   | sl e k=>
    simp only [aa,abE] at ht
    rcases ht with h | h
    ·simp [K.tys,h]
    ·simp [K.tys,ih t h]
   | _=>simp [aa] at ht
theorem TP {own':List TypeId} (H:Rel cx σ α F a w) (hr:aM σ r R) (hv:bg σ R) {p:List Stp} {d z:Dat} (hg:aI p R.k R.x=some d) (hz:dL p R.k R.x (mh d)=some z) (eZ:jM p R.k R.x)
  (hown:∀t∈aa p R.k,aA t R.own=true) (hpv:p≠[]∨∃t,R.kind=.var t) (hso:∀t∈z.1.tys,aA t own'=aA t R.own) :
  ∃cs1 jS eX rest,bn (hp w) p R.k (α.hdr r) (dY α R r)=some (cs1,jS)∧
   Rel cx (ak σ r (dR R d z own')) (aB α r (α.loc r) (α.hdr r) rest) (eX++F) a w∧
   jN cx σ α F w (ak σ r (dR R d z own')) (aB α r (α.loc r) (α.hdr r) rest) (eX++F) w (ni r d.1.tys) (ni r (mY d.1++d.1.tys))∧
   Held cx (ak σ r (dR R d z own')) (aB α r (α.loc r) (α.hdr r) rest) (eX++F) w d.1 d.2 R.own R.tags cs1 eX∧(∀tys,aU (ak σ r (dR R d z own')) tys R.tags=aU σ tys R.tags)∧(α.fo r).Perm (eX++rest):=by
 have K:=H.roots r R hr
 have hnd:=K.nd
 rw [bO,jO] at hnd
 have hO:=K.ow hv
 obtain ⟨cs1,eX,rest,jS,hn,hp1,hd1,hc1,hin,hnone,hup⟩:=focus p hO (fun b o e=>(K.mem b o e).1) hg eZ hown hnd.2 (fun b o e=>hnd.1 b o e)
 have hnt:=(H.cB r R hr.1).2.2
 have hl1:=cz hd1
 obtain ⟨cs',hl',A8,hC',hN',hK'⟩:=hup.go (hp w) (gy cx σ α F w R.tags) (mh d) cs1 [] z hz hl1 (MZ hd1) (fun b hb=>⟨hb,rfl⟩) (fun _ _ _=>rfl)
  (fun b o e=>⟨hc1 b o e,by
   have:∃arr te fr,hp w b=some (.cells arr te fr):=by
    rcases hin b o e with ⟨_,o0,ew,_⟩ | ⟨_,arr,te,lo,hi,h1,_⟩
    ·obtain ⟨_,arr,te,lo,hi,h1,_⟩:=K.mem b o0 ew; exact ⟨arr,te,_,h1⟩
    ·exact ⟨arr,te,_,h1⟩
   obtain ⟨arr,te,fr,h1⟩:=this
   exact fJ.of_same _ _ h1 rfl⟩) (fun _=>rfl) (fun _ _ _ _=>rfl)
 have hcs:cs'=α.hdr r:=by
  cases hw:dY α R r with
  | none=>exact hN' hw
  | some q=>exact cells_eq (K.mem q.1 q.2 hw).1 (hC' q.1 q.2 hw) hl'
 rw [hcs,List.nil_append] at A8
 replace A8:=lZ hso A8
 obtain ⟨_,_,Y9,_⟩:=hK' d.1.tys (mZ d.1) (fun q c0 w0 hq _ hn0 hs=>by
  obtain ⟨_,_,_,h3,h4⟩:=zS (h:=hp w) q (x:=d.2) hs
  exact ⟨h3,c0,by rw [←hn0]; exact h4 cs1 jS⟩)
 rw [hcs] at Y9
 have hkind:(dR R d z own').kind=R.kind:=rfl
 have Uh:(dR R d z own').aT=false:=hr.2
 have BG:∀b,b∈α.fo r↔b∈eX∨b∈rest:=fun b=>by rw [hp1.mem_iff,abB]
 have Eh:=hp1.nodup hnd.2
 have hsz:z.1.size=R.k.size:=xD p (t:=mh d) hg (mZ d.1) hz
 have T1:sQ cx σ α F w r R (dR R d z own') rest (eX++F) w d.1.tys (mY d.1++d.1.tys):=by
  refine ⟨.inr ⟨rfl,rfl,abI _,rfl,fun _=>hsz,Jj d.1⟩,⟨(H.cB r R hr.1).1,hnt⟩,⟨rfl,rfl,rfl⟩,abI _,fun b _ h=>absurd rfl h, ?_, ?_, ?_, ?_,fun _ _ _ _ _ _ _ _ h=>absurd rfl h,fun _=>⟨rfl,rfl⟩⟩
  ·intro _ b hb
   rw [kg hkind,dX] at hb
   refine .inl ?_
   rw [bO,dX,BG]
   exact hb.imp id .inr
  ·intro b hb
   rcases abB.1 hb with h | h
   ·refine .inr (.inr ⟨by rw [bO,dX,BG]; exact .inr (.inl h), .inr (.inl ?_)⟩)
    obtain ⟨e,h1,_,h2⟩:=oQ hd1 b h
    exact ⟨e,h1,h2⟩
   ·exact .inl h
  ·refine abz.2 ⟨(abz.1 Eh).1,H.rZ,fun b h1 c h2 e=>H.gQ r R hr b ?_ (e▸h2)⟩
   rw [bO,dX,BG]
   exact .inr (.inl h1)
  ·intro _ b hb hF
   rw [kg hkind,dX] at hb
   rcases abB.1 hF with h | h
   ·rcases hb with ⟨o,hb⟩ | hb
    ·exact hnd.1 b o hb ((BG b).2 (.inl h))
    ·exact (abz.1 Eh).2.2 b h b hb rfl
   ·refine H.gQ r R hr b ?_ h
    rw [bO,dX,BG]
    exact hb.imp id .inr
 have hT:=T1.turn (hdr':=α.hdr r) H hr
 have zO:∀tys,aU (ak σ r (dR R d z own')) tys R.tags=aU σ tys R.tags:=fun tys=>jG hnt
 refine ⟨cs1,jS,eX,rest,hn,T1.rel H hr ?_ ?_ ?_,hT, ?_,zO,hp1⟩
 ·intro _
  refine ⟨fun hv'=>?_,by rw [K.len]; exact hsz.symm, ?_, ?_⟩
  ·obtain ⟨h1,h2,_⟩:=hT.views H R.tags _ (H.cB r R hr.1).1 hv'.2
   exact aY (fun b hb=>(h2 b hb.1 (.inl hb.2)).2) (fun b hb=>(h2 b hb.1 (.inl hb.2)).1) (fun _ _=>rfl) (mQ _ (fun _ h=>h) A8)
  ·intro b o hb
   have:(dR R d z own').k.size=R.k.size:=hsz
   rw [this]
   exact K.mem b o hb
  ·rw [kg hkind,jO]
   exact ⟨fun b o e hb=>hnd.1 b o e ((BG b).2 (.inr hb)),(abz.1 Eh).2.1⟩
 ·intro _ q n v hn' hold
  refine ⟨hold.1, ?_⟩
  intro Q hQ NM hcl hty hsome
  have hQ':Q=dR R d z own':=by
   rw [aF] at hQ
   simpa using hQ.symm
  subst hQ'
  have Lt:dY (aB α r (α.loc r) (α.hdr r) rest) (dR R d z own') r=dY α R r:=by rw [iG,oL hkind, ←nP]
  have Gg:(aB α r (α.loc r) (α.hdr r) rest).hdr r=α.hdr r:=by simp [aB,upd_same]
  have hh:(dR R d z own').h=(mY d.1++d.1.tys)++R.h:=rfl
  rw [hh,kH hn'] at hcl
  by_cases hq:q=[]
  case neg=>
   have hpt:∀k,fI q k=mI :: aa q k:=by
    intro k
    cases q with
    | nil=>exact absurd rfl hq
    | cons s q=>rfl
   rw [hpt] at hcl
   obtain ⟨k1,k2⟩:=Ca (bad:=d.1.tys) p q hg hz (fun q' h _=>let ⟨h1,h2,h3,_⟩:=zS (h:=hp w) q' (x:=d.2) h; ⟨h1.trans h2.symm,h3⟩) hsome (fun e he hm=>hcl.1 e (abu _ hm) (abQ _ he))
   have k1':aa q R.k=aa q (dR R d z own').k:=k1
   have hty':∀t∈aa q R.k,aA t R.own=true:=fun t ht=>by
    have ht':t∈aa q z.1:=k1▸ht
    rw [←hso t (kD q t ht')]
    exact hty t ht'
   rw [←k1'] at hcl
   obtain ⟨g1,cs,b,o,g2,g3⟩:=hold.2 R hr.1 hv (by rw [hpt]; exact hcl.2) hty' k2
   obtain ⟨f1,c1,f2⟩:=Y9 q cs (some (b,o)) g1 (fun t ht=>⟨hty' t ht,fun hm=>hcl.1 t (abu _ hm) (abQ _ ht)⟩) g2 hsome
   rw [Lt,Gg]
   exact ⟨f1,c1,b,o,f2,g3⟩
  subst hq
  obtain ⟨_,cs,b,o,h1,h2⟩:=hold.2 R hr.1 hv (by simp [clean,fI,aA]) (fun t ht=>by simp [aa] at ht) rfl
  simp only [bn,abr,abD] at h1
  refine ⟨trivial,(aB α r (α.loc r) (α.hdr r) rest).hdr r,b,o, ?_,h2⟩
  simp only [bn]
  rw [iG,oL hkind, ←nP,h1.2]
 ·intro _ g v hg' hold Q hQ Vv
  obtain ⟨hQ',_⟩:=dU hQ
  subst hQ'
  obtain ⟨h1,h2⟩:=hold R hr Vv
  refine ⟨h1, ?_⟩
  have:(aB α r (α.loc r) (α.hdr r) rest).hdr r=α.hdr r:=by simp [aB,upd_same]
  rw [this]
  rcases hpv with hp | ⟨t,ht⟩
  ·
   cases p with
   | nil=>exact absurd rfl hp
   | cons s p=>
    exact (Hr (BX (by simp) hz)).2 h2
  ·rw [ht] at h1; simp at h1
 ·refine ⟨fun hc=>?_,fun t ht=>hT.tag ((H.cB r R hr.1).1 t ht),fun b hb=>abx _ hb,(abz.1 Eh).1,hl1⟩
  obtain ⟨h1,h2,_⟩:=hT.views H R.tags _ (H.cB r R hr.1).1 hc
  exact aY (fun b hb=>(h2 b hb.1 (.inl hb.2)).2) (fun b hb=>(h2 b hb.1 (.inl hb.2)).1) (fun _ _=>rfl) (mQ _ (fun _ h=>h) hd1)
theorem gap (H:Rel cx σ α F a w) (hr:aM σ r R) (hv:bg σ R) {p:List Stp} {d z:Dat} (hg:aI p R.k R.x=some d) (hz:dL p R.k R.x (mh d)=some z) (eZ:jM p R.k R.x)
  (hown:∀t∈aa p R.k,aA t R.own=true) (hpv:p≠[]∨∃t,R.kind=.var t) :
  ∃cs1 jS eX rest,bn (hp w) p R.k (α.hdr r) (dY α R r)=some (cs1,jS)∧
   Rel cx (ak σ r (dQ R d z)) (aB α r (α.loc r) (α.hdr r) rest) (eX++F) a w∧
   jN cx σ α F w (ak σ r (dQ R d z)) (aB α r (α.loc r) (α.hdr r) rest) (eX++F) w (ni r d.1.tys) (ni r (mY d.1++d.1.tys))∧
   Held cx (ak σ r (dQ R d z)) (aB α r (α.loc r) (α.hdr r) rest) (eX++F) w d.1 d.2 R.own R.tags cs1 eX∧(∀tys,aU (ak σ r (dQ R d z)) tys R.tags=aU σ tys R.tags)∧(α.fo r).Perm (eX++rest):=
 TP (own':=R.own) H hr hv hg hz eZ hown hpv (fun _ _=>rfl)
end
end
section
open Go
variable [Fr]
theorem GR {own own':List TypeId}:∀{k:K},(∀t∈k.tys,aA t own'=true→aA t own=true)→∀t∈aK own k,t∈aK own' k:=by
 intro k
 induction k with
 | sl e k ih=>
  intro h t ht
  cases hm':aA e own' with
  | true=>
   have hm:=h e (by simp [K.tys]) hm'
   simp only [aK,hm,cond_true] at ht
   simp only [aK,hm',cond_true]
   exact ih (fun t ht=>h t (by simp [K.tys,ht])) t ht
  | false=>
   have:=xE ht
   simpa [aK,hm',K.tys] using this
 | pair a b iha ihb=>
  intro h t ht
  simp only [aK,abB] at ht ⊢
  exact ht.imp (iha (fun t ht=>h t (by simp [K.tys,ht])) t) (ihb (fun t ht=>h t (by simp [K.tys,ht])) t)
 | st f ih=>intro h t ht; exact ih h t ht
 | _=>intro _ t ht; simp [aK] at ht
theorem FQ {own:List TypeId}:∀(n:Nat) {c:K} {x:El c} {s u y:Dat},aC n c x=some s→bT n c x u=some y→
  (∀e∈aK own u.1,e∈aK own y.1)∧((∀e∈aK own s.1,e∈aK own u.1)→∀e∈aK own c,e∈aK own y.1):=by
 intro n
 induction n with
 | zero=>
  intro c x s u y hg hp
  cases c with
  | pair a b=>
   simp only [aC,bT,abr] at hg hp
   subst hg; subst hp
   refine ⟨fun e he=>by simp [aK,he],fun h e he=>?_⟩
   simp only [aK,abB] at he ⊢
   exact he.imp (h e) id
  | _=>simp [aC] at hg
 | succ n ih=>
  intro c x s u y hg hp
  cases c with
  | pair a b=>
   simp only [aC,bT] at hg hp
   cases h3:bT n b x.2 u with
   | none=>rw [h3] at hp; simp at hp
   | some y2=>
    rw [h3] at hp
    simp only [abr] at hp
    subst hp
    obtain ⟨g1,g2⟩:=ih hg h3
    refine ⟨fun e he=>by simp [aK,g1 e he],fun h e he=>?_⟩
    simp only [aK,abB] at he ⊢
    exact he.imp id (g2 h e)
  | _=>simp [aC] at hg
theorem Ce {own:List TypeId}:∀(p:List Stp) {k:K} {x:El k} {d t z:Dat},aI p k x=some d→dL p k x t=some z→
  (∀e∈aK own t.1,e∈aK own z.1∨∃q∈aa p k,aA q own=false)∧((∀e∈aK own d.1,e∈aK own t.1)→∀e∈aK own k,e∈aK own z.1):=by
 intro p
 induction p with
 | nil=>
  intro k x d t z hg hz
  simp only [aI,dL,abr] at hg hz
  subst hg; subst hz
  exact ⟨fun e he=>.inl he,fun h=>h⟩
 | cons s p ih=>
  intro k x d t z hg hz
  cases s with
  | fu n=>
   cases k with
   | st c=>
    simp only [aI,dL] at hg hz
    cases hcg:aC n c x with
    | none=>rw [hcg] at hg; simp at hg
    | some s=>
     rw [hcg] at hg hz
     simp only at hg hz
     cases hs':dL p s.1 s.2 t with
     | none=>rw [hs'] at hz; simp at hz
     | some u=>
      rw [hs'] at hz
      simp only at hz
      cases hcp:bT n c x u with
      | none=>rw [hcp] at hz; simp at hz
      | some y=>
       rw [hcp] at hz
       simp only [abr] at hz
       subst hz
       obtain ⟨g1,g2⟩:=ih hg hs'
       obtain ⟨f1,f2⟩:=FQ (own:=own) n hcg hcp
       have hpt:aa (.fu n :: p) (.st c)=aa p s.1:=by simp [aa,bP n hcg]
       rw [hpt]
       exact ⟨fun e he=>(g1 e he).imp (f1 e) id,fun h=>f2 (g2 h)⟩
   | _=>simp [aI] at hg
  | idx i=>
   cases k with
   | sl e k=>
    simp only [aI,dL] at hg hz
    cases hs':dL p k ((show List (El k) from x).getD i.toNat k.zero) t with
    | none=>rw [hs'] at hz; simp at hz
    | some u=>
     rw [hs'] at hz
     simp only at hz
     cases hck:bL u.1 k u.2 with
     | none=>rw [hck] at hz; simp at hz
     | some y=>
      rw [hck] at hz
      simp only [abr] at hz
      subst hz
      obtain ⟨g1,g2⟩:=ih hg hs'
      have huk:u.1=k:=by
       unfold bL at hck
       split at hck
       ·rename_i hb; exact K.eq_of_beq hb
       ·simp at hck
      refine ⟨fun e' he=>?_,fun _ e' he=>he⟩
      cases hm:aA e own with
      | false=>exact .inr ⟨e,by simp [aa],hm⟩
      | true=>
       rcases g1 e' he with h | ⟨q,h1,h2⟩
       ·exact .inl (by simp only [aK,hm,cond_true]; rw [←huk]; exact h)
       ·exact .inr ⟨q,by simp [aa,h1],h2⟩
   | _=>simp [aI] at hg
theorem DR:∀(n:Nat) {c:K} {x y:El c} {s:Dat},aC n c x=some s→∃t:Dat,aC n c y=some t∧t.1=s.1:=by
 intro n
 induction n with
 | zero=>
  intro c x y s h
  cases c <;> first | (simp only [aC,abr] at h; subst h; exact ⟨_,rfl,rfl⟩) | simp [aC] at h
 | succ n ih=>
  intro c x y s h
  cases c <;> first | exact ih h | simp [aC] at h
theorem I1:∀(n:Nat) {c:K} {x:El c} {s:Dat},aC n c x=some s→∀t∈s.1.tys,t∈c.tys:=by
 intro n
 induction n with
 | zero=>
  intro c x s h t ht
  cases c with
  | pair a b=>simp only [aC,abr] at h; subst h; simp [K.tys,ht]
  | _=>simp [aC] at h
 | succ n ih=>
  intro c x s h t ht
  cases c with
  | pair a b=>simp only [aC] at h; simp [K.tys,ih h t ht]
  | _=>simp [aC] at h
theorem oz {h h':Heap} {own:List TypeId}:∀(q:List Stp) {k:K} {x y:El k} {cs cs':List Value} {wh:Option (Nat×Nat)} {c0:List Value} {w0:Option (Nat×Nat)},
  jM q k x→(∀t∈aa q k,aA t own=true∧t∉k.tys)→bn h q k cs wh=some (c0,w0)→jM q k y∧∃c1,bn h' q k cs' wh=some (c1,w0):=by
 intro q
 induction q with
 | nil=>
  intro k x y cs cs' wh c0 w0 _ _ hn
  simp only [bn,abr,abD] at hn ⊢
  exact ⟨trivial,_,rfl,hn.2⟩
 | cons s q ih=>
  intro k x y cs cs' wh c0 w0 hp ht hn
  cases s with
  | fu n=>
   cases k with
   | st c=>
    simp only [jM] at hp
    cases hg:aC n c x with
    | none=>rw [hg] at hp; exact hp.elim
    | some s=>
     rw [hg] at hp
     simp only at hp
     have hpt:aa (.fu n :: q) (.st c)=aa q s.1:=by simp [aa,bP n hg]
     rw [hpt] at ht
     obtain ⟨t,g1,g2⟩:=DR n (c:=c) (x:=x) (y:=y) hg
     obtain ⟨sk,sx⟩:=s
     obtain ⟨tk,ty⟩:=t
     simp only at g2
     subst g2
     simp only [bn] at hn ⊢
     cases ho:aV n c with
     | none=>rw [ho] at hn; simp at hn
     | some q2=>
      rw [ho] at hn
      simp only at hn
      have hk2:q2.2=tk:=by
       have key:∀(n:Nat) {c:K} {x:El c} {s:Dat} {q:Nat×K},aC n c x=some s→aV n c=some q→q.2=s.1:=by
        intro n
        induction n with
        | zero=>intro c x s q h1 h2; cases c with
         | pair a b=>simp only [aC,aV,abr] at h1 h2; subst h1; subst h2; rfl
         | _=>simp [aC] at h1
        | succ n ih=>intro c x s q h1 h2; cases c with
         | pair a b=>
          simp only [aC,aV] at h1 h2
          cases h3:aV n b with
          | none=>rw [h3] at h2; simp at h2
          | some q3=>rw [h3] at h2; simp only [abr] at h2; subst h2; exact ih (q:=q3) h1 h3
         | _=>simp [aC] at h1
       exact key n hg ho
      obtain ⟨o2,k2⟩:=q2
      simp only at hk2
      subst hk2
      simp only [jM,g1]
      exact ih hp (fun t h=>⟨(ht t h).1,fun h2=>(ht t h).2 (I1 n hg t h2)⟩) hn
   | _=>simp [jM] at hp
  | idx i=>
   cases k with
   | sl e k=>exact absurd (by simp [K.tys]) (ht e (by simp [aa])).2
   | _=>simp [jM] at hp
theorem wS {h:Heap} {b o n:Nat} {arr:Array Value} {e:TypeId} {fr:Nat×Nat} (hb:h b=some (.cells arr e fr)) (hl:o+n≤arr.size):Cells h b o (kW h b o n):=by
 intro i hi
 simp only [kW,List.length_map,List.length_range] at hi ⊢
 rw [List.getElem?_map,List.getElem?_range hi]
 simp only [Option.map_some]
 unfold cellAt
 rw [hb]
 simp [show o+i<arr.size by omega]
theorem fJ.widen {h0 h h':Heap} {b o n o' n':Nat} (H0:fJ h0 h b o n) (H:fJ h h' b o' n') (h1:o≤o') (h2:o'+n'≤o+n):fJ h0 h' b o n:=by
 obtain ⟨a0,a1,e,fr,g1,g2,g3,g4⟩:=H0
 obtain ⟨b0,b1,e',fr',f1,f2,f3,f4⟩:=H
 rw [g2] at f1
 simp only [abr,Obj.cells.injEq] at f1
 obtain ⟨rfl,rfl,rfl⟩:=f1
 exact ⟨a0,b1,e,fr,g1,f2,f3.trans g3,fun i hi=>(f4 i (by omega)).trans (g4 i hi)⟩
theorem bX {l m:List Tag} {t:Tag}:t∈gH l m↔t∈l∨t∈m:=by
 induction l with
 | nil=>simp [gH]
 | cons s l ih=>
  obtain ⟨r,n⟩:=s
  simp only [gH]
  cases h:m.any fun t=>Nat.beq t.1 r && Nat.beq t.2 n with
  | true=>
   simp only [cond_true,ih,abE]
   constructor
   ·intro h; exact h.imp .inr id
   ·rintro ((h1 | h1) | h1)
    ·subst h1
     obtain ⟨t,h2,h3⟩:=List.any_eq_true.1 h
     simp only [aby] at h3
     obtain ⟨tr,tn⟩:=t
     have:=abw h3.1
     have:=abw h3.2
     simp_all
    ·exact .inl h1
    ·exact .inr h1
  | false=>simp only [cond_false,ih,abE,or_assoc]
theorem kM {r:Nat} {l:List Tag} {t:Tag}:t∈qh r l↔t∈l∧t.1≠r:=by
 unfold qh
 rw [abJ]
 constructor
 ·rintro ⟨h1,h2⟩
  refine ⟨h1,fun e=>?_⟩
  rw [e] at h2
  simp at h2
 ·rintro ⟨h1,h2⟩
  refine ⟨h1, ?_⟩
  cases hb:Nat.beq t.1 r with
  | true=>exact absurd (abw hb) h2
  | false=>rfl
section
variable {cx:Cx} {σ:St} {α:dA} {F:List Nat} {a:Act} {w:World} {r:Nat} {R:Root}
theorem pE {T T':List Tag} {b:Nat} (h:gy cx σ α F w T b) (hs:∀t∈T,t∈T'):gy cx σ α F w T' b:=
 ⟨h.1,h.2.1,h.2.2.1,fun r R h1 h2=>by obtain ⟨n,hn⟩:=h.2.2.2.1 r R h1 h2; exact ⟨n,hs _ hn⟩,fun hb=>(h.2.2.2.2 hb).imp (fun ⟨j,n,h1,h2⟩=>⟨j,n,hs _ h1,h2⟩) id⟩
theorem lG {T T':List Tag} {tys Vk:List TypeId} (h:aU σ tys T=true) (hs:∀t∈T',t∈T) (ht:∀t∈Vk,t∈tys):aU σ Vk T'=true:=by
 rw [jF] at h ⊢
 intro t h1
 rcases h t (hs t h1) with h | ⟨R,h2,h3,h4⟩
 ·exact .inl h
 ·refine .inr ⟨R,h2,h3, ?_⟩
  unfold clean at h4 ⊢
  rw [abH] at h4 ⊢
  intro x hx
  have:=h4 x hx
  simp only [Bool.not_eq_true',aO] at this ⊢
  exact fun h=>this (ht x h)
theorem ko (H:Rel cx σ α F a w) (hr:aM σ r R) {b:Nat} (hb:b∈α.fo r):¬jq cx b:=by
 rintro ⟨j,pi,o,n,h1,h2⟩
 obtain ⟨Q,hQ,hk,hl,_⟩:=H.kP j pi b o n h1 h2
 have hbq:b∈blk α Q (aL j):=by simp [blk,dY,hk,hl]
 have hbr:b∈blk α R r:=abu _ hb
 by_cases e:r=aL j
 ·subst e
  have hQR:Q=R:=by have:=hQ.1; rw [hr.1] at this; simpa using this.symm
  subst hQR
  have hnd:=(H.roots _ _ hr).nd
  rw [bO,jO] at hnd
  exact hnd.1 b o (by simp [pX,hk,hl]) hb
 ·exact H.yI _ _ _ _ hr hQ e b hbr hbq
theorem mO (H:Rel cx σ α F a w) {b:Nat} (hb:b∈F):¬jq cx b:=by
 rintro ⟨j,pi,o,n,h1,h2⟩
 obtain ⟨Q,hQ,hk,hl,_⟩:=H.kP j pi b o n h1 h2
 have hbq:b∈blk α Q (aL j):=by simp [blk,dY,hk,hl]
 exact H.gQ _ _ hQ b hbq hb
def bq (R:Root) (z:Dat) (own:List TypeId) (tags:List Tag) (lw lh:List TypeId) (kp:Bool):Root:=
 { R with k:=z.1,x:=z.2,own:=own,tags:=tags,w:=lw++R.w,h:=lh++R.h,keep:=kp }
theorem kV (H:Rel cx σ α F a w) (hr:aM σ r R) (hv:bg σ R) {p:List Stp} {d:Dat} (hg:aI p R.k R.x=some d) (eZ:jM p R.k R.x) (hown:∀t∈aa p R.k,aA t R.own=true)
  {cs1:List Value} {b o:Nat} (hn:bn (hp w) p R.k (α.hdr r) (dY α R r)=some (cs1,some (b,o))) :
  Cells (hp w) b o cs1∧(∃eX,Ow (hp w) R.own (gy cx σ α F w R.tags) d.1 d.2 cs1 eX∧∀b∈eX,b∈α.fo r)∧b∈blk α R r∧(∃arr e lo hi,hp w b=some (.cells arr e (lo,hi))∧wQ arr.size lo hi∧o+d.1.size≤arr.size∧((dS R p=e∧¬jq cx b)∨(jq cx b∧dS R p=SENT)))∧
   (∀b' o',dY α R r=some (b',o')→b=b'→o'≤o∧o+d.1.size≤o'+R.k.size):=by
 have K:=H.roots r R hr
 have hnd:=K.nd
 rw [bO,jO] at hnd
 obtain ⟨kQ,eX,rest,jS,hn',hp1,hd1,hc1,hin,hnone,hup⟩:=focus p (K.ow hv) (fun b o e=>(K.mem b o e).1) hg eZ hown hnd.2 (fun b o e=>hnd.1 b o e)
 rw [hn] at hn'
 simp only [abr,abD] at hn'
 obtain ⟨rfl,rfl⟩:=hn'
 refine ⟨hc1 b o rfl,⟨eX,hd1,fun b hb=>hp1.mem_iff.2 (abx _ hb)⟩, ?_, ?_, ?_⟩
 ·rw [bO,dX]
  rcases hin b o rfl with ⟨_,o0,ew,_⟩ | ⟨h1,_⟩
  ·exact .inl ⟨o0,ew⟩
  ·exact .inr (hp1.mem_iff.2 (abu _ h1))
 ·rcases hin b o rfl with ⟨h0,o0,ew,h1,h2⟩ | ⟨h1,arr,e,lo,hi,h2,h3,h4,h5⟩
  ·obtain ⟨_,arr,e,lo,hi,g1,g2,g3,g4⟩:=K.mem b o0 ew
   refine ⟨arr,e,lo,hi,g1,g2,by omega, ?_⟩
   unfold dS
   rw [h0]
   simp only [List.getLastD_nil]
   unfold Root.bt
   cases hk:R.kind with
   | var t=>
    refine .inl ⟨(g4 t hk).symm, ?_⟩
    rintro ⟨j,pi,o',n',h1',h2'⟩
    obtain ⟨Q,hQ,Ym,hlQ,_⟩:=H.kP j pi b o' n' h1' h2'
    have hbq:b∈blk α Q (aL j):=by simp [blk,dY,Ym,hlQ]
    have hbr:b∈blk α R r:=by rw [bO,dX]; exact .inl ⟨o0,ew⟩
    by_cases e:r=aL j
    ·subst e
     have hQR:Q=R:=by have:=hQ.1; rw [hr.1] at this; simpa using this.symm
     subst hQR
     rw [hk] at Ym
     simp at Ym
    ·exact H.yI _ _ _ _ hr hQ e b hbr hbq
   | par=>
    obtain ⟨j,pi,n,hj1,hj2,Yl⟩:=H.yx r R hr hk
    have:(α.loc r).1=b:=by
     have:=ew
     unfold dY at this
     rw [hk] at this
     simp only [abr] at this
     rw [this]
    exact .inr ⟨⟨j,pi,_,n,hj2,by rw [Yl,this]⟩,rfl⟩
   | anon=>unfold dY at ew; rw [hk] at ew; simp at ew
   | dead=>unfold dY at ew; rw [hk] at ew; simp at ew
  ·refine ⟨arr,e,lo,hi,h2,h3,h5, .inl ⟨?_,ko H hr (hp1.mem_iff.2 (abu _ h1))⟩⟩
   unfold dS
   rw [List.getLastD_eq_getLast?,h4]
   rfl
 ·intro b' o' ew e
  subst e
  rcases hin b o rfl with ⟨_,o0,XD,h1,h2⟩ | ⟨h1,_⟩
  ·rw [ew] at XD
   simp only [abr,abD,true_and] at XD
   subst XD
   exact ⟨h1,h2⟩
  ·exact absurd (hp1.mem_iff.2 (abu _ h1)) (hnd.1 b o' ew)
end
end
section
open Go
variable [Fr]
section
variable {cx:Cx} {σ:St} {α:dA} {F:List Nat} {a:Act} {w:World} {r:Nat} {R:Root}
structure mR (cx:Cx) (σ:St) (α:dA) (F:List Nat) (w:World) (r:Nat) (R:Root) (p:List Stp) (d:Dat) (own':List TypeId) (cs1:List Value) (jS:Option (Nat×Nat)) (eX rest:List Nat)
  (t z:Dat) (tags':List Tag) (lw lh:List TypeId) (kp:Bool) (ft F':List Nat) (cs':List Value) (w':World):Prop where
 hz:dL p R.k R.x t=some z
 ht:t.1.size=d.1.size
 Js:∀e∈aK own' d.1,e∈aK own' t.1
 os:w'.os=w.os∧w'.tape=w.tape∧w'.output=w.output
 size:w.heap.size≤w'.heap.size
 Fp:∀b,b<w.heap.size→hp w' b≠hp w b→b∈F∨(b∈eX∧∃e∈lw,lH (hp w) b=some e)∨(∃o,jS=some (b,o)∧dS R p∈lw)
 cells:∀b o,jS=some (b,o)→Cells (hp w') b o cs'∧fJ (hp w) (hp w') b o d.1.size
 none:jS=none→cs'=cs1
 len:cs'.length=d.1.size
 log:lw≠[]∨lh≠[]
 tags:(∀t∈R.tags,t∈tags')∧dW σ tags'∧∀n,(r,n)∉tags'
 Ip:∀b∈ft,b∈eX∨b∈F∨(w.heap.size≤b∧b<w'.heap.size)
 XG:ft.Nodup
 newF:∀b∈F',b∈F∨(w.heap.size≤b∧b<w'.heap.size)∨(b∈eX∧∃e∈lw,lH (hp w) b=some e)
 VR:F'.Nodup
 XF:∀b∈ft,b∉F'
 YK:nM t.1=nM d.1∨jS≠Option.none
 XI:t.1=d.1∨(∀q',(aI q' t.1 t.2).isSome=true→(∀e∈aa q' t.1,e∉lh)→aa q' d.1=aa q' t.1∧(aI q' d.1 d.2).isSome=true)∨mI∈lh
 nav:mI∉lh→yE (hp w) (hp w') own' d.1 d.2 cs1 jS t cs' lh
 cont:∀α',jN cx σ α F w (ak σ r (bq R z own' tags' lw lh kp)) α' F' w' (ni r lw) (ni r lh)→(∀b∈blk α' (bq R z own' tags' lw lh kp) r,(∃o,dY α R r=some (b,o))∨b∈ft∨b∈rest)→
  bg (ak σ r (bq R z own' tags' lw lh kp)) (bq R z own' tags' lw lh kp)→Ow (hp w') own' (gy cx (ak σ r (bq R z own' tags' lw lh kp)) α' F' w' tags') t.1 t.2 cs' ft
theorem Rel.place (H:Rel cx σ α F a w) (hr:aM σ r R) (hv:bg σ R) {p:List Stp} {d:Dat} {own':List TypeId} (hg:aI p R.k R.x=some d) (eZ:jM p R.k R.x)
  (hsub:∀t,aA t own'=true→aA t R.own=true) (hown:∀t∈aa p R.k,aA t own'=true) :
  ∃fd ok' eX rest cs1 jS,bn (hp w) p R.k (α.hdr r) (dY α R r)=some (cs1,jS)∧(α.fo r).Perm (eX++rest++fd)∧Ow (hp w) own' ok' d.1 d.2 cs1 eX∧(∀b∈eX++rest,∃e∈R.k.tys,aA e own'=true∧lH (hp w) b=some e)∧
   ((∀t∈R.k.tys,aA t own'=aA t R.own)→fd=[]∧Ow (hp w) own' (gy cx σ α F w R.tags) d.1 d.2 cs1 eX)∧
   (∀b o,jS=some (b,o)→b∈rest∨∃o0,dY α R r=some (b,o0)∧o0≤o∧o+d.1.size≤o0+R.k.size)∧(∀b o,jS=some (b,o)→b∉eX)∧
   ∀{t z:Dat} {tags':List Tag} {lw lh:List TypeId} {kp:Bool} {ft F':List Nat} {cs':List Value} {w':World},mR cx σ α F w r R p d own' cs1 jS eX rest t z tags' lw lh kp ft F' cs' w'→
    ∃α',Rel cx (ak σ r (bq R z own' tags' lw lh kp)) α' F' a w'∧jN cx σ α F w (ak σ r (bq R z own' tags' lw lh kp)) α' F' w' (ni r lw) (ni r lh)∧(∀b∈blk α' (bq R z own' tags' lw lh kp) r,(∃o,dY α R r=some (b,o))∨b∈ft∨b∈rest)∧
     (mI∉lh→bg (ak σ r (bq R z own' tags' lw lh kp)) (bq R z own' tags' lw lh kp)→bn (hp w') p z.1 (α'.hdr r) (dY α' (bq R z own' tags' lw lh kp) r)=some (cs',jS))∧∀b∈ft,b∈α'.fo r:=by
 have K:=H.roots r R hr
 have hnd:=K.nd
 rw [bO,jO] at hnd
 have hO:=K.ow hv
 obtain ⟨BF,fd,Yv,Za,hfd0⟩:∃BF fd,(α.fo r).Perm (BF++fd)∧Ow (hp w) own' (fun b=>(gy cx σ α F w R.tags b∨b∈fd)∧∃t∈aK own' R.k,oW (hp w) b t) R.k R.x (α.hdr r) BF∧((∀t∈R.k.tys,aA t own'=aA t R.own)→fd=[]):=by
  by_cases hall:∀t∈R.k.tys,aA t own'=aA t R.own
  ·exact ⟨α.fo r,[],by simp,mQ _ (fun _ h=>h) (aY (fun _ _=>rfl) (fun _ h=>.inl h) (fun _ _=>rfl) (lZ hall hO)),fun _=>rfl⟩
  ·obtain ⟨BF,fd,h1,h2⟩:=om (own':=own') (fun t _ h=>hsub t h) hO
   exact ⟨BF,fd,h1,mQ _ (fun _ h=>h) h2,fun h=>absurd h hall⟩
 have Qw:=Yv.nodup hnd.2
 have X7:∀b,b∈α.fo r↔b∈BF∨b∈fd:=fun b=>by rw [Yv.mem_iff,abB]
 obtain ⟨cs1,eX,rest,jS,hn,hp1,hd1,hc1,hin,hnone,hup⟩:=focus p Za (fun b o e=>(K.mem b o e).1) hg eZ hown (abz.1 Qw).1 (fun b o e hb=>hnd.1 b o e ((X7 b).2 (.inl hb)))
 have hpf:(α.fo r).Perm (eX++rest++fd):=Yv.trans (List.Perm.append_right _ hp1)
 have hfo:∀b,b∈α.fo r↔(b∈eX∨b∈rest)∨b∈fd:=fun b=>by rw [hpf.mem_iff,abB,abB]
 have Jn:=hpf.nodup hnd.2
 have Ei:=(abz.1 Jn).1
 have YE:=oQ Za
 have sH:∀b o,jS=some (b,o)→b∈rest∨∃o0,dY α R r=some (b,o0)∧o0≤o∧o+d.1.size≤o0+R.k.size:=by
  intro b o e
  rcases hin b o e with ⟨_,o0,ew,h1,h2⟩ | ⟨h1,_⟩
  ·exact .inr ⟨o0,ew,h1,h2⟩
  ·exact .inl h1
 have QJ:∀b o,jS=some (b,o)→b∉eX:=by
  intro b o e hb
  rcases sH b o e with h | ⟨o0,ew,_⟩
  ·exact (abz.1 Ei).2.2 b hb b h rfl
  ·exact hnd.1 b o0 ew ((hfo b).2 (.inl (.inl hb)))
 have UT:∀b o,jS=some (b,o)→b∉fd:=by
  intro b o e hb
  rcases sH b o e with h | ⟨o0,ew,_⟩
  ·exact (abz.1 Jn).2.2 b (abu _ h) b hb rfl
  ·exact hnd.1 b o0 ew ((hfo b).2 (.inr hb))
 refine ⟨fd,_,eX,rest,cs1,jS,hn,hpf,hd1,fun b hb=>YE b (hp1.mem_iff.2 hb), ?_,sH,QJ, ?_⟩
 ·intro hall
  have h0:=hfd0 hall
  refine ⟨h0,aY (fun _ _=>rfl) (fun b hb=>?_) (fun _ _=>rfl) hd1⟩
  rcases hb.1 with hb | hb
  ·exact hb
  ·rw [h0] at hb; simp at hb
 intro t z tags' lw lh kp ft F' cs' w' P
 generalize hR':bq R z own' tags' lw lh kp=R' at *
 have Ez:R'.k=z.1:=by rw [←hR']; rfl
 have hkind:R'.kind=R.kind:=by rw [←hR']; rfl
 have Uh:R'.aT=false:=by rw [Jy hkind]; exact hr.2
 have TV:R'.own=own':=by rw [←hR']; rfl
 have KY:R'.tags=tags':=by rw [←hR']; rfl
 have Ze:R'.g=R.g:=by rw [←hR']; rfl
 have XN:R'.w=lw++R.w:=by rw [←hR']; rfl
 have Zf:R'.h=lh++R.h:=by rw [←hR']; rfl
 have hsz:z.1.size=R.k.size:=xD p hg P.ht P.hz
 have jm:∀b,b∈eX∨b∈rest∨b∈fd∨(∃o,dY α R r=some (b,o))→b∈blk α R r:=by
  intro b hb
  rw [bO,dX,hfo]
  rcases hb with h | h | h | h
  ·exact .inr (.inl (.inl h))
  ·exact .inr (.inl (.inr h))
  ·exact .inr (.inr h)
  ·exact .inl h
 have AB:∀b∈blk α R r,b∉F:=fun b hb=>H.gQ r R hr b hb
 have hblt:∀b∈blk α R r,b<w.heap.size:=fun b hb=>(K.mine b hb).1
 have Qj:∀b∈blk α R r,b∉eX→b∉F':=fun b hb hno h=>by
  rcases P.newF b h with h | h | h
  ·exact AB b hb h
  ·have:=hblt b hb; omega
  ·exact hno h.1
 have Lp:∀b∈blk α R r,b∉eX→(∀o,jS≠some (b,o))→hp w' b=hp w b:=by
  intro b hb h1 h2
  refine abO fun hne=>?_
  rcases P.Fp b (hblt b hb) hne with h | ⟨h,_⟩ | ⟨o,h,_⟩
  ·exact AB b hb h
  ·exact h1 h
  ·exact h2 o h
 have ND:∀b∈fd,hp w' b=hp w b:=fun b hb=>Lp b (jm b (.inr (.inr (.inl hb))))
  (fun h=>(abz.1 Jn).2.2 b (abx _ h) b hb rfl) (fun o e=>UT b o e hb)
 have Jq:∀b∈rest,jS.map (·.1)≠some b→hp w' b=hp w b:=fun b hb hne=>Lp b (jm b (.inr (.inl hb)))
  (fun h=>(abz.1 Ei).2.2 b h b hb rfl) (fun o e=>hne (by rw [e]; rfl))
 have Ib:∀b o,dY α R r=some (b,o)→jS.map (·.1)≠some b→hp w' b=hp w b:=fun b o e hne=>Lp b (jm b (.inr (.inr (.inr ⟨o,e⟩))))
  (fun h=>hnd.1 b o e ((hfo b).2 (.inl (.inl h)))) (fun o e=>hne (by rw [e]; rfl))
 let hdr':=match dY α R r with
  | some (b0,o0)=>kW (hp w') b0 o0 R.k.size
  | none=>α.hdr r
 have hT1:sQ cx σ α F w r R R' (ft++rest) F' w' lw lh:=by
  refine ⟨.inr ⟨XN,Zf,by rw [Ze]; exact abI _,hkind,fun _=>by rw [Ez]; exact hsz,P.log⟩,by rw [KY]; exact P.tags.2,P.os,P.size, ?_, ?_, ?_,P.VR, ?_, ?_,fun _=>by rw [←hR']; exact ⟨rfl,rfl⟩⟩
  ·intro b hb hne
   rcases P.Fp b hb hne with h | ⟨h,h2⟩ | ⟨o,h,h2⟩
   ·exact .inl h
   ·exact .inr ⟨jm b (.inl h), .inr (.inl h2)⟩
   ·have hbb:b∈blk α R r:=jm b (by
     rcases sH b o h with h | ⟨o0,ew,_⟩
     ·exact .inr (.inl h)
     ·exact .inr (.inr (.inr ⟨o0,ew⟩)))
    refine .inr ⟨hbb, .inr ?_⟩
    rcases hin b o h with ⟨h0,o0,ew,_⟩ | ⟨_,arr,e,lo,hi,g1,_,g3,_⟩
    ·
     obtain ⟨_,arr,e,lo,hi,g1,g2,g3,g4⟩:=K.mem b o0 ew
     unfold dS at h2
     rw [h0] at h2
     simp only [List.getLastD_nil] at h2
     cases hk:R.kind with
     | var tv=>
      refine .inl ⟨tv, ?_, ?_⟩
      ·unfold Root.bt at h2; rw [hk] at h2; exact h2
      ·unfold lH; rw [g1]; simp [g4 tv hk]
     | par=>
      obtain ⟨j,pi,n,hj1,hj2,Yl⟩:=H.yx r R hr hk
      have:(α.loc r).1=b:=by
       have:=ew
       unfold dY at this
       rw [hk] at this
       simp only [abr] at this
       rw [this]
      exact .inr ⟨⟨j,pi,_,n,hj2,by rw [Yl,this]⟩,fun e=>by rw [e] at h2; simp at h2⟩
     | anon=>unfold dY at ew; rw [hk] at ew; simp at ew
     | dead=>unfold dY at ew; rw [hk] at ew; simp at ew
    ·refine .inl ⟨e, ?_,by unfold lH; rw [g1]⟩
     unfold dS at h2
     rw [List.getLastD_eq_getLast?,g3] at h2
     exact h2
  ·intro _ b hb
   rw [kg hkind,dX,abB] at hb
   rcases hb with ⟨o,h⟩ | h | h
   ·exact .inl (jm b (.inr (.inr (.inr ⟨o,h⟩))))
   ·rcases P.Ip b h with h | h | h
    ·exact .inl (jm b (.inl h))
    ·exact .inr (.inl h)
    ·exact .inr (.inr h)
   ·exact .inl (jm b (.inr (.inl h)))
  ·intro b hb
   rcases P.newF b hb with h | h | h
   ·exact .inl h
   ·exact .inr (.inl h)
   ·exact .inr (.inr ⟨jm b (.inl h.1), .inr (.inl h.2)⟩)
  ·intro _ b hb
   rw [kg hkind,dX,abB] at hb
   rcases hb with ⟨o,h⟩ | h | h
   ·exact Qj b (jm b (.inr (.inr (.inr ⟨o,h⟩)))) (fun h1=>hnd.1 b o h ((hfo b).2 (.inl (.inl h1))))
   ·exact P.XF b h
   ·exact Qj b (jm b (.inr (.inl h))) (fun h1=>(abz.1 Ei).2.2 b h1 b h rfl)
  ·intro j pi b o n hj hb Ru hne
   obtain ⟨Q,hQ,hk,hl,hs⟩:=H.kP j pi b o n hj hb
   have hQR:Q=R:=by have:=hQ.1; rw [←Ru,hr.1] at this; simpa using this.symm
   subst hQR
   have hwb:dY α Q r=some (b,o):=by unfold dY; rw [hk,Ru,hl]
   have hbb:=jm b (.inr (.inr (.inr ⟨o,hwb⟩)))
   obtain ⟨_,_,_,_,_,f6⟩:=H.frame
   have h0:=f6 j pi b o n hj hb
   rcases P.Fp b (hblt b hbb) hne with h | ⟨h,_⟩ | ⟨o',h,_⟩
   ·exact absurd h (AB b hbb)
   ·exact absurd ((hfo b).2 (.inl (.inl h))) (hnd.1 b o hwb)
   ·rcases sH b o' h with h1 | ⟨o0,ew,h1,h2⟩
    ·exact absurd ((hfo b).2 (.inl (.inr h1))) (hnd.1 b o hwb)
    ·rw [hwb] at ew
     simp only [abr,abD,true_and] at ew
     subst ew
     exact h0.widen (P.cells b o' h).2 h1 (by omega)
 have hT:=hT1.turn (hdr':=hdr') H hr
 have hblk':∀b∈blk (aB α r (α.loc r) hdr' (ft++rest)) R' r,(∃o,dY α R r=some (b,o))∨b∈ft∨b∈rest:=by
  intro b hb
  rw [eU,kg hkind,dX,abB] at hb
  exact hb
 have hwhole:bg (ak σ r R') R'→Ow (hp w') own' (gy cx (ak σ r R') (aB α r (α.loc r) hdr' (ft++rest)) F' w' tags') z.1 z.2 hdr' (ft++rest)∧
   (mI∉lh→(t.1=d.1→z.1=R.k)∧yE (hp w) (hp w') own' R.k R.x (α.hdr r) (dY α R r) z hdr' lh∧bn (hp w') p z.1 hdr' (dY α R r)=some (cs',jS)):=by
  intro hv'
  have hcont:=P.cont _ (by rw [hR']; exact hT) (by rw [hR']; exact hblk') (by rw [hR']; exact hv')
  rw [hR'] at hcont
  have Js:∀e∈aK own' R.k,e∈R'.uK:=by
   unfold Root.uK
   rw [TV,Ez]
   exact (Ce p hg P.hz).2 P.Js
  have hc2:=hv'.2
  rw [KY] at hc2
  obtain ⟨_,hV,_⟩:=hT.views H R.tags (aK own' R.k) (H.cB r R hr.1).1 (lG hc2 P.tags.1 Js)
  have hok:∀b,((gy cx σ α F w R.tags b∨b∈fd)∧∃t∈aK own' R.k,oW (hp w) b t)→gy cx (ak σ r R') (aB α r (α.loc r) hdr' (ft++rest)) F' w' tags' b∧hp w' b=hp w b:=by
   rintro b ⟨hb,hty⟩
   rcases hb with hb | hb
   ·obtain ⟨h1,h2⟩:=hV b hb (.inl hty)
    exact ⟨pE h1 P.tags.1,h2⟩
   ·have hbb:=jm b (.inr (.inr (.inl hb)))
    refine ⟨⟨Nat.lt_of_lt_of_le (hblt b hbb) P.size,Qj b hbb (fun h1=>(abz.1 Jn).2.2 b (abx _ h1) b hb rfl),ko H hr ((hfo b).2 (.inr hb)), ?_, ?_⟩,ND b hb⟩
    ·intro q Q hq hbq
     exfalso
     rcases jr hq with ⟨rfl,rfl,_⟩ | ⟨e,hq'⟩
     ·rcases hblk' b hbq with ⟨o,h⟩ | h | h
      ·exact hnd.1 b o h ((hfo b).2 (.inr hb))
      ·rcases P.Ip b h with h | h | h
       ·exact (abz.1 Jn).2.2 b (abx _ h) b hb rfl
       ·exact AB b hbb h
       ·have:=hblt b hbb; omega
      ·exact (abz.1 Jn).2.2 b (abu _ h) b hb rfl
     ·rw [(fQ (α:=α) (σ:=σ) (R:=R') e).blk] at hbq
      exact H.yI _ _ _ _ hr hq' (Ne.symm e) b hbb hbq
    ·intro hb0
     rcases (K.mine b hbb).2 with h | ⟨j,pi,h1,h2⟩
     ·omega
     ·exact .inr ⟨j,pi,h1,h2⟩
  obtain ⟨ZP,hl0,A8,hC',hN',hK'⟩:=hup.go (hp w') (gy cx (ak σ r R') (aB α r (α.loc r) hdr' (ft++rest)) F' w' tags') t cs' ft z P.hz P.len hcont hok Jq P.cells P.none Ib
  have Ug:ZP=hdr':=by
   cases hw:dY α R r with
   | none=>
    have:hdr'=α.hdr r:=by simp only [hdr']; rw [hw]
    rw [this]
    exact hN' hw
   | some q=>
    have:hdr'=kW (hp w') q.1 q.2 R.k.size:=by simp only [hdr']; rw [hw]
    rw [this]
    have h1:=fV (hC' q.1 q.2 hw)
    rw [hl0,K.len] at h1
    exact h1.symm
  rw [Ug] at A8
  refine ⟨A8,fun nQ=>?_⟩
  have:=hK' lh P.ht (P.nav nQ)
  rw [Ug] at this
  exact ⟨this.1,this.2.2⟩
 refine ⟨aB α r (α.loc r) hdr' (ft++rest),hT1.rel H hr ?_ ?_ ?_,hT,hblk',fun hgn hv'=>by
  have h3:=((hwhole hv').2 hgn).2.2
  have Lt:dY (aB α r (α.loc r) hdr' (ft++rest)) R' r=dY α R r:=by rw [iG,oL hkind, ←nP]
  have Gg:(aB α r (α.loc r) hdr' (ft++rest)).hdr r=hdr':=by simp [aB,upd_same]
  rw [Lt,Gg]
  exact h3,fun b hb=>by
  have X6:(aB α r (α.loc r) hdr' (ft++rest)).fo r=ft++rest:=by simp [aB,upd_same]
  rw [X6]
  exact abx _ hb⟩
 ·intro _
  refine ⟨fun hv'=>?_, ?_, ?_, ?_⟩
  ·have:=(hwhole hv').1
   subst hR'
   exact this
  ·rw [Ez,hsz]
   simp only [hdr']
   cases hw:dY α R r with
   | none=>exact K.len
   | some q=>simp [kW]
  ·intro b o hb
   rw [oL hkind, ←nP] at hb
   have hh:hdr'=kW (hp w') b o R.k.size:=by simp only [hdr']; rw [hb]
   obtain ⟨_,arr,e,lo,hi,g1,g2,g3,g4⟩:=K.mem b o hb
   have hnew:∃iW,hp w' b=some (.cells iW e (lo,hi))∧iW.size=arr.size:=by
    by_cases hbw:jS.map (·.1)=some b
    ·cases QI:jS with
     | none=>rw [QI] at hbw; simp at hbw
     | some q=>
      rw [QI] at hbw
      simp only [Option.map_some,abr] at hbw
      obtain ⟨a1,a2,te,fr,f1,f2,f3,_⟩:=(P.cells q.1 q.2 QI).2
      rw [hbw] at f1 f2
      rw [g1] at f1
      simp only [abr,Obj.cells.injEq] at f1
      obtain ⟨rfl,rfl,rfl⟩:=f1
      exact ⟨a2,f2,f3⟩
    ·exact ⟨arr,(Ib b o hb hbw).trans g1,rfl⟩
   obtain ⟨iW,f1,f2⟩:=hnew
   refine ⟨?_,iW,e,lo,hi,f1,by rw [f2]; exact g2,by rw [f2,Ez,hsz]; exact g3,fun tv hk=>g4 tv (hkind▸hk)⟩
   rw [hh]
   exact wS f1 (by rw [f2]; exact g3)
  ·rw [kg hkind,jO]
   refine ⟨fun b o hb h=>?_,abz.2 ⟨P.XG,(abz.1 Ei).2.1,fun b h1 c h2 e=>?_⟩⟩
   ·have hbb:=jm b (.inr (.inr (.inr ⟨o,hb⟩)))
    rcases abB.1 h with h | h
    ·rcases P.Ip b h with h | h | h
     ·exact hnd.1 b o hb ((hfo b).2 (.inl (.inl h)))
     ·exact AB b hbb h
     ·have:=hblt b hbb; omega
    ·exact hnd.1 b o hb ((hfo b).2 (.inl (.inr h)))
   ·subst e
    have hbb:=jm b (.inr (.inl h2))
    rcases P.Ip b h1 with h | h | h
    ·exact (abz.1 Ei).2.2 b h b h2 rfl
    ·exact AB b hbb h
    ·have:=hblt b hbb; omega
 ·intro _ q n v hn' hold
  refine ⟨hold.1, ?_⟩
  intro Q hQ NM hcl hty hsome
  have hQ':Q=R':=by
   rw [aF] at hQ
   simpa using hQ.symm
  subst hQ'
  have Lt:dY (aB α r (α.loc r) hdr' (ft++rest)) Q r=dY α R r:=by rw [iG,oL hkind, ←nP]
  have Gg:(aB α r (α.loc r) hdr' (ft++rest)).hdr r=hdr':=by simp [aB,upd_same]
  rw [Lt,Gg]
  rw [Zf,kH hn'] at hcl
  by_cases hq:q=[]
  ·subst hq
   obtain ⟨_,cs,b,o,h1,h2⟩:=hold.2 R hr.1 hv (by simp [clean,fI,aA]) (fun t ht=>by simp [aa] at ht) rfl
   simp only [bn,abr,abD] at h1
   exact ⟨trivial,hdr',b,o,by simp only [bn]; rw [h1.2],h2⟩
  ·have hpt:∀k,fI q k=mI :: aa q k:=by
    intro k
    cases q with
    | nil=>exact absurd rfl hq
    | cons s q=>rfl
   rw [hpt] at hcl
   have hgn:mI∉lh:=fun hm=>hcl.1 mI hm (by simp)
   obtain ⟨hk,hnk,_⟩:=(hwhole NM).2 hgn
   subst hR'
   have O9:aa q R.k=aa q z.1∧(aI q R.k R.x).isSome=true:=by
    rcases P.XI with h | h | h
    ·have hk:=hk h
     obtain ⟨zk,zx⟩:=z
     simp only at hk
     subst hk
     exact ⟨rfl,by rw [lK q (y:=zx)]; exact hsome⟩
    ·exact Ca (bad:=lh) p q hg P.hz h hsome (fun e he hm=>hcl.1 e hm (abQ _ he))
    ·exact absurd h hgn
   have hpe:aa q (bq R z own' tags' lw lh kp).k=aa q R.k:=O9.1.symm
   rw [hpe] at hcl hty
   have XZ:∀t∈lh,t∉mI :: aa q R.k:=hcl.1
   obtain ⟨g1,cs,b,o,g2,g3⟩:=hold.2 R hr.1 hv (by rw [hpt]; exact hcl.2) (fun t ht=>hsub t (hty t ht)) O9.2
   obtain ⟨f1,c1,f2⟩:=hnk q cs (some (b,o)) g1 (fun t ht=>⟨hty t ht,fun h=>XZ t h (abQ _ ht)⟩) g2 hsome
   exact ⟨f1,c1,b,o,f2,g3⟩
 ·intro _ g v hg' hold Q hQ Vv
  obtain ⟨hQ',_⟩:=dU hQ
  subst hQ'
  obtain ⟨h1,h2⟩:=hold R hr (Ze▸Vv)
  have hw:dY α R r=none:=by unfold dY; rw [h1]
  have hh:hdr'=α.hdr r:=by simp only [hdr']; rw [hw]
  have Gg:(aB α r (α.loc r) hdr' (ft++rest)).hdr r=hdr':=by simp [aB,upd_same]
  rw [Gg,hh,hkind]
  refine ⟨h1, ?_⟩
  rw [Ez]
  refine (Hr ?_).2 h2
  by_cases hp:p=[]
  ·subst hp
   have hz:=P.hz
   simp only [dL,aI,abr] at hz hg
   subst hz
   rcases P.YK with h | h
   ·rw [h, ←hg]
   ·simp only [bn,abr,abD] at hn
    rw [←hn.2,hw] at h
    exact absurd rfl h
  ·exact BX hp P.hz
end
end
section
open Go
variable [Fr]
theorem qR:∀{k:K},k.flat=true→k.tys=[]:=by
 intro k
 induction k with
 | sl e k ih=>intro h; simp [K.flat] at h
 | gap n=>intro h; simp [K.flat] at h
 | pair a b iha ihb=>intro h; simp only [K.flat,aby] at h; simp [K.tys,iha h.1,ihb h.2]
 | st f ih=>intro h; exact ih h
 | _=>intro _; rfl
theorem MX {h h':Heap} {own own':List TypeId} {ok ok':Nat→Prop}:∀{k:K} {x:El k} {cs:List Value} {fo:List Nat},k.flat=true→Ow h own ok k x cs fo→fo=[]∧Ow h' own' ok' k x cs []:=by
 intro k
 induction k with
 | sl e k ih=>intro x cs fo h; simp [K.flat] at h
 | gap n=>intro x cs fo h; simp [K.flat] at h
 | pair a b iha ihb=>
  intro x cs fo h H
  simp only [K.flat,aby] at h
  obtain ⟨c1,c2,f1,f2,e,hp,h1,h2⟩:=H
  obtain ⟨g1,k1⟩:=iha h.1 h1
  obtain ⟨g2,k2⟩:=ihb h.2 h2
  subst g1; subst g2
  exact ⟨hp.eq_nil,c1,c2,[],[],e, .refl _,k1,k2⟩
 | st f ih=>intro x cs fo h H; exact ih (x:=x) h H
 | int ik=>intro x cs fo _ H; exact ⟨H.1,rfl,H.2⟩
 | bool=>intro x cs fo _ H; exact ⟨H.1,rfl,H.2⟩
 | id e=>intro x cs fo _ H; exact ⟨H.1,rfl,H.2⟩
 | str=>intro x cs fo _ H; exact ⟨H.1,rfl,H.2⟩
 | unit=>intro x cs fo _ H; exact ⟨H.1,rfl,H.2⟩
theorem NQ {ik:IntKind} {n:Int} (h:Rz ik n=true):Al ik n:=by
 cases ik <;> simp_all [Rz,Al,Rz.Int.blt,Rz.Int.ble]
theorem bF {a b:K} {x:El a} {y:El b} (h:bL a b x=some y):∃e:a=b,y=e▸x:=by
 unfold bL at h
 split at h
 ·rename_i hb
  simp only [abr] at h
  exact ⟨K.eq_of_beq hb,h.symm⟩
 ·simp at h
section
variable {A:Type} {cx:Cx} {σ:St} {α:dA} {F:List Nat} {a:Act} {w:World} {z:A}
theorem fq {k:Prog A} {tys:List TypeId}:∀{T:List Tag},(jX T tys k).ends σ z→aU σ tys T=true∧k.ends σ z:=by
 intro T
 induction T with
 | nil=>intro h; exact ⟨rfl,h⟩
 | cons t T ih=>
  obtain ⟨r,n⟩:=t
  intro h
  simp only [jX] at h
  cases he:eH r with
  | true=>
   rw [he] at h
   obtain ⟨h1,h2⟩:=ih h
   exact ⟨by simp [aU,he,h1],h2⟩
  | false=>
   rw [he] at h
   simp only [cond_false,Prog.ends] at h
   cases hr:σ.roots r with
   | none=>rw [hr] at h; exact h.elim
   | some R=>
    rw [hr] at h
    simp only at h
    cases hc:(!R.aT && clean R.w n tys) with
    | false=>rw [hc] at h; exact h.elim
    | true=>
     rw [hc] at h
     obtain ⟨h1,h2⟩:=ih h
     exact ⟨by simp only [aU,he,hr,cond_false]; rw [hc,h1]; rfl,h2⟩
theorem bU {r:Nat} {k:Root→Prog A} (h:(mG r k).ends σ z):∃R,aM σ r R∧bg σ R∧(k R).ends σ z:=by
 unfold mG at h
 simp only [Prog.ends] at h
 cases hr:σ.roots r with
 | none=>rw [hr] at h; exact h.elim
 | some R=>
  rw [hr] at h
  simp only at h
  cases hd:R.aT with
  | true=>rw [hd] at h; exact h.elim
  | false=>
   rw [hd] at h
   obtain ⟨h1,h2⟩:=fq h
   exact ⟨R,⟨hr,hd⟩,⟨hd,h1⟩,h2⟩
theorem NU (v:Value):bz cx σ α F w (LH v) v∧l9 σ (LH v):=by
 unfold LH
 split
 ·rename_i k n
  cases h:Rz k n with
  | true=>exact ⟨fun _=>⟨[.int k n],⟨rfl,by simp⟩,rfl,NQ h⟩,fun t ht=>by simp at ht⟩
  | false=>exact ⟨trivial,trivial⟩
 ·exact ⟨fun _=>⟨_,⟨rfl,by simp⟩,rfl⟩,fun t ht=>by simp at ht⟩
 ·rename_i s
  exact ⟨fun _=>⟨_,⟨rfl,by simp⟩,s,rfl,rfl⟩,fun t ht=>by simp at ht⟩
 ·exact ⟨⟨none,rfl⟩,trivial⟩
 ·exact ⟨rfl,trivial⟩
 ·exact ⟨trivial,trivial⟩
theorem mX (H:Rel cx σ α F a w) {x:Operand} {k:qH→Prog A} (h:(nS x k).ends σ z):∃v1,iK cx σ α F w v1 (a.eval x)∧rF σ v1∧(k v1).ends σ z:=by
 cases x with
 | tmp t=>exact ⟨σ.slots t,H.slots t,H.mH t,h⟩
 | const v=>obtain ⟨h1,h2⟩:=NU (cx:=cx) (σ:=σ) (α:=α) (F:=F) (w:=w) v; exact ⟨.one (LH v),h1,h2,h⟩
 | func f=>exact ⟨.one (.fn f []),⟨[],rfl,trivial⟩,fun c hc=>by simp at hc,h⟩
 | global g=>exact h.elim
theorem bI (H:Rel cx σ α F a w) {x:Operand} {k:AV→Prog A} (h:(dz x k).ends σ z):∃v1,bz cx σ α F w v1 (a.eval x)∧l9 σ v1∧(k v1).ends σ z:=by
 obtain ⟨v1,h1,h2,h3⟩:=mX H h
 cases v1 with
 | one v=>exact ⟨v,h1,h2,h3⟩
 | Cb l=>exact h3.elim
 | lit _ _ _=>exact h3.elim
def evs (a:Act) (l:List (Nat×Operand)):List (Nat×Value):=l.map fun p=>(p.1,a.eval p.2)
theorem xh (H:Rel cx σ α F a w):∀{l:List (Nat×Operand)} {k:List (Nat×AV)→Prog A},(uN l k).ends σ z→
  ∃vs:List (Nat×AV),vs.map (·.1)=l.map (·.1)∧dJ cx σ α F w (vs.map (·.2)) ((evs a l).map (·.2))∧(∀v∈vs,l9 σ v.2)∧(k vs).ends σ z:=by
 intro l
 induction l with
 | nil=>intro k h; exact ⟨[],rfl,trivial,by simp,h⟩
 | cons p l ih=>
  obtain ⟨n,x⟩:=p
  intro k h
  simp only [uN] at h
  obtain ⟨v,h1,h2,h3⟩:=bI H h
  obtain ⟨vs,g1,g2,g3,g4⟩:=ih h3
  exact ⟨(n,v) :: vs,by simp [g1],⟨h1,g2⟩,by simpa using ⟨h2,fun a b hb=>g3 (a,b) hb⟩,g4⟩
theorem gY (H:Rel cx σ α F a w):∀{l:List Operand} {k:List AV→Prog A},(iI l k).ends σ z→
  ∃vs:List AV,dJ cx σ α F w vs (l.map a.eval)∧(∀v∈vs,l9 σ v)∧(k vs).ends σ z:=by
 intro l
 induction l with
 | nil=>intro k h; exact ⟨[],trivial,by simp,h⟩
 | cons x l ih=>
  intro k h
  simp only [iI] at h
  obtain ⟨v,h1,h2,h3⟩:=bI H h
  obtain ⟨vs,g2,g3,g4⟩:=ih h3
  exact ⟨v :: vs,⟨h1,g2⟩,by simpa using ⟨h2,g3⟩,g4⟩
theorem qo {ik:IntKind} {n:Int} {T:List Tag} {v:Value} (h:bz cx σ α F w (.val (.int ik) n T) v):v=.int ik n∧Al ik n:=by
 obtain ⟨cs,h1,h2,h3⟩:=h (.inl rfl)
 obtain ⟨h5,_⟩:cs=[v]∧_:=h1
 rw [h5] at h2
 simp only [List.cons.injEq,and_true] at h2
 exact ⟨h2,h3⟩
theorem qZ {b:Bool} {T:List Tag} {v:Value} (h:bz cx σ α F w (.val .bool b T) v):v=.bool b:=by
 obtain ⟨cs,h1,h2⟩:=h (.inl rfl)
 obtain ⟨h5,_⟩:cs=[v]∧_:=h1
 have h2':cs=[.bool b]:=h2
 rw [h5] at h2'
 simpa using h2'
theorem qp {s:List Int} {T:List Tag} {v:Value} (h:bz cx σ α F w (.val .str s T) v):∃B:ByteArray,v=.string B∧s=bytesOf B:=by
 obtain ⟨cs,h1,B,h2,h3⟩:=h (.inl rfl)
 obtain ⟨h5,_⟩:cs=[v]∧_:=h1
 rw [h5] at h2
 simp only [List.cons.injEq,and_true] at h2
 exact ⟨B,h2,h3⟩
theorem Gp {ik:IntKind} {n:Int} {T:List Tag} (h:Al ik n):bz cx σ α F w (.val (.int ik) n T) (.int ik n):=fun _=>⟨[.int ik n],⟨rfl,by simp⟩,rfl,h⟩
theorem NV {b:Bool} {T:List Tag}:bz cx σ α F w (.val .bool b T) (.bool b):=fun _=>⟨[.bool b],⟨rfl,by simp⟩,rfl⟩
theorem Gq {B:ByteArray} {T:List Tag}:bz cx σ α F w (.val .str (bytesOf B) T) (.string B):=fun _=>⟨[.string B],⟨rfl,by simp⟩,B,rfl,rfl⟩
theorem qO {x:AV} {v:Value} {k:IntKind→Int→Prog A} (hx:bz cx σ α F w x v) (h:(asInt x k).ends σ z):∃ik n,v=.int ik n∧Al ik n∧(k ik n).ends σ z:=by
 unfold asInt at h
 split at h
 ·rename_i ik n T
  obtain ⟨h1,h2⟩:=qo hx
  exact ⟨ik,n,h1,h2,h⟩
 ·exact h.elim
theorem yV {x:AV} {v:Value} {k:Bool→Prog A} (hx:bz cx σ α F w x v) (h:(asBool x k).ends σ z):∃b,v=.bool b∧(k b).ends σ z:=by
 unfold asBool at h
 split at h
 ·rename_i b T
  exact ⟨b,qZ hx,h⟩
 ·exact h.elim
theorem gy.q {T:List Tag} {b:Nat} (h:gy cx σ α F w T b):Ad σ α F w T b:=⟨h.1,h.2.1,h.2.2.2.1⟩
theorem L9 {T T':List Tag} {b:Nat} (h:Ad σ α F w T b) (hs:∀t∈T,t∈T'):Ad σ α F w T' b:=
 ⟨h.1,h.2.1,fun r R h1 h2=>by obtain ⟨n,hn⟩:=h.2.2 r R h1 h2; exact ⟨n,hs _ hn⟩⟩
variable {r:Nat} {R:Root}
theorem M0 {h:Heap} {own:List TypeId} {ok:Nat→Prop}:∀{k:K} {x:El k} {cs:List Value} {fo:List Nat},(∀t∈k.tys,aA t own=false)→Ow h own ok k x cs fo→fo=[]:=by
 intro k
 induction k with
 | sl e k ih=>
  intro x cs fo h H
  unfold Ow at H
  rw [if_neg (by rw [h e (by simp [K.tys])]; exact Bool.false_ne_true)] at H
  exact H.1
 | pair a b iha ihb=>
  intro x cs fo h H
  obtain ⟨c1,c2,f1,f2,e,hp,h1,h2⟩:=H
  rw [iha (fun t ht=>h t (by simp [K.tys,ht])) h1,ihb (fun t ht=>h t (by simp [K.tys,ht])) h2] at hp
  exact hp.eq_nil
 | st f ih=>intro x cs fo h H; exact ih (x:=x) h H
 | _=>intro x cs fo _ H; exact H.1
theorem uC (R:Root) (r:Nat) {k:K} (hk:k.flat=false):R.out r k=(r,fF R.w) :: R.tags∨(R.out r k=R.tags∧∀t∈k.tys,aA t R.own=false):=by
 unfold Root.out
 rw [hk,cond_false]
 cases h:k.tys.any fun t=>aA t R.own with
 | true=>exact .inl rfl
 | false=>
  refine .inr ⟨rfl,fun t ht=>?_⟩
  have:=List.any_eq_false.1 h t ht
  simpa using this
theorem QZ (H:Rel cx σ α F a w) (hr:aM σ r R) {k:K} (hk:R.out r k=(r,fF R.w) :: R.tags) {b:Nat} (hb:b∈α.fo r):gy cx σ α F w (R.out r k) b:=by
 have hbb:b∈blk α R r:=abu _ hb
 have hm:=(H.roots r R hr).mine b hbb
 refine ⟨hm.1,H.gQ r R hr b hbb,ko H hr hb,fun q Q hq hbq=>?_,fun h0=>?_⟩
 ·by_cases e:q=r
  ·subst e
   exact ⟨fF R.w,by rw [hk]; simp⟩
  ·exact absurd hbb (H.yI q Q r R hq hr e b hbq)
 ·rcases hm.2 with h | ⟨j,pi,h1,h2⟩
  ·omega
  ·exact .inr ⟨j,pi,h1,h2⟩
theorem Iw {k:K} (hk:k.flat=false):∀t∈R.tags,t∈R.out r k:=fun t ht=>by
 rcases uC R r hk with h | ⟨h,_⟩ <;> rw [h]
 ·exact abQ _ ht
 ·exact ht
theorem BP (H:Rel cx σ α F a w) (hr:aM σ r R) (k:K):dW σ (R.out r k):=by
 intro t ht
 cases hk:k.flat with
 | true=>unfold Root.out at ht; rw [hk] at ht; simp at ht
 | false=>
  have h1:t=(r,fF R.w)∨t∈R.tags:=by
   rcases uC R r hk with h | ⟨h,_⟩ <;> rw [h] at ht
   ·exact abE.1 ht
   ·exact .inr ht
  rcases h1 with h | h
  ·subst h; exact .inr ⟨R,hr.1, .inr (abI _)⟩
  ·exact (H.cB r R hr.1).1 t h
theorem ku (H:Rel cx σ α F a w) (hr:aM σ r R) {k:K} {x:El k} {cs:List Value} {eX:List Nat} (hO:Ow (hp w) R.own (gy cx σ α F w R.tags) k x cs eX) (hf:∀b∈eX,b∈α.fo r) :
  Vw (hp w) (gy cx σ α F w (R.out r k)) k x cs:=by
 cases hk:k.flat with
 | true=>exact gN hk (iY (fun _=>True) (fun _ _=>trivial) (fun _ _=>trivial) hO)
 | false=>
  rcases uC R r hk with ho | ⟨_,hn⟩
  ·exact iY _ (fun b hb=>pE hb (Iw hk)) (fun b hb=>QZ H hr ho (hf b hb)) hO
  ·exact iY _ (fun b hb=>pE hb (Iw hk)) (fun b hb=>by rw [M0 hn hO] at hb; simp at hb) hO
theorem oC (H:Rel cx σ α F a w) (hr:aM σ r R) (hv:bg σ R) {p:List Stp} {d:Dat} (hg:aI p R.k R.x=some d) (eZ:jM p R.k R.x) (hown:∀t∈aa p R.k,aA t R.own=true)
  {cs1:List Value} {jS:Option (Nat×Nat)} (hn:bn (hp w) p R.k (α.hdr r) (dY α R r)=some (cs1,jS)) :
  ∃eX,Ow (hp w) R.own (gy cx σ α F w R.tags) d.1 d.2 cs1 eX∧∀b∈eX,b∈α.fo r:=by
 have K:=H.roots r R hr
 have hnd:=K.nd
 rw [bO,jO] at hnd
 obtain ⟨kQ,eX,rest,wh2,hn',hp1,hd1,hc1,hin,hnone,hup⟩:=focus p (K.ow hv) (fun b o e=>(K.mem b o e).1) hg eZ hown hnd.2 (fun b o e=>hnd.1 b o e)
 rw [hn] at hn'
 simp only [abr,abD] at hn'
 obtain ⟨rfl,rfl⟩:=hn'
 exact ⟨eX,hd1,fun b hb=>hp1.mem_iff.2 (abx _ hb)⟩
theorem iT {T:List Nat} {own:List Nat} (h:(T.all fun t=>aA t own)=true):∀t∈T,aA t own=true:=fun t ht=>abH.1 h t ht
theorem oG (H:Rel cx σ α F a w) {x:AV} {v:Value} {k:(kk:K)→El kk→List Tag→Prog A} (hx:bz cx σ α F w x v) (hw:l9 σ x) (h:(nW x k).ends σ z) :
  ∃kk y T cs,VC kk v cs∧Vw (hp w) (gy cx σ α F w T) kk y cs∧dW σ T∧(k kk y T).ends σ z:=by
 cases x with
 | val kk y T=>
  obtain ⟨h1,h2⟩:=fq h
  obtain ⟨cs,h3,h4⟩:=hx (.inr h1)
  exact ⟨kk,y,T,cs,h3,h4,hw,h2⟩
 | ref r g=>
  obtain ⟨R,hr,hv,h⟩:=bU h
  cases hg:Nat.beq R.g g with
  | false=>simp only [hg,cond_false] at h; exact h.elim
  | true=>
   simp only [hg,cond_true] at h
   obtain ⟨h1,h2⟩:=hx R hr (abw hg)
   exact ⟨R.k,R.x,R.out r R.k,α.hdr r,h2,ku H hr ((H.roots r R hr).ow hv) (fun _ h=>h),BP H hr _,h⟩
 | mU r p n=>
  obtain ⟨R,hr,hv,h⟩:=bU h
  cases hg:Nat.beq R.pR n with
  | false=>simp only [hg,cond_false] at h; exact h.elim
  | true=>
   simp only [hg,cond_true] at h
   cases nQ:aI p R.k R.x with
   | none=>rw [nQ] at h; exact h.elim
   | some d=>
    rw [nQ] at h
    obtain ⟨h1,h2,cs,wh,h3,h4⟩:=hx R hr.1 hv (abw hg) d nQ
    obtain ⟨eX,h5,h6⟩:=oC H hr hv nQ h1 h2 h3
    exact ⟨d.1,d.2,R.out r d.1,cs,h4,ku H hr h5 h6,BP H hr _,h⟩
 | undef=>exact h.elim
 | gK=>exact h.elim
 | ptr r p n=>exact h.elim
 | gV bt kk y T=>exact h.elim
 | zo _ _ _ _=>exact h.elim
 | sI _=>exact h.elim
 | part _ _ _ _ _=>exact h.elim
 | qE _ _ _ _=>exact h.elim
 | app _ _ _ _=>exact h.elim
 | mE=>exact h.elim
 | fn f cs=>exact h.elim
theorem rD (H:Rel cx σ α F a w) {x:AV} {v:Value} {rd:Root→Nat→List Stp→Dat→Prog A} {ro:TypeId→Dat→List Tag→Prog A} (hx:bz cx σ α F w x v) (hw:l9 σ x) (h:(addrOf x rd ro).ends σ z) :
  (∃r R p d cs b o,aM σ r R∧bg σ R∧aI p R.k R.x=some d∧jM p R.k R.x∧(∀t∈aa p R.k,aA t R.own=true)∧bn (hp w) p R.k (α.hdr r) (dY α R r)=some (cs,some (b,o))∧v=.pointer (some ⟨b,o,none⟩)∧(rd R r p d).ends σ z)∨
  (∃bt d T b o cs,dW σ T∧v=.pointer (some ⟨b,o,none⟩)∧Cells (hp w) b o cs∧Vw (hp w) (gy cx σ α F w T) d.1 d.2 cs∧Ad σ α F w T b∧((bt=SENT∧∀t∈T,eH t.1=true)∨(oW (hp w) b bt∧¬jq cx b))∧(ro bt d T).ends σ z):=by
 cases x with
 | ptr r p n=>
  obtain ⟨R,hr,hv,h⟩:=bU h
  cases hc:(clean R.h n (fI p R.k) && yL p R) with
  | false=>rw [hc] at h; exact h.elim
  | true=>
   rw [hc] at h
   simp only [cond_true] at h
   simp only [aby] at hc
   cases nQ:aI p R.k R.x with
   | none=>rw [nQ] at h; exact h.elim
   | some d=>
    rw [nQ] at h
    have hown:=iT hc.2
    obtain ⟨h1,cs,b,o,h2,h3⟩:=hx.2 R hr.1 hv hc.1 hown (by rw [nQ]; rfl)
    exact .inl ⟨r,R,p,d,cs,b,o,hr,hv,nQ,h1,hown,h2,h3,h⟩
 | gV bt k y T=>
  obtain ⟨h1,h2⟩:=fq h
  obtain ⟨b,o,cs,e,hcs,hV,hok,hb⟩:=hx.2 h1
  exact .inr ⟨bt,⟨k,y⟩,T,b,o,cs,hw,e,hcs,hV,hok,hb,h2⟩
 | undef=>exact h.elim
 | gK=>exact h.elim
 | ref r g=>exact h.elim
 | mU r p n=>exact h.elim
 | val kk y T=>exact h.elim
 | zo _ _ _ _=>exact h.elim
 | sI _=>exact h.elim
 | part _ _ _ _ _=>exact h.elim
 | qE _ _ _ _=>exact h.elim
 | app _ _ _ _=>exact h.elim
 | mE=>exact h.elim
 | fn f cs=>exact h.elim
end
end
section
open Go
variable [Fr]
theorem bK (a b:List Wr):∀σ,aj (a++b) σ=aj b (aj a σ):=by
 induction a with
 | nil=>intro σ; rfl
 | cons w a ih=>intro σ; exact ih _
theorem oD {own:List TypeId} {k:K}:∀(k0:K),(∀t∈k.tys,t∈k0.tys)→aK (k0.tys.filter fun t=>aA t own) k=aK own k:=by
 intro k0
 have key:∀t∈k0.tys,aA t (k0.tys.filter fun t=>aA t own)=aA t own:=by
  intro t ht
  cases h:aA t own with
  | true=>rw [bu,abJ]; exact ⟨ht,h⟩
  | false=>
   rw [aO,abJ]
   rintro ⟨_,h2⟩
   rw [h] at h2
   simp at h2
 induction k with
 | sl e k ih=>
  intro h
  simp only [aK]
  rw [key e (h e (by simp [K.tys])),ih (fun t ht=>h t (by simp [K.tys,ht]))]
 | pair a b iha ihb=>intro h; simp only [aK]; rw [iha (fun t ht=>h t (by simp [K.tys,ht])),ihb (fun t ht=>h t (by simp [K.tys,ht]))]
 | st f ih=>intro h; exact ih h
 | _=>intro _; rfl
theorem x8 {own:List TypeId} {k:K}:∀t∈k.tys,aA t (k.tys.filter fun t=>aA t own)=aA t own:=by
 intro t ht
 cases h:aA t own with
 | true=>rw [bu,abJ]; exact ⟨ht,h⟩
 | false=>
  rw [aO,abJ]
  rintro ⟨_,h2⟩
  rw [h] at h2
  simp at h2
theorem FN {own:List TypeId}:∀(n:Nat) {c:K} {x:El c} {s:Dat},aC n c x=some s→∀t∈aK own s.1,t∈aK own c:=by
 intro n
 induction n with
 | zero=>
  intro c x s h t ht
  cases c with
  | pair a b=>simp only [aC,abr] at h; subst h; simp [aK,ht]
  | _=>simp [aC] at h
 | succ n ih=>
  intro c x s h t ht
  cases c with
  | pair a b=>simp only [aC] at h; simp [aK,ih h t ht]
  | _=>simp [aC] at h
theorem qy {own:List TypeId}:∀(p:List Stp) {k:K} {x:El k} {d:Dat},aI p k x=some d→(∀t∈aa p k,aA t own=true)→∀t∈aK own d.1,t∈aK own k:=by
 intro p
 induction p with
 | nil=>intro k x d h _; simp only [aI,abr] at h; subst h; exact fun _ h=>h
 | cons s p ih=>
  intro k x d h ht
  cases s with
  | fu n=>
   cases k with
   | st c=>
    simp only [aI] at h
    cases hg:aC n c x with
    | none=>rw [hg] at h; simp at h
    | some s=>
     rw [hg] at h
     simp only at h
     have hpt:aa (.fu n :: p) (.st c)=aa p s.1:=by simp [aa,bP n hg]
     rw [hpt] at ht
     exact fun t h2=>FN n (c:=c) hg t (ih h ht t h2)
   | _=>simp [aI] at h
  | idx i=>
   cases k with
   | sl e k=>
    simp only [aI] at h
    intro t h2
    have:=ih h (fun t h=>ht t (by simp [aa,h])) t h2
    simp only [aK,ht e (by simp [aa]),cond_true]
    exact this
   | _=>simp [aI] at h
section
variable {cx:Cx} {σ:St} {α:dA} {F:List Nat} {a:Act} {w:World}
theorem ah {b:Bool} {A:Type} {x y:Prog A} {σ:St} {z:A} (h:(bif b then x else y).ends σ z):(b=true∧x.ends σ z)∨(b=false∧y.ends σ z):=by
 cases b with
 | true=>exact .inl ⟨rfl,h⟩
 | false=>exact .inr ⟨rfl,h⟩
theorem yP {h:Heap} {own:List TypeId} {ok:Nat→Prop}:∀{k:K} {x:El k} {cs:List Value} {fo:List Nat},k.flat=true→Ow h own ok k x cs fo→fo=[]:=by
 intro k
 induction k with
 | sl e k ih=>intro x cs fo h; simp [K.flat] at h
 | gap n=>intro x cs fo h; simp [K.flat] at h
 | pair a b iha ihb=>
  intro x cs fo h H
  simp only [K.flat,aby] at h
  obtain ⟨c1,c2,f1,f2,e,hp,h1,h2⟩:=H
  rw [iha h.1 h1,ihb h.2 h2] at hp
  exact hp.eq_nil
 | st f ih=>intro x cs fo h H; exact ih (x:=x) h H
 | _=>intro x cs fo _ H; exact H.1
theorem M3 {h:Heap} {own:List TypeId} {ok:Nat→Prop} {e:TypeId} {kk:K} {xs:List (El kk)} {b b':Option Addr} {n c hi:Nat} {fo:List Nat} (hf:kk.flat=true) (he:aA e own=true) (hn:hi≤n) (hb':b'=b)
  (H:Ow h own ok (.sl e kk) xs [.slice b n c] fo):Ow h own ok (.sl e kk) (show List (El kk) from xs.take hi) [.slice b' hi c] fo:=by
 unfold Ow at H ⊢
 rw [if_pos he] at H ⊢
 obtain ⟨a,n',c',e1,e2,e3,H⟩:=H
 simp only [List.cons.injEq,Value.slice.injEq,and_true] at e1
 obtain ⟨rfl,rfl,rfl⟩:=e1
 have hlen:(xs.take hi).length=hi:=by
  have:n=xs.length:=e2
  simp; omega
 refine ⟨b,hi,c,by rw [hb'],hlen.symm,by omega, ?_⟩
 rcases H with H | ⟨bb,o,arr,l,u,ea,hb,hfr,hs,bE,hl,hp,H⟩
 ·exact .inl H
 ·have h0:∀l∈bE,l=[]:=by
   intro l hl'
   obtain ⟨i,hi',rfl⟩:=List.mem_iff_getElem.1 hl'
   have hl:bE.length=xs.length:=hl
   obtain ⟨ds,_,h2⟩:=H i (by show i<xs.length; omega)
   have:=yP hf h2
   rw [←this]; simp [abF,hi']
  have hfl:bE.flatten=[]:=List.flatten_eq_nil_iff.2 h0
  have X5:(bE.take hi).flatten=[]:=List.flatten_eq_nil_iff.2 fun l hl'=>h0 l (List.mem_of_mem_take hl')
  refine .inr ⟨bb,o,arr,l,u,ea,hb,hfr,hs,bE.take hi,by show (bE.take hi).length=(xs.take hi).length; simp only [List.length_take]; rw [show bE.length=xs.length from hl],by rw [X5, ←hfl]; exact hp,fun i hi'=>?_⟩
  have hi2:i<(xs.take hi).length:=hi'
  have hi3:i<hi∧i<xs.length:=by simp at hi2; omega
  obtain ⟨ds,h1,h2⟩:=H i hi3.2
  refine ⟨ds,h1, ?_⟩
  have e1:(show List (El kk) from xs.take hi)[i]'hi'=xs[i]'hi3.2:=by
   show (xs.take hi)[i]=_
   simp
  have e2:(bE.take hi).getD i []=bE.getD i []:=by simp [abF,List.getElem?_take,hi3.1]
  rw [e1,e2]
  exact h2
inductive qd (cx:Cx) (σ:St) (α:dA) (F:List Nat) (w:World) (v:Value) (tk:gp):Prop
 | held (hws:tk.ws=[]) (cs:List Value) (hv:VC tk.k v cs) (h:Held cx σ α F w tk.k tk.x tk.own tk.tags cs []) (hc:aU σ (aK tk.own tk.k) tk.tags=true)
 | ref (r:Nat) (R:Root) (hr:aM σ r R) (hv:bg σ R) (e:tk=⟨R.k,R.x,R.own,R.tags,[.r r none],R.keep⟩) (hk:R.kind=.anon) (hd:VC R.k v (α.hdr r))
 | gap (r:Nat) (R:Root) (p:List Stp) (d z:Dat) (hr:aM σ r R) (hv:bg σ R) (hg:aI p R.k R.x=some d) (hz:dL p R.k R.x (mh d)=some z) (eZ:jM p R.k R.x)
   (hown:∀t∈aa p R.k,aA t R.own=true) (hpv:p≠[]∨∃t,R.kind=.var t) (e:tk=⟨d.1,d.2,d.1.tys.filter (fun t=>aA t R.own),R.tags,[.r r (some (dQ R d z))],R.keep⟩)
   (hn:∃cs wh,bn (hp w) p R.k (α.hdr r) (dY α R r)=some (cs,wh)∧VC d.1 v cs)
 | cut (r:Nat) (R:Root) (cs:List Value) (hr:aM σ r R) (hv:bg σ R) (hk:R.kind=.anon) (e:tk.own=R.own∧tk.tags=R.tags∧tk.ws=[.r r none]∧tk.keep=R.keep) (hd:VC tk.k v cs) (hl:cs.length=tk.k.size)
   (Js:aK R.own tk.k=aK R.own R.k) (how:∀ok,Ow (hp w) R.own ok R.k R.x (α.hdr r) (α.fo r)→Ow (hp w) R.own ok tk.k tk.x cs (α.fo r))
theorem wK {e:TypeId} {k:K} {c:Option Addr}:VC (.sl e k) (.slice c 0 0) [.slice c 0 0]:=⟨rfl,by simp⟩
theorem lN {A:Type} {z:A} (H:Rel cx σ α F a w) {want:K} {x:AV} {v:Value} {k:gp→Prog A} (hx:bz cx σ α F w x v) (hw:l9 σ x) (h:(qm want x k).ends σ z) :
  ∃tk,qd cx σ α F w v tk∧(k tk).ends σ z:=by
 cases x with
 | val kk y T=>
  obtain ⟨h1,h2⟩:=fq h
  obtain ⟨cs,h3,h4⟩:=hx (.inr h1)
  have hty:∀t∈aK [] kk,t∈kk.tys:=fun t ht=>xE ht
  exact ⟨⟨kk,y,[],T,[],false⟩, .held rfl cs h3 ⟨fun _=>lD (fun t _=>rfl) h4,hw,fun b hb=>by simp at hb,List.nodup_nil,jh h4⟩ (lG h1 (fun _ h=>h) hty),h2⟩
 | gK=>
  obtain ⟨c,rfl⟩:=hx
  unfold qm at h
  cases want with
  | sl e kk=>
   refine ⟨_, .held rfl [.slice c 0 0] wK ⟨fun _=>?_,fun t ht=>by simp at ht,fun b hb=>by simp at hb,List.nodup_nil,rfl⟩ rfl,h⟩
   unfold Ow
   rw [if_pos (by simp [aA])]
   exact ⟨c,0,0,rfl,rfl,abI _, .inl ⟨rfl,rfl⟩⟩
  | _=>exact h.elim
 | ref r g=>
  obtain ⟨R,hr,hv,h⟩:=bU h
  cases hg:(Nat.beq R.g g && !R.fixed) with
  | false=>simp only [hg,cond_false] at h; exact h.elim
  | true=>
   simp only [hg,cond_true] at h
   simp only [aby] at hg
   obtain ⟨h1,h2⟩:=hx R hr (abw hg.1)
   exact ⟨_, .ref r R hr hv rfl h1 h2,h⟩
 | mU r p n=>
  obtain ⟨R,hr,hv,h⟩:=bU h
  cases hg:Nat.beq R.pR n with
  | false=>simp only [hg,cond_false] at h; exact h.elim
  | true=>
   simp only [hg,cond_true] at h
   cases nQ:aI p R.k R.x with
   | none=>rw [nQ] at h; exact h.elim
   | some d=>
    rw [nQ] at h
    obtain ⟨h1,h2,cs,wh,h3,h4⟩:=hx R hr.1 hv (abw hg) d nQ
    cases hc:(p.all Stp.lM && !R.fixed && (!p.isEmpty || R.isVar)) with
    | true=>
     simp only [hc,cond_true] at h
     cases hga:uP R p d with
     | none=>rw [hga] at h; exact h.elim
     | some R'=>
      rw [hga] at h
      unfold uP at hga
      cases hz:dL p R.k R.x (mh d) with
      | none=>rw [hz] at hga; simp at hga
      | some zz=>
       rw [hz] at hga
       simp only [abr] at hga
       subst hga
       simp only [aby,Bool.or_eq_true] at hc
       refine ⟨_, .gap r R p d zz hr hv nQ hz h1 h2 ?_ rfl ⟨cs,wh,h3,h4⟩,h⟩
       rcases hc.2 with h | h
       ·left; intro e; subst e; simp at h
       ·right
        unfold Root.isVar at h
        cases hk:R.kind with
        | var t=>exact ⟨t,rfl⟩
        | anon=>rw [hk] at h; simp at h
        | par=>rw [hk] at h; simp at h
        | dead=>rw [hk] at h; simp at h
    | false=>
     simp only [hc,cond_false] at h
     obtain ⟨eX,h5,h6⟩:=oC H hr hv nQ h1 h2 h3
     have hV:=ku H hr h5 h6
     obtain ⟨hc1,h⟩:=fq h
     exact ⟨⟨d.1,d.2,[],R.out r d.1,[],false⟩, .held rfl cs h4 ⟨fun _=>lD (fun t _=>rfl) hV,BP H hr _,fun b hb=>by simp at hb,List.nodup_nil,jh hV⟩ (lG hc1 (fun _ h=>h) (fun t ht=>xE ht)),h⟩
 | undef=>exact h.elim
 | ptr r p n=>exact h.elim
 | gV bt kk y T=>exact h.elim
 | zo _ _ _ _=>exact h.elim
 | sI _=>exact h.elim
 | part r g lo hi sz=>
  obtain ⟨R,hr,hv,h⟩:=bU h
  rcases ah h with ⟨hg,h5⟩ | ⟨_,h5⟩
  ·clear h
   simp only [aby] at hg
   obtain ⟨b',b,n,c,e1,eb,e2,e3,e4,hrf⟩:=hx
   obtain ⟨h1,h2⟩:=hrf R hr (abw hg.1.1)
   have hlo:lo=0:=abw hg.2
   subst hlo
   have hK:∀q:Dat,(⟨R.k,R.x⟩:Dat)=q→(match q.1,q.2 with
     | .sl e kk,xs=>bif kk.flat && aA e R.own && Nat.beq kk.size sz then k ⟨.sl e kk,(show List (El kk) from xs).take hi,R.own,R.tags,[.r r none],R.keep⟩ else .fail
     | _,_=>Prog.fail).ends σ z→∃tk,qd cx σ α F w v tk∧(k tk).ends σ z:=by
    intro q hq hh0
    obtain ⟨qk,qx⟩:=q
    cases qk with
    | sl e kk=>
     simp only at hh0
     rcases ah hh0 with ⟨hc,hh⟩ | ⟨_,hh⟩
     ·clear hh0
      simp only [aby] at hc
      have hsz:kk.size=sz:=abw hc.2
      subst hsz
      have T9:VC (.sl e kk) (.slice b n c) (α.hdr r):=by
       have:=congrArg (fun q:Dat=>VC q.1 (.slice b n c) (α.hdr r)) hq
       exact cast this h2
      have hb0:b'=b:=by
       rw [eb (.inl rfl)]
       cases b with
       | none=>rfl
       | some ad=>obtain ⟨x,y,z⟩:=ad; simp [Addr.add]
      refine ⟨⟨.sl e kk,(show List (El kk) from qx).take hi,R.own,R.tags,[.r r none],R.keep⟩, .cut r R [.slice b' hi c] hr hv h1 ⟨rfl,rfl,rfl,rfl⟩ ⟨by rw [e1]; simp,by rw [e1]; simp⟩ rfl ?_ (fun ok hO=>?_),hh⟩
      ·exact congrArg (fun q:Dat=>aK R.own q.1) hq.symm
      ·have hO:=cast (congrArg (fun q:Dat=>Ow (hp w) R.own ok q.1 q.2 (α.hdr r) (α.fo r)) hq) hO
       simp only at hO
       rw [T9.1] at hO
       exact M3 hc.1.1 hc.1.2 e3 hb0 hO
     ·exact hh.elim
    | _=>exact hh0.elim
   exact hK _ rfl h5
  ·exact h5.elim
 | qE _ _ _ _=>exact h.elim
 | app _ _ _ _=>exact h.elim
 | mE=>exact h.elim
 | fn f cs=>exact h.elim
def lY (cx:Cx) (σ:St) (α:dA) (F:List Nat) (w:World):List (Value×gp)→List (List Value×List Nat)→Prop
 | [],[]=>True
 | it :: l,h :: hs=>(VC it.2.k it.1 h.1∧Held cx σ α F w it.2.k it.2.x it.2.own it.2.tags h.1 h.2∧aU σ (aK it.2.own it.2.k) it.2.tags=true)∧lY cx σ α F w l hs
 | _,_=>False
def nO (l:List (Value×gp)):List Wr:=l.flatMap fun it=>it.2.ws
def lQ (l:List (Value×gp)):List Tag:=l.flatMap fun it=>it.2.tags
theorem Ak (a b:List Wr):(a++b).flatMap Wr.nG=a.flatMap Wr.nG++b.flatMap Wr.nG:=List.flatMap_append
theorem take1 (H:Rel cx σ α F a w) {v:Value} {tk:gp} (h:qd cx σ α F w v tk) :
  ∃α' F' cs fo lw lh,Rel cx (aj tk.ws σ) α' F' a w∧jN cx σ α F w (aj tk.ws σ) α' F' w lw lh∧VC tk.k v cs∧Held cx (aj tk.ws σ) α' F' w tk.k tk.x tk.own tk.tags cs fo∧
   aU (aj tk.ws σ) (aK tk.own tk.k) tk.tags=true∧(∀b∈F,b∈F')∧(∀b∈fo,b∉F)∧(∀q,q∉tk.ws.flatMap Wr.nG→Same σ α (aj tk.ws σ) α' q):=by
 cases h with
 | held hws cs hv hh hc=>
  rw [hws]
  exact ⟨α,F,cs,[],_,_,H,wG H ⟨rfl,rfl,rfl⟩ (abI _) (fun _ _ h=>absurd rfl h) (fun b hb=>.inl hb) H.rZ,hv,hh,hc,fun _ h=>h,fun b hb=>by simp at hb,fun q _=>jg ..⟩
 | ref r R hr hv e hk hd=>
  subst e
  obtain ⟨h1,h2,h3,h4⟩:=kill H hr hk hv
  refine ⟨_,_,α.hdr r,α.fo r,_,_,h1,h2,hd,h3,h4,fun b hb=>abu _ hb,fun b hb hF=>H.gQ r R hr b (abu _ hb) hF, ?_⟩
  intro q hq
  have hq':q≠r:=by simpa [Wr.nG] using hq
  exact fQ hq'
 | cut r R cs hr hv hk e hd hl Js how=>
  obtain ⟨e1,e2,e3,e4⟩:=e
  obtain ⟨h1,h2,h3,h4⟩:=kill H hr hk hv
  rw [e3]
  refine ⟨_,_,cs,α.fo r,_,_,h1,h2,hd, ?_, ?_,fun b hb=>abu _ hb,fun b hb hF=>H.gQ r R hr b (abu _ hb) hF, ?_⟩
  ·rw [e1,e2]
   refine ⟨fun hc=>?_,h3.wt,h3.sub,h3.nd,hl⟩
   have:=h3.ow (by rw [←Js]; exact hc)
   exact how _ this
  ·rw [e1,e2]
   show aU (ak σ r bN) (aK R.own tk.k) R.tags=true
   rw [Js]; exact h4
  ·intro q hq
   have hq':q≠r:=by simpa [Wr.nG] using hq
   exact fQ hq'
 | gap r R p d z hr hv hg hz eZ hown hpv e hn=>
  subst e
  obtain ⟨cs,wh,hn1,hn2⟩:=hn
  obtain ⟨cs1,jS,eX,rest,g1,g2,g3,g4,g5,_⟩:=gap H hr hv hg hz eZ hown hpv
  rw [hn1] at g1
  simp only [abr,abD] at g1
  obtain ⟨rfl,rfl⟩:=g1
  have hcl:aU (ak σ r (dQ R d z)) (aK R.own d.1) R.tags=true:=by
   rw [g5]
   exact lG hv.2 (fun _ h=>h) (qy p hg hown)
  refine ⟨_,_,cs,eX,_,_,g2,g3,hn2, ?_, ?_,fun b hb=>abu _ hb, ?_, ?_⟩
  ·refine ⟨fun hc=>?_,g4.wt,g4.sub,g4.nd,g4.len⟩
   exact lZ (fun t ht=>x8 t ht) (g4.ow (by rw [oD d.1 (fun _ h=>h)] at hc; exact hc))
  ·show aU (ak σ r (dQ R d z)) (aK (d.1.tys.filter fun t=>aA t R.own) d.1) R.tags=true
   rw [oD d.1 (fun _ h=>h)]
   exact hcl
  ·intro b hb hF
   have:=g2.rZ
   exact (abz.1 this).2.2 b hb b hF rfl
  ·intro q hq
   have hq':q≠r:=by simpa [Wr.nG] using hq
   exact fQ hq'
theorem eD {σ':St} {tys:List TypeId} {T:List Tag} (h:∀t∈T,σ'.roots t.1=σ.roots t.1):aU σ' tys T=aU σ tys T:=by
 induction T with
 | nil=>rfl
 | cons t T ih=>
  obtain ⟨q,n⟩:=t
  simp only [aU]
  rw [ih (fun t ht=>h t (by simp [ht])),h (q,n) (by simp)]
theorem qd.stays {σ':St} {α':dA} {F':List Nat} {lw lh:Nat→List Nat} {v:Value} {tk:gp} (h:qd cx σ α F w v tk) (H:Rel cx σ α F a w) (T:jN cx σ α F w σ' α' F' w lw lh)
  (hs:∀q,(q∈tk.ws.flatMap Wr.nG∨q∈tk.tags.map (·.1))→Same σ α σ' α' q):qd cx σ' α' F' w v tk:=by
 cases h with
 | held hws cs hv hh hc=>
  exact .held hws cs hv (hh.turn H T (fun b hb=>by simp at hb)) (by rw [eD (fun t ht=>(hs t.1 (.inr (ab2.2 ⟨t,ht,rfl⟩))).root)]; exact hc)
 | ref r R hr hv e hk hd=>
  subst e
  have hS:=hs r (.inl (by simp [Wr.nG]))
  refine .ref r R ((hS.live R).2 hr) ⟨hv.1, ?_⟩ rfl hk (by rw [hS.hdr]; exact hd)
  rw [eD (fun t ht=>(hs t.1 (.inr (ab2.2 ⟨t,ht,rfl⟩))).root)]
  exact hv.2
 | cut r R cs hr hv hk e hd hl Js how=>
  have hS:=hs r (.inl (by rw [e.2.2.1]; simp [Wr.nG]))
  refine .cut r R cs ((hS.live R).2 hr) ⟨hv.1, ?_⟩ hk e hd hl Js (by rw [hS.hdr,hS.fo]; exact how)
  rw [eD (fun t ht=>(hs t.1 (.inr (ab2.2 ⟨t,by rw [e.2.1]; exact ht,rfl⟩))).root)]
  exact hv.2
 | gap r R p d z hr hv hg hz eZ hown hpv e hn=>
  subst e
  have hS:=hs r (.inl (by simp [Wr.nG]))
  refine .gap r R p d z ((hS.live R).2 hr) ⟨hv.1, ?_⟩ hg hz eZ hown hpv rfl (by rw [hS.hdr,hS.wh]; exact hn)
  rw [eD (fun t ht=>(hs t.1 (.inr (ab2.2 ⟨t,ht,rfl⟩))).root)]
  exact hv.2
theorem lY.turn {σ':St} {α':dA} {F':List Nat} {lw lh:Nat→List Nat} (H:Rel cx σ α F a w) (T:jN cx σ α F w σ' α' F' w lw lh) (hF:∀b∈F,b∈F') :
  ∀{l:List (Value×gp)} {hs:List (List Value×List Nat)},(∀t∈lQ l,σ'.roots t.1=σ.roots t.1)→lY cx σ α F w l hs→lY cx σ' α' F' w l hs
 | [],[],_,_=>trivial
 | it :: l,h :: hs,hr,hh=>by
  refine ⟨⟨hh.1.1,hh.1.2.1.turn H T (fun b hb=>⟨rfl,hF b (hh.1.2.1.sub b hb)⟩), ?_⟩,lY.turn H T hF (fun t ht=>hr t (by simp only [lQ,List.flatMap_cons,abB]; exact .inr ht)) hh.2⟩
  rw [eD (fun t ht=>hr t (by simp only [lQ,List.flatMap_cons,abB]; exact .inl ht))]
  exact hh.1.2.2
 | [],_ :: _,_,h=>h.elim
 | _ :: _,[],_,h=>h.elim
theorem oU {l:List Nat}:wV l=true↔l.Nodup:=by
 induction l with
 | nil=>simp [wV]
 | cons n l ih=>simp [wV,ih,aO]
theorem takes:∀(l:List (Value×gp)) {σ:St} {α:dA} {F:List Nat},Rel cx σ α F a w→(∀it∈l,qd cx σ α F w it.1 it.2)→((nO l).flatMap Wr.nG).Nodup→(∀t∈lQ l,t.1∉(nO l).flatMap Wr.nG)→
  ∃α' F' hs,Rel cx (aj (nO l) σ) α' F' a w∧lY cx (aj (nO l) σ) α' F' w l hs∧(hs.flatMap (·.2)).Nodup∧(∀b∈hs.flatMap (·.2),b∉F)∧(∀b∈F,b∈F')∧
   (∀q,q∉(nO l).flatMap Wr.nG→Same σ α (aj (nO l) σ) α' q)∧
   (∀k x own tags cs fo,Held cx σ α F w k x own tags cs fo→Held cx (aj (nO l) σ) α' F' w k x own tags cs fo)∧Views cx σ α F w (aj (nO l) σ) α' F' w∧(∀t,wM σ t→wM (aj (nO l) σ) t)∧(∀q,σ.roots q=none→(aj (nO l) σ).roots q=none):=by
 intro l
 induction l with
 | nil=>intro σ α F H _ _ _; exact ⟨α,F,[],H,trivial,List.nodup_nil,fun b hb=>by simp at hb,fun _ h=>h,fun q _=>jg ..,fun _ _ _ _ _ _ h=>h,fun T tys _ h=>⟨h,fun b hb _=>⟨hb,rfl⟩,fun b hb _=>⟨hb,rfl⟩⟩,fun _ h=>h,fun _ h=>h⟩
 | cons it l ih=>
  intro σ α F H hT hnd nL
  have e1:nO (it :: l)=it.2.ws++nO l:=rfl
  have e2:lQ (it :: l)=it.2.tags++lQ l:=rfl
  rw [e1,Ak] at hnd nL
  rw [e2] at nL
  obtain ⟨fB,F1,cs,fo,lw,lh,H1,T1,h1,h2,h3,h4,h5,h6⟩:=take1 H (hT it (by simp))
  have hnd':=abz.1 hnd
  obtain ⟨vI,F2,hs,H2,g1,g2,g3,g4,g5,g6,g7,g8,g9⟩:=ih H1 (fun it' hi=>(hT it' (by simp [hi])).stays H T1 (fun q hq=>by
   refine h6 q ?_
   rcases hq with hq | hq
   ·intro hq'
    exact hnd'.2.2 q hq' q (by
     rw [ab3] at hq ⊢
     obtain ⟨wr,hw1,hw2⟩:=hq
     exact ⟨wr,ab3.2 ⟨it',hi,hw1⟩,hw2⟩) rfl
   ·obtain ⟨t,ht,rfl⟩:=ab2.1 hq
    intro hq'
    exact nL t (abu _ (ab3.2 ⟨it',hi,ht⟩)) (abx _ hq'))) hnd'.2.1
   (fun t ht hq=>nL t (abu _ ht) (abu _ hq))
  rw [e1,bK]
  have hq1:∀q,q∉(it.2.ws).flatMap Wr.nG++(nO l).flatMap Wr.nG→Same σ α (aj (nO l) (aj it.2.ws σ)) vI q:=by
   intro q hq
   simp only [abB,not_or] at hq
   have s1:=h6 q hq.1
   have s2:=g5 q hq.2
   exact ⟨s2.root.trans s1.root,s2.loc.trans s1.loc,s2.hdr.trans s1.hdr,s2.fo.trans s1.fo⟩
  refine ⟨vI,F2,(cs,fo) :: hs,H2,⟨⟨h1,g6 _ _ _ _ _ _ h2, ?_⟩,g1⟩, ?_, ?_,fun b hb=>g4 b (h4 b hb), ?_,fun k x own tags cs fo hh=>g6 _ _ _ _ _ _ (hh.turn H T1 (fun b hb=>⟨rfl,h4 b (hh.sub b hb)⟩)), ?_,fun t ht=>g8 t (T1.tag ht), ?_⟩
  ·rw [eD (fun t ht=>(g5 t.1 (fun hq=>nL t (abx _ ht) (abu _ hq))).root)]
   exact h3
  ·simp only [List.flatMap_cons]
   exact abz.2 ⟨h2.nd,g2,fun b hb c hc e=>g3 c hc (e▸h2.sub b hb)⟩
  ·intro b hb hF
   simp only [List.flatMap_cons,abB] at hb
   rcases hb with hb | hb
   ·exact h5 b hb hF
   ·exact g3 b hb (h4 b hF)
  ·rw [Ak]
   exact hq1
  ·intro T tys hw hc
   obtain ⟨k1,k2,k3⟩:=g7 T tys (fun t ht=>T1.tag (hw t ht)) hc
   obtain ⟨j1,j2,j3⟩:=T1.views H T tys hw k1
   refine ⟨j1,fun b hb ht=>?_,fun b hb ht=>?_⟩
   ·obtain ⟨a1,a2⟩:=j2 b hb ht
    exact ⟨(k2 b a1 ht).1,rfl⟩
   ·obtain ⟨a1,a2⟩:=j3 b hb ht
    exact ⟨(k3 b a1 ht).1,rfl⟩
  ·intro q hq
   refine g9 q ?_
   cases hq2:(aj it.2.ws σ).roots q with
   | none=>rfl
   | some Q=>
    exfalso
    by_cases hm:q∈(it.2.ws).flatMap Wr.nG
    ·have:=hT it (by simp)
     cases this with
     | held hws cs hv hh hc=>rw [hws] at hm; simp at hm
     | ref r R hr hv e hk hd=>rw [e] at hm; simp [Wr.nG] at hm; subst hm; rw [hr.1] at hq; simp at hq
     | cut r R cs hr hv hk e hd hl Js how=>rw [e.2.2.1] at hm; simp [Wr.nG] at hm; subst hm; rw [hr.1] at hq; simp at hq
     | gap r R p d z hr hv hg hz eZ hown hpv e hn=>rw [e] at hm; simp [Wr.nG] at hm; subst hm; rw [hr.1] at hq; simp at hq
    ·rw [(h6 q hm).root,hq] at hq2
     simp at hq2
end
end
section
open Go
variable [Fr]
theorem iV (j:Nat):eH (j4 j)=true:=by simp [eH,j4,Nat.add_mod]
theorem rE {ws:List Wr} {T:List Tag}:sU ws T=true↔∀t∈T,t.1∉ws.flatMap Wr.nG:=by
 unfold sU
 rw [abH]
 simp [aO]
theorem Oj {ws:List Wr} {r:Nat} (h:(ws.all fun w=>!w.loc.beq (.r r))=true):r∉ws.flatMap Wr.nG:=by
 rw [ab3]
 rintro ⟨w,h1,h2⟩
 have:=abH.1 h w h1
 cases w with
 | s n a=>simp [Wr.nG] at h2
 | r n o=>
  simp only [Wr.nG,abL] at h2
  subst h2
  simp [Wr.loc,Loc.beq] at this
theorem rH:∀(n:Nat) {c:K} {x:El c} {s:Dat} {q:Nat×K},aC n c x=some s→aV n c=some q→q.2=s.1:=by
 intro n
 induction n with
 | zero=>intro c x s q h1 h2; cases c with
  | pair a b=>simp only [aC,aV,abr] at h1 h2; subst h1; subst h2; rfl
  | _=>simp [aC] at h1
 | succ n ih=>intro c x s q h1 h2; cases c with
  | pair a b=>
   simp only [aC,aV] at h1 h2
   cases h3:aV n b with
   | none=>rw [h3] at h2; simp at h2
   | some q3=>rw [h3] at h2; simp only [abr] at h2; subst h2; exact ih (q:=q3) h1 h3
  | _=>simp [aC] at h1
theorem LX {h:Heap}:∀(p:List Stp) {k:K} {x:El k} {cs:List Value} {c1:List Value} {w1:Option (Nat×Nat)},aa p k=[]→(aI p k x).isSome=true→bn h p k cs none=some (c1,w1)→w1=none:=by
 intro p
 induction p with
 | nil=>intro k x cs c1 w1 _ _ h; simp only [bn,abr,abD] at h; exact h.2.symm
 | cons s p ih=>
  intro k x cs c1 w1 h0 hs h
  cases s with
  | fu n=>
   cases k with
   | st c=>
    simp only [aI] at hs
    cases hg:aC n c x with
    | none=>rw [hg] at hs; simp at hs
    | some s=>
     rw [hg] at hs
     have hp2:aa (.fu n :: p) (.st c)=aa p s.1:=by simp [aa,bP n hg]
     rw [hp2] at h0
     simp only [bn] at h
     cases ho:aV n c with
     | none=>rw [ho] at h; simp at h
     | some q=>
      have hk2:q.2=s.1:=rH n (c:=c) hg ho
      rw [ho] at h
      obtain ⟨q1,q2⟩:=q
      simp only at hk2
      subst hk2
      exact ih h0 hs h
   | _=>simp [aI] at hs
  | idx i=>
   cases k with
   | sl e k=>simp [aa] at h0
   | _=>simp [aI] at hs
theorem K.Kw:∀k:K,k.beq k=true:=by
 intro k
 induction k with
 | int ik=>cases ik <;> rfl
 | sl e k ih=>simp [K.beq,ih]
 | pair a b iha ihb=>simp [K.beq,iha,ihb]
 | st f ih=>exact ih
 | gap n=>simp [K.beq]
 | id e=>simp [K.beq]
 | _=>rfl
theorem He:∀(q:List Stp) {k:K} {x:El k},jM q k x→(aI q k x).isSome=true:=by
 intro q
 induction q with
 | nil=>intro k x _; rfl
 | cons s q ih=>
  intro k x h
  cases s with
  | fu n=>
   cases k with
   | st c=>
    simp only [jM] at h
    simp only [aI]
    cases hc:aC n c x with
    | none=>rw [hc] at h; exact h.elim
    | some d=>rw [hc] at h; exact ih h
   | _=>exact h.elim
  | idx i=>
   cases k with
   | sl e k=>exact ih h.2.2
   | _=>exact h.elim
theorem M4:∀(q:List Stp) {k:K} {x:El k},aa q k=[]→(aI q k x).isSome=true→jM q k x:=by
 intro q
 induction q with
 | nil=>intro k x _ _; trivial
 | cons s q ih=>
  intro k x h0 hs
  cases s with
  | idx i=>cases k <;> simp [aa,aI] at h0 hs
  | fu n=>
   cases k with
   | st c=>
    simp only [aI] at hs
    cases hg:aC n c x with
    | none=>rw [hg] at hs; simp at hs
    | some s=>
     rw [hg] at hs
     simp only at hs
     have hp2:aa (.fu n :: q) (.st c)=aa q s.1:=by simp [aa,bP n hg]
     rw [hp2] at h0
     simp only [jM,hg]
     exact ih h0 hs
   | _=>simp [aI] at hs
section
variable {cx:Cx} {σ:St} {α:dA} {F:List Nat} {a:Act} {w:World} {r:Nat} {R:Root}
theorem JU {P:Program} {T:gL} {t:TypeId} {kk:K} {x:El kk} {jZ:List TypeId} {nT:List Tag} {Cu:List Value} {Gb:List Nat} {v:Value} (hT:eP P T t kk)
  (H:Rel cx σ α F a w) (hr:aM σ r R) (hv:bg σ R) {p:List Stp} {d z:Dat} (hg:aI p R.k R.x=some d) (hz:dL p R.k R.x ⟨kk,x⟩=some z) (eZ:jM p R.k R.x) (hown:∀t∈aa p R.k,aA t R.own=true)
  (hh:Held cx σ α F w kk x jZ nT Cu Gb) (hc:aU σ (aK jZ kk) nT=true) (wC:VC kk v Cu) (hd:d.1=kk∨d.1=kk.hole)
  (hself:kk.flat=true∨Dc R r nT (aK jZ kk)=true) (hbad:∀t∈aa p R.k,t∉aK jZ kk) (kp:Bool)
  {cs1:List Value} {b o:Nat} (hn:bn (hp w) p R.k (α.hdr r) (dY α R r)=some (cs1,some (b,o))) :
  ∃w',(Instr.storeAt t (.pointer (some ⟨b,o,none⟩)) v).run P w=.ok () w'∧∃α' F',
   Rel cx (ak σ r (bq R z (aZ R.own (aK jZ kk)) (bif kk.flat then R.tags else gH (qh r nT) R.tags) [dS R p] ((bif d.1.beq kk then [] else mY kk)++kk.tys) kp)) α' F' a w':=by
 have K0:=H.roots r R hr
 have hnt:=H.cB r R hr.1
 have Jk:=hh.ow hc
 obtain ⟨_,_,hbb,⟨arr,e,lo,hi,hb,hf,hs,hlast⟩,_⟩:=kV H hr hv hg eZ hown hn
 have hds:kk.size=d.1.size:=by
  rcases hd with h | h
  ·rw [h]
  ·rw [h,mZ]
 have hone:=Fx hT.dV Jk
 have hrun:=yf (o:=o) hT hb hf hh.len (by omega) wC hone
 obtain ⟨s1,s2,iW,s3,s4,s5,s6⟩:=nN b Cu w arr e (lo,hi) o hb (by rw [hh.len]; omega)
 have s7:=kX b Cu w o
 refine ⟨_,hrun, ?_⟩
 have O7:∀t∈aa p R.k,aA t (aZ R.own (aK jZ kk))=true:=fun t ht=>cZ.2 ⟨hown t ht,hbad t ht⟩
 obtain ⟨fd,ok',eX,rest,kQ,jS,hn',hpf,hd1,hty,_,sH,hwf,hgo⟩:=H.place hr hv (own':=aZ R.own (aK jZ kk)) hg eZ (fun t h=>(cZ.1 h).1) O7
 rw [hn] at hn'
 simp only [abr,abD] at hn'
 obtain ⟨rfl,rfl⟩:=hn'
 obtain ⟨ft,uO,hpt,TU⟩:=om (own':=aZ R.own (aK jZ kk)) (fun t ht hm=>by
  rcases uu (own:=jZ) ht with h | h
  ·exact absurd h (cZ.1 hm).2
  ·exact h) (mQ (aK jZ kk) (fun _ h=>h) Jk)
 have Ux:=hpt.nodup hh.nd
 have hft:∀b∈ft,b∈Gb:=fun b hb=>hpt.mem_iff.2 (abx _ hb)
 have Qp:∀b∈uO,b∈Gb:=fun b hb=>hpt.mem_iff.2 (abu _ hb)
 have AB:b∉F:=H.gQ r R hr b hbb
 have Uo:=oQ TU
 suffices hP:mR cx σ α F w r R p d (aZ R.own (aK jZ kk)) cs1 (some (b,o)) eX rest ⟨kk,x⟩ z (bif kk.flat then R.tags else gH (qh r nT) R.tags) [dS R p] ((bif d.1.beq kk then [] else mY kk)++kk.tys) kp ft (F.filter fun b=>!aA b Gb) Cu (w.setCells b o Cu) by
  obtain ⟨α',h,_⟩:=hgo hP
  exact ⟨α',_,h⟩
 have hF':∀b',b'∈F.filter (fun b=>!aA b Gb)↔b'∈F∧b'∉Gb:=fun b'=>by rw [abJ]; simp [aO]
 refine ⟨hz,hds, ?_,⟨s7.1,s7.2.1,s7.2.2⟩,by omega, ?_, ?_,fun h=>by simp at h,by rw [hh.len,hds], .inl (by simp), ?_,fun b' hb'=>.inr (.inl (hh.sub b' (hft b' hb'))),(abz.1 Ux).1,fun b' hb'=>.inl ((hF' b').1 hb').1,H.rZ.filter _,fun b' hb' h=>((hF' b').1 h).2 (hft b' hb'), .inr (by simp), ?_, ?_, ?_⟩
 ·rcases hd with h | h
  ·rw [h]; exact fun _ h=>h
  ·rw [h,GU]; intro t ht; simp at ht
 ·intro b' _ hne
  refine .inr (.inr ?_)
  by_cases e:b'=b
  ·subst e; exact ⟨o,rfl,by simp⟩
  ·exact absurd (s1 b' e) hne
 ·intro b' o' e'
  simp only [abr,abD] at e'
  obtain ⟨rfl,rfl⟩:=e'
  refine ⟨fun i hi=>?_,arr,iW,e,(lo,hi),hb,s3,s4,fun i hi=>?_⟩
  ·unfold cellAt
   rw [s3]
   exact s5 i hi
  ·exact s6 i (by rw [hh.len,hds]; exact hi)
 ·cases hfl:kk.flat with
  | true=>exact ⟨fun _ h=>h,hnt.1,hnt.2.2⟩
  | false=>
   refine ⟨fun t ht=>bX.2 (.inr ht),fun t ht=>?_,fun n ht=>?_⟩
   ·rcases bX.1 ht with h | h
    ·exact hh.wt t (kM.1 h).1
    ·exact hnt.1 t h
   ·rcases bX.1 ht with h | h
    ·exact (kM.1 h).2 rfl
    ·exact hnt.2.2 n h
 ·cases hbq:d.1.beq kk with
  | true=>exact .inl (K.eq_of_beq hbq).symm
  | false=>
   have Zk:d.1=kk.hole:=hd.resolve_left (fun e=>by rw [e,K.Kw] at hbq; simp at hbq)
   refine .inr (.inl fun q' h1 h2=>?_)
   have hnil:aa q' kk=[]:=by
    cases he:aa q' kk with
    | nil=>rfl
    | cons e l=>exact absurd (abu _ (kD q' e (by rw [he]; simp))) (h2 e (by rw [show aa q' (⟨kk,x⟩:Dat).1=aa q' kk from rfl,he]; simp))
   obtain ⟨dk,dx⟩:=d
   simp only at Zk
   subst Zk
   obtain ⟨h3,h4⟩:=Jp q' (y:=x) hnil h1
   refine ⟨?_, ?_⟩
   ·show aa q' kk.hole=aa q' kk
    rw [h3,hnil]
   ·show (aI q' kk.hole dx).isSome=true
    rw [lK q' (y:=nK kk x)]
    exact h4
 ·intro _ q c0 w0 hpq Ls hnq Rt
  obtain ⟨dk,dx⟩:=d
  rcases hd with ek | ek
  ·simp only at ek
   subst ek
   exact oz q hpq (fun t ht=>⟨(Ls t ht).1,fun h=>(Ls t ht).2 (abu _ h)⟩) hnq
  ·simp only at ek
   subst ek
   have hs0:(aI q kk.hole dx).isSome=true:=He q hpq
   rw [lK q (y:=nK kk x)] at hs0
   obtain ⟨h1,h2,h3,_,h5⟩:=zS (h:=hp w) q (x:=x) hs0
   have Yt:bn (hp w) q kk cs1 (some (b,o))=some (c0,w0):=by rw [←h5]; exact hnq
   exact oz (own:=aZ R.own (aK jZ kk)) q (M4 q h1 h3) (fun t ht=>by rw [h1] at ht; simp at ht) Yt
 ·intro α' Tn hblk hval
  cases hfl:kk.flat with
  | true=>
   obtain ⟨e1,e2⟩:=MX (h':=hp (w.setCells b o Cu)) (own':=aZ R.own (aK jZ kk)) (ok':=gy cx (ak σ r (bq R z (aZ R.own (aK jZ kk)) (bif kk.flat then R.tags else gH (qh r nT) R.tags) [dS R p] ((bif d.1.beq kk then [] else mY kk)++kk.tys) kp)) α' (F.filter fun b=>!aA b Gb) (w.setCells b o Cu) (bif true then R.tags else gH (qh r nT) R.tags)) hfl TU
   subst e1
   rw [hfl] at e2
   exact e2
  | false=>
   rw [hfl] at Tn hblk hval
   have xx:=hself.resolve_left (by rw [hfl]; simp)
   simp only [cond_false] at Tn hblk hval ⊢
   generalize hR':bq R z (aZ R.own (aK jZ kk)) (gH (qh r nT) R.tags) [dS R p] ((bif d.1.beq kk then [] else mY kk)++kk.tys) kp=R' at *
   have XN:R'.w=[dS R p]++R.w:=by rw [←hR']; rfl
   have hRt:R'.tags=gH (qh r nT) R.tags:=by rw [←hR']; rfl
   have hRv:R'.uK=aK (aZ R.own (aK jZ kk)) z.1:=by rw [←hR']; rfl
   have hRd:R'.aT=false:=hval.1
   have UJ:∀t∈aK jZ kk,t∈R'.uK:=by
    intro t ht
    rw [hRv]
    have h1:=GR (own:=jZ) (own':=aZ R.own (aK jZ kk)) (k:=kk) (fun t ht hm=>by
     rcases uu (own:=jZ) ht with h | h
     ·exact absurd h (cZ.1 hm).2
     ·exact h) t ht
    rcases (Ce p hg hz).1 t h1 with h | ⟨q,h2,h3⟩
    ·exact h
    ·rw [O7 q h2] at h3; simp at h3
   have Lb:∀n,(r,n)∈nT→dS R p∉aK jZ kk:=by
    intro n hn1 hl
    unfold dS at hl
    cases hpt:aa p R.k with
    | nil=>
     rw [hpt] at hl
     simp only [List.getLastD_nil] at hl
     unfold Dc at xx
     rw [Bool.or_eq_true] at xx
     rcases xx with h | h
     ·have:=abH.1 h _ hn1
      simp at this
     ·unfold Root.bt at hl
      cases hk:R.kind with
      | var tv=>rw [hk] at h hl; simp only at h hl; rw [Bool.not_eq_true',aO] at h; exact h hl
      | par=>rw [hk] at h; simp at h
      | anon=>
       rcases sH b o rfl with h1 | ⟨o0,ew,_⟩
       ·
        rw [hpt] at hbad
        have:=hty b (abu _ h1)
        have hne:dY α R r=none:=by unfold dY; rw [hk]
        rw [hne] at hn
        have:=LX p hpt (by rw [hg]; rfl) hn
        simp at this
       ·unfold dY at ew; rw [hk] at ew; simp at ew
      | dead=>have:=hr.2; simp [Root.aT,hk] at this
    | cons e l=>
     rw [hpt,List.getLastD_eq_getLast?] at hl
     have:(e :: l).getLast?.getD R.bt∈(e :: l):=by
      rw [List.getLast?_eq_some_getLast (by simp)]
      exact List.getLast_mem _
     exact hbad _ (by rw [hpt]; exact this) hl
   have hc':aU (ak σ r R') (aK jZ kk) nT=true:=by
    rw [jF]
    intro tg nL
    by_cases e:tg.1=r
    ·refine .inr ⟨R',by rw [e]; exact aF ..,hRd, ?_⟩
     rw [jF] at hc
     rcases hc tg nL with h | ⟨Q,h1,h2,h3⟩
     ·rw [e,hnt.2.1] at h; simp at h
     ·rw [e,hr.1] at h1
      simp only [abr] at h1
      subst h1
      rw [XN]
      refine (kH ?_).2 ⟨fun t ht=>?_,h3⟩
      ·rcases hh.wt tg nL with h | ⟨Q,q1,q2⟩
       ·rw [e,hnt.2.1] at h; simp at h
       ·rw [e,hr.1] at q1
        simp only [abr] at q1
        subst q1
        rcases q2 with q2 | q2
        ·rw [hr.2] at q2; simp at q2
        ·exact q2
      ·simp only [abL] at ht
       subst ht
       exact Lb tg.2 (by rw [←e]; exact nL)
    ·have h2:=hval.2
     rw [hRt,jF] at h2
     rcases h2 tg (bX.2 (.inl (kM.2 ⟨nL,e⟩))) with h | ⟨Q,h3,h4,h5⟩
     ·exact .inl h
     ·refine .inr ⟨Q,h3,h4, ?_⟩
      unfold clean at h5 ⊢
      rw [abH] at h5 ⊢
      intro x hx
      have:=h5 x hx
      simp only [Bool.not_eq_true',aO] at this ⊢
      exact fun h=>this (UJ x h)
   obtain ⟨_,hV,_⟩:=Tn.views H nT (aK jZ kk) hh.wt hc'
   have hsame:∀b',b'≠b→hp (w.setCells b o Cu) b'=hp w b':=s1
   refine aY ?_ ?_ (fun b' hb'=>hsame b' (fun e=>AB (e▸hh.sub b' (hft b' hb')))) TU
   ·rintro b' (⟨h1,h2⟩ | h)
    ·exact (hV b' h1 (.inl h2)).2
    ·exact hsame b' (fun e=>AB (e▸hh.sub b' (Qp b' h)))
   ·rintro b' (⟨h1,h2⟩ | h)
    ·obtain ⟨g1,g2,g3,g4,g5⟩:=(hV b' h1 (.inl h2)).1
     refine ⟨g1,g2,g3,fun q Q hq hbq=>?_,fun h0=>?_⟩
     ·obtain ⟨n,hn1⟩:=g4 q Q hq hbq
      by_cases e:q=r
      ·exfalso
       subst e
       obtain ⟨rfl,_⟩:=dU hq
       obtain ⟨tt,ht1,ht2⟩:=h2
       have LZ:∀e,mine cx w b'→lH (hp w) b'=some e→aA e (aZ R.own (aK jZ kk))=true→False:=by
        intro e hmn he hm
        have ht2:=H.GQ hmn ht2
        rw [ht2] at he
        simp only [abr] at he
        subst he
        exact (cZ.1 hm).2 ht1
       rcases hblk b' hbq with ⟨o',h⟩ | h | h
       ·unfold Dc at xx
        rw [Bool.or_eq_true] at xx
        rcases xx with h3 | h3
        ·have:=abH.1 h3 _ hn1
         simp at this
        ·cases hk:R.kind with
         | var tv=>
          rw [hk] at h3
          simp only at h3
          rw [Bool.not_eq_true',aO] at h3
          obtain ⟨_,ZN,e2,lo2,hi2,f1,_,_,f4⟩:=K0.mem b' o' h
          have ht2:=H.GQ (K0.mine b' (by unfold blk; rw [h]; exact abY)) ht2
          unfold lH at ht2
          rw [f1] at ht2
          simp only [abr] at ht2
          exact h3 (by rw [←f4 tv hk,ht2]; exact ht1)
         | par=>rw [hk] at h3; simp at h3
         | anon=>unfold dY at h; rw [hk] at h; simp at h
         | dead=>have:=hr.2; simp [Root.aT,hk] at this
       ·obtain ⟨e,_,h3,h4⟩:=Uo b' h
        exact LZ e (H.fl b' (hh.sub b' (hft b' h))) h4 h3
       ·obtain ⟨e,_,h3,h4⟩:=hty b' (abu _ h)
        exact LZ e (K0.mine b' (abu _ (hpf.mem_iff.2 (by simp [h])))) h4 h3
      ·exact ⟨n,bX.2 (.inl (kM.2 ⟨hn1,e⟩))⟩
     ·rcases g5 h0 with ⟨j,n,h3,h4⟩ | h3
      ·refine .inl ⟨j,n,bX.2 (.inl (kM.2 ⟨h3, ?_⟩)),h4⟩
       intro e
       have:=hnt.2.1
       rw [←e] at this
       simp only at this
       rw [iV] at this
       simp at this
      ·exact .inr h3
    ·have K3:=hh.sub b' (Qp b' h)
     have hm:=H.fl b' K3
     refine ⟨by have:=hm.1; omega,fun h2=>((hF' b').1 h2).2 (Qp b' h),mO H K3,fun q Q hq hbq=>?_,fun h0=>?_⟩
     ·exfalso
      rcases jr hq with ⟨rfl,rfl,_⟩ | ⟨e,hq'⟩
      ·rcases hblk b' hbq with ⟨o',h2⟩ | h2 | h2
       ·exact H.gQ _ _ hr b' (by rw [bO,dX]; exact .inl ⟨o',h2⟩) K3
       ·exact (abz.1 Ux).2.2 b' h2 b' h rfl
       ·exact H.gQ _ _ hr b' (by rw [bO,dX,hpf.mem_iff]; exact .inr (by simp [h2])) K3
      ·obtain ⟨Q2,g1,g2⟩:=Tn.old q Q hq'.1
       have hns:Same σ α (ak σ r R') α' q:=by
        refine abO fun hns=>?_
        rcases g2 with ⟨h1,h2⟩ | ⟨_,h2⟩
        ·rw [bS σ R' e] at g1
         rw [hq'.1] at g1
         simp only [abr] at g1
         subst g1
         rw [hq'.2] at h1
         simp at h1
        ·rcases h2.2.2.2.2.2.2 with h3 | ⟨_,_,h3⟩
         ·rw [lu _ e,lu _ e] at h3
          simp at h3
         ·exact hns h3
       rw [hns.blk] at hbq
       exact H.gQ _ _ hq' b' hbq K3
     ·rcases hm.2 with h | ⟨j,pi,h1,h2⟩
      ·omega
      ·exact .inr ⟨j,pi,h1,h2⟩
end
end
section
open Go
variable [Fr]
theorem dZ (d c:Nat):eH (aS d c)=false:=by
 unfold eH aS
 have:(4 * (8 * d+c)+2) % 4=2:=by omega
 rw [this]; rfl
section
variable {cx:Cx} {σ:St} {α:dA} {F:List Nat} {a:Act} {w:World} {r:Nat}
theorem E8 {T:List Tag} (h:dW σ T) (hn:σ.roots r=none) (hx:eH r=false):∀n,(r,n)∉T:=by
 intro n hn2
 rcases h _ hn2 with h | ⟨Q,h,_⟩
 ·simp only at h; rw [hx] at h; simp at h
 ·simp only at h; rw [hn] at h; simp at h
theorem Dz (H:Rel cx σ α F a w) (hn:σ.roots r=none) (hx:eH r=false) {R':Root} (hd:R'.aT=false) (hk:R'.kind≠.par) (wB:dW σ R'.tags) (loc:Nat×Nat) (hdr':List Value) (gu F':List Nat)
  (hblk:∀b∈gJ R' loc gu,b∈F∧b∉F') (hnd:(gJ R' loc gu).Nodup) (hF':∀b∈F',b∈F) (Eg:F'.Nodup)
  (how:aU σ R'.uK R'.tags=true→Ow (hp w) R'.own (fun b=>gy cx σ α F w R'.tags b∨(b∈F∧b∉F'∧b∉gJ R' loc gu)) R'.k R'.x hdr' gu) (hlen:hdr'.length=R'.k.size)
  (hmem:∀b o,pX R' loc=some (b,o)→Cells (hp w) b o hdr'∧∃arr e lo hi,hp w b=some (.cells arr e (lo,hi))∧wQ arr.size lo hi∧o+R'.k.size≤arr.size∧(∀t,R'.kind=.var t→e=t)) :
  Rel cx (ak σ r R') (aB α r loc hdr' gu) F' a w∧jN cx σ α F w (ak σ r R') (aB α r loc hdr' gu) F' w (ni r []) (ni r []):=by
 have hns:∀{q:Nat},¬Same σ α (ak σ r R') (aB α r loc hdr' gu) q→q=r:=fun {q} h=>abO fun e=>h (fQ e)
 have hold:∀{q Q},σ.roots q=some Q→q≠r:=fun {q Q} h e=>by rw [e,hn] at h; simp at h
 have T:jN cx σ α F w (ak σ r R') (aB α r loc hdr' gu) F' w (ni r []) (ni r []):=by
  refine ⟨rfl,⟨rfl,rfl,rfl⟩,abI _, ?_, ?_, ?_,fun b _ h=>absurd rfl h, ?_,Eg, ?_, ?_,fun _ _ _ _ _ _ _ h=>absurd rfl h,fun q Q Q' h1 h2 _=>by rw [bS σ R' (hold h1),h1] at h2; simp only [abr] at h2; subst h2; exact ⟨rfl,rfl⟩⟩
  ·intro q Q hQ
   have e:=hold hQ
   refine ⟨Q,by rw [bS σ R' e]; exact hQ, ?_⟩
   cases hd:Q.aT with
   | true=>exact .inl ⟨rfl,by intro hk; simp [Root.aT,hk] at hd⟩
   | false=>exact .inr ⟨rfl,by rw [lu _ e]; rfl,by rw [lu _ e]; rfl,abI _,rfl,by simp [aB,upd_ne _ _ e],fun _=>rfl, .inr ⟨lu _ e,lu _ e,fQ e⟩⟩
  ·intro q Q hQ hs
   have e:=hns hs
   subst e
   rw [aF] at hQ
   simp only [abr] at hQ
   subst hQ
   refine ⟨fun t ht=>?_,hx,E8 wB hn hx⟩
   have hne:t.1≠q:=fun e=>E8 wB hn hx t.2 (by rw [←e]; exact ht)
   rcases wB t ht with h | ⟨Q,h1,h2⟩
   ·exact .inl h
   ·exact .inr ⟨Q,by rw [bS σ R' hne]; exact h1,h2⟩
  ·intro q Q hq hQ
   by_cases e:q=r
   ·subst e
    rw [aF] at hQ
    simp only [abr] at hQ
    subst hQ
    exact hk
   ·rw [bS σ R' e,hq] at hQ; simp at hQ
  ·rintro b (⟨q,Q,hq,hb,hno⟩ | hb)
   ·rcases jr hq with ⟨rfl,rfl,_⟩ | ⟨e,hq'⟩
    ·rw [eU] at hb
     exact .inl (hblk b hb).1
    ·rw [(fQ (α:=α) (σ:=σ) (R:=R') e).blk] at hb
     exact absurd ⟨Q,hq',hb⟩ hno
   ·exact .inl (hF' b hb)
  ·intro q Q hq hs b hb
   have e:=hns hs
   subst e
   obtain ⟨rfl,_⟩:=dU hq
   rw [eU] at hb
   exact (hblk b hb).2
  ·intro q Q q' Q' hq hq' hne hs hs'
   exact absurd ((hns hs).trans (hns hs').symm) hne
 refine ⟨H.turn T ?_ ?_ ?_,T⟩
 ·intro q Q hq hs
  have e:=hns hs
  subst e
  obtain ⟨rfl,_⟩:=dU hq
  refine ⟨fun hv=>?_, ?_, ?_, ?_⟩
  ·have e1:(aB α q loc hdr' gu).hdr q=hdr':=by simp [aB,upd_same]
   have e2:(aB α q loc hdr' gu).fo q=gu:=by simp [aB,upd_same]
   rw [e1,e2]
   obtain ⟨h1,h2,_⟩:=T.views H Q.tags _ wB hv.2
   refine aY (fun _ _=>rfl) ?_ (fun _ _=>rfl) (mQ _ (fun _ h=>h) (how h1))
   rintro b ⟨hb | ⟨g1,g2,g3⟩,hty⟩
   ·exact (h2 b hb (.inl hty)).1
   ·have hm:=H.fl b g1
    refine ⟨hm.1,g2,mO H g1,fun q' Q' hq' hb'=>?_,fun h0=>?_⟩
    ·exfalso
     rcases jr hq' with ⟨rfl,rfl,_⟩ | ⟨e,hq2⟩
     ·rw [eU] at hb'; exact g3 hb'
     ·rw [(fQ (α:=α) (σ:=σ) (R:=Q) e).blk] at hb'
      exact H.gQ _ _ hq2 b hb' g1
    ·rcases hm.2 with h | ⟨j,pi,h1,h2⟩
     ·omega
     ·exact .inr ⟨j,pi,h1,h2⟩
  ·simpa [aB,upd_same] using hlen
  ·intro b o hb
   rw [iG] at hb
   simpa [aB,upd_same] using hmem b o hb
  ·rw [eU]; exact hnd
 ·intro q Q hq hs
  exact absurd (hns hs) (hold hq.1)
 ·intro q Q hq hs
  exact absurd (hns hs) (hold hq.1)
theorem fO {R:Root} (h:R.kind=.anon) (loc:Nat×Nat) (fo:List Nat):gJ R loc fo=fo:=by simp [gJ,h]
theorem oH {R:Root} {t:TypeId} (h:R.kind=.var t) (loc:Nat×Nat) (fo:List Nat):gJ R loc fo=loc.1 :: fo:=by simp [gJ,h]
theorem q8 {R:Root} (h:R.kind=.anon) (loc:Nat×Nat):pX R loc=none:=by simp [pX,h]
theorem Fb {R:Root} {t:TypeId} (h:R.kind=.var t) (loc:Nat×Nat):pX R loc=some loc:=by simp [pX,h]
theorem LW {k:K} {x:El k} {own:List TypeId} {tags:List Tag} {kp:Bool} {hdr:List Value} {fo F':List Nat} {loc:Nat×Nat} {v:Value} {w:World} (h:VC k v hdr) :
  bz cx (ak σ r (aD k x own tags .anon kp)) (aB α r loc hdr fo) F' w (.ref r 0) v:=by
 intro Q hQ _
 obtain ⟨rfl,_⟩:=dU hQ
 refine ⟨rfl, ?_⟩
 simp only [aB,upd_same]
 exact h
theorem QX {k:K} {x:El k} {own:List TypeId} {tags:List Tag} {kp:Bool} {hdr:List Value} {fo F':List Nat} {b:Nat} {t:TypeId} {w:World} :
  bz cx (ak σ r (aD k x own tags (.var t) kp)) (aB α r (b,0) hdr fo) F' w (.ptr r [] 0) (.pointer (some ⟨b,0,none⟩)):=by
 refine ⟨⟨b,0,rfl⟩, ?_⟩
 intro Q hQ _ _ _ _
 rw [aF] at hQ
 simp only [abr] at hQ
 subst hQ
 refine ⟨trivial,hdr,b,0, ?_,rfl⟩
 simp only [bn]
 rw [iG]
 simp [pX,aD,aB,upd_same]
theorem NW {k:K} {x:El k} {own:List TypeId} {tags:List Tag} {kp:Bool} {hdr:List Value} {fo F':List Nat} {b o:Nat} {t:TypeId} {w:World} :
  bz cx (ak σ r (aD k x own tags (.var t) kp)) (aB α r (b,o) hdr fo) F' w (.ptr r [] 0) (.pointer (some ⟨b,o,none⟩)):=by
 refine ⟨⟨b,o,rfl⟩, ?_⟩
 intro Q hQ _ _ _ _
 rw [aF] at hQ
 simp only [abr] at hQ
 subst hQ
 refine ⟨trivial,hdr,b,o, ?_,rfl⟩
 simp only [bn]
 rw [iG]
 simp [pX,aD,aB,upd_same]
theorem uF {tk:gp} (h:dW σ tk.tags):dW σ tk.fH:=by
 unfold gp.fH
 split
 ·intro t ht; simp at ht
 ·exact h
theorem jC {h:Heap} {own:List TypeId} {ok ok':Nat→Prop} {k:K} {x:El k} {cs:List Value} {fo:List Nat} (hv:aK own k=[]) (H:Ow h own ok k x cs fo):Ow h own ok' k x cs fo:=by
 refine aY (fun _ _=>rfl) (fun b hb=>?_) (fun _ _=>rfl) (mQ [] (by rw [hv]; exact fun _ h=>h) H)
 obtain ⟨_,t,ht,_⟩:=hb
 simp at ht
theorem Hw {P:Program} {tk:gp} {t:TypeId} {v:Value} {cs:List Value} {fo:List Nat} (H:Rel cx σ α F a w) (hn:σ.roots r=none) (hx:eH r=false) (hh:Held cx σ α F w tk.k tk.x tk.own tk.tags cs fo)
  (hc:aU σ (aK tk.own tk.k) tk.tags=true) (hv:VC tk.k v cs) (kp:Bool) :
  (Instr.box t v).run P w=.ok (.pointer (some ⟨w.heap.size,0,none⟩)) (w.alloc (.cells v.cells t))∧
   ∃α' F',Rel cx (ak σ r (aD tk.k tk.x tk.own tk.fH (.var t) kp)) α' F' a (w.alloc (.cells v.cells t))∧
    bz cx (ak σ r (aD tk.k tk.x tk.own tk.fH (.var t) kp)) α' F' (w.alloc (.cells v.cells t)) (.ptr r [] 0) (.pointer (some ⟨w.heap.size,0,none⟩)):=by
 refine ⟨BV t v w, ?_⟩
 have hcs:v.cells=cs.toArray:=by
  have:=hv.cells
  apply Array.ext'
  simpa using this
 rw [hcs]
 obtain ⟨H1,T1⟩:=H.alloc (.cells cs.toArray t)
 have Yh:=hh.turn H T1 (fun b hb=>⟨kJ w _ (H.fl b (hh.sub b hb)).1,abQ _ (hh.sub b hb)⟩)
 have hnew:hp (w.alloc (.cells cs.toArray t)) w.heap.size=some (.cells cs.toArray t (0,0)):=mo w _
 have AB:w.heap.size∉F:=fun h=>by have:=(H.fl _ h).1; omega
 have hbf:w.heap.size∉fo:=fun h=>AB (hh.sub _ h)
 have hk:(aD tk.k tk.x tk.own tk.fH (.var t) kp).kind=.var t:=rfl
 obtain ⟨h1,h2⟩:=Dz (R':=aD tk.k tk.x tk.own tk.fH (.var t) kp) H1 hn hx rfl (by simp [aD]) (uF Yh.wt) (w.heap.size,0) cs fo (F.filter fun b=>!aA b fo)
  (fun b hb=>by
   rw [oH hk] at hb
   rcases abE.1 hb with h | h
   ·simp only at h; subst h
    exact ⟨abY,fun h=>AB (abJ.1 h).1⟩
   ·refine ⟨abQ _ (hh.sub b h),fun h2=>?_⟩
    have:=(abJ.1 h2).2
    simp only [Bool.not_eq_true',aO] at this
    exact this h)
  (by rw [oH hk]; exact abZ.2 ⟨hbf,hh.nd⟩)
  (fun b hb=>abQ _ (abJ.1 hb).1) (H.rZ.filter _)
  (fun hcl=>by
   show Ow _ tk.own _ tk.k tk.x cs fo
   cases hb:tk.bad with
   | nil=>exact jC hb (Yh.ow hc)
   | cons t0 l=>
    have et:(aD tk.k tk.x tk.own tk.fH (.var t) kp).tags=tk.tags:=by
     show tk.fH=tk.tags
     unfold gp.fH
     rw [hb]
    rw [et] at hcl ⊢
    exact aY (fun _ _=>rfl) (fun b h=>.inl h) (fun _ _=>rfl) (Yh.ow hcl)) hh.len
  (fun b o hb=>by
   rw [Fb hk] at hb
   simp only [abr,abD] at hb
   obtain ⟨rfl,rfl⟩:=hb
   refine ⟨fun i hi=>?_,cs.toArray,t,0,0,hnew,wQ.zero, ?_,fun t' ht'=>?_⟩
   ·unfold cellAt
    rw [hnew]
    simp
   ·show 0+tk.k.size≤_
    simp [hh.len]
   ·have:xJ.var t=xJ.var t':=ht'
    simpa using this)
 exact ⟨_,_,h1,QX⟩
theorem Bo {k:K} {x:El k} {own:List TypeId} {tags:List Tag} {v:Value} {cs:List Value} {fo:List Nat} (H:Rel cx σ α F a w) (hn:σ.roots r=none) (hx:eH r=false)
  (hsub:∀b∈fo,b∈F) (hnd:fo.Nodup) (hwt:dW σ tags) {F':List Nat} (hF':∀b∈F',b∈F∧b∉fo) (Eg:F'.Nodup) (hlen:cs.length=k.size)
  (how:aU σ (aK own k) tags=true→Ow (hp w) own (fun b=>gy cx σ α F w tags b∨(b∈F∧b∉F'∧b∉fo)) k x cs fo) (hv:VC k v cs) (kp:Bool) :
  Rel cx (ak σ r (aD k x own tags .anon kp)) (aB α r (0,0) cs fo) F' a w∧bz cx (ak σ r (aD k x own tags .anon kp)) (aB α r (0,0) cs fo) F' w (.ref r 0) v:=by
 have hk:(aD k x own tags .anon kp).kind=.anon:=rfl
 obtain ⟨h1,h2⟩:=Dz (R':=aD k x own tags .anon kp) H hn hx rfl (by simp [aD]) hwt (0,0) cs fo F'
  (fun b hb=>by rw [fO hk] at hb; exact ⟨hsub b hb,fun h=>(hF' b h).2 hb⟩) (by rw [fO hk]; exact hnd) (fun b hb=>(hF' b hb).1) Eg
  (fun hc=>by rw [fO hk]; exact how hc) hlen (fun b o hb=>by rw [q8 hk] at hb; simp at hb)
 exact ⟨h1,LW hv⟩
theorem qN {k:K} {x:El k} {own:List TypeId} {tags:List Tag} {v:Value} {cs:List Value} {fo:List Nat} (H:Rel cx σ α F a w) (hn:σ.roots r=none) (hx:eH r=false)
  (hsub:∀b∈fo,b∈F) (hnd:fo.Nodup) (hwt:dW σ tags) {F':List Nat} (hF':∀b∈F',b∈F∧b∉fo) (Eg:F'.Nodup) (hlen:cs.length=k.size)
  (how:aU σ (aK own k) tags=true→Ow (hp w) own (fun b=>gy cx σ α F w tags b∨(b∈F∧b∉F'∧b∉fo)) k x cs fo) (hv:VC k v cs) (kp:Bool) :
  ∃α',Rel cx (ak σ r (aD k x own tags .anon kp)) α' F' a w∧bz cx (ak σ r (aD k x own tags .anon kp)) α' F' w (.ref r 0) v:=
 ⟨_,Bo H hn hx hsub hnd hwt hF' Eg hlen how hv kp⟩
end
end
section
open Go
variable [Fr]
def lS (P:Program) (cx:Cx) (o:Oper) (a:Act) (w:World) (σ':St):Prop:=
 ∃v w' α' F',((execOp a.eval o).run P w=.ok (.value v) w'∨((execOp a.eval o).run P w=.ok .skip w'∧v=undef))∧Rel cx σ' α' F' (a.put o.dst v) w'
theorem lS.wp {P:Program} {cx:Cx} {o:Oper} {a:Act} {w:World} {σ':St} (h:lS P cx o a w σ') {K:Act→World→Prop} {Q:Exit→Act→World→Prop}
  (hK:∀α' F' a' w',Rel cx σ' α' F' a' w'→K a' w'):o.wp P a w K Q:=by
 obtain ⟨v,w',α',F',h | ⟨h,rfl⟩,h2⟩:=h
 ·unfold Oper.wp; rw [h]; exact hK _ _ _ _ h2
 ·unfold Oper.wp; rw [h]; exact hK _ _ _ _ h2
section
variable {P:Program} {T:gL} {cx:Cx} {σ:St} {α:dA} {F:List Nat} {a:Act} {w:World} {o:Oper} {d:Nat} {ws:List Wr}
theorem bB (H:Rel cx σ α F a w) (hd:o.dst=some d) (hdn:d<cx.nt) {x:qH} {v:Value} (hrun:(execOp a.eval o).run P w=.ok (.value v) w) (hx:iK cx σ α F w x v) (hw:rF σ x) :
  lS P cx o a w (aj [.s d x] σ):=by
 refine ⟨v,w,α,F, .inl hrun, ?_⟩
 rw [hd]
 exact H.put hdn hw hx
theorem gq {σ1:St} {fB:dA} {F1:List Nat} {w1:World} (H:Rel cx σ1 fB F1 a w1) (hd:o.dst=some d) (hdn:d<cx.nt) {x:qH} {v:Value} (hrun:(execOp a.eval o).run P w=.ok (.value v) w1) (hx:iK cx σ1 fB F1 w1 x v) (hw:rF σ1 x) :
  lS P cx o a w (aj [.s d x] σ1):=by
 refine ⟨v,w1,fB,F1, .inl hrun, ?_⟩
 rw [hd]
 exact H.put hdn hw hx
theorem eY {A:Type} {z:A} {r:Nat} {k:Prog A} (h:(gG r k).ends σ z):σ.roots r=none∧k.ends σ z:=by
 unfold gG at h
 simp only [Prog.ends] at h
 cases hr:σ.roots r with
 | none=>rw [hr] at h; exact ⟨rfl,h⟩
 | some R=>rw [hr] at h; exact h.elim
theorem az {A:Type} {z x:A} (h:(Prog.ret x).ends σ z):z=x:=h
theorem KI (H:Rel cx σ α F a w) (hd:o.dst=some d) (hdn:d<cx.nt) {x:Operand} (ho:o.op=.move x) (h:(nS x fun v=>(.ret [.s d v]:Prog (List Wr))).ends σ ws):lS P cx o a w (aj ws σ):=by
 obtain ⟨v,h1,h2,h3⟩:=mX H h
 rw [az h3]
 exact bB H hd hdn (by simp [execOp,ho]) h1 h2
theorem eP.sl {t:TypeId} {e:TypeId} {k:K} (h:eP P T t (.sl e k)):P.underlying t=some (.slice e)∧eP P T e k∧0<k.size∧∃i,P.info? e=some i∧i.bytes=T.bytes e∧0<i.bytes:=by
 unfold eP iC at h
 exact ⟨h.1,h.2.2.1,h.2.2.2.1,h.2.2.2.2⟩
theorem tX {e:TypeId} {k:K} {c:Option Addr} {own:List TypeId} {ok:Nat→Prop} {h:Heap}:Ow h own ok (.sl e k) ([]:List (El k)) [.slice c 0 0] []:=by
 unfold Ow
 split
 ·exact ⟨c,0,0,rfl,rfl,abI _, .inl ⟨rfl,rfl⟩⟩
 ·exact ⟨rfl,c,0,0,rfl,rfl,abI _,fun h=>by omega⟩
theorem FX {L:K→List TypeId} (H:Rel cx σ α F a w) (hd:o.dst=some d) (hdn:d<cx.nt) {x:Operand} (ho:o.op=.assign x)
  (h:(nS x fun
   | .one .gK=>match T.ty o.type with
    | some (.sl e kk)=>.root (aS d 0) fun
     | none=>.ret [.r (aS d 0) (some (aD (.sl e kk) [] (e :: L kk) [] .anon)), .s d (.one (.ref (aS d 0) 0))]
     | some _=>.ret [.s d (.one .gK)]
    | _=>.fail
   | v=>(.ret [.s d v]:Prog (List Wr))).ends σ ws):lS P cx o a w (aj ws σ):=by
 obtain ⟨v,h1,h2,h3⟩:=mX H h
 have hrun:(execOp a.eval o).run P w=.ok (.value (a.eval x)) w:=by simp [execOp,ho]
 have key:ws=[.s d v]→lS P cx o a w (aj ws σ):=fun e=>by rw [e]; exact bB H hd hdn hrun h1 h2
 cases v with
 | Cb l=>exact key (az h3)
 | lit _ _ _=>exact key (az h3)
 | one v=>
  cases v with
  | gK=>
   have h1':=h1
   obtain ⟨c,hc⟩:=h1
   simp only at h3
   split at h3
   ·rename_i e kk hty
    simp only [Prog.ends] at h3
    cases g1:σ.roots (aS d 0) with
    | some Q=>
     rw [g1] at h3
     exact key (az h3)
    | none=>
    rw [g1] at h3
    have g2:=h3
    rw [az g2]
    obtain ⟨α',k1,k2⟩:=qN (k:=.sl e kk) (x:=([]:List (El kk))) (own:=e :: L kk) (tags:=[]) (v:=a.eval x) (cs:=[.slice c 0 0]) (fo:=[]) (r:=aS d 0) (F':=F) H g1 (dZ d 0) (fun b hb=>by simp at hb) List.nodup_nil (fun t ht=>by simp at ht)
     (fun b hb=>⟨hb,by simp⟩) H.rZ rfl (fun _=>tX) (by rw [hc]; exact wK) false
    exact gq (x:=.one (.ref (aS d 0) 0)) k1 hd hdn hrun k2 ⟨_,aF .., .inr (ab0 _)⟩
   ·exact h3.elim
  | _=>exact key (az h3)
theorem KJ (H:Rel cx σ α F a w) (hd:o.dst=some d) (hdn:d<cx.nt) {c x y:Operand} (ho:o.op=.pick c x y)
  (h:(dz c fun c=>asBool c fun c=>nS x fun v=>nS y fun u=>.br c (.ret [.s d v]) ((.ret [.s d u]):Prog (List Wr))).ends σ ws):lS P cx o a w (aj ws σ):=by
 obtain ⟨vc,h1,_,h⟩:=bI H h
 obtain ⟨b,h2,h⟩:=yV h1 h
 obtain ⟨v,h3,h4,h⟩:=mX H h
 obtain ⟨u,h5,h6,h⟩:=mX H h
 rcases h with ⟨hb,h⟩ | ⟨hb,h⟩
 ·rw [az h]
  exact bB H hd hdn (by simp [execOp,ho,h2,hb,Go.asBool]) h3 h4
 ·rw [az h]
  exact bB H hd hdn (by simp [execOp,ho,h2,hb,Go.asBool]) h5 h6
theorem eP.shape {t:TypeId} {k:K} (h:eP P T t k):(∀a b,k≠.pair a b)∧k≠.unit∧∀n,k≠.gap n:=by
 unfold eP iC at h
 refine ⟨fun a b e=>?_,fun e=>?_,fun n e=>?_⟩ <;> subst e <;> exact h.elim
theorem fP {own:List TypeId} {k:K} (h:∀t∈k.tys,aA t own=true):aK own k=[]:=by
 cases he:aK own k with
 | nil=>rfl
 | cons t l=>
  exfalso
  have key:∀(k:K),(∀t∈k.tys,aA t own=true)→∀t,t∉aK own k:=by
   intro k
   induction k with
   | sl e k ih=>
    intro h t ht
    simp only [aK,h e (by simp [K.tys]),cond_true] at ht
    exact ih (fun t ht=>h t (by simp [K.tys,ht])) t ht
   | pair a b iha ihb=>
    intro h t ht
    simp only [aK,abB] at ht
    rcases ht with ht | ht
    ·exact iha (fun t ht=>h t (by simp [K.tys,ht])) t ht
    ·exact ihb (fun t ht=>h t (by simp [K.tys,ht])) t ht
   | st f ih=>intro h t ht; exact ih h t ht
   | _=>intro _ t ht; simp [aK] at ht
  exact key k h t (by rw [he]; simp)
theorem JI {l:List Nat}:∀t∈l,aA t l=true:=fun t ht=>bu.2 ht
theorem I7 (hT:dO P T) (H:Rel cx σ α F a w) (hd:o.dst=some d) (hdn:d<cx.nt) {t:TypeId} (ho:o.op=.alloc t)
  (h:(match T.ty t with
   | some kk=>gG (aS d 0) (.ret [Wr.r (aS d 0) (some (aD kk kk.zero kk.tys [] (.var t))),Wr.s d (.one (.ptr (aS d 0) [] 0))])
   | none=>(.fail:Prog (List Wr))).ends σ ws):lS P cx o a w (aj ws σ):=by
 split at h
 ·rename_i kk hty
  have ht:=hT.ty t kk hty
  obtain ⟨g1,g2⟩:=eY h
  rw [az g2]
  obtain ⟨s1,s2,s3⟩:=ht.shape
  have hz:Ow (hp w) kk.tys (gy cx σ α F w []) kk kk.zero (bD kk) []:=wO ht.dV JI
  obtain ⟨k0,α',F',k1,k2⟩:=Hw (P:=P) (tk:=⟨kk,kk.zero,kk.tys,[],[],false⟩) (t:=t) (v:=mJ kk) (cs:=bD kk) (fo:=[]) (r:=aS d 0) H g1 (dZ d 0)
   ⟨fun _=>hz,fun t ht=>by simp at ht,fun b hb=>by simp at hb,List.nodup_nil,cz hz⟩ rfl (IG s1 s2 s3) false
  have e0:(gp.fH ⟨kk,kk.zero,kk.tys,[],[],false⟩)=[]:=by unfold gp.fH; split <;> rfl
  rw [e0] at k1 k2
  exact gq (x:=.one (.ptr (aS d 0) [] 0)) k1 hd hdn (by
   have:=ET (P:=P) ht w
   simp only [execOp,ho,abR,this,abK,abW]) k2 ⟨_,aF .., .inr (ab0 _)⟩
 ·exact h.elim
theorem Cz (H:Rel cx σ α F a w) (hd:o.dst=some d) (hdn:d<cx.nt) {x:Operand} (ho:o.op=.nilCheck x)
  (h:(dz x fun
   | .ptr r p h=>.ret [.s d (.one (.ptr r p h))]
   | .gV bt kk y tags=>.ret [.s d (.one (.gV bt kk y tags))]
   | _=>(.fail:Prog (List Wr))).ends σ ws):lS P cx o a w (aj ws σ):=by
 obtain ⟨v,h1,h2,h⟩:=bI H h
 cases v with
 | ptr r p n=>
  rw [az h]
  obtain ⟨b,q,hv⟩:=h1.1
  exact bB (v:=a.eval x) H hd hdn (by simp [execOp,ho,hv]) h1 h2
 | gV bt kk y tags=>
  rw [az h]
  obtain ⟨b,q,hv⟩:=h1.1
  exact bB (v:=a.eval x) H hd hdn (by simp [execOp,ho,hv]) h1 h2
 | _=>exact h.elim
end
end
end Go.Proofs.Ytabnmpabdhmkoaa.Ow
