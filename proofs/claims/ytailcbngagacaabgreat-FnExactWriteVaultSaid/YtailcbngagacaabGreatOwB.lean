/- A verified reading of translated code: values in place of memory; part B of 6, spaces and remarks taken out. No condition. Own work of this seat. -/
import Derived.Test.YtailcbngagacaabGreatOwA
set_option linter.unusedSectionVars false
set_option linter.unusedVariables false
set_option linter.unusedSimpArgs false
namespace Go.Proofs.YtailcbngagacaabGreat.Ow
section
open Go
variable [Fr]
theorem upd_same {A:Type} (f:Nat→A) (n:Nat) (v:A):upd f n v n=v:=by simp [upd]
theorem upd_ne {A:Type} (f:Nat→A) {n m:Nat} (v:A) (h:m≠n):upd f n v m=f m:=by
 unfold upd
 cases h':Nat.beq m n with
 | true=>exact absurd (anl h') h
 | false=>rfl
structure Same (σ:St) (α:dL) (σ':St) (α':dL) (r:Nat):Prop where
 root:σ'.roots r=σ.roots r
 loc:α'.loc r=α.loc r
 hdr:α'.hdr r=α.hdr r
 fo:α'.fo r=α.fo r
theorem Same.wh {σ σ':St} {α α':dL} {r:Nat} (h:Same σ α σ' α' r) (R:Root):dV α' R r=dV α R r:=by unfold dV; rw [h.loc]
theorem Same.blk {σ σ':St} {α α':dL} {r:Nat} (h:Same σ α σ' α' r) (R:Root):blk α' R r=blk α R r:=by unfold Ow.blk; rw [h.wh,h.fo]
theorem Same.live {σ σ':St} {α α':dL} {r:Nat} (h:Same σ α σ' α' r) (R:Root):aP σ' r R↔aP σ r R:=by unfold aP; rw [h.root]
def Stepped (σ:St) (α:dL) (σ':St) (α':dL) (lw lh:Nat→List Nat) (r:Nat) (R R':Root):Prop:=
 R'.w=lw r++R.w∧R'.h=lh r++R.h∧R.g≤R'.g∧R'.kind=R.kind∧α'.loc r=α.loc r∧(R.kind=.par→R'.k.size=R.k.size)∧((lw r≠[]∨lh r≠[])∨(lw r=[]∧lh r=[]∧Same σ α σ' α' r))
def Loose (cx:Cx) (σ':St) (lw:Nat→List Nat) (w:World) (r b:Nat):Prop:=
 (∀R',σ'.roots r=some R'→R'.bg=true)∨(∃e∈lw r,qM (hp w) b=some e)∨(lN cx b∧lw r≠[])
structure ni (cx:Cx) (σ:St) (α:dL) (F:List Nat) (w:World) (σ':St) (α':dL) (F':List Nat) (w':World) (lw lh:Nat→List Nat):Prop where
 slots:σ'.slots=σ.slots
 os:w'.os=w.os∧w'.tape=w.tape∧w'.output=w.output
 size:w.heap.size≤w'.heap.size
 old:∀r R,σ.roots r=some R→∃R',σ'.roots r=some R'∧((R'.bg=true∧R.kind≠.par)∨(R.bg=false∧Stepped σ α σ' α' lw lh r R R'))
 wr:∀r R',σ'.roots r=some R'→¬Same σ α σ' α' r→eY σ' R'.tags∧fI r=false∧(∀n,(r,n)∉R'.tags)
 agl:∀r R',σ.roots r=none→σ'.roots r=some R'→R'.kind≠.par
 QL:∀b,b<w.heap.size→hp w' b≠hp w b→b∈F∨∃r R,aP σ r R∧b∈blk α R r∧Loose cx σ' lw w r b
 new:∀b,((∃r R',aP σ' r R'∧b∈blk α' R' r∧¬∃R,aP σ r R∧b∈blk α R r)∨b∈F')→b∈F∨(w.heap.size≤b∧b<w'.heap.size)∨∃r R,aP σ r R∧b∈blk α R r∧Loose cx σ' lw w r b
 zV:F'.Nodup
 iP:∀r R',aP σ' r R'→¬Same σ α σ' α' r→∀b∈blk α' R' r,b∉F'
 Iu:∀r R r' R',aP σ' r R→aP σ' r' R'→r≠r'→¬Same σ α σ' α' r→¬Same σ α σ' α' r'→∀b∈blk α' R r,b∉blk α' R' r'
 base:∀j pi b o n,cx.par j=some pi→pi.base=some (b,o,n)→hp w' b≠hp w b→gM (hp cx.w0) (hp w') b o n
 ev:∀r R R',σ.roots r=some R→σ'.roots r=some R'→R'.bg=false→R'.ew=R.ew∧R'.eh=R.eh
section
variable {cx:Cx} {σ:St} {α:dL} {F:List Nat} {a:Act} {w:World} {σ':St} {α':dL} {F':List Nat} {w':World} {lw lh:Nat→List Nat}
theorem ni.tag (T:ni cx σ α F w σ' α' F' w' lw lh) {t:Tag} (h:EO σ t):EO σ' t:=by
 rcases h with h | ⟨R,h1,h2⟩
 ·exact .inl h
 ·obtain ⟨R',g1,g2⟩:=T.old _ R h1
  refine .inr ⟨R',g1, ?_⟩
  rcases g2 with ⟨g2,_⟩ | ⟨gd,g2,_⟩
  ·exact .inl g2
  ·rcases h2 with h2 | h2
   ·rw [gd] at h2; simp at h2
   ·right
    rw [g2]
    simp only [pE,anp] at h2 ⊢
    omega
theorem ni.rG (T:ni cx σ α F w σ' α' F' w' lw lh) {x:AV} (h:rG σ x):rG σ' x:=by
 have key:∀(q:Nat) (f:Root→Nat) (n:Nat),(∀R R',Stepped σ α σ' α' lw lh q R R'→f R≤f R')→(∃Q,σ.roots q=some Q∧(Q.bg=true∨n≤f Q))→∃Q,σ'.roots q=some Q∧(Q.bg=true∨n≤f Q):=by
  intro q f n hf ⟨Q,h1,h2⟩
  obtain ⟨R',g1,g2⟩:=T.old _ Q h1
  refine ⟨R',g1, ?_⟩
  rcases g2 with ⟨g2,_⟩ | ⟨gd,g2⟩
  ·exact .inl g2
  ·rcases h2 with h2 | h2
   ·rw [gd] at h2; simp at h2
   ·exact .inr (Nat.le_trans h2 (hf _ _ g2))
 cases x with
 | undef=>trivial
 | val k x Tg=>exact fun t ht=>T.tag (h t ht)
 | iQ=>trivial
 | ref q g=>exact key q (·.g) g (fun R R' h=>h.2.2.1) h
 | JA q g k p=>exact key q (·.g) g (fun R R' h=>h.2.2.1) h
 | sM q p n=>exact key q Root.wK n (fun R R' h=>by simp only [Root.wK,h.1,h.2.1,pE,anp]; omega) h
 | ptr q p n=>exact key q (fun R=>gH R.h) n (fun R R' h=>by simp only [h.2.1,pE,anp]; omega) h
 | iZ bt k x Tg=>exact fun t ht=>T.tag (h t ht)
 | rV=>trivial
 | Aj _=>trivial
 | part q g _ _ _=>exact key q (·.g) g (fun R R' h=>h.2.2.1) h
 | xU q p n _=>exact key q Root.wK n (fun R R' h=>by simp only [Root.wK,h.1,h.2.1,pE,anp]; omega) h
 | app q p n q2=>
  refine ⟨key q Root.wK n (fun R R' h=>by simp only [Root.wK,h.1,h.2.1,pE,anp]; omega) h.1, ?_⟩
  obtain ⟨R,hR⟩:=h.2
  obtain ⟨R',g1,_⟩:=T.old _ R hR
  exact ⟨R',g1⟩
 | fn f cs=>exact fun c hc t ht=>T.tag (h c hc t ht)
theorem ni.xO (T:ni cx σ α F w σ' α' F' w' lw lh) {x:xJ} (h:xO σ x):xO σ' x:=by
 cases x with
 | one a=>exact T.rG h
 | KX l=>exact fun a ha=>T.rG (h a ha)
 | lit _ _ l=>exact fun a ha=>T.rG (h a ha)
theorem ni.held (H:Rel cx σ α F a w) (T:ni cx σ α F w σ' α' F' w' lw lh) {Tg:List Tag} {tys:List TypeId} (hw:eY σ Tg) (hc:bq σ' tys Tg=true) {r n b:Nat} {R:Root} (hr:aP σ r R) (hn:(r,n)∈Tg) (hbr:b∈blk α R r)
  (hty:(∃t∈tys,vO (hp w) b t)∧¬lN cx b∨∀t∈Tg,fI t.1=true):clean R.w n tys=true∧¬Loose cx σ' lw w r b:=by
 have hnr:fI r=false:=(H.dz r R hr.1).2.1
 rw [oF] at hc
 rcases hc (r,n) hn with h | ⟨Q,h1,h2,h3⟩
 ·simp only at h; rw [hnr] at h; simp at h
 ·obtain ⟨R',g1,g2⟩:=T.old _ R hr.1
  simp only at h1 h3
  rw [g1] at h1
  simp only [anh] at h1
  subst h1
  rcases g2 with ⟨g2,_⟩ | ⟨gd,g2,_⟩
  ·rw [h2] at g2; simp at g2
  ·have hb:n≤gH R.w:=by
    rcases hw (r,n) hn with h | ⟨Q,q1,q2⟩
    ·simp only at h; rw [hnr] at h; simp at h
    ·simp only at q1 q2
     rw [hr.1] at q1
     simp only [anh] at q1
     subst q1
     rcases q2 with q2 | q2
     ·rw [hr.2] at q2; simp at q2
     ·exact q2
   rw [g2,pg hb] at h3
   refine ⟨h3.2, ?_⟩
   rintro (hx | ⟨e,he,hel⟩ | ⟨hx,_⟩)
   rotate_left 2
   ·rcases hty with ⟨_,hnb⟩ | hty
    ·exact hnb hx
    ·have:=hty (r,n) hn
     simp only at this
     rw [hnr] at this
     simp at this
   ·have:=hx R' g1
    rw [h2] at this
    simp at this
   ·rcases hty with ⟨⟨t,ht,Xx⟩,_⟩ | hty
    ·have Xx:=H.SN ((H.roots r R hr).mine b hbr) Xx
     rw [hel] at Xx
     simp only [anh] at Xx
     subst Xx
     exact h3.1 e he ht
    ·have:=hty (r,n) hn
     simp only at this
     rw [hnr] at this
     simp at this
theorem ni.views (H:Rel cx σ α F a w) (T:ni cx σ α F w σ' α' F' w' lw lh):Views cx σ α F w σ' α' F' w':=by
 intro Tg tys hw hc
 refine ⟨?_, ?_⟩
 ·rw [oF]
  intro t ht
  have hc':=oF.1 hc t ht
  rcases hw t ht with h | ⟨R,h1,h2⟩
  ·exact .inl h
  ·cases hd:R.bg with
   | false=>
    refine .inr ⟨R,h1,hd, ?_⟩
    rcases hc' with hx | ⟨Q,q1,q2,q3⟩
    ·have:=(H.dz _ _ h1).2.1
     rw [hx] at this
     simp at this
    ·obtain ⟨R',g1,g2⟩:=T.old _ R h1
     rw [g1] at q1
     simp only [anh] at q1
     subst q1
     rcases g2 with ⟨g2,_⟩ | ⟨_,g2,_⟩
     ·rw [q2] at g2; simp at g2
     ·rcases h2 with h2 | h2
      ·rw [hd] at h2; simp at h2
      ·rw [g2,pg h2] at q3
       exact q3.2
   | true=>
    rcases hc' with hx | ⟨Q,q1,q2,q3⟩
    ·exact .inl hx
    ·obtain ⟨R',g1,g2⟩:=T.old _ R h1
     rw [g1] at q1
     simp only [anh] at q1
     subst q1
     rcases g2 with ⟨g2,_⟩ | ⟨g2,_⟩
     ·rw [q2] at g2; simp at g2
     ·rw [hd] at g2; simp at g2
 ·have hQ:∀b,Kw σ α F w Tg b→((∃t∈tys,vO (hp w) b t)∧¬lN cx b∨∀t∈Tg,fI t.1=true)→Kw σ' α' F' w' Tg b∧hp w' b=hp w b:=by
   intro b hb hty
   obtain ⟨hb1,hb2,hb3⟩:=hb
   have hno:¬∃r R,aP σ r R∧b∈blk α R r∧Loose cx σ' lw w r b:=by
    rintro ⟨r,R,hr,hbr,hl⟩
    obtain ⟨n,hn⟩:=hb3 r R hr hbr
    exact (T.held H hw hc hr hn hbr hty).2 hl
   have hsame:hp w' b=hp w b:=by
    refine anF fun hne=>?_
    rcases T.QL b hb1 hne with h | h
    ·exact hb2 h
    ·exact hno h
   have hnew:¬(b∈F∨(w.heap.size≤b∧b<w'.heap.size)∨∃r R,aP σ r R∧b∈blk α R r∧Loose cx σ' lw w r b):=by
    rintro (h | h | h)
    ·exact hb2 h
    ·omega
    ·exact hno h
   refine ⟨⟨Nat.lt_of_lt_of_le hb1 T.size,fun hF=>hnew (T.new b (.inr hF)), ?_⟩,hsame⟩
   intro q Q hq hbq
   by_cases e:∃R,aP σ q R∧b∈blk α R q
   ·obtain ⟨R,hR,hbR⟩:=e
    exact hb3 q R hR hbR
   ·exact absurd (T.new b (.inl ⟨q,Q,hq,hbq,e⟩)) hnew
  refine ⟨fun b hb hty=>?_,hQ⟩
  obtain ⟨hb1,hb2,hb5,hb3,hb4⟩:=hb
  obtain ⟨⟨g1,g2,g3⟩,g4⟩:=hQ b ⟨hb1,hb2,hb3⟩ (hty.imp (fun h=>⟨h,hb5⟩) id)
  exact ⟨⟨g1,g2,hb5,g3,hb4⟩,g4⟩
theorem ni.stay (H:Rel cx σ α F a w) (T:ni cx σ α F w σ' α' F' w' lw lh) {q:Nat} {Q:Root} (hq:aP σ q Q) (hs:Same σ α σ' α' q):∀b∈blk α Q q,¬(b∈F∨(w.heap.size≤b∧b<w'.heap.size)∨∃r R,aP σ r R∧b∈blk α R r∧Loose cx σ' lw w r b):=by
 rintro b hb (h | h | ⟨r,R,hr,hbr,hl⟩)
 ·exact H.iP q Q hq b hb h
 ·have:=((H.roots q Q hq).mine b hb).1; omega
 ·by_cases e:q=r
  ·subst e
   obtain ⟨R',g1,g2⟩:=T.old _ Q hq.1
   have hR':R'=Q:=by
    have:=hs.root
    rw [g1,hq.1] at this
    simpa using this
   subst hR'
   rcases g2 with ⟨g2,_⟩ | ⟨_,g2,_⟩
   ·rw [hq.2] at g2; simp at g2
   ·have hw0:lw q=[]:=by
     have:=congrArg List.length g2
     simp at this
     exact this
    rcases hl with hl | ⟨e,he,_⟩ | ⟨_,hl⟩
    ·have:=hl R' g1
     rw [hq.2] at this
     simp at this
    ·rw [hw0] at he; simp at he
    ·exact hl hw0
  ·exact H.Iu q Q r R hq hr e b hb hbr
theorem ni.other (H:Rel cx σ α F a w) (T:ni cx σ α F w σ' α' F' w' lw lh) {q:Nat} {Q:Root} (hq:aP σ q Q) (hs:Same σ α σ' α' q):∀b∈blk α Q q,hp w' b=hp w b:=by
 intro b hb
 refine anF fun hne=>?_
 have:=T.stay H hq hs b hb
 rcases T.QL b ((H.roots q Q hq).mine b hb).1 hne with h | h
 ·exact this (.inl h)
 ·exact this (.inr (.inr h))
theorem ni.av (H:Rel cx σ α F a w) (T:ni cx σ α F w σ' α' F' w' lw lh)
  (FU:∀r R,aP σ r R→¬Same σ α σ' α' r→∀p n v,n≤gH R.h→bI cx σ α F w (.ptr r p n) v→bI cx σ' α' F' w' (.ptr r p n) v)
  (Cc:∀r R,aP σ r R→¬Same σ α σ' α' r→∀g v,g≤R.g→bI cx σ α F w (.ref r g) v→bI cx σ' α' F' w' (.ref r g) v)
  {x:AV} {v:Value} (hx:Ow.rG σ x) (h:bI cx σ α F w x v):bI cx σ' α' F' w' x v:=by
 have hV:=T.views H
 have Cb:∀{q:Nat} {Q:Root} {p:List Stp},σ.roots q=some Q→Same σ α σ' α' q→bu σ' Q→ng p Q.k Q.x→(∀t∈ah p Q.k,az t Q.own=true)→
   bG (hp w') p Q.k (α'.hdr q) (dV α' Q q)=bG (hp w) p Q.k (α.hdr q) (dV α Q q):=by
  intro q Q p hq hs hv hin hty
  have hv':=vC hV (H.dz q Q hq).1 hv
  have hlive:aP σ q Q:=⟨hq,hv'.1⟩
  rw [hs.hdr,hs.wh]
  exact Kr p ((H.roots q Q hlive).ow hv') hin hty (fun b hb=>T.other H hlive hs b (anj _ hb))
 have hlive:∀{q:Nat} {Q R':Root},σ.roots q=some Q→σ'.roots q=some R'→R'.bg=false→aP σ q Q∧Stepped σ α σ' α' lw lh q Q R':=by
  intro q Q R' h1 h2 hd
  obtain ⟨R'',g1,g2⟩:=T.old _ Q h1
  rw [h2] at g1
  simp only [anh] at g1
  subst g1
  rcases g2 with ⟨g2,_⟩ | ⟨gd,g2⟩
  ·rw [hd] at g2; simp at g2
  ·exact ⟨⟨h1,gd⟩,g2⟩
 have XM:∀q g v,Ow.rG σ (.ref q g)→bI cx σ α F w (.ref q g) v→bI cx σ' α' F' w' (.ref q g) v:=by
  intro q g v hx h
  obtain ⟨Q,h1,h2⟩:=hx
  intro R' hR' hg
  obtain ⟨hl,hst⟩:=hlive h1 hR'.1 hR'.2
  by_cases e:Same σ α σ' α' q
  ·have hQ:R'=Q:=by
    have:=e.root
    rw [hR'.1,h1] at this
    simpa using this
   subst hQ
   have:=h R' hl hg
   rw [e.hdr]
   exact this
  ·rcases h2 with h2 | h2
   ·rw [hl.2] at h2; simp at h2
   ·exact Cc q Q hl e g v h2 h R' hR' hg
 have aa7:∀{q:Nat} {Q R':Root} {n:Nat},σ.roots q=some Q→(Q.bg=true∨n≤Q.wK)→σ'.roots q=some R'→R'.bg=false→R'.wK=n→aP σ q Q∧Same σ α σ' α' q:=by
  intro q Q R' n h1 h2 hR' hd hn
  obtain ⟨hl,hst⟩:=hlive h1 hR' hd
  obtain ⟨s1,s2,_,_,_,_,s6⟩:=hst
  rcases s6 with s6 | ⟨_,_,e⟩
  ·exfalso
   rcases h2 with h2 | h2
   ·rw [hl.2] at h2; simp at h2
   ·simp only [Root.wK,s1,s2,pE,anp] at hn h2
    rcases s6 with g5 | g5 <;> (have:=List.length_pos_iff.2 g5; omega)
  ·exact ⟨hl,e⟩
 cases x with
 | undef=>trivial
 | val k x Tg=>
  intro hc
  rcases hc with hc | hc
  ·obtain ⟨cs,h1,h2⟩:=h (.inl hc)
   exact ⟨cs,h1,iV hc h2⟩
  ·obtain ⟨cs,h1,h2⟩:=h (.inr (hV Tg _ hx hc).1)
   exact ⟨cs,h1,hV.vw hx hc (fun _ h=>h) h2⟩
 | iQ=>exact h
 | ref q g=>exact XM q g v hx h
 | JA q g k p=>
  obtain ⟨u,b,off,k1,e1,hq,hc,e2,hr⟩:=h
  obtain ⟨h1,h2⟩:=(hV [] [] (fun _ h=>by simp at h) rfl).2.2 b hq (.inr (fun _ h=>by simp at h))
  exact ⟨u,b,off,k1,e1,h1,hc.congr h2,e2,XM q g u hx hr⟩
 | sM q p n=>
  obtain ⟨Q,h1,h2⟩:=hx
  intro R' hR' hv hn d hd
  obtain ⟨hl,hst⟩:=hlive h1 hR' hv.1
  obtain ⟨s1,s2,_,_,_,_,s6⟩:=hst
  rcases s6 with s6 | ⟨_,_,e⟩
  ·exfalso
   rcases h2 with h2 | h2
   ·rw [hl.2] at h2; simp at h2
   ·simp only [Root.wK,s1,s2,pE,anp] at hn h2
    rcases s6 with g5 | g5 <;> (have:=List.length_pos_iff.2 g5; omega)
  ·have hQ:R'=Q:=by
    have:=e.root
    rw [hR',h1] at this
    simpa using this
   subst hQ
   have hv':=vC hV (H.dz q R' h1).1 hv
   obtain ⟨h1',h2',cs,wh,h3,h4⟩:=h R' h1 hv' hn d hd
   exact ⟨h1',h2',cs,wh,by rw [Cb h1 e hv h1' h2']; exact h3,h4⟩
 | ptr q p n=>
  obtain ⟨Q,h1,h2⟩:=hx
  refine ⟨h.1, ?_⟩
  intro R' hR' hv hn hty hs
  obtain ⟨hl,hst⟩:=hlive h1 hR' hv.1
  by_cases e:Same σ α σ' α' q
  ·have hQ:R'=Q:=by
    have:=e.root
    rw [hR',h1] at this
    simpa using this
   subst hQ
   have hv':=vC hV (H.dz q R' h1).1 hv
   obtain ⟨h1',cs,b,o,h3,h4⟩:=h.2 R' h1 hv' hn hty hs
   exact ⟨h1',cs,b,o,by rw [Cb h1 e hv h1' hty]; exact h3,h4⟩
  ·rcases h2 with h2 | h2
   ·rw [hl.2] at h2; simp at h2
   ·exact (FU q Q hl e p n v h2 h).2 R' hR' hv hn hty hs
 | iZ bt k x Tg=>exact hV.ro hx h
 | rV=>exact h
 | Aj _=>exact h
 | part q g lo hi sz=>
  obtain ⟨b',b,n,c,e1,e2,e3,e4,e5,hr⟩:=h
  exact ⟨b',b,n,c,e1,e2,e3,e4,e5,XM q g (.slice b n c) hx hr⟩
 | xU q p n m=>
  obtain ⟨Q,h1,h2⟩:=hx
  obtain ⟨b,c,ev,h⟩:=h
  refine ⟨b,c,ev, ?_⟩
  intro R' hR' hv hn d hd
  obtain ⟨hl,e⟩:=aa7 h1 h2 hR' hv.1 hn
  have hQ:R'=Q:=by
   have:=e.root
   rw [hR',h1] at this
   simpa using this
  subst hQ
  have hv':=vC hV (H.dz q R' h1).1 hv
  obtain ⟨h1',h2',n',wh,h3,h4⟩:=h R' h1 hv' hn d hd
  exact ⟨h1',h2',n',wh,by rw [Cb h1 e hv h1' h2']; exact h3,h4⟩
 | app q p n q2=>
  obtain ⟨⟨Q,h1,h2⟩,⟨Q2,h12⟩⟩:=hx
  intro R' hR' hv hn R2 hR2 hn2
  obtain ⟨hl,e⟩:=aa7 h1 h2 hR' hv.1 hn
  have hQ:R'=Q:=by
   have:=e.root
   rw [hR',h1] at this
   simpa using this
  subst hQ
  obtain ⟨hl2,akx⟩:=hlive h12 hR2.1 hR2.2
  have e2:Same σ α σ' α' q2:=by
   obtain ⟨s1,s2,_,_,_,_,s6⟩:=akx
   rcases s6 with s6 | ⟨_,_,e⟩
   ·exfalso
    simp only [Root.wK,s1,s2,pE,anp] at hn2
    rcases s6 with g5 | g5 <;> (have:=List.length_pos_iff.2 g5; omega)
   ·exact e
  have hQ2:R2=Q2:=by
   have:=e2.root
   rw [hR2.1,h12] at this
   simpa using this
  subst hQ2
  have hv':=vC hV (H.dz q R' h1).1 hv
  obtain ⟨te,kk,xs,wh,b,m,c,ce,hq,b1,o1,c1,arr,lo,hi,a1,a2,a3,a4,a5,a6,a7,a8,a9,a10,WI,a12,a13,a14⟩:=h R' h1 hv' hn R2 hl2 hn2
  have hsR:∀b∈α.fo q,hp w' b=hp w b:=fun b hb=>T.other H hl e b (anj _ hb)
  have hsQ:∀b∈α.fo q2,hp w' b=hp w b:=fun b hb=>T.other H hl2 e2 b (anj _ hb)
  have hb1:hp w' b1=hp w b1:=by
   rcases a14 with ⟨_,h,_⟩ | ⟨_,h,_⟩
   ·exact hsR b1 h
   ·exact hsQ b1 h
  refine ⟨te,kk,xs,wh,b,m,c,ce,hq,b1,o1,c1,arr,lo,hi,a1,a2,a3,by rw [Cb h1 e hv a2 a3]; exact a4,a5,by rw [e2.hdr]; exact a6,a7,a8,a9,hb1.trans a10,WI,a12,a13.congr hb1, ?_⟩
  rcases a14 with ⟨z1,z2,z3⟩ | ⟨z1,z2,z3⟩
  ·exact .inl ⟨z1,by rw [e.fo]; exact z2,z3⟩
  ·refine .inr ⟨z1,by rw [e2.fo]; exact z2,fun hm=>?_⟩
   obtain ⟨b0,o0,y1,y2,y3⟩:=z3 hm
   exact ⟨b0,o0,y1,by rw [e.fo]; exact y2,fun i hi'=>by rw [uX hb1,uX (hsR b0 y2)]; exact y3 i hi'⟩
 | fn f cs=>
  obtain ⟨vs,h1,h2⟩:=h
  exact ⟨vs,h1,hV.caps hx h2⟩
theorem CQ {cx:Cx} {σ σ':St} {α α':dL} {F F':List Nat} {w w':World} {P:AV→Prop} (h:∀x v,P x→bI cx σ α F w x v→bI cx σ' α' F' w' x v) :
  ∀{l:List AV} {vs:List Value},(∀x∈l,P x)→dS cx σ α F w l vs→dS cx σ' α' F' w' l vs
 | [],[],_,_=>trivial
 | x :: l,v :: vs,hp,hl=>⟨h x v (hp x (by simp)) hl.1,CQ h (fun y hy=>hp y (by simp [hy])) hl.2⟩
 | [],_ :: _,_,hl=>hl.elim
 | _ :: _,[],_,hl=>hl.elim
theorem Ui {cx:Cx} {σ σ':St} {α α':dL} {F F':List Nat} {w w':World} (h:∀x v,rG σ x→bI cx σ α F w x v→bI cx σ' α' F' w' x v) {x:xJ} {v:Value} (hx:xO σ x) (hv:jd cx σ α F w x v):jd cx σ' α' F' w' x v:=by
 cases x with
 | one a=>exact h a v hx hv
 | KX l=>
  obtain ⟨vs,h1,h2⟩:=hv
  exact ⟨vs,h1,CQ h hx h2⟩
 | lit _ _ l=>
  obtain ⟨vs,cs,h1,h2⟩:=hv
  exact ⟨vs,cs,h1,CQ h hx h2⟩
theorem Rel.turn (H:Rel cx σ α F a w) (T:ni cx σ α F w σ' α' F' w' lw lh)
  (hroot:∀r R,aP σ' r R→¬Same σ α σ' α' r→(bu σ' R→Ow (hp w') R.own (iL cx σ' α' F' w' R.tags) R.k R.x (α'.hdr r) (α'.fo r))∧(α'.hdr r).length=R.k.size∧
   (∀b o,dV α' R r=some (b,o)→Cells (hp w') b o (α'.hdr r)∧∃arr e lo hi,hp w' b=some (.cells arr e (lo,hi))∧(∀i,i<arr.size→¬(lo≤i∧i<hi))∧o+R.k.size≤arr.size∧(∀t,R.kind=.var t→e=t))∧
   (blk α' R r).Nodup)
  (FU:∀r R,aP σ r R→¬Same σ α σ' α' r→∀p n v,n≤gH R.h→bI cx σ α F w (.ptr r p n) v→bI cx σ' α' F' w' (.ptr r p n) v)
  (Cc:∀r R,aP σ r R→¬Same σ α σ' α' r→∀g v,g≤R.g→bI cx σ α F w (.ref r g) v→bI cx σ' α' F' w' (.ref r g) v) :
  Rel cx σ' α' F' a w':=by
 have hV:=T.views H
 have XG:∀{r R b},aP σ r R→b∈blk α R r→mine cx w' b:=fun hr hb=>by
  have:=(H.roots _ _ hr).mine _ hb
  exact ⟨Nat.lt_of_lt_of_le this.1 T.size,this.2⟩
 have jD:∀b,(b∈F∨(w.heap.size≤b∧b<w'.heap.size)∨∃r R,aP σ r R∧b∈blk α R r∧Loose cx σ' lw w r b)→mine cx w' b:=by
  rintro b (hb | hb | ⟨r,R,hr,hb,_⟩)
  ·have:=H.fl b hb
   exact ⟨Nat.lt_of_lt_of_le this.1 T.size,this.2⟩
  ·exact ⟨hb.2, .inl (Nat.le_trans H.frame.2.2.2.1 hb.1)⟩
  ·exact XG hr hb
 have XF:∀{r R b},aP σ' r R→b∈blk α' R r→mine cx w' b:=by
  intro r R b hr hb
  by_cases e:∃Q,aP σ r Q∧b∈blk α Q r
  ·obtain ⟨Q,hQ,hbQ⟩:=e
   exact XG hQ hbQ
  ·exact jD b (T.new b (.inl ⟨r,R,hr,hb,e⟩))
 have PW:∀{q Q r R b},aP σ' q Q→Same σ α σ' α' q→aP σ' r R→r≠q→b∈blk α' Q q→b∉blk α' R r:=by
  intro q Q r R b hq hs hr hne hb hb'
  have hq':=(hs.live Q).1 hq
  rw [hs.blk] at hb
  by_cases e:∃R0,aP σ r R0∧b∈blk α R0 r
  ·obtain ⟨R0,h1,h2⟩:=e
   exact H.Iu q Q r R0 hq' h1 (Ne.symm hne) b hb h2
  ·exact T.stay H hq' hs b hb (T.new b (.inl ⟨r,R,hr,hb',e⟩))
 constructor
 ·exact H.defs
 ·exact H.sz
 ·intro j pi b o n hj hb
  obtain ⟨R,h1,h2,h3,h4⟩:=H.lQ j pi b o n hj hb
  obtain ⟨R',g1,g2⟩:=T.old _ R h1.1
  rcases g2 with g2 | ⟨_,g2⟩
  ·exact absurd h2 g2.2
  ·refine ⟨R',⟨g1, ?_⟩,g2.2.2.2.1.trans h2,g2.2.2.2.2.1.trans h3,(g2.2.2.2.2.2.1 h2).trans h4⟩
   unfold Root.bg
   rw [g2.2.2.2.1,h2]
 ·intro q Q hq hk
  cases hs:σ.roots q with
  | none=>exact absurd hk (T.agl q Q hs hq.1)
  | some R=>
   obtain ⟨R',g1,g2⟩:=T.old q R hs
   rw [hq.1] at g1
   simp only [anh] at g1
   subst g1
   rcases g2 with ⟨g2,_⟩ | ⟨gd,g2⟩
   ·rw [hq.2] at g2; simp at g2
   ·rw [g2.2.2.2.2.1]
    exact H.Ep q R ⟨hs,gd⟩ (g2.2.2.2.1▸hk)
 ·intro s
  rw [T.slots]
  exact Ui (fun x v hx h=>T.av H FU Cc hx h) (H.rY s) (H.slots s)
 ·intro s
  rw [T.slots]
  exact T.xO (H.rY s)
 ·intro q Q hq
  by_cases e:Same σ α σ' α' q
  ·have hq':=(e.live Q).1 hq
   have K:=H.roots q Q hq'
   have hsame:=T.other H hq' e
   constructor
   ·intro hv
    have hv':=vC hV (H.dz q Q hq'.1).1 hv
    rw [e.hdr,e.fo]
    have hO:=K.ow hv'
    obtain ⟨_,g2,_⟩:=hV Q.tags Q.Ce (H.dz q Q hq'.1).1 hv.2
    exact bz (fun b hb=>(g2 b hb.1 (.inl hb.2)).2) (fun b hb=>(g2 b hb.1 (.inl hb.2)).1) (fun b hb=>hsame b (anj _ hb)) (sI Q.Ce (fun _ h=>h) hO)
   ·rw [e.hdr]; exact K.len
   ·intro b o hb
    rw [e.wh] at hb
    rw [e.hdr]
    obtain ⟨h1,arr,te,lo,hi,h2,h3⟩:=K.mem b o hb
    have hbb:hp w' b=hp w b:=hsame b (by unfold blk; rw [hb]; simp)
    exact ⟨h1.congr hbb,arr,te,lo,hi,hbb.trans h2,h3⟩
   ·rw [e.blk]; exact K.nd
   ·exact fun b hb=>XF hq hb
  ·obtain ⟨h1,h2,h3,h4⟩:=hroot q Q hq e
   exact ⟨h1,h2,h3,h4,fun b hb=>XF hq hb⟩
 ·intro q Q hq
  by_cases e:Same σ α σ' α' q
  ·obtain ⟨h1,h2,h3⟩:=H.dz q Q (by rw [←e.root]; exact hq)
   exact ⟨fun t ht=>T.tag (h1 t ht),h2,h3⟩
  ·exact T.wr q Q hq e
 ·intro q Q q' Q' hq hq' hne b hb hb'
  by_cases e:Same σ α σ' α' q
  ·exact PW hq e hq' (Ne.symm hne) hb hb'
  ·by_cases e':Same σ α σ' α' q'
   ·exact PW hq' e' hq hne hb' hb
   ·exact T.Iu q Q q' Q' hq hq' hne e e' b hb hb'
 ·exact fun b hb=>jD b (T.new b (.inr hb))
 ·exact T.zV
 ·intro q Q hq b hb hF
  by_cases e:Same σ α σ' α' q
  ·rw [e.blk] at hb
   exact T.stay H ((e.live Q).1 hq) e b hb (T.new b (.inr hF))
  ·exact T.iP q Q hq e b hb hF
 ·obtain ⟨f1,f2,f3,f4,f5,f6⟩:=H.frame
  refine ⟨T.os.1.trans f1,T.os.2.1.trans f2,T.os.2.2.trans f3,Nat.le_trans f4 T.size, ?_, ?_⟩
  ·intro b hb hno
   have:hp w' b=hp w b:=by
    refine anF fun hne=>?_
    have hm:mine cx w b:=by
     rcases T.QL b (Nat.lt_of_lt_of_le hb f4) hne with h | ⟨r,R,hr,h,_⟩
     ·exact H.fl b h
     ·exact (H.roots r R hr).mine b h
    rcases hm.2 with h | ⟨j,pi,h1,h2⟩
    ·omega
    ·exact hno j pi h1 h2
   exact this.trans (f5 b hb hno)
  ·intro j pi b o n hj hb
   by_cases hne:hp w' b=hp w b
   ·have:=f6 j pi b o n hj hb
    obtain ⟨arr,kF,e,fr,h1,h2,h3⟩:=this
    exact ⟨arr,kF,e,fr,h1,hne.trans h2,h3⟩
   ·exact T.base j pi b o n hj hb hne
 ·intro j pi hj hk
  obtain ⟨R,h1,h2⟩:=H.uu j pi hj hk
  obtain ⟨R',g1,g2⟩:=T.old _ R h1
  refine ⟨R',g1,fun hd b hb hnb=>?_⟩
  rcases g2 with ⟨g2,_⟩ | ⟨gd,g2,_⟩
  ·rw [hd] at g2; simp at g2
  ·have hev:=(T.ev _ R R' h1 g1 hd).1
   rcases h2 gd b hb hnb with ⟨e,he,xR⟩ | ⟨hs,hF,hown⟩
   ·refine .inl ⟨e,he, ?_⟩
    rw [g2,hev]
    rcases xR with h | h
    ·exact .inl (anj _ h)
    ·exact .inr h
   ·by_cases xR:∃e∈lw (ay j),qM (hp w) b=some e
    ·obtain ⟨e,he,hel⟩:=xR
     exact .inl ⟨e,(JH hs).symm.trans hel, .inl (by rw [g2]; exact anm _ he)⟩
    ·have hno:¬∃r Q,aP σ r Q∧b∈blk α Q r∧Loose cx σ' lw w r b:=by
      rintro ⟨r,Q,hr,hbr,hl⟩
      have e:=hown r Q hr hbr
      subst e
      rcases hl with hl | hl | ⟨hl,_⟩
      ·have:=hl R' g1
       rw [hd] at this
       simp at this
      ·exact xR hl
      ·exact hnb hl
     by_cases hlt:b<w.heap.size
     ·refine .inr ⟨?_, ?_, ?_⟩
      ·refine Eq.trans ?_ hs
       refine anF fun hne=>?_
       rcases T.QL b hlt hne with h | h
       ·exact hF h
       ·exact hno h
      ·intro hF'
       rcases T.new b (.inr hF') with h | h | h
       ·exact hF h
       ·omega
       ·exact hno h
      ·intro q Q hq hbq
       by_cases e:∃R,aP σ q R∧b∈blk α R q
       ·obtain ⟨R0,hR0,hbR⟩:=e
        exact hown q R0 hR0 hbR
       ·rcases T.new b (.inl ⟨q,Q,hq,hbq,e⟩) with h | h | h
        ·exact absurd h hF
        ·omega
        ·exact absurd h hno
     ·exact absurd (H.oM.1 j pi hj b hb) (by have:=H.frame.2.2.2.1; omega)
 ·exact H.oM
 ·intro j p ts v hv
  obtain ⟨hvp,R,h1,h2⟩:=H.vU j p ts v hv
  obtain ⟨R',g1,g2⟩:=T.old _ R h1
  refine ⟨hvp,R',g1,fun ht=>?_⟩
  cases hd:R'.bg with
  | true=>
   rcases g2 with ⟨_,g2⟩ | ⟨gd,g2⟩
   ·refine ⟨hvp,fun Q hQ hv'=>?_⟩
    rw [g1] at hQ
    simp only [anh] at hQ
    subst hQ
    have:=hv'.1
    rw [hd] at this
    simp at this
   ·have:R'.bg=R.bg:=by unfold Root.bg; rw [g2.2.2.2.1]
    rw [hd,gd] at this
    simp at this
  | false=>
   have hev:=(T.ev _ R R' h1 g1 hd).2
   exact T.av H FU Cc (show Ow.rG σ (.ptr (ay j) p 0) from ⟨R,h1, .inr (anR _)⟩) (h2 (by rw [←hev]; exact ht))
 ·intro j v hv
  obtain ⟨⟨R,h1⟩,h2⟩:=H.vV j v hv
  obtain ⟨R',g1,_⟩:=T.old _ R h1
  exact ⟨⟨R',g1⟩,T.av H FU Cc (show Ow.rG σ (.ref (ay j) 0) from ⟨R,h1, .inr (anR _)⟩) h2⟩
end
def au (σ:St) (r:Nat) (R:Root):St:={ σ with roots:=upd σ.roots r (some R) }
def aG (α:dL) (r:Nat) (loc:Nat×Nat) (hdr:List Value) (fo:List Nat):dL:=⟨upd α.loc r loc,upd α.hdr r hdr,upd α.fo r fo⟩
theorem aI (σ:St) (r:Nat) (R:Root):(au σ r R).roots r=some R:=upd_same _ _ _
theorem bU (σ:St) {r q:Nat} (R:Root) (h:q≠r):(au σ r R).roots q=σ.roots q:=upd_ne _ _ h
theorem Kk {σ:St} {r q:Nat} {R Q:Root} (h:q≠r):aP (au σ r R) q Q↔aP σ q Q:=by unfold aP; rw [bU σ R h]
theorem eT {σ:St} {r:Nat} {R Q:Root} (h:aP (au σ r R) r Q):Q=R∧R.bg=false:=by
 have h1:=h.1
 rw [aI] at h1
 simp only [anh] at h1
 subst h1
 exact ⟨rfl,h.2⟩
theorem gZ {σ:St} {α:dL} {r q:Nat} {R:Root} {loc:Nat×Nat} {hdr:List Value} {fo:List Nat} (h:q≠r):Same σ α (au σ r R) (aG α r loc hdr fo) q:=
 ⟨bU σ R h,upd_ne _ _ h,upd_ne _ _ h,upd_ne _ _ h⟩
theorem lG (σ:St) (α:dL) (q:Nat):Same σ α σ α q:=⟨rfl,rfl,rfl,rfl⟩
def iA (R:Root) (loc:Nat×Nat) (fo:List Nat):List Nat:=(match R.kind with
 | .var _=>[loc.1]
 | .par=>[loc.1]
 | _=>[])++fo
theorem eG {α:dL} {r:Nat} {loc:Nat×Nat} {hdr:List Value} {fo:List Nat} {Q:Root}:blk (aG α r loc hdr fo) Q r=iA Q loc fo:=by
 unfold blk iA dV aG
 simp only [upd_same] <;> cases Q.kind <;> rfl
theorem bV (α:dL) (R:Root) (r:Nat):blk α R r=iA R (α.loc r) (α.fo r):=by
 unfold blk iA dV
 cases R.kind <;> rfl
def wO (R:Root) (loc:Nat×Nat):Option (Nat×Nat):=match R.kind with
 | .var _=>some loc
 | .par=>some loc
 | _=>none
theorem jH {α:dL} {r:Nat} {loc:Nat×Nat} {hdr:List Value} {fo:List Nat} {Q:Root}:dV (aG α r loc hdr fo) Q r=wO Q loc:=by
 unfold dV wO aG
 simp only [upd_same] <;> cases Q.kind <;> rfl
theorem uC (α:dL) (R:Root) (r:Nat):dV α R r=wO R (α.loc r):=rfl
end
section
open Go
variable [Fr]
def jr (σ:St) (s:Nat→xJ):St:=⟨s,σ.roots⟩
theorem rH (σ:St) (s:Nat→xJ) (tys:List TypeId):∀(T:List Tag),bq (jr σ s) tys T=bq σ tys T
 | []=>rfl
 | (r,n) :: T=>by simp only [bq,rH σ s tys T]; rfl
section
variable {cx:Cx} {σ:St} {α:dL} {F:List Nat} {a:Act} {w:World}
theorem MK (s:Nat→xJ):iL cx (jr σ s) α F w=iL cx σ α F w:=rfl
theorem KH (s:Nat→xJ) {bt:TypeId} {k:K} {x:El k} {T:List Tag} {v:Value}:KG cx (jr σ s) α F w bt k x T v↔KG cx σ α F w bt k x T v:=by
 unfold KG
 rw [rH,MK]
 exact Iff.rfl
theorem DU (s:Nat→xJ):∀{cs:List (TypeId×Dat×List Tag)} {vs:List Value},ku cx (jr σ s) α F w cs vs↔ku cx σ α F w cs vs
 | [],[]=>Iff.rfl
 | c :: cs,v :: vs=>by simp only [ku,KH s,DU s]
 | [],_ :: _=>Iff.rfl
 | _ :: _,[]=>Iff.rfl
theorem pI (s:Nat→xJ) {R:Root}:bu (jr σ s) R↔bu σ R:=by unfold bu; rw [rH]
theorem yX (s:Nat→xJ) {x:AV} {v:Value}:bI cx (jr σ s) α F w x v↔bI cx σ α F w x v:=by
 cases x with
 | undef=>exact Iff.rfl
 | val k x T=>simp only [bI,rH,MK]
 | iQ=>exact Iff.rfl
 | ref r g=>exact Iff.rfl
 | JA r g k p=>exact Iff.rfl
 | sM r p n=>simp only [bI,pI]; exact Iff.rfl
 | ptr r p n=>simp only [bI,pI]; exact Iff.rfl
 | iZ bt k x T=>exact KH s
 | rV=>exact Iff.rfl
 | Aj _=>exact Iff.rfl
 | part _ _ _ _ _=>exact Iff.rfl
 | xU _ _ _ _=>simp only [bI,pI]; exact Iff.rfl
 | app _ _ _ _=>simp only [bI,pI]; exact Iff.rfl
 | fn f cs=>simp only [bI,DU s]
theorem zF (s:Nat→xJ):∀{l:List AV} {vs:List Value},dS cx (jr σ s) α F w l vs↔dS cx σ α F w l vs
 | [],[]=>Iff.rfl
 | c :: cs,v :: vs=>by simp only [dS,yX s,zF s]
 | [],_ :: _=>Iff.rfl
 | _ :: _,[]=>Iff.rfl
theorem Gn (s:Nat→xJ) {x:xJ} {v:Value}:jd cx (jr σ s) α F w x v↔jd cx σ α F w x v:=by
 cases x with
 | one a=>exact yX s
 | KX l=>simp only [jd,zF s]
 | lit _ _ l=>simp only [jd,zF s]
theorem Ji (s:Nat→xJ) {x:xJ}:xO (jr σ s) x↔xO σ x:=by cases x <;> exact Iff.rfl
theorem Rel.put (H:Rel cx σ α F a w) {d:Nat} {x:xJ} {v:Value} (hd:d<cx.nt) (hw:xO σ x) (hx:jd cx σ α F w x v) :
  Rel cx (jr σ (upd σ.slots d x)) α F (a.put (some d) v) w where
 defs:=H.defs
 sz:=by simpa [Act.put] using H.sz
 lQ:=H.lQ
 Ep:=H.Ep
 slots:=by
  intro s
  rw [Gn]
  show jd cx σ α F w (upd σ.slots d x s) _
  by_cases e:s=d
  ·subst e
   rw [upd_same]
   have:(a.put (some s) v).tmps.getD s undef=v:=by
    have:=H.sz
    simp [Act.put,Array.getElem?_setIfInBounds_self_of_lt (show s<a.tmps.size by omega)]
   rw [this]
   exact hx
  ·rw [upd_ne _ _ e]
   have:(a.put (some d) v).tmps.getD s undef=a.tmps.getD s undef:=by
    simp [Act.put,Array.getElem?_setIfInBounds_ne (Ne.symm e)]
   rw [this]
   exact H.slots s
 rY:=by
  intro s
  rw [Ji]
  show xO σ (upd σ.slots d x s)
  by_cases e:s=d
  ·subst e; rw [upd_same]; exact hw
  ·rw [upd_ne _ _ e]; exact H.rY s
 roots:=by
  intro r R hr
  have K:=H.roots r R hr
  exact ⟨fun hv=>K.ow ((pI _).1 hv),K.len,K.mem,K.nd,K.mine⟩
 dz:=H.dz
 Iu:=H.Iu
 fl:=H.fl
 zV:=H.zV
 iP:=H.iP
 frame:=H.frame
 uu:=H.uu
 oM:=H.oM
 vU:=fun j p ts v h=>let ⟨h0,R,h1,h2⟩:=H.vU j p ts v h; ⟨h0,R,h1,fun ht=>(yX _).2 (h2 ht)⟩
 vV:=H.vV
def dw (w:World) (n:Nat):World:={ w with drawn:=n }
theorem Mj (n:Nat):∀{cs:List (TypeId×Dat×List Tag)} {vs:List Value},ku cx σ α F w cs vs→ku cx σ α F (dw w n) cs vs
 | [],[],_=>trivial
 | _ :: _,_ :: _,h=>⟨h.1,Mj n h.2⟩
 | [],_ :: _,h=>h.elim
 | _ :: _,[],h=>h.elim
theorem Io (n:Nat) {x:AV} {v:Value} (h:bI cx σ α F w x v):bI cx σ α F (dw w n) x v:=by
 cases x with
 | fn f cs=>obtain ⟨vs,h1,h2⟩:=h; exact ⟨vs,h1,Mj n h2⟩
 | undef=>exact h
 | val k x T=>exact h
 | iQ=>exact h
 | ref r g=>exact h
 | JA r g k p=>exact h
 | sM r p n=>exact h
 | ptr r p n=>exact h
 | iZ bt k x T=>exact h
 | rV=>exact h
 | Aj _=>exact h
 | part _ _ _ _ _=>exact h
 | xU _ _ _ _=>exact h
 | app _ _ _ _=>exact h
theorem Rel.drawn (H:Rel cx σ α F a w) (n:Nat):Rel cx σ α F a (dw w n) where
 defs:=H.defs
 sz:=H.sz
 lQ:=H.lQ
 Ep:=H.Ep
 slots:=fun s=>by
  have h:=H.slots s
  generalize σ.slots s=x at h
  cases x with
  | one a=>exact Io n h
  | KX l=>
   obtain ⟨vs,h1,h2⟩:=h
   refine ⟨vs,h1, ?_⟩
   clear h1
   induction l generalizing vs with
   | nil=>cases vs with
    | nil=>trivial
    | cons v vs=>exact h2.elim
   | cons b l ih=>cases vs with
    | nil=>exact h2.elim
    | cons v vs=>exact ⟨Io n h2.1,ih vs h2.2⟩
  | lit _ _ l=>
   obtain ⟨vs,cs,h1,h2⟩:=h
   refine ⟨vs,cs,h1, ?_⟩
   clear h1
   induction l generalizing vs with
   | nil=>cases vs with
    | nil=>trivial
    | cons v vs=>exact h2.elim
   | cons b l ih=>cases vs with
    | nil=>exact h2.elim
    | cons v vs=>exact ⟨Io n h2.1,ih vs h2.2⟩
 rY:=H.rY
 roots:=fun r R hr=>let K:=H.roots r R hr; ⟨K.ow,K.len,K.mem,K.nd,K.mine⟩
 dz:=H.dz
 Iu:=H.Iu
 fl:=H.fl
 zV:=H.zV
 iP:=H.iP
 frame:=H.frame
 uu:=H.uu
 oM:=H.oM
 vU:=fun j p ts v h=>let ⟨h0,R,h1,h2⟩:=H.vU j p ts v h; ⟨h0,R,h1,fun ht=>Io n (h2 ht)⟩
 vV:=H.vV
def sU (r:Nat) (l:List Nat):Nat→List Nat:=fun q=>if q=r then l else []
theorem vB (r:Nat) (l:List Nat):sU r l r=l:=if_pos rfl
theorem ql {r q:Nat} (l:List Nat) (h:q≠r):sU r l q=[]:=if_neg h
variable {r:Nat} {R R':Root} {hdr':List Value} {dH F':List Nat} {w':World} {lw lh:List Nat}
def QX (cx:Cx) (R':Root) (lw:List Nat) (w:World) (b:Nat):Prop:=R'.bg=true∨(∃e∈lw,qM (hp w) b=some e)∨(lN cx b∧lw≠[])
structure Ay (cx:Cx) (σ:St) (α:dL) (F:List Nat) (w:World) (r:Nat) (R R':Root) (dH F':List Nat) (w':World) (lw lh:List Nat):Prop where
 step:(R'.bg=true∧R.kind≠.par)∨(R'.w=lw++R.w∧R'.h=lh++R.h∧R.g≤R'.g∧R'.kind=R.kind∧(R.kind=.par→R'.k.size=R.k.size)∧(lw≠[]∨lh≠[]))
 tags:eY σ R'.tags∧∀n,(r,n)∉R'.tags
 os:w'.os=w.os∧w'.tape=w.tape∧w'.output=w.output
 size:w.heap.size≤w'.heap.size
 QL:∀b,b<w.heap.size→hp w' b≠hp w b→b∈F∨(b∈blk α R r∧QX cx R' lw w b)
 new:R'.bg=false→∀b∈iA R' (α.loc r) dH,b∈blk α R r∨b∈F∨(w.heap.size≤b∧b<w'.heap.size)
 newF:∀b∈F',b∈F∨(w.heap.size≤b∧b<w'.heap.size)∨(b∈blk α R r∧QX cx R' lw w b)
 zV:F'.Nodup
 iP:R'.bg=false→∀b∈iA R' (α.loc r) dH,b∉F'
 base:∀j pi b o n,cx.par j=some pi→pi.base=some (b,o,n)→r=ay j→hp w' b≠hp w b→gM (hp cx.w0) (hp w') b o n
 ev:R'.bg=false→R'.ew=R.ew∧R'.eh=R.eh
theorem jm {q:Nat} {Q:Root} (h:aP (au σ r R') q Q):(q=r∧Q=R'∧R'.bg=false)∨(q≠r∧aP σ q Q):=by
 by_cases e:q=r
 ·subst e
  obtain ⟨h1,h2⟩:=eT h
  exact .inl ⟨rfl,h1,h2⟩
 ·exact .inr ⟨e,(Kk e).1 h⟩
theorem Ay.turn (H:Rel cx σ α F a w) (hr:aP σ r R) (T:Ay cx σ α F w r R R' dH F' w' lw lh) :
  ni cx σ α F w (au σ r R') (aG α r (α.loc r) hdr' dH) F' w' (sU r lw) (sU r lh):=by
 have hsame:∀q,q≠r→Same σ α (au σ r R') (aG α r (α.loc r) hdr' dH) q:=fun q h=>gZ h
 have XE:∀b,QX cx R' lw w b→Loose cx (au σ r R') (sU r lw) w r b:=by
  rintro b (h | ⟨e,he,hb⟩ | ⟨h,hl⟩)
  ·refine .inl fun Q hQ=>?_
   rw [aI] at hQ
   simp only [anh] at hQ
   subst hQ
   exact h
  ·exact .inr (.inl ⟨e,by rw [vB]; exact he,hb⟩)
  ·exact .inr (.inr ⟨h,by rw [vB]; exact hl⟩)
 have hns:∀{q:Nat},¬Same σ α (au σ r R') (aG α r (α.loc r) hdr' dH) q→q=r:=fun {q} h=>anF fun e=>h (hsame q e)
 refine ⟨rfl,T.os,T.size, ?_, ?_, ?_, ?_, ?_,T.zV, ?_, ?_, ?_, ?_⟩
 ·intro q Q hQ
  by_cases e:q=r
  ·subst e
   rw [hr.1] at hQ
   simp only [anh] at hQ
   subst hQ
   refine ⟨R',aI .., ?_⟩
   rcases T.step with h | ⟨h1,h2,h3,h4,h5,h6⟩
   ·exact .inl h
   ·exact .inr ⟨hr.2,by rw [vB]; exact h1,by rw [vB]; exact h2,h3,h4,by simp [aG,upd_same],h5,by rw [vB,vB]; exact .inl h6⟩
  ·refine ⟨Q,by rw [bU σ R' e]; exact hQ, ?_⟩
   cases hd:Q.bg with
   | true=>
    refine .inl ⟨rfl, ?_⟩
    intro hk
    simp [Root.bg,hk] at hd
   | false=>exact .inr ⟨rfl,by rw [ql lw e]; rfl,by rw [ql lh e]; rfl,anz _,rfl,by simp [aG,upd_ne _ _ e],fun _=>rfl, .inr ⟨ql lw e,ql lh e,hsame q e⟩⟩
 ·intro q Q hQ hs
  have e:=hns hs
  subst e
  rw [aI] at hQ
  simp only [anh] at hQ
  subst hQ
  refine ⟨fun t ht=>?_,(H.dz q R hr.1).2.1,T.tags.2⟩
  have hne:t.1≠q:=fun e=>T.tags.2 t.2 (by rw [←e]; exact ht)
  rcases T.tags.1 t ht with h | ⟨Q,h1,h2⟩
  ·exact .inl h
  ·exact .inr ⟨Q,by rw [bU σ R' hne]; exact h1,h2⟩
 ·intro q Q hn hQ
  have e:q≠r:=fun e=>by rw [e,hr.1] at hn; simp at hn
  rw [bU σ R' e,hn] at hQ
  simp at hQ
 ·intro b hb hne
  exact (T.QL b hb hne).imp id (fun h=>⟨r,R,hr,h.1,XE b h.2⟩)
 ·rintro b (⟨q,Q,hq,hb,hno⟩ | hb)
  ·rcases jm hq with ⟨rfl,rfl,hd⟩ | ⟨e,hq'⟩
   ·rw [eG] at hb
    rcases T.new hd b hb with h | h | h
    ·exact absurd ⟨R,hr,h⟩ hno
    ·exact .inl h
    ·exact .inr (.inl h)
   ·rw [(hsame q e).blk] at hb
    exact absurd ⟨Q,hq',hb⟩ hno
  ·rcases T.newF b hb with h | h | h
   ·exact .inl h
   ·exact .inr (.inl h)
   ·exact .inr (.inr ⟨r,R,hr,h.1,XE b h.2⟩)
 ·intro q Q hq hs b hb
  have e:=hns hs
  subst e
  obtain ⟨rfl,hd⟩:=eT hq
  rw [eG] at hb
  exact T.iP hd b hb
 ·intro q Q q' Q' hq hq' hne hs hs'
  exact absurd ((hns hs).trans (hns hs').symm) hne
 ·intro j pi b o n hj hb hne
  obtain ⟨Q,hQ,hk,hl,hs⟩:=H.lQ j pi b o n hj hb
  have hbq:b∈blk α Q (ay j):=by simp [blk,dV,hk,hl]
  have hm:=(H.roots _ _ hQ).mine b hbq
  rcases T.QL b hm.1 hne with h | ⟨h1,_⟩
  ·exact absurd h (H.iP _ _ hQ b hbq)
  ·refine T.base j pi b o n hj hb ?_ hne
   refine anF fun e=>?_
   exact H.Iu _ _ _ _ hr hQ e b h1 hbq
 ·intro q Q Q' hQ hQ' hd
  by_cases e:q=r
  ·subst e
   rw [hr.1] at hQ
   rw [aI] at hQ'
   simp only [anh] at hQ hQ'
   subst hQ
   subst hQ'
   exact T.ev hd
  ·rw [bU σ R' e,hQ] at hQ'
   simp only [anh] at hQ'
   subst hQ'
   exact ⟨rfl,rfl⟩
theorem Ay.rel (H:Rel cx σ α F a w) (hr:aP σ r R) (T:Ay cx σ α F w r R R' dH F' w' lw lh)
  (hroot:R'.bg=false→(bu (au σ r R') R'→Ow (hp w') R'.own (iL cx (au σ r R') (aG α r (α.loc r) hdr' dH) F' w' R'.tags) R'.k R'.x hdr' dH)∧hdr'.length=R'.k.size∧
   (∀b o,wO R' (α.loc r)=some (b,o)→Cells (hp w') b o hdr'∧∃arr e lo hi,hp w' b=some (.cells arr e (lo,hi))∧(∀i,i<arr.size→¬(lo≤i∧i<hi))∧o+R'.k.size≤arr.size∧(∀t,R'.kind=.var t→e=t))∧
   (iA R' (α.loc r) dH).Nodup)
  (FU:R'.bg=false→∀p n v,n≤gH R.h→bI cx σ α F w (.ptr r p n) v→bI cx (au σ r R') (aG α r (α.loc r) hdr' dH) F' w' (.ptr r p n) v)
  (Cc:R'.bg=false→∀g v,g≤R.g→bI cx σ α F w (.ref r g) v→bI cx (au σ r R') (aG α r (α.loc r) hdr' dH) F' w' (.ref r g) v) :
  Rel cx (au σ r R') (aG α r (α.loc r) hdr' dH) F' a w':=by
 have hns:∀{q:Nat},¬Same σ α (au σ r R') (aG α r (α.loc r) hdr' dH) q→q=r:=fun {q} h=>anF fun e=>h (gZ e)
 have hRq:∀{Q:Root},aP σ r Q→Q=R:=fun {Q} hQ=>by have:=hQ.1; rw [hr.1] at this; simpa using this.symm
 refine H.turn (T.turn H hr) ?_ ?_ ?_
 ·intro q Q hq hs
  have e:=hns hs
  subst e
  obtain ⟨rfl,hd⟩:=eT hq
  obtain ⟨h1,h2,h3,h4⟩:=hroot hd
  refine ⟨fun hv=>?_, ?_, ?_, ?_⟩
  ·have:=h1 hv
   simpa [aG,upd_same] using this
  ·simpa [aG,upd_same] using h2
  ·intro b o hb
   rw [jH] at hb
   have:=h3 b o hb
   simpa [aG,upd_same] using this
  ·rw [eG]; exact h4
 ·intro q Q hq hs p n v hn hv
  have e:=hns hs
  subst e
  obtain rfl:=hRq hq
  cases hd:R'.bg with
  | false=>exact FU hd p n v hn hv
  | true=>
   refine ⟨hv.1, ?_⟩
   intro Q' hQ' hval
   rw [aI] at hQ'
   simp only [anh] at hQ'
   subst hQ'
   have:=hval.1
   rw [hd] at this
   simp at this
 ·intro q Q hq hs g v hg hv
  have e:=hns hs
  subst e
  obtain rfl:=hRq hq
  cases hd:R'.bg with
  | false=>exact Cc hd g v hg hv
  | true=>
   intro Q' hQ'
   have:=(eT hQ').2
   rw [hd] at this
   simp at this
structure Held (cx:Cx) (σ:St) (α:dL) (F:List Nat) (w:World) (k:K) (x:El k) (own:List TypeId) (tags:List Tag) (cs:List Value) (fo:List Nat):Prop where
 ow:bq σ (aU own k) tags=true→Ow (hp w) own (iL cx σ α F w tags) k x cs fo
 wt:eY σ tags
 sub:∀b∈fo,b∈F
 nd:fo.Nodup
 len:cs.length=k.size
theorem Held.turn {σ':St} {α':dL} {lw lh:Nat→List Nat} {k:K} {x:El k} {own:List TypeId} {tags:List Tag} {cs:List Value} {fo:List Nat}
  (H:Rel cx σ α F a w) (T:ni cx σ α F w σ' α' F' w' lw lh) (h:Held cx σ α F w k x own tags cs fo) (hs:∀b∈fo,hp w' b=hp w b∧b∈F'):Held cx σ' α' F' w' k x own tags cs fo where
 ow:=fun hc=>by
  obtain ⟨h1,h2,_⟩:=T.views H tags _ h.wt hc
  exact bz (fun b hb=>(h2 b hb.1 (.inl hb.2)).2) (fun b hb=>(h2 b hb.1 (.inl hb.2)).1) (fun b hb=>(hs b hb).1) (sI _ (fun _ h=>h) (h.ow h1))
 wt:=fun t ht=>T.tag (h.wt t ht)
 sub:=fun b hb=>(hs b hb).2
 nd:=h.nd
 len:=h.len
theorem Held.slots {k:K} {x:El k} {own:List TypeId} {tags:List Tag} {cs:List Value} {fo:List Nat} (s:Nat→xJ) (h:Held cx σ α F w k x own tags cs fo):Held cx (jr σ s) α F w k x own tags cs fo:=
 ⟨fun hc=>h.ow (by rw [rH] at hc; exact hc),h.wt,h.sub,h.nd,h.len⟩
end
end
section
open Go
variable [Fr]
theorem uf {h:Heap} {own:List TypeId} {ok:Nat→Prop}:∀{k:K} {x:El k} {cs:List Value} {fo:List Nat},Ow h own ok k x cs fo→∀b∈fo,∃e∈k.tys,az e own=true∧qM h b=some e:=by
 intro k
 induction k with
 | int ik=>intro x cs fo H b hb; rw [H.1] at hb; simp at hb
 | bool=>intro x cs fo H b hb; rw [H.1] at hb; simp at hb
 | id e=>intro x cs fo H b hb; rw [H.1] at hb; simp at hb
 | str=>intro x cs fo H b hb; rw [H.1] at hb; simp at hb
 | sl e k ih=>
  intro x cs fo H b' hb'
  unfold Ow at H
  split at H
  ·rename_i hm
   obtain ⟨a,n,c,e1,e2,e3,H⟩:=H
   rcases H with ⟨_,h1⟩ | ⟨b,o,arr,lo,hi,ea,hb,hf,hs,bD,hl,hp,H⟩
   ·rw [h1] at hb'; simp at hb'
   ·rcases anu.1 (hp.mem_iff.1 hb') with h | h
    ·subst h
     exact ⟨e,by simp [K.tys],hm,by unfold qM; rw [hb]⟩
    ·obtain ⟨l,hl1,hl2⟩:=List.mem_flatten.1 h
     obtain ⟨i,hi,rfl⟩:=List.mem_iff_getElem.1 hl1
     obtain ⟨ds,_,h2⟩:=H i (by omega)
     rw [bZ hi] at h2
     obtain ⟨e',g1,g2⟩:=ih h2 b' hl2
     exact ⟨e',by simp [K.tys,g1],g2⟩
  ·rw [H.1] at hb'; simp at hb'
 | unit=>intro x cs fo H b hb; rw [H.1] at hb; simp at hb
 | pair a b iha ihb=>
  intro x cs fo H b' hb'
  obtain ⟨c1,c2,f1,f2,e,hp,h1,h2⟩:=H
  rcases anq.1 (hp.mem_iff.1 hb') with h | h
  ·obtain ⟨e',g1,g2⟩:=iha h1 b' h; exact ⟨e',by simp [K.tys,g1],g2⟩
  ·obtain ⟨e',g1,g2⟩:=ihb h2 b' h; exact ⟨e',by simp [K.tys,g1],g2⟩
 | st f ih=>intro x cs fo H; exact ih (x:=x) H
 | gap n=>intro x cs fo H b hb; rw [H.1] at hb; simp at hb
theorem dD {t:Nat} {own bad:List TypeId}:az t (bF own bad)=true↔az t own=true∧t∉bad:=by
 rw [aM,aM]
 unfold bF
 rw [anA]
 simp [aV]
theorem BB {own:List TypeId}:∀{k:K} {t:TypeId},t∈k.tys→t∈aU own k∨az t own=true:=by
 intro k
 induction k with
 | sl e k ih=>
  intro t ht
  simp only [K.tys,anu] at ht
  cases hm:az e own with
  | true=>
   rcases ht with ht | ht
   ·subst ht; exact .inr hm
   ·exact (ih ht).imp (fun h=>by simp [aU,hm,h]) id
  | false=>exact .inl (by simpa [aU,hm] using ht)
 | pair a b iha ihb=>
  intro t ht
  simp only [K.tys,anq] at ht
  rcases ht with ht | ht
  ·exact (iha ht).imp (fun h=>by simp [aU,h]) id
  ·exact (ihb ht).imp (fun h=>by simp [aU,h]) id
 | st f ih=>intro t ht; exact ih ht
 | _=>intro t ht; simp [K.tys] at ht
theorem Gi {own:List TypeId}:∀{k:K} {t:TypeId},t∈aU own k→t∈k.tys:=by
 intro k
 induction k with
 | sl e k ih=>
  intro t ht
  cases hm:az e own with
  | true=>simp only [aU,hm,cond_true] at ht; simp [K.tys,ih ht]
  | false=>simpa [aU,hm,K.tys] using ht
 | pair a b iha ihb=>
  intro t ht
  simp only [aU,anq] at ht
  simp only [K.tys,anq]
  exact ht.imp iha ihb
 | st f ih=>intro t ht; exact ih ht
 | _=>intro t ht; simp [aU] at ht
section
variable {cx:Cx} {σ:St} {α:dL} {F:List Nat} {a:Act} {w:World} {F':List Nat} {w':World}
theorem Ei (H:Rel cx σ α F a w) (hos:w'.os=w.os∧w'.tape=w.tape∧w'.output=w.output) (hsize:w.heap.size≤w'.heap.size) (J2:∀b,b<w.heap.size→hp w' b≠hp w b→b∈F)
  (hnew:∀b∈F',b∈F∨(w.heap.size≤b∧b<w'.heap.size)) (hnd:F'.Nodup):ni cx σ α F w σ α F' w' (fun _=>[]) (fun _=>[]) where
 slots:=rfl
 os:=hos
 size:=hsize
 old:=fun r R hr=>⟨R,hr,by
  cases hd:R.bg with
  | true=>exact .inl ⟨rfl,by intro hk; simp [Root.bg,hk] at hd⟩
  | false=>exact .inr ⟨rfl,rfl,rfl,anz _,rfl,rfl,fun _=>rfl, .inr ⟨rfl,rfl,lG ..⟩⟩⟩
 wr:=fun r R' _ h=>absurd (lG ..) h
 agl:=fun r R' h1 h2=>by rw [h1] at h2; simp at h2
 QL:=fun b hb hne=>.inl (J2 b hb hne)
 new:=by
  rintro b (⟨r,R',h1,h2,h3⟩ | h)
  ·exact absurd ⟨R',h1,h2⟩ h3
  ·exact (hnew b h).imp id .inl
 zV:=hnd
 iP:=fun r R' _ h=>absurd (lG ..) h
 Iu:=fun r R r' R' _ _ _ h=>absurd (lG ..) h
 base:=by
  intro j pi b o n hj hb hne
  obtain ⟨Q,hQ,hk,hl,hs⟩:=H.lQ j pi b o n hj hb
  have hbq:b∈blk α Q (ay j):=by simp [blk,dV,hk,hl]
  have hm:=(H.roots _ _ hQ).mine b hbq
  exact absurd (J2 b hm.1 hne) (H.iP _ _ hQ b hbq)
 ev:=fun r R R' h1 h2 _=>by rw [h1] at h2; simp only [anh] at h2; subst h2; exact ⟨rfl,rfl⟩
theorem Rel.mem (H:Rel cx σ α F a w) (T:ni cx σ α F w σ α F' w' (fun _=>[]) (fun _=>[])):Rel cx σ α F' a w':=
 H.turn T (fun _ _ _ h=>absurd (lG ..) h) (fun _ _ _ h=>absurd (lG ..) h) (fun _ _ _ h=>absurd (lG ..) h)
theorem Rel.alloc (H:Rel cx σ α F a w) (o:Obj):Rel cx σ α (w.heap.size :: F) a (w.alloc o)∧ni cx σ α F w σ α (w.heap.size :: F) (w.alloc o) (fun _=>[]) (fun _=>[]):=by
 have hs:(w.alloc o).heap.size=w.heap.size+1:=Array.size_push ..
 have T:ni cx σ α F w σ α (w.heap.size :: F) (w.alloc o) (fun _=>[]) (fun _=>[]):=Ei H ⟨rfl,rfl,rfl⟩ (by omega) (fun b hb hne=>absurd (pz w o hb) hne)
  (fun b hb=>by rcases anu.1 hb with h | h; exact .inr ⟨by omega,by omega⟩; exact .inl h)
  (anQ.2 ⟨fun h=>by have:=(H.fl _ h).1; omega,H.zV⟩)
 exact ⟨H.mem T,T⟩
variable {r:Nat} {R:Root}
theorem jO:bT.bg=true:=rfl
theorem mH {R':Root} {tys:List TypeId} {T:List Tag} (h:∀n,(r,n)∉T):bq (au σ r R') tys T=bq σ tys T:=by
 induction T with
 | nil=>rfl
 | cons t T ih=>
  obtain ⟨q,n⟩:=t
  have hq:q≠r:=fun e=>h n (by simp [e])
  have ih':=ih (fun n hn=>h n (by simp [hn]))
  simp only [bq]
  rw [ih',bU σ R' hq]
def jF (α:dL) (r:Nat):dL:=aG α r (α.loc r) (α.hdr r) []
theorem kill (H:Rel cx σ α F a w) (hr:aP σ r R) (hk:R.kind=.anon) (hv:bu σ R) :
  Rel cx (au σ r bT) (jF α r) (α.fo r++F) a w∧ni cx σ α F w (au σ r bT) (jF α r) (α.fo r++F) w (sU r []) (sU r [])∧
  Held cx (au σ r bT) (jF α r) (α.fo r++F) w R.k R.x R.own R.tags (α.hdr r) (α.fo r)∧bq (au σ r bT) (aU R.own R.k) R.tags=true:=by
 have hb:blk α R r=α.fo r:=by simp [blk,dV,hk]
 have K:=H.roots r R hr
 have hnd:(α.fo r).Nodup:=by rw [←hb]; exact K.nd
 have T1:Ay cx σ α F w r R bT [] (α.fo r++F) w [] []:=by
  refine ⟨.inl ⟨rfl,by rw [hk]; simp⟩,⟨fun t ht=>by simp [bT] at ht,fun n hn=>by simp [bT] at hn⟩,⟨rfl,rfl,rfl⟩,anz _,fun b _ h=>absurd rfl h,fun h=>by simp [jO] at h, ?_, ?_,fun h=>by simp [jO] at h,fun _ _ _ _ _ _ _ _ h=>absurd rfl h,fun h=>by simp [jO] at h⟩
  ·intro b hb'
   rcases anq.1 hb' with h | h
   ·exact .inr (.inr ⟨by rw [hb]; exact h, .inl rfl⟩)
   ·exact .inl h
  ·exact ano.2 ⟨hnd,H.zV,fun b h1 c h2 e=>H.iP r R hr b (by rw [hb]; exact h1) (e▸h2)⟩
 have hT:=T1.turn (hdr':=α.hdr r) H hr
 have hnt:=(H.dz r R hr.1).2.2
 have J3:bq (au σ r bT) (aU R.own R.k) R.tags=true:=by rw [mH hnt]; exact hv.2
 refine ⟨T1.rel H hr (fun h=>by simp [jO] at h) (fun h=>by simp [jO] at h) (fun h=>by simp [jO] at h),hT, ?_,J3⟩
 refine ⟨fun hc=>?_,fun t ht=>hT.tag ((H.dz r R hr.1).1 t ht),fun b hb=>anm _ hb,hnd,K.len⟩
 obtain ⟨h1,h2,_⟩:=hT.views H R.tags _ (H.dz r R hr.1).1 hc
 exact bz (fun b hb=>(h2 b hb.1 (.inl hb.2)).2) (fun b hb=>(h2 b hb.1 (.inl hb.2)).1) (fun _ _=>rfl) (sI _ (fun _ h=>h) (K.ow hv))
theorem agf (H:Rel cx σ α F a w) (hr:aP σ r R) (hk:R.kind≠.par) (hv:bu σ R) :
  Rel cx (au σ r bT) (jF α r) (blk α R r++F) a w∧ni cx σ α F w (au σ r bT) (jF α r) (blk α R r++F) w (sU r []) (sU r [])∧
  Held cx (au σ r bT) (jF α r) (blk α R r++F) w R.k R.x R.own R.tags (α.hdr r) (α.fo r)∧bq (au σ r bT) (aU R.own R.k) R.tags=true:=by
 have K:=H.roots r R hr
 have hnd:(blk α R r).Nodup:=K.nd
 have T1:Ay cx σ α F w r R bT [] (blk α R r++F) w [] []:=by
  refine ⟨.inl ⟨rfl,hk⟩,⟨fun t ht=>by simp [bT] at ht,fun n hn=>by simp [bT] at hn⟩,⟨rfl,rfl,rfl⟩,anz _,fun b _ h=>absurd rfl h,fun h=>by simp [jO] at h, ?_, ?_,fun h=>by simp [jO] at h,fun _ _ _ _ _ _ _ _ h=>absurd rfl h,fun h=>by simp [jO] at h⟩
  ·intro b hb'
   rcases anq.1 hb' with h | h
   ·exact .inr (.inr ⟨h, .inl rfl⟩)
   ·exact .inl h
  ·exact ano.2 ⟨hnd,H.zV,fun b h1 c h2 e=>H.iP r R hr b h1 (e▸h2)⟩
 have hT:=T1.turn (hdr':=α.hdr r) H hr
 have hnt:=(H.dz r R hr.1).2.2
 have J3:bq (au σ r bT) (aU R.own R.k) R.tags=true:=by rw [mH hnt]; exact hv.2
 refine ⟨T1.rel H hr (fun h=>by simp [jO] at h) (fun h=>by simp [jO] at h) (fun h=>by simp [jO] at h),hT, ?_,J3⟩
 refine ⟨fun hc=>?_,fun t ht=>hT.tag ((H.dz r R hr.1).1 t ht),fun b hb=>anm _ (anj _ hb),(ano.1 hnd).2.1,K.len⟩
 obtain ⟨h1,h2,_⟩:=hT.views H R.tags _ (H.dz r R hr.1).1 hc
 exact bz (fun b hb=>(h2 b hb.1 (.inl hb.2)).2) (fun b hb=>(h2 b hb.1 (.inl hb.2)).1) (fun _ _=>rfl) (sI _ (fun _ h=>h) (K.ow hv))
theorem qF:∀(p:List Stp) {k:K} {x y:El k},(aQ p k x).isSome=(aQ p k y).isSome:=by
 intro p
 induction p with
 | nil=>intro k x y; rfl
 | cons s p ih=>
  intro k x y
  cases s with
  | fJ n=>
   cases k with
   | st c=>
    simp only [aQ]
    have key:∀(n:Nat) {c:K} {x y:El c},(∃s t:Dat,aO n c x=some s∧aO n c y=some t∧s.1=t.1)∨(aO n c x=none∧aO n c y=none):=by
     intro n
     induction n with
     | zero=>intro c x y; cases c <;> first | exact .inl ⟨_,_,rfl,rfl,rfl⟩ | exact .inr ⟨rfl,rfl⟩
     | succ n ih=>intro c x y; cases c <;> first | exact ih | exact .inr ⟨rfl,rfl⟩
    rcases key n (c:=c) (x:=x) (y:=y) with ⟨s,t,h1,h2,h3⟩ | ⟨h1,h2⟩
    ·rw [h1,h2]
     obtain ⟨sk,sx⟩:=s
     obtain ⟨tk,ty⟩:=t
     simp only at h3
     subst h3
     exact ih
    ·rw [h1,h2]
   | _=>simp [aQ]
  | idx i=>
   cases k with
   | sl e k=>simp only [aQ]; exact ih
   | _=>simp [aQ]
theorem DV:∀(n m:Nat) {c:K} {x:El c} {u y:Dat},m≠n→cz n c x u=some y→aO m y.1 y.2=aO m c x:=by
 intro n
 induction n with
 | zero=>
  intro m c x u y hm h
  cases c with
  | pair a b=>
   simp only [cz,anh] at h
   subst h
   cases m with
   | zero=>exact absurd rfl hm
   | succ m=>rfl
  | _=>simp [cz] at h
 | succ n ih=>
  intro m c x u y hm h
  cases c with
  | pair a b=>
   simp only [cz] at h
   cases h4:cz n b x.2 u with
   | none=>rw [h4] at h; simp at h
   | some y2=>
    rw [h4] at h
    simp only [anh] at h
    subst h
    cases m with
    | zero=>rfl
    | succ m=>exact ih m (by omega) h4
  | _=>simp [cz] at h
theorem M5 {bad:List TypeId}:∀(p q:List Stp) {k:K} {x:El k} {t d z:Dat},aQ p k x=some d→dX p k x t=some z→
  (∀q',(aQ q' t.1 t.2).isSome=true→(∀e∈ah q' t.1,e∉bad)→ah q' d.1=ah q' t.1∧(aQ q' d.1 d.2).isSome=true)→(aQ q z.1 z.2).isSome=true→(∀e∈ah q z.1,e∉bad)→
   ah q k=ah q z.1∧(aQ q k x).isSome=true:=by
 intro p
 induction p with
 | nil=>
  intro q k x t d z hg hz ht hs hb
  simp only [dX,anh] at hz
  simp only [aQ,anh] at hg
  subst hz
  subst hg
  exact ht q hs hb
 | cons s p ih=>
  intro q k x t d z hg hz ht hs hb
  cases s with
  | fJ n=>
   cases k with
   | st c=>
    simp only [aQ,dX] at hg hz
    cases hcg:aO n c x with
    | none=>rw [hcg] at hg; simp at hg
    | some s=>
     rw [hcg] at hg hz
     simp only at hg hz
     cases hs':dX p s.1 s.2 t with
     | none=>rw [hs'] at hz; simp at hz
     | some u=>
      rw [hs'] at hz
      simp only at hz
      cases hcp:cz n c x u with
      | none=>rw [hcp] at hz; simp at hz
      | some y=>
       rw [hcp] at hz
       simp only [anh] at hz
       subst hz
       cases q with
       | nil=>exact ⟨rfl,rfl⟩
       | cons s2 q=>
        cases s2 with
        | idx i=>simp [aQ] at hs
        | fJ m=>
         by_cases hmn:m=n
         ·subst hmn
          have e1:aO m y.1 y.2=some u:=yu m hcp
          have p1:ah (.fJ m :: q) (.st c)=ah q s.1:=by simp [ah,bW m hcg]
          have p2:ah (.fJ m :: q) (.st y.1)=ah q u.1:=by simp [ah,bW m e1]
          have hs2:(aQ (.fJ m :: q) (.st y.1) y.2).isSome=true:=hs
          simp only [aQ,e1] at hs2
          have hb2:∀e∈ah (.fJ m :: q) (.st y.1),e∉bad:=hb
          rw [p2] at hb2
          obtain ⟨h1,h2⟩:=ih q hg hs' ht hs2 hb2
          refine ⟨?_, ?_⟩
          ·show ah (.fJ m :: q) (.st c)=ah (.fJ m :: q) (.st y.1)
           rw [p1,p2,h1]
          ·simp only [aQ,hcg]
           exact h2
         ·have e1:=DV n m hmn hcp
          have hs2:(aQ (.fJ m :: q) (.st y.1) y.2).isSome=true:=hs
          simp only [aQ,e1] at hs2
          cases hg2:aO m c x with
          | none=>rw [hg2] at hs2; simp at hs2
          | some s2=>
           refine ⟨?_, ?_⟩
           ·show ah (.fJ m :: q) (.st c)=ah (.fJ m :: q) (.st y.1)
            simp only [ah,bW m hg2,bW m (e1.trans hg2)]
           ·simp only [aQ,hg2]
            rw [hg2] at hs2
            exact hs2
   | _=>simp [aQ] at hg
  | idx i=>
   cases k with
   | sl e k=>
    simp only [dX] at hz
    cases hs':dX p k ((show List (El k) from x).getD i.toNat k.zero) t with
    | none=>rw [hs'] at hz; simp at hz
    | some u=>
     rw [hs'] at hz
     simp only at hz
     cases hck:bP u.1 k u.2 with
     | none=>rw [hck] at hz; simp at hz
     | some y=>
      rw [hck] at hz
      simp only [anh] at hz
      subst hz
      exact ⟨rfl,by rw [qF q (y:=((show List (El k) from x).set i.toNat y))]; exact hs⟩
   | _=>simp [dX] at hz
theorem sQ:∀k:K,k.hole.size=k.size:=by
 intro k
 induction k with
 | pair a b iha ihb=>simp [K.hole,K.size,iha,ihb]
 | st f ih=>simp [K.hole,K.size,ih]
 | _=>rfl
theorem Zv {h:Heap} {own:List TypeId} {ok:Nat→Prop}:∀{k:K} {x:El k} {cs:List Value} {fo:List Nat},Ow h own ok k x cs fo→Ow h own ok k.hole (um k x) cs []:=by
 intro k
 induction k with
 | int ik=>intro x cs fo H; exact ⟨rfl,H.2⟩
 | bool=>intro x cs fo H; exact ⟨rfl,H.2⟩
 | id e=>intro x cs fo H; exact ⟨rfl,H.2⟩
 | str=>intro x cs fo H; exact ⟨rfl,H.2⟩
 | sl e k ih=>intro x cs fo H; exact ⟨rfl,dh H⟩
 | unit=>intro x cs fo H; exact ⟨rfl,H.2⟩
 | pair a b iha ihb=>intro x cs fo H; obtain ⟨c1,c2,f1,f2,e,hp,h1,h2⟩:=H; exact ⟨c1,c2,[],[],e, .refl _,iha h1,ihb h2⟩
 | st f ih=>intro x cs fo H; exact ih (x:=x) H
 | gap n=>intro x cs fo H; exact ⟨rfl,H.2⟩
theorem Ju:∀(n:Nat) {c:K} {x:El c},aO n c.hole (um c x)=(aO n c x).map rJ:=by
 intro n
 induction n with
 | zero=>intro c x; cases c <;> rfl
 | succ n ih=>
  intro c x
  cases c with
  | pair a b=>simp only [K.hole,um,aO]; exact ih
  | _=>rfl
theorem Ro:∀(n:Nat) {c:K},bB n c.hole=(bB n c).map fun q=>(q.1,q.2.hole):=by
 intro n
 induction n with
 | zero=>intro c; cases c <;> rfl
 | succ n ih=>
  intro c
  cases c with
  | pair a b=>
   simp only [K.hole,bB]
   rw [ih (c:=b)]
   cases bB n b with
   | none=>rfl
   | some q=>simp [sQ]
  | _=>rfl
theorem J7 {h:Heap}:∀(q:List Stp) {k:K} {x:El k},(aQ q k.hole (um k x)).isSome=true→
  ah q k=[]∧ah q k.hole=[]∧(aQ q k x).isSome=true∧ng q k.hole (um k x)∧∀cs wh,bG h q k.hole cs wh=bG h q k cs wh:=by
 intro q
 induction q with
 | nil=>intro k x _; exact ⟨by simp [ah],by simp [ah],rfl,trivial,fun _ _=>rfl⟩
 | cons s q ih=>
  intro k x hs
  cases s with
  | idx i=>cases k <;> simp [K.hole,aQ] at hs
  | fJ n=>
   cases k with
   | st c=>
    have e:aO n c.hole (um c x)=(aO n c x).map rJ:=Ju n
    have hs':(aQ (.fJ n :: q) (.st c.hole) (um c x)).isSome=true:=hs
    simp only [aQ,e] at hs'
    cases hg:aO n c x with
    | none=>rw [hg] at hs'; simp at hs'
    | some s=>
     rw [hg] at hs' e
     simp only [Option.map_some,rJ] at hs' e
     obtain ⟨h1,h2,h3,h4,h5⟩:=ih (k:=s.1) (x:=s.2) hs'
     refine ⟨by simp [ah,bW n hg,h1], ?_,by simp only [aQ,hg]; exact h3, ?_,fun cs wh=>?_⟩
     ·show ah (.fJ n :: q) (.st c.hole)=[]
      simp [ah,bW n e,h2]
     ·show ng (.fJ n :: q) (.st c.hole) (um c x)
      simp only [ng,e]
      exact h4
     ·show bG h (.fJ n :: q) (.st c.hole) cs wh=_
      simp only [bG]
      rw [Ro n]
      cases ho:bB n c with
      | none=>rfl
      | some w=>
       simp only [Option.map_some]
       have hk:w.2=s.1:=by
        have key:∀(n:Nat) {c:K} {x:El c} {s:Dat} {q:Nat×K},aO n c x=some s→bB n c=some q→q.2=s.1:=by
         intro n
         induction n with
         | zero=>intro c x s q h1 h2; cases c with
          | pair a b=>simp only [aO,bB,anh] at h1 h2; subst h1; subst h2; rfl
          | _=>simp [aO] at h1
         | succ n ih=>intro c x s q h1 h2; cases c with
          | pair a b=>
           simp only [aO,bB] at h1 h2
           cases h3:bB n b with
           | none=>rw [h3] at h2; simp at h2
           | some q3=>rw [h3] at h2; simp only [anh] at h2; subst h2; exact ih (q:=q3) h1 h3
          | _=>simp [aO] at h1
        exact key n (c:=c) hg ho
       obtain ⟨w1,w2⟩:=w
       simp only at hk
       subst hk
       simp only [sQ]
       exact h5 _ _
   | _=>simp [K.hole,aQ] at hs
theorem Vf:∀(q:List Stp) {k:K} {x y:El k},ah q k=[]→(aQ q k x).isSome=true→ah q k.hole=[]∧(aQ q k.hole (um k y)).isSome=true:=by
 intro q
 induction q with
 | nil=>intro k x y _ _; exact ⟨by simp [ah],rfl⟩
 | cons s q ih=>
  intro k x y h0 hs
  cases s with
  | idx i=>cases k <;> simp [ah,aQ] at h0 hs
  | fJ n=>
   cases k with
   | st c=>
    simp only [aQ] at hs
    cases hg:aO n c x with
    | none=>rw [hg] at hs; simp at hs
    | some s=>
     rw [hg] at hs
     simp only at hs
     have hp2:ah (.fJ n :: q) (.st c)=ah q s.1:=by simp [ah,bW n hg]
     rw [hp2] at h0
     have key:∀(n:Nat) {c:K} {x y:El c} {s:Dat},aO n c x=some s→∃t:Dat,aO n c y=some t∧t.1=s.1:=by
      intro n
      induction n with
      | zero=>intro c x y s h; cases c <;> first | (simp only [aO,anh] at h; subst h; exact ⟨_,rfl,rfl⟩) | simp [aO] at h
      | succ n ih=>intro c x y s h; cases c <;> first | exact ih h | simp [aO] at h
     obtain ⟨t,g1,g2⟩:=key n (c:=c) (y:=y) hg
     obtain ⟨sk,sx⟩:=s
     obtain ⟨tk,ty⟩:=t
     simp only at g2
     subst g2
     obtain ⟨h1,h2⟩:=ih (y:=ty) h0 hs
     have e:aO n c.hole (um c y)=some (rJ ⟨tk,ty⟩):=by rw [Ju n,g1]; rfl
     refine ⟨?_, ?_⟩
     ·show ah (.fJ n :: q) (.st c.hole)=[]
      simp [ah,bW n e,rJ,h1]
     ·show (aQ (.fJ n :: q) (.st c.hole) (um c y)).isSome=true
      simp only [aQ,e]
      exact h2
   | _=>simp [aQ] at hs
theorem SV {own:List TypeId}:∀k:K,aU own k.hole=[]:=by
 intro k
 induction k with
 | pair a b iha ihb=>simp [K.hole,aU,iha,ihb]
 | st f ih=>exact ih
 | _=>rfl
theorem cells_eq {h:Heap} {b o:Nat} {cs cs':List Value} (h1:Cells h b o cs) (h2:Cells h b o cs') (hl:cs'.length=cs.length):cs'=cs:=by
 apply List.ext_getElem? 
 intro i
 by_cases hi:i<cs.length
 ·rw [←h1 i hi, ←h2 i (by omega)]
 ·rw [List.getElem?_eq_none (by omega),List.getElem?_eq_none (by omega)]
theorem Gc:∀(p:List Stp) {k:K} {x:El k} {t d z:Dat},aQ p k x=some d→t.1.size=d.1.size→dX p k x t=some z→z.1.size=k.size:=by
 intro p
 induction p with
 | nil=>
  intro k x t d z hg hs hz
  simp only [aQ,dX,anh] at hg hz
  subst hg; subst hz; exact hs
 | cons s p ih=>
  intro k x t d z hg hs hz
  cases s with
  | fJ n=>
   cases k with
   | st c=>
    simp only [aQ,dX] at hg hz
    cases hcg:aO n c x with
    | none=>rw [hcg] at hg; simp at hg
    | some s=>
     rw [hcg] at hg hz
     simp only at hg hz
     cases hs':dX p s.1 s.2 t with
     | none=>rw [hs'] at hz; simp at hz
     | some u=>
      rw [hs'] at hz
      simp only at hz
      cases hcp:cz n c x u with
      | none=>rw [hcp] at hz; simp at hz
      | some y=>
       rw [hcp] at hz
       simp only [anh] at hz
       subst hz
       have hu:=ih hg hs hs'
       have key:∀(n:Nat) {c:K} {x:El c} {s u y:Dat},aO n c x=some s→cz n c x u=some y→u.1.size=s.1.size→y.1.size=c.size:=by
        intro n
        induction n with
        | zero=>
         intro c x s u y h1 h2 e
         cases c with
         | pair a b=>simp only [aO,cz,anh] at h1 h2; subst h1; subst h2; simp only at e; simp [K.size,e]
         | _=>simp [aO] at h1
        | succ n ih=>
         intro c x s u y h1 h2 e
         cases c with
         | pair a b=>
          simp only [aO,cz] at h1 h2
          cases h3:cz n b x.2 u with
          | none=>rw [h3] at h2; simp at h2
          | some y2=>rw [h3] at h2; simp only [anh] at h2; subst h2; simp [K.size,ih h1 h3 e]
         | _=>simp [aO] at h1
       show y.1.size=c.size
       exact key n (c:=c) hcg hcp hu
   | _=>simp [aQ] at hg
  | idx i=>
   cases k with
   | sl e k=>
    simp only [dX] at hz
    cases hs':dX p k ((show List (El k) from x).getD i.toNat k.zero) t with
    | none=>rw [hs'] at hz; simp at hz
    | some u=>
     rw [hs'] at hz
     simp only at hz
     cases hck:bP u.1 k u.2 with
     | none=>rw [hck] at hz; simp at hz
     | some y=>rw [hck] at hz; simp only [anh] at hz; subst hz; rfl
   | _=>simp [aQ] at hg
theorem vD {R R':Root} (h:R'.kind=R.kind) (loc:Nat×Nat):wO R' loc=wO R loc:=by unfold wO; rw [h]
theorem oD {R R':Root} (h:R'.kind=R.kind) (loc:Nat×Nat) (fo:List Nat):iA R' loc fo=iA R loc fo:=by unfold iA; rw [h]
theorem O9 (R:Root) (loc:Nat×Nat) (fo:List Nat):iA R loc fo=(match wO R loc with
 | some q=>[q.1]
 | none=>[])++fo:=by unfold iA wO; cases R.kind <;> rfl
theorem fq {R:Root} {loc:Nat×Nat} {fo:List Nat} {b:Nat}:b∈iA R loc fo↔(∃o,wO R loc=some (b,o))∨b∈fo:=by
 rw [O9]
 cases h:wO R loc with
 | none=>simp
 | some q=>obtain ⟨b0,o0⟩:=q; simp; constructor <;> (intro h; rcases h with h | h <;> simp_all)
theorem nu {R:Root} {loc:Nat×Nat} {fo:List Nat}:(iA R loc fo).Nodup↔(∀b o,wO R loc=some (b,o)→b∉fo)∧fo.Nodup:=by
 rw [O9]
 cases h:wO R loc with
 | none=>simp
 | some q=>obtain ⟨b0,o0⟩:=q; simp [anQ]
theorem Vn {R R':Root} (h:R'.kind=R.kind):R'.bg=R.bg:=by unfold Root.bg; rw [h]
theorem Tm {k k':K} {v:Value} {cs:List Value} (h:uq k'=uq k):VC k' v cs↔VC k v cs:=by
 cases k <;> cases k' <;> first | exact Iff.rfl | simp [uq] at h
theorem MZ {p:List Stp} {k:K} {x:El k} {t z:Dat} (hp:p≠[]) (hz:dX p k x t=some z):uq z.1=uq k:=by
 cases p with
 | nil=>exact absurd rfl hp
 | cons s p=>
  cases s with
  | fJ n=>
   cases k with
   | st c=>
    simp only [dX] at hz
    cases hcg:aO n c x with
    | none=>rw [hcg] at hz; simp at hz
    | some s=>
     rw [hcg] at hz
     simp only at hz
     cases hs':dX p s.1 s.2 t with
     | none=>rw [hs'] at hz; simp at hz
     | some u=>
      rw [hs'] at hz
      simp only at hz
      cases hcp:cz n c x u with
      | none=>rw [hcp] at hz; simp at hz
      | some y=>rw [hcp] at hz; simp only [anh] at hz; subst hz; rfl
   | _=>simp [dX] at hz
  | idx i=>
   cases k with
   | sl e k=>
    simp only [dX] at hz
    cases hs':dX p k ((show List (El k) from x).getD i.toNat k.zero) t with
    | none=>rw [hs'] at hz; simp at hz
    | some u=>
     rw [hs'] at hz
     simp only at hz
     cases hck:bP u.1 k u.2 with
     | none=>rw [hck] at hz; simp at hz
     | some y=>rw [hck] at hz; simp only [anh] at hz; subst hz; rfl
   | _=>simp [dX] at hz
theorem U4 (k:K):k.tys≠[]∨sP k++k.tys≠[]:=by
 unfold sP
 cases k.tys with
 | nil=>exact .inr (by simp)
 | cons a l=>exact .inl (by simp)
def dZ (R:Root) (d:Dat) (z:Dat):Root:={ R with k:=z.1,x:=z.2,w:=d.1.tys++R.w,h:=sP d.1++d.1.tys++R.h }
def eH (R:Root) (d:Dat) (z:Dat) (own':List TypeId):Root:={ dZ R d z with own:=own' }
theorem oN:∀(q:List Stp) {k:K},∀t∈ah q k,t∈k.tys:=by
 intro q
 induction q with
 | nil=>intro k t ht; simp [ah] at ht
 | cons s q ih=>
  intro k t ht
  cases s with
  | fJ n=>
   cases k with
   | st c=>
    simp only [ah] at ht
    cases hc:ah.Hu n c with
    | none=>rw [hc] at ht; simp at ht
    | some k'=>
     rw [hc] at ht
     have h1:=ih t ht
     have:∀(n:Nat) {c k':K},ah.Hu n c=some k'→∀t∈k'.tys,t∈c.tys:=by
      intro n
      induction n with
      | zero=>
       intro c k' h t ht
       cases c with
       | pair a b=>simp only [ah.Hu,anh] at h; subst h; simp [K.tys,ht]
       | _=>simp [ah.Hu] at h
      | succ n ih=>
       intro c k' h t ht
       cases c with
       | pair a b=>simp only [ah.Hu] at h; simp [K.tys,ih h t ht]
       | _=>simp [ah.Hu] at h
     exact this n hc t h1
   | _=>simp [ah] at ht
  | idx i=>
   cases k with
   | sl e k=>
    simp only [ah,anu] at ht
    rcases ht with h | h
    ·simp [K.tys,h]
    ·simp [K.tys,ih t h]
   | _=>simp [ah] at ht
theorem afj {own':List TypeId} (H:Rel cx σ α F a w) (hr:aP σ r R) (hv:bu σ R) {p:List Stp} {d z:Dat} (hg:aQ p R.k R.x=some d) (hz:dX p R.k R.x (rJ d)=some z) (fO:ng p R.k R.x)
  (hown:∀t∈ah p R.k,az t R.own=true) (hpv:p≠[]∨∃t,R.kind=.var t) (hso:∀t∈z.1.tys,az t own'=az t R.own) :
  ∃cs1 nE fK rest,bG (hp w) p R.k (α.hdr r) (dV α R r)=some (cs1,nE)∧
   Rel cx (au σ r (eH R d z own')) (aG α r (α.loc r) (α.hdr r) rest) (fK++F) a w∧
   ni cx σ α F w (au σ r (eH R d z own')) (aG α r (α.loc r) (α.hdr r) rest) (fK++F) w (sU r d.1.tys) (sU r (sP d.1++d.1.tys))∧
   Held cx (au σ r (eH R d z own')) (aG α r (α.loc r) (α.hdr r) rest) (fK++F) w d.1 d.2 R.own R.tags cs1 fK∧(∀tys,bq (au σ r (eH R d z own')) tys R.tags=bq σ tys R.tags)∧(α.fo r).Perm (fK++rest):=by
 have K:=H.roots r R hr
 have hnd:=K.nd
 rw [bV,nu] at hnd
 have hO:=K.ow hv
 obtain ⟨cs1,fK,rest,nE,hn,hp1,hd1,hc1,hin,hnone,hup⟩:=focus p hO (fun b o e=>(K.mem b o e).1) hg fO hown hnd.2 (fun b o e=>hnd.1 b o e)
 have hnt:=(H.dz r R hr.1).2.2
 have hl1:=dh hd1
 obtain ⟨cs',hl',JY,hC',hN',hK'⟩:=hup.go (hp w) (iL cx σ α F w R.tags) (rJ d) cs1 [] z hz hl1 (Zv hd1) (fun b hb=>⟨hb,rfl⟩) (fun _ _ _=>rfl)
  (fun b o e=>⟨hc1 b o e,by
   have:∃arr te fr,hp w b=some (.cells arr te fr):=by
    rcases hin b o e with ⟨_,o0,ew,_⟩ | ⟨_,arr,te,lo,hi,h1,_⟩
    ·obtain ⟨_,arr,te,lo,hi,h1,_⟩:=K.mem b o0 ew; exact ⟨arr,te,_,h1⟩
    ·exact ⟨arr,te,_,h1⟩
   obtain ⟨arr,te,fr,h1⟩:=this
   exact gM.of_same _ _ h1 rfl⟩) (fun _=>rfl) (fun _ _ _ _=>rfl)
 have hcs:cs'=α.hdr r:=by
  cases hw:dV α R r with
  | none=>exact hN' hw
  | some q=>exact cells_eq (K.mem q.1 q.2 hw).1 (hC' q.1 q.2 hw) hl'
 rw [hcs,List.nil_append] at JY
 replace JY:=rF hso JY
 obtain ⟨_,_,hNK,_⟩:=hK' d.1.tys (sQ d.1) (fun q c0 w0 hq _ hn0 hs=>by
  obtain ⟨_,_,_,h3,h4⟩:=J7 (h:=hp w) q (x:=d.2) hs
  exact ⟨h3,c0,by rw [←hn0]; exact h4 cs1 nE⟩)
 rw [hcs] at hNK
 have hkind:(eH R d z own').kind=R.kind:=rfl
 have afC:(eH R d z own').bg=false:=hr.2
 have Mt:∀b,b∈α.fo r↔b∈fK∨b∈rest:=fun b=>by rw [hp1.mem_iff,anq]
 have D9:=hp1.nodup hnd.2
 have hsz:z.1.size=R.k.size:=Gc p (t:=rJ d) hg (sQ d.1) hz
 have T1:Ay cx σ α F w r R (eH R d z own') rest (fK++F) w d.1.tys (sP d.1++d.1.tys):=by
  refine ⟨.inr ⟨rfl,rfl,anz _,rfl,fun _=>hsz,U4 d.1⟩,⟨(H.dz r R hr.1).1,hnt⟩,⟨rfl,rfl,rfl⟩,anz _,fun b _ h=>absurd rfl h, ?_, ?_, ?_, ?_,fun _ _ _ _ _ _ _ _ h=>absurd rfl h,fun _=>⟨rfl,rfl⟩⟩
  ·intro _ b hb
   rw [oD hkind,fq] at hb
   refine .inl ?_
   rw [bV,fq,Mt]
   exact hb.imp id .inr
  ·intro b hb
   rcases anq.1 hb with h | h
   ·refine .inr (.inr ⟨by rw [bV,fq,Mt]; exact .inr (.inl h), .inr (.inl ?_)⟩)
    obtain ⟨e,h1,_,h2⟩:=uf hd1 b h
    exact ⟨e,h1,h2⟩
   ·exact .inl h
  ·refine ano.2 ⟨(ano.1 D9).1,H.zV,fun b h1 c h2 e=>H.iP r R hr b ?_ (e▸h2)⟩
   rw [bV,fq,Mt]
   exact .inr (.inl h1)
  ·intro _ b hb hF
   rw [oD hkind,fq] at hb
   rcases anq.1 hF with h | h
   ·rcases hb with ⟨o,hb⟩ | hb
    ·exact hnd.1 b o hb ((Mt b).2 (.inl h))
    ·exact (ano.1 D9).2.2 b h b hb rfl
   ·refine H.iP r R hr b ?_ h
    rw [bV,fq,Mt]
    exact hb.imp id .inr
 have hT:=T1.turn (hdr':=α.hdr r) H hr
 have J3:∀tys,bq (au σ r (eH R d z own')) tys R.tags=bq σ tys R.tags:=fun tys=>mH hnt
 refine ⟨cs1,nE,fK,rest,hn,T1.rel H hr ?_ ?_ ?_,hT, ?_,J3,hp1⟩
 ·intro _
  refine ⟨fun hv'=>?_,by rw [K.len]; exact hsz.symm, ?_, ?_⟩
  ·obtain ⟨h1,h2,_⟩:=hT.views H R.tags _ (H.dz r R hr.1).1 hv'.2
   exact bz (fun b hb=>(h2 b hb.1 (.inl hb.2)).2) (fun b hb=>(h2 b hb.1 (.inl hb.2)).1) (fun _ _=>rfl) (sI _ (fun _ h=>h) JY)
  ·intro b o hb
   have:(eH R d z own').k.size=R.k.size:=hsz
   rw [this]
   exact K.mem b o hb
  ·rw [oD hkind,nu]
   exact ⟨fun b o e hb=>hnd.1 b o e ((Mt b).2 (.inr hb)),(ano.1 D9).2.1⟩
 ·intro _ q n v hn' hold
  refine ⟨hold.1, ?_⟩
  intro Q hQ Z9 hcl hty hsome
  have hQ':Q=eH R d z own':=by
   rw [aI] at hQ
   simpa using hQ.symm
  subst hQ'
  have XU:dV (aG α r (α.loc r) (α.hdr r) rest) (eH R d z own') r=dV α R r:=by rw [jH,vD hkind, ←uC]
  have R5:(aG α r (α.loc r) (α.hdr r) rest).hdr r=α.hdr r:=by simp [aG,upd_same]
  have hh:(eH R d z own').h=(sP d.1++d.1.tys)++R.h:=rfl
  rw [hh,pg hn'] at hcl
  by_cases hq:q=[]
  case neg=>
   have hpt:∀k,dY q k=qo :: ah q k:=by
    intro k
    cases q with
    | nil=>exact absurd rfl hq
    | cons s q=>rfl
   rw [hpt] at hcl
   obtain ⟨k1,k2⟩:=M5 (bad:=d.1.tys) p q hg hz (fun q' h _=>let ⟨h1,h2,h3,_⟩:=J7 (h:=hp w) q' (x:=d.2) h; ⟨h1.trans h2.symm,h3⟩) hsome (fun e he hm=>hcl.1 e (anj _ hm) (anH _ he))
   have k1':ah q R.k=ah q (eH R d z own').k:=k1
   have hty':∀t∈ah q R.k,az t R.own=true:=fun t ht=>by
    have ht':t∈ah q z.1:=k1▸ht
    rw [←hso t (oN q t ht')]
    exact hty t ht'
   rw [←k1'] at hcl
   obtain ⟨g1,cs,b,o,g2,g3⟩:=hold.2 R hr.1 hv (by rw [hpt]; exact hcl.2) hty' k2
   obtain ⟨f1,c1,f2⟩:=hNK q cs (some (b,o)) g1 (fun t ht=>⟨hty' t ht,fun hm=>hcl.1 t (anj _ hm) (anH _ ht)⟩) g2 hsome
   rw [XU,R5]
   exact ⟨f1,c1,b,o,f2,g3⟩
  subst hq
  obtain ⟨_,cs,b,o,h1,h2⟩:=hold.2 R hr.1 hv (by simp [clean,dY,az]) (fun t ht=>by simp [ah] at ht) rfl
  simp only [bG,anh,ant] at h1
  refine ⟨trivial,(aG α r (α.loc r) (α.hdr r) rest).hdr r,b,o, ?_,h2⟩
  simp only [bG]
  rw [jH,vD hkind, ←uC,h1.2]
 ·intro _ g v hg' hold Q hQ hgQ
  obtain ⟨hQ',_⟩:=eT hQ
  subst hQ'
  obtain ⟨h1,h2⟩:=hold R hr hgQ
  refine ⟨h1, ?_⟩
  have:(aG α r (α.loc r) (α.hdr r) rest).hdr r=α.hdr r:=by simp [aG,upd_same]
  rw [this]
  rcases hpv with hp | ⟨t,ht⟩
  ·
   cases p with
   | nil=>exact absurd rfl hp
   | cons s p=>
    exact (Tm (MZ (by simp) hz)).2 h2
  ·rw [ht] at h1; simp at h1
 ·refine ⟨fun hc=>?_,fun t ht=>hT.tag ((H.dz r R hr.1).1 t ht),fun b hb=>anm _ hb,(ano.1 D9).1,hl1⟩
  obtain ⟨h1,h2,_⟩:=hT.views H R.tags _ (H.dz r R hr.1).1 hc
  exact bz (fun b hb=>(h2 b hb.1 (.inl hb.2)).2) (fun b hb=>(h2 b hb.1 (.inl hb.2)).1) (fun _ _=>rfl) (sI _ (fun _ h=>h) hd1)
theorem gap (H:Rel cx σ α F a w) (hr:aP σ r R) (hv:bu σ R) {p:List Stp} {d z:Dat} (hg:aQ p R.k R.x=some d) (hz:dX p R.k R.x (rJ d)=some z) (fO:ng p R.k R.x)
  (hown:∀t∈ah p R.k,az t R.own=true) (hpv:p≠[]∨∃t,R.kind=.var t) :
  ∃cs1 nE fK rest,bG (hp w) p R.k (α.hdr r) (dV α R r)=some (cs1,nE)∧
   Rel cx (au σ r (dZ R d z)) (aG α r (α.loc r) (α.hdr r) rest) (fK++F) a w∧
   ni cx σ α F w (au σ r (dZ R d z)) (aG α r (α.loc r) (α.hdr r) rest) (fK++F) w (sU r d.1.tys) (sU r (sP d.1++d.1.tys))∧
   Held cx (au σ r (dZ R d z)) (aG α r (α.loc r) (α.hdr r) rest) (fK++F) w d.1 d.2 R.own R.tags cs1 fK∧(∀tys,bq (au σ r (dZ R d z)) tys R.tags=bq σ tys R.tags)∧(α.fo r).Perm (fK++rest):=
 afj (own':=R.own) H hr hv hg hz fO hown hpv (fun _ _=>rfl)
end
end
section
open Go
variable [Fr]
theorem SS {own own':List TypeId}:∀{k:K},(∀t∈k.tys,az t own'=true→az t own=true)→∀t∈aU own k,t∈aU own' k:=by
 intro k
 induction k with
 | sl e k ih=>
  intro h t ht
  cases hm':az e own' with
  | true=>
   have hm:=h e (by simp [K.tys]) hm'
   simp only [aU,hm,cond_true] at ht
   simp only [aU,hm',cond_true]
   exact ih (fun t ht=>h t (by simp [K.tys,ht])) t ht
  | false=>
   have:=Gi ht
   simpa [aU,hm',K.tys] using this
 | pair a b iha ihb=>
  intro h t ht
  simp only [aU,anq] at ht ⊢
  exact ht.imp (iha (fun t ht=>h t (by simp [K.tys,ht])) t) (ihb (fun t ht=>h t (by simp [K.tys,ht])) t)
 | st f ih=>intro h t ht; exact ih h t ht
 | _=>intro _ t ht; simp [aU] at ht
theorem Rq {own:List TypeId}:∀(n:Nat) {c:K} {x:El c} {s u y:Dat},aO n c x=some s→cz n c x u=some y→
  (∀e∈aU own u.1,e∈aU own y.1)∧((∀e∈aU own s.1,e∈aU own u.1)→∀e∈aU own c,e∈aU own y.1):=by
 intro n
 induction n with
 | zero=>
  intro c x s u y hg hp
  cases c with
  | pair a b=>
   simp only [aO,cz,anh] at hg hp
   subst hg; subst hp
   refine ⟨fun e he=>by simp [aU,he],fun h e he=>?_⟩
   simp only [aU,anq] at he ⊢
   exact he.imp (h e) id
  | _=>simp [aO] at hg
 | succ n ih=>
  intro c x s u y hg hp
  cases c with
  | pair a b=>
   simp only [aO,cz] at hg hp
   cases h3:cz n b x.2 u with
   | none=>rw [h3] at hp; simp at hp
   | some y2=>
    rw [h3] at hp
    simp only [anh] at hp
    subst hp
    obtain ⟨g1,g2⟩:=ih hg h3
    refine ⟨fun e he=>by simp [aU,g1 e he],fun h e he=>?_⟩
    simp only [aU,anq] at he ⊢
    exact he.imp id (g2 h e)
  | _=>simp [aO] at hg
theorem M9 {own:List TypeId}:∀(p:List Stp) {k:K} {x:El k} {d t z:Dat},aQ p k x=some d→dX p k x t=some z→
  (∀e∈aU own t.1,e∈aU own z.1∨∃q∈ah p k,az q own=false)∧((∀e∈aU own d.1,e∈aU own t.1)→∀e∈aU own k,e∈aU own z.1):=by
 intro p
 induction p with
 | nil=>
  intro k x d t z hg hz
  simp only [aQ,dX,anh] at hg hz
  subst hg; subst hz
  exact ⟨fun e he=>.inl he,fun h=>h⟩
 | cons s p ih=>
  intro k x d t z hg hz
  cases s with
  | fJ n=>
   cases k with
   | st c=>
    simp only [aQ,dX] at hg hz
    cases hcg:aO n c x with
    | none=>rw [hcg] at hg; simp at hg
    | some s=>
     rw [hcg] at hg hz
     simp only at hg hz
     cases hs':dX p s.1 s.2 t with
     | none=>rw [hs'] at hz; simp at hz
     | some u=>
      rw [hs'] at hz
      simp only at hz
      cases hcp:cz n c x u with
      | none=>rw [hcp] at hz; simp at hz
      | some y=>
       rw [hcp] at hz
       simp only [anh] at hz
       subst hz
       obtain ⟨g1,g2⟩:=ih hg hs'
       obtain ⟨f1,f2⟩:=Rq (own:=own) n hcg hcp
       have hpt:ah (.fJ n :: p) (.st c)=ah p s.1:=by simp [ah,bW n hcg]
       rw [hpt]
       exact ⟨fun e he=>(g1 e he).imp (f1 e) id,fun h=>f2 (g2 h)⟩
   | _=>simp [aQ] at hg
  | idx i=>
   cases k with
   | sl e k=>
    simp only [aQ,dX] at hg hz
    cases hs':dX p k ((show List (El k) from x).getD i.toNat k.zero) t with
    | none=>rw [hs'] at hz; simp at hz
    | some u=>
     rw [hs'] at hz
     simp only at hz
     cases hck:bP u.1 k u.2 with
     | none=>rw [hck] at hz; simp at hz
     | some y=>
      rw [hck] at hz
      simp only [anh] at hz
      subst hz
      obtain ⟨g1,g2⟩:=ih hg hs'
      have huk:u.1=k:=by
       unfold bP at hck
       split at hck
       ·rename_i hb; exact K.eq_of_beq hb
       ·simp at hck
      refine ⟨fun e' he=>?_,fun _ e' he=>he⟩
      cases hm:az e own with
      | false=>exact .inr ⟨e,by simp [ah],hm⟩
      | true=>
       rcases g1 e' he with h | ⟨q,h1,h2⟩
       ·exact .inl (by simp only [aU,hm,cond_true]; rw [←huk]; exact h)
       ·exact .inr ⟨q,by simp [ah,h1],h2⟩
   | _=>simp [aQ] at hg
theorem Pf:∀(n:Nat) {c:K} {x y:El c} {s:Dat},aO n c x=some s→∃t:Dat,aO n c y=some t∧t.1=s.1:=by
 intro n
 induction n with
 | zero=>
  intro c x y s h
  cases c <;> first | (simp only [aO,anh] at h; subst h; exact ⟨_,rfl,rfl⟩) | simp [aO] at h
 | succ n ih=>
  intro c x y s h
  cases c <;> first | exact ih h | simp [aO] at h
theorem UJ:∀(n:Nat) {c:K} {x:El c} {s:Dat},aO n c x=some s→∀t∈s.1.tys,t∈c.tys:=by
 intro n
 induction n with
 | zero=>
  intro c x s h t ht
  cases c with
  | pair a b=>simp only [aO,anh] at h; subst h; simp [K.tys,ht]
  | _=>simp [aO] at h
 | succ n ih=>
  intro c x s h t ht
  cases c with
  | pair a b=>simp only [aO] at h; simp [K.tys,ih h t ht]
  | _=>simp [aO] at h
theorem u6 {h h':Heap} {own:List TypeId}:∀(q:List Stp) {k:K} {x y:El k} {cs cs':List Value} {wh:Option (Nat×Nat)} {c0:List Value} {w0:Option (Nat×Nat)},
  ng q k x→(∀t∈ah q k,az t own=true∧t∉k.tys)→bG h q k cs wh=some (c0,w0)→ng q k y∧∃c1,bG h' q k cs' wh=some (c1,w0):=by
 intro q
 induction q with
 | nil=>
  intro k x y cs cs' wh c0 w0 _ _ hn
  simp only [bG,anh,ant] at hn ⊢
  exact ⟨trivial,_,rfl,hn.2⟩
 | cons s q ih=>
  intro k x y cs cs' wh c0 w0 hp ht hn
  cases s with
  | fJ n=>
   cases k with
   | st c=>
    simp only [ng] at hp
    cases hg:aO n c x with
    | none=>rw [hg] at hp; exact hp.elim
    | some s=>
     rw [hg] at hp
     simp only at hp
     have hpt:ah (.fJ n :: q) (.st c)=ah q s.1:=by simp [ah,bW n hg]
     rw [hpt] at ht
     obtain ⟨t,g1,g2⟩:=Pf n (c:=c) (x:=x) (y:=y) hg
     obtain ⟨sk,sx⟩:=s
     obtain ⟨tk,ty⟩:=t
     simp only at g2
     subst g2
     simp only [bG] at hn ⊢
     cases ho:bB n c with
     | none=>rw [ho] at hn; simp at hn
     | some q2=>
      rw [ho] at hn
      simp only at hn
      have hk2:q2.2=tk:=by
       have key:∀(n:Nat) {c:K} {x:El c} {s:Dat} {q:Nat×K},aO n c x=some s→bB n c=some q→q.2=s.1:=by
        intro n
        induction n with
        | zero=>intro c x s q h1 h2; cases c with
         | pair a b=>simp only [aO,bB,anh] at h1 h2; subst h1; subst h2; rfl
         | _=>simp [aO] at h1
        | succ n ih=>intro c x s q h1 h2; cases c with
         | pair a b=>
          simp only [aO,bB] at h1 h2
          cases h3:bB n b with
          | none=>rw [h3] at h2; simp at h2
          | some q3=>rw [h3] at h2; simp only [anh] at h2; subst h2; exact ih (q:=q3) h1 h3
         | _=>simp [aO] at h1
       exact key n hg ho
      obtain ⟨o2,k2⟩:=q2
      simp only at hk2
      subst hk2
      simp only [ng,g1]
      exact ih hp (fun t h=>⟨(ht t h).1,fun h2=>(ht t h).2 (UJ n hg t h2)⟩) hn
   | _=>simp [ng] at hp
  | idx i=>
   cases k with
   | sl e k=>exact absurd (by simp [K.tys]) (ht e (by simp [ah])).2
   | _=>simp [ng] at hp
theorem EU {h:Heap} {b o n:Nat} {arr:Array Value} {e:TypeId} {fr:Nat×Nat} (hb:h b=some (.cells arr e fr)) (hl:o+n≤arr.size):Cells h b o (qb h b o n):=by
 intro i hi
 simp only [qb,List.length_map,List.length_range] at hi ⊢
 rw [List.getElem?_map,List.getElem?_range hi]
 simp only [Option.map_some]
 unfold cellAt
 rw [hb]
 simp [show o+i<arr.size by omega]
theorem gM.widen {h0 h h':Heap} {b o n o' n':Nat} (H0:gM h0 h b o n) (H:gM h h' b o' n') (h1:o≤o') (h2:o'+n'≤o+n):gM h0 h' b o n:=by
 obtain ⟨a0,a1,e,fr,g1,g2,g3,g4⟩:=H0
 obtain ⟨b0,b1,e',fr',f1,f2,f3,f4⟩:=H
 rw [g2] at f1
 simp only [anh,Obj.cells.injEq] at f1
 obtain ⟨rfl,rfl,rfl⟩:=f1
 exact ⟨a0,b1,e,fr,g1,f2,f3.trans g3,fun i hi=>(f4 i (by omega)).trans (g4 i hi)⟩
theorem cZ {l m:List Tag} {t:Tag}:t∈iK l m↔t∈l∨t∈m:=by
 induction l with
 | nil=>simp [iK]
 | cons s l ih=>
  obtain ⟨r,n⟩:=s
  simp only [iK]
  cases h:m.any fun t=>Nat.beq t.1 r && Nat.beq t.2 n with
  | true=>
   simp only [cond_true,ih,anu]
   constructor
   ·intro h; exact h.imp .inr id
   ·rintro ((h1 | h1) | h1)
    ·subst h1
     obtain ⟨t,h2,h3⟩:=List.any_eq_true.1 h
     simp only [ann] at h3
     obtain ⟨tr,tn⟩:=t
     have:=anl h3.1
     have:=anl h3.2
     simp_all
    ·exact .inl h1
    ·exact .inr h1
  | false=>simp only [cond_false,ih,anu,or_assoc]
theorem pF {r:Nat} {l:List Tag} {t:Tag}:t∈w9 r l↔t∈l∧t.1≠r:=by
 unfold w9
 rw [anA]
 constructor
 ·rintro ⟨h1,h2⟩
  refine ⟨h1,fun e=>?_⟩
  rw [e] at h2
  simp at h2
 ·rintro ⟨h1,h2⟩
  refine ⟨h1, ?_⟩
  cases hb:Nat.beq t.1 r with
  | true=>exact absurd (anl hb) h2
  | false=>rfl
section
variable {cx:Cx} {σ:St} {α:dL} {F:List Nat} {a:Act} {w:World} {r:Nat} {R:Root}
theorem vZ {T T':List Tag} {b:Nat} (h:iL cx σ α F w T b) (hs:∀t∈T,t∈T'):iL cx σ α F w T' b:=
 ⟨h.1,h.2.1,h.2.2.1,fun r R h1 h2=>by obtain ⟨n,hn⟩:=h.2.2.2.1 r R h1 h2; exact ⟨n,hs _ hn⟩,fun hb=>(h.2.2.2.2 hb).imp (fun ⟨j,n,h1,h2⟩=>⟨j,n,hs _ h1,h2⟩) id⟩
theorem qy {T T':List Tag} {tys agA:List TypeId} (h:bq σ tys T=true) (hs:∀t∈T',t∈T) (ht:∀t∈agA,t∈tys):bq σ agA T'=true:=by
 rw [oF] at h ⊢
 intro t h1
 rcases h t (hs t h1) with h | ⟨R,h2,h3,h4⟩
 ·exact .inl h
 ·refine .inr ⟨R,h2,h3, ?_⟩
  unfold clean at h4 ⊢
  rw [anx] at h4 ⊢
  intro x hx
  have:=h4 x hx
  simp only [Bool.not_eq_true',aV] at this ⊢
  exact fun h=>this (ht x h)
theorem oG (H:Rel cx σ α F a w) (hr:aP σ r R) {b:Nat} (hb:b∈α.fo r):¬lN cx b:=by
 rintro ⟨j,pi,o,n,h1,h2⟩
 obtain ⟨Q,hQ,hk,hl,_⟩:=H.lQ j pi b o n h1 h2
 have hbq:b∈blk α Q (ay j):=by simp [blk,dV,hk,hl]
 have hbr:b∈blk α R r:=anj _ hb
 by_cases e:r=ay j
 ·subst e
  have hQR:Q=R:=by have:=hQ.1; rw [hr.1] at this; simpa using this.symm
  subst hQR
  have hnd:=(H.roots _ _ hr).nd
  rw [bV,nu] at hnd
  exact hnd.1 b o (by simp [wO,hk,hl]) hb
 ·exact H.Iu _ _ _ _ hr hQ e b hbr hbq
theorem sF (H:Rel cx σ α F a w) {b:Nat} (hb:b∈F):¬lN cx b:=by
 rintro ⟨j,pi,o,n,h1,h2⟩
 obtain ⟨Q,hQ,hk,hl,_⟩:=H.lQ j pi b o n h1 h2
 have hbq:b∈blk α Q (ay j):=by simp [blk,dV,hk,hl]
 exact H.iP _ _ hQ b hbq hb
def bH (R:Root) (z:Dat) (own:List TypeId) (tags:List Tag) (lw lh:List TypeId) (kp:Bool):Root:=
 { R with k:=z.1,x:=z.2,own:=own,tags:=tags,w:=lw++R.w,h:=lh++R.h,keep:=kp }
theorem qa (H:Rel cx σ α F a w) (hr:aP σ r R) (hv:bu σ R) {p:List Stp} {d:Dat} (hg:aQ p R.k R.x=some d) (fO:ng p R.k R.x) (hown:∀t∈ah p R.k,az t R.own=true)
  {cs1:List Value} {b o:Nat} (hn:bG (hp w) p R.k (α.hdr r) (dV α R r)=some (cs1,some (b,o))) :
  Cells (hp w) b o cs1∧(∃fK,Ow (hp w) R.own (iL cx σ α F w R.tags) d.1 d.2 cs1 fK∧∀b∈fK,b∈α.fo r)∧b∈blk α R r∧(∃arr e lo hi,hp w b=some (.cells arr e (lo,hi))∧(∀i,i<arr.size→¬(lo≤i∧i<hi))∧o+d.1.size≤arr.size∧((eP R p=e∧¬lN cx b)∨(lN cx b∧eP R p=SENT)))∧
   (∀b' o',dV α R r=some (b',o')→b=b'→o'≤o∧o+d.1.size≤o'+R.k.size):=by
 have K:=H.roots r R hr
 have hnd:=K.nd
 rw [bV,nu] at hnd
 obtain ⟨pM,fK,rest,nE,hn',hp1,hd1,hc1,hin,hnone,hup⟩:=focus p (K.ow hv) (fun b o e=>(K.mem b o e).1) hg fO hown hnd.2 (fun b o e=>hnd.1 b o e)
 rw [hn] at hn'
 simp only [anh,ant] at hn'
 obtain ⟨rfl,rfl⟩:=hn'
 refine ⟨hc1 b o rfl,⟨fK,hd1,fun b hb=>hp1.mem_iff.2 (anm _ hb)⟩, ?_, ?_, ?_⟩
 ·rw [bV,fq]
  rcases hin b o rfl with ⟨_,o0,ew,_⟩ | ⟨h1,_⟩
  ·exact .inl ⟨o0,ew⟩
  ·exact .inr (hp1.mem_iff.2 (anj _ h1))
 ·rcases hin b o rfl with ⟨h0,o0,ew,h1,h2⟩ | ⟨h1,arr,e,lo,hi,h2,h3,h4,h5⟩
  ·obtain ⟨_,arr,e,lo,hi,g1,g2,g3,g4⟩:=K.mem b o0 ew
   refine ⟨arr,e,lo,hi,g1,g2,by omega, ?_⟩
   unfold eP
   rw [h0]
   simp only [List.getLastD_nil]
   unfold Root.bt
   cases hk:R.kind with
   | var t=>
    refine .inl ⟨(g4 t hk).symm, ?_⟩
    rintro ⟨j,pi,o',n',h1',h2'⟩
    obtain ⟨Q,hQ,hkQ,hlQ,_⟩:=H.lQ j pi b o' n' h1' h2'
    have hbq:b∈blk α Q (ay j):=by simp [blk,dV,hkQ,hlQ]
    have hbr:b∈blk α R r:=by rw [bV,fq]; exact .inl ⟨o0,ew⟩
    by_cases e:r=ay j
    ·subst e
     have hQR:Q=R:=by have:=hQ.1; rw [hr.1] at this; simpa using this.symm
     subst hQR
     rw [hk] at hkQ
     simp at hkQ
    ·exact H.Iu _ _ _ _ hr hQ e b hbr hbq
   | par=>
    obtain ⟨j,pi,n,hj1,hj2,hj3⟩:=H.Ep r R hr hk
    have:(α.loc r).1=b:=by
     have:=ew
     unfold dV at this
     rw [hk] at this
     simp only [anh] at this
     rw [this]
    exact .inr ⟨⟨j,pi,_,n,hj2,by rw [hj3,this]⟩,rfl⟩
   | anon=>unfold dV at ew; rw [hk] at ew; simp at ew
   | dead=>unfold dV at ew; rw [hk] at ew; simp at ew
  ·refine ⟨arr,e,lo,hi,h2,h3,h5, .inl ⟨?_,oG H hr (hp1.mem_iff.2 (anj _ h1))⟩⟩
   unfold eP
   rw [List.getLastD_eq_getLast?,h4]
   rfl
 ·intro b' o' ew e
  subst e
  rcases hin b o rfl with ⟨_,o0,ew',h1,h2⟩ | ⟨h1,_⟩
  ·rw [ew] at ew'
   simp only [anh,ant,true_and] at ew'
   subst ew'
   exact ⟨h1,h2⟩
  ·exact absurd (hp1.mem_iff.2 (anj _ h1)) (hnd.1 b o' ew)
end
end
section
open Go
variable [Fr]
section
variable {cx:Cx} {σ:St} {α:dL} {F:List Nat} {a:Act} {w:World} {r:Nat} {R:Root}
structure sJ (cx:Cx) (σ:St) (α:dL) (F:List Nat) (w:World) (r:Nat) (R:Root) (p:List Stp) (d:Dat) (own':List TypeId) (cs1:List Value) (nE:Option (Nat×Nat)) (fK rest:List Nat)
  (t z:Dat) (tags':List Tag) (lw lh:List TypeId) (kp:Bool) (ft F':List Nat) (cs':List Value) (w':World):Prop where
 hz:dX p R.k R.x t=some z
 ht:t.1.size=d.1.size
 Vi:∀e∈aU own' d.1,e∈aU own' t.1
 os:w'.os=w.os∧w'.tape=w.tape∧w'.output=w.output
 size:w.heap.size≤w'.heap.size
 QL:∀b,b<w.heap.size→hp w' b≠hp w b→b∈F∨(b∈fK∧∃e∈lw,qM (hp w) b=some e)∨(∃o,nE=some (b,o)∧eP R p∈lw)
 cells:∀b o,nE=some (b,o)→Cells (hp w') b o cs'∧gM (hp w) (hp w') b o d.1.size
 none:nE=none→cs'=cs1
 len:cs'.length=d.1.size
 log:lw≠[]∨lh≠[]
 tags:(∀t∈R.tags,t∈tags')∧eY σ tags'∧∀n,(r,n)∉tags'
 TR:∀b∈ft,b∈fK∨b∈F∨(w.heap.size≤b∧b<w'.heap.size)
 ajv:ft.Nodup
 newF:∀b∈F',b∈F∨(w.heap.size≤b∧b<w'.heap.size)∨(b∈fK∧∃e∈lw,qM (hp w) b=some e)
 agU:F'.Nodup
 aju:∀b∈ft,b∉F'
 akF:uq t.1=uq d.1∨nE≠Option.none
 ajx:t.1=d.1∨(∀q',(aQ q' t.1 t.2).isSome=true→(∀e∈ah q' t.1,e∉lh)→ah q' d.1=ah q' t.1∧(aQ q' d.1 d.2).isSome=true)∨qo∈lh
 nav:qo∉lh→Ip (hp w) (hp w') own' d.1 d.2 cs1 nE t cs' lh
 cont:∀α',ni cx σ α F w (au σ r (bH R z own' tags' lw lh kp)) α' F' w' (sU r lw) (sU r lh)→(∀b∈blk α' (bH R z own' tags' lw lh kp) r,(∃o,dV α R r=some (b,o))∨b∈ft∨b∈rest)→
  bu (au σ r (bH R z own' tags' lw lh kp)) (bH R z own' tags' lw lh kp)→Ow (hp w') own' (iL cx (au σ r (bH R z own' tags' lw lh kp)) α' F' w' tags') t.1 t.2 cs' ft
theorem Rel.place (H:Rel cx σ α F a w) (hr:aP σ r R) (hv:bu σ R) {p:List Stp} {d:Dat} {own':List TypeId} (hg:aQ p R.k R.x=some d) (fO:ng p R.k R.x)
  (hsub:∀t,az t own'=true→az t R.own=true) (hown:∀t∈ah p R.k,az t own'=true) :
  ∃fd ok' fK rest cs1 nE,bG (hp w) p R.k (α.hdr r) (dV α R r)=some (cs1,nE)∧(α.fo r).Perm (fK++rest++fd)∧Ow (hp w) own' ok' d.1 d.2 cs1 fK∧(∀b∈fK++rest,∃e∈R.k.tys,az e own'=true∧qM (hp w) b=some e)∧
   ((∀t∈R.k.tys,az t own'=az t R.own)→fd=[]∧Ow (hp w) own' (iL cx σ α F w R.tags) d.1 d.2 cs1 fK)∧
   (∀b o,nE=some (b,o)→b∈rest∨∃o0,dV α R r=some (b,o0)∧o0≤o∧o+d.1.size≤o0+R.k.size)∧(∀b o,nE=some (b,o)→b∉fK)∧
   ∀{t z:Dat} {tags':List Tag} {lw lh:List TypeId} {kp:Bool} {ft F':List Nat} {cs':List Value} {w':World},sJ cx σ α F w r R p d own' cs1 nE fK rest t z tags' lw lh kp ft F' cs' w'→
    ∃α',Rel cx (au σ r (bH R z own' tags' lw lh kp)) α' F' a w'∧ni cx σ α F w (au σ r (bH R z own' tags' lw lh kp)) α' F' w' (sU r lw) (sU r lh)∧(∀b∈blk α' (bH R z own' tags' lw lh kp) r,(∃o,dV α R r=some (b,o))∨b∈ft∨b∈rest)∧
     (qo∉lh→bu (au σ r (bH R z own' tags' lw lh kp)) (bH R z own' tags' lw lh kp)→bG (hp w') p z.1 (α'.hdr r) (dV α' (bH R z own' tags' lw lh kp) r)=some (cs',nE))∧∀b∈ft,b∈α'.fo r:=by
 have K:=H.roots r R hr
 have hnd:=K.nd
 rw [bV,nu] at hnd
 have hO:=K.ow hv
 obtain ⟨Mr,fd,hpK,hOK,hfd0⟩:∃Mr fd,(α.fo r).Perm (Mr++fd)∧Ow (hp w) own' (fun b=>(iL cx σ α F w R.tags b∨b∈fd)∧∃t∈aU own' R.k,vO (hp w) b t) R.k R.x (α.hdr r) Mr∧((∀t∈R.k.tys,az t own'=az t R.own)→fd=[]):=by
  by_cases hall:∀t∈R.k.tys,az t own'=az t R.own
  ·exact ⟨α.fo r,[],by simp,sI _ (fun _ h=>h) (bz (fun _ _=>rfl) (fun _ h=>.inl h) (fun _ _=>rfl) (rF hall hO)),fun _=>rfl⟩
  ·obtain ⟨Mr,fd,h1,h2⟩:=uV (own':=own') (fun t _ h=>hsub t h) hO
   exact ⟨Mr,fd,h1,sI _ (fun _ h=>h) h2,fun h=>absurd h hall⟩
 have acL:=hpK.nodup hnd.2
 have ajZ:∀b,b∈α.fo r↔b∈Mr∨b∈fd:=fun b=>by rw [hpK.mem_iff,anq]
 obtain ⟨cs1,fK,rest,nE,hn,hp1,hd1,hc1,hin,hnone,hup⟩:=focus p hOK (fun b o e=>(K.mem b o e).1) hg fO hown (ano.1 acL).1 (fun b o e hb=>hnd.1 b o e ((ajZ b).2 (.inl hb)))
 have hpf:(α.fo r).Perm (fK++rest++fd):=hpK.trans (List.Perm.append_right _ hp1)
 have hfo:∀b,b∈α.fo r↔(b∈fK∨b∈rest)∨b∈fd:=fun b=>by rw [hpf.mem_iff,anq,anq]
 have Vd:=hpf.nodup hnd.2
 have PS:=(ano.1 Vd).1
 have akz:=uf hOK
 have zB:∀b o,nE=some (b,o)→b∈rest∨∃o0,dV α R r=some (b,o0)∧o0≤o∧o+d.1.size≤o0+R.k.size:=by
  intro b o e
  rcases hin b o e with ⟨_,o0,ew,h1,h2⟩ | ⟨h1,_⟩
  ·exact .inr ⟨o0,ew,h1,h2⟩
  ·exact .inl h1
 have acY:∀b o,nE=some (b,o)→b∉fK:=by
  intro b o e hb
  rcases zB b o e with h | ⟨o0,ew,_⟩
  ·exact (ano.1 PS).2.2 b hb b h rfl
  ·exact hnd.1 b o0 ew ((hfo b).2 (.inl (.inl hb)))
 have aga:∀b o,nE=some (b,o)→b∉fd:=by
  intro b o e hb
  rcases zB b o e with h | ⟨o0,ew,_⟩
  ·exact (ano.1 Vd).2.2 b (anj _ h) b hb rfl
  ·exact hnd.1 b o0 ew ((hfo b).2 (.inr hb))
 refine ⟨fd,_,fK,rest,cs1,nE,hn,hpf,hd1,fun b hb=>akz b (hp1.mem_iff.2 hb), ?_,zB,acY, ?_⟩
 ·intro hall
  have h0:=hfd0 hall
  refine ⟨h0,bz (fun _ _=>rfl) (fun b hb=>?_) (fun _ _=>rfl) hd1⟩
  rcases hb.1 with hb | hb
  ·exact hb
  ·rw [h0] at hb; simp at hb
 intro t z tags' lw lh kp ft F' cs' w' P
 generalize hR':bH R z own' tags' lw lh kp=R' at *
 have Ez:R'.k=z.1:=by rw [←hR']; rfl
 have hkind:R'.kind=R.kind:=by rw [←hR']; rfl
 have afC:R'.bg=false:=by rw [Vn hkind]; exact hr.2
 have afp:R'.own=own':=by rw [←hR']; rfl
 have Xp:R'.tags=tags':=by rw [←hR']; rfl
 have hRg:R'.g=R.g:=by rw [←hR']; rfl
 have hRw:R'.w=lw++R.w:=by rw [←hR']; rfl
 have hRh:R'.h=lh++R.h:=by rw [←hR']; rfl
 have hsz:z.1.size=R.k.size:=Gc p hg P.ht P.hz
 have jD:∀b,b∈fK∨b∈rest∨b∈fd∨(∃o,dV α R r=some (b,o))→b∈blk α R r:=by
  intro b hb
  rw [bV,fq,hfo]
  rcases hb with h | h | h | h
  ·exact .inr (.inl (.inl h))
  ·exact .inr (.inl (.inr h))
  ·exact .inr (.inr h)
  ·exact .inl h
 have Hz:∀b∈blk α R r,b∉F:=fun b hb=>H.iP r R hr b hb
 have hblt:∀b∈blk α R r,b<w.heap.size:=fun b hb=>(K.mine b hb).1
 have acw:∀b∈blk α R r,b∉fK→b∉F':=fun b hb hno h=>by
  rcases P.newF b h with h | h | h
  ·exact Hz b hb h
  ·have:=hblt b hb; omega
  ·exact hno h.1
 have XQ:∀b∈blk α R r,b∉fK→(∀o,nE≠some (b,o))→hp w' b=hp w b:=by
  intro b hb h1 h2
  refine anF fun hne=>?_
  rcases P.QL b (hblt b hb) hne with h | ⟨h,_⟩ | ⟨o,h,_⟩
  ·exact Hz b hb h
  ·exact h1 h
  ·exact h2 o h
 have ZY:∀b∈fd,hp w' b=hp w b:=fun b hb=>XQ b (jD b (.inr (.inr (.inl hb))))
  (fun h=>(ano.1 Vd).2.2 b (anm _ h) b hb rfl) (fun o e=>aga b o e hb)
 have Vg:∀b∈rest,nE.map (·.1)≠some b→hp w' b=hp w b:=fun b hb hne=>XQ b (jD b (.inr (.inl hb)))
  (fun h=>(ano.1 PS).2.2 b h b hb rfl) (fun o e=>hne (by rw [e]; rfl))
 have TH:∀b o,dV α R r=some (b,o)→nE.map (·.1)≠some b→hp w' b=hp w b:=fun b o e hne=>XQ b (jD b (.inr (.inr (.inr ⟨o,e⟩))))
  (fun h=>hnd.1 b o e ((hfo b).2 (.inl (.inl h)))) (fun o e=>hne (by rw [e]; rfl))
 let hdr':=match dV α R r with
  | some (b0,o0)=>qb (hp w') b0 o0 R.k.size
  | none=>α.hdr r
 have hT1:Ay cx σ α F w r R R' (ft++rest) F' w' lw lh:=by
  refine ⟨.inr ⟨hRw,hRh,by rw [hRg]; exact anz _,hkind,fun _=>by rw [Ez]; exact hsz,P.log⟩,by rw [Xp]; exact P.tags.2,P.os,P.size, ?_, ?_, ?_,P.agU, ?_, ?_,fun _=>by rw [←hR']; exact ⟨rfl,rfl⟩⟩
  ·intro b hb hne
   rcases P.QL b hb hne with h | ⟨h,h2⟩ | ⟨o,h,h2⟩
   ·exact .inl h
   ·exact .inr ⟨jD b (.inl h), .inr (.inl h2)⟩
   ·have hbb:b∈blk α R r:=jD b (by
     rcases zB b o h with h | ⟨o0,ew,_⟩
     ·exact .inr (.inl h)
     ·exact .inr (.inr (.inr ⟨o0,ew⟩)))
    refine .inr ⟨hbb, .inr ?_⟩
    rcases hin b o h with ⟨h0,o0,ew,_⟩ | ⟨_,arr,e,lo,hi,g1,_,g3,_⟩
    ·
     obtain ⟨_,arr,e,lo,hi,g1,g2,g3,g4⟩:=K.mem b o0 ew
     unfold eP at h2
     rw [h0] at h2
     simp only [List.getLastD_nil] at h2
     cases hk:R.kind with
     | var tv=>
      refine .inl ⟨tv, ?_, ?_⟩
      ·unfold Root.bt at h2; rw [hk] at h2; exact h2
      ·unfold qM; rw [g1]; simp [g4 tv hk]
     | par=>
      obtain ⟨j,pi,n,hj1,hj2,hj3⟩:=H.Ep r R hr hk
      have:(α.loc r).1=b:=by
       have:=ew
       unfold dV at this
       rw [hk] at this
       simp only [anh] at this
       rw [this]
      exact .inr ⟨⟨j,pi,_,n,hj2,by rw [hj3,this]⟩,fun e=>by rw [e] at h2; simp at h2⟩
     | anon=>unfold dV at ew; rw [hk] at ew; simp at ew
     | dead=>unfold dV at ew; rw [hk] at ew; simp at ew
    ·refine .inl ⟨e, ?_,by unfold qM; rw [g1]⟩
     unfold eP at h2
     rw [List.getLastD_eq_getLast?,g3] at h2
     exact h2
  ·intro _ b hb
   rw [oD hkind,fq,anq] at hb
   rcases hb with ⟨o,h⟩ | h | h
   ·exact .inl (jD b (.inr (.inr (.inr ⟨o,h⟩))))
   ·rcases P.TR b h with h | h | h
    ·exact .inl (jD b (.inl h))
    ·exact .inr (.inl h)
    ·exact .inr (.inr h)
   ·exact .inl (jD b (.inr (.inl h)))
  ·intro b hb
   rcases P.newF b hb with h | h | h
   ·exact .inl h
   ·exact .inr (.inl h)
   ·exact .inr (.inr ⟨jD b (.inl h.1), .inr (.inl h.2)⟩)
  ·intro _ b hb
   rw [oD hkind,fq,anq] at hb
   rcases hb with ⟨o,h⟩ | h | h
   ·exact acw b (jD b (.inr (.inr (.inr ⟨o,h⟩)))) (fun h1=>hnd.1 b o h ((hfo b).2 (.inl (.inl h1))))
   ·exact P.aju b h
   ·exact acw b (jD b (.inr (.inl h))) (fun h1=>(ano.1 PS).2.2 b h1 b h rfl)
  ·intro j pi b o n hj hb hrj hne
   obtain ⟨Q,hQ,hk,hl,hs⟩:=H.lQ j pi b o n hj hb
   have hQR:Q=R:=by have:=hQ.1; rw [←hrj,hr.1] at this; simpa using this.symm
   subst hQR
   have hwb:dV α Q r=some (b,o):=by unfold dV; rw [hk,hrj,hl]
   have hbb:=jD b (.inr (.inr (.inr ⟨o,hwb⟩)))
   obtain ⟨_,_,_,_,_,f6⟩:=H.frame
   have h0:=f6 j pi b o n hj hb
   rcases P.QL b (hblt b hbb) hne with h | ⟨h,_⟩ | ⟨o',h,_⟩
   ·exact absurd h (Hz b hbb)
   ·exact absurd ((hfo b).2 (.inl (.inl h))) (hnd.1 b o hwb)
   ·rcases zB b o' h with h1 | ⟨o0,ew,h1,h2⟩
    ·exact absurd ((hfo b).2 (.inl (.inr h1))) (hnd.1 b o hwb)
    ·rw [hwb] at ew
     simp only [anh,ant,true_and] at ew
     subst ew
     exact h0.widen (P.cells b o' h).2 h1 (by omega)
 have hT:=hT1.turn (hdr':=hdr') H hr
 have hblk':∀b∈blk (aG α r (α.loc r) hdr' (ft++rest)) R' r,(∃o,dV α R r=some (b,o))∨b∈ft∨b∈rest:=by
  intro b hb
  rw [eG,oD hkind,fq,anq] at hb
  exact hb
 have hwhole:bu (au σ r R') R'→Ow (hp w') own' (iL cx (au σ r R') (aG α r (α.loc r) hdr' (ft++rest)) F' w' tags') z.1 z.2 hdr' (ft++rest)∧
   (qo∉lh→(t.1=d.1→z.1=R.k)∧Ip (hp w) (hp w') own' R.k R.x (α.hdr r) (dV α R r) z hdr' lh∧bG (hp w') p z.1 hdr' (dV α R r)=some (cs',nE)):=by
  intro hv'
  have hcont:=P.cont _ (by rw [hR']; exact hT) (by rw [hR']; exact hblk') (by rw [hR']; exact hv')
  rw [hR'] at hcont
  have Vi:∀e∈aU own' R.k,e∈R'.Ce:=by
   unfold Root.Ce
   rw [afp,Ez]
   exact (M9 p hg P.hz).2 P.Vi
  have hc2:=hv'.2
  rw [Xp] at hc2
  obtain ⟨_,hV,_⟩:=hT.views H R.tags (aU own' R.k) (H.dz r R hr.1).1 (qy hc2 P.tags.1 Vi)
  have hok:∀b,((iL cx σ α F w R.tags b∨b∈fd)∧∃t∈aU own' R.k,vO (hp w) b t)→iL cx (au σ r R') (aG α r (α.loc r) hdr' (ft++rest)) F' w' tags' b∧hp w' b=hp w b:=by
   rintro b ⟨hb,hty⟩
   rcases hb with hb | hb
   ·obtain ⟨h1,h2⟩:=hV b hb (.inl hty)
    exact ⟨vZ h1 P.tags.1,h2⟩
   ·have hbb:=jD b (.inr (.inr (.inl hb)))
    refine ⟨⟨Nat.lt_of_lt_of_le (hblt b hbb) P.size,acw b hbb (fun h1=>(ano.1 Vd).2.2 b (anm _ h1) b hb rfl),oG H hr ((hfo b).2 (.inr hb)), ?_, ?_⟩,ZY b hb⟩
    ·intro q Q hq hbq
     exfalso
     rcases jm hq with ⟨rfl,rfl,_⟩ | ⟨e,hq'⟩
     ·rcases hblk' b hbq with ⟨o,h⟩ | h | h
      ·exact hnd.1 b o h ((hfo b).2 (.inr hb))
      ·rcases P.TR b h with h | h | h
       ·exact (ano.1 Vd).2.2 b (anm _ h) b hb rfl
       ·exact Hz b hbb h
       ·have:=hblt b hbb; omega
      ·exact (ano.1 Vd).2.2 b (anj _ h) b hb rfl
     ·rw [(gZ (α:=α) (σ:=σ) (R:=R') e).blk] at hbq
      exact H.Iu _ _ _ _ hr hq' (Ne.symm e) b hbb hbq
    ·intro hb0
     rcases (K.mine b hbb).2 with h | ⟨j,pi,h1,h2⟩
     ·omega
     ·exact .inr ⟨j,pi,h1,h2⟩
  obtain ⟨csn,hl0,JY,hC',hN',hK'⟩:=hup.go (hp w') (iL cx (au σ r R') (aG α r (α.loc r) hdr' (ft++rest)) F' w' tags') t cs' ft z P.hz P.len hcont hok Vg P.cells P.none TH
  have afB:csn=hdr':=by
   cases hw:dV α R r with
   | none=>
    have:hdr'=α.hdr r:=by simp only [hdr']; rw [hw]
    rw [this]
    exact hN' hw
   | some q=>
    have:hdr'=qb (hp w') q.1 q.2 R.k.size:=by simp only [hdr']; rw [hw]
    rw [this]
    have h1:=iq (hC' q.1 q.2 hw)
    rw [hl0,K.len] at h1
    exact h1.symm
  rw [afB] at JY
  refine ⟨JY,fun uD=>?_⟩
  have:=hK' lh P.ht (P.nav uD)
  rw [afB] at this
  exact ⟨this.1,this.2.2⟩
 refine ⟨aG α r (α.loc r) hdr' (ft++rest),hT1.rel H hr ?_ ?_ ?_,hT,hblk',fun hgn hv'=>by
  have h3:=((hwhole hv').2 hgn).2.2
  have XU:dV (aG α r (α.loc r) hdr' (ft++rest)) R' r=dV α R r:=by rw [jH,vD hkind, ←uC]
  have R5:(aG α r (α.loc r) hdr' (ft++rest)).hdr r=hdr':=by simp [aG,upd_same]
  rw [XU,R5]
  exact h3,fun b hb=>by
  have ajY:(aG α r (α.loc r) hdr' (ft++rest)).fo r=ft++rest:=by simp [aG,upd_same]
  rw [ajY]
  exact anm _ hb⟩
 ·intro _
  refine ⟨fun hv'=>?_, ?_, ?_, ?_⟩
  ·have:=(hwhole hv').1
   subst hR'
   exact this
  ·rw [Ez,hsz]
   simp only [hdr']
   cases hw:dV α R r with
   | none=>exact K.len
   | some q=>simp [qb]
  ·intro b o hb
   rw [vD hkind, ←uC] at hb
   have hh:hdr'=qb (hp w') b o R.k.size:=by simp only [hdr']; rw [hb]
   obtain ⟨_,arr,e,lo,hi,g1,g2,g3,g4⟩:=K.mem b o hb
   have hnew:∃kF,hp w' b=some (.cells kF e (lo,hi))∧kF.size=arr.size:=by
    by_cases hbw:nE.map (·.1)=some b
    ·cases acX:nE with
     | none=>rw [acX] at hbw; simp at hbw
     | some q=>
      rw [acX] at hbw
      simp only [Option.map_some,anh] at hbw
      obtain ⟨a1,a2,te,fr,f1,f2,f3,_⟩:=(P.cells q.1 q.2 acX).2
      rw [hbw] at f1 f2
      rw [g1] at f1
      simp only [anh,Obj.cells.injEq] at f1
      obtain ⟨rfl,rfl,rfl⟩:=f1
      exact ⟨a2,f2,f3⟩
    ·exact ⟨arr,(TH b o hb hbw).trans g1,rfl⟩
   obtain ⟨kF,f1,f2⟩:=hnew
   refine ⟨?_,kF,e,lo,hi,f1,by rw [f2]; exact g2,by rw [f2,Ez,hsz]; exact g3,fun tv hk=>g4 tv (hkind▸hk)⟩
   rw [hh]
   exact EU f1 (by rw [f2]; exact g3)
  ·rw [oD hkind,nu]
   refine ⟨fun b o hb h=>?_,ano.2 ⟨P.ajv,(ano.1 PS).2.1,fun b h1 c h2 e=>?_⟩⟩
   ·have hbb:=jD b (.inr (.inr (.inr ⟨o,hb⟩)))
    rcases anq.1 h with h | h
    ·rcases P.TR b h with h | h | h
     ·exact hnd.1 b o hb ((hfo b).2 (.inl (.inl h)))
     ·exact Hz b hbb h
     ·have:=hblt b hbb; omega
    ·exact hnd.1 b o hb ((hfo b).2 (.inl (.inr h)))
   ·subst e
    have hbb:=jD b (.inr (.inl h2))
    rcases P.TR b h1 with h | h | h
    ·exact (ano.1 PS).2.2 b h b h2 rfl
    ·exact Hz b hbb h
    ·have:=hblt b hbb; omega
 ·intro _ q n v hn' hold
  refine ⟨hold.1, ?_⟩
  intro Q hQ Z9 hcl hty hsome
  have hQ':Q=R':=by
   rw [aI] at hQ
   simpa using hQ.symm
  subst hQ'
  have XU:dV (aG α r (α.loc r) hdr' (ft++rest)) Q r=dV α R r:=by rw [jH,vD hkind, ←uC]
  have R5:(aG α r (α.loc r) hdr' (ft++rest)).hdr r=hdr':=by simp [aG,upd_same]
  rw [XU,R5]
  rw [hRh,pg hn'] at hcl
  by_cases hq:q=[]
  ·subst hq
   obtain ⟨_,cs,b,o,h1,h2⟩:=hold.2 R hr.1 hv (by simp [clean,dY,az]) (fun t ht=>by simp [ah] at ht) rfl
   simp only [bG,anh,ant] at h1
   exact ⟨trivial,hdr',b,o,by simp only [bG]; rw [h1.2],h2⟩
  ·have hpt:∀k,dY q k=qo :: ah q k:=by
    intro k
    cases q with
    | nil=>exact absurd rfl hq
    | cons s q=>rfl
   rw [hpt] at hcl
   have hgn:qo∉lh:=fun hm=>hcl.1 qo hm (by simp)
   obtain ⟨hk,hnk,_⟩:=(hwhole Z9).2 hgn
   subst hR'
   have aa3:ah q R.k=ah q z.1∧(aQ q R.k R.x).isSome=true:=by
    rcases P.ajx with h | h | h
    ·have hk:=hk h
     obtain ⟨zk,zx⟩:=z
     simp only at hk
     subst hk
     exact ⟨rfl,by rw [qF q (y:=zx)]; exact hsome⟩
    ·exact M5 (bad:=lh) p q hg P.hz h hsome (fun e he hm=>hcl.1 e hm (anH _ he))
    ·exact absurd h hgn
   have hpe:ah q (bH R z own' tags' lw lh kp).k=ah q R.k:=aa3.1.symm
   rw [hpe] at hcl hty
   have ajT:∀t∈lh,t∉qo :: ah q R.k:=hcl.1
   obtain ⟨g1,cs,b,o,g2,g3⟩:=hold.2 R hr.1 hv (by rw [hpt]; exact hcl.2) (fun t ht=>hsub t (hty t ht)) aa3.2
   obtain ⟨f1,c1,f2⟩:=hnk q cs (some (b,o)) g1 (fun t ht=>⟨hty t ht,fun h=>ajT t h (anH _ ht)⟩) g2 hsome
   exact ⟨f1,c1,b,o,f2,g3⟩
 ·intro _ g v hg' hold Q hQ hgQ
  obtain ⟨hQ',_⟩:=eT hQ
  subst hQ'
  obtain ⟨h1,h2⟩:=hold R hr (hRg▸hgQ)
  have hw:dV α R r=none:=by unfold dV; rw [h1]
  have hh:hdr'=α.hdr r:=by simp only [hdr']; rw [hw]
  have R5:(aG α r (α.loc r) hdr' (ft++rest)).hdr r=hdr':=by simp [aG,upd_same]
  rw [R5,hh,hkind]
  refine ⟨h1, ?_⟩
  rw [Ez]
  refine (Tm ?_).2 h2
  by_cases hp:p=[]
  ·subst hp
   have hz:=P.hz
   simp only [dX,aQ,anh] at hz hg
   subst hz
   rcases P.akF with h | h
   ·rw [h, ←hg]
   ·simp only [bG,anh,ant] at hn
    rw [←hn.2,hw] at h
    exact absurd rfl h
  ·exact MZ hp P.hz
end
end
section
open Go
variable [Fr]
theorem yw:∀{k:K},k.flat=true→k.tys=[]:=by
 intro k
 induction k with
 | sl e k ih=>intro h; simp [K.flat] at h
 | gap n=>intro h; simp [K.flat] at h
 | pair a b iha ihb=>intro h; simp only [K.flat,ann] at h; simp [K.tys,iha h.1,ihb h.2]
 | st f ih=>intro h; exact ih h
 | _=>intro _; rfl
theorem Zu {h h':Heap} {own own':List TypeId} {ok ok':Nat→Prop}:∀{k:K} {x:El k} {cs:List Value} {fo:List Nat},k.flat=true→Ow h own ok k x cs fo→fo=[]∧Ow h' own' ok' k x cs []:=by
 intro k
 induction k with
 | sl e k ih=>intro x cs fo h; simp [K.flat] at h
 | gap n=>intro x cs fo h; simp [K.flat] at h
 | pair a b iha ihb=>
  intro x cs fo h H
  simp only [K.flat,ann] at h
  obtain ⟨c1,c2,f1,f2,e,hp,h1,h2⟩:=H
  obtain ⟨g1,k1⟩:=iha h.1 h1
  obtain ⟨g2,k2⟩:=ihb h.2 h2
  subst g1; subst g2
  exact ⟨hp.eq_nil,c1,c2,[],[],e, .refl _,k1,k2⟩
 | st f ih=>intro x cs fo h H; exact ih (x:=x) h H
 | int ik=>intro x cs fo _ H; exact ⟨H.1,rfl,H.2⟩
 | bool=>intro x cs fo _ H; exact ⟨H.1,rfl,H.2⟩
 | id e=>intro x cs fo _ H; exact ⟨H.1,rfl,H.2⟩
 | str=>intro x cs fo _ H; exact ⟨H.1,rfl,H.2⟩
 | unit=>intro x cs fo _ H; exact ⟨H.1,rfl,H.2⟩
theorem aab {ik:IntKind} {n:Int} (h:inK ik n=true):GR ik n:=by
 cases ik <;> simp_all [inK,GR,inK.Int.blt,inK.Int.ble]
theorem bL {a b:K} {x:El a} {y:El b} (h:bP a b x=some y):∃e:a=b,y=e▸x:=by
 unfold bP at h
 split at h
 ·rename_i hb
  simp only [anh] at h
  exact ⟨K.eq_of_beq hb,h.symm⟩
 ·simp at h
section
variable {A:Type} {cx:Cx} {σ:St} {α:dL} {F:List Nat} {a:Act} {w:World} {z:A}
theorem gp {k:Prog A} {tys:List TypeId}:∀{T:List Tag},(nO T tys k).ends σ z→bq σ tys T=true∧k.ends σ z:=by
 intro T
 induction T with
 | nil=>intro h; exact ⟨rfl,h⟩
 | cons t T ih=>
  obtain ⟨r,n⟩:=t
  intro h
  simp only [nO] at h
  cases he:fI r with
  | true=>
   rw [he] at h
   obtain ⟨h1,h2⟩:=ih h
   exact ⟨by simp [bq,he,h1],h2⟩
  | false=>
   rw [he] at h
   simp only [cond_false,Prog.ends] at h
   cases hr:σ.roots r with
   | none=>rw [hr] at h; exact h.elim
   | some R=>
    rw [hr] at h
    simp only at h
    cases hc:(!R.bg && clean R.w n tys) with
    | false=>rw [hc] at h; exact h.elim
    | true=>
     rw [hc] at h
     obtain ⟨h1,h2⟩:=ih h
     exact ⟨by simp only [bq,he,hr,cond_false]; rw [hc,h1]; rfl,h2⟩
theorem cB {r:Nat} {k:Root→Prog A} (h:(rX r k).ends σ z):∃R,aP σ r R∧bu σ R∧(k R).ends σ z:=by
 unfold rX at h
 simp only [Prog.ends] at h
 cases hr:σ.roots r with
 | none=>rw [hr] at h; exact h.elim
 | some R=>
  rw [hr] at h
  simp only at h
  cases hd:R.bg with
  | true=>rw [hd] at h; exact h.elim
  | false=>
   rw [hd] at h
   obtain ⟨h1,h2⟩:=gp h
   exact ⟨R,⟨hr,hd⟩,⟨hd,h1⟩,h2⟩
theorem aag (v:Value):bI cx σ α F w (Ye v) v∧rG σ (Ye v):=by
 unfold Ye
 split
 ·rename_i k n
  cases h:inK k n with
  | true=>exact ⟨fun _=>⟨[.int k n],⟨rfl,by simp⟩,rfl,aab h⟩,fun t ht=>by simp at ht⟩
  | false=>exact ⟨trivial,trivial⟩
 ·exact ⟨fun _=>⟨_,⟨rfl,by simp⟩,rfl⟩,fun t ht=>by simp at ht⟩
 ·rename_i s
  exact ⟨fun _=>⟨_,⟨rfl,by simp⟩,s,rfl,rfl⟩,fun t ht=>by simp at ht⟩
 ·exact ⟨⟨none,rfl⟩,trivial⟩
 ·exact ⟨rfl,trivial⟩
 ·exact ⟨trivial,trivial⟩
theorem sO (H:Rel cx σ α F a w) {x:Operand} {k:xJ→Prog A} (h:(uJ x k).ends σ z):∃v1,jd cx σ α F w v1 (a.eval x)∧xO σ v1∧(k v1).ends σ z:=by
 cases x with
 | tmp t=>exact ⟨σ.slots t,H.slots t,H.rY t,h⟩
 | const v=>obtain ⟨h1,h2⟩:=aag (cx:=cx) (σ:=σ) (α:=α) (F:=F) (w:=w) v; exact ⟨.one (Ye v),h1,h2,h⟩
 | func f=>exact ⟨.one (.fn f []),⟨[],rfl,trivial⟩,fun c hc=>by simp at hc,h⟩
 | global g=>exact h.elim
theorem bR (H:Rel cx σ α F a w) {x:Operand} {k:AV→Prog A} (h:(dN x k).ends σ z):∃v1,bI cx σ α F w v1 (a.eval x)∧rG σ v1∧(k v1).ends σ z:=by
 obtain ⟨v1,h1,h2,h3⟩:=sO H h
 cases v1 with
 | one v=>exact ⟨v,h1,h2,h3⟩
 | KX l=>exact h3.elim
 | lit _ _ _=>exact h3.elim
def evs (a:Act) (l:List (Nat×Operand)):List (Nat×Value):=l.map fun p=>(p.1,a.eval p.2)
theorem FM (H:Rel cx σ α F a w):∀{l:List (Nat×Operand)} {k:List (Nat×AV)→Prog A},(Cm l k).ends σ z→
  ∃vs:List (Nat×AV),vs.map (·.1)=l.map (·.1)∧dS cx σ α F w (vs.map (·.2)) ((evs a l).map (·.2))∧(∀v∈vs,rG σ v.2)∧(k vs).ends σ z:=by
 intro l
 induction l with
 | nil=>intro k h; exact ⟨[],rfl,trivial,by simp,h⟩
 | cons p l ih=>
  obtain ⟨n,x⟩:=p
  intro k h
  simp only [Cm] at h
  obtain ⟨v,h1,h2,h3⟩:=bR H h
  obtain ⟨vs,g1,g2,g3,g4⟩:=ih h3
  exact ⟨(n,v) :: vs,by simp [g1],⟨h1,g2⟩,by simpa using ⟨h2,fun a b hb=>g3 (a,b) hb⟩,g4⟩
theorem je (H:Rel cx σ α F a w):∀{l:List Operand} {k:List AV→Prog A},(jL l k).ends σ z→
  ∃vs:List AV,dS cx σ α F w vs (l.map a.eval)∧(∀v∈vs,rG σ v)∧(k vs).ends σ z:=by
 intro l
 induction l with
 | nil=>intro k h; exact ⟨[],trivial,by simp,h⟩
 | cons x l ih=>
  intro k h
  simp only [jL] at h
  obtain ⟨v,h1,h2,h3⟩:=bR H h
  obtain ⟨vs,g2,g3,g4⟩:=ih h3
  exact ⟨v :: vs,⟨h1,g2⟩,by simpa using ⟨h2,g3⟩,g4⟩
theorem xE {ik:IntKind} {n:Int} {T:List Tag} {v:Value} (h:bI cx σ α F w (.val (.int ik) n T) v):v=.int ik n∧GR ik n:=by
 obtain ⟨cs,h1,h2,h3⟩:=h (.inl rfl)
 obtain ⟨h5,_⟩:cs=[v]∧_:=h1
 rw [h5] at h2
 simp only [List.cons.injEq,and_true] at h2
 exact ⟨h2,h3⟩
theorem yS {b:Bool} {T:List Tag} {v:Value} (h:bI cx σ α F w (.val .bool b T) v):v=.bool b:=by
 obtain ⟨cs,h1,h2⟩:=h (.inl rfl)
 obtain ⟨h5,_⟩:cs=[v]∧_:=h1
 have h2':cs=[.bool b]:=h2
 rw [h5] at h2'
 simpa using h2'
theorem xG {s:List Int} {T:List Tag} {v:Value} (h:bI cx σ α F w (.val .str s T) v):∃B:ByteArray,v=.string B∧s=bytesOf B:=by
 obtain ⟨cs,h1,B,h2,h3⟩:=h (.inl rfl)
 obtain ⟨h5,_⟩:cs=[v]∧_:=h1
 rw [h5] at h2
 simp only [List.cons.injEq,and_true] at h2
 exact ⟨B,h2,h3⟩
theorem Sj {ik:IntKind} {n:Int} {T:List Tag} (h:GR ik n):bI cx σ α F w (.val (.int ik) n T) (.int ik n):=fun _=>⟨[.int ik n],⟨rfl,by simp⟩,rfl,h⟩
theorem aai {b:Bool} {T:List Tag}:bI cx σ α F w (.val .bool b T) (.bool b):=fun _=>⟨[.bool b],⟨rfl,by simp⟩,rfl⟩
theorem Sk {B:ByteArray} {T:List Tag}:bI cx σ α F w (.val .str (bytesOf B) T) (.string B):=fun _=>⟨[.string B],⟨rfl,by simp⟩,B,rfl,rfl⟩
theorem yt {x:AV} {v:Value} {k:IntKind→Int→Prog A} (hx:bI cx σ α F w x v) (h:(asInt x k).ends σ z):∃ik n,v=.int ik n∧GR ik n∧(k ik n).ends σ z:=by
 unfold asInt at h
 split at h
 ·rename_i ik n T
  obtain ⟨h1,h2⟩:=xE hx
  exact ⟨ik,n,h1,h2,h⟩
 ·exact h.elim
theorem Jg {x:AV} {v:Value} {k:Bool→Prog A} (hx:bI cx σ α F w x v) (h:(asBool x k).ends σ z):∃b,v=.bool b∧(k b).ends σ z:=by
 unfold asBool at h
 split at h
 ·rename_i b T
  exact ⟨b,yS hx,h⟩
 ·exact h.elim
theorem iL.q {T:List Tag} {b:Nat} (h:iL cx σ α F w T b):Kw σ α F w T b:=⟨h.1,h.2.1,h.2.2.2.1⟩
theorem Yu {T T':List Tag} {b:Nat} (h:Kw σ α F w T b) (hs:∀t∈T,t∈T'):Kw σ α F w T' b:=
 ⟨h.1,h.2.1,fun r R h1 h2=>by obtain ⟨n,hn⟩:=h.2.2 r R h1 h2; exact ⟨n,hs _ hn⟩⟩
variable {r:Nat} {R:Root}
theorem Zw {h:Heap} {own:List TypeId} {ok:Nat→Prop}:∀{k:K} {x:El k} {cs:List Value} {fo:List Nat},(∀t∈k.tys,az t own=false)→Ow h own ok k x cs fo→fo=[]:=by
 intro k
 induction k with
 | sl e k ih=>
  intro x cs fo h H
  unfold Ow at H
  rw [if_neg (by rw [h e (by simp [K.tys])]; exact Bool.false_ne_true)] at H
  exact H.1
 | pair a b iha ihb=>
  intro x cs fo h H
  obtain ⟨c1,c2,f1,f2,e,hp,h1,h2⟩:=H
  rw [iha (fun t ht=>h t (by simp [K.tys,ht])) h1,ihb (fun t ht=>h t (by simp [K.tys,ht])) h2] at hp
  exact hp.eq_nil
 | st f ih=>intro x cs fo h H; exact ih (x:=x) h H
 | _=>intro x cs fo _ H; exact H.1
theorem BP (R:Root) (r:Nat) {k:K} (hk:k.flat=false):R.out r k=(r,gH R.w) :: R.tags∨(R.out r k=R.tags∧∀t∈k.tys,az t R.own=false):=by
 unfold Root.out
 rw [hk,cond_false]
 cases h:k.tys.any fun t=>az t R.own with
 | true=>exact .inl rfl
 | false=>
  refine .inr ⟨rfl,fun t ht=>?_⟩
  have:=List.any_eq_false.1 h t ht
  simpa using this
theorem adh (H:Rel cx σ α F a w) (hr:aP σ r R) {k:K} (hk:R.out r k=(r,gH R.w) :: R.tags) {b:Nat} (hb:b∈α.fo r):iL cx σ α F w (R.out r k) b:=by
 have hbb:b∈blk α R r:=anj _ hb
 have hm:=(H.roots r R hr).mine b hbb
 refine ⟨hm.1,H.iP r R hr b hbb,oG H hr hb,fun q Q hq hbq=>?_,fun h0=>?_⟩
 ·by_cases e:q=r
  ·subst e
   exact ⟨gH R.w,by rw [hk]; simp⟩
  ·exact absurd hbb (H.Iu q Q r R hq hr e b hbq)
 ·rcases hm.2 with h | ⟨j,pi,h1,h2⟩
  ·omega
  ·exact .inr ⟨j,pi,h1,h2⟩
theorem TV {k:K} (hk:k.flat=false):∀t∈R.tags,t∈R.out r k:=fun t ht=>by
 rcases BP R r hk with h | ⟨h,_⟩ <;> rw [h]
 ·exact anH _ ht
 ·exact ht
theorem MM (H:Rel cx σ α F a w) (hr:aP σ r R) (k:K):eY σ (R.out r k):=by
 intro t ht
 cases hk:k.flat with
 | true=>unfold Root.out at ht; rw [hk] at ht; simp at ht
 | false=>
  have h1:t=(r,gH R.w)∨t∈R.tags:=by
   rcases BP R r hk with h | ⟨h,_⟩ <;> rw [h] at ht
   ·exact anu.1 ht
   ·exact .inr ht
  rcases h1 with h | h
  ·subst h; exact .inr ⟨R,hr.1, .inr (anz _)⟩
  ·exact (H.dz r R hr.1).1 t h
theorem oK (H:Rel cx σ α F a w) (hr:aP σ r R) {k:K} {x:El k} {cs:List Value} {fK:List Nat} (hO:Ow (hp w) R.own (iL cx σ α F w R.tags) k x cs fK) (hf:∀b∈fK,b∈α.fo r) :
  Vw (hp w) (iL cx σ α F w (R.out r k)) k x cs:=by
 cases hk:k.flat with
 | true=>exact iV hk (kP (fun _=>True) (fun _ _=>trivial) (fun _ _=>trivial) hO)
 | false=>
  rcases BP R r hk with ho | ⟨_,hn⟩
  ·exact kP _ (fun b hb=>vZ hb (TV hk)) (fun b hb=>adh H hr ho (hf b hb)) hO
  ·exact kP _ (fun b hb=>vZ hb (TV hk)) (fun b hb=>by rw [Zw hn hO] at hb; simp at hb) hO
theorem u7 (H:Rel cx σ α F a w) (hr:aP σ r R) (hv:bu σ R) {p:List Stp} {d:Dat} (hg:aQ p R.k R.x=some d) (fO:ng p R.k R.x) (hown:∀t∈ah p R.k,az t R.own=true)
  {cs1:List Value} {nE:Option (Nat×Nat)} (hn:bG (hp w) p R.k (α.hdr r) (dV α R r)=some (cs1,nE)) :
  ∃fK,Ow (hp w) R.own (iL cx σ α F w R.tags) d.1 d.2 cs1 fK∧∀b∈fK,b∈α.fo r:=by
 have K:=H.roots r R hr
 have hnd:=K.nd
 rw [bV,nu] at hnd
 obtain ⟨pM,fK,rest,wh2,hn',hp1,hd1,hc1,hin,hnone,hup⟩:=focus p (K.ow hv) (fun b o e=>(K.mem b o e).1) hg fO hown hnd.2 (fun b o e=>hnd.1 b o e)
 rw [hn] at hn'
 simp only [anh,ant] at hn'
 obtain ⟨rfl,rfl⟩:=hn'
 exact ⟨fK,hd1,fun b hb=>hp1.mem_iff.2 (anm _ hb)⟩
theorem j4 {T:List Nat} {own:List Nat} (h:(T.all fun t=>az t own)=true):∀t∈T,az t own=true:=fun t ht=>anx.1 h t ht
theorem vg (H:Rel cx σ α F a w) {x:AV} {v:Value} {k:(kk:K)→El kk→List Tag→Prog A} (hx:bI cx σ α F w x v) (hw:rG σ x) (h:(uO x k).ends σ z) :
  ∃kk y T cs,VC kk v cs∧Vw (hp w) (iL cx σ α F w T) kk y cs∧eY σ T∧(k kk y T).ends σ z:=by
 cases x with
 | val kk y T=>
  obtain ⟨h1,h2⟩:=gp h
  obtain ⟨cs,h3,h4⟩:=hx (.inr h1)
  exact ⟨kk,y,T,cs,h3,h4,hw,h2⟩
 | ref r g=>
  obtain ⟨R,hr,hv,h⟩:=cB h
  cases hg:Nat.beq R.g g with
  | false=>simp only [hg,cond_false] at h; exact h.elim
  | true=>
   simp only [hg,cond_true] at h
   obtain ⟨h1,h2⟩:=hx R hr (anl hg)
   exact ⟨R.k,R.x,R.out r R.k,α.hdr r,h2,oK H hr ((H.roots r R hr).ow hv) (fun _ h=>h),MM H hr _,h⟩
 | sM r p n=>
  obtain ⟨R,hr,hv,h⟩:=cB h
  cases hg:Nat.beq R.wK n with
  | false=>simp only [hg,cond_false] at h; exact h.elim
  | true=>
   simp only [hg,cond_true] at h
   cases uD:aQ p R.k R.x with
   | none=>rw [uD] at h; exact h.elim
   | some d=>
    rw [uD] at h
    obtain ⟨h1,h2,cs,wh,h3,h4⟩:=hx R hr.1 hv (anl hg) d uD
    obtain ⟨fK,h5,h6⟩:=u7 H hr hv uD h1 h2 h3
    exact ⟨d.1,d.2,R.out r d.1,cs,h4,oK H hr h5 h6,MM H hr _,h⟩
 | undef=>exact h.elim
 | iQ=>exact h.elim
 | ptr r p n=>exact h.elim
 | iZ bt kk y T=>exact h.elim
 | JA _ _ _ _=>exact h.elim
 | Aj _=>exact h.elim
 | part _ _ _ _ _=>exact h.elim
 | xU _ _ _ _=>exact h.elim
 | app _ _ _ _=>exact h.elim
 | rV=>exact h.elim
 | fn f cs=>exact h.elim
theorem za (H:Rel cx σ α F a w) {x:AV} {v:Value} {rd:Root→Nat→List Stp→Dat→Prog A} {ro:TypeId→Dat→List Tag→Prog A} (hx:bI cx σ α F w x v) (hw:rG σ x) (h:(addrOf x rd ro).ends σ z) :
  (∃r R p d cs b o,aP σ r R∧bu σ R∧aQ p R.k R.x=some d∧ng p R.k R.x∧(∀t∈ah p R.k,az t R.own=true)∧bG (hp w) p R.k (α.hdr r) (dV α R r)=some (cs,some (b,o))∧v=.pointer (some ⟨b,o,none⟩)∧(rd R r p d).ends σ z)∨
  (∃bt d T b o cs,eY σ T∧v=.pointer (some ⟨b,o,none⟩)∧Cells (hp w) b o cs∧Vw (hp w) (iL cx σ α F w T) d.1 d.2 cs∧Kw σ α F w T b∧((bt=SENT∧∀t∈T,fI t.1=true)∨(vO (hp w) b bt∧¬lN cx b))∧(ro bt d T).ends σ z):=by
 cases x with
 | ptr r p n=>
  obtain ⟨R,hr,hv,h⟩:=cB h
  cases hc:(clean R.h n (dY p R.k) && IB p R) with
  | false=>rw [hc] at h; exact h.elim
  | true=>
   rw [hc] at h
   simp only [cond_true] at h
   simp only [ann] at hc
   cases uD:aQ p R.k R.x with
   | none=>rw [uD] at h; exact h.elim
   | some d=>
    rw [uD] at h
    have hown:=j4 hc.2
    obtain ⟨h1,cs,b,o,h2,h3⟩:=hx.2 R hr.1 hv hc.1 hown (by rw [uD]; rfl)
    exact .inl ⟨r,R,p,d,cs,b,o,hr,hv,uD,h1,hown,h2,h3,h⟩
 | iZ bt k y T=>
  obtain ⟨h1,h2⟩:=gp h
  obtain ⟨b,o,cs,e,hcs,hV,hok,hb⟩:=hx.2 h1
  exact .inr ⟨bt,⟨k,y⟩,T,b,o,cs,hw,e,hcs,hV,hok,hb,h2⟩
 | undef=>exact h.elim
 | iQ=>exact h.elim
 | ref r g=>exact h.elim
 | sM r p n=>exact h.elim
 | val kk y T=>exact h.elim
 | JA _ _ _ _=>exact h.elim
 | Aj _=>exact h.elim
 | part _ _ _ _ _=>exact h.elim
 | xU _ _ _ _=>exact h.elim
 | app _ _ _ _=>exact h.elim
 | rV=>exact h.elim
 | fn f cs=>exact h.elim
end
end
section
open Go
variable [Fr]
theorem bN (a b:List Wr):∀σ,aB (a++b) σ=aB b (aB a σ):=by
 induction a with
 | nil=>intro σ; rfl
 | cons w a ih=>intro σ; exact ih _
theorem ve {own:List TypeId} {k:K}:∀(k0:K),(∀t∈k.tys,t∈k0.tys)→aU (k0.tys.filter fun t=>az t own) k=aU own k:=by
 intro k0
 have key:∀t∈k0.tys,az t (k0.tys.filter fun t=>az t own)=az t own:=by
  intro t ht
  cases h:az t own with
  | true=>rw [aM,anA]; exact ⟨ht,h⟩
  | false=>
   rw [aV,anA]
   rintro ⟨_,h2⟩
   rw [h] at h2
   simp at h2
 induction k with
 | sl e k ih=>
  intro h
  simp only [aU]
  rw [key e (h e (by simp [K.tys])),ih (fun t ht=>h t (by simp [K.tys,ht]))]
 | pair a b iha ihb=>intro h; simp only [aU]; rw [iha (fun t ht=>h t (by simp [K.tys,ht])),ihb (fun t ht=>h t (by simp [K.tys,ht]))]
 | st f ih=>intro h; exact ih h
 | _=>intro _; rfl
theorem GM {own:List TypeId} {k:K}:∀t∈k.tys,az t (k.tys.filter fun t=>az t own)=az t own:=by
 intro t ht
 cases h:az t own with
 | true=>rw [aM,anA]; exact ⟨ht,h⟩
 | false=>
  rw [aV,anA]
  rintro ⟨_,h2⟩
  rw [h] at h2
  simp at h2
theorem Rn {own:List TypeId}:∀(n:Nat) {c:K} {x:El c} {s:Dat},aO n c x=some s→∀t∈aU own s.1,t∈aU own c:=by
 intro n
 induction n with
 | zero=>
  intro c x s h t ht
  cases c with
  | pair a b=>simp only [aO,anh] at h; subst h; simp [aU,ht]
  | _=>simp [aO] at h
 | succ n ih=>
  intro c x s h t ht
  cases c with
  | pair a b=>simp only [aO] at h; simp [aU,ih h t ht]
  | _=>simp [aO] at h
theorem xI {own:List TypeId}:∀(p:List Stp) {k:K} {x:El k} {d:Dat},aQ p k x=some d→(∀t∈ah p k,az t own=true)→∀t∈aU own d.1,t∈aU own k:=by
 intro p
 induction p with
 | nil=>intro k x d h _; simp only [aQ,anh] at h; subst h; exact fun _ h=>h
 | cons s p ih=>
  intro k x d h ht
  cases s with
  | fJ n=>
   cases k with
   | st c=>
    simp only [aQ] at h
    cases hg:aO n c x with
    | none=>rw [hg] at h; simp at h
    | some s=>
     rw [hg] at h
     simp only at h
     have hpt:ah (.fJ n :: p) (.st c)=ah p s.1:=by simp [ah,bW n hg]
     rw [hpt] at ht
     exact fun t h2=>Rn n (c:=c) hg t (ih h ht t h2)
   | _=>simp [aQ] at h
  | idx i=>
   cases k with
   | sl e k=>
    simp only [aQ] at h
    intro t h2
    have:=ih h (fun t h=>ht t (by simp [ah,h])) t h2
    simp only [aU,ht e (by simp [ah]),cond_true]
    exact this
   | _=>simp [aQ] at h
section
variable {cx:Cx} {σ:St} {α:dL} {F:List Nat} {a:Act} {w:World}
theorem aA {b:Bool} {A:Type} {x y:Prog A} {σ:St} {z:A} (h:(bif b then x else y).ends σ z):(b=true∧x.ends σ z)∨(b=false∧y.ends σ z):=by
 cases b with
 | true=>exact .inl ⟨rfl,h⟩
 | false=>exact .inr ⟨rfl,h⟩
theorem I4 {h:Heap} {own:List TypeId} {ok:Nat→Prop}:∀{k:K} {x:El k} {cs:List Value} {fo:List Nat},k.flat=true→Ow h own ok k x cs fo→fo=[]:=by
 intro k
 induction k with
 | sl e k ih=>intro x cs fo h; simp [K.flat] at h
 | gap n=>intro x cs fo h; simp [K.flat] at h
 | pair a b iha ihb=>
  intro x cs fo h H
  simp only [K.flat,ann] at h
  obtain ⟨c1,c2,f1,f2,e,hp,h1,h2⟩:=H
  rw [iha h.1 h1,ihb h.2 h2] at hp
  exact hp.eq_nil
 | st f ih=>intro x cs fo h H; exact ih (x:=x) h H
 | _=>intro x cs fo _ H; exact H.1
theorem Zx {h:Heap} {own:List TypeId} {ok:Nat→Prop} {e:TypeId} {kk:K} {xs:List (El kk)} {b b':Option Addr} {n c hi:Nat} {fo:List Nat} (hf:kk.flat=true) (he:az e own=true) (hn:hi≤n) (hb':b'=b)
  (H:Ow h own ok (.sl e kk) xs [.slice b n c] fo):Ow h own ok (.sl e kk) (show List (El kk) from xs.take hi) [.slice b' hi c] fo:=by
 unfold Ow at H ⊢
 rw [if_pos he] at H ⊢
 obtain ⟨a,n',c',e1,e2,e3,H⟩:=H
 simp only [List.cons.injEq,Value.slice.injEq,and_true] at e1
 obtain ⟨rfl,rfl,rfl⟩:=e1
 have hlen:(xs.take hi).length=hi:=by
  have:n=xs.length:=e2
  simp; omega
 refine ⟨b,hi,c,by rw [hb'],hlen.symm,by omega, ?_⟩
 rcases H with H | ⟨bb,o,arr,l,u,ea,hb,hfr,hs,bD,hl,hp,H⟩
 ·exact .inl H
 ·have h0:∀l∈bD,l=[]:=by
   intro l hl'
   obtain ⟨i,hi',rfl⟩:=List.mem_iff_getElem.1 hl'
   have hl:bD.length=xs.length:=hl
   obtain ⟨ds,_,h2⟩:=H i (by show i<xs.length; omega)
   have:=I4 hf h2
   rw [←this]; simp [anv,hi']
  have hfl:bD.flatten=[]:=List.flatten_eq_nil_iff.2 h0
  have ajX:(bD.take hi).flatten=[]:=List.flatten_eq_nil_iff.2 fun l hl'=>h0 l (List.mem_of_mem_take hl')
  refine .inr ⟨bb,o,arr,l,u,ea,hb,hfr,hs,bD.take hi,by show (bD.take hi).length=(xs.take hi).length; simp only [List.length_take]; rw [show bD.length=xs.length from hl],by rw [ajX, ←hfl]; exact hp,fun i hi'=>?_⟩
  have hi2:i<(xs.take hi).length:=hi'
  have hi3:i<hi∧i<xs.length:=by simp at hi2; omega
  obtain ⟨ds,h1,h2⟩:=H i hi3.2
  refine ⟨ds,h1, ?_⟩
  have e1:(show List (El kk) from xs.take hi)[i]'hi'=xs[i]'hi3.2:=by
   show (xs.take hi)[i]=_
   simp
  have e2:(bD.take hi).getD i []=bD.getD i []:=by simp [anv,List.getElem?_take,hi3.1]
  rw [e1,e2]
  exact h2
inductive wZ (cx:Cx) (σ:St) (α:dL) (F:List Nat) (w:World) (v:Value) (tk:iy):Prop
 | held (hws:tk.ws=[]) (cs:List Value) (hv:VC tk.k v cs) (h:Held cx σ α F w tk.k tk.x tk.own tk.tags cs []) (hc:bq σ (aU tk.own tk.k) tk.tags=true)
 | ref (r:Nat) (R:Root) (hr:aP σ r R) (hv:bu σ R) (e:tk=⟨R.k,R.x,R.own,R.tags,[.r r none],R.keep⟩) (hk:R.kind=.anon) (hd:VC R.k v (α.hdr r))
 | gap (r:Nat) (R:Root) (p:List Stp) (d z:Dat) (hr:aP σ r R) (hv:bu σ R) (hg:aQ p R.k R.x=some d) (hz:dX p R.k R.x (rJ d)=some z) (fO:ng p R.k R.x)
   (hown:∀t∈ah p R.k,az t R.own=true) (hpv:p≠[]∨∃t,R.kind=.var t) (e:tk=⟨d.1,d.2,d.1.tys.filter (fun t=>az t R.own),R.tags,[.r r (some (dZ R d z))],R.keep⟩)
   (hn:∃cs wh,bG (hp w) p R.k (α.hdr r) (dV α R r)=some (cs,wh)∧VC d.1 v cs)
 | cut (r:Nat) (R:Root) (cs:List Value) (hr:aP σ r R) (hv:bu σ R) (hk:R.kind=.anon) (e:tk.own=R.own∧tk.tags=R.tags∧tk.ws=[.r r none]∧tk.keep=R.keep) (hd:VC tk.k v cs) (hl:cs.length=tk.k.size)
   (Vi:aU R.own tk.k=aU R.own R.k) (how:∀ok,Ow (hp w) R.own ok R.k R.x (α.hdr r) (α.fo r)→Ow (hp w) R.own ok tk.k tk.x cs (α.fo r))
theorem EL {e:TypeId} {k:K} {c:Option Addr}:VC (.sl e k) (.slice c 0 0) [.slice c 0 0]:=⟨rfl,by simp⟩
theorem qK {A:Type} {z:A} (H:Rel cx σ α F a w) {want:K} {x:AV} {v:Value} {k:iy→Prog A} (hx:bI cx σ α F w x v) (hw:rG σ x) (h:(xD want x k).ends σ z) :
  ∃tk,wZ cx σ α F w v tk∧(k tk).ends σ z:=by
 cases x with
 | val kk y T=>
  obtain ⟨h1,h2⟩:=gp h
  obtain ⟨cs,h3,h4⟩:=hx (.inr h1)
  have hty:∀t∈aU [] kk,t∈kk.tys:=fun t ht=>Gi ht
  exact ⟨⟨kk,y,[],T,[],false⟩, .held rfl cs h3 ⟨fun _=>qp (fun t _=>rfl) h4,hw,fun b hb=>by simp at hb,List.nodup_nil,lI h4⟩ (qy h1 (fun _ h=>h) hty),h2⟩
 | iQ=>
  obtain ⟨c,rfl⟩:=hx
  unfold xD at h
  cases want with
  | sl e kk=>
   refine ⟨_, .held rfl [.slice c 0 0] EL ⟨fun _=>?_,fun t ht=>by simp at ht,fun b hb=>by simp at hb,List.nodup_nil,rfl⟩ rfl,h⟩
   unfold Ow
   rw [if_pos (by simp [az])]
   exact ⟨c,0,0,rfl,rfl,anz _, .inl ⟨rfl,rfl⟩⟩
  | _=>exact h.elim
 | ref r g=>
  obtain ⟨R,hr,hv,h⟩:=cB h
  cases hg:(Nat.beq R.g g && !R.fixed) with
  | false=>simp only [hg,cond_false] at h; exact h.elim
  | true=>
   simp only [hg,cond_true] at h
   simp only [ann] at hg
   obtain ⟨h1,h2⟩:=hx R hr (anl hg.1)
   exact ⟨_, .ref r R hr hv rfl h1 h2,h⟩
 | sM r p n=>
  obtain ⟨R,hr,hv,h⟩:=cB h
  cases hg:Nat.beq R.wK n with
  | false=>simp only [hg,cond_false] at h; exact h.elim
  | true=>
   simp only [hg,cond_true] at h
   cases uD:aQ p R.k R.x with
   | none=>rw [uD] at h; exact h.elim
   | some d=>
    rw [uD] at h
    obtain ⟨h1,h2,cs,wh,h3,h4⟩:=hx R hr.1 hv (anl hg) d uD
    cases hc:(p.all Stp.qH && !R.fixed && (!p.isEmpty || R.isVar)) with
    | true=>
     simp only [hc,cond_true] at h
     cases hga:Co R p d with
     | none=>rw [hga] at h; exact h.elim
     | some R'=>
      rw [hga] at h
      unfold Co at hga
      cases hz:dX p R.k R.x (rJ d) with
      | none=>rw [hz] at hga; simp at hga
      | some zz=>
       rw [hz] at hga
       simp only [anh] at hga
       subst hga
       simp only [ann,Bool.or_eq_true] at hc
       refine ⟨_, .gap r R p d zz hr hv uD hz h1 h2 ?_ rfl ⟨cs,wh,h3,h4⟩,h⟩
       rcases hc.2 with h | h
       ·left; intro e; subst e; simp at h
       ·right
        unfold Root.isVar at h
        cases hk:R.kind with
        | var t=>exact ⟨t,rfl⟩
        | anon=>rw [hk] at h; simp at h
        | par=>rw [hk] at h; simp at h
        | dead=>rw [hk] at h; simp at h
    | false=>
     simp only [hc,cond_false] at h
     obtain ⟨fK,h5,h6⟩:=u7 H hr hv uD h1 h2 h3
     have hV:=oK H hr h5 h6
     obtain ⟨hc1,h⟩:=gp h
     exact ⟨⟨d.1,d.2,[],R.out r d.1,[],false⟩, .held rfl cs h4 ⟨fun _=>qp (fun t _=>rfl) hV,MM H hr _,fun b hb=>by simp at hb,List.nodup_nil,lI hV⟩ (qy hc1 (fun _ h=>h) (fun t ht=>Gi ht)),h⟩
 | undef=>exact h.elim
 | ptr r p n=>exact h.elim
 | iZ bt kk y T=>exact h.elim
 | JA _ _ _ _=>exact h.elim
 | Aj _=>exact h.elim
 | part r g lo hi sz=>
  obtain ⟨R,hr,hv,h⟩:=cB h
  rcases aA h with ⟨hg,h5⟩ | ⟨_,h5⟩
  ·clear h
   simp only [ann] at hg
   obtain ⟨b',b,n,c,e1,eb,e2,e3,e4,hrf⟩:=hx
   obtain ⟨h1,h2⟩:=hrf R hr (anl hg.1.1)
   have hlo:lo=0:=anl hg.2
   subst hlo
   have hK:∀q:Dat,(⟨R.k,R.x⟩:Dat)=q→(match q.1,q.2 with
     | .sl e kk,xs=>bif kk.flat && az e R.own && Nat.beq kk.size sz then k ⟨.sl e kk,(show List (El kk) from xs).take hi,R.own,R.tags,[.r r none],R.keep⟩ else .fail
     | _,_=>Prog.fail).ends σ z→∃tk,wZ cx σ α F w v tk∧(k tk).ends σ z:=by
    intro q hq hh0
    obtain ⟨qk,qx⟩:=q
    cases qk with
    | sl e kk=>
     simp only at hh0
     rcases aA hh0 with ⟨hc,hh⟩ | ⟨_,hh⟩
     ·clear hh0
      simp only [ann] at hc
      have hsz:kk.size=sz:=anl hc.2
      subst hsz
      have hVk:VC (.sl e kk) (.slice b n c) (α.hdr r):=by
       have:=congrArg (fun q:Dat=>VC q.1 (.slice b n c) (α.hdr r)) hq
       exact cast this h2
      have hb0:b'=b:=by
       rw [eb (.inl rfl)]
       cases b with
       | none=>rfl
       | some ad=>obtain ⟨x,y,z⟩:=ad; simp [Addr.add]
      refine ⟨⟨.sl e kk,(show List (El kk) from qx).take hi,R.own,R.tags,[.r r none],R.keep⟩, .cut r R [.slice b' hi c] hr hv h1 ⟨rfl,rfl,rfl,rfl⟩ ⟨by rw [e1]; simp,by rw [e1]; simp⟩ rfl ?_ (fun ok hO=>?_),hh⟩
      ·exact congrArg (fun q:Dat=>aU R.own q.1) hq.symm
      ·have hO:=cast (congrArg (fun q:Dat=>Ow (hp w) R.own ok q.1 q.2 (α.hdr r) (α.fo r)) hq) hO
       simp only at hO
       rw [hVk.1] at hO
       exact Zx hc.1.1 hc.1.2 e3 hb0 hO
     ·exact hh.elim
    | _=>exact hh0.elim
   exact hK _ rfl h5
  ·exact h5.elim
 | xU _ _ _ _=>exact h.elim
 | app _ _ _ _=>exact h.elim
 | rV=>exact h.elim
 | fn f cs=>exact h.elim
def ry (cx:Cx) (σ:St) (α:dL) (F:List Nat) (w:World):List (Value×iy)→List (List Value×List Nat)→Prop
 | [],[]=>True
 | it :: l,h :: hs=>(VC it.2.k it.1 h.1∧Held cx σ α F w it.2.k it.2.x it.2.own it.2.tags h.1 h.2∧bq σ (aU it.2.own it.2.k) it.2.tags=true)∧ry cx σ α F w l hs
 | _,_=>False
def uB (l:List (Value×iy)):List Wr:=l.flatMap fun it=>it.2.ws
def qL (l:List (Value×iy)):List Tag:=l.flatMap fun it=>it.2.tags
theorem KF (a b:List Wr):(a++b).flatMap Wr.tX=a.flatMap Wr.tX++b.flatMap Wr.tX:=List.flatMap_append
theorem take1 (H:Rel cx σ α F a w) {v:Value} {tk:iy} (h:wZ cx σ α F w v tk) :
  ∃α' F' cs fo lw lh,Rel cx (aB tk.ws σ) α' F' a w∧ni cx σ α F w (aB tk.ws σ) α' F' w lw lh∧VC tk.k v cs∧Held cx (aB tk.ws σ) α' F' w tk.k tk.x tk.own tk.tags cs fo∧
   bq (aB tk.ws σ) (aU tk.own tk.k) tk.tags=true∧(∀b∈F,b∈F')∧(∀b∈fo,b∉F)∧(∀q,q∉tk.ws.flatMap Wr.tX→Same σ α (aB tk.ws σ) α' q):=by
 cases h with
 | held hws cs hv hh hc=>
  rw [hws]
  exact ⟨α,F,cs,[],_,_,H,Ei H ⟨rfl,rfl,rfl⟩ (anz _) (fun _ _ h=>absurd rfl h) (fun b hb=>.inl hb) H.zV,hv,hh,hc,fun _ h=>h,fun b hb=>by simp at hb,fun q _=>lG ..⟩
 | ref r R hr hv e hk hd=>
  subst e
  obtain ⟨h1,h2,h3,h4⟩:=kill H hr hk hv
  refine ⟨_,_,α.hdr r,α.fo r,_,_,h1,h2,hd,h3,h4,fun b hb=>anj _ hb,fun b hb hF=>H.iP r R hr b (anj _ hb) hF, ?_⟩
  intro q hq
  have hq':q≠r:=by simpa [Wr.tX] using hq
  exact gZ hq'
 | cut r R cs hr hv hk e hd hl Vi how=>
  obtain ⟨e1,e2,e3,e4⟩:=e
  obtain ⟨h1,h2,h3,h4⟩:=kill H hr hk hv
  rw [e3]
  refine ⟨_,_,cs,α.fo r,_,_,h1,h2,hd, ?_, ?_,fun b hb=>anj _ hb,fun b hb hF=>H.iP r R hr b (anj _ hb) hF, ?_⟩
  ·rw [e1,e2]
   refine ⟨fun hc=>?_,h3.wt,h3.sub,h3.nd,hl⟩
   have:=h3.ow (by rw [←Vi]; exact hc)
   exact how _ this
  ·rw [e1,e2]
   show bq (au σ r bT) (aU R.own tk.k) R.tags=true
   rw [Vi]; exact h4
  ·intro q hq
   have hq':q≠r:=by simpa [Wr.tX] using hq
   exact gZ hq'
 | gap r R p d z hr hv hg hz fO hown hpv e hn=>
  subst e
  obtain ⟨cs,wh,hn1,hn2⟩:=hn
  obtain ⟨cs1,nE,fK,rest,g1,g2,g3,g4,g5,_⟩:=gap H hr hv hg hz fO hown hpv
  rw [hn1] at g1
  simp only [anh,ant] at g1
  obtain ⟨rfl,rfl⟩:=g1
  have hcl:bq (au σ r (dZ R d z)) (aU R.own d.1) R.tags=true:=by
   rw [g5]
   exact qy hv.2 (fun _ h=>h) (xI p hg hown)
  refine ⟨_,_,cs,fK,_,_,g2,g3,hn2, ?_, ?_,fun b hb=>anj _ hb, ?_, ?_⟩
  ·refine ⟨fun hc=>?_,g4.wt,g4.sub,g4.nd,g4.len⟩
   exact rF (fun t ht=>GM t ht) (g4.ow (by rw [ve d.1 (fun _ h=>h)] at hc; exact hc))
  ·show bq (au σ r (dZ R d z)) (aU (d.1.tys.filter fun t=>az t R.own) d.1) R.tags=true
   rw [ve d.1 (fun _ h=>h)]
   exact hcl
  ·intro b hb hF
   have:=g2.zV
   exact (ano.1 this).2.2 b hb b hF rfl
  ·intro q hq
   have hq':q≠r:=by simpa [Wr.tX] using hq
   exact gZ hq'
theorem fC {σ':St} {tys:List TypeId} {T:List Tag} (h:∀t∈T,σ'.roots t.1=σ.roots t.1):bq σ' tys T=bq σ tys T:=by
 induction T with
 | nil=>rfl
 | cons t T ih=>
  obtain ⟨q,n⟩:=t
  simp only [bq]
  rw [ih (fun t ht=>h t (by simp [ht])),h (q,n) (by simp)]
theorem wZ.stays {σ':St} {α':dL} {F':List Nat} {lw lh:Nat→List Nat} {v:Value} {tk:iy} (h:wZ cx σ α F w v tk) (H:Rel cx σ α F a w) (T:ni cx σ α F w σ' α' F' w lw lh)
  (hs:∀q,(q∈tk.ws.flatMap Wr.tX∨q∈tk.tags.map (·.1))→Same σ α σ' α' q):wZ cx σ' α' F' w v tk:=by
 cases h with
 | held hws cs hv hh hc=>
  exact .held hws cs hv (hh.turn H T (fun b hb=>by simp at hb)) (by rw [fC (fun t ht=>(hs t.1 (.inr (anT.2 ⟨t,ht,rfl⟩))).root)]; exact hc)
 | ref r R hr hv e hk hd=>
  subst e
  have hS:=hs r (.inl (by simp [Wr.tX]))
  refine .ref r R ((hS.live R).2 hr) ⟨hv.1, ?_⟩ rfl hk (by rw [hS.hdr]; exact hd)
  rw [fC (fun t ht=>(hs t.1 (.inr (anT.2 ⟨t,ht,rfl⟩))).root)]
  exact hv.2
 | cut r R cs hr hv hk e hd hl Vi how=>
  have hS:=hs r (.inl (by rw [e.2.2.1]; simp [Wr.tX]))
  refine .cut r R cs ((hS.live R).2 hr) ⟨hv.1, ?_⟩ hk e hd hl Vi (by rw [hS.hdr,hS.fo]; exact how)
  rw [fC (fun t ht=>(hs t.1 (.inr (anT.2 ⟨t,by rw [e.2.1]; exact ht,rfl⟩))).root)]
  exact hv.2
 | gap r R p d z hr hv hg hz fO hown hpv e hn=>
  subst e
  have hS:=hs r (.inl (by simp [Wr.tX]))
  refine .gap r R p d z ((hS.live R).2 hr) ⟨hv.1, ?_⟩ hg hz fO hown hpv rfl (by rw [hS.hdr,hS.wh]; exact hn)
  rw [fC (fun t ht=>(hs t.1 (.inr (anT.2 ⟨t,ht,rfl⟩))).root)]
  exact hv.2
theorem ry.turn {σ':St} {α':dL} {F':List Nat} {lw lh:Nat→List Nat} (H:Rel cx σ α F a w) (T:ni cx σ α F w σ' α' F' w lw lh) (hF:∀b∈F,b∈F') :
  ∀{l:List (Value×iy)} {hs:List (List Value×List Nat)},(∀t∈qL l,σ'.roots t.1=σ.roots t.1)→ry cx σ α F w l hs→ry cx σ' α' F' w l hs
 | [],[],_,_=>trivial
 | it :: l,h :: hs,hr,hh=>by
  refine ⟨⟨hh.1.1,hh.1.2.1.turn H T (fun b hb=>⟨rfl,hF b (hh.1.2.1.sub b hb)⟩), ?_⟩,ry.turn H T hF (fun t ht=>hr t (by simp only [qL,List.flatMap_cons,anq]; exact .inr ht)) hh.2⟩
  rw [fC (fun t ht=>hr t (by simp only [qL,List.flatMap_cons,anq]; exact .inl ht))]
  exact hh.1.2.2
 | [],_ :: _,_,h=>h.elim
 | _ :: _,[],_,h=>h.elim
theorem vN {l:List Nat}:FC l=true↔l.Nodup:=by
 induction l with
 | nil=>simp [FC]
 | cons n l ih=>simp [FC,ih,aV]
theorem takes:∀(l:List (Value×iy)) {σ:St} {α:dL} {F:List Nat},Rel cx σ α F a w→(∀it∈l,wZ cx σ α F w it.1 it.2)→((uB l).flatMap Wr.tX).Nodup→(∀t∈qL l,t.1∉(uB l).flatMap Wr.tX)→
  ∃α' F' hs,Rel cx (aB (uB l) σ) α' F' a w∧ry cx (aB (uB l) σ) α' F' w l hs∧(hs.flatMap (·.2)).Nodup∧(∀b∈hs.flatMap (·.2),b∉F)∧(∀b∈F,b∈F')∧
   (∀q,q∉(uB l).flatMap Wr.tX→Same σ α (aB (uB l) σ) α' q)∧
   (∀k x own tags cs fo,Held cx σ α F w k x own tags cs fo→Held cx (aB (uB l) σ) α' F' w k x own tags cs fo)∧Views cx σ α F w (aB (uB l) σ) α' F' w∧(∀t,EO σ t→EO (aB (uB l) σ) t)∧(∀q,σ.roots q=none→(aB (uB l) σ).roots q=none):=by
 intro l
 induction l with
 | nil=>intro σ α F H _ _ _; exact ⟨α,F,[],H,trivial,List.nodup_nil,fun b hb=>by simp at hb,fun _ h=>h,fun q _=>lG ..,fun _ _ _ _ _ _ h=>h,fun T tys _ h=>⟨h,fun b hb _=>⟨hb,rfl⟩,fun b hb _=>⟨hb,rfl⟩⟩,fun _ h=>h,fun _ h=>h⟩
 | cons it l ih=>
  intro σ α F H hT hnd uo
  have e1:uB (it :: l)=it.2.ws++uB l:=rfl
  have e2:qL (it :: l)=it.2.tags++qL l:=rfl
  rw [e1,KF] at hnd uo
  rw [e2] at uo
  obtain ⟨dK,F1,cs,fo,lw,lh,H1,T1,h1,h2,h3,h4,h5,h6⟩:=take1 H (hT it (by simp))
  have hnd':=ano.1 hnd
  obtain ⟨Dm,F2,hs,H2,g1,g2,g3,g4,g5,g6,g7,g8,g9⟩:=ih H1 (fun it' hi=>(hT it' (by simp [hi])).stays H T1 (fun q hq=>by
   refine h6 q ?_
   rcases hq with hq | hq
   ·intro hq'
    exact hnd'.2.2 q hq' q (by
     rw [anU] at hq ⊢
     obtain ⟨wr,hw1,hw2⟩:=hq
     exact ⟨wr,anU.2 ⟨it',hi,hw1⟩,hw2⟩) rfl
   ·obtain ⟨t,ht,rfl⟩:=anT.1 hq
    intro hq'
    exact uo t (anj _ (anU.2 ⟨it',hi,ht⟩)) (anm _ hq'))) hnd'.2.1
   (fun t ht hq=>uo t (anj _ ht) (anj _ hq))
  rw [e1,bN]
  have hq1:∀q,q∉(it.2.ws).flatMap Wr.tX++(uB l).flatMap Wr.tX→Same σ α (aB (uB l) (aB it.2.ws σ)) Dm q:=by
   intro q hq
   simp only [anq,not_or] at hq
   have s1:=h6 q hq.1
   have s2:=g5 q hq.2
   exact ⟨s2.root.trans s1.root,s2.loc.trans s1.loc,s2.hdr.trans s1.hdr,s2.fo.trans s1.fo⟩
  refine ⟨Dm,F2,(cs,fo) :: hs,H2,⟨⟨h1,g6 _ _ _ _ _ _ h2, ?_⟩,g1⟩, ?_, ?_,fun b hb=>g4 b (h4 b hb), ?_,fun k x own tags cs fo hh=>g6 _ _ _ _ _ _ (hh.turn H T1 (fun b hb=>⟨rfl,h4 b (hh.sub b hb)⟩)), ?_,fun t ht=>g8 t (T1.tag ht), ?_⟩
  ·rw [fC (fun t ht=>(g5 t.1 (fun hq=>uo t (anm _ ht) (anj _ hq))).root)]
   exact h3
  ·simp only [List.flatMap_cons]
   exact ano.2 ⟨h2.nd,g2,fun b hb c hc e=>g3 c hc (e▸h2.sub b hb)⟩
  ·intro b hb hF
   simp only [List.flatMap_cons,anq] at hb
   rcases hb with hb | hb
   ·exact h5 b hb hF
   ·exact g3 b hb (h4 b hF)
  ·rw [KF]
   exact hq1
  ·intro T tys hw hc
   obtain ⟨k1,k2,k3⟩:=g7 T tys (fun t ht=>T1.tag (hw t ht)) hc
   obtain ⟨j1,j2,j3⟩:=T1.views H T tys hw k1
   refine ⟨j1,fun b hb ht=>?_,fun b hb ht=>?_⟩
   ·obtain ⟨a1,a2⟩:=j2 b hb ht
    exact ⟨(k2 b a1 ht).1,rfl⟩
   ·obtain ⟨a1,a2⟩:=j3 b hb ht
    exact ⟨(k3 b a1 ht).1,rfl⟩
  ·intro q hq
   refine g9 q ?_
   cases hq2:(aB it.2.ws σ).roots q with
   | none=>rfl
   | some Q=>
    exfalso
    by_cases hm:q∈(it.2.ws).flatMap Wr.tX
    ·have:=hT it (by simp)
     cases this with
     | held hws cs hv hh hc=>rw [hws] at hm; simp at hm
     | ref r R hr hv e hk hd=>rw [e] at hm; simp [Wr.tX] at hm; subst hm; rw [hr.1] at hq; simp at hq
     | cut r R cs hr hv hk e hd hl Vi how=>rw [e.2.2.1] at hm; simp [Wr.tX] at hm; subst hm; rw [hr.1] at hq; simp at hq
     | gap r R p d z hr hv hg hz fO hown hpv e hn=>rw [e] at hm; simp [Wr.tX] at hm; subst hm; rw [hr.1] at hq; simp at hq
    ·rw [(h6 q hm).root,hq] at hq2
     simp at hq2
end
end
section
open Go
variable [Fr]
theorem iJ (j:Nat):fI (pY j)=true:=by simp [fI,pY,Nat.add_mod]
theorem zb {ws:List Wr} {T:List Tag}:Az ws T=true↔∀t∈T,t.1∉ws.flatMap Wr.tX:=by
 unfold Az
 rw [anx]
 simp [aV]
theorem aaz {ws:List Wr} {r:Nat} (h:(ws.all fun w=>!w.loc.beq (.r r))=true):r∉ws.flatMap Wr.tX:=by
 rw [anU]
 rintro ⟨w,h1,h2⟩
 have:=anx.1 h w h1
 cases w with
 | s n a=>simp [Wr.tX] at h2
 | r n o=>
  simp only [Wr.tX,anC] at h2
  subst h2
  simp [Wr.loc,Loc.beq] at this
theorem zl:∀(n:Nat) {c:K} {x:El c} {s:Dat} {q:Nat×K},aO n c x=some s→bB n c=some q→q.2=s.1:=by
 intro n
 induction n with
 | zero=>intro c x s q h1 h2; cases c with
  | pair a b=>simp only [aO,bB,anh] at h1 h2; subst h1; subst h2; rfl
  | _=>simp [aO] at h1
 | succ n ih=>intro c x s q h1 h2; cases c with
  | pair a b=>
   simp only [aO,bB] at h1 h2
   cases h3:bB n b with
   | none=>rw [h3] at h2; simp at h2
   | some q3=>rw [h3] at h2; simp only [anh] at h2; subst h2; exact ih (q:=q3) h1 h3
  | _=>simp [aO] at h1
theorem Yp {h:Heap}:∀(p:List Stp) {k:K} {x:El k} {cs:List Value} {c1:List Value} {w1:Option (Nat×Nat)},ah p k=[]→(aQ p k x).isSome=true→bG h p k cs none=some (c1,w1)→w1=none:=by
 intro p
 induction p with
 | nil=>intro k x cs c1 w1 _ _ h; simp only [bG,anh,ant] at h; exact h.2.symm
 | cons s p ih=>
  intro k x cs c1 w1 h0 hs h
  cases s with
  | fJ n=>
   cases k with
   | st c=>
    simp only [aQ] at hs
    cases hg:aO n c x with
    | none=>rw [hg] at hs; simp at hs
    | some s=>
     rw [hg] at hs
     have hp2:ah (.fJ n :: p) (.st c)=ah p s.1:=by simp [ah,bW n hg]
     rw [hp2] at h0
     simp only [bG] at h
     cases ho:bB n c with
     | none=>rw [ho] at h; simp at h
     | some q=>
      have hk2:q.2=s.1:=zl n (c:=c) hg ho
      rw [ho] at h
      obtain ⟨q1,q2⟩:=q
      simp only at hk2
      subst hk2
      exact ih h0 hs h
   | _=>simp [aQ] at hs
  | idx i=>
   cases k with
   | sl e k=>simp [ah] at h0
   | _=>simp [aQ] at hs
theorem K.WR:∀k:K,k.beq k=true:=by
 intro k
 induction k with
 | int ik=>cases ik <;> rfl
 | sl e k ih=>simp [K.beq,ih]
 | pair a b iha ihb=>simp [K.beq,iha,ihb]
 | st f ih=>exact ih
 | gap n=>simp [K.beq]
 | id e=>simp [K.beq]
 | _=>rfl
theorem Te:∀(q:List Stp) {k:K} {x:El k},ng q k x→(aQ q k x).isSome=true:=by
 intro q
 induction q with
 | nil=>intro k x _; rfl
 | cons s q ih=>
  intro k x h
  cases s with
  | fJ n=>
   cases k with
   | st c=>
    simp only [ng] at h
    simp only [aQ]
    cases hc:aO n c x with
    | none=>rw [hc] at h; exact h.elim
    | some d=>rw [hc] at h; exact ih h
   | _=>exact h.elim
  | idx i=>
   cases k with
   | sl e k=>exact ih h.2.2
   | _=>exact h.elim
theorem Zy:∀(q:List Stp) {k:K} {x:El k},ah q k=[]→(aQ q k x).isSome=true→ng q k x:=by
 intro q
 induction q with
 | nil=>intro k x _ _; trivial
 | cons s q ih=>
  intro k x h0 hs
  cases s with
  | idx i=>cases k <;> simp [ah,aQ] at h0 hs
  | fJ n=>
   cases k with
   | st c=>
    simp only [aQ] at hs
    cases hg:aO n c x with
    | none=>rw [hg] at hs; simp at hs
    | some s=>
     rw [hg] at hs
     simp only at hs
     have hp2:ah (.fJ n :: q) (.st c)=ah q s.1:=by simp [ah,bW n hg]
     rw [hp2] at h0
     simp only [ng,hg]
     exact ih h0 hs
   | _=>simp [aQ] at hs
section
variable {cx:Cx} {σ:St} {α:dL} {F:List Nat} {a:Act} {w:World} {r:Nat} {R:Root}
theorem VT {P:Program} {T:iT} {t:TypeId} {kk:K} {x:El kk} {nT:List TypeId} {uK:List Tag} {NB:List Value} {RV:List Nat} {v:Value} (hT:fU P T t kk)
  (H:Rel cx σ α F a w) (hr:aP σ r R) (hv:bu σ R) {p:List Stp} {d z:Dat} (hg:aQ p R.k R.x=some d) (hz:dX p R.k R.x ⟨kk,x⟩=some z) (fO:ng p R.k R.x) (hown:∀t∈ah p R.k,az t R.own=true)
  (hh:Held cx σ α F w kk x nT uK NB RV) (hc:bq σ (aU nT kk) uK=true) (Ea:VC kk v NB) (hd:d.1=kk∨d.1=kk.hole)
  (hself:kk.flat=true∨Ou R r uK (aU nT kk)=true) (hbad:∀t∈ah p R.k,t∉aU nT kk) (kp:Bool)
  {cs1:List Value} {b o:Nat} (hn:bG (hp w) p R.k (α.hdr r) (dV α R r)=some (cs1,some (b,o))) :
  ∃w',(Instr.storeAt t (.pointer (some ⟨b,o,none⟩)) v).run P w=.ok () w'∧∃α' F',
   Rel cx (au σ r (bH R z (bF R.own (aU nT kk)) (bif kk.flat then R.tags else iK (w9 r uK) R.tags) [eP R p] ((bif d.1.beq kk then [] else sP kk)++kk.tys) kp)) α' F' a w':=by
 have K0:=H.roots r R hr
 have hnt:=H.dz r R hr.1
 have U7:=hh.ow hc
 obtain ⟨_,_,hbb,⟨arr,e,lo,hi,hb,hf,hs,hlast⟩,_⟩:=qa H hr hv hg fO hown hn
 have hds:kk.size=d.1.size:=by
  rcases hd with h | h
  ·rw [h]
  ·rw [h,sQ]
 have hone:=QY hT.eU U7
 have hrun:=GU (o:=o) hT hb hf hh.len (by omega) Ea hone
 obtain ⟨s1,s2,kF,s3,s4,s5,s6⟩:=uA b NB w arr e (lo,hi) o hb (by rw [hh.len]; omega)
 have s7:=qc b NB w o
 refine ⟨_,hrun, ?_⟩
 have aa1:∀t∈ah p R.k,az t (bF R.own (aU nT kk))=true:=fun t ht=>dD.2 ⟨hown t ht,hbad t ht⟩
 obtain ⟨fd,ok',fK,rest,pM,nE,hn',hpf,hd1,hty,_,zB,hwf,hgo⟩:=H.place hr hv (own':=bF R.own (aU nT kk)) hg fO (fun t h=>(dD.1 h).1) aa1
 rw [hn] at hn'
 simp only [anh,ant] at hn'
 obtain ⟨rfl,rfl⟩:=hn'
 obtain ⟨ft,Cn,hpt,hOt⟩:=uV (own':=bF R.own (aU nT kk)) (fun t ht hm=>by
  rcases BB (own:=nT) ht with h | h
  ·exact absurd h (dD.1 hm).2
  ·exact h) (sI (aU nT kk) (fun _ h=>h) U7)
 have afR:=hpt.nodup hh.nd
 have hft:∀b∈ft,b∈RV:=fun b hb=>hpt.mem_iff.2 (anm _ hb)
 have acD:∀b∈Cn,b∈RV:=fun b hb=>hpt.mem_iff.2 (anj _ hb)
 have Hz:b∉F:=H.iP r R hr b hbb
 have afI:=uf hOt
 suffices hP:sJ cx σ α F w r R p d (bF R.own (aU nT kk)) cs1 (some (b,o)) fK rest ⟨kk,x⟩ z (bif kk.flat then R.tags else iK (w9 r uK) R.tags) [eP R p] ((bif d.1.beq kk then [] else sP kk)++kk.tys) kp ft (F.filter fun b=>!az b RV) NB (w.setCells b o NB) by
  obtain ⟨α',h,_⟩:=hgo hP
  exact ⟨α',_,h⟩
 have hF':∀b',b'∈F.filter (fun b=>!az b RV)↔b'∈F∧b'∉RV:=fun b'=>by rw [anA]; simp [aV]
 refine ⟨hz,hds, ?_,⟨s7.1,s7.2.1,s7.2.2⟩,by omega, ?_, ?_,fun h=>by simp at h,by rw [hh.len,hds], .inl (by simp), ?_,fun b' hb'=>.inr (.inl (hh.sub b' (hft b' hb'))),(ano.1 afR).1,fun b' hb'=>.inl ((hF' b').1 hb').1,H.zV.filter _,fun b' hb' h=>((hF' b').1 h).2 (hft b' hb'), .inr (by simp), ?_, ?_, ?_⟩
 ·rcases hd with h | h
  ·rw [h]; exact fun _ h=>h
  ·rw [h,SV]; intro t ht; simp at ht
 ·intro b' _ hne
  refine .inr (.inr ?_)
  by_cases e:b'=b
  ·subst e; exact ⟨o,rfl,by simp⟩
  ·exact absurd (s1 b' e) hne
 ·intro b' o' e'
  simp only [anh,ant] at e'
  obtain ⟨rfl,rfl⟩:=e'
  refine ⟨fun i hi=>?_,arr,kF,e,(lo,hi),hb,s3,s4,fun i hi=>?_⟩
  ·unfold cellAt
   rw [s3]
   exact s5 i hi
  ·exact s6 i (by rw [hh.len,hds]; exact hi)
 ·cases hfl:kk.flat with
  | true=>exact ⟨fun _ h=>h,hnt.1,hnt.2.2⟩
  | false=>
   refine ⟨fun t ht=>cZ.2 (.inr ht),fun t ht=>?_,fun n ht=>?_⟩
   ·rcases cZ.1 ht with h | h
    ·exact hh.wt t (pF.1 h).1
    ·exact hnt.1 t h
   ·rcases cZ.1 ht with h | h
    ·exact (pF.1 h).2 rfl
    ·exact hnt.2.2 n h
 ·cases hbq:d.1.beq kk with
  | true=>exact .inl (K.eq_of_beq hbq).symm
  | false=>
   have hdh:d.1=kk.hole:=hd.resolve_left (fun e=>by rw [e,K.WR] at hbq; simp at hbq)
   refine .inr (.inl fun q' h1 h2=>?_)
   have hnil:ah q' kk=[]:=by
    cases he:ah q' kk with
    | nil=>rfl
    | cons e l=>exact absurd (anj _ (oN q' e (by rw [he]; simp))) (h2 e (by rw [show ah q' (⟨kk,x⟩:Dat).1=ah q' kk from rfl,he]; simp))
   obtain ⟨dk,dx⟩:=d
   simp only at hdh
   subst hdh
   obtain ⟨h3,h4⟩:=Vf q' (y:=x) hnil h1
   refine ⟨?_, ?_⟩
   ·show ah q' kk.hole=ah q' kk
    rw [h3,hnil]
   ·show (aQ q' kk.hole dx).isSome=true
    rw [qF q' (y:=um kk x)]
    exact h4
 ·intro _ q c0 w0 hpq XT hnq hqs
  obtain ⟨dk,dx⟩:=d
  rcases hd with ek | ek
  ·simp only at ek
   subst ek
   exact u6 q hpq (fun t ht=>⟨(XT t ht).1,fun h=>(XT t ht).2 (anj _ h)⟩) hnq
  ·simp only at ek
   subst ek
   have hs0:(aQ q kk.hole dx).isSome=true:=Te q hpq
   rw [qF q (y:=um kk x)] at hs0
   obtain ⟨h1,h2,h3,_,h5⟩:=J7 (h:=hp w) q (x:=x) hs0
   have ako:bG (hp w) q kk cs1 (some (b,o))=some (c0,w0):=by rw [←h5]; exact hnq
   exact u6 (own:=bF R.own (aU nT kk)) q (Zy q h1 h3) (fun t ht=>by rw [h1] at ht; simp at ht) ako
 ·intro α' Tn hblk hval
  cases hfl:kk.flat with
  | true=>
   obtain ⟨e1,e2⟩:=Zu (h':=hp (w.setCells b o NB)) (own':=bF R.own (aU nT kk)) (ok':=iL cx (au σ r (bH R z (bF R.own (aU nT kk)) (bif kk.flat then R.tags else iK (w9 r uK) R.tags) [eP R p] ((bif d.1.beq kk then [] else sP kk)++kk.tys) kp)) α' (F.filter fun b=>!az b RV) (w.setCells b o NB) (bif true then R.tags else iK (w9 r uK) R.tags)) hfl hOt
   subst e1
   rw [hfl] at e2
   exact e2
  | false=>
   rw [hfl] at Tn hblk hval
   have FV:=hself.resolve_left (by rw [hfl]; simp)
   simp only [cond_false] at Tn hblk hval ⊢
   generalize hR':bH R z (bF R.own (aU nT kk)) (iK (w9 r uK) R.tags) [eP R p] ((bif d.1.beq kk then [] else sP kk)++kk.tys) kp=R' at *
   have hRw:R'.w=[eP R p]++R.w:=by rw [←hR']; rfl
   have hRt:R'.tags=iK (w9 r uK) R.tags:=by rw [←hR']; rfl
   have hRv:R'.Ce=aU (bF R.own (aU nT kk)) z.1:=by rw [←hR']; rfl
   have hRd:R'.bg=false:=hval.1
   have af2:∀t∈aU nT kk,t∈R'.Ce:=by
    intro t ht
    rw [hRv]
    have h1:=SS (own:=nT) (own':=bF R.own (aU nT kk)) (k:=kk) (fun t ht hm=>by
     rcases BB (own:=nT) ht with h | h
     ·exact absurd h (dD.1 hm).2
     ·exact h) t ht
    rcases (M9 p hg hz).1 t h1 with h | ⟨q,h2,h3⟩
    ·exact h
    ·rw [aa1 q h2] at h3; simp at h3
   have XD:∀n,(r,n)∈uK→eP R p∉aU nT kk:=by
    intro n hn1 hl
    unfold eP at hl
    cases hpt:ah p R.k with
    | nil=>
     rw [hpt] at hl
     simp only [List.getLastD_nil] at hl
     unfold Ou at FV
     rw [Bool.or_eq_true] at FV
     rcases FV with h | h
     ·have:=anx.1 h _ hn1
      simp at this
     ·unfold Root.bt at hl
      cases hk:R.kind with
      | var tv=>rw [hk] at h hl; simp only at h hl; rw [Bool.not_eq_true',aV] at h; exact h hl
      | par=>rw [hk] at h; simp at h
      | anon=>
       rcases zB b o rfl with h1 | ⟨o0,ew,_⟩
       ·
        rw [hpt] at hbad
        have:=hty b (anj _ h1)
        have hne:dV α R r=none:=by unfold dV; rw [hk]
        rw [hne] at hn
        have:=Yp p hpt (by rw [hg]; rfl) hn
        simp at this
       ·unfold dV at ew; rw [hk] at ew; simp at ew
      | dead=>have:=hr.2; simp [Root.bg,hk] at this
    | cons e l=>
     rw [hpt,List.getLastD_eq_getLast?] at hl
     have:(e :: l).getLast?.getD R.bt∈(e :: l):=by
      rw [List.getLast?_eq_some_getLast (by simp)]
      exact List.getLast_mem _
     exact hbad _ (by rw [hpt]; exact this) hl
   have hc':bq (au σ r R') (aU nT kk) uK=true:=by
    rw [oF]
    intro tg uo
    by_cases e:tg.1=r
    ·refine .inr ⟨R',by rw [e]; exact aI ..,hRd, ?_⟩
     rw [oF] at hc
     rcases hc tg uo with h | ⟨Q,h1,h2,h3⟩
     ·rw [e,hnt.2.1] at h; simp at h
     ·rw [e,hr.1] at h1
      simp only [anh] at h1
      subst h1
      rw [hRw]
      refine (pg ?_).2 ⟨fun t ht=>?_,h3⟩
      ·rcases hh.wt tg uo with h | ⟨Q,q1,q2⟩
       ·rw [e,hnt.2.1] at h; simp at h
       ·rw [e,hr.1] at q1
        simp only [anh] at q1
        subst q1
        rcases q2 with q2 | q2
        ·rw [hr.2] at q2; simp at q2
        ·exact q2
      ·simp only [anC] at ht
       subst ht
       exact XD tg.2 (by rw [←e]; exact uo)
    ·have h2:=hval.2
     rw [hRt,oF] at h2
     rcases h2 tg (cZ.2 (.inl (pF.2 ⟨uo,e⟩))) with h | ⟨Q,h3,h4,h5⟩
     ·exact .inl h
     ·refine .inr ⟨Q,h3,h4, ?_⟩
      unfold clean at h5 ⊢
      rw [anx] at h5 ⊢
      intro x hx
      have:=h5 x hx
      simp only [Bool.not_eq_true',aV] at this ⊢
      exact fun h=>this (af2 x h)
   obtain ⟨_,hV,_⟩:=Tn.views H uK (aU nT kk) hh.wt hc'
   have hsame:∀b',b'≠b→hp (w.setCells b o NB) b'=hp w b':=s1
   refine bz ?_ ?_ (fun b' hb'=>hsame b' (fun e=>Hz (e▸hh.sub b' (hft b' hb')))) hOt
   ·rintro b' (⟨h1,h2⟩ | h)
    ·exact (hV b' h1 (.inl h2)).2
    ·exact hsame b' (fun e=>Hz (e▸hh.sub b' (acD b' h)))
   ·rintro b' (⟨h1,h2⟩ | h)
    ·obtain ⟨g1,g2,g3,g4,g5⟩:=(hV b' h1 (.inl h2)).1
     refine ⟨g1,g2,g3,fun q Q hq hbq=>?_,fun h0=>?_⟩
     ·obtain ⟨n,hn1⟩:=g4 q Q hq hbq
      by_cases e:q=r
      ·exfalso
       subst e
       obtain ⟨rfl,_⟩:=eT hq
       obtain ⟨tt,ht1,ht2⟩:=h2
       have Yr:∀e,mine cx w b'→qM (hp w) b'=some e→az e (bF R.own (aU nT kk))=true→False:=by
        intro e hmn he hm
        have ht2:=H.SN hmn ht2
        rw [ht2] at he
        simp only [anh] at he
        subst he
        exact (dD.1 hm).2 ht1
       rcases hblk b' hbq with ⟨o',h⟩ | h | h
       ·unfold Ou at FV
        rw [Bool.or_eq_true] at FV
        rcases FV with h3 | h3
        ·have:=anx.1 h3 _ hn1
         simp at this
        ·cases hk:R.kind with
         | var tv=>
          rw [hk] at h3
          simp only at h3
          rw [Bool.not_eq_true',aV] at h3
          obtain ⟨_,alO,e2,lo2,hi2,f1,_,_,f4⟩:=K0.mem b' o' h
          have ht2:=H.SN (K0.mine b' (by unfold blk; rw [h]; exact anP)) ht2
          unfold qM at ht2
          rw [f1] at ht2
          simp only [anh] at ht2
          exact h3 (by rw [←f4 tv hk,ht2]; exact ht1)
         | par=>rw [hk] at h3; simp at h3
         | anon=>unfold dV at h; rw [hk] at h; simp at h
         | dead=>have:=hr.2; simp [Root.bg,hk] at this
       ·obtain ⟨e,_,h3,h4⟩:=afI b' h
        exact Yr e (H.fl b' (hh.sub b' (hft b' h))) h4 h3
       ·obtain ⟨e,_,h3,h4⟩:=hty b' (anj _ h)
        exact Yr e (K0.mine b' (anj _ (hpf.mem_iff.2 (by simp [h])))) h4 h3
      ·exact ⟨n,cZ.2 (.inl (pF.2 ⟨hn1,e⟩))⟩
     ·rcases g5 h0 with ⟨j,n,h3,h4⟩ | h3
      ·refine .inl ⟨j,n,cZ.2 (.inl (pF.2 ⟨h3, ?_⟩)),h4⟩
       intro e
       have:=hnt.2.1
       rw [←e] at this
       simp only at this
       rw [iJ] at this
       simp at this
      ·exact .inr h3
    ·have Xt:=hh.sub b' (acD b' h)
     have hm:=H.fl b' Xt
     refine ⟨by have:=hm.1; omega,fun h2=>((hF' b').1 h2).2 (acD b' h),sF H Xt,fun q Q hq hbq=>?_,fun h0=>?_⟩
     ·exfalso
      rcases jm hq with ⟨rfl,rfl,_⟩ | ⟨e,hq'⟩
      ·rcases hblk b' hbq with ⟨o',h2⟩ | h2 | h2
       ·exact H.iP _ _ hr b' (by rw [bV,fq]; exact .inl ⟨o',h2⟩) Xt
       ·exact (ano.1 afR).2.2 b' h2 b' h rfl
       ·exact H.iP _ _ hr b' (by rw [bV,fq,hpf.mem_iff]; exact .inr (by simp [h2])) Xt
      ·obtain ⟨Q2,g1,g2⟩:=Tn.old q Q hq'.1
       have hns:Same σ α (au σ r R') α' q:=by
        refine anF fun hns=>?_
        rcases g2 with ⟨h1,h2⟩ | ⟨_,h2⟩
        ·rw [bU σ R' e] at g1
         rw [hq'.1] at g1
         simp only [anh] at g1
         subst g1
         rw [hq'.2] at h1
         simp at h1
        ·rcases h2.2.2.2.2.2.2 with h3 | ⟨_,_,h3⟩
         ·rw [ql _ e,ql _ e] at h3
          simp at h3
         ·exact hns h3
       rw [hns.blk] at hbq
       exact H.iP _ _ hq' b' hbq Xt
     ·rcases hm.2 with h | ⟨j,pi,h1,h2⟩
      ·omega
      ·exact .inr ⟨j,pi,h1,h2⟩
end
end
section
open Go
variable [Fr]
theorem fA (d c:Nat):fI (aY d c)=false:=by
 unfold fI aY
 have:(4 * (8 * d+c)+2) % 4=2:=by omega
 rw [this]; rfl
section
variable {cx:Cx} {σ:St} {α:dL} {F:List Nat} {a:Act} {w:World} {r:Nat}
theorem QE {T:List Tag} (h:eY σ T) (hn:σ.roots r=none) (hx:fI r=false):∀n,(r,n)∉T:=by
 intro n hn2
 rcases h _ hn2 with h | ⟨Q,h,_⟩
 ·simp only at h; rw [hx] at h; simp at h
 ·simp only at h; rw [hn] at h; simp at h
theorem O1 (H:Rel cx σ α F a w) (hn:σ.roots r=none) (hx:fI r=false) {R':Root} (hd:R'.bg=false) (hk:R'.kind≠.par) (rO:eY σ R'.tags) (loc:Nat×Nat) (hdr':List Value) (dH F':List Nat)
  (hblk:∀b∈iA R' loc dH,b∈F∧b∉F') (hnd:(iA R' loc dH).Nodup) (hF':∀b∈F',b∈F) (PM:F'.Nodup)
  (how:bq σ R'.Ce R'.tags=true→Ow (hp w) R'.own (fun b=>iL cx σ α F w R'.tags b∨(b∈F∧b∉F'∧b∉iA R' loc dH)) R'.k R'.x hdr' dH) (hlen:hdr'.length=R'.k.size)
  (hmem:∀b o,wO R' loc=some (b,o)→Cells (hp w) b o hdr'∧∃arr e lo hi,hp w b=some (.cells arr e (lo,hi))∧(∀i,i<arr.size→¬(lo≤i∧i<hi))∧o+R'.k.size≤arr.size∧(∀t,R'.kind=.var t→e=t)) :
  Rel cx (au σ r R') (aG α r loc hdr' dH) F' a w∧ni cx σ α F w (au σ r R') (aG α r loc hdr' dH) F' w (sU r []) (sU r []):=by
 have hns:∀{q:Nat},¬Same σ α (au σ r R') (aG α r loc hdr' dH) q→q=r:=fun {q} h=>anF fun e=>h (gZ e)
 have hold:∀{q Q},σ.roots q=some Q→q≠r:=fun {q Q} h e=>by rw [e,hn] at h; simp at h
 have T:ni cx σ α F w (au σ r R') (aG α r loc hdr' dH) F' w (sU r []) (sU r []):=by
  refine ⟨rfl,⟨rfl,rfl,rfl⟩,anz _, ?_, ?_, ?_,fun b _ h=>absurd rfl h, ?_,PM, ?_, ?_,fun _ _ _ _ _ _ _ h=>absurd rfl h,fun q Q Q' h1 h2 _=>by rw [bU σ R' (hold h1),h1] at h2; simp only [anh] at h2; subst h2; exact ⟨rfl,rfl⟩⟩
  ·intro q Q hQ
   have e:=hold hQ
   refine ⟨Q,by rw [bU σ R' e]; exact hQ, ?_⟩
   cases hd:Q.bg with
   | true=>exact .inl ⟨rfl,by intro hk; simp [Root.bg,hk] at hd⟩
   | false=>exact .inr ⟨rfl,by rw [ql _ e]; rfl,by rw [ql _ e]; rfl,anz _,rfl,by simp [aG,upd_ne _ _ e],fun _=>rfl, .inr ⟨ql _ e,ql _ e,gZ e⟩⟩
  ·intro q Q hQ hs
   have e:=hns hs
   subst e
   rw [aI] at hQ
   simp only [anh] at hQ
   subst hQ
   refine ⟨fun t ht=>?_,hx,QE rO hn hx⟩
   have hne:t.1≠q:=fun e=>QE rO hn hx t.2 (by rw [←e]; exact ht)
   rcases rO t ht with h | ⟨Q,h1,h2⟩
   ·exact .inl h
   ·exact .inr ⟨Q,by rw [bU σ R' hne]; exact h1,h2⟩
  ·intro q Q hq hQ
   by_cases e:q=r
   ·subst e
    rw [aI] at hQ
    simp only [anh] at hQ
    subst hQ
    exact hk
   ·rw [bU σ R' e,hq] at hQ; simp at hQ
  ·rintro b (⟨q,Q,hq,hb,hno⟩ | hb)
   ·rcases jm hq with ⟨rfl,rfl,_⟩ | ⟨e,hq'⟩
    ·rw [eG] at hb
     exact .inl (hblk b hb).1
    ·rw [(gZ (α:=α) (σ:=σ) (R:=R') e).blk] at hb
     exact absurd ⟨Q,hq',hb⟩ hno
   ·exact .inl (hF' b hb)
  ·intro q Q hq hs b hb
   have e:=hns hs
   subst e
   obtain ⟨rfl,_⟩:=eT hq
   rw [eG] at hb
   exact (hblk b hb).2
  ·intro q Q q' Q' hq hq' hne hs hs'
   exact absurd ((hns hs).trans (hns hs').symm) hne
 refine ⟨H.turn T ?_ ?_ ?_,T⟩
 ·intro q Q hq hs
  have e:=hns hs
  subst e
  obtain ⟨rfl,_⟩:=eT hq
  refine ⟨fun hv=>?_, ?_, ?_, ?_⟩
  ·have e1:(aG α q loc hdr' dH).hdr q=hdr':=by simp [aG,upd_same]
   have e2:(aG α q loc hdr' dH).fo q=dH:=by simp [aG,upd_same]
   rw [e1,e2]
   obtain ⟨h1,h2,_⟩:=T.views H Q.tags _ rO hv.2
   refine bz (fun _ _=>rfl) ?_ (fun _ _=>rfl) (sI _ (fun _ h=>h) (how h1))
   rintro b ⟨hb | ⟨g1,g2,g3⟩,hty⟩
   ·exact (h2 b hb (.inl hty)).1
   ·have hm:=H.fl b g1
    refine ⟨hm.1,g2,sF H g1,fun q' Q' hq' hb'=>?_,fun h0=>?_⟩
    ·exfalso
     rcases jm hq' with ⟨rfl,rfl,_⟩ | ⟨e,hq2⟩
     ·rw [eG] at hb'; exact g3 hb'
     ·rw [(gZ (α:=α) (σ:=σ) (R:=Q) e).blk] at hb'
      exact H.iP _ _ hq2 b hb' g1
    ·rcases hm.2 with h | ⟨j,pi,h1,h2⟩
     ·omega
     ·exact .inr ⟨j,pi,h1,h2⟩
  ·simpa [aG,upd_same] using hlen
  ·intro b o hb
   rw [jH] at hb
   simpa [aG,upd_same] using hmem b o hb
  ·rw [eG]; exact hnd
 ·intro q Q hq hs
  exact absurd (hns hs) (hold hq.1)
 ·intro q Q hq hs
  exact absurd (hns hs) (hold hq.1)
theorem gW {R:Root} (h:R.kind=.anon) (loc:Nat×Nat) (fo:List Nat):iA R loc fo=fo:=by simp [iA,h]
theorem vk {R:Root} {t:TypeId} (h:R.kind=.var t) (loc:Nat×Nat) (fo:List Nat):iA R loc fo=loc.1 :: fo:=by simp [iA,h]
theorem yT {R:Root} (h:R.kind=.anon) (loc:Nat×Nat):wO R loc=none:=by simp [wO,h]
theorem QF {R:Root} {t:TypeId} (h:R.kind=.var t) (loc:Nat×Nat):wO R loc=some loc:=by simp [wO,h]
theorem Yo {k:K} {x:El k} {own:List TypeId} {tags:List Tag} {kp:Bool} {hdr:List Value} {fo F':List Nat} {loc:Nat×Nat} {v:Value} {w:World} (h:VC k v hdr) :
  bI cx (au σ r (aL k x own tags .anon kp)) (aG α r loc hdr fo) F' w (.ref r 0) v:=by
 intro Q hQ _
 obtain ⟨rfl,_⟩:=eT hQ
 refine ⟨rfl, ?_⟩
 simp only [aG,upd_same]
 exact h
theorem adf {k:K} {x:El k} {own:List TypeId} {tags:List Tag} {kp:Bool} {hdr:List Value} {fo F':List Nat} {b:Nat} {t:TypeId} {w:World} :
  bI cx (au σ r (aL k x own tags (.var t) kp)) (aG α r (b,0) hdr fo) F' w (.ptr r [] 0) (.pointer (some ⟨b,0,none⟩)):=by
 refine ⟨⟨b,0,rfl⟩, ?_⟩
 intro Q hQ _ _ _ _
 rw [aI] at hQ
 simp only [anh] at hQ
 subst hQ
 refine ⟨trivial,hdr,b,0, ?_,rfl⟩
 simp only [bG]
 rw [jH]
 simp [wO,aL,aG,upd_same]
theorem aaj {k:K} {x:El k} {own:List TypeId} {tags:List Tag} {kp:Bool} {hdr:List Value} {fo F':List Nat} {b o:Nat} {t:TypeId} {w:World} :
  bI cx (au σ r (aL k x own tags (.var t) kp)) (aG α r (b,o) hdr fo) F' w (.ptr r [] 0) (.pointer (some ⟨b,o,none⟩)):=by
 refine ⟨⟨b,o,rfl⟩, ?_⟩
 intro Q hQ _ _ _ _
 rw [aI] at hQ
 simp only [anh] at hQ
 subst hQ
 refine ⟨trivial,hdr,b,o, ?_,rfl⟩
 simp only [bG]
 rw [jH]
 simp [wO,aL,aG,upd_same]
theorem BS {tk:iy} (h:eY σ tk.tags):eY σ tk.gL:=by
 unfold iy.gL
 split
 ·intro t ht; simp at ht
 ·exact h
theorem gF {h:Heap} {own:List TypeId} {ok ok':Nat→Prop} {k:K} {x:El k} {cs:List Value} {fo:List Nat} (hv:aU own k=[]) (H:Ow h own ok k x cs fo):Ow h own ok' k x cs fo:=by
 refine bz (fun _ _=>rfl) (fun b hb=>?_) (fun _ _=>rfl) (sI [] (by rw [hv]; exact fun _ h=>h) H)
 obtain ⟨_,t,ht,_⟩:=hb
 simp at ht
theorem Tq {P:Program} {tk:iy} {t:TypeId} {v:Value} {cs:List Value} {fo:List Nat} (H:Rel cx σ α F a w) (hn:σ.roots r=none) (hx:fI r=false) (hh:Held cx σ α F w tk.k tk.x tk.own tk.tags cs fo)
  (hc:bq σ (aU tk.own tk.k) tk.tags=true) (hv:VC tk.k v cs) (kp:Bool) :
  (Instr.box t v).run P w=.ok (.pointer (some ⟨w.heap.size,0,none⟩)) (w.alloc (.cells v.cells t))∧
   ∃α' F',Rel cx (au σ r (aL tk.k tk.x tk.own tk.gL (.var t) kp)) α' F' a (w.alloc (.cells v.cells t))∧
    bI cx (au σ r (aL tk.k tk.x tk.own tk.gL (.var t) kp)) α' F' (w.alloc (.cells v.cells t)) (.ptr r [] 0) (.pointer (some ⟨w.heap.size,0,none⟩)):=by
 refine ⟨MW t v w, ?_⟩
 have hcs:v.cells=cs.toArray:=by
  have:=hv.cells
  apply Array.ext'
  simpa using this
 rw [hcs]
 obtain ⟨H1,T1⟩:=H.alloc (.cells cs.toArray t)
 have hh1:=hh.turn H T1 (fun b hb=>⟨pz w _ (H.fl b (hh.sub b hb)).1,anH _ (hh.sub b hb)⟩)
 have hnew:hp (w.alloc (.cells cs.toArray t)) w.heap.size=some (.cells cs.toArray t (0,0)):=rM w _
 have Hz:w.heap.size∉F:=fun h=>by have:=(H.fl _ h).1; omega
 have hbf:w.heap.size∉fo:=fun h=>Hz (hh.sub _ h)
 have hk:(aL tk.k tk.x tk.own tk.gL (.var t) kp).kind=.var t:=rfl
 obtain ⟨h1,h2⟩:=O1 (R':=aL tk.k tk.x tk.own tk.gL (.var t) kp) H1 hn hx rfl (by simp [aL]) (BS hh1.wt) (w.heap.size,0) cs fo (F.filter fun b=>!az b fo)
  (fun b hb=>by
   rw [vk hk] at hb
   rcases anu.1 hb with h | h
   ·simp only at h; subst h
    exact ⟨anP,fun h=>Hz (anA.1 h).1⟩
   ·refine ⟨anH _ (hh.sub b h),fun h2=>?_⟩
    have:=(anA.1 h2).2
    simp only [Bool.not_eq_true',aV] at this
    exact this h)
  (by rw [vk hk]; exact anQ.2 ⟨hbf,hh.nd⟩)
  (fun b hb=>anH _ (anA.1 hb).1) (H.zV.filter _)
  (fun hcl=>by
   show Ow _ tk.own _ tk.k tk.x cs fo
   cases hb:tk.bad with
   | nil=>exact gF hb (hh1.ow hc)
   | cons t0 l=>
    have et:(aL tk.k tk.x tk.own tk.gL (.var t) kp).tags=tk.tags:=by
     show tk.gL=tk.tags
     unfold iy.gL
     rw [hb]
    rw [et] at hcl ⊢
    exact bz (fun _ _=>rfl) (fun b h=>.inl h) (fun _ _=>rfl) (hh1.ow hcl)) hh.len
  (fun b o hb=>by
   rw [QF hk] at hb
   simp only [anh,ant] at hb
   obtain ⟨rfl,rfl⟩:=hb
   refine ⟨fun i hi=>?_,cs.toArray,t,0,0,hnew,fun i _=>by omega, ?_,fun t' ht'=>?_⟩
   ·unfold cellAt
    rw [hnew]
    simp
   ·show 0+tk.k.size≤_
    simp [hh.len]
   ·have:Gs.var t=Gs.var t':=ht'
    simpa using this)
 exact ⟨_,_,h1,adf⟩
theorem Ma {k:K} {x:El k} {own:List TypeId} {tags:List Tag} {v:Value} {cs:List Value} {fo:List Nat} (H:Rel cx σ α F a w) (hn:σ.roots r=none) (hx:fI r=false)
  (hsub:∀b∈fo,b∈F) (hnd:fo.Nodup) (hwt:eY σ tags) {F':List Nat} (hF':∀b∈F',b∈F∧b∉fo) (PM:F'.Nodup) (hlen:cs.length=k.size)
  (how:bq σ (aU own k) tags=true→Ow (hp w) own (fun b=>iL cx σ α F w tags b∨(b∈F∧b∉F'∧b∉fo)) k x cs fo) (hv:VC k v cs) (kp:Bool) :
  Rel cx (au σ r (aL k x own tags .anon kp)) (aG α r (0,0) cs fo) F' a w∧bI cx (au σ r (aL k x own tags .anon kp)) (aG α r (0,0) cs fo) F' w (.ref r 0) v:=by
 have hk:(aL k x own tags .anon kp).kind=.anon:=rfl
 obtain ⟨h1,h2⟩:=O1 (R':=aL k x own tags .anon kp) H hn hx rfl (by simp [aL]) hwt (0,0) cs fo F'
  (fun b hb=>by rw [gW hk] at hb; exact ⟨hsub b hb,fun h=>(hF' b h).2 hb⟩) (by rw [gW hk]; exact hnd) (fun b hb=>(hF' b hb).1) PM
  (fun hc=>by rw [gW hk]; exact how hc) hlen (fun b o hb=>by rw [yT hk] at hb; simp at hb)
 exact ⟨h1,Yo hv⟩
theorem ym {k:K} {x:El k} {own:List TypeId} {tags:List Tag} {v:Value} {cs:List Value} {fo:List Nat} (H:Rel cx σ α F a w) (hn:σ.roots r=none) (hx:fI r=false)
  (hsub:∀b∈fo,b∈F) (hnd:fo.Nodup) (hwt:eY σ tags) {F':List Nat} (hF':∀b∈F',b∈F∧b∉fo) (PM:F'.Nodup) (hlen:cs.length=k.size)
  (how:bq σ (aU own k) tags=true→Ow (hp w) own (fun b=>iL cx σ α F w tags b∨(b∈F∧b∉F'∧b∉fo)) k x cs fo) (hv:VC k v cs) (kp:Bool) :
  ∃α',Rel cx (au σ r (aL k x own tags .anon kp)) α' F' a w∧bI cx (au σ r (aL k x own tags .anon kp)) α' F' w (.ref r 0) v:=
 ⟨_,Ma H hn hx hsub hnd hwt hF' PM hlen how hv kp⟩
end
end
section
open Go
variable [Fr]
def qO (P:Program) (cx:Cx) (o:Oper) (a:Act) (w:World) (σ':St):Prop:=
 ∃v w' α' F',((execOp a.eval o).run P w=.ok (.value v) w'∨((execOp a.eval o).run P w=.ok .skip w'∧v=undef))∧Rel cx σ' α' F' (a.put o.dst v) w'
theorem qO.wp {P:Program} {cx:Cx} {o:Oper} {a:Act} {w:World} {σ':St} (h:qO P cx o a w σ') {K:Act→World→Prop} {Q:Exit→Act→World→Prop}
  (hK:∀α' F' a' w',Rel cx σ' α' F' a' w'→K a' w'):o.wp P a w K Q:=by
 obtain ⟨v,w',α',F',h | ⟨h,rfl⟩,h2⟩:=h
 ·unfold Oper.wp; rw [h]; exact hK _ _ _ _ h2
 ·unfold Oper.wp; rw [h]; exact hK _ _ _ _ h2
section
variable {P:Program} {T:iT} {cx:Cx} {σ:St} {α:dL} {F:List Nat} {a:Act} {w:World} {o:Oper} {d:Nat} {ws:List Wr}
theorem bJ (H:Rel cx σ α F a w) (hd:o.dst=some d) (hdn:d<cx.nt) {x:xJ} {v:Value} (hrun:(execOp a.eval o).run P w=.ok (.value v) w) (hx:jd cx σ α F w x v) (hw:xO σ x) :
  qO P cx o a w (aB [.s d x] σ):=by
 refine ⟨v,w,α,F, .inl hrun, ?_⟩
 rw [hd]
 exact H.put hdn hw hx
theorem iO {σ1:St} {dK:dL} {F1:List Nat} {w1:World} (H:Rel cx σ1 dK F1 a w1) (hd:o.dst=some d) (hdn:d<cx.nt) {x:xJ} {v:Value} (hrun:(execOp a.eval o).run P w=.ok (.value v) w1) (hx:jd cx σ1 dK F1 w1 x v) (hw:xO σ1 x) :
  qO P cx o a w (aB [.s d x] σ1):=by
 refine ⟨v,w1,dK,F1, .inl hrun, ?_⟩
 rw [hd]
 exact H.put hdn hw hx
theorem fM {A:Type} {z:A} {r:Nat} {k:Prog A} (h:(iH r k).ends σ z):σ.roots r=none∧k.ends σ z:=by
 unfold iH at h
 simp only [Prog.ends] at h
 cases hr:σ.roots r with
 | none=>rw [hr] at h; exact ⟨rfl,h⟩
 | some R=>rw [hr] at h; exact h.elim
theorem aC {A:Type} {z x:A} (h:(Prog.ret x).ends σ z):z=x:=h
theorem Xa (H:Rel cx σ α F a w) (hd:o.dst=some d) (hdn:d<cx.nt) {x:Operand} (ho:o.op=.move x) (h:(uJ x fun v=>(.ret [.s d v]:Prog (List Wr))).ends σ ws):qO P cx o a w (aB ws σ):=by
 obtain ⟨v,h1,h2,h3⟩:=sO H h
 rw [aC h3]
 exact bJ H hd hdn (by simp [execOp,ho]) h1 h2
theorem fU.sl {t:TypeId} {e:TypeId} {k:K} (h:fU P T t (.sl e k)):P.underlying t=some (.slice e)∧fU P T e k∧0<k.size∧∃i,P.info? e=some i∧i.bytes=T.bytes e∧0<i.bytes:=by
 unfold fU jN at h
 exact ⟨h.1,h.2.2.1,h.2.2.2.1,h.2.2.2.2⟩
theorem Bd {e:TypeId} {k:K} {c:Option Addr} {own:List TypeId} {ok:Nat→Prop} {h:Heap}:Ow h own ok (.sl e k) ([]:List (El k)) [.slice c 0 0] []:=by
 unfold Ow
 split
 ·exact ⟨c,0,0,rfl,rfl,anz _, .inl ⟨rfl,rfl⟩⟩
 ·exact ⟨rfl,c,0,0,rfl,rfl,anz _,fun h=>by omega⟩
theorem RA {L:K→List TypeId} (H:Rel cx σ α F a w) (hd:o.dst=some d) (hdn:d<cx.nt) {x:Operand} (ho:o.op=.assign x)
  (h:(uJ x fun
   | .one .iQ=>match T.ty o.type with
    | some (.sl e kk)=>.root (aY d 0) fun
     | none=>.ret [.r (aY d 0) (some (aL (.sl e kk) [] (e :: L kk) [] .anon)), .s d (.one (.ref (aY d 0) 0))]
     | some _=>.ret [.s d (.one .iQ)]
    | _=>.fail
   | v=>(.ret [.s d v]:Prog (List Wr))).ends σ ws):qO P cx o a w (aB ws σ):=by
 obtain ⟨v,h1,h2,h3⟩:=sO H h
 have hrun:(execOp a.eval o).run P w=.ok (.value (a.eval x)) w:=by simp [execOp,ho]
 have key:ws=[.s d v]→qO P cx o a w (aB ws σ):=fun e=>by rw [e]; exact bJ H hd hdn hrun h1 h2
 cases v with
 | KX l=>exact key (aC h3)
 | lit _ _ _=>exact key (aC h3)
 | one v=>
  cases v with
  | iQ=>
   have h1':=h1
   obtain ⟨c,hc⟩:=h1
   simp only at h3
   split at h3
   ·rename_i e kk hty
    simp only [Prog.ends] at h3
    cases g1:σ.roots (aY d 0) with
    | some Q=>
     rw [g1] at h3
     exact key (aC h3)
    | none=>
    rw [g1] at h3
    have g2:=h3
    rw [aC g2]
    obtain ⟨α',k1,k2⟩:=ym (k:=.sl e kk) (x:=([]:List (El kk))) (own:=e :: L kk) (tags:=[]) (v:=a.eval x) (cs:=[.slice c 0 0]) (fo:=[]) (r:=aY d 0) (F':=F) H g1 (fA d 0) (fun b hb=>by simp at hb) List.nodup_nil (fun t ht=>by simp at ht)
     (fun b hb=>⟨hb,by simp⟩) H.zV rfl (fun _=>Bd) (by rw [hc]; exact EL) false
    exact iO (x:=.one (.ref (aY d 0) 0)) k1 hd hdn hrun k2 ⟨_,aI .., .inr (anR _)⟩
   ·exact h3.elim
  | _=>exact key (aC h3)
theorem Xb (H:Rel cx σ α F a w) (hd:o.dst=some d) (hdn:d<cx.nt) {c x y:Operand} (ho:o.op=.pick c x y)
  (h:(dN c fun c=>asBool c fun c=>uJ x fun v=>uJ y fun u=>.br c (.ret [.s d v]) ((.ret [.s d u]):Prog (List Wr))).ends σ ws):qO P cx o a w (aB ws σ):=by
 obtain ⟨vc,h1,_,h⟩:=bR H h
 obtain ⟨b,h2,h⟩:=Jg h1 h
 obtain ⟨v,h3,h4,h⟩:=sO H h
 obtain ⟨u,h5,h6,h⟩:=sO H h
 rcases h with ⟨hb,h⟩ | ⟨hb,h⟩
 ·rw [aC h]
  exact bJ H hd hdn (by simp [execOp,ho,h2,hb,Go.asBool]) h3 h4
 ·rw [aC h]
  exact bJ H hd hdn (by simp [execOp,ho,h2,hb,Go.asBool]) h5 h6
theorem fU.shape {t:TypeId} {k:K} (h:fU P T t k):(∀a b,k≠.pair a b)∧k≠.unit∧∀n,k≠.gap n:=by
 unfold fU jN at h
 refine ⟨fun a b e=>?_,fun e=>?_,fun n e=>?_⟩ <;> subst e <;> exact h.elim
theorem dA {own:List TypeId} {k:K} (h:∀t∈k.tys,az t own=true):aU own k=[]:=by
 cases he:aU own k with
 | nil=>rfl
 | cons t l=>
  exfalso
  have key:∀(k:K),(∀t∈k.tys,az t own=true)→∀t,t∉aU own k:=by
   intro k
   induction k with
   | sl e k ih=>
    intro h t ht
    simp only [aU,h e (by simp [K.tys]),cond_true] at ht
    exact ih (fun t ht=>h t (by simp [K.tys,ht])) t ht
   | pair a b iha ihb=>
    intro h t ht
    simp only [aU,anq] at ht
    rcases ht with ht | ht
    ·exact iha (fun t ht=>h t (by simp [K.tys,ht])) t ht
    ·exact ihb (fun t ht=>h t (by simp [K.tys,ht])) t ht
   | st f ih=>intro h t ht; exact ih h t ht
   | _=>intro _ t ht; simp [aU] at ht
  exact key k h t (by rw [he]; simp)
theorem VD {l:List Nat}:∀t∈l,az t l=true:=fun t ht=>aM.2 ht
theorem UQ (hT:eF P T) (H:Rel cx σ α F a w) (hd:o.dst=some d) (hdn:d<cx.nt) {t:TypeId} (ho:o.op=.alloc t)
  (h:(match T.ty t with
   | some kk=>iH (aY d 0) (.ret [Wr.r (aY d 0) (some (aL kk kk.zero kk.tys [] (.var t))),Wr.s d (.one (.ptr (aY d 0) [] 0))])
   | none=>(.fail:Prog (List Wr))).ends σ ws):qO P cx o a w (aB ws σ):=by
 split at h
 ·rename_i kk hty
  have ht:=hT.ty t kk hty
  obtain ⟨g1,g2⟩:=fM h
  rw [aC g2]
  obtain ⟨s1,s2,s3⟩:=ht.shape
  have hz:Ow (hp w) kk.tys (iL cx σ α F w []) kk kk.zero (bK kk) []:=ES ht.eU VD
  obtain ⟨k0,α',F',k1,k2⟩:=Tq (P:=P) (tk:=⟨kk,kk.zero,kk.tys,[],[],false⟩) (t:=t) (v:=su kk) (cs:=bK kk) (fo:=[]) (r:=aY d 0) H g1 (fA d 0)
   ⟨fun _=>hz,fun t ht=>by simp at ht,fun b hb=>by simp at hb,List.nodup_nil,dh hz⟩ rfl (Uh s1 s2 s3) false
  have e0:(iy.gL ⟨kk,kk.zero,kk.tys,[],[],false⟩)=[]:=by unfold iy.gL; split <;> rfl
  rw [e0] at k1 k2
  exact iO (x:=.one (.ptr (aY d 0) [] 0)) k1 hd hdn (by
   have:=Qv (P:=P) ht w
   simp only [execOp,ho,anI,this,anB,anN]) k2 ⟨_,aI .., .inr (anR _)⟩
 ·exact h.elim
theorem NH (H:Rel cx σ α F a w) (hd:o.dst=some d) (hdn:d<cx.nt) {x:Operand} (ho:o.op=.nilCheck x)
  (h:(dN x fun
   | .ptr r p h=>.ret [.s d (.one (.ptr r p h))]
   | .iZ bt kk y tags=>.ret [.s d (.one (.iZ bt kk y tags))]
   | _=>(.fail:Prog (List Wr))).ends σ ws):qO P cx o a w (aB ws σ):=by
 obtain ⟨v,h1,h2,h⟩:=bR H h
 cases v with
 | ptr r p n=>
  rw [aC h]
  obtain ⟨b,q,hv⟩:=h1.1
  exact bJ (v:=a.eval x) H hd hdn (by simp [execOp,ho,hv]) h1 h2
 | iZ bt kk y tags=>
  rw [aC h]
  obtain ⟨b,q,hv⟩:=h1.1
  exact bJ (v:=a.eval x) H hd hdn (by simp [execOp,ho,hv]) h1 h2
 | _=>exact h.elim
end
end
end Go.Proofs.YtailcbngagacaabGreat.Ow
