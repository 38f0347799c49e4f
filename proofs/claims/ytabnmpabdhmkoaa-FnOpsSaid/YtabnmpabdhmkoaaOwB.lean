/- A verified reading of translated code: values in place of memory; part B of 6, spaces and remarks taken out. No condition. Own work of this seat. -/
import Derived.Test.YtabnmpabdhmkoaaOwA
set_option linter.unusedSectionVars false
set_option linter.unusedVariables false
set_option linter.unusedSimpArgs false
namespace Go.Proofs.Ytabnmpabdhmkoaa.Ow
section
open Go
variable [Fr]
theorem upd_same {A:Type} (f:Nat→A) (n:Nat) (v:A):upd f n v n=v:=by simp [upd]
theorem upd_ne {A:Type} (f:Nat→A) {n m:Nat} (v:A) (h:m≠n):upd f n v m=f m:=by
 unfold upd
 cases h':Nat.beq m n with
 | true=>exact absurd (agf h') h
 | false=>rfl
structure Same (σ:St) (α:dK) (σ':St) (α':dK) (r:Nat):Prop where
 root:σ'.roots r=σ.roots r
 loc:α'.loc r=α.loc r
 hdr:α'.hdr r=α.hdr r
 fo:α'.fo r=α.fo r
theorem Same.wh {σ σ':St} {α α':dK} {r:Nat} (h:Same σ α σ' α' r) (R:Root):dS α' R r=dS α R r:=by unfold dS; rw [h.loc]
theorem Same.blk {σ σ':St} {α α':dK} {r:Nat} (h:Same σ α σ' α' r) (R:Root):blk α' R r=blk α R r:=by unfold Ow.blk; rw [h.wh,h.fo]
theorem Same.live {σ σ':St} {α α':dK} {r:Nat} (h:Same σ α σ' α' r) (R:Root):aO σ' r R↔aO σ r R:=by unfold aO; rw [h.root]
def Stepped (σ:St) (α:dK) (σ':St) (α':dK) (lw lh:Nat→List Nat) (r:Nat) (R R':Root):Prop:=
 R'.w=lw r++R.w∧R'.h=lh r++R.h∧R.g≤R'.g∧R'.kind=R.kind∧α'.loc r=α.loc r∧(R.kind=.par→R'.k.size=R.k.size)∧((lw r≠[]∨lh r≠[])∨(lw r=[]∧lh r=[]∧Same σ α σ' α' r))
def Loose (cx:Cx) (σ':St) (lw:Nat→List Nat) (w:World) (r b:Nat):Prop:=
 (∀R',σ'.roots r=some R'→R'.bn=true)∨(∃e∈lw r,nH (hp w) b=some e)∨(jU cx b∧lw r≠[])
structure kK (cx:Cx) (σ:St) (α:dK) (F:List Nat) (w:World) (σ':St) (α':dK) (F':List Nat) (w':World) (lw lh:Nat→List Nat):Prop where
 slots:σ'.slots=σ.slots
 os:w'.os=w.os∧w'.tape=w.tape∧w'.output=w.output
 size:w.heap.size≤w'.heap.size
 old:∀r R,σ.roots r=some R→∃R',σ'.roots r=some R'∧((R'.bn=true∧R.kind≠.par)∨(R.bn=false∧Stepped σ α σ' α' lw lh r R R'))
 wr:∀r R',σ'.roots r=some R'→¬Same σ α σ' α' r→eP σ' R'.tags∧fG r=false∧(∀n,(r,n)∉R'.tags)
 Yz:∀r R',σ.roots r=none→σ'.roots r=some R'→R'.kind≠.par
 IB:∀b,b<w.heap.size→hp w' b≠hp w b→b∈F∨∃r R,aO σ r R∧b∈blk α R r∧Loose cx σ' lw w r b
 new:∀b,((∃r R',aO σ' r R'∧b∈blk α' R' r∧¬∃R,aO σ r R∧b∈blk α R r)∨b∈F')→b∈F∨(w.heap.size≤b∧b<w'.heap.size)∨∃r R,aO σ r R∧b∈blk α R r∧Loose cx σ' lw w r b
 uW:F'.Nodup
 iD:∀r R',aO σ' r R'→¬Same σ α σ' α' r→∀b∈blk α' R' r,b∉F'
 AA:∀r R r' R',aO σ' r R→aO σ' r' R'→r≠r'→¬Same σ α σ' α' r→¬Same σ α σ' α' r'→∀b∈blk α' R r,b∉blk α' R' r'
 base:∀j pi b o n,cx.par j=some pi→pi.base=some (b,o,n)→hp w' b≠hp w b→gB (hp cx.w0) (hp w') b o n
 ev:∀r R R',σ.roots r=some R→σ'.roots r=some R'→R'.bn=false→R'.ew=R.ew∧R'.eh=R.eh
section
variable {cx:Cx} {σ:St} {α:dK} {F:List Nat} {a:Act} {w:World} {σ':St} {α':dK} {F':List Nat} {w':World} {lw lh:Nat→List Nat}
theorem kK.tag (T:kK cx σ α F w σ' α' F' w' lw lh) {t:Tag} (h:yF σ t):yF σ' t:=by
 rcases h with h | ⟨R,h1,h2⟩
 ·exact .inl h
 ·obtain ⟨R',g1,g2⟩:=T.old _ R h1
  refine .inr ⟨R',g1, ?_⟩
  rcases g2 with ⟨g2,_⟩ | ⟨gd,g2,_⟩
  ·exact .inl g2
  ·rcases h2 with h2 | h2
   ·rw [gd] at h2; simp at h2
   ·right
    rw [g2]
    simp only [mG,agk] at h2 ⊢
    omega
theorem kK.oz (T:kK cx σ α F w σ' α' F' w' lw lh) {x:AV} (h:oz σ x):oz σ' x:=by
 have key:∀(q:Nat) (f:Root→Nat) (n:Nat),(∀R R',Stepped σ α σ' α' lw lh q R R'→f R≤f R')→(∃Q,σ.roots q=some Q∧(Q.bn=true∨n≤f Q))→∃Q,σ'.roots q=some Q∧(Q.bn=true∨n≤f Q):=by
  intro q f n hf ⟨Q,h1,h2⟩
  obtain ⟨R',g1,g2⟩:=T.old _ Q h1
  refine ⟨R',g1, ?_⟩
  rcases g2 with ⟨g2,_⟩ | ⟨gd,g2⟩
  ·exact .inl g2
  ·rcases h2 with h2 | h2
   ·rw [gd] at h2; simp at h2
   ·exact .inr (Nat.le_trans h2 (hf _ _ g2))
 cases x with
 | undef=>trivial
 | val k x Tg=>exact fun t ht=>T.tag (h t ht)
 | iE=>trivial
 | ref q g=>exact key q (·.g) g (fun R R' h=>h.2.2.1) h
 | Bv q g k p=>exact key q (·.g) g (fun R R' h=>h.2.2.1) h
 | o8 q p n=>exact key q Root.rW n (fun R R' h=>by simp only [Root.rW,h.1,h.2.1,mG,agk]; omega) h
 | ptr q p n=>exact key q (fun R=>gq R.h) n (fun R R' h=>by simp only [h.2.1,mG,agk]; omega) h
 | iK bt k x Tg=>exact fun t ht=>T.tag (h t ht)
 | oL=>trivial
 | ve _=>trivial
 | part q g _ _ _=>exact key q (·.g) g (fun R R' h=>h.2.2.1) h
 | tq q p n _=>exact key q Root.rW n (fun R R' h=>by simp only [Root.rW,h.1,h.2.1,mG,agk]; omega) h
 | app q p n q2=>
  refine ⟨key q Root.rW n (fun R R' h=>by simp only [Root.rW,h.1,h.2.1,mG,agk]; omega) h.1, ?_⟩
  obtain ⟨R,hR⟩:=h.2
  obtain ⟨R',g1,_⟩:=T.old _ R hR
  exact ⟨R',g1⟩
 | fn f cs=>exact fun c hc t ht=>T.tag (h c hc t ht)
theorem kK.sQ (T:kK cx σ α F w σ' α' F' w' lw lh) {x:sN} (h:sQ σ x):sQ σ' x:=by
 cases x with
 | one a=>exact T.oz h
 | C8 l=>exact fun a ha=>T.oz (h a ha)
 | lit _ _ l=>exact fun a ha=>T.oz (h a ha)
theorem kK.held (H:Rel cx σ α F a w) (T:kK cx σ α F w σ' α' F' w' lw lh) {Tg:List Tag} {tys:List TypeId} (hw:eP σ Tg) (hc:bq σ' tys Tg=true) {r n b:Nat} {R:Root} (hr:aO σ r R) (hn:(r,n)∈Tg) (hbr:b∈blk α R r)
  (hty:(∃t∈tys,ry (hp w) b t)∧¬jU cx b∨∀t∈Tg,fG t.1=true):clean R.w n tys=true∧¬Loose cx σ' lw w r b:=by
 have hnr:fG r=false:=(H.dn r R hr.1).2.1
 rw [lN] at hc
 rcases hc (r,n) hn with h | ⟨Q,h1,h2,h3⟩
 ·simp only at h; rw [hnr] at h; simp at h
 ·obtain ⟨R',g1,g2⟩:=T.old _ R hr.1
  simp only at h1 h3
  rw [g1] at h1
  simp only [agb] at h1
  subst h1
  rcases g2 with ⟨g2,_⟩ | ⟨gd,g2,_⟩
  ·rw [h2] at g2; simp at g2
  ·have hb:n≤gq R.w:=by
    rcases hw (r,n) hn with h | ⟨Q,q1,q2⟩
    ·simp only at h; rw [hnr] at h; simp at h
    ·simp only at q1 q2
     rw [hr.1] at q1
     simp only [agb] at q1
     subst q1
     rcases q2 with q2 | q2
     ·rw [hr.2] at q2; simp at q2
     ·exact q2
   rw [g2,mD hb] at h3
   refine ⟨h3.2, ?_⟩
   rintro (hx | ⟨e,he,hel⟩ | ⟨hx,_⟩)
   rotate_left 2
   ·rcases hty with ⟨_,hnb⟩ | hty
    ·exact hnb hx
    ·have:=hty (r,n) hn
     simp only at this
     rw [hnr] at this
     simp at this
   ·have:=hx R' g1
    rw [h2] at this
    simp at this
   ·rcases hty with ⟨⟨t,ht,Ox⟩,_⟩ | hty
    ·have Ox:=H.J9 ((H.roots r R hr).mine b hbr) Ox
     rw [hel] at Ox
     simp only [agb] at Ox
     subst Ox
     exact h3.1 e he ht
    ·have:=hty (r,n) hn
     simp only at this
     rw [hnr] at this
     simp at this
theorem kK.views (H:Rel cx σ α F a w) (T:kK cx σ α F w σ' α' F' w' lw lh):Views cx σ α F w σ' α' F' w':=by
 intro Tg tys hw hc
 refine ⟨?_, ?_⟩
 ·rw [lN]
  intro t ht
  have hc':=lN.1 hc t ht
  rcases hw t ht with h | ⟨R,h1,h2⟩
  ·exact .inl h
  ·cases hd:R.bn with
   | false=>
    refine .inr ⟨R,h1,hd, ?_⟩
    rcases hc' with hx | ⟨Q,q1,q2,q3⟩
    ·have:=(H.dn _ _ h1).2.1
     rw [hx] at this
     simp at this
    ·obtain ⟨R',g1,g2⟩:=T.old _ R h1
     rw [g1] at q1
     simp only [agb] at q1
     subst q1
     rcases g2 with ⟨g2,_⟩ | ⟨_,g2,_⟩
     ·rw [q2] at g2; simp at g2
     ·rcases h2 with h2 | h2
      ·rw [hd] at h2; simp at h2
      ·rw [g2,mD h2] at q3
       exact q3.2
   | true=>
    rcases hc' with hx | ⟨Q,q1,q2,q3⟩
    ·exact .inl hx
    ·obtain ⟨R',g1,g2⟩:=T.old _ R h1
     rw [g1] at q1
     simp only [agb] at q1
     subst q1
     rcases g2 with ⟨g2,_⟩ | ⟨g2,_⟩
     ·rw [q2] at g2; simp at g2
     ·rw [hd] at g2; simp at g2
 ·have hQ:∀b,Cz σ α F w Tg b→((∃t∈tys,ry (hp w) b t)∧¬jU cx b∨∀t∈Tg,fG t.1=true)→Cz σ' α' F' w' Tg b∧hp w' b=hp w b:=by
   intro b hb hty
   obtain ⟨hb1,hb2,hb3⟩:=hb
   have hno:¬∃r R,aO σ r R∧b∈blk α R r∧Loose cx σ' lw w r b:=by
    rintro ⟨r,R,hr,hbr,hl⟩
    obtain ⟨n,hn⟩:=hb3 r R hr hbr
    exact (T.held H hw hc hr hn hbr hty).2 hl
   have hsame:hp w' b=hp w b:=by
    refine agz fun hne=>?_
    rcases T.IB b hb1 hne with h | h
    ·exact hb2 h
    ·exact hno h
   have hnew:¬(b∈F∨(w.heap.size≤b∧b<w'.heap.size)∨∃r R,aO σ r R∧b∈blk α R r∧Loose cx σ' lw w r b):=by
    rintro (h | h | h)
    ·exact hb2 h
    ·omega
    ·exact hno h
   refine ⟨⟨Nat.lt_of_lt_of_le hb1 T.size,fun hF=>hnew (T.new b (.inr hF)), ?_⟩,hsame⟩
   intro q Q hq hbq
   by_cases e:∃R,aO σ q R∧b∈blk α R q
   ·obtain ⟨R,hR,hbR⟩:=e
    exact hb3 q R hR hbR
   ·exact absurd (T.new b (.inl ⟨q,Q,hq,hbq,e⟩)) hnew
  refine ⟨fun b hb hty=>?_,hQ⟩
  obtain ⟨hb1,hb2,hb5,hb3,hb4⟩:=hb
  obtain ⟨⟨g1,g2,g3⟩,g4⟩:=hQ b ⟨hb1,hb2,hb3⟩ (hty.imp (fun h=>⟨h,hb5⟩) id)
  exact ⟨⟨g1,g2,hb5,g3,hb4⟩,g4⟩
theorem kK.stay (H:Rel cx σ α F a w) (T:kK cx σ α F w σ' α' F' w' lw lh) {q:Nat} {Q:Root} (hq:aO σ q Q) (hs:Same σ α σ' α' q):∀b∈blk α Q q,¬(b∈F∨(w.heap.size≤b∧b<w'.heap.size)∨∃r R,aO σ r R∧b∈blk α R r∧Loose cx σ' lw w r b):=by
 rintro b hb (h | h | ⟨r,R,hr,hbr,hl⟩)
 ·exact H.iD q Q hq b hb h
 ·have:=((H.roots q Q hq).mine b hb).1; omega
 ·by_cases e:q=r
  ·subst e
   obtain ⟨R',g1,g2⟩:=T.old _ Q hq.1
   have hR':R'=Q:=by
    have:=hs.root
    rw [g1,hq.1] at this
    simpa using this
   subst hR'
   rcases g2 with ⟨g2,_⟩ | ⟨_,g2,_⟩
   ·rw [hq.2] at g2; simp at g2
   ·have hw0:lw q=[]:=by
     have:=congrArg List.length g2
     simp at this
     exact this
    rcases hl with hl | ⟨e,he,_⟩ | ⟨_,hl⟩
    ·have:=hl R' g1
     rw [hq.2] at this
     simp at this
    ·rw [hw0] at he; simp at he
    ·exact hl hw0
  ·exact H.AA q Q r R hq hr e b hb hbr
theorem kK.other (H:Rel cx σ α F a w) (T:kK cx σ α F w σ' α' F' w' lw lh) {q:Nat} {Q:Root} (hq:aO σ q Q) (hs:Same σ α σ' α' q):∀b∈blk α Q q,hp w' b=hp w b:=by
 intro b hb
 refine agz fun hne=>?_
 have:=T.stay H hq hs b hb
 rcases T.IB b ((H.roots q Q hq).mine b hb).1 hne with h | h
 ·exact this (.inl h)
 ·exact this (.inr (.inr h))
theorem kK.av (H:Rel cx σ α F a w) (T:kK cx σ α F w σ' α' F' w' lw lh)
  (y8:∀r R,aO σ r R→¬Same σ α σ' α' r→∀p n v,n≤gq R.h→bJ cx σ α F w (.ptr r p n) v→bJ cx σ' α' F' w' (.ptr r p n) v)
  (wG:∀r R,aO σ r R→¬Same σ α σ' α' r→∀g v,g≤R.g→bJ cx σ α F w (.ref r g) v→bJ cx σ' α' F' w' (.ref r g) v)
  {x:AV} {v:Value} (hx:Ow.oz σ x) (h:bJ cx σ α F w x v):bJ cx σ' α' F' w' x v:=by
 have hV:=T.views H
 have wF:∀{q:Nat} {Q:Root} {p:List Stp},σ.roots q=some Q→Same σ α σ' α' q→bu σ' Q→kJ p Q.k Q.x→(∀t∈aa p Q.k,au t Q.own=true)→
   bH (hp w') p Q.k (α'.hdr q) (dS α' Q q)=bH (hp w) p Q.k (α.hdr q) (dS α Q q):=by
  intro q Q p hq hs hv hin hty
  have hv':=qY hV (H.dn q Q hq).1 hv
  have hlive:aO σ q Q:=⟨hq,hv'.1⟩
  rw [hs.hdr,hs.wh]
  exact Cu p ((H.roots q Q hlive).ow hv') hin hty (fun b hb=>T.other H hlive hs b (agd _ hb))
 have hlive:∀{q:Nat} {Q R':Root},σ.roots q=some Q→σ'.roots q=some R'→R'.bn=false→aO σ q Q∧Stepped σ α σ' α' lw lh q Q R':=by
  intro q Q R' h1 h2 hd
  obtain ⟨R'',g1,g2⟩:=T.old _ Q h1
  rw [h2] at g1
  simp only [agb] at g1
  subst g1
  rcases g2 with ⟨g2,_⟩ | ⟨gd,g2⟩
  ·rw [hd] at g2; simp at g2
  ·exact ⟨⟨h1,gd⟩,g2⟩
 have OP:∀q g v,Ow.oz σ (.ref q g)→bJ cx σ α F w (.ref q g) v→bJ cx σ' α' F' w' (.ref q g) v:=by
  intro q g v hx h
  obtain ⟨Q,h1,h2⟩:=hx
  intro R' hR' hg
  obtain ⟨hl,hst⟩:=hlive h1 hR'.1 hR'.2
  by_cases e:Same σ α σ' α' q
  ·have hQ:R'=Q:=by
    have:=e.root
    rw [hR'.1,h1] at this
    simpa using this
   subst hQ
   have:=h R' hl hg
   rw [e.hdr]
   exact this
  ·rcases h2 with h2 | h2
   ·rw [hl.2] at h2; simp at h2
   ·exact wG q Q hl e g v h2 h R' hR' hg
 have Sy:∀{q:Nat} {Q R':Root} {n:Nat},σ.roots q=some Q→(Q.bn=true∨n≤Q.rW)→σ'.roots q=some R'→R'.bn=false→R'.rW=n→aO σ q Q∧Same σ α σ' α' q:=by
  intro q Q R' n h1 h2 hR' hd hn
  obtain ⟨hl,hst⟩:=hlive h1 hR' hd
  obtain ⟨s1,s2,_,_,_,_,s6⟩:=hst
  rcases s6 with s6 | ⟨_,_,e⟩
  ·exfalso
   rcases h2 with h2 | h2
   ·rw [hl.2] at h2; simp at h2
   ·simp only [Root.rW,s1,s2,mG,agk] at hn h2
    rcases s6 with g5 | g5 <;> (have:=List.length_pos_iff.2 g5; omega)
  ·exact ⟨hl,e⟩
 cases x with
 | undef=>trivial
 | val k x Tg=>
  intro hc
  rcases hc with hc | hc
  ·obtain ⟨cs,h1,h2⟩:=h (.inl hc)
   exact ⟨cs,h1,iG hc h2⟩
  ·obtain ⟨cs,h1,h2⟩:=h (.inr (hV Tg _ hx hc).1)
   exact ⟨cs,h1,hV.vw hx hc (fun _ h=>h) h2⟩
 | iE=>exact h
 | ref q g=>exact OP q g v hx h
 | Bv q g k p=>
  obtain ⟨u,b,off,k1,e1,hq,hc,e2,hr⟩:=h
  obtain ⟨h1,h2⟩:=(hV [] [] (fun _ h=>by simp at h) rfl).2.2 b hq (.inr (fun _ h=>by simp at h))
  exact ⟨u,b,off,k1,e1,h1,hc.congr h2,e2,OP q g u hx hr⟩
 | o8 q p n=>
  obtain ⟨Q,h1,h2⟩:=hx
  intro R' hR' hv hn d hd
  obtain ⟨hl,hst⟩:=hlive h1 hR' hv.1
  obtain ⟨s1,s2,_,_,_,_,s6⟩:=hst
  rcases s6 with s6 | ⟨_,_,e⟩
  ·exfalso
   rcases h2 with h2 | h2
   ·rw [hl.2] at h2; simp at h2
   ·simp only [Root.rW,s1,s2,mG,agk] at hn h2
    rcases s6 with g5 | g5 <;> (have:=List.length_pos_iff.2 g5; omega)
  ·have hQ:R'=Q:=by
    have:=e.root
    rw [hR',h1] at this
    simpa using this
   subst hQ
   have hv':=qY hV (H.dn q R' h1).1 hv
   obtain ⟨h1',h2',cs,wh,h3,h4⟩:=h R' h1 hv' hn d hd
   exact ⟨h1',h2',cs,wh,by rw [wF h1 e hv h1' h2']; exact h3,h4⟩
 | ptr q p n=>
  obtain ⟨Q,h1,h2⟩:=hx
  refine ⟨h.1, ?_⟩
  intro R' hR' hv hn hty hs
  obtain ⟨hl,hst⟩:=hlive h1 hR' hv.1
  by_cases e:Same σ α σ' α' q
  ·have hQ:R'=Q:=by
    have:=e.root
    rw [hR',h1] at this
    simpa using this
   subst hQ
   have hv':=qY hV (H.dn q R' h1).1 hv
   obtain ⟨h1',cs,b,o,h3,h4⟩:=h.2 R' h1 hv' hn hty hs
   exact ⟨h1',cs,b,o,by rw [wF h1 e hv h1' hty]; exact h3,h4⟩
  ·rcases h2 with h2 | h2
   ·rw [hl.2] at h2; simp at h2
   ·exact (y8 q Q hl e p n v h2 h).2 R' hR' hv hn hty hs
 | iK bt k x Tg=>exact hV.ro hx h
 | oL=>exact h
 | ve _=>exact h
 | part q g lo hi sz=>
  obtain ⟨b',b,n,c,e1,e2,e3,e4,e5,hr⟩:=h
  exact ⟨b',b,n,c,e1,e2,e3,e4,e5,OP q g (.slice b n c) hx hr⟩
 | tq q p n m=>
  obtain ⟨Q,h1,h2⟩:=hx
  obtain ⟨b,c,ev,h⟩:=h
  refine ⟨b,c,ev, ?_⟩
  intro R' hR' hv hn d hd
  obtain ⟨hl,e⟩:=Sy h1 h2 hR' hv.1 hn
  have hQ:R'=Q:=by
   have:=e.root
   rw [hR',h1] at this
   simpa using this
  subst hQ
  have hv':=qY hV (H.dn q R' h1).1 hv
  obtain ⟨h1',h2',n',wh,h3,h4⟩:=h R' h1 hv' hn d hd
  exact ⟨h1',h2',n',wh,by rw [wF h1 e hv h1' h2']; exact h3,h4⟩
 | app q p n q2=>
  obtain ⟨⟨Q,h1,h2⟩,⟨Q2,h12⟩⟩:=hx
  intro R' hR' hv hn R2 hR2 hn2
  obtain ⟨hl,e⟩:=Sy h1 h2 hR' hv.1 hn
  have hQ:R'=Q:=by
   have:=e.root
   rw [hR',h1] at this
   simpa using this
  subst hQ
  obtain ⟨hl2,adg⟩:=hlive h12 hR2.1 hR2.2
  have e2:Same σ α σ' α' q2:=by
   obtain ⟨s1,s2,_,_,_,_,s6⟩:=adg
   rcases s6 with s6 | ⟨_,_,e⟩
   ·exfalso
    simp only [Root.rW,s1,s2,mG,agk] at hn2
    rcases s6 with g5 | g5 <;> (have:=List.length_pos_iff.2 g5; omega)
   ·exact e
  have Un:R2=Q2:=by
   have:=e2.root
   rw [hR2.1,h12] at this
   simpa using this
  subst Un
  have hv':=qY hV (H.dn q R' h1).1 hv
  obtain ⟨te,kk,xs,wh,b,m,c,ce,hq,b1,o1,c1,arr,lo,hi,a1,a2,a3,a4,a5,a6,a7,a8,a9,a10,a11,a12,a13,T9⟩:=h R' h1 hv' hn R2 hl2 hn2
  have hsR:∀b∈α.fo q,hp w' b=hp w b:=fun b hb=>T.other H hl e b (agd _ hb)
  have hsQ:∀b∈α.fo q2,hp w' b=hp w b:=fun b hb=>T.other H hl2 e2 b (agd _ hb)
  have hb1:hp w' b1=hp w b1:=by
   rcases T9 with ⟨_,h,_⟩ | ⟨_,h,_⟩
   ·exact hsR b1 h
   ·exact hsQ b1 h
  refine ⟨te,kk,xs,wh,b,m,c,ce,hq,b1,o1,c1,arr,lo,hi,a1,a2,a3,by rw [wF h1 e hv a2 a3]; exact a4,a5,by rw [e2.hdr]; exact a6,a7,a8,a9,hb1.trans a10,a11,a12,a13.congr hb1, ?_⟩
  rcases T9 with ⟨z1,z2,z3⟩ | ⟨z1,z2,z3⟩
  ·exact .inl ⟨z1,by rw [e.fo]; exact z2,z3⟩
  ·refine .inr ⟨z1,by rw [e2.fo]; exact z2,fun hm=>?_⟩
   obtain ⟨b0,o0,y1,y2,y3⟩:=z3 hm
   exact ⟨b0,o0,y1,by rw [e.fo]; exact y2,fun i hi'=>by rw [qN hb1,qN (hsR b0 y2)]; exact y3 i hi'⟩
 | fn f cs=>
  obtain ⟨vs,h1,h2⟩:=h
  exact ⟨vs,h1,hV.caps hx h2⟩
theorem xk {cx:Cx} {σ σ':St} {α α':dK} {F F':List Nat} {w w':World} {P:AV→Prop} (h:∀x v,P x→bJ cx σ α F w x v→bJ cx σ' α' F' w' x v) :
  ∀{l:List AV} {vs:List Value},(∀x∈l,P x)→dQ cx σ α F w l vs→dQ cx σ' α' F' w' l vs
 | [],[],_,_=>trivial
 | x :: l,v :: vs,hp,hl=>⟨h x v (hp x (by simp)) hl.1,xk h (fun y hy=>hp y (by simp [hy])) hl.2⟩
 | [],_ :: _,_,hl=>hl.elim
 | _ :: _,[],_,hl=>hl.elim
theorem Lf {cx:Cx} {σ σ':St} {α α':dK} {F F':List Nat} {w w':World} (h:∀x v,oz σ x→bJ cx σ α F w x v→bJ cx σ' α' F' w' x v) {x:sN} {v:Value} (hx:sQ σ x) (hv:iM cx σ α F w x v):iM cx σ' α' F' w' x v:=by
 cases x with
 | one a=>exact h a v hx hv
 | C8 l=>
  obtain ⟨vs,h1,h2⟩:=hv
  exact ⟨vs,h1,xk h hx h2⟩
 | lit _ _ l=>
  obtain ⟨vs,cs,h1,h2⟩:=hv
  exact ⟨vs,cs,h1,xk h hx h2⟩
theorem Rel.turn (H:Rel cx σ α F a w) (T:kK cx σ α F w σ' α' F' w' lw lh)
  (hroot:∀r R,aO σ' r R→¬Same σ α σ' α' r→(bu σ' R→Ow (hp w') R.own (gW cx σ' α' F' w' R.tags) R.k R.x (α'.hdr r) (α'.fo r))∧(α'.hdr r).length=R.k.size∧
   (∀b o,dS α' R r=some (b,o)→Cells (hp w') b o (α'.hdr r)∧∃arr e lo hi,hp w' b=some (.cells arr e (lo,hi))∧yJ arr.size lo hi∧o+R.k.size≤arr.size∧(∀t,R.kind=.var t→e=t))∧
   (blk α' R r).Nodup)
  (y8:∀r R,aO σ r R→¬Same σ α σ' α' r→∀p n v,n≤gq R.h→bJ cx σ α F w (.ptr r p n) v→bJ cx σ' α' F' w' (.ptr r p n) v)
  (wG:∀r R,aO σ r R→¬Same σ α σ' α' r→∀g v,g≤R.g→bJ cx σ α F w (.ref r g) v→bJ cx σ' α' F' w' (.ref r g) v) :
  Rel cx σ' α' F' a w':=by
 have hV:=T.views H
 have OH:∀{r R b},aO σ r R→b∈blk α R r→mine cx w' b:=fun hr hb=>by
  have:=(H.roots _ _ hr).mine _ hb
  exact ⟨Nat.lt_of_lt_of_le this.1 T.size,this.2⟩
 have jc:∀b,(b∈F∨(w.heap.size≤b∧b<w'.heap.size)∨∃r R,aO σ r R∧b∈blk α R r∧Loose cx σ' lw w r b)→mine cx w' b:=by
  rintro b (hb | hb | ⟨r,R,hr,hb,_⟩)
  ·have:=H.fl b hb
   exact ⟨Nat.lt_of_lt_of_le this.1 T.size,this.2⟩
  ·exact ⟨hb.2, .inl (Nat.le_trans H.frame.2.2.2.1 hb.1)⟩
  ·exact OH hr hb
 have OG:∀{r R b},aO σ' r R→b∈blk α' R r→mine cx w' b:=by
  intro r R b hr hb
  by_cases e:∃Q,aO σ r Q∧b∈blk α Q r
  ·obtain ⟨Q,hQ,hbQ⟩:=e
   exact OH hQ hbQ
  ·exact jc b (T.new b (.inl ⟨r,R,hr,hb,e⟩))
 have G8:∀{q Q r R b},aO σ' q Q→Same σ α σ' α' q→aO σ' r R→r≠q→b∈blk α' Q q→b∉blk α' R r:=by
  intro q Q r R b hq hs hr hne hb hb'
  have hq':=(hs.live Q).1 hq
  rw [hs.blk] at hb
  by_cases e:∃R0,aO σ r R0∧b∈blk α R0 r
  ·obtain ⟨R0,h1,h2⟩:=e
   exact H.AA q Q r R0 hq' h1 (Ne.symm hne) b hb h2
  ·exact T.stay H hq' hs b hb (T.new b (.inl ⟨r,R,hr,hb',e⟩))
 constructor
 ·exact H.defs
 ·exact H.sz
 ·intro j pi b o n hj hb
  obtain ⟨R,h1,h2,h3,h4⟩:=H.jV j pi b o n hj hb
  obtain ⟨R',g1,g2⟩:=T.old _ R h1.1
  rcases g2 with g2 | ⟨_,g2⟩
  ·exact absurd h2 g2.2
  ·refine ⟨R',⟨g1, ?_⟩,g2.2.2.2.1.trans h2,g2.2.2.2.2.1.trans h3,(g2.2.2.2.2.2.1 h2).trans h4⟩
   unfold Root.bn
   rw [g2.2.2.2.1,h2]
 ·intro q Q hq hk
  cases hs:σ.roots q with
  | none=>exact absurd hk (T.Yz q Q hs hq.1)
  | some R=>
   obtain ⟨R',g1,g2⟩:=T.old q R hs
   rw [hq.1] at g1
   simp only [agb] at g1
   subst g1
   rcases g2 with ⟨g2,_⟩ | ⟨gd,g2⟩
   ·rw [hq.2] at g2; simp at g2
   ·rw [g2.2.2.2.2.1]
    exact H.yz q R ⟨hs,gd⟩ (g2.2.2.2.1▸hk)
 ·intro s
  rw [T.slots]
  exact Lf (fun x v hx h=>T.av H y8 wG hx h) (H.oO s) (H.slots s)
 ·intro s
  rw [T.slots]
  exact T.sQ (H.oO s)
 ·intro q Q hq
  by_cases e:Same σ α σ' α' q
  ·have hq':=(e.live Q).1 hq
   have K:=H.roots q Q hq'
   have hsame:=T.other H hq' e
   constructor
   ·intro hv
    have hv':=qY hV (H.dn q Q hq'.1).1 hv
    rw [e.hdr,e.fo]
    have hO:=K.ow hv'
    obtain ⟨_,g2,_⟩:=hV Q.tags Q.wH (H.dn q Q hq'.1).1 hv.2
    exact bz (fun b hb=>(g2 b hb.1 (.inl hb.2)).2) (fun b hb=>(g2 b hb.1 (.inl hb.2)).1) (fun b hb=>hsame b (agd _ hb)) (oZ Q.wH (fun _ h=>h) hO)
   ·rw [e.hdr]; exact K.len
   ·intro b o hb
    rw [e.wh] at hb
    rw [e.hdr]
    obtain ⟨h1,arr,te,lo,hi,h2,h3⟩:=K.mem b o hb
    have hbb:hp w' b=hp w b:=hsame b (by unfold blk; rw [hb]; simp)
    exact ⟨h1.congr hbb,arr,te,lo,hi,hbb.trans h2,h3⟩
   ·rw [e.blk]; exact K.nd
   ·exact fun b hb=>OG hq hb
  ·obtain ⟨h1,h2,h3,h4⟩:=hroot q Q hq e
   exact ⟨h1,h2,h3,h4,fun b hb=>OG hq hb⟩
 ·intro q Q hq
  by_cases e:Same σ α σ' α' q
  ·obtain ⟨h1,h2,h3⟩:=H.dn q Q (by rw [←e.root]; exact hq)
   exact ⟨fun t ht=>T.tag (h1 t ht),h2,h3⟩
  ·exact T.wr q Q hq e
 ·intro q Q q' Q' hq hq' hne b hb hb'
  by_cases e:Same σ α σ' α' q
  ·exact G8 hq e hq' (Ne.symm hne) hb hb'
  ·by_cases e':Same σ α σ' α' q'
   ·exact G8 hq' e' hq hne hb' hb
   ·exact T.AA q Q q' Q' hq hq' hne e e' b hb hb'
 ·exact fun b hb=>jc b (T.new b (.inr hb))
 ·exact T.uW
 ·intro q Q hq b hb hF
  by_cases e:Same σ α σ' α' q
  ·rw [e.blk] at hb
   exact T.stay H ((e.live Q).1 hq) e b hb (T.new b (.inr hF))
  ·exact T.iD q Q hq e b hb hF
 ·obtain ⟨f1,f2,f3,f4,f5,f6⟩:=H.frame
  refine ⟨T.os.1.trans f1,T.os.2.1.trans f2,T.os.2.2.trans f3,Nat.le_trans f4 T.size, ?_, ?_⟩
  ·intro b hb hno
   have:hp w' b=hp w b:=by
    refine agz fun hne=>?_
    have hm:mine cx w b:=by
     rcases T.IB b (Nat.lt_of_lt_of_le hb f4) hne with h | ⟨r,R,hr,h,_⟩
     ·exact H.fl b h
     ·exact (H.roots r R hr).mine b h
    rcases hm.2 with h | ⟨j,pi,h1,h2⟩
    ·omega
    ·exact hno j pi h1 h2
   exact this.trans (f5 b hb hno)
  ·intro j pi b o n hj hb
   by_cases hne:hp w' b=hp w b
   ·have:=f6 j pi b o n hj hb
    obtain ⟨arr,jH,e,fr,h1,h2,h3⟩:=this
    exact ⟨arr,jH,e,fr,h1,hne.trans h2,h3⟩
   ·exact T.base j pi b o n hj hb hne
 ·intro j pi hj hk
  obtain ⟨R,h1,h2⟩:=H.ql j pi hj hk
  obtain ⟨R',g1,g2⟩:=T.old _ R h1
  refine ⟨R',g1,fun hd b hb hnb=>?_⟩
  rcases g2 with ⟨g2,_⟩ | ⟨gd,g2,_⟩
  ·rw [hd] at g2; simp at g2
  ·have hev:=(T.ev _ R R' h1 g1 hd).1
   rcases h2 gd b hb hnb with ⟨e,he,sW⟩ | ⟨hs,hF,hown⟩
   ·refine .inl ⟨e,he, ?_⟩
    rw [g2,hev]
    rcases sW with h | h
    ·exact .inl (agd _ h)
    ·exact .inr h
   ·by_cases sW:∃e∈lw (ak j),nH (hp w) b=some e
    ·obtain ⟨e,he,hel⟩:=sW
     exact .inl ⟨e,(BF hs).symm.trans hel, .inl (by rw [g2]; exact agh _ he)⟩
    ·have hno:¬∃r Q,aO σ r Q∧b∈blk α Q r∧Loose cx σ' lw w r b:=by
      rintro ⟨r,Q,hr,hbr,hl⟩
      have e:=hown r Q hr hbr
      subst e
      rcases hl with hl | hl | ⟨hl,_⟩
      ·have:=hl R' g1
       rw [hd] at this
       simp at this
      ·exact sW hl
      ·exact hnb hl
     by_cases hlt:b<w.heap.size
     ·refine .inr ⟨?_, ?_, ?_⟩
      ·refine Eq.trans ?_ hs
       refine agz fun hne=>?_
       rcases T.IB b hlt hne with h | h
       ·exact hF h
       ·exact hno h
      ·intro hF'
       rcases T.new b (.inr hF') with h | h | h
       ·exact hF h
       ·omega
       ·exact hno h
      ·intro q Q hq hbq
       by_cases e:∃R,aO σ q R∧b∈blk α R q
       ·obtain ⟨R0,hR0,hbR⟩:=e
        exact hown q R0 hR0 hbR
       ·rcases T.new b (.inl ⟨q,Q,hq,hbq,e⟩) with h | h | h
        ·exact absurd h hF
        ·omega
        ·exact absurd h hno
     ·exact absurd (H.lW.1 j pi hj b hb) (by have:=H.frame.2.2.2.1; omega)
 ·exact H.lW
 ·intro j p ts v hv
  obtain ⟨hvp,R,h1,h2⟩:=H.rE j p ts v hv
  obtain ⟨R',g1,g2⟩:=T.old _ R h1
  refine ⟨hvp,R',g1,fun ht=>?_⟩
  cases hd:R'.bn with
  | true=>
   rcases g2 with ⟨_,g2⟩ | ⟨gd,g2⟩
   ·refine ⟨hvp,fun Q hQ hv'=>?_⟩
    rw [g1] at hQ
    simp only [agb] at hQ
    subst hQ
    have:=hv'.1
    rw [hd] at this
    simp at this
   ·have:R'.bn=R.bn:=by unfold Root.bn; rw [g2.2.2.2.1]
    rw [hd,gd] at this
    simp at this
  | false=>
   have hev:=(T.ev _ R R' h1 g1 hd).2
   exact T.av H y8 wG (show Ow.oz σ (.ptr (ak j) p 0) from ⟨R,h1, .inr (agM _)⟩) (h2 (by rw [←hev]; exact ht))
 ·intro j v hv
  obtain ⟨⟨R,h1⟩,h2⟩:=H.rF j v hv
  obtain ⟨R',g1,_⟩:=T.old _ R h1
  exact ⟨⟨R',g1⟩,T.av H y8 wG (show Ow.oz σ (.ref (ak j) 0) from ⟨R,h1, .inr (agM _)⟩) h2⟩
end
def aj (σ:St) (r:Nat) (R:Root):St:={ σ with roots:=upd σ.roots r (some R) }
def aG (α:dK) (r:Nat) (loc:Nat×Nat) (hdr:List Value) (fo:List Nat):dK:=⟨upd α.loc r loc,upd α.hdr r hdr,upd α.fo r fo⟩
theorem aH (σ:St) (r:Nat) (R:Root):(aj σ r R).roots r=some R:=upd_same _ _ _
theorem bW (σ:St) {r q:Nat} (R:Root) (h:q≠r):(aj σ r R).roots q=σ.roots q:=upd_ne _ _ h
theorem Co {σ:St} {r q:Nat} {R Q:Root} (h:q≠r):aO (aj σ r R) q Q↔aO σ q Q:=by unfold aO; rw [bW σ R h]
theorem eH {σ:St} {r:Nat} {R Q:Root} (h:aO (aj σ r R) r Q):Q=R∧R.bn=false:=by
 have h1:=h.1
 rw [aH] at h1
 simp only [agb] at h1
 subst h1
 exact ⟨rfl,h.2⟩
theorem gK {σ:St} {α:dK} {r q:Nat} {R:Root} {loc:Nat×Nat} {hdr:List Value} {fo:List Nat} (h:q≠r):Same σ α (aj σ r R) (aG α r loc hdr fo) q:=
 ⟨bW σ R h,upd_ne _ _ h,upd_ne _ _ h,upd_ne _ _ h⟩
theorem jP (σ:St) (α:dK) (q:Nat):Same σ α σ α q:=⟨rfl,rfl,rfl,rfl⟩
def gT (R:Root) (loc:Nat×Nat) (fo:List Nat):List Nat:=(match R.kind with
 | .var _=>[loc.1]
 | .par=>[loc.1]
 | _=>[])++fo
theorem eD {α:dK} {r:Nat} {loc:Nat×Nat} {hdr:List Value} {fo:List Nat} {Q:Root}:blk (aG α r loc hdr fo) Q r=gT Q loc fo:=by
 unfold blk gT dS aG
 simp only [upd_same] <;> cases Q.kind <;> rfl
theorem bX (α:dK) (R:Root) (r:Nat):blk α R r=gT R (α.loc r) (α.fo r):=by
 unfold blk gT dS
 cases R.kind <;> rfl
def rZ (R:Root) (loc:Nat×Nat):Option (Nat×Nat):=match R.kind with
 | .var _=>some loc
 | .par=>some loc
 | _=>none
theorem jg {α:dK} {r:Nat} {loc:Nat×Nat} {hdr:List Value} {fo:List Nat} {Q:Root}:dS (aG α r loc hdr fo) Q r=rZ Q loc:=by
 unfold dS rZ aG
 simp only [upd_same] <;> cases Q.kind <;> rfl
theorem qw (α:dK) (R:Root) (r:Nat):dS α R r=rZ R (α.loc r):=rfl
end
section
open Go
variable [Fr]
def iV (σ:St) (s:Nat→sN):St:=⟨s,σ.roots⟩
theorem oC (σ:St) (s:Nat→sN) (tys:List TypeId):∀(T:List Tag),bq (iV σ s) tys T=bq σ tys T
 | []=>rfl
 | (r,n) :: T=>by simp only [bq,oC σ s tys T]; rfl
section
variable {cx:Cx} {σ:St} {α:dK} {F:List Nat} {a:Act} {w:World}
theorem Ed (s:Nat→sN):gW cx (iV σ s) α F w=gW cx σ α F w:=rfl
theorem CQ (s:Nat→sN) {bt:TypeId} {k:K} {x:El k} {T:List Tag} {v:Value}:CP cx (iV σ s) α F w bt k x T v↔CP cx σ α F w bt k x T v:=by
 unfold CP
 rw [oC,Ed]
 exact Iff.rfl
theorem xR (s:Nat→sN):∀{cs:List (TypeId×Dat×List Tag)} {vs:List Value},jC cx (iV σ s) α F w cs vs↔jC cx σ α F w cs vs
 | [],[]=>Iff.rfl
 | c :: cs,v :: vs=>by simp only [jC,CQ s,xR s]
 | [],_ :: _=>Iff.rfl
 | _ :: _,[]=>Iff.rfl
theorem mJ (s:Nat→sN) {R:Root}:bu (iV σ s) R↔bu σ R:=by unfold bu; rw [oC]
theorem um (s:Nat→sN) {x:AV} {v:Value}:bJ cx (iV σ s) α F w x v↔bJ cx σ α F w x v:=by
 cases x with
 | undef=>exact Iff.rfl
 | val k x T=>simp only [bJ,oC,Ed]
 | iE=>exact Iff.rfl
 | ref r g=>exact Iff.rfl
 | Bv r g k p=>exact Iff.rfl
 | o8 r p n=>simp only [bJ,mJ]; exact Iff.rfl
 | ptr r p n=>simp only [bJ,mJ]; exact Iff.rfl
 | iK bt k x T=>exact CQ s
 | oL=>exact Iff.rfl
 | ve _=>exact Iff.rfl
 | part _ _ _ _ _=>exact Iff.rfl
 | tq _ _ _ _=>simp only [bJ,mJ]; exact Iff.rfl
 | app _ _ _ _=>simp only [bJ,mJ]; exact Iff.rfl
 | fn f cs=>simp only [bJ,xR s]
theorem uQ (s:Nat→sN):∀{l:List AV} {vs:List Value},dQ cx (iV σ s) α F w l vs↔dQ cx σ α F w l vs
 | [],[]=>Iff.rfl
 | c :: cs,v :: vs=>by simp only [dQ,um s,uQ s]
 | [],_ :: _=>Iff.rfl
 | _ :: _,[]=>Iff.rfl
theorem zA (s:Nat→sN) {x:sN} {v:Value}:iM cx (iV σ s) α F w x v↔iM cx σ α F w x v:=by
 cases x with
 | one a=>exact um s
 | C8 l=>simp only [iM,uQ s]
 | lit _ _ l=>simp only [iM,uQ s]
theorem Be (s:Nat→sN) {x:sN}:sQ (iV σ s) x↔sQ σ x:=by cases x <;> exact Iff.rfl
theorem Rel.put (H:Rel cx σ α F a w) {d:Nat} {x:sN} {v:Value} (hd:d<cx.nt) (hw:sQ σ x) (hx:iM cx σ α F w x v) :
  Rel cx (iV σ (upd σ.slots d x)) α F (a.put (some d) v) w where
 defs:=H.defs
 sz:=by simpa [Act.put] using H.sz
 jV:=H.jV
 yz:=H.yz
 slots:=by
  intro s
  rw [zA]
  show iM cx σ α F w (upd σ.slots d x s) _
  by_cases e:s=d
  ·subst e
   rw [upd_same]
   have:(a.put (some s) v).tmps.getD s undef=v:=by
    have:=H.sz
    simp [Act.put,Array.getElem?_setIfInBounds_self_of_lt (show s<a.tmps.size by omega)]
   rw [this]
   exact hx
  ·rw [upd_ne _ _ e]
   have:(a.put (some d) v).tmps.getD s undef=a.tmps.getD s undef:=by
    simp [Act.put,Array.getElem?_setIfInBounds_ne (Ne.symm e)]
   rw [this]
   exact H.slots s
 oO:=by
  intro s
  rw [Be]
  show sQ σ (upd σ.slots d x s)
  by_cases e:s=d
  ·subst e; rw [upd_same]; exact hw
  ·rw [upd_ne _ _ e]; exact H.oO s
 roots:=by
  intro r R hr
  have K:=H.roots r R hr
  exact ⟨fun hv=>K.ow ((mJ _).1 hv),K.len,K.mem,K.nd,K.mine⟩
 dn:=H.dn
 AA:=H.AA
 fl:=H.fl
 uW:=H.uW
 iD:=H.iD
 frame:=H.frame
 ql:=H.ql
 lW:=H.lW
 rE:=fun j p ts v h=>let ⟨h0,R,h1,h2⟩:=H.rE j p ts v h; ⟨h0,R,h1,fun ht=>(um _).2 (h2 ht)⟩
 rF:=H.rF
def dw (w:World) (n:Nat):World:={ w with drawn:=n }
theorem DR (n:Nat):∀{cs:List (TypeId×Dat×List Tag)} {vs:List Value},jC cx σ α F w cs vs→jC cx σ α F (dw w n) cs vs
 | [],[],_=>trivial
 | _ :: _,_ :: _,h=>⟨h.1,DR n h.2⟩
 | [],_ :: _,h=>h.elim
 | _ :: _,[],h=>h.elim
theorem Ar (n:Nat) {x:AV} {v:Value} (h:bJ cx σ α F w x v):bJ cx σ α F (dw w n) x v:=by
 cases x with
 | fn f cs=>obtain ⟨vs,h1,h2⟩:=h; exact ⟨vs,h1,DR n h2⟩
 | undef=>exact h
 | val k x T=>exact h
 | iE=>exact h
 | ref r g=>exact h
 | Bv r g k p=>exact h
 | o8 r p n=>exact h
 | ptr r p n=>exact h
 | iK bt k x T=>exact h
 | oL=>exact h
 | ve _=>exact h
 | part _ _ _ _ _=>exact h
 | tq _ _ _ _=>exact h
 | app _ _ _ _=>exact h
theorem Rel.drawn (H:Rel cx σ α F a w) (n:Nat):Rel cx σ α F a (dw w n) where
 defs:=H.defs
 sz:=H.sz
 jV:=H.jV
 yz:=H.yz
 slots:=fun s=>by
  have h:=H.slots s
  generalize σ.slots s=x at h
  cases x with
  | one a=>exact Ar n h
  | C8 l=>
   obtain ⟨vs,h1,h2⟩:=h
   refine ⟨vs,h1, ?_⟩
   clear h1
   induction l generalizing vs with
   | nil=>cases vs with
    | nil=>trivial
    | cons v vs=>exact h2.elim
   | cons b l ih=>cases vs with
    | nil=>exact h2.elim
    | cons v vs=>exact ⟨Ar n h2.1,ih vs h2.2⟩
  | lit _ _ l=>
   obtain ⟨vs,cs,h1,h2⟩:=h
   refine ⟨vs,cs,h1, ?_⟩
   clear h1
   induction l generalizing vs with
   | nil=>cases vs with
    | nil=>trivial
    | cons v vs=>exact h2.elim
   | cons b l ih=>cases vs with
    | nil=>exact h2.elim
    | cons v vs=>exact ⟨Ar n h2.1,ih vs h2.2⟩
 oO:=H.oO
 roots:=fun r R hr=>let K:=H.roots r R hr; ⟨K.ow,K.len,K.mem,K.nd,K.mine⟩
 dn:=H.dn
 AA:=H.AA
 fl:=H.fl
 uW:=H.uW
 iD:=H.iD
 frame:=H.frame
 ql:=H.ql
 lW:=H.lW
 rE:=fun j p ts v h=>let ⟨h0,R,h1,h2⟩:=H.rE j p ts v h; ⟨h0,R,h1,fun ht=>Ar n (h2 ht)⟩
 rF:=H.rF
def pF (r:Nat) (l:List Nat):Nat→List Nat:=fun q=>if q=r then l else []
theorem qX (r:Nat) (l:List Nat):pF r l r=l:=if_pos rfl
theorem nA {r q:Nat} (l:List Nat) (h:q≠r):pF r l q=[]:=if_neg h
variable {r:Nat} {R R':Root} {hdr':List Value} {dG F':List Nat} {w':World} {lw lh:List Nat}
def IM (cx:Cx) (R':Root) (lw:List Nat) (w:World) (b:Nat):Prop:=R'.bn=true∨(∃e∈lw,nH (hp w) b=some e)∨(jU cx b∧lw≠[])
structure vo (cx:Cx) (σ:St) (α:dK) (F:List Nat) (w:World) (r:Nat) (R R':Root) (dG F':List Nat) (w':World) (lw lh:List Nat):Prop where
 step:(R'.bn=true∧R.kind≠.par)∨(R'.w=lw++R.w∧R'.h=lh++R.h∧R.g≤R'.g∧R'.kind=R.kind∧(R.kind=.par→R'.k.size=R.k.size)∧(lw≠[]∨lh≠[]))
 tags:eP σ R'.tags∧∀n,(r,n)∉R'.tags
 os:w'.os=w.os∧w'.tape=w.tape∧w'.output=w.output
 size:w.heap.size≤w'.heap.size
 IB:∀b,b<w.heap.size→hp w' b≠hp w b→b∈F∨(b∈blk α R r∧IM cx R' lw w b)
 new:R'.bn=false→∀b∈gT R' (α.loc r) dG,b∈blk α R r∨b∈F∨(w.heap.size≤b∧b<w'.heap.size)
 newF:∀b∈F',b∈F∨(w.heap.size≤b∧b<w'.heap.size)∨(b∈blk α R r∧IM cx R' lw w b)
 uW:F'.Nodup
 iD:R'.bn=false→∀b∈gT R' (α.loc r) dG,b∉F'
 base:∀j pi b o n,cx.par j=some pi→pi.base=some (b,o,n)→r=ak j→hp w' b≠hp w b→gB (hp cx.w0) (hp w') b o n
 ev:R'.bn=false→R'.ew=R.ew∧R'.eh=R.eh
theorem iR {q:Nat} {Q:Root} (h:aO (aj σ r R') q Q):(q=r∧Q=R'∧R'.bn=false)∨(q≠r∧aO σ q Q):=by
 by_cases e:q=r
 ·subst e
  obtain ⟨h1,h2⟩:=eH h
  exact .inl ⟨rfl,h1,h2⟩
 ·exact .inr ⟨e,(Co e).1 h⟩
theorem vo.turn (H:Rel cx σ α F a w) (hr:aO σ r R) (T:vo cx σ α F w r R R' dG F' w' lw lh) :
  kK cx σ α F w (aj σ r R') (aG α r (α.loc r) hdr' dG) F' w' (pF r lw) (pF r lh):=by
 have hsame:∀q,q≠r→Same σ α (aj σ r R') (aG α r (α.loc r) hdr' dG) q:=fun q h=>gK h
 have OE:∀b,IM cx R' lw w b→Loose cx (aj σ r R') (pF r lw) w r b:=by
  rintro b (h | ⟨e,he,hb⟩ | ⟨h,hl⟩)
  ·refine .inl fun Q hQ=>?_
   rw [aH] at hQ
   simp only [agb] at hQ
   subst hQ
   exact h
  ·exact .inr (.inl ⟨e,by rw [qX]; exact he,hb⟩)
  ·exact .inr (.inr ⟨h,by rw [qX]; exact hl⟩)
 have hns:∀{q:Nat},¬Same σ α (aj σ r R') (aG α r (α.loc r) hdr' dG) q→q=r:=fun {q} h=>agz fun e=>h (hsame q e)
 refine ⟨rfl,T.os,T.size, ?_, ?_, ?_, ?_, ?_,T.uW, ?_, ?_, ?_, ?_⟩
 ·intro q Q hQ
  by_cases e:q=r
  ·subst e
   rw [hr.1] at hQ
   simp only [agb] at hQ
   subst hQ
   refine ⟨R',aH .., ?_⟩
   rcases T.step with h | ⟨h1,h2,h3,h4,h5,h6⟩
   ·exact .inl h
   ·exact .inr ⟨hr.2,by rw [qX]; exact h1,by rw [qX]; exact h2,h3,h4,by simp [aG,upd_same],h5,by rw [qX,qX]; exact .inl h6⟩
  ·refine ⟨Q,by rw [bW σ R' e]; exact hQ, ?_⟩
   cases hd:Q.bn with
   | true=>
    refine .inl ⟨rfl, ?_⟩
    intro hk
    simp [Root.bn,hk] at hd
   | false=>exact .inr ⟨rfl,by rw [nA lw e]; rfl,by rw [nA lh e]; rfl,agt _,rfl,by simp [aG,upd_ne _ _ e],fun _=>rfl, .inr ⟨nA lw e,nA lh e,hsame q e⟩⟩
 ·intro q Q hQ hs
  have e:=hns hs
  subst e
  rw [aH] at hQ
  simp only [agb] at hQ
  subst hQ
  refine ⟨fun t ht=>?_,(H.dn q R hr.1).2.1,T.tags.2⟩
  have hne:t.1≠q:=fun e=>T.tags.2 t.2 (by rw [←e]; exact ht)
  rcases T.tags.1 t ht with h | ⟨Q,h1,h2⟩
  ·exact .inl h
  ·exact .inr ⟨Q,by rw [bW σ R' hne]; exact h1,h2⟩
 ·intro q Q hn hQ
  have e:q≠r:=fun e=>by rw [e,hr.1] at hn; simp at hn
  rw [bW σ R' e,hn] at hQ
  simp at hQ
 ·intro b hb hne
  exact (T.IB b hb hne).imp id (fun h=>⟨r,R,hr,h.1,OE b h.2⟩)
 ·rintro b (⟨q,Q,hq,hb,hno⟩ | hb)
  ·rcases iR hq with ⟨rfl,rfl,hd⟩ | ⟨e,hq'⟩
   ·rw [eD] at hb
    rcases T.new hd b hb with h | h | h
    ·exact absurd ⟨R,hr,h⟩ hno
    ·exact .inl h
    ·exact .inr (.inl h)
   ·rw [(hsame q e).blk] at hb
    exact absurd ⟨Q,hq',hb⟩ hno
  ·rcases T.newF b hb with h | h | h
   ·exact .inl h
   ·exact .inr (.inl h)
   ·exact .inr (.inr ⟨r,R,hr,h.1,OE b h.2⟩)
 ·intro q Q hq hs b hb
  have e:=hns hs
  subst e
  obtain ⟨rfl,hd⟩:=eH hq
  rw [eD] at hb
  exact T.iD hd b hb
 ·intro q Q q' Q' hq hq' hne hs hs'
  exact absurd ((hns hs).trans (hns hs').symm) hne
 ·intro j pi b o n hj hb hne
  obtain ⟨Q,hQ,hk,hl,hs⟩:=H.jV j pi b o n hj hb
  have hbq:b∈blk α Q (ak j):=by simp [blk,dS,hk,hl]
  have hm:=(H.roots _ _ hQ).mine b hbq
  rcases T.IB b hm.1 hne with h | ⟨h1,_⟩
  ·exact absurd h (H.iD _ _ hQ b hbq)
  ·refine T.base j pi b o n hj hb ?_ hne
   refine agz fun e=>?_
   exact H.AA _ _ _ _ hr hQ e b h1 hbq
 ·intro q Q Q' hQ hQ' hd
  by_cases e:q=r
  ·subst e
   rw [hr.1] at hQ
   rw [aH] at hQ'
   simp only [agb] at hQ hQ'
   subst hQ
   subst hQ'
   exact T.ev hd
  ·rw [bW σ R' e,hQ] at hQ'
   simp only [agb] at hQ'
   subst hQ'
   exact ⟨rfl,rfl⟩
theorem vo.rel (H:Rel cx σ α F a w) (hr:aO σ r R) (T:vo cx σ α F w r R R' dG F' w' lw lh)
  (hroot:R'.bn=false→(bu (aj σ r R') R'→Ow (hp w') R'.own (gW cx (aj σ r R') (aG α r (α.loc r) hdr' dG) F' w' R'.tags) R'.k R'.x hdr' dG)∧hdr'.length=R'.k.size∧
   (∀b o,rZ R' (α.loc r)=some (b,o)→Cells (hp w') b o hdr'∧∃arr e lo hi,hp w' b=some (.cells arr e (lo,hi))∧yJ arr.size lo hi∧o+R'.k.size≤arr.size∧(∀t,R'.kind=.var t→e=t))∧
   (gT R' (α.loc r) dG).Nodup)
  (y8:R'.bn=false→∀p n v,n≤gq R.h→bJ cx σ α F w (.ptr r p n) v→bJ cx (aj σ r R') (aG α r (α.loc r) hdr' dG) F' w' (.ptr r p n) v)
  (wG:R'.bn=false→∀g v,g≤R.g→bJ cx σ α F w (.ref r g) v→bJ cx (aj σ r R') (aG α r (α.loc r) hdr' dG) F' w' (.ref r g) v) :
  Rel cx (aj σ r R') (aG α r (α.loc r) hdr' dG) F' a w':=by
 have hns:∀{q:Nat},¬Same σ α (aj σ r R') (aG α r (α.loc r) hdr' dG) q→q=r:=fun {q} h=>agz fun e=>h (gK e)
 have hRq:∀{Q:Root},aO σ r Q→Q=R:=fun {Q} hQ=>by have:=hQ.1; rw [hr.1] at this; simpa using this.symm
 refine H.turn (T.turn H hr) ?_ ?_ ?_
 ·intro q Q hq hs
  have e:=hns hs
  subst e
  obtain ⟨rfl,hd⟩:=eH hq
  obtain ⟨h1,h2,h3,h4⟩:=hroot hd
  refine ⟨fun hv=>?_, ?_, ?_, ?_⟩
  ·have:=h1 hv
   simpa [aG,upd_same] using this
  ·simpa [aG,upd_same] using h2
  ·intro b o hb
   rw [jg] at hb
   have:=h3 b o hb
   simpa [aG,upd_same] using this
  ·rw [eD]; exact h4
 ·intro q Q hq hs p n v hn hv
  have e:=hns hs
  subst e
  obtain rfl:=hRq hq
  cases hd:R'.bn with
  | false=>exact y8 hd p n v hn hv
  | true=>
   refine ⟨hv.1, ?_⟩
   intro Q' hQ' hval
   rw [aH] at hQ'
   simp only [agb] at hQ'
   subst hQ'
   have:=hval.1
   rw [hd] at this
   simp at this
 ·intro q Q hq hs g v hg hv
  have e:=hns hs
  subst e
  obtain rfl:=hRq hq
  cases hd:R'.bn with
  | false=>exact wG hd g v hg hv
  | true=>
   intro Q' hQ'
   have:=(eH hQ').2
   rw [hd] at this
   simp at this
structure Held (cx:Cx) (σ:St) (α:dK) (F:List Nat) (w:World) (k:K) (x:El k) (own:List TypeId) (tags:List Tag) (cs:List Value) (fo:List Nat):Prop where
 ow:bq σ (aS own k) tags=true→Ow (hp w) own (gW cx σ α F w tags) k x cs fo
 wt:eP σ tags
 sub:∀b∈fo,b∈F
 nd:fo.Nodup
 len:cs.length=k.size
theorem Held.turn {σ':St} {α':dK} {lw lh:Nat→List Nat} {k:K} {x:El k} {own:List TypeId} {tags:List Tag} {cs:List Value} {fo:List Nat}
  (H:Rel cx σ α F a w) (T:kK cx σ α F w σ' α' F' w' lw lh) (h:Held cx σ α F w k x own tags cs fo) (hs:∀b∈fo,hp w' b=hp w b∧b∈F'):Held cx σ' α' F' w' k x own tags cs fo where
 ow:=fun hc=>by
  obtain ⟨h1,h2,_⟩:=T.views H tags _ h.wt hc
  exact bz (fun b hb=>(h2 b hb.1 (.inl hb.2)).2) (fun b hb=>(h2 b hb.1 (.inl hb.2)).1) (fun b hb=>(hs b hb).1) (oZ _ (fun _ h=>h) (h.ow h1))
 wt:=fun t ht=>T.tag (h.wt t ht)
 sub:=fun b hb=>(hs b hb).2
 nd:=h.nd
 len:=h.len
theorem Held.slots {k:K} {x:El k} {own:List TypeId} {tags:List Tag} {cs:List Value} {fo:List Nat} (s:Nat→sN) (h:Held cx σ α F w k x own tags cs fo):Held cx (iV σ s) α F w k x own tags cs fo:=
 ⟨fun hc=>h.ow (by rw [oC] at hc; exact hc),h.wt,h.sub,h.nd,h.len⟩
end
end
section
open Go
variable [Fr]
theorem qb {h:Heap} {own:List TypeId} {ok:Nat→Prop}:∀{k:K} {x:El k} {cs:List Value} {fo:List Nat},Ow h own ok k x cs fo→∀b∈fo,∃e∈k.tys,au e own=true∧nH h b=some e:=by
 intro k
 induction k with
 | int ik=>intro x cs fo H b hb; rw [H.1] at hb; simp at hb
 | bool=>intro x cs fo H b hb; rw [H.1] at hb; simp at hb
 | id e=>intro x cs fo H b hb; rw [H.1] at hb; simp at hb
 | str=>intro x cs fo H b hb; rw [H.1] at hb; simp at hb
 | sl e k ih=>
  intro x cs fo H b' hb'
  unfold Ow at H
  split at H
  ·rename_i hm
   obtain ⟨a,n,c,e1,e2,e3,H⟩:=H
   rcases H with ⟨_,h1⟩ | ⟨b,o,arr,lo,hi,ea,hb,hf,hs,bC,hl,hp,H⟩
   ·rw [h1] at hb'; simp at hb'
   ·rcases agp.1 (hp.mem_iff.1 hb') with h | h
    ·subst h
     exact ⟨e,by simp [K.tys],hm,by unfold nH; rw [hb]⟩
    ·obtain ⟨l,hl1,hl2⟩:=List.mem_flatten.1 h
     obtain ⟨i,hi,rfl⟩:=List.mem_iff_getElem.1 hl1
     obtain ⟨ds,_,h2⟩:=H i (by omega)
     rw [cz hi] at h2
     obtain ⟨e',g1,g2⟩:=ih h2 b' hl2
     exact ⟨e',by simp [K.tys,g1],g2⟩
  ·rw [H.1] at hb'; simp at hb'
 | unit=>intro x cs fo H b hb; rw [H.1] at hb; simp at hb
 | pair a b iha ihb=>
  intro x cs fo H b' hb'
  obtain ⟨c1,c2,f1,f2,e,hp,h1,h2⟩:=H
  rcases agl.1 (hp.mem_iff.1 hb') with h | h
  ·obtain ⟨e',g1,g2⟩:=iha h1 b' h; exact ⟨e',by simp [K.tys,g1],g2⟩
  ·obtain ⟨e',g1,g2⟩:=ihb h2 b' h; exact ⟨e',by simp [K.tys,g1],g2⟩
 | st f ih=>intro x cs fo H; exact ih (x:=x) H
 | gap n=>intro x cs fo H b hb; rw [H.1] at hb; simp at hb
theorem dF {t:Nat} {own bad:List TypeId}:au t (bG own bad)=true↔au t own=true∧t∉bad:=by
 rw [aJ,aJ]
 unfold bG
 rw [agu]
 simp [aT]
theorem vY {own:List TypeId}:∀{k:K} {t:TypeId},t∈k.tys→t∈aS own k∨au t own=true:=by
 intro k
 induction k with
 | sl e k ih=>
  intro t ht
  simp only [K.tys,agp] at ht
  cases hm:au e own with
  | true=>
   rcases ht with ht | ht
   ·subst ht; exact .inr hm
   ·exact (ih ht).imp (fun h=>by simp [aS,hm,h]) id
  | false=>exact .inl (by simpa [aS,hm] using ht)
 | pair a b iha ihb=>
  intro t ht
  simp only [K.tys,agl] at ht
  rcases ht with ht | ht
  ·exact (iha ht).imp (fun h=>by simp [aS,h]) id
  ·exact (ihb ht).imp (fun h=>by simp [aS,h]) id
 | st f ih=>intro t ht; exact ih ht
 | _=>intro t ht; simp [K.tys] at ht
theorem zu {own:List TypeId}:∀{k:K} {t:TypeId},t∈aS own k→t∈k.tys:=by
 intro k
 induction k with
 | sl e k ih=>
  intro t ht
  cases hm:au e own with
  | true=>simp only [aS,hm,cond_true] at ht; simp [K.tys,ih ht]
  | false=>simpa [aS,hm,K.tys] using ht
 | pair a b iha ihb=>
  intro t ht
  simp only [aS,agl] at ht
  simp only [K.tys,agl]
  exact ht.imp iha ihb
 | st f ih=>intro t ht; exact ih ht
 | _=>intro t ht; simp [aS] at ht
section
variable {cx:Cx} {σ:St} {α:dK} {F:List Nat} {a:Act} {w:World} {F':List Nat} {w':World}
theorem yl (H:Rel cx σ α F a w) (hos:w'.os=w.os∧w'.tape=w.tape∧w'.output=w.output) (hsize:w.heap.size≤w'.heap.size) (Cb:∀b,b<w.heap.size→hp w' b≠hp w b→b∈F)
  (hnew:∀b∈F',b∈F∨(w.heap.size≤b∧b<w'.heap.size)) (hnd:F'.Nodup):kK cx σ α F w σ α F' w' (fun _=>[]) (fun _=>[]) where
 slots:=rfl
 os:=hos
 size:=hsize
 old:=fun r R hr=>⟨R,hr,by
  cases hd:R.bn with
  | true=>exact .inl ⟨rfl,by intro hk; simp [Root.bn,hk] at hd⟩
  | false=>exact .inr ⟨rfl,rfl,rfl,agt _,rfl,rfl,fun _=>rfl, .inr ⟨rfl,rfl,jP ..⟩⟩⟩
 wr:=fun r R' _ h=>absurd (jP ..) h
 Yz:=fun r R' h1 h2=>by rw [h1] at h2; simp at h2
 IB:=fun b hb hne=>.inl (Cb b hb hne)
 new:=by
  rintro b (⟨r,R',h1,h2,h3⟩ | h)
  ·exact absurd ⟨R',h1,h2⟩ h3
  ·exact (hnew b h).imp id .inl
 uW:=hnd
 iD:=fun r R' _ h=>absurd (jP ..) h
 AA:=fun r R r' R' _ _ _ h=>absurd (jP ..) h
 base:=by
  intro j pi b o n hj hb hne
  obtain ⟨Q,hQ,hk,hl,hs⟩:=H.jV j pi b o n hj hb
  have hbq:b∈blk α Q (ak j):=by simp [blk,dS,hk,hl]
  have hm:=(H.roots _ _ hQ).mine b hbq
  exact absurd (Cb b hm.1 hne) (H.iD _ _ hQ b hbq)
 ev:=fun r R R' h1 h2 _=>by rw [h1] at h2; simp only [agb] at h2; subst h2; exact ⟨rfl,rfl⟩
theorem Rel.mem (H:Rel cx σ α F a w) (T:kK cx σ α F w σ α F' w' (fun _=>[]) (fun _=>[])):Rel cx σ α F' a w':=
 H.turn T (fun _ _ _ h=>absurd (jP ..) h) (fun _ _ _ h=>absurd (jP ..) h) (fun _ _ _ h=>absurd (jP ..) h)
theorem Rel.alloc (H:Rel cx σ α F a w) (o:Obj):Rel cx σ α (w.heap.size :: F) a (w.alloc o)∧kK cx σ α F w σ α (w.heap.size :: F) (w.alloc o) (fun _=>[]) (fun _=>[]):=by
 have hs:(w.alloc o).heap.size=w.heap.size+1:=Array.size_push ..
 have T:kK cx σ α F w σ α (w.heap.size :: F) (w.alloc o) (fun _=>[]) (fun _=>[]):=yl H ⟨rfl,rfl,rfl⟩ (by omega) (fun b hb hne=>absurd (mF w o hb) hne)
  (fun b hb=>by rcases agp.1 hb with h | h; exact .inr ⟨by omega,by omega⟩; exact .inl h)
  (agL.2 ⟨fun h=>by have:=(H.fl _ h).1; omega,H.uW⟩)
 exact ⟨H.mem T,T⟩
variable {r:Nat} {R:Root}
theorem jq:bV.bn=true:=rfl
theorem kC {R':Root} {tys:List TypeId} {T:List Tag} (h:∀n,(r,n)∉T):bq (aj σ r R') tys T=bq σ tys T:=by
 induction T with
 | nil=>rfl
 | cons t T ih=>
  obtain ⟨q,n⟩:=t
  have hq:q≠r:=fun e=>h n (by simp [e])
  have ih':=ih (fun n hn=>h n (by simp [hn]))
  simp only [bq]
  rw [ih',bW σ R' hq]
def je (α:dK) (r:Nat):dK:=aG α r (α.loc r) (α.hdr r) []
theorem kill (H:Rel cx σ α F a w) (hr:aO σ r R) (hk:R.kind=.anon) (hv:bu σ R) :
  Rel cx (aj σ r bV) (je α r) (α.fo r++F) a w∧kK cx σ α F w (aj σ r bV) (je α r) (α.fo r++F) w (pF r []) (pF r [])∧
  Held cx (aj σ r bV) (je α r) (α.fo r++F) w R.k R.x R.own R.tags (α.hdr r) (α.fo r)∧bq (aj σ r bV) (aS R.own R.k) R.tags=true:=by
 have hb:blk α R r=α.fo r:=by simp [blk,dS,hk]
 have K:=H.roots r R hr
 have hnd:(α.fo r).Nodup:=by rw [←hb]; exact K.nd
 have T1:vo cx σ α F w r R bV [] (α.fo r++F) w [] []:=by
  refine ⟨.inl ⟨rfl,by rw [hk]; simp⟩,⟨fun t ht=>by simp [bV] at ht,fun n hn=>by simp [bV] at hn⟩,⟨rfl,rfl,rfl⟩,agt _,fun b _ h=>absurd rfl h,fun h=>by simp [jq] at h, ?_, ?_,fun h=>by simp [jq] at h,fun _ _ _ _ _ _ _ _ h=>absurd rfl h,fun h=>by simp [jq] at h⟩
  ·intro b hb'
   rcases agl.1 hb' with h | h
   ·exact .inr (.inr ⟨by rw [hb]; exact h, .inl rfl⟩)
   ·exact .inl h
  ·exact agj.2 ⟨hnd,H.uW,fun b h1 c h2 e=>H.iD r R hr b (by rw [hb]; exact h1) (e▸h2)⟩
 have hT:=T1.turn (hdr':=α.hdr r) H hr
 have hnt:=(H.dn r R hr.1).2.2
 have Cc:bq (aj σ r bV) (aS R.own R.k) R.tags=true:=by rw [kC hnt]; exact hv.2
 refine ⟨T1.rel H hr (fun h=>by simp [jq] at h) (fun h=>by simp [jq] at h) (fun h=>by simp [jq] at h),hT, ?_,Cc⟩
 refine ⟨fun hc=>?_,fun t ht=>hT.tag ((H.dn r R hr.1).1 t ht),fun b hb=>agh _ hb,hnd,K.len⟩
 obtain ⟨h1,h2,_⟩:=hT.views H R.tags _ (H.dn r R hr.1).1 hc
 exact bz (fun b hb=>(h2 b hb.1 (.inl hb.2)).2) (fun b hb=>(h2 b hb.1 (.inl hb.2)).1) (fun _ _=>rfl) (oZ _ (fun _ h=>h) (K.ow hv))
theorem Yu (H:Rel cx σ α F a w) (hr:aO σ r R) (hk:R.kind≠.par) (hv:bu σ R) :
  Rel cx (aj σ r bV) (je α r) (blk α R r++F) a w∧kK cx σ α F w (aj σ r bV) (je α r) (blk α R r++F) w (pF r []) (pF r [])∧
  Held cx (aj σ r bV) (je α r) (blk α R r++F) w R.k R.x R.own R.tags (α.hdr r) (α.fo r)∧bq (aj σ r bV) (aS R.own R.k) R.tags=true:=by
 have K:=H.roots r R hr
 have hnd:(blk α R r).Nodup:=K.nd
 have T1:vo cx σ α F w r R bV [] (blk α R r++F) w [] []:=by
  refine ⟨.inl ⟨rfl,hk⟩,⟨fun t ht=>by simp [bV] at ht,fun n hn=>by simp [bV] at hn⟩,⟨rfl,rfl,rfl⟩,agt _,fun b _ h=>absurd rfl h,fun h=>by simp [jq] at h, ?_, ?_,fun h=>by simp [jq] at h,fun _ _ _ _ _ _ _ _ h=>absurd rfl h,fun h=>by simp [jq] at h⟩
  ·intro b hb'
   rcases agl.1 hb' with h | h
   ·exact .inr (.inr ⟨h, .inl rfl⟩)
   ·exact .inl h
  ·exact agj.2 ⟨hnd,H.uW,fun b h1 c h2 e=>H.iD r R hr b h1 (e▸h2)⟩
 have hT:=T1.turn (hdr':=α.hdr r) H hr
 have hnt:=(H.dn r R hr.1).2.2
 have Cc:bq (aj σ r bV) (aS R.own R.k) R.tags=true:=by rw [kC hnt]; exact hv.2
 refine ⟨T1.rel H hr (fun h=>by simp [jq] at h) (fun h=>by simp [jq] at h) (fun h=>by simp [jq] at h),hT, ?_,Cc⟩
 refine ⟨fun hc=>?_,fun t ht=>hT.tag ((H.dn r R hr.1).1 t ht),fun b hb=>agh _ (agd _ hb),(agj.1 hnd).2.1,K.len⟩
 obtain ⟨h1,h2,_⟩:=hT.views H R.tags _ (H.dn r R hr.1).1 hc
 exact bz (fun b hb=>(h2 b hb.1 (.inl hb.2)).2) (fun b hb=>(h2 b hb.1 (.inl hb.2)).1) (fun _ _=>rfl) (oZ _ (fun _ h=>h) (K.ow hv))
theorem nP:∀(p:List Stp) {k:K} {x y:El k},(aP p k x).isSome=(aP p k y).isSome:=by
 intro p
 induction p with
 | nil=>intro k x y; rfl
 | cons s p ih=>
  intro k x y
  cases s with
  | fH n=>
   cases k with
   | st c=>
    simp only [aP]
    have key:∀(n:Nat) {c:K} {x y:El c},(∃s t:Dat,aL n c x=some s∧aL n c y=some t∧s.1=t.1)∨(aL n c x=none∧aL n c y=none):=by
     intro n
     induction n with
     | zero=>intro c x y; cases c <;> first | exact .inl ⟨_,_,rfl,rfl,rfl⟩ | exact .inr ⟨rfl,rfl⟩
     | succ n ih=>intro c x y; cases c <;> first | exact ih | exact .inr ⟨rfl,rfl⟩
    rcases key n (c:=c) (x:=x) (y:=y) with ⟨s,t,h1,h2,h3⟩ | ⟨h1,h2⟩
    ·rw [h1,h2]
     obtain ⟨sk,sx⟩:=s
     obtain ⟨tk,ty⟩:=t
     simp only at h3
     subst h3
     exact ih
    ·rw [h1,h2]
   | _=>simp [aP]
  | idx i=>
   cases k with
   | sl e k=>simp only [aP]; exact ih
   | _=>simp [aP]
theorem xS:∀(n m:Nat) {c:K} {x:El c} {u y:Dat},m≠n→cB n c x u=some y→aL m y.1 y.2=aL m c x:=by
 intro n
 induction n with
 | zero=>
  intro m c x u y hm h
  cases c with
  | pair a b=>
   simp only [cB,agb] at h
   subst h
   cases m with
   | zero=>exact absurd rfl hm
   | succ m=>rfl
  | _=>simp [cB] at h
 | succ n ih=>
  intro m c x u y hm h
  cases c with
  | pair a b=>
   simp only [cB] at h
   cases h4:cB n b x.2 u with
   | none=>rw [h4] at h; simp at h
   | some y2=>
    rw [h4] at h
    simp only [agb] at h
    subst h
    cases m with
    | zero=>rfl
    | succ m=>exact ih m (by omega) h4
  | _=>simp [cB] at h
theorem Eu {bad:List TypeId}:∀(p q:List Stp) {k:K} {x:El k} {t d z:Dat},aP p k x=some d→dU p k x t=some z→
  (∀q',(aP q' t.1 t.2).isSome=true→(∀e∈aa q' t.1,e∉bad)→aa q' d.1=aa q' t.1∧(aP q' d.1 d.2).isSome=true)→(aP q z.1 z.2).isSome=true→(∀e∈aa q z.1,e∉bad)→
   aa q k=aa q z.1∧(aP q k x).isSome=true:=by
 intro p
 induction p with
 | nil=>
  intro q k x t d z hg hz ht hs hb
  simp only [dU,agb] at hz
  simp only [aP,agb] at hg
  subst hz
  subst hg
  exact ht q hs hb
 | cons s p ih=>
  intro q k x t d z hg hz ht hs hb
  cases s with
  | fH n=>
   cases k with
   | st c=>
    simp only [aP,dU] at hg hz
    cases hcg:aL n c x with
    | none=>rw [hcg] at hg; simp at hg
    | some s=>
     rw [hcg] at hg hz
     simp only at hg hz
     cases hs':dU p s.1 s.2 t with
     | none=>rw [hs'] at hz; simp at hz
     | some u=>
      rw [hs'] at hz
      simp only at hz
      cases hcp:cB n c x u with
      | none=>rw [hcp] at hz; simp at hz
      | some y=>
       rw [hcp] at hz
       simp only [agb] at hz
       subst hz
       cases q with
       | nil=>exact ⟨rfl,rfl⟩
       | cons s2 q=>
        cases s2 with
        | idx i=>simp [aP] at hs
        | fH m=>
         by_cases hmn:m=n
         ·subst hmn
          have e1:aL m y.1 y.2=some u:=tT m hcp
          have p1:aa (.fH m :: q) (.st c)=aa q s.1:=by simp [aa,bY m hcg]
          have p2:aa (.fH m :: q) (.st y.1)=aa q u.1:=by simp [aa,bY m e1]
          have hs2:(aP (.fH m :: q) (.st y.1) y.2).isSome=true:=hs
          simp only [aP,e1] at hs2
          have hb2:∀e∈aa (.fH m :: q) (.st y.1),e∉bad:=hb
          rw [p2] at hb2
          obtain ⟨h1,h2⟩:=ih q hg hs' ht hs2 hb2
          refine ⟨?_, ?_⟩
          ·show aa (.fH m :: q) (.st c)=aa (.fH m :: q) (.st y.1)
           rw [p1,p2,h1]
          ·simp only [aP,hcg]
           exact h2
         ·have e1:=xS n m hmn hcp
          have hs2:(aP (.fH m :: q) (.st y.1) y.2).isSome=true:=hs
          simp only [aP,e1] at hs2
          cases hg2:aL m c x with
          | none=>rw [hg2] at hs2; simp at hs2
          | some s2=>
           refine ⟨?_, ?_⟩
           ·show aa (.fH m :: q) (.st c)=aa (.fH m :: q) (.st y.1)
            simp only [aa,bY m hg2,bY m (e1.trans hg2)]
           ·simp only [aP,hg2]
            rw [hg2] at hs2
            exact hs2
   | _=>simp [aP] at hg
  | idx i=>
   cases k with
   | sl e k=>
    simp only [dU] at hz
    cases hs':dU p k ((show List (El k) from x).getD i.toNat k.zero) t with
    | none=>rw [hs'] at hz; simp at hz
    | some u=>
     rw [hs'] at hz
     simp only at hz
     cases hck:bT u.1 k u.2 with
     | none=>rw [hck] at hz; simp at hz
     | some y=>
      rw [hck] at hz
      simp only [agb] at hz
      subst hz
      exact ⟨rfl,by rw [nP q (y:=((show List (El k) from x).set i.toNat y))]; exact hs⟩
   | _=>simp [dU] at hz
theorem pz:∀k:K,k.hole.size=k.size:=by
 intro k
 induction k with
 | pair a b iha ihb=>simp [K.hole,K.size,iha,ihb]
 | st f ih=>simp [K.hole,K.size,ih]
 | _=>rfl
theorem QD {h:Heap} {own:List TypeId} {ok:Nat→Prop}:∀{k:K} {x:El k} {cs:List Value} {fo:List Nat},Ow h own ok k x cs fo→Ow h own ok k.hole (qh k x) cs []:=by
 intro k
 induction k with
 | int ik=>intro x cs fo H; exact ⟨rfl,H.2⟩
 | bool=>intro x cs fo H; exact ⟨rfl,H.2⟩
 | id e=>intro x cs fo H; exact ⟨rfl,H.2⟩
 | str=>intro x cs fo H; exact ⟨rfl,H.2⟩
 | sl e k ih=>intro x cs fo H; exact ⟨rfl,dh H⟩
 | unit=>intro x cs fo H; exact ⟨rfl,H.2⟩
 | pair a b iha ihb=>intro x cs fo H; obtain ⟨c1,c2,f1,f2,e,hp,h1,h2⟩:=H; exact ⟨c1,c2,[],[],e, .refl _,iha h1,ihb h2⟩
 | st f ih=>intro x cs fo H; exact ih (x:=x) H
 | gap n=>intro x cs fo H; exact ⟨rfl,H.2⟩
theorem Bp:∀(n:Nat) {c:K} {x:El c},aL n c.hole (qh c x)=(aL n c x).map oF:=by
 intro n
 induction n with
 | zero=>intro c x; cases c <;> rfl
 | succ n ih=>
  intro c x
  cases c with
  | pair a b=>simp only [K.hole,qh,aL]; exact ih
  | _=>rfl
theorem Jb:∀(n:Nat) {c:K},bB n c.hole=(bB n c).map fun q=>(q.1,q.2.hole):=by
 intro n
 induction n with
 | zero=>intro c; cases c <;> rfl
 | succ n ih=>
  intro c
  cases c with
  | pair a b=>
   simp only [K.hole,bB]
   rw [ih (c:=b)]
   cases bB n b with
   | none=>rfl
   | some q=>simp [pz]
  | _=>rfl
theorem Ch {h:Heap}:∀(q:List Stp) {k:K} {x:El k},(aP q k.hole (qh k x)).isSome=true→
  aa q k=[]∧aa q k.hole=[]∧(aP q k x).isSome=true∧kJ q k.hole (qh k x)∧∀cs wh,bH h q k.hole cs wh=bH h q k cs wh:=by
 intro q
 induction q with
 | nil=>intro k x _; exact ⟨by simp [aa],by simp [aa],rfl,trivial,fun _ _=>rfl⟩
 | cons s q ih=>
  intro k x hs
  cases s with
  | idx i=>cases k <;> simp [K.hole,aP] at hs
  | fH n=>
   cases k with
   | st c=>
    have e:aL n c.hole (qh c x)=(aL n c x).map oF:=Bp n
    have hs':(aP (.fH n :: q) (.st c.hole) (qh c x)).isSome=true:=hs
    simp only [aP,e] at hs'
    cases hg:aL n c x with
    | none=>rw [hg] at hs'; simp at hs'
    | some s=>
     rw [hg] at hs' e
     simp only [Option.map_some,oF] at hs' e
     obtain ⟨h1,h2,h3,h4,h5⟩:=ih (k:=s.1) (x:=s.2) hs'
     refine ⟨by simp [aa,bY n hg,h1], ?_,by simp only [aP,hg]; exact h3, ?_,fun cs wh=>?_⟩
     ·show aa (.fH n :: q) (.st c.hole)=[]
      simp [aa,bY n e,h2]
     ·show kJ (.fH n :: q) (.st c.hole) (qh c x)
      simp only [kJ,e]
      exact h4
     ·show bH h (.fH n :: q) (.st c.hole) cs wh=_
      simp only [bH]
      rw [Jb n]
      cases ho:bB n c with
      | none=>rfl
      | some w=>
       simp only [Option.map_some]
       have hk:w.2=s.1:=by
        have key:∀(n:Nat) {c:K} {x:El c} {s:Dat} {q:Nat×K},aL n c x=some s→bB n c=some q→q.2=s.1:=by
         intro n
         induction n with
         | zero=>intro c x s q h1 h2; cases c with
          | pair a b=>simp only [aL,bB,agb] at h1 h2; subst h1; subst h2; rfl
          | _=>simp [aL] at h1
         | succ n ih=>intro c x s q h1 h2; cases c with
          | pair a b=>
           simp only [aL,bB] at h1 h2
           cases h3:bB n b with
           | none=>rw [h3] at h2; simp at h2
           | some q3=>rw [h3] at h2; simp only [agb] at h2; subst h2; exact ih (q:=q3) h1 h3
          | _=>simp [aL] at h1
        exact key n (c:=c) hg ho
       obtain ⟨w1,w2⟩:=w
       simp only at hk
       subst hk
       simp only [pz]
       exact h5 _ _
   | _=>simp [K.hole,aP] at hs
theorem Mm:∀(q:List Stp) {k:K} {x y:El k},aa q k=[]→(aP q k x).isSome=true→aa q k.hole=[]∧(aP q k.hole (qh k y)).isSome=true:=by
 intro q
 induction q with
 | nil=>intro k x y _ _; exact ⟨by simp [aa],rfl⟩
 | cons s q ih=>
  intro k x y h0 hs
  cases s with
  | idx i=>cases k <;> simp [aa,aP] at h0 hs
  | fH n=>
   cases k with
   | st c=>
    simp only [aP] at hs
    cases hg:aL n c x with
    | none=>rw [hg] at hs; simp at hs
    | some s=>
     rw [hg] at hs
     simp only at hs
     have hp2:aa (.fH n :: q) (.st c)=aa q s.1:=by simp [aa,bY n hg]
     rw [hp2] at h0
     have key:∀(n:Nat) {c:K} {x y:El c} {s:Dat},aL n c x=some s→∃t:Dat,aL n c y=some t∧t.1=s.1:=by
      intro n
      induction n with
      | zero=>intro c x y s h; cases c <;> first | (simp only [aL,agb] at h; subst h; exact ⟨_,rfl,rfl⟩) | simp [aL] at h
      | succ n ih=>intro c x y s h; cases c <;> first | exact ih h | simp [aL] at h
     obtain ⟨t,g1,g2⟩:=key n (c:=c) (y:=y) hg
     obtain ⟨sk,sx⟩:=s
     obtain ⟨tk,ty⟩:=t
     simp only at g2
     subst g2
     obtain ⟨h1,h2⟩:=ih (y:=ty) h0 hs
     have e:aL n c.hole (qh c y)=some (oF ⟨tk,ty⟩):=by rw [Bp n,g1]; rfl
     refine ⟨?_, ?_⟩
     ·show aa (.fH n :: q) (.st c.hole)=[]
      simp [aa,bY n e,oF,h1]
     ·show (aP (.fH n :: q) (.st c.hole) (qh c y)).isSome=true
      simp only [aP,e]
      exact h2
   | _=>simp [aP] at hs
theorem Kb {own:List TypeId}:∀k:K,aS own k.hole=[]:=by
 intro k
 induction k with
 | pair a b iha ihb=>simp [K.hole,aS,iha,ihb]
 | st f ih=>exact ih
 | _=>rfl
theorem cells_eq {h:Heap} {b o:Nat} {cs cs':List Value} (h1:Cells h b o cs) (h2:Cells h b o cs') (hl:cs'.length=cs.length):cs'=cs:=by
 apply List.ext_getElem? 
 intro i
 by_cases hi:i<cs.length
 ·rw [←h1 i hi, ←h2 i (by omega)]
 ·rw [List.getElem?_eq_none (by omega),List.getElem?_eq_none (by omega)]
theorem zm:∀(p:List Stp) {k:K} {x:El k} {t d z:Dat},aP p k x=some d→t.1.size=d.1.size→dU p k x t=some z→z.1.size=k.size:=by
 intro p
 induction p with
 | nil=>
  intro k x t d z hg hs hz
  simp only [aP,dU,agb] at hg hz
  subst hg; subst hz; exact hs
 | cons s p ih=>
  intro k x t d z hg hs hz
  cases s with
  | fH n=>
   cases k with
   | st c=>
    simp only [aP,dU] at hg hz
    cases hcg:aL n c x with
    | none=>rw [hcg] at hg; simp at hg
    | some s=>
     rw [hcg] at hg hz
     simp only at hg hz
     cases hs':dU p s.1 s.2 t with
     | none=>rw [hs'] at hz; simp at hz
     | some u=>
      rw [hs'] at hz
      simp only at hz
      cases hcp:cB n c x u with
      | none=>rw [hcp] at hz; simp at hz
      | some y=>
       rw [hcp] at hz
       simp only [agb] at hz
       subst hz
       have hu:=ih hg hs hs'
       have key:∀(n:Nat) {c:K} {x:El c} {s u y:Dat},aL n c x=some s→cB n c x u=some y→u.1.size=s.1.size→y.1.size=c.size:=by
        intro n
        induction n with
        | zero=>
         intro c x s u y h1 h2 e
         cases c with
         | pair a b=>simp only [aL,cB,agb] at h1 h2; subst h1; subst h2; simp only at e; simp [K.size,e]
         | _=>simp [aL] at h1
        | succ n ih=>
         intro c x s u y h1 h2 e
         cases c with
         | pair a b=>
          simp only [aL,cB] at h1 h2
          cases h3:cB n b x.2 u with
          | none=>rw [h3] at h2; simp at h2
          | some y2=>rw [h3] at h2; simp only [agb] at h2; subst h2; simp [K.size,ih h1 h3 e]
         | _=>simp [aL] at h1
       show y.1.size=c.size
       exact key n (c:=c) hcg hcp hu
   | _=>simp [aP] at hg
  | idx i=>
   cases k with
   | sl e k=>
    simp only [dU] at hz
    cases hs':dU p k ((show List (El k) from x).getD i.toNat k.zero) t with
    | none=>rw [hs'] at hz; simp at hz
    | some u=>
     rw [hs'] at hz
     simp only at hz
     cases hck:bT u.1 k u.2 with
     | none=>rw [hck] at hz; simp at hz
     | some y=>rw [hck] at hz; simp only [agb] at hz; subst hz; rfl
   | _=>simp [aP] at hg
theorem qZ {R R':Root} (h:R'.kind=R.kind) (loc:Nat×Nat):rZ R' loc=rZ R loc:=by unfold rZ; rw [h]
theorem lM {R R':Root} (h:R'.kind=R.kind) (loc:Nat×Nat) (fo:List Nat):gT R' loc fo=gT R loc fo:=by unfold gT; rw [h]
theorem Gn (R:Root) (loc:Nat×Nat) (fo:List Nat):gT R loc fo=(match rZ R loc with
 | some q=>[q.1]
 | none=>[])++fo:=by unfold gT rZ; cases R.kind <;> rfl
theorem eT {R:Root} {loc:Nat×Nat} {fo:List Nat} {b:Nat}:b∈gT R loc fo↔(∃o,rZ R loc=some (b,o))∨b∈fo:=by
 rw [Gn]
 cases h:rZ R loc with
 | none=>simp
 | some q=>obtain ⟨b0,o0⟩:=q; simp; constructor <;> (intro h; rcases h with h | h <;> simp_all)
theorem kL {R:Root} {loc:Nat×Nat} {fo:List Nat}:(gT R loc fo).Nodup↔(∀b o,rZ R loc=some (b,o)→b∉fo)∧fo.Nodup:=by
 rw [Gn]
 cases h:rZ R loc with
 | none=>simp
 | some q=>obtain ⟨b0,o0⟩:=q; simp [agL]
theorem Mx {R R':Root} (h:R'.kind=R.kind):R'.bn=R.bn:=by unfold Root.bn; rw [h]
theorem Kr {k k':K} {v:Value} {cs:List Value} (h:qj k'=qj k):VC k' v cs↔VC k v cs:=by
 cases k <;> cases k' <;> first | exact Iff.rfl | simp [qj] at h
theorem Er {p:List Stp} {k:K} {x:El k} {t z:Dat} (hp:p≠[]) (hz:dU p k x t=some z):qj z.1=qj k:=by
 cases p with
 | nil=>exact absurd rfl hp
 | cons s p=>
  cases s with
  | fH n=>
   cases k with
   | st c=>
    simp only [dU] at hz
    cases hcg:aL n c x with
    | none=>rw [hcg] at hz; simp at hz
    | some s=>
     rw [hcg] at hz
     simp only at hz
     cases hs':dU p s.1 s.2 t with
     | none=>rw [hs'] at hz; simp at hz
     | some u=>
      rw [hs'] at hz
      simp only at hz
      cases hcp:cB n c x u with
      | none=>rw [hcp] at hz; simp at hz
      | some y=>rw [hcp] at hz; simp only [agb] at hz; subst hz; rfl
   | _=>simp [dU] at hz
  | idx i=>
   cases k with
   | sl e k=>
    simp only [dU] at hz
    cases hs':dU p k ((show List (El k) from x).getD i.toNat k.zero) t with
    | none=>rw [hs'] at hz; simp at hz
    | some u=>
     rw [hs'] at hz
     simp only at hz
     cases hck:bT u.1 k u.2 with
     | none=>rw [hck] at hz; simp at hz
     | some y=>rw [hck] at hz; simp only [agb] at hz; subst hz; rfl
   | _=>simp [dU] at hz
theorem Mf (k:K):k.tys≠[]∨pq k++k.tys≠[]:=by
 unfold pq
 cases k.tys with
 | nil=>exact .inr (by simp)
 | cons a l=>exact .inl (by simp)
def dY (R:Root) (d:Dat) (z:Dat):Root:={ R with k:=z.1,x:=z.2,w:=d.1.tys++R.w,h:=pq d.1++d.1.tys++R.h }
def eF (R:Root) (d:Dat) (z:Dat) (own':List TypeId):Root:={ dY R d z with own:=own' }
theorem lX:∀(q:List Stp) {k:K},∀t∈aa q k,t∈k.tys:=by
 intro q
 induction q with
 | nil=>intro k t ht; simp [aa] at ht
 | cons s q ih=>
  intro k t ht
  cases s with
  | fH n=>
   cases k with
   | st c=>
    simp only [aa] at ht
    cases hc:aa.Ae n c with
    | none=>rw [hc] at ht; simp at ht
    | some k'=>
     rw [hc] at ht
     have h1:=ih t ht
     have:∀(n:Nat) {c k':K},aa.Ae n c=some k'→∀t∈k'.tys,t∈c.tys:=by
      intro n
      induction n with
      | zero=>
       intro c k' h t ht
       cases c with
       | pair a b=>simp only [aa.Ae,agb] at h; subst h; simp [K.tys,ht]
       | _=>simp [aa.Ae] at h
      | succ n ih=>
       intro c k' h t ht
       cases c with
       | pair a b=>simp only [aa.Ae] at h; simp [K.tys,ih h t ht]
       | _=>simp [aa.Ae] at h
     exact this n hc t h1
   | _=>simp [aa] at ht
  | idx i=>
   cases k with
   | sl e k=>
    simp only [aa,agp] at ht
    rcases ht with h | h
    ·simp [K.tys,h]
    ·simp [K.tys,ih t h]
   | _=>simp [aa] at ht
theorem Xu {own':List TypeId} (H:Rel cx σ α F a w) (hr:aO σ r R) (hv:bu σ R) {p:List Stp} {d z:Dat} (hg:aP p R.k R.x=some d) (hz:dU p R.k R.x (oF d)=some z) (fK:kJ p R.k R.x)
  (hown:∀t∈aa p R.k,au t R.own=true) (hpv:p≠[]∨∃t,R.kind=.var t) (hso:∀t∈z.1.tys,au t own'=au t R.own) :
  ∃cs1 kS fI rest,bH (hp w) p R.k (α.hdr r) (dS α R r)=some (cs1,kS)∧
   Rel cx (aj σ r (eF R d z own')) (aG α r (α.loc r) (α.hdr r) rest) (fI++F) a w∧
   kK cx σ α F w (aj σ r (eF R d z own')) (aG α r (α.loc r) (α.hdr r) rest) (fI++F) w (pF r d.1.tys) (pF r (pq d.1++d.1.tys))∧
   Held cx (aj σ r (eF R d z own')) (aG α r (α.loc r) (α.hdr r) rest) (fI++F) w d.1 d.2 R.own R.tags cs1 fI∧(∀tys,bq (aj σ r (eF R d z own')) tys R.tags=bq σ tys R.tags)∧(α.fo r).Perm (fI++rest):=by
 have K:=H.roots r R hr
 have hnd:=K.nd
 rw [bX,kL] at hnd
 have hO:=K.ow hv
 obtain ⟨cs1,fI,rest,kS,hn,hp1,hd1,hc1,hin,hnone,hup⟩:=focus p hO (fun b o e=>(K.mem b o e).1) hg fK hown hnd.2 (fun b o e=>hnd.1 b o e)
 have hnt:=(H.dn r R hr.1).2.2
 have hl1:=dh hd1
 obtain ⟨cs',hl',BZ,hC',hN',hK'⟩:=hup.go (hp w) (gW cx σ α F w R.tags) (oF d) cs1 [] z hz hl1 (QD hd1) (fun b hb=>⟨hb,rfl⟩) (fun _ _ _=>rfl)
  (fun b o e=>⟨hc1 b o e,by
   have:∃arr te fr,hp w b=some (.cells arr te fr):=by
    rcases hin b o e with ⟨_,o0,ew,_⟩ | ⟨_,arr,te,lo,hi,h1,_⟩
    ·obtain ⟨_,arr,te,lo,hi,h1,_⟩:=K.mem b o0 ew; exact ⟨arr,te,_,h1⟩
    ·exact ⟨arr,te,_,h1⟩
   obtain ⟨arr,te,fr,h1⟩:=this
   exact gB.of_same _ _ h1 rfl⟩) (fun _=>rfl) (fun _ _ _ _=>rfl)
 have hcs:cs'=α.hdr r:=by
  cases hw:dS α R r with
  | none=>exact hN' hw
  | some q=>exact cells_eq (K.mem q.1 q.2 hw).1 (hC' q.1 q.2 hw) hl'
 rw [hcs,List.nil_append] at BZ
 replace BZ:=ou hso BZ
 obtain ⟨_,_,hNK,_⟩:=hK' d.1.tys (pz d.1) (fun q c0 w0 hq _ hn0 hs=>by
  obtain ⟨_,_,_,h3,h4⟩:=Ch (h:=hp w) q (x:=d.2) hs
  exact ⟨h3,c0,by rw [←hn0]; exact h4 cs1 kS⟩)
 rw [hcs] at hNK
 have hkind:(eF R d z own').kind=R.kind:=rfl
 have XM:(eF R d z own').bn=false:=hr.2
 have D6:∀b,b∈α.fo r↔b∈fI∨b∈rest:=fun b=>by rw [hp1.mem_iff,agl]
 have yc:=hp1.nodup hnd.2
 have hsz:z.1.size=R.k.size:=zm p (t:=oF d) hg (pz d.1) hz
 have T1:vo cx σ α F w r R (eF R d z own') rest (fI++F) w d.1.tys (pq d.1++d.1.tys):=by
  refine ⟨.inr ⟨rfl,rfl,agt _,rfl,fun _=>hsz,Mf d.1⟩,⟨(H.dn r R hr.1).1,hnt⟩,⟨rfl,rfl,rfl⟩,agt _,fun b _ h=>absurd rfl h, ?_, ?_, ?_, ?_,fun _ _ _ _ _ _ _ _ h=>absurd rfl h,fun _=>⟨rfl,rfl⟩⟩
  ·intro _ b hb
   rw [lM hkind,eT] at hb
   refine .inl ?_
   rw [bX,eT,D6]
   exact hb.imp id .inr
  ·intro b hb
   rcases agl.1 hb with h | h
   ·refine .inr (.inr ⟨by rw [bX,eT,D6]; exact .inr (.inl h), .inr (.inl ?_)⟩)
    obtain ⟨e,h1,_,h2⟩:=qb hd1 b h
    exact ⟨e,h1,h2⟩
   ·exact .inl h
  ·refine agj.2 ⟨(agj.1 yc).1,H.uW,fun b h1 c h2 e=>H.iD r R hr b ?_ (e▸h2)⟩
   rw [bX,eT,D6]
   exact .inr (.inl h1)
  ·intro _ b hb hF
   rw [lM hkind,eT] at hb
   rcases agl.1 hF with h | h
   ·rcases hb with ⟨o,hb⟩ | hb
    ·exact hnd.1 b o hb ((D6 b).2 (.inl h))
    ·exact (agj.1 yc).2.2 b h b hb rfl
   ·refine H.iD r R hr b ?_ h
    rw [bX,eT,D6]
    exact hb.imp id .inr
 have hT:=T1.turn (hdr':=α.hdr r) H hr
 have Cc:∀tys,bq (aj σ r (eF R d z own')) tys R.tags=bq σ tys R.tags:=fun tys=>kC hnt
 refine ⟨cs1,kS,fI,rest,hn,T1.rel H hr ?_ ?_ ?_,hT, ?_,Cc,hp1⟩
 ·intro _
  refine ⟨fun hv'=>?_,by rw [K.len]; exact hsz.symm, ?_, ?_⟩
  ·obtain ⟨h1,h2,_⟩:=hT.views H R.tags _ (H.dn r R hr.1).1 hv'.2
   exact bz (fun b hb=>(h2 b hb.1 (.inl hb.2)).2) (fun b hb=>(h2 b hb.1 (.inl hb.2)).1) (fun _ _=>rfl) (oZ _ (fun _ h=>h) BZ)
  ·intro b o hb
   have:(eF R d z own').k.size=R.k.size:=hsz
   rw [this]
   exact K.mem b o hb
  ·rw [lM hkind,kL]
   exact ⟨fun b o e hb=>hnd.1 b o e ((D6 b).2 (.inr hb)),(agj.1 yc).2.1⟩
 ·intro _ q n v hn' hold
  refine ⟨hold.1, ?_⟩
  intro Q hQ Rp hcl hty hsome
  have hQ':Q=eF R d z own':=by
   rw [aH] at hQ
   simpa using hQ.symm
  subst hQ'
  have OY:dS (aG α r (α.loc r) (α.hdr r) rest) (eF R d z own') r=dS α R r:=by rw [jg,qZ hkind, ←qw]
  have JC:(aG α r (α.loc r) (α.hdr r) rest).hdr r=α.hdr r:=by simp [aG,upd_same]
  have hh:(eF R d z own').h=(pq d.1++d.1.tys)++R.h:=rfl
  rw [hh,mD hn'] at hcl
  by_cases hq:q=[]
  case neg=>
   have hpt:∀k,dW q k=nD :: aa q k:=by
    intro k
    cases q with
    | nil=>exact absurd rfl hq
    | cons s q=>rfl
   rw [hpt] at hcl
   obtain ⟨k1,k2⟩:=Eu (bad:=d.1.tys) p q hg hz (fun q' h _=>let ⟨h1,h2,h3,_⟩:=Ch (h:=hp w) q' (x:=d.2) h; ⟨h1.trans h2.symm,h3⟩) hsome (fun e he hm=>hcl.1 e (agd _ hm) (agB _ he))
   have k1':aa q R.k=aa q (eF R d z own').k:=k1
   have hty':∀t∈aa q R.k,au t R.own=true:=fun t ht=>by
    have ht':t∈aa q z.1:=k1▸ht
    rw [←hso t (lX q t ht')]
    exact hty t ht'
   rw [←k1'] at hcl
   obtain ⟨g1,cs,b,o,g2,g3⟩:=hold.2 R hr.1 hv (by rw [hpt]; exact hcl.2) hty' k2
   obtain ⟨f1,c1,f2⟩:=hNK q cs (some (b,o)) g1 (fun t ht=>⟨hty' t ht,fun hm=>hcl.1 t (agd _ hm) (agB _ ht)⟩) g2 hsome
   rw [OY,JC]
   exact ⟨f1,c1,b,o,f2,g3⟩
  subst hq
  obtain ⟨_,cs,b,o,h1,h2⟩:=hold.2 R hr.1 hv (by simp [clean,dW,au]) (fun t ht=>by simp [aa] at ht) rfl
  simp only [bH,agb,agn] at h1
  refine ⟨trivial,(aG α r (α.loc r) (α.hdr r) rest).hdr r,b,o, ?_,h2⟩
  simp only [bH]
  rw [jg,qZ hkind, ←qw,h1.2]
 ·intro _ g v hg' hold Q hQ Ze
  obtain ⟨hQ',_⟩:=eH hQ
  subst hQ'
  obtain ⟨h1,h2⟩:=hold R hr Ze
  refine ⟨h1, ?_⟩
  have:(aG α r (α.loc r) (α.hdr r) rest).hdr r=α.hdr r:=by simp [aG,upd_same]
  rw [this]
  rcases hpv with hp | ⟨t,ht⟩
  ·
   cases p with
   | nil=>exact absurd rfl hp
   | cons s p=>
    exact (Kr (Er (by simp) hz)).2 h2
  ·rw [ht] at h1; simp at h1
 ·refine ⟨fun hc=>?_,fun t ht=>hT.tag ((H.dn r R hr.1).1 t ht),fun b hb=>agh _ hb,(agj.1 yc).1,hl1⟩
  obtain ⟨h1,h2,_⟩:=hT.views H R.tags _ (H.dn r R hr.1).1 hc
  exact bz (fun b hb=>(h2 b hb.1 (.inl hb.2)).2) (fun b hb=>(h2 b hb.1 (.inl hb.2)).1) (fun _ _=>rfl) (oZ _ (fun _ h=>h) hd1)
theorem gap (H:Rel cx σ α F a w) (hr:aO σ r R) (hv:bu σ R) {p:List Stp} {d z:Dat} (hg:aP p R.k R.x=some d) (hz:dU p R.k R.x (oF d)=some z) (fK:kJ p R.k R.x)
  (hown:∀t∈aa p R.k,au t R.own=true) (hpv:p≠[]∨∃t,R.kind=.var t) :
  ∃cs1 kS fI rest,bH (hp w) p R.k (α.hdr r) (dS α R r)=some (cs1,kS)∧
   Rel cx (aj σ r (dY R d z)) (aG α r (α.loc r) (α.hdr r) rest) (fI++F) a w∧
   kK cx σ α F w (aj σ r (dY R d z)) (aG α r (α.loc r) (α.hdr r) rest) (fI++F) w (pF r d.1.tys) (pF r (pq d.1++d.1.tys))∧
   Held cx (aj σ r (dY R d z)) (aG α r (α.loc r) (α.hdr r) rest) (fI++F) w d.1 d.2 R.own R.tags cs1 fI∧(∀tys,bq (aj σ r (dY R d z)) tys R.tags=bq σ tys R.tags)∧(α.fo r).Perm (fI++rest):=
 Xu (own':=R.own) H hr hv hg hz fK hown hpv (fun _ _=>rfl)
end
end
section
open Go
variable [Fr]
theorem Ka {own own':List TypeId}:∀{k:K},(∀t∈k.tys,au t own'=true→au t own=true)→∀t∈aS own k,t∈aS own' k:=by
 intro k
 induction k with
 | sl e k ih=>
  intro h t ht
  cases hm':au e own' with
  | true=>
   have hm:=h e (by simp [K.tys]) hm'
   simp only [aS,hm,cond_true] at ht
   simp only [aS,hm',cond_true]
   exact ih (fun t ht=>h t (by simp [K.tys,ht])) t ht
  | false=>
   have:=zu ht
   simpa [aS,hm',K.tys] using this
 | pair a b iha ihb=>
  intro h t ht
  simp only [aS,agl] at ht ⊢
  exact ht.imp (iha (fun t ht=>h t (by simp [K.tys,ht])) t) (ihb (fun t ht=>h t (by simp [K.tys,ht])) t)
 | st f ih=>intro h t ht; exact ih h t ht
 | _=>intro _ t ht; simp [aS] at ht
theorem Jd {own:List TypeId}:∀(n:Nat) {c:K} {x:El c} {s u y:Dat},aL n c x=some s→cB n c x u=some y→
  (∀e∈aS own u.1,e∈aS own y.1)∧((∀e∈aS own s.1,e∈aS own u.1)→∀e∈aS own c,e∈aS own y.1):=by
 intro n
 induction n with
 | zero=>
  intro c x s u y hg hp
  cases c with
  | pair a b=>
   simp only [aL,cB,agb] at hg hp
   subst hg; subst hp
   refine ⟨fun e he=>by simp [aS,he],fun h e he=>?_⟩
   simp only [aS,agl] at he ⊢
   exact he.imp (h e) id
  | _=>simp [aL] at hg
 | succ n ih=>
  intro c x s u y hg hp
  cases c with
  | pair a b=>
   simp only [aL,cB] at hg hp
   cases h3:cB n b x.2 u with
   | none=>rw [h3] at hp; simp at hp
   | some y2=>
    rw [h3] at hp
    simp only [agb] at hp
    subst hp
    obtain ⟨g1,g2⟩:=ih hg h3
    refine ⟨fun e he=>by simp [aS,g1 e he],fun h e he=>?_⟩
    simp only [aS,agl] at he ⊢
    exact he.imp id (g2 h e)
  | _=>simp [aL] at hg
theorem Ey {own:List TypeId}:∀(p:List Stp) {k:K} {x:El k} {d t z:Dat},aP p k x=some d→dU p k x t=some z→
  (∀e∈aS own t.1,e∈aS own z.1∨∃q∈aa p k,au q own=false)∧((∀e∈aS own d.1,e∈aS own t.1)→∀e∈aS own k,e∈aS own z.1):=by
 intro p
 induction p with
 | nil=>
  intro k x d t z hg hz
  simp only [aP,dU,agb] at hg hz
  subst hg; subst hz
  exact ⟨fun e he=>.inl he,fun h=>h⟩
 | cons s p ih=>
  intro k x d t z hg hz
  cases s with
  | fH n=>
   cases k with
   | st c=>
    simp only [aP,dU] at hg hz
    cases hcg:aL n c x with
    | none=>rw [hcg] at hg; simp at hg
    | some s=>
     rw [hcg] at hg hz
     simp only at hg hz
     cases hs':dU p s.1 s.2 t with
     | none=>rw [hs'] at hz; simp at hz
     | some u=>
      rw [hs'] at hz
      simp only at hz
      cases hcp:cB n c x u with
      | none=>rw [hcp] at hz; simp at hz
      | some y=>
       rw [hcp] at hz
       simp only [agb] at hz
       subst hz
       obtain ⟨g1,g2⟩:=ih hg hs'
       obtain ⟨f1,f2⟩:=Jd (own:=own) n hcg hcp
       have hpt:aa (.fH n :: p) (.st c)=aa p s.1:=by simp [aa,bY n hcg]
       rw [hpt]
       exact ⟨fun e he=>(g1 e he).imp (f1 e) id,fun h=>f2 (g2 h)⟩
   | _=>simp [aP] at hg
  | idx i=>
   cases k with
   | sl e k=>
    simp only [aP,dU] at hg hz
    cases hs':dU p k ((show List (El k) from x).getD i.toNat k.zero) t with
    | none=>rw [hs'] at hz; simp at hz
    | some u=>
     rw [hs'] at hz
     simp only at hz
     cases hck:bT u.1 k u.2 with
     | none=>rw [hck] at hz; simp at hz
     | some y=>
      rw [hck] at hz
      simp only [agb] at hz
      subst hz
      obtain ⟨g1,g2⟩:=ih hg hs'
      have huk:u.1=k:=by
       unfold bT at hck
       split at hck
       ·rename_i hb; exact K.eq_of_beq hb
       ·simp at hck
      refine ⟨fun e' he=>?_,fun _ e' he=>he⟩
      cases hm:au e own with
      | false=>exact .inr ⟨e,by simp [aa],hm⟩
      | true=>
       rcases g1 e' he with h | ⟨q,h1,h2⟩
       ·exact .inl (by simp only [aS,hm,cond_true]; rw [←huk]; exact h)
       ·exact .inr ⟨q,by simp [aa,h1],h2⟩
   | _=>simp [aP] at hg
theorem Gs:∀(n:Nat) {c:K} {x y:El c} {s:Dat},aL n c x=some s→∃t:Dat,aL n c y=some t∧t.1=s.1:=by
 intro n
 induction n with
 | zero=>
  intro c x y s h
  cases c <;> first | (simp only [aL,agb] at h; subst h; exact ⟨_,rfl,rfl⟩) | simp [aL] at h
 | succ n ih=>
  intro c x y s h
  cases c <;> first | exact ih h | simp [aL] at h
theorem LG:∀(n:Nat) {c:K} {x:El c} {s:Dat},aL n c x=some s→∀t∈s.1.tys,t∈c.tys:=by
 intro n
 induction n with
 | zero=>
  intro c x s h t ht
  cases c with
  | pair a b=>simp only [aL,agb] at h; subst h; simp [K.tys,ht]
  | _=>simp [aL] at h
 | succ n ih=>
  intro c x s h t ht
  cases c with
  | pair a b=>simp only [aL] at h; simp [K.tys,ih h t ht]
  | _=>simp [aL] at h
theorem qP {h h':Heap} {own:List TypeId}:∀(q:List Stp) {k:K} {x y:El k} {cs cs':List Value} {wh:Option (Nat×Nat)} {c0:List Value} {w0:Option (Nat×Nat)},
  kJ q k x→(∀t∈aa q k,au t own=true∧t∉k.tys)→bH h q k cs wh=some (c0,w0)→kJ q k y∧∃c1,bH h' q k cs' wh=some (c1,w0):=by
 intro q
 induction q with
 | nil=>
  intro k x y cs cs' wh c0 w0 _ _ hn
  simp only [bH,agb,agn] at hn ⊢
  exact ⟨trivial,_,rfl,hn.2⟩
 | cons s q ih=>
  intro k x y cs cs' wh c0 w0 hp ht hn
  cases s with
  | fH n=>
   cases k with
   | st c=>
    simp only [kJ] at hp
    cases hg:aL n c x with
    | none=>rw [hg] at hp; exact hp.elim
    | some s=>
     rw [hg] at hp
     simp only at hp
     have hpt:aa (.fH n :: q) (.st c)=aa q s.1:=by simp [aa,bY n hg]
     rw [hpt] at ht
     obtain ⟨t,g1,g2⟩:=Gs n (c:=c) (x:=x) (y:=y) hg
     obtain ⟨sk,sx⟩:=s
     obtain ⟨tk,ty⟩:=t
     simp only at g2
     subst g2
     simp only [bH] at hn ⊢
     cases ho:bB n c with
     | none=>rw [ho] at hn; simp at hn
     | some q2=>
      rw [ho] at hn
      simp only at hn
      have hk2:q2.2=tk:=by
       have key:∀(n:Nat) {c:K} {x:El c} {s:Dat} {q:Nat×K},aL n c x=some s→bB n c=some q→q.2=s.1:=by
        intro n
        induction n with
        | zero=>intro c x s q h1 h2; cases c with
         | pair a b=>simp only [aL,bB,agb] at h1 h2; subst h1; subst h2; rfl
         | _=>simp [aL] at h1
        | succ n ih=>intro c x s q h1 h2; cases c with
         | pair a b=>
          simp only [aL,bB] at h1 h2
          cases h3:bB n b with
          | none=>rw [h3] at h2; simp at h2
          | some q3=>rw [h3] at h2; simp only [agb] at h2; subst h2; exact ih (q:=q3) h1 h3
         | _=>simp [aL] at h1
       exact key n hg ho
      obtain ⟨o2,k2⟩:=q2
      simp only at hk2
      subst hk2
      simp only [kJ,g1]
      exact ih hp (fun t h=>⟨(ht t h).1,fun h2=>(ht t h).2 (LG n hg t h2)⟩) hn
   | _=>simp [kJ] at hp
  | idx i=>
   cases k with
   | sl e k=>exact absurd (by simp [K.tys]) (ht e (by simp [aa])).2
   | _=>simp [kJ] at hp
theorem yK {h:Heap} {b o n:Nat} {arr:Array Value} {e:TypeId} {fr:Nat×Nat} (hb:h b=some (.cells arr e fr)) (hl:o+n≤arr.size):Cells h b o (mY h b o n):=by
 intro i hi
 simp only [mY,List.length_map,List.length_range] at hi ⊢
 rw [List.getElem?_map,List.getElem?_range hi]
 simp only [Option.map_some]
 unfold cellAt
 rw [hb]
 simp [show o+i<arr.size by omega]
theorem gB.widen {h0 h h':Heap} {b o n o' n':Nat} (H0:gB h0 h b o n) (H:gB h h' b o' n') (h1:o≤o') (h2:o'+n'≤o+n):gB h0 h' b o n:=by
 obtain ⟨a0,a1,e,fr,g1,g2,g3,g4⟩:=H0
 obtain ⟨b0,b1,e',fr',f1,f2,f3,f4⟩:=H
 rw [g2] at f1
 simp only [agb,Obj.cells.injEq] at f1
 obtain ⟨rfl,rfl,rfl⟩:=f1
 exact ⟨a0,b1,e,fr,g1,f2,f3.trans g3,fun i hi=>(f4 i (by omega)).trans (g4 i hi)⟩
theorem cZ {l m:List Tag} {t:Tag}:t∈iw l m↔t∈l∨t∈m:=by
 induction l with
 | nil=>simp [iw]
 | cons s l ih=>
  obtain ⟨r,n⟩:=s
  simp only [iw]
  cases h:m.any fun t=>Nat.beq t.1 r && Nat.beq t.2 n with
  | true=>
   simp only [cond_true,ih,agp]
   constructor
   ·intro h; exact h.imp .inr id
   ·rintro ((h1 | h1) | h1)
    ·subst h1
     obtain ⟨t,h2,h3⟩:=List.any_eq_true.1 h
     simp only [agi] at h3
     obtain ⟨tr,tn⟩:=t
     have:=agf h3.1
     have:=agf h3.2
     simp_all
    ·exact .inl h1
    ·exact .inr h1
  | false=>simp only [cond_false,ih,agp,or_assoc]
theorem mH {r:Nat} {l:List Tag} {t:Tag}:t∈sw r l↔t∈l∧t.1≠r:=by
 unfold sw
 rw [agu]
 constructor
 ·rintro ⟨h1,h2⟩
  refine ⟨h1,fun e=>?_⟩
  rw [e] at h2
  simp at h2
 ·rintro ⟨h1,h2⟩
  refine ⟨h1, ?_⟩
  cases hb:Nat.beq t.1 r with
  | true=>exact absurd (agf hb) h2
  | false=>rfl
section
variable {cx:Cx} {σ:St} {α:dK} {F:List Nat} {a:Act} {w:World} {r:Nat} {R:Root}
theorem rM {T T':List Tag} {b:Nat} (h:gW cx σ α F w T b) (hs:∀t∈T,t∈T'):gW cx σ α F w T' b:=
 ⟨h.1,h.2.1,h.2.2.1,fun r R h1 h2=>by obtain ⟨n,hn⟩:=h.2.2.2.1 r R h1 h2; exact ⟨n,hs _ hn⟩,fun hb=>(h.2.2.2.2 hb).imp (fun ⟨j,n,h1,h2⟩=>⟨j,n,hs _ h1,h2⟩) id⟩
theorem nG {T T':List Tag} {tys Y0:List TypeId} (h:bq σ tys T=true) (hs:∀t∈T',t∈T) (ht:∀t∈Y0,t∈tys):bq σ Y0 T'=true:=by
 rw [lN] at h ⊢
 intro t h1
 rcases h t (hs t h1) with h | ⟨R,h2,h3,h4⟩
 ·exact .inl h
 ·refine .inr ⟨R,h2,h3, ?_⟩
  unfold clean at h4 ⊢
  rw [ags] at h4 ⊢
  intro x hx
  have:=h4 x hx
  simp only [Bool.not_eq_true',aT] at this ⊢
  exact fun h=>this (ht x h)
theorem lQ (H:Rel cx σ α F a w) (hr:aO σ r R) {b:Nat} (hb:b∈α.fo r):¬jU cx b:=by
 rintro ⟨j,pi,o,n,h1,h2⟩
 obtain ⟨Q,hQ,hk,hl,_⟩:=H.jV j pi b o n h1 h2
 have hbq:b∈blk α Q (ak j):=by simp [blk,dS,hk,hl]
 have hbr:b∈blk α R r:=agd _ hb
 by_cases e:r=ak j
 ·subst e
  have hQR:Q=R:=by have:=hQ.1; rw [hr.1] at this; simpa using this.symm
  subst hQR
  have hnd:=(H.roots _ _ hr).nd
  rw [bX,kL] at hnd
  exact hnd.1 b o (by simp [rZ,hk,hl]) hb
 ·exact H.AA _ _ _ _ hr hQ e b hbr hbq
theorem oV (H:Rel cx σ α F a w) {b:Nat} (hb:b∈F):¬jU cx b:=by
 rintro ⟨j,pi,o,n,h1,h2⟩
 obtain ⟨Q,hQ,hk,hl,_⟩:=H.jV j pi b o n h1 h2
 have hbq:b∈blk α Q (ak j):=by simp [blk,dS,hk,hl]
 exact H.iD _ _ hQ b hbq hb
def bI (R:Root) (z:Dat) (own:List TypeId) (tags:List Tag) (lw lh:List TypeId) (kp:Bool):Root:=
 { R with k:=z.1,x:=z.2,own:=own,tags:=tags,w:=lw++R.w,h:=lh++R.h,keep:=kp }
theorem mX (H:Rel cx σ α F a w) (hr:aO σ r R) (hv:bu σ R) {p:List Stp} {d:Dat} (hg:aP p R.k R.x=some d) (fK:kJ p R.k R.x) (hown:∀t∈aa p R.k,au t R.own=true)
  {cs1:List Value} {b o:Nat} (hn:bH (hp w) p R.k (α.hdr r) (dS α R r)=some (cs1,some (b,o))) :
  Cells (hp w) b o cs1∧(∃fI,Ow (hp w) R.own (gW cx σ α F w R.tags) d.1 d.2 cs1 fI∧∀b∈fI,b∈α.fo r)∧b∈blk α R r∧(∃arr e lo hi,hp w b=some (.cells arr e (lo,hi))∧yJ arr.size lo hi∧o+d.1.size≤arr.size∧((eG R p=e∧¬jU cx b)∨(jU cx b∧eG R p=SENT)))∧
   (∀b' o',dS α R r=some (b',o')→b=b'→o'≤o∧o+d.1.size≤o'+R.k.size):=by
 have K:=H.roots r R hr
 have hnd:=K.nd
 rw [bX,kL] at hnd
 obtain ⟨mM,fI,rest,kS,hn',hp1,hd1,hc1,hin,hnone,hup⟩:=focus p (K.ow hv) (fun b o e=>(K.mem b o e).1) hg fK hown hnd.2 (fun b o e=>hnd.1 b o e)
 rw [hn] at hn'
 simp only [agb,agn] at hn'
 obtain ⟨rfl,rfl⟩:=hn'
 refine ⟨hc1 b o rfl,⟨fI,hd1,fun b hb=>hp1.mem_iff.2 (agh _ hb)⟩, ?_, ?_, ?_⟩
 ·rw [bX,eT]
  rcases hin b o rfl with ⟨_,o0,ew,_⟩ | ⟨h1,_⟩
  ·exact .inl ⟨o0,ew⟩
  ·exact .inr (hp1.mem_iff.2 (agd _ h1))
 ·rcases hin b o rfl with ⟨h0,o0,ew,h1,h2⟩ | ⟨h1,arr,e,lo,hi,h2,h3,h4,h5⟩
  ·obtain ⟨_,arr,e,lo,hi,g1,g2,g3,g4⟩:=K.mem b o0 ew
   refine ⟨arr,e,lo,hi,g1,g2,by omega, ?_⟩
   unfold eG
   rw [h0]
   simp only [List.getLastD_nil]
   unfold Root.bt
   cases hk:R.kind with
   | var t=>
    refine .inl ⟨(g4 t hk).symm, ?_⟩
    rintro ⟨j,pi,o',n',h1',h2'⟩
    obtain ⟨Q,hQ,hkQ,hlQ,_⟩:=H.jV j pi b o' n' h1' h2'
    have hbq:b∈blk α Q (ak j):=by simp [blk,dS,hkQ,hlQ]
    have hbr:b∈blk α R r:=by rw [bX,eT]; exact .inl ⟨o0,ew⟩
    by_cases e:r=ak j
    ·subst e
     have hQR:Q=R:=by have:=hQ.1; rw [hr.1] at this; simpa using this.symm
     subst hQR
     rw [hk] at hkQ
     simp at hkQ
    ·exact H.AA _ _ _ _ hr hQ e b hbr hbq
   | par=>
    obtain ⟨j,pi,n,hj1,hj2,hj3⟩:=H.yz r R hr hk
    have:(α.loc r).1=b:=by
     have:=ew
     unfold dS at this
     rw [hk] at this
     simp only [agb] at this
     rw [this]
    exact .inr ⟨⟨j,pi,_,n,hj2,by rw [hj3,this]⟩,rfl⟩
   | anon=>unfold dS at ew; rw [hk] at ew; simp at ew
   | dead=>unfold dS at ew; rw [hk] at ew; simp at ew
  ·refine ⟨arr,e,lo,hi,h2,h3,h5, .inl ⟨?_,lQ H hr (hp1.mem_iff.2 (agd _ h1))⟩⟩
   unfold eG
   rw [List.getLastD_eq_getLast?,h4]
   rfl
 ·intro b' o' ew e
  subst e
  rcases hin b o rfl with ⟨_,o0,ew',h1,h2⟩ | ⟨h1,_⟩
  ·rw [ew] at ew'
   simp only [agb,agn,true_and] at ew'
   subst ew'
   exact ⟨h1,h2⟩
  ·exact absurd (hp1.mem_iff.2 (agd _ h1)) (hnd.1 b o' ew)
end
end
section
open Go
variable [Fr]
section
variable {cx:Cx} {σ:St} {α:dK} {F:List Nat} {a:Act} {w:World} {r:Nat} {R:Root}
structure o7 (cx:Cx) (σ:St) (α:dK) (F:List Nat) (w:World) (r:Nat) (R:Root) (p:List Stp) (d:Dat) (own':List TypeId) (cs1:List Value) (kS:Option (Nat×Nat)) (fI rest:List Nat)
  (t z:Dat) (tags':List Tag) (lw lh:List TypeId) (kp:Bool) (ft F':List Nat) (cs':List Value) (w':World):Prop where
 hz:dU p R.k R.x t=some z
 ht:t.1.size=d.1.size
 Mr:∀e∈aS own' d.1,e∈aS own' t.1
 os:w'.os=w.os∧w'.tape=w.tape∧w'.output=w.output
 size:w.heap.size≤w'.heap.size
 IB:∀b,b<w.heap.size→hp w' b≠hp w b→b∈F∨(b∈fI∧∃e∈lw,nH (hp w) b=some e)∨(∃o,kS=some (b,o)∧eG R p∈lw)
 cells:∀b o,kS=some (b,o)→Cells (hp w') b o cs'∧gB (hp w) (hp w') b o d.1.size
 none:kS=none→cs'=cs1
 len:cs'.length=d.1.size
 log:lw≠[]∨lh≠[]
 tags:(∀t∈R.tags,t∈tags')∧eP σ tags'∧∀n,(r,n)∉tags'
 KY:∀b∈ft,b∈fI∨b∈F∨(w.heap.size≤b∧b<w'.heap.size)
 ab7:ft.Nodup
 newF:∀b∈F',b∈F∨(w.heap.size≤b∧b<w'.heap.size)∨(b∈fI∧∃e∈lw,nH (hp w) b=some e)
 Zo:F'.Nodup
 ab6:∀b∈ft,b∉F'
 ado:qj t.1=qj d.1∨kS≠Option.none
 ab9:t.1=d.1∨(∀q',(aP q' t.1 t.2).isSome=true→(∀e∈aa q' t.1,e∉lh)→aa q' d.1=aa q' t.1∧(aP q' d.1 d.2).isSome=true)∨nD∈lh
 nav:nD∉lh→Av (hp w) (hp w') own' d.1 d.2 cs1 kS t cs' lh
 cont:∀α',kK cx σ α F w (aj σ r (bI R z own' tags' lw lh kp)) α' F' w' (pF r lw) (pF r lh)→(∀b∈blk α' (bI R z own' tags' lw lh kp) r,(∃o,dS α R r=some (b,o))∨b∈ft∨b∈rest)→
  bu (aj σ r (bI R z own' tags' lw lh kp)) (bI R z own' tags' lw lh kp)→Ow (hp w') own' (gW cx (aj σ r (bI R z own' tags' lw lh kp)) α' F' w' tags') t.1 t.2 cs' ft
theorem Rel.place (H:Rel cx σ α F a w) (hr:aO σ r R) (hv:bu σ R) {p:List Stp} {d:Dat} {own':List TypeId} (hg:aP p R.k R.x=some d) (fK:kJ p R.k R.x)
  (hsub:∀t,au t own'=true→au t R.own=true) (hown:∀t∈aa p R.k,au t own'=true) :
  ∃fd ok' fI rest cs1 kS,bH (hp w) p R.k (α.hdr r) (dS α R r)=some (cs1,kS)∧(α.fo r).Perm (fI++rest++fd)∧Ow (hp w) own' ok' d.1 d.2 cs1 fI∧(∀b∈fI++rest,∃e∈R.k.tys,au e own'=true∧nH (hp w) b=some e)∧
   ((∀t∈R.k.tys,au t own'=au t R.own)→fd=[]∧Ow (hp w) own' (gW cx σ α F w R.tags) d.1 d.2 cs1 fI)∧
   (∀b o,kS=some (b,o)→b∈rest∨∃o0,dS α R r=some (b,o0)∧o0≤o∧o+d.1.size≤o0+R.k.size)∧(∀b o,kS=some (b,o)→b∉fI)∧
   ∀{t z:Dat} {tags':List Tag} {lw lh:List TypeId} {kp:Bool} {ft F':List Nat} {cs':List Value} {w':World},o7 cx σ α F w r R p d own' cs1 kS fI rest t z tags' lw lh kp ft F' cs' w'→
    ∃α',Rel cx (aj σ r (bI R z own' tags' lw lh kp)) α' F' a w'∧kK cx σ α F w (aj σ r (bI R z own' tags' lw lh kp)) α' F' w' (pF r lw) (pF r lh)∧(∀b∈blk α' (bI R z own' tags' lw lh kp) r,(∃o,dS α R r=some (b,o))∨b∈ft∨b∈rest)∧
     (nD∉lh→bu (aj σ r (bI R z own' tags' lw lh kp)) (bI R z own' tags' lw lh kp)→bH (hp w') p z.1 (α'.hdr r) (dS α' (bI R z own' tags' lw lh kp) r)=some (cs',kS))∧∀b∈ft,b∈α'.fo r:=by
 have K:=H.roots r R hr
 have hnd:=K.nd
 rw [bX,kL] at hnd
 have hO:=K.ow hv
 obtain ⟨DY,fd,hpK,hOK,hfd0⟩:∃DY fd,(α.fo r).Perm (DY++fd)∧Ow (hp w) own' (fun b=>(gW cx σ α F w R.tags b∨b∈fd)∧∃t∈aS own' R.k,ry (hp w) b t) R.k R.x (α.hdr r) DY∧((∀t∈R.k.tys,au t own'=au t R.own)→fd=[]):=by
  by_cases hall:∀t∈R.k.tys,au t own'=au t R.own
  ·exact ⟨α.fo r,[],by simp,oZ _ (fun _ h=>h) (bz (fun _ _=>rfl) (fun _ h=>.inl h) (fun _ _=>rfl) (ou hall hO)),fun _=>rfl⟩
  ·obtain ⟨DY,fd,h1,h2⟩:=qL (own':=own') (fun t _ h=>hsub t h) hO
   exact ⟨DY,fd,h1,oZ _ (fun _ h=>h) h2,fun h=>absurd h hall⟩
 have UG:=hpK.nodup hnd.2
 have acH:∀b,b∈α.fo r↔b∈DY∨b∈fd:=fun b=>by rw [hpK.mem_iff,agl]
 obtain ⟨cs1,fI,rest,kS,hn,hp1,hd1,hc1,hin,hnone,hup⟩:=focus p hOK (fun b o e=>(K.mem b o e).1) hg fK hown (agj.1 UG).1 (fun b o e hb=>hnd.1 b o e ((acH b).2 (.inl hb)))
 have hpf:(α.fo r).Perm (fI++rest++fd):=hpK.trans (List.Perm.append_right _ hp1)
 have hfo:∀b,b∈α.fo r↔(b∈fI∨b∈rest)∨b∈fd:=fun b=>by rw [hpf.mem_iff,agl,agl]
 have Mk:=hpf.nodup hnd.2
 have GZ:=(agj.1 Mk).1
 have adi:=qb hOK
 have uN:∀b o,kS=some (b,o)→b∈rest∨∃o0,dS α R r=some (b,o0)∧o0≤o∧o+d.1.size≤o0+R.k.size:=by
  intro b o e
  rcases hin b o e with ⟨_,o0,ew,h1,h2⟩ | ⟨h1,_⟩
  ·exact .inr ⟨o0,ew,h1,h2⟩
  ·exact .inl h1
 have UX:∀b o,kS=some (b,o)→b∉fI:=by
  intro b o e hb
  rcases uN b o e with h | ⟨o0,ew,_⟩
  ·exact (agj.1 GZ).2.2 b hb b h rfl
  ·exact hnd.1 b o0 ew ((hfo b).2 (.inl (.inl hb)))
 have Yp:∀b o,kS=some (b,o)→b∉fd:=by
  intro b o e hb
  rcases uN b o e with h | ⟨o0,ew,_⟩
  ·exact (agj.1 Mk).2.2 b (agd _ h) b hb rfl
  ·exact hnd.1 b o0 ew ((hfo b).2 (.inr hb))
 refine ⟨fd,_,fI,rest,cs1,kS,hn,hpf,hd1,fun b hb=>adi b (hp1.mem_iff.2 hb), ?_,uN,UX, ?_⟩
 ·intro hall
  have h0:=hfd0 hall
  refine ⟨h0,bz (fun _ _=>rfl) (fun b hb=>?_) (fun _ _=>rfl) hd1⟩
  rcases hb.1 with hb | hb
  ·exact hb
  ·rw [h0] at hb; simp at hb
 intro t z tags' lw lh kp ft F' cs' w' P
 generalize hR':bI R z own' tags' lw lh kp=R' at *
 have Ez:R'.k=z.1:=by rw [←hR']; rfl
 have hkind:R'.kind=R.kind:=by rw [←hR']; rfl
 have XM:R'.bn=false:=by rw [Mx hkind]; exact hr.2
 have Xz:R'.own=own':=by rw [←hR']; rfl
 have Om:R'.tags=tags':=by rw [←hR']; rfl
 have hRg:R'.g=R.g:=by rw [←hR']; rfl
 have hRw:R'.w=lw++R.w:=by rw [←hR']; rfl
 have hRh:R'.h=lh++R.h:=by rw [←hR']; rfl
 have hsz:z.1.size=R.k.size:=zm p hg P.ht P.hz
 have jc:∀b,b∈fI∨b∈rest∨b∈fd∨(∃o,dS α R r=some (b,o))→b∈blk α R r:=by
  intro b hb
  rw [bX,eT,hfo]
  rcases hb with h | h | h | h
  ·exact .inr (.inl (.inl h))
  ·exact .inr (.inl (.inr h))
  ·exact .inr (.inr h)
  ·exact .inl h
 have Ah:∀b∈blk α R r,b∉F:=fun b hb=>H.iD r R hr b hb
 have hblt:∀b∈blk α R r,b<w.heap.size:=fun b hb=>(K.mine b hb).1
 have Ut:∀b∈blk α R r,b∉fI→b∉F':=fun b hb hno h=>by
  rcases P.newF b h with h | h | h
  ·exact Ah b hb h
  ·have:=hblt b hb; omega
  ·exact hno h.1
 have OV:∀b∈blk α R r,b∉fI→(∀o,kS≠some (b,o))→hp w' b=hp w b:=by
  intro b hb h1 h2
  refine agz fun hne=>?_
  rcases P.IB b (hblt b hb) hne with h | ⟨h,_⟩ | ⟨o,h,_⟩
  ·exact Ah b hb h
  ·exact h1 h
  ·exact h2 o h
 have Rb:∀b∈fd,hp w' b=hp w b:=fun b hb=>OV b (jc b (.inr (.inr (.inl hb))))
  (fun h=>(agj.1 Mk).2.2 b (agh _ h) b hb rfl) (fun o e=>Yp b o e hb)
 have Mo:∀b∈rest,kS.map (·.1)≠some b→hp w' b=hp w b:=fun b hb hne=>OV b (jc b (.inr (.inl hb)))
  (fun h=>(agj.1 GZ).2.2 b h b hb rfl) (fun o e=>hne (by rw [e]; rfl))
 have KN:∀b o,dS α R r=some (b,o)→kS.map (·.1)≠some b→hp w' b=hp w b:=fun b o e hne=>OV b (jc b (.inr (.inr (.inr ⟨o,e⟩))))
  (fun h=>hnd.1 b o e ((hfo b).2 (.inl (.inl h)))) (fun o e=>hne (by rw [e]; rfl))
 let hdr':=match dS α R r with
  | some (b0,o0)=>mY (hp w') b0 o0 R.k.size
  | none=>α.hdr r
 have hT1:vo cx σ α F w r R R' (ft++rest) F' w' lw lh:=by
  refine ⟨.inr ⟨hRw,hRh,by rw [hRg]; exact agt _,hkind,fun _=>by rw [Ez]; exact hsz,P.log⟩,by rw [Om]; exact P.tags.2,P.os,P.size, ?_, ?_, ?_,P.Zo, ?_, ?_,fun _=>by rw [←hR']; exact ⟨rfl,rfl⟩⟩
  ·intro b hb hne
   rcases P.IB b hb hne with h | ⟨h,h2⟩ | ⟨o,h,h2⟩
   ·exact .inl h
   ·exact .inr ⟨jc b (.inl h), .inr (.inl h2)⟩
   ·have hbb:b∈blk α R r:=jc b (by
     rcases uN b o h with h | ⟨o0,ew,_⟩
     ·exact .inr (.inl h)
     ·exact .inr (.inr (.inr ⟨o0,ew⟩)))
    refine .inr ⟨hbb, .inr ?_⟩
    rcases hin b o h with ⟨h0,o0,ew,_⟩ | ⟨_,arr,e,lo,hi,g1,_,g3,_⟩
    ·
     obtain ⟨_,arr,e,lo,hi,g1,g2,g3,g4⟩:=K.mem b o0 ew
     unfold eG at h2
     rw [h0] at h2
     simp only [List.getLastD_nil] at h2
     cases hk:R.kind with
     | var tv=>
      refine .inl ⟨tv, ?_, ?_⟩
      ·unfold Root.bt at h2; rw [hk] at h2; exact h2
      ·unfold nH; rw [g1]; simp [g4 tv hk]
     | par=>
      obtain ⟨j,pi,n,hj1,hj2,hj3⟩:=H.yz r R hr hk
      have:(α.loc r).1=b:=by
       have:=ew
       unfold dS at this
       rw [hk] at this
       simp only [agb] at this
       rw [this]
      exact .inr ⟨⟨j,pi,_,n,hj2,by rw [hj3,this]⟩,fun e=>by rw [e] at h2; simp at h2⟩
     | anon=>unfold dS at ew; rw [hk] at ew; simp at ew
     | dead=>unfold dS at ew; rw [hk] at ew; simp at ew
    ·refine .inl ⟨e, ?_,by unfold nH; rw [g1]⟩
     unfold eG at h2
     rw [List.getLastD_eq_getLast?,g3] at h2
     exact h2
  ·intro _ b hb
   rw [lM hkind,eT,agl] at hb
   rcases hb with ⟨o,h⟩ | h | h
   ·exact .inl (jc b (.inr (.inr (.inr ⟨o,h⟩))))
   ·rcases P.KY b h with h | h | h
    ·exact .inl (jc b (.inl h))
    ·exact .inr (.inl h)
    ·exact .inr (.inr h)
   ·exact .inl (jc b (.inr (.inl h)))
  ·intro b hb
   rcases P.newF b hb with h | h | h
   ·exact .inl h
   ·exact .inr (.inl h)
   ·exact .inr (.inr ⟨jc b (.inl h.1), .inr (.inl h.2)⟩)
  ·intro _ b hb
   rw [lM hkind,eT,agl] at hb
   rcases hb with ⟨o,h⟩ | h | h
   ·exact Ut b (jc b (.inr (.inr (.inr ⟨o,h⟩)))) (fun h1=>hnd.1 b o h ((hfo b).2 (.inl (.inl h1))))
   ·exact P.ab6 b h
   ·exact Ut b (jc b (.inr (.inl h))) (fun h1=>(agj.1 GZ).2.2 b h1 b h rfl)
  ·intro j pi b o n hj hb Vr hne
   obtain ⟨Q,hQ,hk,hl,hs⟩:=H.jV j pi b o n hj hb
   have hQR:Q=R:=by have:=hQ.1; rw [←Vr,hr.1] at this; simpa using this.symm
   subst hQR
   have hwb:dS α Q r=some (b,o):=by unfold dS; rw [hk,Vr,hl]
   have hbb:=jc b (.inr (.inr (.inr ⟨o,hwb⟩)))
   obtain ⟨_,_,_,_,_,f6⟩:=H.frame
   have h0:=f6 j pi b o n hj hb
   rcases P.IB b (hblt b hbb) hne with h | ⟨h,_⟩ | ⟨o',h,_⟩
   ·exact absurd h (Ah b hbb)
   ·exact absurd ((hfo b).2 (.inl (.inl h))) (hnd.1 b o hwb)
   ·rcases uN b o' h with h1 | ⟨o0,ew,h1,h2⟩
    ·exact absurd ((hfo b).2 (.inl (.inr h1))) (hnd.1 b o hwb)
    ·rw [hwb] at ew
     simp only [agb,agn,true_and] at ew
     subst ew
     exact h0.widen (P.cells b o' h).2 h1 (by omega)
 have hT:=hT1.turn (hdr':=hdr') H hr
 have hblk':∀b∈blk (aG α r (α.loc r) hdr' (ft++rest)) R' r,(∃o,dS α R r=some (b,o))∨b∈ft∨b∈rest:=by
  intro b hb
  rw [eD,lM hkind,eT,agl] at hb
  exact hb
 have hwhole:bu (aj σ r R') R'→Ow (hp w') own' (gW cx (aj σ r R') (aG α r (α.loc r) hdr' (ft++rest)) F' w' tags') z.1 z.2 hdr' (ft++rest)∧
   (nD∉lh→(t.1=d.1→z.1=R.k)∧Av (hp w) (hp w') own' R.k R.x (α.hdr r) (dS α R r) z hdr' lh∧bH (hp w') p z.1 hdr' (dS α R r)=some (cs',kS)):=by
  intro hv'
  have hcont:=P.cont _ (by rw [hR']; exact hT) (by rw [hR']; exact hblk') (by rw [hR']; exact hv')
  rw [hR'] at hcont
  have Mr:∀e∈aS own' R.k,e∈R'.wH:=by
   unfold Root.wH
   rw [Xz,Ez]
   exact (Ey p hg P.hz).2 P.Mr
  have hc2:=hv'.2
  rw [Om] at hc2
  obtain ⟨_,hV,_⟩:=hT.views H R.tags (aS own' R.k) (H.dn r R hr.1).1 (nG hc2 P.tags.1 Mr)
  have hok:∀b,((gW cx σ α F w R.tags b∨b∈fd)∧∃t∈aS own' R.k,ry (hp w) b t)→gW cx (aj σ r R') (aG α r (α.loc r) hdr' (ft++rest)) F' w' tags' b∧hp w' b=hp w b:=by
   rintro b ⟨hb,hty⟩
   rcases hb with hb | hb
   ·obtain ⟨h1,h2⟩:=hV b hb (.inl hty)
    exact ⟨rM h1 P.tags.1,h2⟩
   ·have hbb:=jc b (.inr (.inr (.inl hb)))
    refine ⟨⟨Nat.lt_of_lt_of_le (hblt b hbb) P.size,Ut b hbb (fun h1=>(agj.1 Mk).2.2 b (agh _ h1) b hb rfl),lQ H hr ((hfo b).2 (.inr hb)), ?_, ?_⟩,Rb b hb⟩
    ·intro q Q hq hbq
     exfalso
     rcases iR hq with ⟨rfl,rfl,_⟩ | ⟨e,hq'⟩
     ·rcases hblk' b hbq with ⟨o,h⟩ | h | h
      ·exact hnd.1 b o h ((hfo b).2 (.inr hb))
      ·rcases P.KY b h with h | h | h
       ·exact (agj.1 Mk).2.2 b (agh _ h) b hb rfl
       ·exact Ah b hbb h
       ·have:=hblt b hbb; omega
      ·exact (agj.1 Mk).2.2 b (agd _ h) b hb rfl
     ·rw [(gK (α:=α) (σ:=σ) (R:=R') e).blk] at hbq
      exact H.AA _ _ _ _ hr hq' (Ne.symm e) b hbb hbq
    ·intro hb0
     rcases (K.mine b hbb).2 with h | ⟨j,pi,h1,h2⟩
     ·omega
     ·exact .inr ⟨j,pi,h1,h2⟩
  obtain ⟨csn,hl0,BZ,hC',hN',hK'⟩:=hup.go (hp w') (gW cx (aj σ r R') (aG α r (α.loc r) hdr' (ft++rest)) F' w' tags') t cs' ft z P.hz P.len hcont hok Mo P.cells P.none KN
  have XL:csn=hdr':=by
   cases hw:dS α R r with
   | none=>
    have:hdr'=α.hdr r:=by simp only [hdr']; rw [hw]
    rw [this]
    exact hN' hw
   | some q=>
    have:hdr'=mY (hp w') q.1 q.2 R.k.size:=by simp only [hdr']; rw [hw]
    rw [this]
    have h1:=gN (hC' q.1 q.2 hw)
    rw [hl0,K.len] at h1
    exact h1.symm
  rw [XL] at BZ
  refine ⟨BZ,fun qy=>?_⟩
  have:=hK' lh P.ht (P.nav qy)
  rw [XL] at this
  exact ⟨this.1,this.2.2⟩
 refine ⟨aG α r (α.loc r) hdr' (ft++rest),hT1.rel H hr ?_ ?_ ?_,hT,hblk',fun hgn hv'=>by
  have h3:=((hwhole hv').2 hgn).2.2
  have OY:dS (aG α r (α.loc r) hdr' (ft++rest)) R' r=dS α R r:=by rw [jg,qZ hkind, ←qw]
  have JC:(aG α r (α.loc r) hdr' (ft++rest)).hdr r=hdr':=by simp [aG,upd_same]
  rw [OY,JC]
  exact h3,fun b hb=>by
  have acG:(aG α r (α.loc r) hdr' (ft++rest)).fo r=ft++rest:=by simp [aG,upd_same]
  rw [acG]
  exact agh _ hb⟩
 ·intro _
  refine ⟨fun hv'=>?_, ?_, ?_, ?_⟩
  ·have:=(hwhole hv').1
   subst hR'
   exact this
  ·rw [Ez,hsz]
   simp only [hdr']
   cases hw:dS α R r with
   | none=>exact K.len
   | some q=>simp [mY]
  ·intro b o hb
   rw [qZ hkind, ←qw] at hb
   have hh:hdr'=mY (hp w') b o R.k.size:=by simp only [hdr']; rw [hb]
   obtain ⟨_,arr,e,lo,hi,g1,g2,g3,g4⟩:=K.mem b o hb
   have hnew:∃jH,hp w' b=some (.cells jH e (lo,hi))∧jH.size=arr.size:=by
    by_cases hbw:kS.map (·.1)=some b
    ·cases UW:kS with
     | none=>rw [UW] at hbw; simp at hbw
     | some q=>
      rw [UW] at hbw
      simp only [Option.map_some,agb] at hbw
      obtain ⟨a1,a2,te,fr,f1,f2,f3,_⟩:=(P.cells q.1 q.2 UW).2
      rw [hbw] at f1 f2
      rw [g1] at f1
      simp only [agb,Obj.cells.injEq] at f1
      obtain ⟨rfl,rfl,rfl⟩:=f1
      exact ⟨a2,f2,f3⟩
    ·exact ⟨arr,(KN b o hb hbw).trans g1,rfl⟩
   obtain ⟨jH,f1,f2⟩:=hnew
   refine ⟨?_,jH,e,lo,hi,f1,by rw [f2]; exact g2,by rw [f2,Ez,hsz]; exact g3,fun tv hk=>g4 tv (hkind▸hk)⟩
   rw [hh]
   exact yK f1 (by rw [f2]; exact g3)
  ·rw [lM hkind,kL]
   refine ⟨fun b o hb h=>?_,agj.2 ⟨P.ab7,(agj.1 GZ).2.1,fun b h1 c h2 e=>?_⟩⟩
   ·have hbb:=jc b (.inr (.inr (.inr ⟨o,hb⟩)))
    rcases agl.1 h with h | h
    ·rcases P.KY b h with h | h | h
     ·exact hnd.1 b o hb ((hfo b).2 (.inl (.inl h)))
     ·exact Ah b hbb h
     ·have:=hblt b hbb; omega
    ·exact hnd.1 b o hb ((hfo b).2 (.inl (.inr h)))
   ·subst e
    have hbb:=jc b (.inr (.inl h2))
    rcases P.KY b h1 with h | h | h
    ·exact (agj.1 GZ).2.2 b h b h2 rfl
    ·exact Ah b hbb h
    ·have:=hblt b hbb; omega
 ·intro _ q n v hn' hold
  refine ⟨hold.1, ?_⟩
  intro Q hQ Rp hcl hty hsome
  have hQ':Q=R':=by
   rw [aH] at hQ
   simpa using hQ.symm
  subst hQ'
  have OY:dS (aG α r (α.loc r) hdr' (ft++rest)) Q r=dS α R r:=by rw [jg,qZ hkind, ←qw]
  have JC:(aG α r (α.loc r) hdr' (ft++rest)).hdr r=hdr':=by simp [aG,upd_same]
  rw [OY,JC]
  rw [hRh,mD hn'] at hcl
  by_cases hq:q=[]
  ·subst hq
   obtain ⟨_,cs,b,o,h1,h2⟩:=hold.2 R hr.1 hv (by simp [clean,dW,au]) (fun t ht=>by simp [aa] at ht) rfl
   simp only [bH,agb,agn] at h1
   exact ⟨trivial,hdr',b,o,by simp only [bH]; rw [h1.2],h2⟩
  ·have hpt:∀k,dW q k=nD :: aa q k:=by
    intro k
    cases q with
    | nil=>exact absurd rfl hq
    | cons s q=>rfl
   rw [hpt] at hcl
   have hgn:nD∉lh:=fun hm=>hcl.1 nD hm (by simp)
   obtain ⟨hk,hnk,_⟩:=(hwhole Rp).2 hgn
   subst hR'
   have Sr:aa q R.k=aa q z.1∧(aP q R.k R.x).isSome=true:=by
    rcases P.ab9 with h | h | h
    ·have hk:=hk h
     obtain ⟨zk,zx⟩:=z
     simp only at hk
     subst hk
     exact ⟨rfl,by rw [nP q (y:=zx)]; exact hsome⟩
    ·exact Eu (bad:=lh) p q hg P.hz h hsome (fun e he hm=>hcl.1 e hm (agB _ he))
    ·exact absurd h hgn
   have hpe:aa q (bI R z own' tags' lw lh kp).k=aa q R.k:=Sr.1.symm
   rw [hpe] at hcl hty
   have acB:∀t∈lh,t∉nD :: aa q R.k:=hcl.1
   obtain ⟨g1,cs,b,o,g2,g3⟩:=hold.2 R hr.1 hv (by rw [hpt]; exact hcl.2) (fun t ht=>hsub t (hty t ht)) Sr.2
   obtain ⟨f1,c1,f2⟩:=hnk q cs (some (b,o)) g1 (fun t ht=>⟨hty t ht,fun h=>acB t h (agB _ ht)⟩) g2 hsome
   exact ⟨f1,c1,b,o,f2,g3⟩
 ·intro _ g v hg' hold Q hQ Ze
  obtain ⟨hQ',_⟩:=eH hQ
  subst hQ'
  obtain ⟨h1,h2⟩:=hold R hr (hRg▸Ze)
  have hw:dS α R r=none:=by unfold dS; rw [h1]
  have hh:hdr'=α.hdr r:=by simp only [hdr']; rw [hw]
  have JC:(aG α r (α.loc r) hdr' (ft++rest)).hdr r=hdr':=by simp [aG,upd_same]
  rw [JC,hh,hkind]
  refine ⟨h1, ?_⟩
  rw [Ez]
  refine (Kr ?_).2 h2
  by_cases hp:p=[]
  ·subst hp
   have hz:=P.hz
   simp only [dU,aP,agb] at hz hg
   subst hz
   rcases P.ado with h | h
   ·rw [h, ←hg]
   ·simp only [bH,agb,agn] at hn
    rw [←hn.2,hw] at h
    exact absurd rfl h
  ·exact Er hp P.hz
end
end
section
open Go
variable [Fr]
theorem tV:∀{k:K},k.flat=true→k.tys=[]:=by
 intro k
 induction k with
 | sl e k ih=>intro h; simp [K.flat] at h
 | gap n=>intro h; simp [K.flat] at h
 | pair a b iha ihb=>intro h; simp only [K.flat,agi] at h; simp [K.tys,iha h.1,ihb h.2]
 | st f ih=>intro h; exact ih h
 | _=>intro _; rfl
theorem QC {h h':Heap} {own own':List TypeId} {ok ok':Nat→Prop}:∀{k:K} {x:El k} {cs:List Value} {fo:List Nat},k.flat=true→Ow h own ok k x cs fo→fo=[]∧Ow h' own' ok' k x cs []:=by
 intro k
 induction k with
 | sl e k ih=>intro x cs fo h; simp [K.flat] at h
 | gap n=>intro x cs fo h; simp [K.flat] at h
 | pair a b iha ihb=>
  intro x cs fo h H
  simp only [K.flat,agi] at h
  obtain ⟨c1,c2,f1,f2,e,hp,h1,h2⟩:=H
  obtain ⟨g1,k1⟩:=iha h.1 h1
  obtain ⟨g2,k2⟩:=ihb h.2 h2
  subst g1; subst g2
  exact ⟨hp.eq_nil,c1,c2,[],[],e, .refl _,k1,k2⟩
 | st f ih=>intro x cs fo h H; exact ih (x:=x) h H
 | int ik=>intro x cs fo _ H; exact ⟨H.1,rfl,H.2⟩
 | bool=>intro x cs fo _ H; exact ⟨H.1,rfl,H.2⟩
 | id e=>intro x cs fo _ H; exact ⟨H.1,rfl,H.2⟩
 | str=>intro x cs fo _ H; exact ⟨H.1,rfl,H.2⟩
 | unit=>intro x cs fo _ H; exact ⟨H.1,rfl,H.2⟩
theorem Rs {ik:IntKind} {n:Int} (h:Vt ik n=true):CO ik n:=by
 cases ik <;> simp_all [Vt,CO,Vt.Int.blt,Vt.Int.ble]
theorem bO {a b:K} {x:El a} {y:El b} (h:bT a b x=some y):∃e:a=b,y=e▸x:=by
 unfold bT at h
 split at h
 ·rename_i hb
  simp only [agb] at h
  exact ⟨K.eq_of_beq hb,h.symm⟩
 ·simp at h
section
variable {A:Type} {cx:Cx} {σ:St} {α:dK} {F:List Nat} {a:Act} {w:World} {z:A}
theorem fM {k:Prog A} {tys:List TypeId}:∀{T:List Tag},(kZ T tys k).ends σ z→bq σ tys T=true∧k.ends σ z:=by
 intro T
 induction T with
 | nil=>intro h; exact ⟨rfl,h⟩
 | cons t T ih=>
  obtain ⟨r,n⟩:=t
  intro h
  simp only [kZ] at h
  cases he:fG r with
  | true=>
   rw [he] at h
   obtain ⟨h1,h2⟩:=ih h
   exact ⟨by simp [bq,he,h1],h2⟩
  | false=>
   rw [he] at h
   simp only [cond_false,Prog.ends] at h
   cases hr:σ.roots r with
   | none=>rw [hr] at h; exact h.elim
   | some R=>
    rw [hr] at h
    simp only at h
    cases hc:(!R.bn && clean R.w n tys) with
    | false=>rw [hc] at h; exact h.elim
    | true=>
     rw [hc] at h
     obtain ⟨h1,h2⟩:=ih h
     exact ⟨by simp only [bq,he,hr,cond_false]; rw [hc,h1]; rfl,h2⟩
theorem cK {r:Nat} {k:Root→Prog A} (h:(oN r k).ends σ z):∃R,aO σ r R∧bu σ R∧(k R).ends σ z:=by
 unfold oN at h
 simp only [Prog.ends] at h
 cases hr:σ.roots r with
 | none=>rw [hr] at h; exact h.elim
 | some R=>
  rw [hr] at h
  simp only at h
  cases hd:R.bn with
  | true=>rw [hd] at h; exact h.elim
  | false=>
   rw [hd] at h
   obtain ⟨h1,h2⟩:=fM h
   exact ⟨R,⟨hr,hd⟩,⟨hd,h1⟩,h2⟩
theorem Rz (v:Value):bJ cx σ α F w (Pk v) v∧oz σ (Pk v):=by
 unfold Pk
 split
 ·rename_i k n
  cases h:Vt k n with
  | true=>exact ⟨fun _=>⟨[.int k n],⟨rfl,by simp⟩,rfl,Rs h⟩,fun t ht=>by simp at ht⟩
  | false=>exact ⟨trivial,trivial⟩
 ·exact ⟨fun _=>⟨_,⟨rfl,by simp⟩,rfl⟩,fun t ht=>by simp at ht⟩
 ·rename_i s
  exact ⟨fun _=>⟨_,⟨rfl,by simp⟩,s,rfl,rfl⟩,fun t ht=>by simp at ht⟩
 ·exact ⟨⟨none,rfl⟩,trivial⟩
 ·exact ⟨rfl,trivial⟩
 ·exact ⟨trivial,trivial⟩
theorem pg (H:Rel cx σ α F a w) {x:Operand} {k:sN→Prog A} (h:(qD x k).ends σ z):∃v1,iM cx σ α F w v1 (a.eval x)∧sQ σ v1∧(k v1).ends σ z:=by
 cases x with
 | tmp t=>exact ⟨σ.slots t,H.slots t,H.oO t,h⟩
 | const v=>obtain ⟨h1,h2⟩:=Rz (cx:=cx) (σ:=σ) (α:=α) (F:=F) (w:=w) v; exact ⟨.one (Pk v),h1,h2,h⟩
 | func f=>exact ⟨.one (.fn f []),⟨[],rfl,trivial⟩,fun c hc=>by simp at hc,h⟩
 | global g=>exact h.elim
theorem bR (H:Rel cx σ α F a w) {x:Operand} {k:AV→Prog A} (h:(dL x k).ends σ z):∃v1,bJ cx σ α F w v1 (a.eval x)∧oz σ v1∧(k v1).ends σ z:=by
 obtain ⟨v1,h1,h2,h3⟩:=pg H h
 cases v1 with
 | one v=>exact ⟨v,h1,h2,h3⟩
 | C8 l=>exact h3.elim
 | lit _ _ _=>exact h3.elim
def evs (a:Act) (l:List (Nat×Operand)):List (Nat×Value):=l.map fun p=>(p.1,a.eval p.2)
theorem yX (H:Rel cx σ α F a w):∀{l:List (Nat×Operand)} {k:List (Nat×AV)→Prog A},(wK l k).ends σ z→
  ∃vs:List (Nat×AV),vs.map (·.1)=l.map (·.1)∧dQ cx σ α F w (vs.map (·.2)) ((evs a l).map (·.2))∧(∀v∈vs,oz σ v.2)∧(k vs).ends σ z:=by
 intro l
 induction l with
 | nil=>intro k h; exact ⟨[],rfl,trivial,by simp,h⟩
 | cons p l ih=>
  obtain ⟨n,x⟩:=p
  intro k h
  simp only [wK] at h
  obtain ⟨v,h1,h2,h3⟩:=bR H h
  obtain ⟨vs,g1,g2,g3,g4⟩:=ih h3
  exact ⟨(n,v) :: vs,by simp [g1],⟨h1,g2⟩,by simpa using ⟨h2,fun a b hb=>g3 (a,b) hb⟩,g4⟩
theorem iN (H:Rel cx σ α F a w):∀{l:List Operand} {k:List AV→Prog A},(ji l k).ends σ z→
  ∃vs:List AV,dQ cx σ α F w vs (l.map a.eval)∧(∀v∈vs,oz σ v)∧(k vs).ends σ z:=by
 intro l
 induction l with
 | nil=>intro k h; exact ⟨[],trivial,by simp,h⟩
 | cons x l ih=>
  intro k h
  simp only [ji] at h
  obtain ⟨v,h1,h2,h3⟩:=bR H h
  obtain ⟨vs,g2,g3,g4⟩:=ih h3
  exact ⟨v :: vs,⟨h1,g2⟩,by simpa using ⟨h2,g3⟩,g4⟩
theorem sI {ik:IntKind} {n:Int} {T:List Tag} {v:Value} (h:bJ cx σ α F w (.val (.int ik) n T) v):v=.int ik n∧CO ik n:=by
 obtain ⟨cs,h1,h2,h3⟩:=h (.inl rfl)
 obtain ⟨h5,_⟩:cs=[v]∧_:=h1
 rw [h5] at h2
 simp only [List.cons.injEq,and_true] at h2
 exact ⟨h2,h3⟩
theorem uf {b:Bool} {T:List Tag} {v:Value} (h:bJ cx σ α F w (.val .bool b T) v):v=.bool b:=by
 obtain ⟨cs,h1,h2⟩:=h (.inl rfl)
 obtain ⟨h5,_⟩:cs=[v]∧_:=h1
 have h2':cs=[.bool b]:=h2
 rw [h5] at h2'
 simpa using h2'
theorem sJ {s:List Int} {T:List Tag} {v:Value} (h:bJ cx σ α F w (.val .str s T) v):∃B:ByteArray,v=.string B∧s=bytesOf B:=by
 obtain ⟨cs,h1,B,h2,h3⟩:=h (.inl rfl)
 obtain ⟨h5,_⟩:cs=[v]∧_:=h1
 rw [h5] at h2
 simp only [List.cons.injEq,and_true] at h2
 exact ⟨B,h2,h3⟩
theorem JM {ik:IntKind} {n:Int} {T:List Tag} (h:CO ik n):bJ cx σ α F w (.val (.int ik) n T) (.int ik n):=fun _=>⟨[.int ik n],⟨rfl,by simp⟩,rfl,h⟩
theorem RA {b:Bool} {T:List Tag}:bJ cx σ α F w (.val .bool b T) (.bool b):=fun _=>⟨[.bool b],⟨rfl,by simp⟩,rfl⟩
theorem JN {B:ByteArray} {T:List Tag}:bJ cx σ α F w (.val .str (bytesOf B) T) (.string B):=fun _=>⟨[.string B],⟨rfl,by simp⟩,B,rfl,rfl⟩
theorem tO {x:AV} {v:Value} {k:IntKind→Int→Prog A} (hx:bJ cx σ α F w x v) (h:(asInt x k).ends σ z):∃ik n,v=.int ik n∧CO ik n∧(k ik n).ends σ z:=by
 unfold asInt at h
 split at h
 ·rename_i ik n T
  obtain ⟨h1,h2⟩:=sI hx
  exact ⟨ik,n,h1,h2,h⟩
 ·exact h.elim
theorem Bc {x:AV} {v:Value} {k:Bool→Prog A} (hx:bJ cx σ α F w x v) (h:(asBool x k).ends σ z):∃b,v=.bool b∧(k b).ends σ z:=by
 unfold asBool at h
 split at h
 ·rename_i b T
  exact ⟨b,uf hx,h⟩
 ·exact h.elim
theorem gW.q {T:List Tag} {b:Nat} (h:gW cx σ α F w T b):Cz σ α F w T b:=⟨h.1,h.2.1,h.2.2.2.1⟩
theorem PE {T T':List Tag} {b:Nat} (h:Cz σ α F w T b) (hs:∀t∈T,t∈T'):Cz σ α F w T' b:=
 ⟨h.1,h.2.1,fun r R h1 h2=>by obtain ⟨n,hn⟩:=h.2.2 r R h1 h2; exact ⟨n,hs _ hn⟩⟩
variable {r:Nat} {R:Root}
theorem QE {h:Heap} {own:List TypeId} {ok:Nat→Prop}:∀{k:K} {x:El k} {cs:List Value} {fo:List Nat},(∀t∈k.tys,au t own=false)→Ow h own ok k x cs fo→fo=[]:=by
 intro k
 induction k with
 | sl e k ih=>
  intro x cs fo h H
  unfold Ow at H
  rw [if_neg (by rw [h e (by simp [K.tys])]; exact Bool.false_ne_true)] at H
  exact H.1
 | pair a b iha ihb=>
  intro x cs fo h H
  obtain ⟨c1,c2,f1,f2,e,hp,h1,h2⟩:=H
  rw [iha (fun t ht=>h t (by simp [K.tys,ht])) h1,ihb (fun t ht=>h t (by simp [K.tys,ht])) h2] at hp
  exact hp.eq_nil
 | st f ih=>intro x cs fo h H; exact ih (x:=x) h H
 | _=>intro x cs fo _ H; exact H.1
theorem wB (R:Root) (r:Nat) {k:K} (hk:k.flat=false):R.out r k=(r,gq R.w) :: R.tags∨(R.out r k=R.tags∧∀t∈k.tys,au t R.own=false):=by
 unfold Root.out
 rw [hk,cond_false]
 cases h:k.tys.any fun t=>au t R.own with
 | true=>exact .inl rfl
 | false=>
  refine .inr ⟨rfl,fun t ht=>?_⟩
  have:=List.any_eq_false.1 h t ht
  simpa using this
theorem Vd (H:Rel cx σ α F a w) (hr:aO σ r R) {k:K} (hk:R.out r k=(r,gq R.w) :: R.tags) {b:Nat} (hb:b∈α.fo r):gW cx σ α F w (R.out r k) b:=by
 have hbb:b∈blk α R r:=agd _ hb
 have hm:=(H.roots r R hr).mine b hbb
 refine ⟨hm.1,H.iD r R hr b hbb,lQ H hr hb,fun q Q hq hbq=>?_,fun h0=>?_⟩
 ·by_cases e:q=r
  ·subst e
   exact ⟨gq R.w,by rw [hk]; simp⟩
  ·exact absurd hbb (H.AA q Q r R hq hr e b hbq)
 ·rcases hm.2 with h | ⟨j,pi,h1,h2⟩
  ·omega
  ·exact .inr ⟨j,pi,h1,h2⟩
theorem K6 {k:K} (hk:k.flat=false):∀t∈R.tags,t∈R.out r k:=fun t ht=>by
 rcases wB R r hk with h | ⟨h,_⟩ <;> rw [h]
 ·exact agB _ ht
 ·exact ht
theorem Ef (H:Rel cx σ α F a w) (hr:aO σ r R) (k:K):eP σ (R.out r k):=by
 intro t ht
 cases hk:k.flat with
 | true=>unfold Root.out at ht; rw [hk] at ht; simp at ht
 | false=>
  have h1:t=(r,gq R.w)∨t∈R.tags:=by
   rcases wB R r hk with h | ⟨h,_⟩ <;> rw [h] at ht
   ·exact agp.1 ht
   ·exact .inr ht
  rcases h1 with h | h
  ·subst h; exact .inr ⟨R,hr.1, .inr (agt _)⟩
  ·exact (H.dn r R hr.1).1 t h
theorem lU (H:Rel cx σ α F a w) (hr:aO σ r R) {k:K} {x:El k} {cs:List Value} {fI:List Nat} (hO:Ow (hp w) R.own (gW cx σ α F w R.tags) k x cs fI) (hf:∀b∈fI,b∈α.fo r) :
  Vw (hp w) (gW cx σ α F w (R.out r k)) k x cs:=by
 cases hk:k.flat with
 | true=>exact iG hk (jK (fun _=>True) (fun _ _=>trivial) (fun _ _=>trivial) hO)
 | false=>
  rcases wB R r hk with ho | ⟨_,hn⟩
  ·exact jK _ (fun b hb=>rM hb (K6 hk)) (fun b hb=>Vd H hr ho (hf b hb)) hO
  ·exact jK _ (fun b hb=>rM hb (K6 hk)) (fun b hb=>by rw [QE hn hO] at hb; simp at hb) hO
theorem qQ (H:Rel cx σ α F a w) (hr:aO σ r R) (hv:bu σ R) {p:List Stp} {d:Dat} (hg:aP p R.k R.x=some d) (fK:kJ p R.k R.x) (hown:∀t∈aa p R.k,au t R.own=true)
  {cs1:List Value} {kS:Option (Nat×Nat)} (hn:bH (hp w) p R.k (α.hdr r) (dS α R r)=some (cs1,kS)) :
  ∃fI,Ow (hp w) R.own (gW cx σ α F w R.tags) d.1 d.2 cs1 fI∧∀b∈fI,b∈α.fo r:=by
 have K:=H.roots r R hr
 have hnd:=K.nd
 rw [bX,kL] at hnd
 obtain ⟨mM,fI,rest,wh2,hn',hp1,hd1,hc1,hin,hnone,hup⟩:=focus p (K.ow hv) (fun b o e=>(K.mem b o e).1) hg fK hown hnd.2 (fun b o e=>hnd.1 b o e)
 rw [hn] at hn'
 simp only [agb,agn] at hn'
 obtain ⟨rfl,rfl⟩:=hn'
 exact ⟨fI,hd1,fun b hb=>hp1.mem_iff.2 (agh _ hb)⟩
theorem jA {T:List Nat} {own:List Nat} (h:(T.all fun t=>au t own)=true):∀t∈T,au t own=true:=fun t ht=>ags.1 h t ht
theorem qU (H:Rel cx σ α F a w) {x:AV} {v:Value} {k:(kk:K)→El kk→List Tag→Prog A} (hx:bJ cx σ α F w x v) (hw:oz σ x) (h:(qG x k).ends σ z) :
  ∃kk y T cs,VC kk v cs∧Vw (hp w) (gW cx σ α F w T) kk y cs∧eP σ T∧(k kk y T).ends σ z:=by
 cases x with
 | val kk y T=>
  obtain ⟨h1,h2⟩:=fM h
  obtain ⟨cs,h3,h4⟩:=hx (.inr h1)
  exact ⟨kk,y,T,cs,h3,h4,hw,h2⟩
 | ref r g=>
  obtain ⟨R,hr,hv,h⟩:=cK h
  cases hg:Nat.beq R.g g with
  | false=>simp only [hg,cond_false] at h; exact h.elim
  | true=>
   simp only [hg,cond_true] at h
   obtain ⟨h1,h2⟩:=hx R hr (agf hg)
   exact ⟨R.k,R.x,R.out r R.k,α.hdr r,h2,lU H hr ((H.roots r R hr).ow hv) (fun _ h=>h),Ef H hr _,h⟩
 | o8 r p n=>
  obtain ⟨R,hr,hv,h⟩:=cK h
  cases hg:Nat.beq R.rW n with
  | false=>simp only [hg,cond_false] at h; exact h.elim
  | true=>
   simp only [hg,cond_true] at h
   cases qy:aP p R.k R.x with
   | none=>rw [qy] at h; exact h.elim
   | some d=>
    rw [qy] at h
    obtain ⟨h1,h2,cs,wh,h3,h4⟩:=hx R hr.1 hv (agf hg) d qy
    obtain ⟨fI,h5,h6⟩:=qQ H hr hv qy h1 h2 h3
    exact ⟨d.1,d.2,R.out r d.1,cs,h4,lU H hr h5 h6,Ef H hr _,h⟩
 | undef=>exact h.elim
 | iE=>exact h.elim
 | ptr r p n=>exact h.elim
 | iK bt kk y T=>exact h.elim
 | Bv _ _ _ _=>exact h.elim
 | ve _=>exact h.elim
 | part _ _ _ _ _=>exact h.elim
 | tq _ _ _ _=>exact h.elim
 | app _ _ _ _=>exact h.elim
 | oL=>exact h.elim
 | fn f cs=>exact h.elim
theorem uz (H:Rel cx σ α F a w) {x:AV} {v:Value} {rd:Root→Nat→List Stp→Dat→Prog A} {ro:TypeId→Dat→List Tag→Prog A} (hx:bJ cx σ α F w x v) (hw:oz σ x) (h:(addrOf x rd ro).ends σ z) :
  (∃r R p d cs b o,aO σ r R∧bu σ R∧aP p R.k R.x=some d∧kJ p R.k R.x∧(∀t∈aa p R.k,au t R.own=true)∧bH (hp w) p R.k (α.hdr r) (dS α R r)=some (cs,some (b,o))∧v=.pointer (some ⟨b,o,none⟩)∧(rd R r p d).ends σ z)∨
  (∃bt d T b o cs,eP σ T∧v=.pointer (some ⟨b,o,none⟩)∧Cells (hp w) b o cs∧Vw (hp w) (gW cx σ α F w T) d.1 d.2 cs∧Cz σ α F w T b∧((bt=SENT∧∀t∈T,fG t.1=true)∨(ry (hp w) b bt∧¬jU cx b))∧(ro bt d T).ends σ z):=by
 cases x with
 | ptr r p n=>
  obtain ⟨R,hr,hv,h⟩:=cK h
  cases hc:(clean R.h n (dW p R.k) && AL p R) with
  | false=>rw [hc] at h; exact h.elim
  | true=>
   rw [hc] at h
   simp only [cond_true] at h
   simp only [agi] at hc
   cases qy:aP p R.k R.x with
   | none=>rw [qy] at h; exact h.elim
   | some d=>
    rw [qy] at h
    have hown:=jA hc.2
    obtain ⟨h1,cs,b,o,h2,h3⟩:=hx.2 R hr.1 hv hc.1 hown (by rw [qy]; rfl)
    exact .inl ⟨r,R,p,d,cs,b,o,hr,hv,qy,h1,hown,h2,h3,h⟩
 | iK bt k y T=>
  obtain ⟨h1,h2⟩:=fM h
  obtain ⟨b,o,cs,e,hcs,hV,hok,hb⟩:=hx.2 h1
  exact .inr ⟨bt,⟨k,y⟩,T,b,o,cs,hw,e,hcs,hV,hok,hb,h2⟩
 | undef=>exact h.elim
 | iE=>exact h.elim
 | ref r g=>exact h.elim
 | o8 r p n=>exact h.elim
 | val kk y T=>exact h.elim
 | Bv _ _ _ _=>exact h.elim
 | ve _=>exact h.elim
 | part _ _ _ _ _=>exact h.elim
 | tq _ _ _ _=>exact h.elim
 | app _ _ _ _=>exact h.elim
 | oL=>exact h.elim
 | fn f cs=>exact h.elim
end
end
section
open Go
variable [Fr]
theorem bS (a b:List Wr):∀σ,az (a++b) σ=az b (az a σ):=by
 induction a with
 | nil=>intro σ; rfl
 | cons w a ih=>intro σ; exact ih _
theorem qR {own:List TypeId} {k:K}:∀(k0:K),(∀t∈k.tys,t∈k0.tys)→aS (k0.tys.filter fun t=>au t own) k=aS own k:=by
 intro k0
 have key:∀t∈k0.tys,au t (k0.tys.filter fun t=>au t own)=au t own:=by
  intro t ht
  cases h:au t own with
  | true=>rw [aJ,agu]; exact ⟨ht,h⟩
  | false=>
   rw [aT,agu]
   rintro ⟨_,h2⟩
   rw [h] at h2
   simp at h2
 induction k with
 | sl e k ih=>
  intro h
  simp only [aS]
  rw [key e (h e (by simp [K.tys])),ih (fun t ht=>h t (by simp [K.tys,ht]))]
 | pair a b iha ihb=>intro h; simp only [aS]; rw [iha (fun t ht=>h t (by simp [K.tys,ht])),ihb (fun t ht=>h t (by simp [K.tys,ht]))]
 | st f ih=>intro h; exact ih h
 | _=>intro _; rfl
theorem zW {own:List TypeId} {k:K}:∀t∈k.tys,au t (k.tys.filter fun t=>au t own)=au t own:=by
 intro t ht
 cases h:au t own with
 | true=>rw [aJ,agu]; exact ⟨ht,h⟩
 | false=>
  rw [aT,agu]
  rintro ⟨_,h2⟩
  rw [h] at h2
  simp at h2
theorem Ja {own:List TypeId}:∀(n:Nat) {c:K} {x:El c} {s:Dat},aL n c x=some s→∀t∈aS own s.1,t∈aS own c:=by
 intro n
 induction n with
 | zero=>
  intro c x s h t ht
  cases c with
  | pair a b=>simp only [aL,agb] at h; subst h; simp [aS,ht]
  | _=>simp [aL] at h
 | succ n ih=>
  intro c x s h t ht
  cases c with
  | pair a b=>simp only [aL] at h; simp [aS,ih h t ht]
  | _=>simp [aL] at h
theorem sM {own:List TypeId}:∀(p:List Stp) {k:K} {x:El k} {d:Dat},aP p k x=some d→(∀t∈aa p k,au t own=true)→∀t∈aS own d.1,t∈aS own k:=by
 intro p
 induction p with
 | nil=>intro k x d h _; simp only [aP,agb] at h; subst h; exact fun _ h=>h
 | cons s p ih=>
  intro k x d h ht
  cases s with
  | fH n=>
   cases k with
   | st c=>
    simp only [aP] at h
    cases hg:aL n c x with
    | none=>rw [hg] at h; simp at h
    | some s=>
     rw [hg] at h
     simp only at h
     have hpt:aa (.fH n :: p) (.st c)=aa p s.1:=by simp [aa,bY n hg]
     rw [hpt] at ht
     exact fun t h2=>Ja n (c:=c) hg t (ih h ht t h2)
   | _=>simp [aP] at h
  | idx i=>
   cases k with
   | sl e k=>
    simp only [aP] at h
    intro t h2
    have:=ih h (fun t h=>ht t (by simp [aa,h])) t h2
    simp only [aS,ht e (by simp [aa]),cond_true]
    exact this
   | _=>simp [aP] at h
section
variable {cx:Cx} {σ:St} {α:dK} {F:List Nat} {a:Act} {w:World}
theorem ay {b:Bool} {A:Type} {x y:Prog A} {σ:St} {z:A} (h:(bif b then x else y).ends σ z):(b=true∧x.ends σ z)∨(b=false∧y.ends σ z):=by
 cases b with
 | true=>exact .inl ⟨rfl,h⟩
 | false=>exact .inr ⟨rfl,h⟩
theorem AU {h:Heap} {own:List TypeId} {ok:Nat→Prop}:∀{k:K} {x:El k} {cs:List Value} {fo:List Nat},k.flat=true→Ow h own ok k x cs fo→fo=[]:=by
 intro k
 induction k with
 | sl e k ih=>intro x cs fo h; simp [K.flat] at h
 | gap n=>intro x cs fo h; simp [K.flat] at h
 | pair a b iha ihb=>
  intro x cs fo h H
  simp only [K.flat,agi] at h
  obtain ⟨c1,c2,f1,f2,e,hp,h1,h2⟩:=H
  rw [iha h.1 h1,ihb h.2 h2] at hp
  exact hp.eq_nil
 | st f ih=>intro x cs fo h H; exact ih (x:=x) h H
 | _=>intro x cs fo _ H; exact H.1
theorem QF {h:Heap} {own:List TypeId} {ok:Nat→Prop} {e:TypeId} {kk:K} {xs:List (El kk)} {b b':Option Addr} {n c hi:Nat} {fo:List Nat} (hf:kk.flat=true) (he:au e own=true) (hn:hi≤n) (hb':b'=b)
  (H:Ow h own ok (.sl e kk) xs [.slice b n c] fo):Ow h own ok (.sl e kk) (show List (El kk) from xs.take hi) [.slice b' hi c] fo:=by
 unfold Ow at H ⊢
 rw [if_pos he] at H ⊢
 obtain ⟨a,n',c',e1,e2,e3,H⟩:=H
 simp only [List.cons.injEq,Value.slice.injEq,and_true] at e1
 obtain ⟨rfl,rfl,rfl⟩:=e1
 have hlen:(xs.take hi).length=hi:=by
  have:n=xs.length:=e2
  simp; omega
 refine ⟨b,hi,c,by rw [hb'],hlen.symm,by omega, ?_⟩
 rcases H with H | ⟨bb,o,arr,l,u,ea,hb,hfr,hs,bC,hl,hp,H⟩
 ·exact .inl H
 ·have h0:∀l∈bC,l=[]:=by
   intro l hl'
   obtain ⟨i,hi',rfl⟩:=List.mem_iff_getElem.1 hl'
   have hl:bC.length=xs.length:=hl
   obtain ⟨ds,_,h2⟩:=H i (by show i<xs.length; omega)
   have:=AU hf h2
   rw [←this]; simp [agq,hi']
  have hfl:bC.flatten=[]:=List.flatten_eq_nil_iff.2 h0
  have acF:(bC.take hi).flatten=[]:=List.flatten_eq_nil_iff.2 fun l hl'=>h0 l (List.mem_of_mem_take hl')
  refine .inr ⟨bb,o,arr,l,u,ea,hb,hfr,hs,bC.take hi,by show (bC.take hi).length=(xs.take hi).length; simp only [List.length_take]; rw [show bC.length=xs.length from hl],by rw [acF, ←hfl]; exact hp,fun i hi'=>?_⟩
  have hi2:i<(xs.take hi).length:=hi'
  have hi3:i<hi∧i<xs.length:=by simp at hi2; omega
  obtain ⟨ds,h1,h2⟩:=H i hi3.2
  refine ⟨ds,h1, ?_⟩
  have e1:(show List (El kk) from xs.take hi)[i]'hi'=xs[i]'hi3.2:=by
   show (xs.take hi)[i]=_
   simp
  have e2:(bC.take hi).getD i []=bC.getD i []:=by simp [agq,List.getElem?_take,hi3.1]
  rw [e1,e2]
  exact h2
inductive su (cx:Cx) (σ:St) (α:dK) (F:List Nat) (w:World) (v:Value) (tk:gQ):Prop
 | held (hws:tk.ws=[]) (cs:List Value) (hv:VC tk.k v cs) (h:Held cx σ α F w tk.k tk.x tk.own tk.tags cs []) (hc:bq σ (aS tk.own tk.k) tk.tags=true)
 | ref (r:Nat) (R:Root) (hr:aO σ r R) (hv:bu σ R) (e:tk=⟨R.k,R.x,R.own,R.tags,[.r r none],R.keep⟩) (hk:R.kind=.anon) (hd:VC R.k v (α.hdr r))
 | gap (r:Nat) (R:Root) (p:List Stp) (d z:Dat) (hr:aO σ r R) (hv:bu σ R) (hg:aP p R.k R.x=some d) (hz:dU p R.k R.x (oF d)=some z) (fK:kJ p R.k R.x)
   (hown:∀t∈aa p R.k,au t R.own=true) (hpv:p≠[]∨∃t,R.kind=.var t) (e:tk=⟨d.1,d.2,d.1.tys.filter (fun t=>au t R.own),R.tags,[.r r (some (dY R d z))],R.keep⟩)
   (hn:∃cs wh,bH (hp w) p R.k (α.hdr r) (dS α R r)=some (cs,wh)∧VC d.1 v cs)
 | cut (r:Nat) (R:Root) (cs:List Value) (hr:aO σ r R) (hv:bu σ R) (hk:R.kind=.anon) (e:tk.own=R.own∧tk.tags=R.tags∧tk.ws=[.r r none]∧tk.keep=R.keep) (hd:VC tk.k v cs) (hl:cs.length=tk.k.size)
   (Mr:aS R.own tk.k=aS R.own R.k) (how:∀ok,Ow (hp w) R.own ok R.k R.x (α.hdr r) (α.fo r)→Ow (hp w) R.own ok tk.k tk.x cs (α.fo r))
theorem yD {e:TypeId} {k:K} {c:Option Addr}:VC (.sl e k) (.slice c 0 0) [.slice c 0 0]:=⟨rfl,by simp⟩
theorem nS {A:Type} {z:A} (H:Rel cx σ α F a w) {want:K} {x:AV} {v:Value} {k:gQ→Prog A} (hx:bJ cx σ α F w x v) (hw:oz σ x) (h:(sH want x k).ends σ z) :
  ∃tk,su cx σ α F w v tk∧(k tk).ends σ z:=by
 cases x with
 | val kk y T=>
  obtain ⟨h1,h2⟩:=fM h
  obtain ⟨cs,h3,h4⟩:=hx (.inr h1)
  have hty:∀t∈aS [] kk,t∈kk.tys:=fun t ht=>zu ht
  exact ⟨⟨kk,y,[],T,[],false⟩, .held rfl cs h3 ⟨fun _=>nE (fun t _=>rfl) h4,hw,fun b hb=>by simp at hb,List.nodup_nil,jQ h4⟩ (nG h1 (fun _ h=>h) hty),h2⟩
 | iE=>
  obtain ⟨c,rfl⟩:=hx
  unfold sH at h
  cases want with
  | sl e kk=>
   refine ⟨_, .held rfl [.slice c 0 0] yD ⟨fun _=>?_,fun t ht=>by simp at ht,fun b hb=>by simp at hb,List.nodup_nil,rfl⟩ rfl,h⟩
   unfold Ow
   rw [if_pos (by simp [au])]
   exact ⟨c,0,0,rfl,rfl,agt _, .inl ⟨rfl,rfl⟩⟩
  | _=>exact h.elim
 | ref r g=>
  obtain ⟨R,hr,hv,h⟩:=cK h
  cases hg:(Nat.beq R.g g && !R.fixed) with
  | false=>simp only [hg,cond_false] at h; exact h.elim
  | true=>
   simp only [hg,cond_true] at h
   simp only [agi] at hg
   obtain ⟨h1,h2⟩:=hx R hr (agf hg.1)
   exact ⟨_, .ref r R hr hv rfl h1 h2,h⟩
 | o8 r p n=>
  obtain ⟨R,hr,hv,h⟩:=cK h
  cases hg:Nat.beq R.rW n with
  | false=>simp only [hg,cond_false] at h; exact h.elim
  | true=>
   simp only [hg,cond_true] at h
   cases qy:aP p R.k R.x with
   | none=>rw [qy] at h; exact h.elim
   | some d=>
    rw [qy] at h
    obtain ⟨h1,h2,cs,wh,h3,h4⟩:=hx R hr.1 hv (agf hg) d qy
    cases hc:(p.all Stp.nR && !R.fixed && (!p.isEmpty || R.isVar)) with
    | true=>
     simp only [hc,cond_true] at h
     cases hga:wM R p d with
     | none=>rw [hga] at h; exact h.elim
     | some R'=>
      rw [hga] at h
      unfold wM at hga
      cases hz:dU p R.k R.x (oF d) with
      | none=>rw [hz] at hga; simp at hga
      | some zz=>
       rw [hz] at hga
       simp only [agb] at hga
       subst hga
       simp only [agi,Bool.or_eq_true] at hc
       refine ⟨_, .gap r R p d zz hr hv qy hz h1 h2 ?_ rfl ⟨cs,wh,h3,h4⟩,h⟩
       rcases hc.2 with h | h
       ·left; intro e; subst e; simp at h
       ·right
        unfold Root.isVar at h
        cases hk:R.kind with
        | var t=>exact ⟨t,rfl⟩
        | anon=>rw [hk] at h; simp at h
        | par=>rw [hk] at h; simp at h
        | dead=>rw [hk] at h; simp at h
    | false=>
     simp only [hc,cond_false] at h
     obtain ⟨fI,h5,h6⟩:=qQ H hr hv qy h1 h2 h3
     have hV:=lU H hr h5 h6
     obtain ⟨hc1,h⟩:=fM h
     exact ⟨⟨d.1,d.2,[],R.out r d.1,[],false⟩, .held rfl cs h4 ⟨fun _=>nE (fun t _=>rfl) hV,Ef H hr _,fun b hb=>by simp at hb,List.nodup_nil,jQ hV⟩ (nG hc1 (fun _ h=>h) (fun t ht=>zu ht)),h⟩
 | undef=>exact h.elim
 | ptr r p n=>exact h.elim
 | iK bt kk y T=>exact h.elim
 | Bv _ _ _ _=>exact h.elim
 | ve _=>exact h.elim
 | part r g lo hi sz=>
  obtain ⟨R,hr,hv,h⟩:=cK h
  rcases ay h with ⟨hg,h5⟩ | ⟨_,h5⟩
  ·clear h
   simp only [agi] at hg
   obtain ⟨b',b,n,c,e1,eb,e2,e3,e4,hrf⟩:=hx
   obtain ⟨h1,h2⟩:=hrf R hr (agf hg.1.1)
   have hlo:lo=0:=agf hg.2
   subst hlo
   have hK:∀q:Dat,(⟨R.k,R.x⟩:Dat)=q→(match q.1,q.2 with
     | .sl e kk,xs=>bif kk.flat && au e R.own && Nat.beq kk.size sz then k ⟨.sl e kk,(show List (El kk) from xs).take hi,R.own,R.tags,[.r r none],R.keep⟩ else .fail
     | _,_=>Prog.fail).ends σ z→∃tk,su cx σ α F w v tk∧(k tk).ends σ z:=by
    intro q hq hh0
    obtain ⟨qk,qx⟩:=q
    cases qk with
    | sl e kk=>
     simp only at hh0
     rcases ay hh0 with ⟨hc,hh⟩ | ⟨_,hh⟩
     ·clear hh0
      simp only [agi] at hc
      have hsz:kk.size=sz:=agf hc.2
      subst hsz
      have XE:VC (.sl e kk) (.slice b n c) (α.hdr r):=by
       have:=congrArg (fun q:Dat=>VC q.1 (.slice b n c) (α.hdr r)) hq
       exact cast this h2
      have hb0:b'=b:=by
       rw [eb (.inl rfl)]
       cases b with
       | none=>rfl
       | some ad=>obtain ⟨x,y,z⟩:=ad; simp [Addr.add]
      refine ⟨⟨.sl e kk,(show List (El kk) from qx).take hi,R.own,R.tags,[.r r none],R.keep⟩, .cut r R [.slice b' hi c] hr hv h1 ⟨rfl,rfl,rfl,rfl⟩ ⟨by rw [e1]; simp,by rw [e1]; simp⟩ rfl ?_ (fun ok hO=>?_),hh⟩
      ·exact congrArg (fun q:Dat=>aS R.own q.1) hq.symm
      ·have hO:=cast (congrArg (fun q:Dat=>Ow (hp w) R.own ok q.1 q.2 (α.hdr r) (α.fo r)) hq) hO
       simp only at hO
       rw [XE.1] at hO
       exact QF hc.1.1 hc.1.2 e3 hb0 hO
     ·exact hh.elim
    | _=>exact hh0.elim
   exact hK _ rfl h5
  ·exact h5.elim
 | tq _ _ _ _=>exact h.elim
 | app _ _ _ _=>exact h.elim
 | oL=>exact h.elim
 | fn f cs=>exact h.elim
def oq (cx:Cx) (σ:St) (α:dK) (F:List Nat) (w:World):List (Value×gQ)→List (List Value×List Nat)→Prop
 | [],[]=>True
 | it :: l,h :: hs=>(VC it.2.k it.1 h.1∧Held cx σ α F w it.2.k it.2.x it.2.own it.2.tags h.1 h.2∧bq σ (aS it.2.own it.2.k) it.2.tags=true)∧oq cx σ α F w l hs
 | _,_=>False
def qp (l:List (Value×gQ)):List Wr:=l.flatMap fun it=>it.2.ws
def nT (l:List (Value×gQ)):List Tag:=l.flatMap fun it=>it.2.tags
theorem CL (a b:List Wr):(a++b).flatMap Wr.p9=a.flatMap Wr.p9++b.flatMap Wr.p9:=List.flatMap_append
theorem take1 (H:Rel cx σ α F a w) {v:Value} {tk:gQ} (h:su cx σ α F w v tk) :
  ∃α' F' cs fo lw lh,Rel cx (az tk.ws σ) α' F' a w∧kK cx σ α F w (az tk.ws σ) α' F' w lw lh∧VC tk.k v cs∧Held cx (az tk.ws σ) α' F' w tk.k tk.x tk.own tk.tags cs fo∧
   bq (az tk.ws σ) (aS tk.own tk.k) tk.tags=true∧(∀b∈F,b∈F')∧(∀b∈fo,b∉F)∧(∀q,q∉tk.ws.flatMap Wr.p9→Same σ α (az tk.ws σ) α' q):=by
 cases h with
 | held hws cs hv hh hc=>
  rw [hws]
  exact ⟨α,F,cs,[],_,_,H,yl H ⟨rfl,rfl,rfl⟩ (agt _) (fun _ _ h=>absurd rfl h) (fun b hb=>.inl hb) H.uW,hv,hh,hc,fun _ h=>h,fun b hb=>by simp at hb,fun q _=>jP ..⟩
 | ref r R hr hv e hk hd=>
  subst e
  obtain ⟨h1,h2,h3,h4⟩:=kill H hr hk hv
  refine ⟨_,_,α.hdr r,α.fo r,_,_,h1,h2,hd,h3,h4,fun b hb=>agd _ hb,fun b hb hF=>H.iD r R hr b (agd _ hb) hF, ?_⟩
  intro q hq
  have hq':q≠r:=by simpa [Wr.p9] using hq
  exact gK hq'
 | cut r R cs hr hv hk e hd hl Mr how=>
  obtain ⟨e1,e2,e3,e4⟩:=e
  obtain ⟨h1,h2,h3,h4⟩:=kill H hr hk hv
  rw [e3]
  refine ⟨_,_,cs,α.fo r,_,_,h1,h2,hd, ?_, ?_,fun b hb=>agd _ hb,fun b hb hF=>H.iD r R hr b (agd _ hb) hF, ?_⟩
  ·rw [e1,e2]
   refine ⟨fun hc=>?_,h3.wt,h3.sub,h3.nd,hl⟩
   have:=h3.ow (by rw [←Mr]; exact hc)
   exact how _ this
  ·rw [e1,e2]
   show bq (aj σ r bV) (aS R.own tk.k) R.tags=true
   rw [Mr]; exact h4
  ·intro q hq
   have hq':q≠r:=by simpa [Wr.p9] using hq
   exact gK hq'
 | gap r R p d z hr hv hg hz fK hown hpv e hn=>
  subst e
  obtain ⟨cs,wh,hn1,hn2⟩:=hn
  obtain ⟨cs1,kS,fI,rest,g1,g2,g3,g4,g5,_⟩:=gap H hr hv hg hz fK hown hpv
  rw [hn1] at g1
  simp only [agb,agn] at g1
  obtain ⟨rfl,rfl⟩:=g1
  have hcl:bq (aj σ r (dY R d z)) (aS R.own d.1) R.tags=true:=by
   rw [g5]
   exact nG hv.2 (fun _ h=>h) (sM p hg hown)
  refine ⟨_,_,cs,fI,_,_,g2,g3,hn2, ?_, ?_,fun b hb=>agd _ hb, ?_, ?_⟩
  ·refine ⟨fun hc=>?_,g4.wt,g4.sub,g4.nd,g4.len⟩
   exact ou (fun t ht=>zW t ht) (g4.ow (by rw [qR d.1 (fun _ h=>h)] at hc; exact hc))
  ·show bq (aj σ r (dY R d z)) (aS (d.1.tys.filter fun t=>au t R.own) d.1) R.tags=true
   rw [qR d.1 (fun _ h=>h)]
   exact hcl
  ·intro b hb hF
   have:=g2.uW
   exact (agj.1 this).2.2 b hb b hF rfl
  ·intro q hq
   have hq':q≠r:=by simpa [Wr.p9] using hq
   exact gK hq'
theorem eZ {σ':St} {tys:List TypeId} {T:List Tag} (h:∀t∈T,σ'.roots t.1=σ.roots t.1):bq σ' tys T=bq σ tys T:=by
 induction T with
 | nil=>rfl
 | cons t T ih=>
  obtain ⟨q,n⟩:=t
  simp only [bq]
  rw [ih (fun t ht=>h t (by simp [ht])),h (q,n) (by simp)]
theorem su.stays {σ':St} {α':dK} {F':List Nat} {lw lh:Nat→List Nat} {v:Value} {tk:gQ} (h:su cx σ α F w v tk) (H:Rel cx σ α F a w) (T:kK cx σ α F w σ' α' F' w lw lh)
  (hs:∀q,(q∈tk.ws.flatMap Wr.p9∨q∈tk.tags.map (·.1))→Same σ α σ' α' q):su cx σ' α' F' w v tk:=by
 cases h with
 | held hws cs hv hh hc=>
  exact .held hws cs hv (hh.turn H T (fun b hb=>by simp at hb)) (by rw [eZ (fun t ht=>(hs t.1 (.inr (agO.2 ⟨t,ht,rfl⟩))).root)]; exact hc)
 | ref r R hr hv e hk hd=>
  subst e
  have hS:=hs r (.inl (by simp [Wr.p9]))
  refine .ref r R ((hS.live R).2 hr) ⟨hv.1, ?_⟩ rfl hk (by rw [hS.hdr]; exact hd)
  rw [eZ (fun t ht=>(hs t.1 (.inr (agO.2 ⟨t,ht,rfl⟩))).root)]
  exact hv.2
 | cut r R cs hr hv hk e hd hl Mr how=>
  have hS:=hs r (.inl (by rw [e.2.2.1]; simp [Wr.p9]))
  refine .cut r R cs ((hS.live R).2 hr) ⟨hv.1, ?_⟩ hk e hd hl Mr (by rw [hS.hdr,hS.fo]; exact how)
  rw [eZ (fun t ht=>(hs t.1 (.inr (agO.2 ⟨t,by rw [e.2.1]; exact ht,rfl⟩))).root)]
  exact hv.2
 | gap r R p d z hr hv hg hz fK hown hpv e hn=>
  subst e
  have hS:=hs r (.inl (by simp [Wr.p9]))
  refine .gap r R p d z ((hS.live R).2 hr) ⟨hv.1, ?_⟩ hg hz fK hown hpv rfl (by rw [hS.hdr,hS.wh]; exact hn)
  rw [eZ (fun t ht=>(hs t.1 (.inr (agO.2 ⟨t,ht,rfl⟩))).root)]
  exact hv.2
theorem oq.turn {σ':St} {α':dK} {F':List Nat} {lw lh:Nat→List Nat} (H:Rel cx σ α F a w) (T:kK cx σ α F w σ' α' F' w lw lh) (hF:∀b∈F,b∈F') :
  ∀{l:List (Value×gQ)} {hs:List (List Value×List Nat)},(∀t∈nT l,σ'.roots t.1=σ.roots t.1)→oq cx σ α F w l hs→oq cx σ' α' F' w l hs
 | [],[],_,_=>trivial
 | it :: l,h :: hs,hr,hh=>by
  refine ⟨⟨hh.1.1,hh.1.2.1.turn H T (fun b hb=>⟨rfl,hF b (hh.1.2.1.sub b hb)⟩), ?_⟩,oq.turn H T hF (fun t ht=>hr t (by simp only [nT,List.flatMap_cons,agl]; exact .inr ht)) hh.2⟩
  rw [eZ (fun t ht=>hr t (by simp only [nT,List.flatMap_cons,agl]; exact .inl ht))]
  exact hh.1.2.2
 | [],_ :: _,_,h=>h.elim
 | _ :: _,[],_,h=>h.elim
theorem ru {l:List Nat}:yP l=true↔l.Nodup:=by
 induction l with
 | nil=>simp [yP]
 | cons n l ih=>simp [yP,ih,aT]
theorem takes:∀(l:List (Value×gQ)) {σ:St} {α:dK} {F:List Nat},Rel cx σ α F a w→(∀it∈l,su cx σ α F w it.1 it.2)→((qp l).flatMap Wr.p9).Nodup→(∀t∈nT l,t.1∉(qp l).flatMap Wr.p9)→
  ∃α' F' hs,Rel cx (az (qp l) σ) α' F' a w∧oq cx (az (qp l) σ) α' F' w l hs∧(hs.flatMap (·.2)).Nodup∧(∀b∈hs.flatMap (·.2),b∉F)∧(∀b∈F,b∈F')∧
   (∀q,q∉(qp l).flatMap Wr.p9→Same σ α (az (qp l) σ) α' q)∧
   (∀k x own tags cs fo,Held cx σ α F w k x own tags cs fo→Held cx (az (qp l) σ) α' F' w k x own tags cs fo)∧Views cx σ α F w (az (qp l) σ) α' F' w∧(∀t,yF σ t→yF (az (qp l) σ) t)∧(∀q,σ.roots q=none→(az (qp l) σ).roots q=none):=by
 intro l
 induction l with
 | nil=>intro σ α F H _ _ _; exact ⟨α,F,[],H,trivial,List.nodup_nil,fun b hb=>by simp at hb,fun _ h=>h,fun q _=>jP ..,fun _ _ _ _ _ _ h=>h,fun T tys _ h=>⟨h,fun b hb _=>⟨hb,rfl⟩,fun b hb _=>⟨hb,rfl⟩⟩,fun _ h=>h,fun _ h=>h⟩
 | cons it l ih=>
  intro σ α F H hT hnd qi
  have e1:qp (it :: l)=it.2.ws++qp l:=rfl
  have e2:nT (it :: l)=it.2.tags++nT l:=rfl
  rw [e1,CL] at hnd qi
  rw [e2] at qi
  obtain ⟨dJ,F1,cs,fo,lw,lh,H1,T1,h1,h2,h3,h4,h5,h6⟩:=take1 H (hT it (by simp))
  have hnd':=agj.1 hnd
  obtain ⟨xH,F2,hs,H2,g1,g2,g3,g4,g5,g6,g7,g8,g9⟩:=ih H1 (fun it' hi=>(hT it' (by simp [hi])).stays H T1 (fun q hq=>by
   refine h6 q ?_
   rcases hq with hq | hq
   ·intro hq'
    exact hnd'.2.2 q hq' q (by
     rw [agP] at hq ⊢
     obtain ⟨wr,hw1,hw2⟩:=hq
     exact ⟨wr,agP.2 ⟨it',hi,hw1⟩,hw2⟩) rfl
   ·obtain ⟨t,ht,rfl⟩:=agO.1 hq
    intro hq'
    exact qi t (agd _ (agP.2 ⟨it',hi,ht⟩)) (agh _ hq'))) hnd'.2.1
   (fun t ht hq=>qi t (agd _ ht) (agd _ hq))
  rw [e1,bS]
  have hq1:∀q,q∉(it.2.ws).flatMap Wr.p9++(qp l).flatMap Wr.p9→Same σ α (az (qp l) (az it.2.ws σ)) xH q:=by
   intro q hq
   simp only [agl,not_or] at hq
   have s1:=h6 q hq.1
   have s2:=g5 q hq.2
   exact ⟨s2.root.trans s1.root,s2.loc.trans s1.loc,s2.hdr.trans s1.hdr,s2.fo.trans s1.fo⟩
  refine ⟨xH,F2,(cs,fo) :: hs,H2,⟨⟨h1,g6 _ _ _ _ _ _ h2, ?_⟩,g1⟩, ?_, ?_,fun b hb=>g4 b (h4 b hb), ?_,fun k x own tags cs fo hh=>g6 _ _ _ _ _ _ (hh.turn H T1 (fun b hb=>⟨rfl,h4 b (hh.sub b hb)⟩)), ?_,fun t ht=>g8 t (T1.tag ht), ?_⟩
  ·rw [eZ (fun t ht=>(g5 t.1 (fun hq=>qi t (agh _ ht) (agd _ hq))).root)]
   exact h3
  ·simp only [List.flatMap_cons]
   exact agj.2 ⟨h2.nd,g2,fun b hb c hc e=>g3 c hc (e▸h2.sub b hb)⟩
  ·intro b hb hF
   simp only [List.flatMap_cons,agl] at hb
   rcases hb with hb | hb
   ·exact h5 b hb hF
   ·exact g3 b hb (h4 b hF)
  ·rw [CL]
   exact hq1
  ·intro T tys hw hc
   obtain ⟨k1,k2,k3⟩:=g7 T tys (fun t ht=>T1.tag (hw t ht)) hc
   obtain ⟨j1,j2,j3⟩:=T1.views H T tys hw k1
   refine ⟨j1,fun b hb ht=>?_,fun b hb ht=>?_⟩
   ·obtain ⟨a1,a2⟩:=j2 b hb ht
    exact ⟨(k2 b a1 ht).1,rfl⟩
   ·obtain ⟨a1,a2⟩:=j3 b hb ht
    exact ⟨(k3 b a1 ht).1,rfl⟩
  ·intro q hq
   refine g9 q ?_
   cases hq2:(az it.2.ws σ).roots q with
   | none=>rfl
   | some Q=>
    exfalso
    by_cases hm:q∈(it.2.ws).flatMap Wr.p9
    ·have:=hT it (by simp)
     cases this with
     | held hws cs hv hh hc=>rw [hws] at hm; simp at hm
     | ref r R hr hv e hk hd=>rw [e] at hm; simp [Wr.p9] at hm; subst hm; rw [hr.1] at hq; simp at hq
     | cut r R cs hr hv hk e hd hl Mr how=>rw [e.2.2.1] at hm; simp [Wr.p9] at hm; subst hm; rw [hr.1] at hq; simp at hq
     | gap r R p d z hr hv hg hz fK hown hpv e hn=>rw [e] at hm; simp [Wr.p9] at hm; subst hm; rw [hr.1] at hq; simp at hq
    ·rw [(h6 q hm).root,hq] at hq2
     simp at hq2
end
end
section
open Go
variable [Fr]
theorem iq (j:Nat):fG (mW j)=true:=by simp [fG,mW,Nat.add_mod]
theorem uA {ws:List Wr} {T:List Tag}:vv ws T=true↔∀t∈T,t.1∉ws.flatMap Wr.p9:=by
 unfold vv
 rw [ags]
 simp [aT]
theorem RU {ws:List Wr} {r:Nat} (h:(ws.all fun w=>!w.loc.beq (.r r))=true):r∉ws.flatMap Wr.p9:=by
 rw [agP]
 rintro ⟨w,h1,h2⟩
 have:=ags.1 h w h1
 cases w with
 | s n a=>simp [Wr.p9] at h2
 | r n o=>
  simp only [Wr.p9,agw] at h2
  subst h2
  simp [Wr.loc,Loc.beq] at this
theorem uE:∀(n:Nat) {c:K} {x:El c} {s:Dat} {q:Nat×K},aL n c x=some s→bB n c=some q→q.2=s.1:=by
 intro n
 induction n with
 | zero=>intro c x s q h1 h2; cases c with
  | pair a b=>simp only [aL,bB,agb] at h1 h2; subst h1; subst h2; rfl
  | _=>simp [aL] at h1
 | succ n ih=>intro c x s q h1 h2; cases c with
  | pair a b=>
   simp only [aL,bB] at h1 h2
   cases h3:bB n b with
   | none=>rw [h3] at h2; simp at h2
   | some q3=>rw [h3] at h2; simp only [agb] at h2; subst h2; exact ih (q:=q3) h1 h3
  | _=>simp [aL] at h1
theorem Px {h:Heap}:∀(p:List Stp) {k:K} {x:El k} {cs:List Value} {c1:List Value} {w1:Option (Nat×Nat)},aa p k=[]→(aP p k x).isSome=true→bH h p k cs none=some (c1,w1)→w1=none:=by
 intro p
 induction p with
 | nil=>intro k x cs c1 w1 _ _ h; simp only [bH,agb,agn] at h; exact h.2.symm
 | cons s p ih=>
  intro k x cs c1 w1 h0 hs h
  cases s with
  | fH n=>
   cases k with
   | st c=>
    simp only [aP] at hs
    cases hg:aL n c x with
    | none=>rw [hg] at hs; simp at hs
    | some s=>
     rw [hg] at hs
     have hp2:aa (.fH n :: p) (.st c)=aa p s.1:=by simp [aa,bY n hg]
     rw [hp2] at h0
     simp only [bH] at h
     cases ho:bB n c with
     | none=>rw [ho] at h; simp at h
     | some q=>
      have hk2:q.2=s.1:=uE n (c:=c) hg ho
      rw [ho] at h
      obtain ⟨q1,q2⟩:=q
      simp only at hk2
      subst hk2
      exact ih h0 hs h
   | _=>simp [aP] at hs
  | idx i=>
   cases k with
   | sl e k=>simp [aa] at h0
   | _=>simp [aP] at hs
theorem K.NN:∀k:K,k.beq k=true:=by
 intro k
 induction k with
 | int ik=>cases ik <;> rfl
 | sl e k ih=>simp [K.beq,ih]
 | pair a b iha ihb=>simp [K.beq,iha,ihb]
 | st f ih=>exact ih
 | gap n=>simp [K.beq]
 | id e=>simp [K.beq]
 | _=>rfl
theorem Kl:∀(q:List Stp) {k:K} {x:El k},kJ q k x→(aP q k x).isSome=true:=by
 intro q
 induction q with
 | nil=>intro k x _; rfl
 | cons s q ih=>
  intro k x h
  cases s with
  | fH n=>
   cases k with
   | st c=>
    simp only [kJ] at h
    simp only [aP]
    cases hc:aL n c x with
    | none=>rw [hc] at h; exact h.elim
    | some d=>rw [hc] at h; exact ih h
   | _=>exact h.elim
  | idx i=>
   cases k with
   | sl e k=>exact ih h.2.2
   | _=>exact h.elim
theorem QG:∀(q:List Stp) {k:K} {x:El k},aa q k=[]→(aP q k x).isSome=true→kJ q k x:=by
 intro q
 induction q with
 | nil=>intro k x _ _; trivial
 | cons s q ih=>
  intro k x h0 hs
  cases s with
  | idx i=>cases k <;> simp [aa,aP] at h0 hs
  | fH n=>
   cases k with
   | st c=>
    simp only [aP] at hs
    cases hg:aL n c x with
    | none=>rw [hg] at hs; simp at hs
    | some s=>
     rw [hg] at hs
     simp only at hs
     have hp2:aa (.fH n :: q) (.st c)=aa q s.1:=by simp [aa,bY n hg]
     rw [hp2] at h0
     simp only [kJ,hg]
     exact ih h0 hs
   | _=>simp [aP] at hs
section
variable {cx:Cx} {σ:St} {α:dK} {F:List Nat} {a:Act} {w:World} {r:Nat} {R:Root}
theorem M6 {P:Program} {T:iF} {t:TypeId} {kk:K} {x:El kk} {lF:List TypeId} {qE:List Tag} {EU:List Value} {Jw:List Nat} {v:Value} (hT:fE P T t kk)
  (H:Rel cx σ α F a w) (hr:aO σ r R) (hv:bu σ R) {p:List Stp} {d z:Dat} (hg:aP p R.k R.x=some d) (hz:dU p R.k R.x ⟨kk,x⟩=some z) (fK:kJ p R.k R.x) (hown:∀t∈aa p R.k,au t R.own=true)
  (hh:Held cx σ α F w kk x lF qE EU Jw) (hc:bq σ (aS lF kk) qE=true) (yf:VC kk v EU) (hd:d.1=kk∨d.1=kk.hole)
  (hself:kk.flat=true∨FO R r qE (aS lF kk)=true) (hbad:∀t∈aa p R.k,t∉aS lF kk) (kp:Bool)
  {cs1:List Value} {b o:Nat} (hn:bH (hp w) p R.k (α.hdr r) (dS α R r)=some (cs1,some (b,o))) :
  ∃w',(Instr.storeAt t (.pointer (some ⟨b,o,none⟩)) v).run P w=.ok () w'∧∃α' F',
   Rel cx (aj σ r (bI R z (bG R.own (aS lF kk)) (bif kk.flat then R.tags else iw (sw r qE) R.tags) [eG R p] ((bif d.1.beq kk then [] else pq kk)++kk.tys) kp)) α' F' a w':=by
 have K0:=H.roots r R hr
 have hnt:=H.dn r R hr.1
 have Mh:=hh.ow hc
 obtain ⟨_,_,hbb,⟨arr,e,lo,hi,hb,hf,hs,hlast⟩,_⟩:=mX H hr hv hg fK hown hn
 have hds:kk.size=d.1.size:=by
  rcases hd with h | h
  ·rw [h]
  ·rw [h,pz]
 have hone:=IP hT.eO Mh
 have hrun:=zZ (o:=o) hT hb hf hh.len (by omega) yf hone
 obtain ⟨s1,s2,jH,s3,s4,s5,s6⟩:=qo b EU w arr e (lo,hi) o hb (by rw [hh.len]; omega)
 have s7:=mZ b EU w o
 refine ⟨_,hrun, ?_⟩
 have Sn:∀t∈aa p R.k,au t (bG R.own (aS lF kk))=true:=fun t ht=>dF.2 ⟨hown t ht,hbad t ht⟩
 obtain ⟨fd,ok',fI,rest,mM,kS,hn',hpf,hd1,hty,_,uN,hwf,hgo⟩:=H.place hr hv (own':=bG R.own (aS lF kk)) hg fK (fun t h=>(dF.1 h).1) Sn
 rw [hn] at hn'
 simp only [agb,agn] at hn'
 obtain ⟨rfl,rfl⟩:=hn'
 obtain ⟨ft,wL,hpt,Xx⟩:=qL (own':=bG R.own (aS lF kk)) (fun t ht hm=>by
  rcases vY (own:=lF) ht with h | h
  ·exact absurd h (dF.1 hm).2
  ·exact h) (oZ (aS lF kk) (fun _ h=>h) Mh)
 have X5:=hpt.nodup hh.nd
 have hft:∀b∈ft,b∈Jw:=fun b hb=>hpt.mem_iff.2 (agh _ hb)
 have Uy:∀b∈wL,b∈Jw:=fun b hb=>hpt.mem_iff.2 (agd _ hb)
 have Ah:b∉F:=H.iD r R hr b hbb
 have XU:=qb Xx
 suffices hP:o7 cx σ α F w r R p d (bG R.own (aS lF kk)) cs1 (some (b,o)) fI rest ⟨kk,x⟩ z (bif kk.flat then R.tags else iw (sw r qE) R.tags) [eG R p] ((bif d.1.beq kk then [] else pq kk)++kk.tys) kp ft (F.filter fun b=>!au b Jw) EU (w.setCells b o EU) by
  obtain ⟨α',h,_⟩:=hgo hP
  exact ⟨α',_,h⟩
 have hF':∀b',b'∈F.filter (fun b=>!au b Jw)↔b'∈F∧b'∉Jw:=fun b'=>by rw [agu]; simp [aT]
 refine ⟨hz,hds, ?_,⟨s7.1,s7.2.1,s7.2.2⟩,by omega, ?_, ?_,fun h=>by simp at h,by rw [hh.len,hds], .inl (by simp), ?_,fun b' hb'=>.inr (.inl (hh.sub b' (hft b' hb'))),(agj.1 X5).1,fun b' hb'=>.inl ((hF' b').1 hb').1,H.uW.filter _,fun b' hb' h=>((hF' b').1 h).2 (hft b' hb'), .inr (by simp), ?_, ?_, ?_⟩
 ·rcases hd with h | h
  ·rw [h]; exact fun _ h=>h
  ·rw [h,Kb]; intro t ht; simp at ht
 ·intro b' _ hne
  refine .inr (.inr ?_)
  by_cases e:b'=b
  ·subst e; exact ⟨o,rfl,by simp⟩
  ·exact absurd (s1 b' e) hne
 ·intro b' o' e'
  simp only [agb,agn] at e'
  obtain ⟨rfl,rfl⟩:=e'
  refine ⟨fun i hi=>?_,arr,jH,e,(lo,hi),hb,s3,s4,fun i hi=>?_⟩
  ·unfold cellAt
   rw [s3]
   exact s5 i hi
  ·exact s6 i (by rw [hh.len,hds]; exact hi)
 ·cases hfl:kk.flat with
  | true=>exact ⟨fun _ h=>h,hnt.1,hnt.2.2⟩
  | false=>
   refine ⟨fun t ht=>cZ.2 (.inr ht),fun t ht=>?_,fun n ht=>?_⟩
   ·rcases cZ.1 ht with h | h
    ·exact hh.wt t (mH.1 h).1
    ·exact hnt.1 t h
   ·rcases cZ.1 ht with h | h
    ·exact (mH.1 h).2 rfl
    ·exact hnt.2.2 n h
 ·cases hbq:d.1.beq kk with
  | true=>exact .inl (K.eq_of_beq hbq).symm
  | false=>
   have hdh:d.1=kk.hole:=hd.resolve_left (fun e=>by rw [e,K.NN] at hbq; simp at hbq)
   refine .inr (.inl fun q' h1 h2=>?_)
   have hnil:aa q' kk=[]:=by
    cases he:aa q' kk with
    | nil=>rfl
    | cons e l=>exact absurd (agd _ (lX q' e (by rw [he]; simp))) (h2 e (by rw [show aa q' (⟨kk,x⟩:Dat).1=aa q' kk from rfl,he]; simp))
   obtain ⟨dk,dx⟩:=d
   simp only at hdh
   subst hdh
   obtain ⟨h3,h4⟩:=Mm q' (y:=x) hnil h1
   refine ⟨?_, ?_⟩
   ·show aa q' kk.hole=aa q' kk
    rw [h3,hnil]
   ·show (aP q' kk.hole dx).isSome=true
    rw [nP q' (y:=qh kk x)]
    exact h4
 ·intro _ q c0 w0 hpq OX hnq Vq
  obtain ⟨dk,dx⟩:=d
  rcases hd with ek | ek
  ·simp only at ek
   subst ek
   exact qP q hpq (fun t ht=>⟨(OX t ht).1,fun h=>(OX t ht).2 (agd _ h)⟩) hnq
  ·simp only at ek
   subst ek
   have hs0:(aP q kk.hole dx).isSome=true:=Kl q hpq
   rw [nP q (y:=qh kk x)] at hs0
   obtain ⟨h1,h2,h3,_,h5⟩:=Ch (h:=hp w) q (x:=x) hs0
   have ac5:bH (hp w) q kk cs1 (some (b,o))=some (c0,w0):=by rw [←h5]; exact hnq
   exact qP (own:=bG R.own (aS lF kk)) q (QG q h1 h3) (fun t ht=>by rw [h1] at ht; simp at ht) ac5
 ·intro α' Tn hblk hval
  cases hfl:kk.flat with
  | true=>
   obtain ⟨e1,e2⟩:=QC (h':=hp (w.setCells b o EU)) (own':=bG R.own (aS lF kk)) (ok':=gW cx (aj σ r (bI R z (bG R.own (aS lF kk)) (bif kk.flat then R.tags else iw (sw r qE) R.tags) [eG R p] ((bif d.1.beq kk then [] else pq kk)++kk.tys) kp)) α' (F.filter fun b=>!au b Jw) (w.setCells b o EU) (bif true then R.tags else iw (sw r qE) R.tags)) hfl Xx
   subst e1
   rw [hfl] at e2
   exact e2
  | false=>
   rw [hfl] at Tn hblk hval
   have y9:=hself.resolve_left (by rw [hfl]; simp)
   simp only [cond_false] at Tn hblk hval ⊢
   generalize hR':bI R z (bG R.own (aS lF kk)) (iw (sw r qE) R.tags) [eG R p] ((bif d.1.beq kk then [] else pq kk)++kk.tys) kp=R' at *
   have hRw:R'.w=[eG R p]++R.w:=by rw [←hR']; rfl
   have hRt:R'.tags=iw (sw r qE) R.tags:=by rw [←hR']; rfl
   have hRv:R'.wH=aS (bG R.own (aS lF kk)) z.1:=by rw [←hR']; rfl
   have hRd:R'.bn=false:=hval.1
   have Yh:∀t∈aS lF kk,t∈R'.wH:=by
    intro t ht
    rw [hRv]
    have h1:=Ka (own:=lF) (own':=bG R.own (aS lF kk)) (k:=kk) (fun t ht hm=>by
     rcases vY (own:=lF) ht with h | h
     ·exact absurd h (dF.1 hm).2
     ·exact h) t ht
    rcases (Ey p hg hz).1 t h1 with h | ⟨q,h2,h3⟩
    ·exact h
    ·rw [Sn q h2] at h3; simp at h3
   have OD:∀n,(r,n)∈qE→eG R p∉aS lF kk:=by
    intro n hn1 hl
    unfold eG at hl
    cases hpt:aa p R.k with
    | nil=>
     rw [hpt] at hl
     simp only [List.getLastD_nil] at hl
     unfold FO at y9
     rw [Bool.or_eq_true] at y9
     rcases y9 with h | h
     ·have:=ags.1 h _ hn1
      simp at this
     ·unfold Root.bt at hl
      cases hk:R.kind with
      | var tv=>rw [hk] at h hl; simp only at h hl; rw [Bool.not_eq_true',aT] at h; exact h hl
      | par=>rw [hk] at h; simp at h
      | anon=>
       rcases uN b o rfl with h1 | ⟨o0,ew,_⟩
       ·
        rw [hpt] at hbad
        have:=hty b (agd _ h1)
        have hne:dS α R r=none:=by unfold dS; rw [hk]
        rw [hne] at hn
        have:=Px p hpt (by rw [hg]; rfl) hn
        simp at this
       ·unfold dS at ew; rw [hk] at ew; simp at ew
      | dead=>have:=hr.2; simp [Root.bn,hk] at this
    | cons e l=>
     rw [hpt,List.getLastD_eq_getLast?] at hl
     have:(e :: l).getLast?.getD R.bt∈(e :: l):=by
      rw [List.getLast?_eq_some_getLast (by simp)]
      exact List.getLast_mem _
     exact hbad _ (by rw [hpt]; exact this) hl
   have hc':bq (aj σ r R') (aS lF kk) qE=true:=by
    rw [lN]
    intro tg qi
    by_cases e:tg.1=r
    ·refine .inr ⟨R',by rw [e]; exact aH ..,hRd, ?_⟩
     rw [lN] at hc
     rcases hc tg qi with h | ⟨Q,h1,h2,h3⟩
     ·rw [e,hnt.2.1] at h; simp at h
     ·rw [e,hr.1] at h1
      simp only [agb] at h1
      subst h1
      rw [hRw]
      refine (mD ?_).2 ⟨fun t ht=>?_,h3⟩
      ·rcases hh.wt tg qi with h | ⟨Q,q1,q2⟩
       ·rw [e,hnt.2.1] at h; simp at h
       ·rw [e,hr.1] at q1
        simp only [agb] at q1
        subst q1
        rcases q2 with q2 | q2
        ·rw [hr.2] at q2; simp at q2
        ·exact q2
      ·simp only [agw] at ht
       subst ht
       exact OD tg.2 (by rw [←e]; exact qi)
    ·have h2:=hval.2
     rw [hRt,lN] at h2
     rcases h2 tg (cZ.2 (.inl (mH.2 ⟨qi,e⟩))) with h | ⟨Q,h3,h4,h5⟩
     ·exact .inl h
     ·refine .inr ⟨Q,h3,h4, ?_⟩
      unfold clean at h5 ⊢
      rw [ags] at h5 ⊢
      intro x hx
      have:=h5 x hx
      simp only [Bool.not_eq_true',aT] at this ⊢
      exact fun h=>this (Yh x h)
   obtain ⟨_,hV,_⟩:=Tn.views H qE (aS lF kk) hh.wt hc'
   have hsame:∀b',b'≠b→hp (w.setCells b o EU) b'=hp w b':=s1
   refine bz ?_ ?_ (fun b' hb'=>hsame b' (fun e=>Ah (e▸hh.sub b' (hft b' hb')))) Xx
   ·rintro b' (⟨h1,h2⟩ | h)
    ·exact (hV b' h1 (.inl h2)).2
    ·exact hsame b' (fun e=>Ah (e▸hh.sub b' (Uy b' h)))
   ·rintro b' (⟨h1,h2⟩ | h)
    ·obtain ⟨g1,g2,g3,g4,g5⟩:=(hV b' h1 (.inl h2)).1
     refine ⟨g1,g2,g3,fun q Q hq hbq=>?_,fun h0=>?_⟩
     ·obtain ⟨n,hn1⟩:=g4 q Q hq hbq
      by_cases e:q=r
      ·exfalso
       subst e
       obtain ⟨rfl,_⟩:=eH hq
       obtain ⟨tt,ht1,ht2⟩:=h2
       have Pz:∀e,mine cx w b'→nH (hp w) b'=some e→au e (bG R.own (aS lF kk))=true→False:=by
        intro e hmn he hm
        have ht2:=H.J9 hmn ht2
        rw [ht2] at he
        simp only [agb] at he
        subst he
        exact (dF.1 hm).2 ht1
       rcases hblk b' hbq with ⟨o',h⟩ | h | h
       ·unfold FO at y9
        rw [Bool.or_eq_true] at y9
        rcases y9 with h3 | h3
        ·have:=ags.1 h3 _ hn1
         simp at this
        ·cases hk:R.kind with
         | var tv=>
          rw [hk] at h3
          simp only at h3
          rw [Bool.not_eq_true',aT] at h3
          obtain ⟨_,aeQ,e2,lo2,hi2,f1,_,_,f4⟩:=K0.mem b' o' h
          have ht2:=H.J9 (K0.mine b' (by unfold blk; rw [h]; exact agK)) ht2
          unfold nH at ht2
          rw [f1] at ht2
          simp only [agb] at ht2
          exact h3 (by rw [←f4 tv hk,ht2]; exact ht1)
         | par=>rw [hk] at h3; simp at h3
         | anon=>unfold dS at h; rw [hk] at h; simp at h
         | dead=>have:=hr.2; simp [Root.bn,hk] at this
       ·obtain ⟨e,_,h3,h4⟩:=XU b' h
        exact Pz e (H.fl b' (hh.sub b' (hft b' h))) h4 h3
       ·obtain ⟨e,_,h3,h4⟩:=hty b' (agd _ h)
        exact Pz e (K0.mine b' (agd _ (hpf.mem_iff.2 (by simp [h])))) h4 h3
      ·exact ⟨n,cZ.2 (.inl (mH.2 ⟨hn1,e⟩))⟩
     ·rcases g5 h0 with ⟨j,n,h3,h4⟩ | h3
      ·refine .inl ⟨j,n,cZ.2 (.inl (mH.2 ⟨h3, ?_⟩)),h4⟩
       intro e
       have:=hnt.2.1
       rw [←e] at this
       simp only at this
       rw [iq] at this
       simp at this
      ·exact .inr h3
    ·have Ot:=hh.sub b' (Uy b' h)
     have hm:=H.fl b' Ot
     refine ⟨by have:=hm.1; omega,fun h2=>((hF' b').1 h2).2 (Uy b' h),oV H Ot,fun q Q hq hbq=>?_,fun h0=>?_⟩
     ·exfalso
      rcases iR hq with ⟨rfl,rfl,_⟩ | ⟨e,hq'⟩
      ·rcases hblk b' hbq with ⟨o',h2⟩ | h2 | h2
       ·exact H.iD _ _ hr b' (by rw [bX,eT]; exact .inl ⟨o',h2⟩) Ot
       ·exact (agj.1 X5).2.2 b' h2 b' h rfl
       ·exact H.iD _ _ hr b' (by rw [bX,eT,hpf.mem_iff]; exact .inr (by simp [h2])) Ot
      ·obtain ⟨Q2,g1,g2⟩:=Tn.old q Q hq'.1
       have hns:Same σ α (aj σ r R') α' q:=by
        refine agz fun hns=>?_
        rcases g2 with ⟨h1,h2⟩ | ⟨_,h2⟩
        ·rw [bW σ R' e] at g1
         rw [hq'.1] at g1
         simp only [agb] at g1
         subst g1
         rw [hq'.2] at h1
         simp at h1
        ·rcases h2.2.2.2.2.2.2 with h3 | ⟨_,_,h3⟩
         ·rw [nA _ e,nA _ e] at h3
          simp at h3
         ·exact hns h3
       rw [hns.blk] at hbq
       exact H.iD _ _ hq' b' hbq Ot
     ·rcases hm.2 with h | ⟨j,pi,h1,h2⟩
      ·omega
      ·exact .inr ⟨j,pi,h1,h2⟩
end
end
section
open Go
variable [Fr]
theorem eU (d c:Nat):fG (aZ d c)=false:=by
 unfold fG aZ
 have:(4 * (8 * d+c)+2) % 4=2:=by omega
 rw [this]; rfl
section
variable {cx:Cx} {σ:St} {α:dK} {F:List Nat} {a:Act} {w:World} {r:Nat}
theorem Ir {T:List Tag} (h:eP σ T) (hn:σ.roots r=none) (hx:fG r=false):∀n,(r,n)∉T:=by
 intro n hn2
 rcases h _ hn2 with h | ⟨Q,h,_⟩
 ·simp only at h; rw [hx] at h; simp at h
 ·simp only at h; rw [hn] at h; simp at h
theorem Gg (H:Rel cx σ α F a w) (hn:σ.roots r=none) (hx:fG r=false) {R':Root} (hd:R'.bn=false) (hk:R'.kind≠.par) (oH:eP σ R'.tags) (loc:Nat×Nat) (hdr':List Value) (dG F':List Nat)
  (hblk:∀b∈gT R' loc dG,b∈F∧b∉F') (hnd:(gT R' loc dG).Nodup) (hF':∀b∈F',b∈F) (GU:F'.Nodup)
  (how:bq σ R'.wH R'.tags=true→Ow (hp w) R'.own (fun b=>gW cx σ α F w R'.tags b∨(b∈F∧b∉F'∧b∉gT R' loc dG)) R'.k R'.x hdr' dG) (hlen:hdr'.length=R'.k.size)
  (hmem:∀b o,rZ R' loc=some (b,o)→Cells (hp w) b o hdr'∧∃arr e lo hi,hp w b=some (.cells arr e (lo,hi))∧yJ arr.size lo hi∧o+R'.k.size≤arr.size∧(∀t,R'.kind=.var t→e=t)) :
  Rel cx (aj σ r R') (aG α r loc hdr' dG) F' a w∧kK cx σ α F w (aj σ r R') (aG α r loc hdr' dG) F' w (pF r []) (pF r []):=by
 have hns:∀{q:Nat},¬Same σ α (aj σ r R') (aG α r loc hdr' dG) q→q=r:=fun {q} h=>agz fun e=>h (gK e)
 have hold:∀{q Q},σ.roots q=some Q→q≠r:=fun {q Q} h e=>by rw [e,hn] at h; simp at h
 have T:kK cx σ α F w (aj σ r R') (aG α r loc hdr' dG) F' w (pF r []) (pF r []):=by
  refine ⟨rfl,⟨rfl,rfl,rfl⟩,agt _, ?_, ?_, ?_,fun b _ h=>absurd rfl h, ?_,GU, ?_, ?_,fun _ _ _ _ _ _ _ h=>absurd rfl h,fun q Q Q' h1 h2 _=>by rw [bW σ R' (hold h1),h1] at h2; simp only [agb] at h2; subst h2; exact ⟨rfl,rfl⟩⟩
  ·intro q Q hQ
   have e:=hold hQ
   refine ⟨Q,by rw [bW σ R' e]; exact hQ, ?_⟩
   cases hd:Q.bn with
   | true=>exact .inl ⟨rfl,by intro hk; simp [Root.bn,hk] at hd⟩
   | false=>exact .inr ⟨rfl,by rw [nA _ e]; rfl,by rw [nA _ e]; rfl,agt _,rfl,by simp [aG,upd_ne _ _ e],fun _=>rfl, .inr ⟨nA _ e,nA _ e,gK e⟩⟩
  ·intro q Q hQ hs
   have e:=hns hs
   subst e
   rw [aH] at hQ
   simp only [agb] at hQ
   subst hQ
   refine ⟨fun t ht=>?_,hx,Ir oH hn hx⟩
   have hne:t.1≠q:=fun e=>Ir oH hn hx t.2 (by rw [←e]; exact ht)
   rcases oH t ht with h | ⟨Q,h1,h2⟩
   ·exact .inl h
   ·exact .inr ⟨Q,by rw [bW σ R' hne]; exact h1,h2⟩
  ·intro q Q hq hQ
   by_cases e:q=r
   ·subst e
    rw [aH] at hQ
    simp only [agb] at hQ
    subst hQ
    exact hk
   ·rw [bW σ R' e,hq] at hQ; simp at hQ
  ·rintro b (⟨q,Q,hq,hb,hno⟩ | hb)
   ·rcases iR hq with ⟨rfl,rfl,_⟩ | ⟨e,hq'⟩
    ·rw [eD] at hb
     exact .inl (hblk b hb).1
    ·rw [(gK (α:=α) (σ:=σ) (R:=R') e).blk] at hb
     exact absurd ⟨Q,hq',hb⟩ hno
   ·exact .inl (hF' b hb)
  ·intro q Q hq hs b hb
   have e:=hns hs
   subst e
   obtain ⟨rfl,_⟩:=eH hq
   rw [eD] at hb
   exact (hblk b hb).2
  ·intro q Q q' Q' hq hq' hne hs hs'
   exact absurd ((hns hs).trans (hns hs').symm) hne
 refine ⟨H.turn T ?_ ?_ ?_,T⟩
 ·intro q Q hq hs
  have e:=hns hs
  subst e
  obtain ⟨rfl,_⟩:=eH hq
  refine ⟨fun hv=>?_, ?_, ?_, ?_⟩
  ·have e1:(aG α q loc hdr' dG).hdr q=hdr':=by simp [aG,upd_same]
   have e2:(aG α q loc hdr' dG).fo q=dG:=by simp [aG,upd_same]
   rw [e1,e2]
   obtain ⟨h1,h2,_⟩:=T.views H Q.tags _ oH hv.2
   refine bz (fun _ _=>rfl) ?_ (fun _ _=>rfl) (oZ _ (fun _ h=>h) (how h1))
   rintro b ⟨hb | ⟨g1,g2,g3⟩,hty⟩
   ·exact (h2 b hb (.inl hty)).1
   ·have hm:=H.fl b g1
    refine ⟨hm.1,g2,oV H g1,fun q' Q' hq' hb'=>?_,fun h0=>?_⟩
    ·exfalso
     rcases iR hq' with ⟨rfl,rfl,_⟩ | ⟨e,hq2⟩
     ·rw [eD] at hb'; exact g3 hb'
     ·rw [(gK (α:=α) (σ:=σ) (R:=Q) e).blk] at hb'
      exact H.iD _ _ hq2 b hb' g1
    ·rcases hm.2 with h | ⟨j,pi,h1,h2⟩
     ·omega
     ·exact .inr ⟨j,pi,h1,h2⟩
  ·simpa [aG,upd_same] using hlen
  ·intro b o hb
   rw [jg] at hb
   simpa [aG,upd_same] using hmem b o hb
  ·rw [eD]; exact hnd
 ·intro q Q hq hs
  exact absurd (hns hs) (hold hq.1)
 ·intro q Q hq hs
  exact absurd (hns hs) (hold hq.1)
theorem gG {R:Root} (h:R.kind=.anon) (loc:Nat×Nat) (fo:List Nat):gT R loc fo=fo:=by simp [gT,h]
theorem qV {R:Root} {t:TypeId} (h:R.kind=.var t) (loc:Nat×Nat) (fo:List Nat):gT R loc fo=loc.1 :: fo:=by simp [gT,h]
theorem ug {R:Root} (h:R.kind=.anon) (loc:Nat×Nat):rZ R loc=none:=by simp [rZ,h]
theorem Iw {R:Root} {t:TypeId} (h:R.kind=.var t) (loc:Nat×Nat):rZ R loc=some loc:=by simp [rZ,h]
theorem Pw {k:K} {x:El k} {own:List TypeId} {tags:List Tag} {kp:Bool} {hdr:List Value} {fo F':List Nat} {loc:Nat×Nat} {v:Value} {w:World} (h:VC k v hdr) :
  bJ cx (aj σ r (aI k x own tags .anon kp)) (aG α r loc hdr fo) F' w (.ref r 0) v:=by
 intro Q hQ _
 obtain ⟨rfl,_⟩:=eH hQ
 refine ⟨rfl, ?_⟩
 simp only [aG,upd_same]
 exact h
theorem Va {k:K} {x:El k} {own:List TypeId} {tags:List Tag} {kp:Bool} {hdr:List Value} {fo F':List Nat} {b:Nat} {t:TypeId} {w:World} :
  bJ cx (aj σ r (aI k x own tags (.var t) kp)) (aG α r (b,0) hdr fo) F' w (.ptr r [] 0) (.pointer (some ⟨b,0,none⟩)):=by
 refine ⟨⟨b,0,rfl⟩, ?_⟩
 intro Q hQ _ _ _ _
 rw [aH] at hQ
 simp only [agb] at hQ
 subst hQ
 refine ⟨trivial,hdr,b,0, ?_,rfl⟩
 simp only [bH]
 rw [jg]
 simp [rZ,aI,aG,upd_same]
theorem RB {k:K} {x:El k} {own:List TypeId} {tags:List Tag} {kp:Bool} {hdr:List Value} {fo F':List Nat} {b o:Nat} {t:TypeId} {w:World} :
  bJ cx (aj σ r (aI k x own tags (.var t) kp)) (aG α r (b,o) hdr fo) F' w (.ptr r [] 0) (.pointer (some ⟨b,o,none⟩)):=by
 refine ⟨⟨b,o,rfl⟩, ?_⟩
 intro Q hQ _ _ _ _
 rw [aH] at hQ
 simp only [agb] at hQ
 subst hQ
 refine ⟨trivial,hdr,b,o, ?_,rfl⟩
 simp only [bH]
 rw [jg]
 simp [rZ,aI,aG,upd_same]
theorem wE {tk:gQ} (h:eP σ tk.tags):eP σ tk.gz:=by
 unfold gQ.gz
 split
 ·intro t ht; simp at ht
 ·exact h
theorem fV {h:Heap} {own:List TypeId} {ok ok':Nat→Prop} {k:K} {x:El k} {cs:List Value} {fo:List Nat} (hv:aS own k=[]) (H:Ow h own ok k x cs fo):Ow h own ok' k x cs fo:=by
 refine bz (fun _ _=>rfl) (fun b hb=>?_) (fun _ _=>rfl) (oZ [] (by rw [hv]; exact fun _ h=>h) H)
 obtain ⟨_,t,ht,_⟩:=hb
 simp at ht
theorem Kw {P:Program} {tk:gQ} {t:TypeId} {v:Value} {cs:List Value} {fo:List Nat} (H:Rel cx σ α F a w) (hn:σ.roots r=none) (hx:fG r=false) (hh:Held cx σ α F w tk.k tk.x tk.own tk.tags cs fo)
  (hc:bq σ (aS tk.own tk.k) tk.tags=true) (hv:VC tk.k v cs) (kp:Bool) :
  (Instr.box t v).run P w=.ok (.pointer (some ⟨w.heap.size,0,none⟩)) (w.alloc (.cells v.cells t))∧
   ∃α' F',Rel cx (aj σ r (aI tk.k tk.x tk.own tk.gz (.var t) kp)) α' F' a (w.alloc (.cells v.cells t))∧
    bJ cx (aj σ r (aI tk.k tk.x tk.own tk.gz (.var t) kp)) α' F' (w.alloc (.cells v.cells t)) (.ptr r [] 0) (.pointer (some ⟨w.heap.size,0,none⟩)):=by
 refine ⟨Eo t v w, ?_⟩
 have hcs:v.cells=cs.toArray:=by
  have:=hv.cells
  apply Array.ext'
  simpa using this
 rw [hcs]
 obtain ⟨H1,T1⟩:=H.alloc (.cells cs.toArray t)
 have hh1:=hh.turn H T1 (fun b hb=>⟨mF w _ (H.fl b (hh.sub b hb)).1,agB _ (hh.sub b hb)⟩)
 have hnew:hp (w.alloc (.cells cs.toArray t)) w.heap.size=some (.cells cs.toArray t (0,0)):=oG w _
 have Ah:w.heap.size∉F:=fun h=>by have:=(H.fl _ h).1; omega
 have hbf:w.heap.size∉fo:=fun h=>Ah (hh.sub _ h)
 have hk:(aI tk.k tk.x tk.own tk.gz (.var t) kp).kind=.var t:=rfl
 obtain ⟨h1,h2⟩:=Gg (R':=aI tk.k tk.x tk.own tk.gz (.var t) kp) H1 hn hx rfl (by simp [aI]) (wE hh1.wt) (w.heap.size,0) cs fo (F.filter fun b=>!au b fo)
  (fun b hb=>by
   rw [qV hk] at hb
   rcases agp.1 hb with h | h
   ·simp only at h; subst h
    exact ⟨agK,fun h=>Ah (agu.1 h).1⟩
   ·refine ⟨agB _ (hh.sub b h),fun h2=>?_⟩
    have:=(agu.1 h2).2
    simp only [Bool.not_eq_true',aT] at this
    exact this h)
  (by rw [qV hk]; exact agL.2 ⟨hbf,hh.nd⟩)
  (fun b hb=>agB _ (agu.1 hb).1) (H.uW.filter _)
  (fun hcl=>by
   show Ow _ tk.own _ tk.k tk.x cs fo
   cases hb:tk.bad with
   | nil=>exact fV hb (hh1.ow hc)
   | cons t0 l=>
    have et:(aI tk.k tk.x tk.own tk.gz (.var t) kp).tags=tk.tags:=by
     show tk.gz=tk.tags
     unfold gQ.gz
     rw [hb]
    rw [et] at hcl ⊢
    exact bz (fun _ _=>rfl) (fun b h=>.inl h) (fun _ _=>rfl) (hh1.ow hcl)) hh.len
  (fun b o hb=>by
   rw [Iw hk] at hb
   simp only [agb,agn] at hb
   obtain ⟨rfl,rfl⟩:=hb
   refine ⟨fun i hi=>?_,cs.toArray,t,0,0,hnew,yJ.zero, ?_,fun t' ht'=>?_⟩
   ·unfold cellAt
    rw [hnew]
    simp
   ·show 0+tk.k.size≤_
    simp [hh.len]
   ·have:zC.var t=zC.var t':=ht'
    simpa using this)
 exact ⟨_,_,h1,Va⟩
theorem DF {k:K} {x:El k} {own:List TypeId} {tags:List Tag} {v:Value} {cs:List Value} {fo:List Nat} (H:Rel cx σ α F a w) (hn:σ.roots r=none) (hx:fG r=false)
  (hsub:∀b∈fo,b∈F) (hnd:fo.Nodup) (hwt:eP σ tags) {F':List Nat} (hF':∀b∈F',b∈F∧b∉fo) (GU:F'.Nodup) (hlen:cs.length=k.size)
  (how:bq σ (aS own k) tags=true→Ow (hp w) own (fun b=>gW cx σ α F w tags b∨(b∈F∧b∉F'∧b∉fo)) k x cs fo) (hv:VC k v cs) (kp:Bool) :
  Rel cx (aj σ r (aI k x own tags .anon kp)) (aG α r (0,0) cs fo) F' a w∧bJ cx (aj σ r (aI k x own tags .anon kp)) (aG α r (0,0) cs fo) F' w (.ref r 0) v:=by
 have hk:(aI k x own tags .anon kp).kind=.anon:=rfl
 obtain ⟨h1,h2⟩:=Gg (R':=aI k x own tags .anon kp) H hn hx rfl (by simp [aI]) hwt (0,0) cs fo F'
  (fun b hb=>by rw [gG hk] at hb; exact ⟨hsub b hb,fun h=>(hF' b h).2 hb⟩) (by rw [gG hk]; exact hnd) (fun b hb=>(hF' b hb).1) GU
  (fun hc=>by rw [gG hk]; exact how hc) hlen (fun b o hb=>by rw [ug hk] at hb; simp at hb)
 exact ⟨h1,Pw hv⟩
theorem tN {k:K} {x:El k} {own:List TypeId} {tags:List Tag} {v:Value} {cs:List Value} {fo:List Nat} (H:Rel cx σ α F a w) (hn:σ.roots r=none) (hx:fG r=false)
  (hsub:∀b∈fo,b∈F) (hnd:fo.Nodup) (hwt:eP σ tags) {F':List Nat} (hF':∀b∈F',b∈F∧b∉fo) (GU:F'.Nodup) (hlen:cs.length=k.size)
  (how:bq σ (aS own k) tags=true→Ow (hp w) own (fun b=>gW cx σ α F w tags b∨(b∈F∧b∉F'∧b∉fo)) k x cs fo) (hv:VC k v cs) (kp:Bool) :
  ∃α',Rel cx (aj σ r (aI k x own tags .anon kp)) α' F' a w∧bJ cx (aj σ r (aI k x own tags .anon kp)) α' F' w (.ref r 0) v:=
 ⟨_,DF H hn hx hsub hnd hwt hF' GU hlen how hv kp⟩
end
end
section
open Go
variable [Fr]
def nU (P:Program) (cx:Cx) (o:Oper) (a:Act) (w:World) (σ':St):Prop:=
 ∃v w' α' F',((execOp a.eval o).run P w=.ok (.value v) w'∨((execOp a.eval o).run P w=.ok .skip w'∧v=undef))∧Rel cx σ' α' F' (a.put o.dst v) w'
theorem nU.wp {P:Program} {cx:Cx} {o:Oper} {a:Act} {w:World} {σ':St} (h:nU P cx o a w σ') {K:Act→World→Prop} {Q:Exit→Act→World→Prop}
  (hK:∀α' F' a' w',Rel cx σ' α' F' a' w'→K a' w'):o.wp P a w K Q:=by
 obtain ⟨v,w',α',F',h | ⟨h,rfl⟩,h2⟩:=h
 ·unfold Oper.wp; rw [h]; exact hK _ _ _ _ h2
 ·unfold Oper.wp; rw [h]; exact hK _ _ _ _ h2
section
variable {P:Program} {T:iF} {cx:Cx} {σ:St} {α:dK} {F:List Nat} {a:Act} {w:World} {o:Oper} {d:Nat} {ws:List Wr}
theorem bK (H:Rel cx σ α F a w) (hd:o.dst=some d) (hdn:d<cx.nt) {x:sN} {v:Value} (hrun:(execOp a.eval o).run P w=.ok (.value v) w) (hx:iM cx σ α F w x v) (hw:sQ σ x) :
  nU P cx o a w (az [.s d x] σ):=by
 refine ⟨v,w,α,F, .inl hrun, ?_⟩
 rw [hd]
 exact H.put hdn hw hx
theorem gU {σ1:St} {dJ:dK} {F1:List Nat} {w1:World} (H:Rel cx σ1 dJ F1 a w1) (hd:o.dst=some d) (hdn:d<cx.nt) {x:sN} {v:Value} (hrun:(execOp a.eval o).run P w=.ok (.value v) w1) (hx:iM cx σ1 dJ F1 w1 x v) (hw:sQ σ1 x) :
  nU P cx o a w (az [.s d x] σ1):=by
 refine ⟨v,w1,dJ,F1, .inl hrun, ?_⟩
 rw [hd]
 exact H.put hdn hw hx
theorem fJ {A:Type} {z:A} {r:Nat} {k:Prog A} (h:(gZ r k).ends σ z):σ.roots r=none∧k.ends σ z:=by
 unfold gZ at h
 simp only [Prog.ends] at h
 cases hr:σ.roots r with
 | none=>rw [hr] at h; exact ⟨rfl,h⟩
 | some R=>rw [hr] at h; exact h.elim
theorem aB {A:Type} {z x:A} (h:(Prog.ret x).ends σ z):z=x:=h
theorem NY (H:Rel cx σ α F a w) (hd:o.dst=some d) (hdn:d<cx.nt) {x:Operand} (ho:o.op=.move x) (h:(qD x fun v=>(.ret [.s d v]:Prog (List Wr))).ends σ ws):nU P cx o a w (az ws σ):=by
 obtain ⟨v,h1,h2,h3⟩:=pg H h
 rw [aB h3]
 exact bK H hd hdn (by simp [execOp,ho]) h1 h2
theorem fE.sl {t:TypeId} {e:TypeId} {k:K} (h:fE P T t (.sl e k)):P.underlying t=some (.slice e)∧fE P T e k∧0<k.size∧∃i,P.info? e=some i∧i.bytes=T.bytes e∧0<i.bytes:=by
 unfold fE iX at h
 exact ⟨h.1,h.2.2.1,h.2.2.2.1,h.2.2.2.2⟩
theorem vO {e:TypeId} {k:K} {c:Option Addr} {own:List TypeId} {ok:Nat→Prop} {h:Heap}:Ow h own ok (.sl e k) ([]:List (El k)) [.slice c 0 0] []:=by
 unfold Ow
 split
 ·exact ⟨c,0,0,rfl,rfl,agt _, .inl ⟨rfl,rfl⟩⟩
 ·exact ⟨rfl,c,0,0,rfl,rfl,agt _,fun h=>by omega⟩
theorem Jk {L:K→List TypeId} (H:Rel cx σ α F a w) (hd:o.dst=some d) (hdn:d<cx.nt) {x:Operand} (ho:o.op=.assign x)
  (h:(qD x fun
   | .one .iE=>match T.ty o.type with
    | some (.sl e kk)=>.root (aZ d 0) fun
     | none=>.ret [.r (aZ d 0) (some (aI (.sl e kk) [] (e :: L kk) [] .anon)), .s d (.one (.ref (aZ d 0) 0))]
     | some _=>.ret [.s d (.one .iE)]
    | _=>.fail
   | v=>(.ret [.s d v]:Prog (List Wr))).ends σ ws):nU P cx o a w (az ws σ):=by
 obtain ⟨v,h1,h2,h3⟩:=pg H h
 have hrun:(execOp a.eval o).run P w=.ok (.value (a.eval x)) w:=by simp [execOp,ho]
 have key:ws=[.s d v]→nU P cx o a w (az ws σ):=fun e=>by rw [e]; exact bK H hd hdn hrun h1 h2
 cases v with
 | C8 l=>exact key (aB h3)
 | lit _ _ _=>exact key (aB h3)
 | one v=>
  cases v with
  | iE=>
   have h1':=h1
   obtain ⟨c,hc⟩:=h1
   simp only at h3
   split at h3
   ·rename_i e kk hty
    simp only [Prog.ends] at h3
    cases g1:σ.roots (aZ d 0) with
    | some Q=>
     rw [g1] at h3
     exact key (aB h3)
    | none=>
    rw [g1] at h3
    have g2:=h3
    rw [aB g2]
    obtain ⟨α',k1,k2⟩:=tN (k:=.sl e kk) (x:=([]:List (El kk))) (own:=e :: L kk) (tags:=[]) (v:=a.eval x) (cs:=[.slice c 0 0]) (fo:=[]) (r:=aZ d 0) (F':=F) H g1 (eU d 0) (fun b hb=>by simp at hb) List.nodup_nil (fun t ht=>by simp at ht)
     (fun b hb=>⟨hb,by simp⟩) H.uW rfl (fun _=>vO) (by rw [hc]; exact yD) false
    exact gU (x:=.one (.ref (aZ d 0) 0)) k1 hd hdn hrun k2 ⟨_,aH .., .inr (agM _)⟩
   ·exact h3.elim
  | _=>exact key (aB h3)
theorem NZ (H:Rel cx σ α F a w) (hd:o.dst=some d) (hdn:d<cx.nt) {c x y:Operand} (ho:o.op=.pick c x y)
  (h:(dL c fun c=>asBool c fun c=>qD x fun v=>qD y fun u=>.br c (.ret [.s d v]) ((.ret [.s d u]):Prog (List Wr))).ends σ ws):nU P cx o a w (az ws σ):=by
 obtain ⟨vc,h1,_,h⟩:=bR H h
 obtain ⟨b,h2,h⟩:=Bc h1 h
 obtain ⟨v,h3,h4,h⟩:=pg H h
 obtain ⟨u,h5,h6,h⟩:=pg H h
 rcases h with ⟨hb,h⟩ | ⟨hb,h⟩
 ·rw [aB h]
  exact bK H hd hdn (by simp [execOp,ho,h2,hb,Go.asBool]) h3 h4
 ·rw [aB h]
  exact bK H hd hdn (by simp [execOp,ho,h2,hb,Go.asBool]) h5 h6
theorem fE.shape {t:TypeId} {k:K} (h:fE P T t k):(∀a b,k≠.pair a b)∧k≠.unit∧∀n,k≠.gap n:=by
 unfold fE iX at h
 refine ⟨fun a b e=>?_,fun e=>?_,fun n e=>?_⟩ <;> subst e <;> exact h.elim
theorem dA {own:List TypeId} {k:K} (h:∀t∈k.tys,au t own=true):aS own k=[]:=by
 cases he:aS own k with
 | nil=>rfl
 | cons t l=>
  exfalso
  have key:∀(k:K),(∀t∈k.tys,au t own=true)→∀t,t∉aS own k:=by
   intro k
   induction k with
   | sl e k ih=>
    intro h t ht
    simp only [aS,h e (by simp [K.tys]),cond_true] at ht
    exact ih (fun t ht=>h t (by simp [K.tys,ht])) t ht
   | pair a b iha ihb=>
    intro h t ht
    simp only [aS,agl] at ht
    rcases ht with ht | ht
    ·exact iha (fun t ht=>h t (by simp [K.tys,ht])) t ht
    ·exact ihb (fun t ht=>h t (by simp [K.tys,ht])) t ht
   | st f ih=>intro h t ht; exact ih h t ht
   | _=>intro _ t ht; simp [aS] at ht
  exact key k h t (by rw [he]; simp)
theorem MN {l:List Nat}:∀t∈l,au t l=true:=fun t ht=>aJ.2 ht
theorem LP (hT:dX P T) (H:Rel cx σ α F a w) (hd:o.dst=some d) (hdn:d<cx.nt) {t:TypeId} (ho:o.op=.alloc t)
  (h:(match T.ty t with
   | some kk=>gZ (aZ d 0) (.ret [Wr.r (aZ d 0) (some (aI kk kk.zero kk.tys [] (.var t))),Wr.s d (.one (.ptr (aZ d 0) [] 0))])
   | none=>(.fail:Prog (List Wr))).ends σ ws):nU P cx o a w (az ws σ):=by
 split at h
 ·rename_i kk hty
  have ht:=hT.ty t kk hty
  obtain ⟨g1,g2⟩:=fJ h
  rw [aB g2]
  obtain ⟨s1,s2,s3⟩:=ht.shape
  have hz:Ow (hp w) kk.tys (gW cx σ α F w []) kk kk.zero (bN kk) []:=yH ht.eO MN
  obtain ⟨k0,α',F',k1,k2⟩:=Kw (P:=P) (tk:=⟨kk,kk.zero,kk.tys,[],[],false⟩) (t:=t) (v:=oU kk) (cs:=bN kk) (fo:=[]) (r:=aZ d 0) H g1 (eU d 0)
   ⟨fun _=>hz,fun t ht=>by simp at ht,fun b hb=>by simp at hb,List.nodup_nil,dh hz⟩ rfl (Le s1 s2 s3) false
  have e0:(gQ.gz ⟨kk,kk.zero,kk.tys,[],[],false⟩)=[]:=by unfold gQ.gz; split <;> rfl
  rw [e0] at k1 k2
  exact gU (x:=.one (.ptr (aZ d 0) [] 0)) k1 hd hdn (by
   have:=Ij (P:=P) ht w
   simp only [execOp,ho,agD,this,agv,agI]) k2 ⟨_,aH .., .inr (agM _)⟩
 ·exact h.elim
theorem E5 (H:Rel cx σ α F a w) (hd:o.dst=some d) (hdn:d<cx.nt) {x:Operand} (ho:o.op=.nilCheck x)
  (h:(dL x fun
   | .ptr r p h=>.ret [.s d (.one (.ptr r p h))]
   | .iK bt kk y tags=>.ret [.s d (.one (.iK bt kk y tags))]
   | _=>(.fail:Prog (List Wr))).ends σ ws):nU P cx o a w (az ws σ):=by
 obtain ⟨v,h1,h2,h⟩:=bR H h
 cases v with
 | ptr r p n=>
  rw [aB h]
  obtain ⟨b,q,hv⟩:=h1.1
  exact bK (v:=a.eval x) H hd hdn (by simp [execOp,ho,hv]) h1 h2
 | iK bt kk y tags=>
  rw [aB h]
  obtain ⟨b,q,hv⟩:=h1.1
  exact bK (v:=a.eval x) H hd hdn (by simp [execOp,ho,hv]) h1 h2
 | _=>exact h.elim
end
end
end Go.Proofs.Ytabnmpabdhmkoaa.Ow
