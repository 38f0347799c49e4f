/- A verified reading of translated code: values in place of memory; part B of 6, spaces and remarks taken out. No condition. Own work of this seat. -/
import Derived.Test.YtailcbngagacaaaOwA
/- The framework, part 9: slots, one root's turn, what is handed away. Own work of this seat. -/
set_option linter.unusedSectionVars false
set_option linter.unusedVariables false
set_option linter.unusedSimpArgs false
namespace Go.Proofs.Ytailcbngagacaaa.Ow
open Go
variable [Fr]
def withSlots (σ:St) (s:Nat→AV1):St:=⟨s,σ.roots⟩
theorem cleanT_slots (σ:St) (s:Nat→AV1) (tys:List TypeId):∀(T:List Tag),cleanT (withSlots σ s) tys T=cleanT σ tys T
 | []=>rfl
 | (r,n) :: T=>by simp only [cleanT,cleanT_slots σ s tys T]; rfl
section
variable {cx:Cx} {σ:St} {α:Asg} {F:List Nat} {a:Act} {w:World}
theorem okT_slots (s:Nat→AV1):okT cx (withSlots σ s) α F w=okT cx σ α F w:=rfl
theorem roOk_slots (s:Nat→AV1) {bt:TypeId} {k:K} {x:El k} {T:List Tag} {v:Value}:roOk cx (withSlots σ s) α F w bt k x T v↔roOk cx σ α F w bt k x T v:=by
 unfold roOk
 rw [cleanT_slots,okT_slots]
 exact Iff.rfl
theorem capsOk_slots (s:Nat→AV1):∀{cs:List (TypeId×Dat×List Tag)} {vs:List Value},capsOk cx (withSlots σ s) α F w cs vs↔capsOk cx σ α F w cs vs
 | [],[]=>Iff.rfl
 | c :: cs,v :: vs=>by simp only [capsOk,roOk_slots s,capsOk_slots s]
 | [],_ :: _=>Iff.rfl
 | _ :: _,[]=>Iff.rfl
theorem validR_slots (s:Nat→AV1) {R:Root}:validR (withSlots σ s) R↔validR σ R:=by unfold validR; rw [cleanT_slots]
theorem AVok_slots (s:Nat→AV1) {x:AV} {v:Value}:AVok cx (withSlots σ s) α F w x v↔AVok cx σ α F w x v:=by
 cases x with
 | undef=>exact Iff.rfl
 | val k x T=>simp only [AVok,cleanT_slots,okT_slots]
 | nils=>exact Iff.rfl
 | ref r g=>exact Iff.rfl
 | cpy r g k p=>exact Iff.rfl
 | bor r p n=>simp only [AVok,validR_slots]; exact Iff.rfl
 | ptr r p n=>simp only [AVok,validR_slots]; exact Iff.rfl
 | rptr bt k x T=>exact roOk_slots s
 | nilp=>exact Iff.rfl
 | nilq _=>exact Iff.rfl
 | part _ _ _ _ _=>exact Iff.rfl
 | pcut _ _ _ _=>simp only [AVok,validR_slots]; exact Iff.rfl
 | app _ _ _ _=>simp only [AVok,validR_slots]; exact Iff.rfl
 | fn f cs=>simp only [AVok,capsOk_slots s]
theorem listOk_slots (s:Nat→AV1):∀{l:List AV} {vs:List Value},listOk cx (withSlots σ s) α F w l vs↔listOk cx σ α F w l vs
 | [],[]=>Iff.rfl
 | c :: cs,v :: vs=>by simp only [listOk,AVok_slots s,listOk_slots s]
 | [],_ :: _=>Iff.rfl
 | _ :: _,[]=>Iff.rfl
theorem AV1ok_slots (s:Nat→AV1) {x:AV1} {v:Value}:AV1ok cx (withSlots σ s) α F w x v↔AV1ok cx σ α F w x v:=by
 cases x with
 | one a=>exact AVok_slots s
 | tup l=>simp only [AV1ok,listOk_slots s]
theorem avW_slots (s:Nat→AV1) {x:AV}:avW (withSlots σ s) x↔avW σ x:=by cases x <;> exact Iff.rfl
theorem av1W_slots (s:Nat→AV1) {x:AV1}:av1W (withSlots σ s) x↔av1W σ x:=by cases x <;> exact Iff.rfl
theorem Rel.put (H:Rel cx σ α F a w) {d:Nat} {x:AV1} {v:Value} (hd:d<cx.nt) (hw:av1W σ x) (hx:AV1ok cx σ α F w x v) :
  Rel cx (withSlots σ (upd σ.slots d x)) α F (a.put (some d) v) w where
 defs:=H.defs
 sz:=by simpa [Act.put] using H.sz
 pbase:=H.pbase
 parb:=H.parb
 slots:=by
  intro s
  rw [AV1ok_slots]
  show AV1ok cx σ α F w (upd σ.slots d x s) _
  by_cases e:s=d
  ·subst e
   rw [upd_same]
   have:(a.put (some s) v).tmps.getD s undef=v:=by
    have:=H.sz
    simp [Act.put,Array.getElem?_setIfInBounds_self_of_lt (show s<a.tmps.size by omega)]
   rw [this]
   exact hx
  ·rw [upd_ne _ _ e]
   have:(a.put (some d) v).tmps.getD s undef=a.tmps.getD s undef:=by
    simp [Act.put,Array.getElem?_setIfInBounds_ne (Ne.symm e)]
   rw [this]
   exact H.slots s
 wslots:=by
  intro s
  rw [av1W_slots]
  show av1W σ (upd σ.slots d x s)
  by_cases e:s=d
  ·subst e; rw [upd_same]; exact hw
  ·rw [upd_ne _ _ e]; exact H.wslots s
 roots:=by
  intro r R hr
  have K:=H.roots r R hr
  exact ⟨fun hv=>K.ow ((validR_slots _).1 hv),K.len,K.mem,K.nd,K.mine⟩
 wroots:=H.wroots
 dis:=H.dis
 fl:=H.fl
 fnd:=H.fnd
 fdis:=H.fdis
 frame:=H.frame
 keepb:=H.keepb
 parlt:=H.parlt
 keepp:=fun j p ts v h=>let ⟨h0,R,h1,h2⟩:=H.keepp j p ts v h; ⟨h0,R,h1,fun ht=>(AVok_slots _).2 (h2 ht)⟩
 keepr:=H.keepr
def dw (w:World) (n:Nat):World:={ w with drawn:=n }
theorem capsOk_dw (n:Nat):∀{cs:List (TypeId×Dat×List Tag)} {vs:List Value},capsOk cx σ α F w cs vs→capsOk cx σ α F (dw w n) cs vs
 | [],[],_=>trivial
 | _ :: _,_ :: _,h=>⟨h.1,capsOk_dw n h.2⟩
 | [],_ :: _,h=>h.elim
 | _ :: _,[],h=>h.elim
theorem AVok_dw (n:Nat) {x:AV} {v:Value} (h:AVok cx σ α F w x v):AVok cx σ α F (dw w n) x v:=by
 cases x with
 | fn f cs=>obtain ⟨vs,h1,h2⟩:=h; exact ⟨vs,h1,capsOk_dw n h2⟩
 | undef=>exact h
 | val k x T=>exact h
 | nils=>exact h
 | ref r g=>exact h
 | cpy r g k p=>exact h
 | bor r p n=>exact h
 | ptr r p n=>exact h
 | rptr bt k x T=>exact h
 | nilp=>exact h
 | nilq _=>exact h
 | part _ _ _ _ _=>exact h
 | pcut _ _ _ _=>exact h
 | app _ _ _ _=>exact h
theorem Rel.drawn (H:Rel cx σ α F a w) (n:Nat):Rel cx σ α F a (dw w n) where
 defs:=H.defs
 sz:=H.sz
 pbase:=H.pbase
 parb:=H.parb
 slots:=fun s=>by
  have h:=H.slots s
  generalize σ.slots s=x at h
  cases x with
  | one a=>exact AVok_dw n h
  | tup l=>
   obtain ⟨vs,h1,h2⟩:=h
   refine ⟨vs,h1, ?_⟩
   clear h1
   induction l generalizing vs with
   | nil=>cases vs with
    | nil=>trivial
    | cons v vs=>exact h2.elim
   | cons b l ih=>cases vs with
    | nil=>exact h2.elim
    | cons v vs=>exact ⟨AVok_dw n h2.1,ih vs h2.2⟩
 wslots:=H.wslots
 roots:=fun r R hr=>let K:=H.roots r R hr; ⟨K.ow,K.len,K.mem,K.nd,K.mine⟩
 wroots:=H.wroots
 dis:=H.dis
 fl:=H.fl
 fnd:=H.fnd
 fdis:=H.fdis
 frame:=H.frame
 keepb:=H.keepb
 parlt:=H.parlt
 keepp:=fun j p ts v h=>let ⟨h0,R,h1,h2⟩:=H.keepp j p ts v h; ⟨h0,R,h1,fun ht=>AVok_dw n (h2 ht)⟩
 keepr:=H.keepr
def one1 (r:Nat) (l:List Nat):Nat→List Nat:=fun q=>if q=r then l else []
theorem one1_same (r:Nat) (l:List Nat):one1 r l r=l:=if_pos rfl
theorem one1_ne {r q:Nat} (l:List Nat) (h:q≠r):one1 r l q=[]:=if_neg h
variable {r:Nat} {R R':Root} {hdr':List Value} {fo' F':List Nat} {w':World} {lw lh:List Nat}
def Loose1 (cx:Cx) (R':Root) (lw:List Nat) (w:World) (b:Nat):Prop:=R'.isDead=true∨(∃e∈lw,elTy (hp w) b=some e)∨(isBase cx b∧lw≠[])
structure Turn1 (cx:Cx) (σ:St) (α:Asg) (F:List Nat) (w:World) (r:Nat) (R R':Root) (fo' F':List Nat) (w':World) (lw lh:List Nat):Prop where
 step:(R'.isDead=true∧R.kind≠.par)∨(R'.w=lw++R.w∧R'.h=lh++R.h∧R.g≤R'.g∧R'.kind=R.kind∧(R.kind=.par→R'.k.size=R.k.size)∧(lw≠[]∨lh≠[]))
 tags:tagsW σ R'.tags∧∀n,(r,n)∉R'.tags
 os:w'.os=w.os∧w'.tape=w.tape∧w'.output=w.output
 size:w.heap.size≤w'.heap.size
 chg:∀b,b<w.heap.size→hp w' b≠hp w b→b∈F∨(b∈blk α R r∧Loose1 cx R' lw w b)
 new:R'.isDead=false→∀b∈blkOf R' (α.loc r) fo',b∈blk α R r∨b∈F∨(w.heap.size≤b∧b<w'.heap.size)
 newF:∀b∈F',b∈F∨(w.heap.size≤b∧b<w'.heap.size)∨(b∈blk α R r∧Loose1 cx R' lw w b)
 fnd:F'.Nodup
 fdis:R'.isDead=false→∀b∈blkOf R' (α.loc r) fo',b∉F'
 base:∀j pi b o n,cx.par j=some pi→pi.base=some (b,o,n)→r=parR j→hp w' b≠hp w b→SameBut (hp cx.w0) (hp w') b o n
 ev:R'.isDead=false→R'.ew=R.ew∧R'.eh=R.eh
theorem liveR_set {q:Nat} {Q:Root} (h:liveR (setRoot σ r R') q Q):(q=r∧Q=R'∧R'.isDead=false)∨(q≠r∧liveR σ q Q):=by
 by_cases e:q=r
 ·subst e
  obtain ⟨h1,h2⟩:=liveR_same h
  exact .inl ⟨rfl,h1,h2⟩
 ·exact .inr ⟨e,(liveR_ne e).1 h⟩
theorem Turn1.turn (H:Rel cx σ α F a w) (hr:liveR σ r R) (T:Turn1 cx σ α F w r R R' fo' F' w' lw lh) :
  Turn cx σ α F w (setRoot σ r R') (setAsg α r (α.loc r) hdr' fo') F' w' (one1 r lw) (one1 r lh):=by
 have hsame:∀q,q≠r→Same σ α (setRoot σ r R') (setAsg α r (α.loc r) hdr' fo') q:=fun q h=>Same_ne h
 have hloose:∀b,Loose1 cx R' lw w b→Loose cx (setRoot σ r R') (one1 r lw) w r b:=by
  rintro b (h | ⟨e,he,hb⟩ | ⟨h,hl⟩)
  ·refine .inl fun Q hQ=>?_
   rw [setRoot_same] at hQ
   simp only [Option.some.injEq] at hQ
   subst hQ
   exact h
  ·exact .inr (.inl ⟨e,by rw [one1_same]; exact he,hb⟩)
  ·exact .inr (.inr ⟨h,by rw [one1_same]; exact hl⟩)
 have hns:∀{q:Nat},¬Same σ α (setRoot σ r R') (setAsg α r (α.loc r) hdr' fo') q→q=r:=fun {q} h=>Classical.byContradiction fun e=>h (hsame q e)
 refine ⟨rfl,T.os,T.size, ?_, ?_, ?_, ?_, ?_,T.fnd, ?_, ?_, ?_, ?_⟩
 ·intro q Q hQ
  by_cases e:q=r
  ·subst e
   rw [hr.1] at hQ
   simp only [Option.some.injEq] at hQ
   subst hQ
   refine ⟨R',setRoot_same .., ?_⟩
   rcases T.step with h | ⟨h1,h2,h3,h4,h5,h6⟩
   ·exact .inl h
   ·exact .inr ⟨hr.2,by rw [one1_same]; exact h1,by rw [one1_same]; exact h2,h3,h4,by simp [setAsg,upd_same],h5,by rw [one1_same,one1_same]; exact .inl h6⟩
  ·refine ⟨Q,by rw [setRoot_ne σ R' e]; exact hQ, ?_⟩
   cases hd:Q.isDead with
   | true=>
    refine .inl ⟨rfl, ?_⟩
    intro hk
    simp [Root.isDead,hk] at hd
   | false=>exact .inr ⟨rfl,by rw [one1_ne lw e]; rfl,by rw [one1_ne lh e]; rfl,Nat.le_refl _,rfl,by simp [setAsg,upd_ne _ _ e],fun _=>rfl, .inr ⟨one1_ne lw e,one1_ne lh e,hsame q e⟩⟩
 ·intro q Q hQ hs
  have e:=hns hs
  subst e
  rw [setRoot_same] at hQ
  simp only [Option.some.injEq] at hQ
  subst hQ
  refine ⟨fun t ht=>?_,(H.wroots q R hr.1).2.1,T.tags.2⟩
  have hne:t.1≠q:=fun e=>T.tags.2 t.2 (by rw [←e]; exact ht)
  rcases T.tags.1 t ht with h | ⟨Q,h1,h2⟩
  ·exact .inl h
  ·exact .inr ⟨Q,by rw [setRoot_ne σ R' hne]; exact h1,h2⟩
 ·intro q Q hn hQ
  have e:q≠r:=fun e=>by rw [e,hr.1] at hn; simp at hn
  rw [setRoot_ne σ R' e,hn] at hQ
  simp at hQ
 ·intro b hb hne
  exact (T.chg b hb hne).imp id (fun h=>⟨r,R,hr,h.1,hloose b h.2⟩)
 ·rintro b (⟨q,Q,hq,hb,hno⟩ | hb)
  ·rcases liveR_set hq with ⟨rfl,rfl,hd⟩ | ⟨e,hq'⟩
   ·rw [blk_setAsg] at hb
    rcases T.new hd b hb with h | h | h
    ·exact absurd ⟨R,hr,h⟩ hno
    ·exact .inl h
    ·exact .inr (.inl h)
   ·rw [(hsame q e).blk] at hb
    exact absurd ⟨Q,hq',hb⟩ hno
  ·rcases T.newF b hb with h | h | h
   ·exact .inl h
   ·exact .inr (.inl h)
   ·exact .inr (.inr ⟨r,R,hr,h.1,hloose b h.2⟩)
 ·intro q Q hq hs b hb
  have e:=hns hs
  subst e
  obtain ⟨rfl,hd⟩:=liveR_same hq
  rw [blk_setAsg] at hb
  exact T.fdis hd b hb
 ·intro q Q q' Q' hq hq' hne hs hs'
  exact absurd ((hns hs).trans (hns hs').symm) hne
 ·intro j pi b o n hj hb hne
  obtain ⟨Q,hQ,hk,hl,hs⟩:=H.pbase j pi b o n hj hb
  have hbq:b∈blk α Q (parR j):=by simp [blk,whR,hk,hl]
  have hm:=(H.roots _ _ hQ).mine b hbq
  rcases T.chg b hm.1 hne with h | ⟨h1,_⟩
  ·exact absurd h (H.fdis _ _ hQ b hbq)
  ·refine T.base j pi b o n hj hb ?_ hne
   refine Classical.byContradiction fun e=>?_
   exact H.dis _ _ _ _ hr hQ e b h1 hbq
 ·intro q Q Q' hQ hQ' hd
  by_cases e:q=r
  ·subst e
   rw [hr.1] at hQ
   rw [setRoot_same] at hQ'
   simp only [Option.some.injEq] at hQ hQ'
   subst hQ
   subst hQ'
   exact T.ev hd
  ·rw [setRoot_ne σ R' e,hQ] at hQ'
   simp only [Option.some.injEq] at hQ'
   subst hQ'
   exact ⟨rfl,rfl⟩
theorem Turn1.rel (H:Rel cx σ α F a w) (hr:liveR σ r R) (T:Turn1 cx σ α F w r R R' fo' F' w' lw lh)
  (hroot:R'.isDead=false→(validR (setRoot σ r R') R'→Ow (hp w') R'.own (okT cx (setRoot σ r R') (setAsg α r (α.loc r) hdr' fo') F' w' R'.tags) R'.k R'.x hdr' fo')∧hdr'.length=R'.k.size∧
   (∀b o,whOf R' (α.loc r)=some (b,o)→Cells (hp w') b o hdr'∧∃arr e lo hi,hp w' b=some (.cells arr e (lo,hi))∧(∀i,i<arr.size→¬(lo≤i∧i<hi))∧o+R'.k.size≤arr.size∧(∀t,R'.kind=.var t→e=t))∧
   (blkOf R' (α.loc r) fo').Nodup)
  (hptr:R'.isDead=false→∀p n v,n≤lenN R.h→AVok cx σ α F w (.ptr r p n) v→AVok cx (setRoot σ r R') (setAsg α r (α.loc r) hdr' fo') F' w' (.ptr r p n) v)
  (href:R'.isDead=false→∀g v,g≤R.g→AVok cx σ α F w (.ref r g) v→AVok cx (setRoot σ r R') (setAsg α r (α.loc r) hdr' fo') F' w' (.ref r g) v) :
  Rel cx (setRoot σ r R') (setAsg α r (α.loc r) hdr' fo') F' a w':=by
 have hns:∀{q:Nat},¬Same σ α (setRoot σ r R') (setAsg α r (α.loc r) hdr' fo') q→q=r:=fun {q} h=>Classical.byContradiction fun e=>h (Same_ne e)
 have hRq:∀{Q:Root},liveR σ r Q→Q=R:=fun {Q} hQ=>by have:=hQ.1; rw [hr.1] at this; simpa using this.symm
 refine H.turn (T.turn H hr) ?_ ?_ ?_
 ·intro q Q hq hs
  have e:=hns hs
  subst e
  obtain ⟨rfl,hd⟩:=liveR_same hq
  obtain ⟨h1,h2,h3,h4⟩:=hroot hd
  refine ⟨fun hv=>?_, ?_, ?_, ?_⟩
  ·have:=h1 hv
   simpa [setAsg,upd_same] using this
  ·simpa [setAsg,upd_same] using h2
  ·intro b o hb
   rw [whR_setAsg] at hb
   have:=h3 b o hb
   simpa [setAsg,upd_same] using this
  ·rw [blk_setAsg]; exact h4
 ·intro q Q hq hs p n v hn hv
  have e:=hns hs
  subst e
  obtain rfl:=hRq hq
  cases hd:R'.isDead with
  | false=>exact hptr hd p n v hn hv
  | true=>
   refine ⟨hv.1, ?_⟩
   intro Q' hQ' hval
   rw [setRoot_same] at hQ'
   simp only [Option.some.injEq] at hQ'
   subst hQ'
   have:=hval.1
   rw [hd] at this
   simp at this
 ·intro q Q hq hs g v hg hv
  have e:=hns hs
  subst e
  obtain rfl:=hRq hq
  cases hd:R'.isDead with
  | false=>exact href hd g v hg hv
  | true=>
   intro Q' hQ'
   have:=(liveR_same hQ').2
   rw [hd] at this
   simp at this
structure Held (cx:Cx) (σ:St) (α:Asg) (F:List Nat) (w:World) (k:K) (x:El k) (own:List TypeId) (tags:List Tag) (cs:List Value) (fo:List Nat):Prop where
 ow:cleanT σ (vtysK own k) tags=true→Ow (hp w) own (okT cx σ α F w tags) k x cs fo
 wt:tagsW σ tags
 sub:∀b∈fo,b∈F
 nd:fo.Nodup
 len:cs.length=k.size
theorem Held.turn {σ':St} {α':Asg} {lw lh:Nat→List Nat} {k:K} {x:El k} {own:List TypeId} {tags:List Tag} {cs:List Value} {fo:List Nat}
  (H:Rel cx σ α F a w) (T:Turn cx σ α F w σ' α' F' w' lw lh) (h:Held cx σ α F w k x own tags cs fo) (hs:∀b∈fo,hp w' b=hp w b∧b∈F'):Held cx σ' α' F' w' k x own tags cs fo where
 ow:=fun hc=>by
  obtain ⟨h1,h2,_⟩:=T.views H tags _ h.wt hc
  exact Ow_mono (fun b hb=>(h2 b hb.1 (.inl hb.2)).2) (fun b hb=>(h2 b hb.1 (.inl hb.2)).1) (fun b hb=>(hs b hb).1) (Ow_tys _ (fun _ h=>h) (h.ow h1))
 wt:=fun t ht=>T.tag (h.wt t ht)
 sub:=fun b hb=>(hs b hb).2
 nd:=h.nd
 len:=h.len
theorem Held.slots {k:K} {x:El k} {own:List TypeId} {tags:List Tag} {cs:List Value} {fo:List Nat} (s:Nat→AV1) (h:Held cx σ α F w k x own tags cs fo):Held cx (withSlots σ s) α F w k x own tags cs fo:=
 ⟨fun hc=>h.ow (by rw [cleanT_slots] at hc; exact hc),h.wt,h.sub,h.nd,h.len⟩
end
end Go.Proofs.Ytailcbngagacaaa.Ow

/- The framework, part 10: memory, what is handed away, what is new, a store. Own work of this seat. -/
namespace Go.Proofs.Ytailcbngagacaaa.Ow
open Go
variable [Fr]
theorem Ow_fo_ty {h:Heap} {own:List TypeId} {ok:Nat→Prop}:∀{k:K} {x:El k} {cs:List Value} {fo:List Nat},Ow h own ok k x cs fo→∀b∈fo,∃e∈k.tys,memN e own=true∧elTy h b=some e:=by
 intro k
 induction k with
 | int ik=>intro x cs fo H b hb; rw [H.1] at hb; simp at hb
 | bool=>intro x cs fo H b hb; rw [H.1] at hb; simp at hb
 | id e=>intro x cs fo H b hb; rw [H.1] at hb; simp at hb
 | str=>intro x cs fo H b hb; rw [H.1] at hb; simp at hb
 | sl e k ih=>
  intro x cs fo H b' hb'
  unfold Ow at H
  split at H
  ·rename_i hm
   obtain ⟨a,n,c,e1,e2,e3,H⟩:=H
   rcases H with ⟨_,h1⟩ | ⟨b,o,arr,lo,hi,ea,hb,hf,hs,fos,hl,hp,H⟩
   ·rw [h1] at hb'; simp at hb'
   ·rcases List.mem_cons.1 (hp.mem_iff.1 hb') with h | h
    ·subst h
     exact ⟨e,by simp [K.tys],hm,by unfold elTy; rw [hb]⟩
    ·obtain ⟨l,hl1,hl2⟩:=List.mem_flatten.1 h
     obtain ⟨i,hi,rfl⟩:=List.mem_iff_getElem.1 hl1
     obtain ⟨ds,_,h2⟩:=H i (by omega)
     rw [getElem_getD hi] at h2
     obtain ⟨e',g1,g2⟩:=ih h2 b' hl2
     exact ⟨e',by simp [K.tys,g1],g2⟩
  ·rw [H.1] at hb'; simp at hb'
 | unit=>intro x cs fo H b hb; rw [H.1] at hb; simp at hb
 | pair a b iha ihb=>
  intro x cs fo H b' hb'
  obtain ⟨c1,c2,f1,f2,e,hp,h1,h2⟩:=H
  rcases List.mem_append.1 (hp.mem_iff.1 hb') with h | h
  ·obtain ⟨e',g1,g2⟩:=iha h1 b' h; exact ⟨e',by simp [K.tys,g1],g2⟩
  ·obtain ⟨e',g1,g2⟩:=ihb h2 b' h; exact ⟨e',by simp [K.tys,g1],g2⟩
 | st f ih=>intro x cs fo H; exact ih (x:=x) H
 | gap n=>intro x cs fo H b hb; rw [H.1] at hb; simp at hb
theorem memN_ownLess {t:Nat} {own bad:List TypeId}:memN t (ownLess own bad)=true↔memN t own=true∧t∉bad:=by
 rw [memN_iff,memN_iff]
 unfold ownLess
 rw [List.mem_filter]
 simp [memN_false]
theorem vtysK_or {own:List TypeId}:∀{k:K} {t:TypeId},t∈k.tys→t∈vtysK own k∨memN t own=true:=by
 intro k
 induction k with
 | sl e k ih=>
  intro t ht
  simp only [K.tys,List.mem_cons] at ht
  cases hm:memN e own with
  | true=>
   rcases ht with ht | ht
   ·subst ht; exact .inr hm
   ·exact (ih ht).imp (fun h=>by simp [vtysK,hm,h]) id
  | false=>exact .inl (by simpa [vtysK,hm] using ht)
 | pair a b iha ihb=>
  intro t ht
  simp only [K.tys,List.mem_append] at ht
  rcases ht with ht | ht
  ·exact (iha ht).imp (fun h=>by simp [vtysK,h]) id
  ·exact (ihb ht).imp (fun h=>by simp [vtysK,h]) id
 | st f ih=>intro t ht; exact ih ht
 | _=>intro t ht; simp [K.tys] at ht
theorem vtysK_tys {own:List TypeId}:∀{k:K} {t:TypeId},t∈vtysK own k→t∈k.tys:=by
 intro k
 induction k with
 | sl e k ih=>
  intro t ht
  cases hm:memN e own with
  | true=>simp only [vtysK,hm,cond_true] at ht; simp [K.tys,ih ht]
  | false=>simpa [vtysK,hm,K.tys] using ht
 | pair a b iha ihb=>
  intro t ht
  simp only [vtysK,List.mem_append] at ht
  simp only [K.tys,List.mem_append]
  exact ht.imp iha ihb
 | st f ih=>intro t ht; exact ih ht
 | _=>intro t ht; simp [vtysK] at ht
section
variable {cx:Cx} {σ:St} {α:Asg} {F:List Nat} {a:Act} {w:World} {F':List Nat} {w':World}
theorem memTurn (H:Rel cx σ α F a w) (hos:w'.os=w.os∧w'.tape=w.tape∧w'.output=w.output) (hsize:w.heap.size≤w'.heap.size) (hchg:∀b,b<w.heap.size→hp w' b≠hp w b→b∈F)
  (hnew:∀b∈F',b∈F∨(w.heap.size≤b∧b<w'.heap.size)) (hnd:F'.Nodup):Turn cx σ α F w σ α F' w' (fun _=>[]) (fun _=>[]) where
 slots:=rfl
 os:=hos
 size:=hsize
 old:=fun r R hr=>⟨R,hr,by
  cases hd:R.isDead with
  | true=>exact .inl ⟨rfl,by intro hk; simp [Root.isDead,hk] at hd⟩
  | false=>exact .inr ⟨rfl,rfl,rfl,Nat.le_refl _,rfl,rfl,fun _=>rfl, .inr ⟨rfl,rfl,Same_refl ..⟩⟩⟩
 wr:=fun r R' _ h=>absurd (Same_refl ..) h
 newk:=fun r R' h1 h2=>by rw [h1] at h2; simp at h2
 chg:=fun b hb hne=>.inl (hchg b hb hne)
 new:=by
  rintro b (⟨r,R',h1,h2,h3⟩ | h)
  ·exact absurd ⟨R',h1,h2⟩ h3
  ·exact (hnew b h).imp id .inl
 fnd:=hnd
 fdis:=fun r R' _ h=>absurd (Same_refl ..) h
 dis:=fun r R r' R' _ _ _ h=>absurd (Same_refl ..) h
 base:=by
  intro j pi b o n hj hb hne
  obtain ⟨Q,hQ,hk,hl,hs⟩:=H.pbase j pi b o n hj hb
  have hbq:b∈blk α Q (parR j):=by simp [blk,whR,hk,hl]
  have hm:=(H.roots _ _ hQ).mine b hbq
  exact absurd (hchg b hm.1 hne) (H.fdis _ _ hQ b hbq)
 ev:=fun r R R' h1 h2 _=>by rw [h1] at h2; simp only [Option.some.injEq] at h2; subst h2; exact ⟨rfl,rfl⟩
theorem Rel.mem (H:Rel cx σ α F a w) (T:Turn cx σ α F w σ α F' w' (fun _=>[]) (fun _=>[])):Rel cx σ α F' a w':=
 H.turn T (fun _ _ _ h=>absurd (Same_refl ..) h) (fun _ _ _ h=>absurd (Same_refl ..) h) (fun _ _ _ h=>absurd (Same_refl ..) h)
theorem Rel.alloc (H:Rel cx σ α F a w) (o:Obj):Rel cx σ α (w.heap.size :: F) a (w.alloc o)∧Turn cx σ α F w σ α (w.heap.size :: F) (w.alloc o) (fun _=>[]) (fun _=>[]):=by
 have hs:(w.alloc o).heap.size=w.heap.size+1:=Array.size_push ..
 have T:Turn cx σ α F w σ α (w.heap.size :: F) (w.alloc o) (fun _=>[]) (fun _=>[]):=memTurn H ⟨rfl,rfl,rfl⟩ (by omega) (fun b hb hne=>absurd (hp_alloc_old w o hb) hne)
  (fun b hb=>by rcases List.mem_cons.1 hb with h | h; exact .inr ⟨by omega,by omega⟩; exact .inl h)
  (List.nodup_cons.2 ⟨fun h=>by have:=(H.fl _ h).1; omega,H.fnd⟩)
 exact ⟨H.mem T,T⟩
variable {r:Nat} {R:Root}
theorem dead_dead:deadRoot.isDead=true:=rfl
theorem cleanT_set {R':Root} {tys:List TypeId} {T:List Tag} (h:∀n,(r,n)∉T):cleanT (setRoot σ r R') tys T=cleanT σ tys T:=by
 induction T with
 | nil=>rfl
 | cons t T ih=>
  obtain ⟨q,n⟩:=t
  have hq:q≠r:=fun e=>h n (by simp [e])
  have ih':=ih (fun n hn=>h n (by simp [hn]))
  simp only [cleanT]
  rw [ih',setRoot_ne σ R' hq]
def killed (α:Asg) (r:Nat):Asg:=setAsg α r (α.loc r) (α.hdr r) []
theorem kill (H:Rel cx σ α F a w) (hr:liveR σ r R) (hk:R.kind=.anon) (hv:validR σ R) :
  Rel cx (setRoot σ r deadRoot) (killed α r) (α.fo r++F) a w∧Turn cx σ α F w (setRoot σ r deadRoot) (killed α r) (α.fo r++F) w (one1 r []) (one1 r [])∧
  Held cx (setRoot σ r deadRoot) (killed α r) (α.fo r++F) w R.k R.x R.own R.tags (α.hdr r) (α.fo r)∧cleanT (setRoot σ r deadRoot) (vtysK R.own R.k) R.tags=true:=by
 have hb:blk α R r=α.fo r:=by simp [blk,whR,hk]
 have K:=H.roots r R hr
 have hnd:(α.fo r).Nodup:=by rw [←hb]; exact K.nd
 have T1:Turn1 cx σ α F w r R deadRoot [] (α.fo r++F) w [] []:=by
  refine ⟨.inl ⟨rfl,by rw [hk]; simp⟩,⟨fun t ht=>by simp [deadRoot] at ht,fun n hn=>by simp [deadRoot] at hn⟩,⟨rfl,rfl,rfl⟩,Nat.le_refl _,fun b _ h=>absurd rfl h,fun h=>by simp [dead_dead] at h, ?_, ?_,fun h=>by simp [dead_dead] at h,fun _ _ _ _ _ _ _ _ h=>absurd rfl h,fun h=>by simp [dead_dead] at h⟩
  ·intro b hb'
   rcases List.mem_append.1 hb' with h | h
   ·exact .inr (.inr ⟨by rw [hb]; exact h, .inl rfl⟩)
   ·exact .inl h
  ·exact List.nodup_append.2 ⟨hnd,H.fnd,fun b h1 c h2 e=>H.fdis r R hr b (by rw [hb]; exact h1) (e▸h2)⟩
 have hT:=T1.turn (hdr':=α.hdr r) H hr
 have hnt:=(H.wroots r R hr.1).2.2
 have hclean:cleanT (setRoot σ r deadRoot) (vtysK R.own R.k) R.tags=true:=by rw [cleanT_set hnt]; exact hv.2
 refine ⟨T1.rel H hr (fun h=>by simp [dead_dead] at h) (fun h=>by simp [dead_dead] at h) (fun h=>by simp [dead_dead] at h),hT, ?_,hclean⟩
 refine ⟨fun hc=>?_,fun t ht=>hT.tag ((H.wroots r R hr.1).1 t ht),fun b hb=>List.mem_append_left _ hb,hnd,K.len⟩
 obtain ⟨h1,h2,_⟩:=hT.views H R.tags _ (H.wroots r R hr.1).1 hc
 exact Ow_mono (fun b hb=>(h2 b hb.1 (.inl hb.2)).2) (fun b hb=>(h2 b hb.1 (.inl hb.2)).1) (fun _ _=>rfl) (Ow_tys _ (fun _ h=>h) (K.ow hv))
theorem killV (H:Rel cx σ α F a w) (hr:liveR σ r R) (hk:R.kind≠.par) (hv:validR σ R) :
  Rel cx (setRoot σ r deadRoot) (killed α r) (blk α R r++F) a w∧Turn cx σ α F w (setRoot σ r deadRoot) (killed α r) (blk α R r++F) w (one1 r []) (one1 r [])∧
  Held cx (setRoot σ r deadRoot) (killed α r) (blk α R r++F) w R.k R.x R.own R.tags (α.hdr r) (α.fo r)∧cleanT (setRoot σ r deadRoot) (vtysK R.own R.k) R.tags=true:=by
 have K:=H.roots r R hr
 have hnd:(blk α R r).Nodup:=K.nd
 have T1:Turn1 cx σ α F w r R deadRoot [] (blk α R r++F) w [] []:=by
  refine ⟨.inl ⟨rfl,hk⟩,⟨fun t ht=>by simp [deadRoot] at ht,fun n hn=>by simp [deadRoot] at hn⟩,⟨rfl,rfl,rfl⟩,Nat.le_refl _,fun b _ h=>absurd rfl h,fun h=>by simp [dead_dead] at h, ?_, ?_,fun h=>by simp [dead_dead] at h,fun _ _ _ _ _ _ _ _ h=>absurd rfl h,fun h=>by simp [dead_dead] at h⟩
  ·intro b hb'
   rcases List.mem_append.1 hb' with h | h
   ·exact .inr (.inr ⟨h, .inl rfl⟩)
   ·exact .inl h
  ·exact List.nodup_append.2 ⟨hnd,H.fnd,fun b h1 c h2 e=>H.fdis r R hr b h1 (e▸h2)⟩
 have hT:=T1.turn (hdr':=α.hdr r) H hr
 have hnt:=(H.wroots r R hr.1).2.2
 have hclean:cleanT (setRoot σ r deadRoot) (vtysK R.own R.k) R.tags=true:=by rw [cleanT_set hnt]; exact hv.2
 refine ⟨T1.rel H hr (fun h=>by simp [dead_dead] at h) (fun h=>by simp [dead_dead] at h) (fun h=>by simp [dead_dead] at h),hT, ?_,hclean⟩
 refine ⟨fun hc=>?_,fun t ht=>hT.tag ((H.wroots r R hr.1).1 t ht),fun b hb=>List.mem_append_left _ (List.mem_append_right _ hb),(List.nodup_append.1 hnd).2.1,K.len⟩
 obtain ⟨h1,h2,_⟩:=hT.views H R.tags _ (H.wroots r R hr.1).1 hc
 exact Ow_mono (fun b hb=>(h2 b hb.1 (.inl hb.2)).2) (fun b hb=>(h2 b hb.1 (.inl hb.2)).1) (fun _ _=>rfl) (Ow_tys _ (fun _ h=>h) (K.ow hv))
theorem getP_isSome:∀(p:List Stp) {k:K} {x y:El k},(getP p k x).isSome=(getP p k y).isSome:=by
 intro p
 induction p with
 | nil=>intro k x y; rfl
 | cons s p ih=>
  intro k x y
  cases s with
  | fld n=>
   cases k with
   | st c=>
    simp only [getP]
    have key:∀(n:Nat) {c:K} {x y:El c},(∃s t:Dat,chGet n c x=some s∧chGet n c y=some t∧s.1=t.1)∨(chGet n c x=none∧chGet n c y=none):=by
     intro n
     induction n with
     | zero=>intro c x y; cases c <;> first | exact .inl ⟨_,_,rfl,rfl,rfl⟩ | exact .inr ⟨rfl,rfl⟩
     | succ n ih=>intro c x y; cases c <;> first | exact ih | exact .inr ⟨rfl,rfl⟩
    rcases key n (c:=c) (x:=x) (y:=y) with ⟨s,t,h1,h2,h3⟩ | ⟨h1,h2⟩
    ·rw [h1,h2]
     obtain ⟨sk,sx⟩:=s
     obtain ⟨tk,ty⟩:=t
     simp only at h3
     subst h3
     exact ih
    ·rw [h1,h2]
   | _=>simp [getP]
  | idx i=>
   cases k with
   | sl e k=>simp only [getP]; exact ih
   | _=>simp [getP]
theorem chGet_put_ne:∀(n m:Nat) {c:K} {x:El c} {u y:Dat},m≠n→chPut n c x u=some y→chGet m y.1 y.2=chGet m c x:=by
 intro n
 induction n with
 | zero=>
  intro m c x u y hm h
  cases c with
  | pair a b=>
   simp only [chPut,Option.some.injEq] at h
   subst h
   cases m with
   | zero=>exact absurd rfl hm
   | succ m=>rfl
  | _=>simp [chPut] at h
 | succ n ih=>
  intro m c x u y hm h
  cases c with
  | pair a b=>
   simp only [chPut] at h
   cases h4:chPut n b x.2 u with
   | none=>rw [h4] at h; simp at h
   | some y2=>
    rw [h4] at h
    simp only [Option.some.injEq] at h
    subst h
    cases m with
    | zero=>rfl
    | succ m=>exact ih m (by omega) h4
  | _=>simp [chPut] at h
theorem swap_path {bad:List TypeId}:∀(p q:List Stp) {k:K} {x:El k} {t d z:Dat},getP p k x=some d→setP p k x t=some z→
  (∀q',(getP q' t.1 t.2).isSome=true→(∀e∈pathTys q' t.1,e∉bad)→pathTys q' d.1=pathTys q' t.1∧(getP q' d.1 d.2).isSome=true)→(getP q z.1 z.2).isSome=true→(∀e∈pathTys q z.1,e∉bad)→
   pathTys q k=pathTys q z.1∧(getP q k x).isSome=true:=by
 intro p
 induction p with
 | nil=>
  intro q k x t d z hg hz ht hs hb
  simp only [setP,Option.some.injEq] at hz
  simp only [getP,Option.some.injEq] at hg
  subst hz
  subst hg
  exact ht q hs hb
 | cons s p ih=>
  intro q k x t d z hg hz ht hs hb
  cases s with
  | fld n=>
   cases k with
   | st c=>
    simp only [getP,setP] at hg hz
    cases hcg:chGet n c x with
    | none=>rw [hcg] at hg; simp at hg
    | some s=>
     rw [hcg] at hg hz
     simp only at hg hz
     cases hs':setP p s.1 s.2 t with
     | none=>rw [hs'] at hz; simp at hz
     | some u=>
      rw [hs'] at hz
      simp only at hz
      cases hcp:chPut n c x u with
      | none=>rw [hcp] at hz; simp at hz
      | some y=>
       rw [hcp] at hz
       simp only [Option.some.injEq] at hz
       subst hz
       cases q with
       | nil=>exact ⟨rfl,rfl⟩
       | cons s2 q=>
        cases s2 with
        | idx i=>simp [getP] at hs
        | fld m=>
         by_cases hmn:m=n
         ·subst hmn
          have e1:chGet m y.1 y.2=some u:=chGet_put m hcp
          have p1:pathTys (.fld m :: q) (.st c)=pathTys q s.1:=by simp [pathTys,chK_of_get m hcg]
          have p2:pathTys (.fld m :: q) (.st y.1)=pathTys q u.1:=by simp [pathTys,chK_of_get m e1]
          have hs2:(getP (.fld m :: q) (.st y.1) y.2).isSome=true:=hs
          simp only [getP,e1] at hs2
          have hb2:∀e∈pathTys (.fld m :: q) (.st y.1),e∉bad:=hb
          rw [p2] at hb2
          obtain ⟨h1,h2⟩:=ih q hg hs' ht hs2 hb2
          refine ⟨?_, ?_⟩
          ·show pathTys (.fld m :: q) (.st c)=pathTys (.fld m :: q) (.st y.1)
           rw [p1,p2,h1]
          ·simp only [getP,hcg]
           exact h2
         ·have e1:=chGet_put_ne n m hmn hcp
          have hs2:(getP (.fld m :: q) (.st y.1) y.2).isSome=true:=hs
          simp only [getP,e1] at hs2
          cases hg2:chGet m c x with
          | none=>rw [hg2] at hs2; simp at hs2
          | some s2=>
           refine ⟨?_, ?_⟩
           ·show pathTys (.fld m :: q) (.st c)=pathTys (.fld m :: q) (.st y.1)
            simp only [pathTys,chK_of_get m hg2,chK_of_get m (e1.trans hg2)]
           ·simp only [getP,hg2]
            rw [hg2] at hs2
            exact hs2
   | _=>simp [getP] at hg
  | idx i=>
   cases k with
   | sl e k=>
    simp only [setP] at hz
    cases hs':setP p k ((show List (El k) from x).getD i.toNat k.zero) t with
    | none=>rw [hs'] at hz; simp at hz
    | some u=>
     rw [hs'] at hz
     simp only at hz
     cases hck:castK u.1 k u.2 with
     | none=>rw [hck] at hz; simp at hz
     | some y=>
      rw [hck] at hz
      simp only [Option.some.injEq] at hz
      subst hz
      exact ⟨rfl,by rw [getP_isSome q (y:=((show List (El k) from x).set i.toNat y))]; exact hs⟩
   | _=>simp [setP] at hz
theorem hole_size:∀k:K,k.hole.size=k.size:=by
 intro k
 induction k with
 | pair a b iha ihb=>simp [K.hole,K.size,iha,ihb]
 | st f ih=>simp [K.hole,K.size,ih]
 | _=>rfl
theorem Ow_hole {h:Heap} {own:List TypeId} {ok:Nat→Prop}:∀{k:K} {x:El k} {cs:List Value} {fo:List Nat},Ow h own ok k x cs fo→Ow h own ok k.hole (holeE k x) cs []:=by
 intro k
 induction k with
 | int ik=>intro x cs fo H; exact ⟨rfl,H.2⟩
 | bool=>intro x cs fo H; exact ⟨rfl,H.2⟩
 | id e=>intro x cs fo H; exact ⟨rfl,H.2⟩
 | str=>intro x cs fo H; exact ⟨rfl,H.2⟩
 | sl e k ih=>intro x cs fo H; exact ⟨rfl,Ow_len H⟩
 | unit=>intro x cs fo H; exact ⟨rfl,H.2⟩
 | pair a b iha ihb=>intro x cs fo H; obtain ⟨c1,c2,f1,f2,e,hp,h1,h2⟩:=H; exact ⟨c1,c2,[],[],e, .refl _,iha h1,ihb h2⟩
 | st f ih=>intro x cs fo H; exact ih (x:=x) H
 | gap n=>intro x cs fo H; exact ⟨rfl,H.2⟩
theorem chGet_hole:∀(n:Nat) {c:K} {x:El c},chGet n c.hole (holeE c x)=(chGet n c x).map holeD:=by
 intro n
 induction n with
 | zero=>intro c x; cases c <;> rfl
 | succ n ih=>
  intro c x
  cases c with
  | pair a b=>simp only [K.hole,holeE,chGet]; exact ih
  | _=>rfl
theorem chOff_hole:∀(n:Nat) {c:K},chOff n c.hole=(chOff n c).map fun q=>(q.1,q.2.hole):=by
 intro n
 induction n with
 | zero=>intro c; cases c <;> rfl
 | succ n ih=>
  intro c
  cases c with
  | pair a b=>
   simp only [K.hole,chOff]
   rw [ih (c:=b)]
   cases chOff n b with
   | none=>rfl
   | some q=>simp [hole_size]
  | _=>rfl
theorem hole_nav {h:Heap}:∀(q:List Stp) {k:K} {x:El k},(getP q k.hole (holeE k x)).isSome=true→
  pathTys q k=[]∧pathTys q k.hole=[]∧(getP q k x).isSome=true∧PIn q k.hole (holeE k x)∧∀cs wh,navF h q k.hole cs wh=navF h q k cs wh:=by
 intro q
 induction q with
 | nil=>intro k x _; exact ⟨by simp [pathTys],by simp [pathTys],rfl,trivial,fun _ _=>rfl⟩
 | cons s q ih=>
  intro k x hs
  cases s with
  | idx i=>cases k <;> simp [K.hole,getP] at hs
  | fld n=>
   cases k with
   | st c=>
    have e:chGet n c.hole (holeE c x)=(chGet n c x).map holeD:=chGet_hole n
    have hs':(getP (.fld n :: q) (.st c.hole) (holeE c x)).isSome=true:=hs
    simp only [getP,e] at hs'
    cases hg:chGet n c x with
    | none=>rw [hg] at hs'; simp at hs'
    | some s=>
     rw [hg] at hs' e
     simp only [Option.map_some,holeD] at hs' e
     obtain ⟨h1,h2,h3,h4,h5⟩:=ih (k:=s.1) (x:=s.2) hs'
     refine ⟨by simp [pathTys,chK_of_get n hg,h1], ?_,by simp only [getP,hg]; exact h3, ?_,fun cs wh=>?_⟩
     ·show pathTys (.fld n :: q) (.st c.hole)=[]
      simp [pathTys,chK_of_get n e,h2]
     ·show PIn (.fld n :: q) (.st c.hole) (holeE c x)
      simp only [PIn,e]
      exact h4
     ·show navF h (.fld n :: q) (.st c.hole) cs wh=_
      simp only [navF]
      rw [chOff_hole n]
      cases ho:chOff n c with
      | none=>rfl
      | some w=>
       simp only [Option.map_some]
       have hk:w.2=s.1:=by
        have key:∀(n:Nat) {c:K} {x:El c} {s:Dat} {q:Nat×K},chGet n c x=some s→chOff n c=some q→q.2=s.1:=by
         intro n
         induction n with
         | zero=>intro c x s q h1 h2; cases c with
          | pair a b=>simp only [chGet,chOff,Option.some.injEq] at h1 h2; subst h1; subst h2; rfl
          | _=>simp [chGet] at h1
         | succ n ih=>intro c x s q h1 h2; cases c with
          | pair a b=>
           simp only [chGet,chOff] at h1 h2
           cases h3:chOff n b with
           | none=>rw [h3] at h2; simp at h2
           | some q3=>rw [h3] at h2; simp only [Option.some.injEq] at h2; subst h2; exact ih (q:=q3) h1 h3
          | _=>simp [chGet] at h1
        exact key n (c:=c) hg ho
       obtain ⟨w1,w2⟩:=w
       simp only at hk
       subst hk
       simp only [hole_size]
       exact h5 _ _
   | _=>simp [K.hole,getP] at hs
theorem hole_back:∀(q:List Stp) {k:K} {x y:El k},pathTys q k=[]→(getP q k x).isSome=true→pathTys q k.hole=[]∧(getP q k.hole (holeE k y)).isSome=true:=by
 intro q
 induction q with
 | nil=>intro k x y _ _; exact ⟨by simp [pathTys],rfl⟩
 | cons s q ih=>
  intro k x y h0 hs
  cases s with
  | idx i=>cases k <;> simp [pathTys,getP] at h0 hs
  | fld n=>
   cases k with
   | st c=>
    simp only [getP] at hs
    cases hg:chGet n c x with
    | none=>rw [hg] at hs; simp at hs
    | some s=>
     rw [hg] at hs
     simp only at hs
     have hp2:pathTys (.fld n :: q) (.st c)=pathTys q s.1:=by simp [pathTys,chK_of_get n hg]
     rw [hp2] at h0
     have key:∀(n:Nat) {c:K} {x y:El c} {s:Dat},chGet n c x=some s→∃t:Dat,chGet n c y=some t∧t.1=s.1:=by
      intro n
      induction n with
      | zero=>intro c x y s h; cases c <;> first | (simp only [chGet,Option.some.injEq] at h; subst h; exact ⟨_,rfl,rfl⟩) | simp [chGet] at h
      | succ n ih=>intro c x y s h; cases c <;> first | exact ih h | simp [chGet] at h
     obtain ⟨t,g1,g2⟩:=key n (c:=c) (y:=y) hg
     obtain ⟨sk,sx⟩:=s
     obtain ⟨tk,ty⟩:=t
     simp only at g2
     subst g2
     obtain ⟨h1,h2⟩:=ih (y:=ty) h0 hs
     have e:chGet n c.hole (holeE c y)=some (holeD ⟨tk,ty⟩):=by rw [chGet_hole n,g1]; rfl
     refine ⟨?_, ?_⟩
     ·show pathTys (.fld n :: q) (.st c.hole)=[]
      simp [pathTys,chK_of_get n e,holeD,h1]
     ·show (getP (.fld n :: q) (.st c.hole) (holeE c y)).isSome=true
      simp only [getP,e]
      exact h2
   | _=>simp [getP] at hs
theorem vtysK_hole {own:List TypeId}:∀k:K,vtysK own k.hole=[]:=by
 intro k
 induction k with
 | pair a b iha ihb=>simp [K.hole,vtysK,iha,ihb]
 | st f ih=>exact ih
 | _=>rfl
theorem cells_eq {h:Heap} {b o:Nat} {cs cs':List Value} (h1:Cells h b o cs) (h2:Cells h b o cs') (hl:cs'.length=cs.length):cs'=cs:=by
 apply List.ext_getElem? 
 intro i
 by_cases hi:i<cs.length
 ·rw [←h1 i hi, ←h2 i (by omega)]
 ·rw [List.getElem?_eq_none (by omega),List.getElem?_eq_none (by omega)]
theorem setP_like:∀(p:List Stp) {k:K} {x:El k} {t d z:Dat},getP p k x=some d→t.1.size=d.1.size→setP p k x t=some z→z.1.size=k.size:=by
 intro p
 induction p with
 | nil=>
  intro k x t d z hg hs hz
  simp only [getP,setP,Option.some.injEq] at hg hz
  subst hg; subst hz; exact hs
 | cons s p ih=>
  intro k x t d z hg hs hz
  cases s with
  | fld n=>
   cases k with
   | st c=>
    simp only [getP,setP] at hg hz
    cases hcg:chGet n c x with
    | none=>rw [hcg] at hg; simp at hg
    | some s=>
     rw [hcg] at hg hz
     simp only at hg hz
     cases hs':setP p s.1 s.2 t with
     | none=>rw [hs'] at hz; simp at hz
     | some u=>
      rw [hs'] at hz
      simp only at hz
      cases hcp:chPut n c x u with
      | none=>rw [hcp] at hz; simp at hz
      | some y=>
       rw [hcp] at hz
       simp only [Option.some.injEq] at hz
       subst hz
       have hu:=ih hg hs hs'
       have key:∀(n:Nat) {c:K} {x:El c} {s u y:Dat},chGet n c x=some s→chPut n c x u=some y→u.1.size=s.1.size→y.1.size=c.size:=by
        intro n
        induction n with
        | zero=>
         intro c x s u y h1 h2 e
         cases c with
         | pair a b=>simp only [chGet,chPut,Option.some.injEq] at h1 h2; subst h1; subst h2; simp only at e; simp [K.size,e]
         | _=>simp [chGet] at h1
        | succ n ih=>
         intro c x s u y h1 h2 e
         cases c with
         | pair a b=>
          simp only [chGet,chPut] at h1 h2
          cases h3:chPut n b x.2 u with
          | none=>rw [h3] at h2; simp at h2
          | some y2=>rw [h3] at h2; simp only [Option.some.injEq] at h2; subst h2; simp [K.size,ih h1 h3 e]
         | _=>simp [chGet] at h1
       show y.1.size=c.size
       exact key n (c:=c) hcg hcp hu
   | _=>simp [getP] at hg
  | idx i=>
   cases k with
   | sl e k=>
    simp only [setP] at hz
    cases hs':setP p k ((show List (El k) from x).getD i.toNat k.zero) t with
    | none=>rw [hs'] at hz; simp at hz
    | some u=>
     rw [hs'] at hz
     simp only at hz
     cases hck:castK u.1 k u.2 with
     | none=>rw [hck] at hz; simp at hz
     | some y=>rw [hck] at hz; simp only [Option.some.injEq] at hz; subst hz; rfl
   | _=>simp [getP] at hg
theorem whOf_kind {R R':Root} (h:R'.kind=R.kind) (loc:Nat×Nat):whOf R' loc=whOf R loc:=by unfold whOf; rw [h]
theorem blkOf_kind {R R':Root} (h:R'.kind=R.kind) (loc:Nat×Nat) (fo:List Nat):blkOf R' loc fo=blkOf R loc fo:=by unfold blkOf; rw [h]
theorem blkOf_wh (R:Root) (loc:Nat×Nat) (fo:List Nat):blkOf R loc fo=(match whOf R loc with
 | some q=>[q.1]
 | none=>[])++fo:=by unfold blkOf whOf; cases R.kind <;> rfl
theorem mem_blkOf {R:Root} {loc:Nat×Nat} {fo:List Nat} {b:Nat}:b∈blkOf R loc fo↔(∃o,whOf R loc=some (b,o))∨b∈fo:=by
 rw [blkOf_wh]
 cases h:whOf R loc with
 | none=>simp
 | some q=>obtain ⟨b0,o0⟩:=q; simp; constructor <;> (intro h; rcases h with h | h <;> simp_all)
theorem nd_blkOf {R:Root} {loc:Nat×Nat} {fo:List Nat}:(blkOf R loc fo).Nodup↔(∀b o,whOf R loc=some (b,o)→b∉fo)∧fo.Nodup:=by
 rw [blkOf_wh]
 cases h:whOf R loc with
 | none=>simp
 | some q=>obtain ⟨b0,o0⟩:=q; simp [List.nodup_cons]
theorem isDead_eq {R R':Root} (h:R'.kind=R.kind):R'.isDead=R.isDead:=by unfold Root.isDead; rw [h]
theorem VC_isSt {k k':K} {v:Value} {cs:List Value} (h:isSt k'=isSt k):VC k' v cs↔VC k v cs:=by
 cases k <;> cases k' <;> first | exact Iff.rfl | simp [isSt] at h
theorem setP_isSt {p:List Stp} {k:K} {x:El k} {t z:Dat} (hp:p≠[]) (hz:setP p k x t=some z):isSt z.1=isSt k:=by
 cases p with
 | nil=>exact absurd rfl hp
 | cons s p=>
  cases s with
  | fld n=>
   cases k with
   | st c=>
    simp only [setP] at hz
    cases hcg:chGet n c x with
    | none=>rw [hcg] at hz; simp at hz
    | some s=>
     rw [hcg] at hz
     simp only at hz
     cases hs':setP p s.1 s.2 t with
     | none=>rw [hs'] at hz; simp at hz
     | some u=>
      rw [hs'] at hz
      simp only at hz
      cases hcp:chPut n c x u with
      | none=>rw [hcp] at hz; simp at hz
      | some y=>rw [hcp] at hz; simp only [Option.some.injEq] at hz; subst hz; rfl
   | _=>simp [setP] at hz
  | idx i=>
   cases k with
   | sl e k=>
    simp only [setP] at hz
    cases hs':setP p k ((show List (El k) from x).getD i.toNat k.zero) t with
    | none=>rw [hs'] at hz; simp at hz
    | some u=>
     rw [hs'] at hz
     simp only at hz
     cases hck:castK u.1 k u.2 with
     | none=>rw [hck] at hz; simp at hz
     | some y=>rw [hck] at hz; simp only [Option.some.injEq] at hz; subst hz; rfl
   | _=>simp [setP] at hz
theorem gapLog_ne (k:K):k.tys≠[]∨gapLog k++k.tys≠[]:=by
 unfold gapLog
 cases k.tys with
 | nil=>exact .inr (by simp)
 | cons a l=>exact .inl (by simp)
def gapRoot (R:Root) (d:Dat) (z:Dat):Root:={ R with k:=z.1,x:=z.2,w:=d.1.tys++R.w,h:=gapLog d.1++d.1.tys++R.h }
def gapRootO (R:Root) (d:Dat) (z:Dat) (own':List TypeId):Root:={ gapRoot R d z with own:=own' }
theorem pathTys_tys:∀(q:List Stp) {k:K},∀t∈pathTys q k,t∈k.tys:=by
 intro q
 induction q with
 | nil=>intro k t ht; simp [pathTys] at ht
 | cons s q ih=>
  intro k t ht
  cases s with
  | fld n=>
   cases k with
   | st c=>
    simp only [pathTys] at ht
    cases hc:pathTys.chK n c with
    | none=>rw [hc] at ht; simp at ht
    | some k'=>
     rw [hc] at ht
     have h1:=ih t ht
     have:∀(n:Nat) {c k':K},pathTys.chK n c=some k'→∀t∈k'.tys,t∈c.tys:=by
      intro n
      induction n with
      | zero=>
       intro c k' h t ht
       cases c with
       | pair a b=>simp only [pathTys.chK,Option.some.injEq] at h; subst h; simp [K.tys,ht]
       | _=>simp [pathTys.chK] at h
      | succ n ih=>
       intro c k' h t ht
       cases c with
       | pair a b=>simp only [pathTys.chK] at h; simp [K.tys,ih h t ht]
       | _=>simp [pathTys.chK] at h
     exact this n hc t h1
   | _=>simp [pathTys] at ht
  | idx i=>
   cases k with
   | sl e k=>
    simp only [pathTys,List.mem_cons] at ht
    rcases ht with h | h
    ·simp [K.tys,h]
    ·simp [K.tys,ih t h]
   | _=>simp [pathTys] at ht
theorem gap2 {own':List TypeId} (H:Rel cx σ α F a w) (hr:liveR σ r R) (hv:validR σ R) {p:List Stp} {d z:Dat} (hg:getP p R.k R.x=some d) (hz:setP p R.k R.x (holeD d)=some z) (hpin:PIn p R.k R.x)
  (hown:∀t∈pathTys p R.k,memN t R.own=true) (hpv:p≠[]∨∃t,R.kind=.var t) (hso:∀t∈z.1.tys,memN t own'=memN t R.own) :
  ∃cs1 wh' fo1 rest,navF (hp w) p R.k (α.hdr r) (whR α R r)=some (cs1,wh')∧
   Rel cx (setRoot σ r (gapRootO R d z own')) (setAsg α r (α.loc r) (α.hdr r) rest) (fo1++F) a w∧
   Turn cx σ α F w (setRoot σ r (gapRootO R d z own')) (setAsg α r (α.loc r) (α.hdr r) rest) (fo1++F) w (one1 r d.1.tys) (one1 r (gapLog d.1++d.1.tys))∧
   Held cx (setRoot σ r (gapRootO R d z own')) (setAsg α r (α.loc r) (α.hdr r) rest) (fo1++F) w d.1 d.2 R.own R.tags cs1 fo1∧(∀tys,cleanT (setRoot σ r (gapRootO R d z own')) tys R.tags=cleanT σ tys R.tags)∧(α.fo r).Perm (fo1++rest):=by
 have K:=H.roots r R hr
 have hnd:=K.nd
 rw [blk_blkOf,nd_blkOf] at hnd
 have hO:=K.ow hv
 obtain ⟨cs1,fo1,rest,wh',hn,hp1,hd1,hc1,hin,hnone,hup⟩:=focus p hO (fun b o e=>(K.mem b o e).1) hg hpin hown hnd.2 (fun b o e=>hnd.1 b o e)
 have hnt:=(H.wroots r R hr.1).2.2
 have hl1:=Ow_len hd1
 obtain ⟨cs',hl',hO',hC',hN',hK'⟩:=hup.go (hp w) (okT cx σ α F w R.tags) (holeD d) cs1 [] z hz hl1 (Ow_hole hd1) (fun b hb=>⟨hb,rfl⟩) (fun _ _ _=>rfl)
  (fun b o e=>⟨hc1 b o e,by
   have:∃arr te fr,hp w b=some (.cells arr te fr):=by
    rcases hin b o e with ⟨_,o0,ew,_⟩ | ⟨_,arr,te,lo,hi,h1,_⟩
    ·obtain ⟨_,arr,te,lo,hi,h1,_⟩:=K.mem b o0 ew; exact ⟨arr,te,_,h1⟩
    ·exact ⟨arr,te,_,h1⟩
   obtain ⟨arr,te,fr,h1⟩:=this
   exact SameBut.of_same _ _ h1 rfl⟩) (fun _=>rfl) (fun _ _ _ _=>rfl)
 have hcs:cs'=α.hdr r:=by
  cases hw:whR α R r with
  | none=>exact hN' hw
  | some q=>exact cells_eq (K.mem q.1 q.2 hw).1 (hC' q.1 q.2 hw) hl'
 rw [hcs,List.nil_append] at hO'
 replace hO':=Ow_same hso hO'
 obtain ⟨_,_,hNK,_⟩:=hK' d.1.tys (hole_size d.1) (fun q c0 w0 hq _ hn0 hs=>by
  obtain ⟨_,_,_,h3,h4⟩:=hole_nav (h:=hp w) q (x:=d.2) hs
  exact ⟨h3,c0,by rw [←hn0]; exact h4 cs1 wh'⟩)
 rw [hcs] at hNK
 have hkind:(gapRootO R d z own').kind=R.kind:=rfl
 have hdead:(gapRootO R d z own').isDead=false:=hr.2
 have hmemb:∀b,b∈α.fo r↔b∈fo1∨b∈rest:=fun b=>by rw [hp1.mem_iff,List.mem_append]
 have hnd1:=hp1.nodup hnd.2
 have hsz:z.1.size=R.k.size:=setP_like p (t:=holeD d) hg (hole_size d.1) hz
 have T1:Turn1 cx σ α F w r R (gapRootO R d z own') rest (fo1++F) w d.1.tys (gapLog d.1++d.1.tys):=by
  refine ⟨.inr ⟨rfl,rfl,Nat.le_refl _,rfl,fun _=>hsz,gapLog_ne d.1⟩,⟨(H.wroots r R hr.1).1,hnt⟩,⟨rfl,rfl,rfl⟩,Nat.le_refl _,fun b _ h=>absurd rfl h, ?_, ?_, ?_, ?_,fun _ _ _ _ _ _ _ _ h=>absurd rfl h,fun _=>⟨rfl,rfl⟩⟩
  ·intro _ b hb
   rw [blkOf_kind hkind,mem_blkOf] at hb
   refine .inl ?_
   rw [blk_blkOf,mem_blkOf,hmemb]
   exact hb.imp id .inr
  ·intro b hb
   rcases List.mem_append.1 hb with h | h
   ·refine .inr (.inr ⟨by rw [blk_blkOf,mem_blkOf,hmemb]; exact .inr (.inl h), .inr (.inl ?_)⟩)
    obtain ⟨e,h1,_,h2⟩:=Ow_fo_ty hd1 b h
    exact ⟨e,h1,h2⟩
   ·exact .inl h
  ·refine List.nodup_append.2 ⟨(List.nodup_append.1 hnd1).1,H.fnd,fun b h1 c h2 e=>H.fdis r R hr b ?_ (e▸h2)⟩
   rw [blk_blkOf,mem_blkOf,hmemb]
   exact .inr (.inl h1)
  ·intro _ b hb hF
   rw [blkOf_kind hkind,mem_blkOf] at hb
   rcases List.mem_append.1 hF with h | h
   ·rcases hb with ⟨o,hb⟩ | hb
    ·exact hnd.1 b o hb ((hmemb b).2 (.inl h))
    ·exact (List.nodup_append.1 hnd1).2.2 b h b hb rfl
   ·refine H.fdis r R hr b ?_ h
    rw [blk_blkOf,mem_blkOf,hmemb]
    exact hb.imp id .inr
 have hT:=T1.turn (hdr':=α.hdr r) H hr
 have hclean:∀tys,cleanT (setRoot σ r (gapRootO R d z own')) tys R.tags=cleanT σ tys R.tags:=fun tys=>cleanT_set hnt
 refine ⟨cs1,wh',fo1,rest,hn,T1.rel H hr ?_ ?_ ?_,hT, ?_,hclean,hp1⟩
 ·intro _
  refine ⟨fun hv'=>?_,by rw [K.len]; exact hsz.symm, ?_, ?_⟩
  ·obtain ⟨h1,h2,_⟩:=hT.views H R.tags _ (H.wroots r R hr.1).1 hv'.2
   exact Ow_mono (fun b hb=>(h2 b hb.1 (.inl hb.2)).2) (fun b hb=>(h2 b hb.1 (.inl hb.2)).1) (fun _ _=>rfl) (Ow_tys _ (fun _ h=>h) hO')
  ·intro b o hb
   have:(gapRootO R d z own').k.size=R.k.size:=hsz
   rw [this]
   exact K.mem b o hb
  ·rw [blkOf_kind hkind,nd_blkOf]
   exact ⟨fun b o e hb=>hnd.1 b o e ((hmemb b).2 (.inr hb)),(List.nodup_append.1 hnd1).2.1⟩
 ·intro _ q n v hn' hold
  refine ⟨hold.1, ?_⟩
  intro Q hQ hvQ hcl hty hsome
  have hQ':Q=gapRootO R d z own':=by
   rw [setRoot_same] at hQ
   simpa using hQ.symm
  subst hQ'
  have hwh2:whR (setAsg α r (α.loc r) (α.hdr r) rest) (gapRootO R d z own') r=whR α R r:=by rw [whR_setAsg,whOf_kind hkind, ←whR_whOf]
  have hhd2:(setAsg α r (α.loc r) (α.hdr r) rest).hdr r=α.hdr r:=by simp [setAsg,upd_same]
  have hh:(gapRootO R d z own').h=(gapLog d.1++d.1.tys)++R.h:=rfl
  rw [hh,clean_append hn'] at hcl
  by_cases hq:q=[]
  case neg=>
   have hpt:∀k,ptrTys q k=GAPT :: pathTys q k:=by
    intro k
    cases q with
    | nil=>exact absurd rfl hq
    | cons s q=>rfl
   rw [hpt] at hcl
   obtain ⟨k1,k2⟩:=swap_path (bad:=d.1.tys) p q hg hz (fun q' h _=>let ⟨h1,h2,h3,_⟩:=hole_nav (h:=hp w) q' (x:=d.2) h; ⟨h1.trans h2.symm,h3⟩) hsome (fun e he hm=>hcl.1 e (List.mem_append_right _ hm) (List.mem_cons_of_mem _ he))
   have k1':pathTys q R.k=pathTys q (gapRootO R d z own').k:=k1
   have hty':∀t∈pathTys q R.k,memN t R.own=true:=fun t ht=>by
    have ht':t∈pathTys q z.1:=k1▸ht
    rw [←hso t (pathTys_tys q t ht')]
    exact hty t ht'
   rw [←k1'] at hcl
   obtain ⟨g1,cs,b,o,g2,g3⟩:=hold.2 R hr.1 hv (by rw [hpt]; exact hcl.2) hty' k2
   obtain ⟨f1,c1,f2⟩:=hNK q cs (some (b,o)) g1 (fun t ht=>⟨hty' t ht,fun hm=>hcl.1 t (List.mem_append_right _ hm) (List.mem_cons_of_mem _ ht)⟩) g2 hsome
   rw [hwh2,hhd2]
   exact ⟨f1,c1,b,o,f2,g3⟩
  subst hq
  obtain ⟨_,cs,b,o,h1,h2⟩:=hold.2 R hr.1 hv (by simp [clean,ptrTys,memN]) (fun t ht=>by simp [pathTys] at ht) rfl
  simp only [navF,Option.some.injEq,Prod.mk.injEq] at h1
  refine ⟨trivial,(setAsg α r (α.loc r) (α.hdr r) rest).hdr r,b,o, ?_,h2⟩
  simp only [navF]
  rw [whR_setAsg,whOf_kind hkind, ←whR_whOf,h1.2]
 ·intro _ g v hg' hold Q hQ hgQ
  obtain ⟨hQ',_⟩:=liveR_same hQ
  subst hQ'
  obtain ⟨h1,h2⟩:=hold R hr hgQ
  refine ⟨h1, ?_⟩
  have:(setAsg α r (α.loc r) (α.hdr r) rest).hdr r=α.hdr r:=by simp [setAsg,upd_same]
  rw [this]
  rcases hpv with hp | ⟨t,ht⟩
  ·
   cases p with
   | nil=>exact absurd rfl hp
   | cons s p=>
    exact (VC_isSt (setP_isSt (by simp) hz)).2 h2
  ·rw [ht] at h1; simp at h1
 ·refine ⟨fun hc=>?_,fun t ht=>hT.tag ((H.wroots r R hr.1).1 t ht),fun b hb=>List.mem_append_left _ hb,(List.nodup_append.1 hnd1).1,hl1⟩
  obtain ⟨h1,h2,_⟩:=hT.views H R.tags _ (H.wroots r R hr.1).1 hc
  exact Ow_mono (fun b hb=>(h2 b hb.1 (.inl hb.2)).2) (fun b hb=>(h2 b hb.1 (.inl hb.2)).1) (fun _ _=>rfl) (Ow_tys _ (fun _ h=>h) hd1)
theorem gap (H:Rel cx σ α F a w) (hr:liveR σ r R) (hv:validR σ R) {p:List Stp} {d z:Dat} (hg:getP p R.k R.x=some d) (hz:setP p R.k R.x (holeD d)=some z) (hpin:PIn p R.k R.x)
  (hown:∀t∈pathTys p R.k,memN t R.own=true) (hpv:p≠[]∨∃t,R.kind=.var t) :
  ∃cs1 wh' fo1 rest,navF (hp w) p R.k (α.hdr r) (whR α R r)=some (cs1,wh')∧
   Rel cx (setRoot σ r (gapRoot R d z)) (setAsg α r (α.loc r) (α.hdr r) rest) (fo1++F) a w∧
   Turn cx σ α F w (setRoot σ r (gapRoot R d z)) (setAsg α r (α.loc r) (α.hdr r) rest) (fo1++F) w (one1 r d.1.tys) (one1 r (gapLog d.1++d.1.tys))∧
   Held cx (setRoot σ r (gapRoot R d z)) (setAsg α r (α.loc r) (α.hdr r) rest) (fo1++F) w d.1 d.2 R.own R.tags cs1 fo1∧(∀tys,cleanT (setRoot σ r (gapRoot R d z)) tys R.tags=cleanT σ tys R.tags)∧(α.fo r).Perm (fo1++rest):=
 gap2 (own':=R.own) H hr hv hg hz hpin hown hpv (fun _ _=>rfl)
end
end Go.Proofs.Ytailcbngagacaaa.Ow

/- The framework, part 11: a store. Own work of this seat. -/
namespace Go.Proofs.Ytailcbngagacaaa.Ow
open Go
variable [Fr]
theorem setP_kind:∀(p:List Stp) {k:K} {x:El k} {d t z:Dat},getP p k x=some d→setP p k x t=some z→t.1=d.1→z.1=k:=by
 intro p
 induction p with
 | nil=>
  intro k x d t z hg hz e
  simp only [getP,setP,Option.some.injEq] at hg hz
  subst hg; subst hz; exact e
 | cons s p ih=>
  intro k x d t z hg hz e
  cases s with
  | fld n=>
   cases k with
   | st c=>
    simp only [getP,setP] at hg hz
    cases hcg:chGet n c x with
    | none=>rw [hcg] at hg; simp at hg
    | some s=>
     rw [hcg] at hg hz
     simp only at hg hz
     cases hs':setP p s.1 s.2 t with
     | none=>rw [hs'] at hz; simp at hz
     | some u=>
      rw [hs'] at hz
      simp only at hz
      cases hcp:chPut n c x u with
      | none=>rw [hcp] at hz; simp at hz
      | some y=>
       rw [hcp] at hz
       simp only [Option.some.injEq] at hz
       subst hz
       exact congrArg K.st (chPut_kind n hcg hcp (ih hg hs' e))
   | _=>simp [getP] at hg
  | idx i=>
   cases k with
   | sl e k=>
    simp only [setP] at hz
    cases hs':setP p k ((show List (El k) from x).getD i.toNat k.zero) t with
    | none=>rw [hs'] at hz; simp at hz
    | some u=>
     rw [hs'] at hz
     simp only at hz
     cases hck:castK u.1 k u.2 with
     | none=>rw [hck] at hz; simp at hz
     | some y=>rw [hck] at hz; simp only [Option.some.injEq] at hz; subst hz; rfl
   | _=>simp [getP] at hg
theorem vtysK_anti {own own':List TypeId}:∀{k:K},(∀t∈k.tys,memN t own'=true→memN t own=true)→∀t∈vtysK own k,t∈vtysK own' k:=by
 intro k
 induction k with
 | sl e k ih=>
  intro h t ht
  cases hm':memN e own' with
  | true=>
   have hm:=h e (by simp [K.tys]) hm'
   simp only [vtysK,hm,cond_true] at ht
   simp only [vtysK,hm',cond_true]
   exact ih (fun t ht=>h t (by simp [K.tys,ht])) t ht
  | false=>
   have:=vtysK_tys ht
   simpa [vtysK,hm',K.tys] using this
 | pair a b iha ihb=>
  intro h t ht
  simp only [vtysK,List.mem_append] at ht ⊢
  exact ht.imp (iha (fun t ht=>h t (by simp [K.tys,ht])) t) (ihb (fun t ht=>h t (by simp [K.tys,ht])) t)
 | st f ih=>intro h t ht; exact ih h t ht
 | _=>intro _ t ht; simp [vtysK] at ht
theorem chPut_vtys {own:List TypeId}:∀(n:Nat) {c:K} {x:El c} {s u y:Dat},chGet n c x=some s→chPut n c x u=some y→
  (∀e∈vtysK own u.1,e∈vtysK own y.1)∧((∀e∈vtysK own s.1,e∈vtysK own u.1)→∀e∈vtysK own c,e∈vtysK own y.1):=by
 intro n
 induction n with
 | zero=>
  intro c x s u y hg hp
  cases c with
  | pair a b=>
   simp only [chGet,chPut,Option.some.injEq] at hg hp
   subst hg; subst hp
   refine ⟨fun e he=>by simp [vtysK,he],fun h e he=>?_⟩
   simp only [vtysK,List.mem_append] at he ⊢
   exact he.imp (h e) id
  | _=>simp [chGet] at hg
 | succ n ih=>
  intro c x s u y hg hp
  cases c with
  | pair a b=>
   simp only [chGet,chPut] at hg hp
   cases h3:chPut n b x.2 u with
   | none=>rw [h3] at hp; simp at hp
   | some y2=>
    rw [h3] at hp
    simp only [Option.some.injEq] at hp
    subst hp
    obtain ⟨g1,g2⟩:=ih hg h3
    refine ⟨fun e he=>by simp [vtysK,g1 e he],fun h e he=>?_⟩
    simp only [vtysK,List.mem_append] at he ⊢
    exact he.imp id (g2 h e)
  | _=>simp [chGet] at hg
theorem vtys_setP {own:List TypeId}:∀(p:List Stp) {k:K} {x:El k} {d t z:Dat},getP p k x=some d→setP p k x t=some z→
  (∀e∈vtysK own t.1,e∈vtysK own z.1∨∃q∈pathTys p k,memN q own=false)∧((∀e∈vtysK own d.1,e∈vtysK own t.1)→∀e∈vtysK own k,e∈vtysK own z.1):=by
 intro p
 induction p with
 | nil=>
  intro k x d t z hg hz
  simp only [getP,setP,Option.some.injEq] at hg hz
  subst hg; subst hz
  exact ⟨fun e he=>.inl he,fun h=>h⟩
 | cons s p ih=>
  intro k x d t z hg hz
  cases s with
  | fld n=>
   cases k with
   | st c=>
    simp only [getP,setP] at hg hz
    cases hcg:chGet n c x with
    | none=>rw [hcg] at hg; simp at hg
    | some s=>
     rw [hcg] at hg hz
     simp only at hg hz
     cases hs':setP p s.1 s.2 t with
     | none=>rw [hs'] at hz; simp at hz
     | some u=>
      rw [hs'] at hz
      simp only at hz
      cases hcp:chPut n c x u with
      | none=>rw [hcp] at hz; simp at hz
      | some y=>
       rw [hcp] at hz
       simp only [Option.some.injEq] at hz
       subst hz
       obtain ⟨g1,g2⟩:=ih hg hs'
       obtain ⟨f1,f2⟩:=chPut_vtys (own:=own) n hcg hcp
       have hpt:pathTys (.fld n :: p) (.st c)=pathTys p s.1:=by simp [pathTys,chK_of_get n hcg]
       rw [hpt]
       exact ⟨fun e he=>(g1 e he).imp (f1 e) id,fun h=>f2 (g2 h)⟩
   | _=>simp [getP] at hg
  | idx i=>
   cases k with
   | sl e k=>
    simp only [getP,setP] at hg hz
    cases hs':setP p k ((show List (El k) from x).getD i.toNat k.zero) t with
    | none=>rw [hs'] at hz; simp at hz
    | some u=>
     rw [hs'] at hz
     simp only at hz
     cases hck:castK u.1 k u.2 with
     | none=>rw [hck] at hz; simp at hz
     | some y=>
      rw [hck] at hz
      simp only [Option.some.injEq] at hz
      subst hz
      obtain ⟨g1,g2⟩:=ih hg hs'
      have huk:u.1=k:=by
       unfold castK at hck
       split at hck
       ·rename_i hb; exact K.eq_of_beq hb
       ·simp at hck
      refine ⟨fun e' he=>?_,fun _ e' he=>he⟩
      cases hm:memN e own with
      | false=>exact .inr ⟨e,by simp [pathTys],hm⟩
      | true=>
       rcases g1 e' he with h | ⟨q,h1,h2⟩
       ·exact .inl (by simp only [vtysK,hm,cond_true]; rw [←huk]; exact h)
       ·exact .inr ⟨q,by simp [pathTys,h1],h2⟩
   | _=>simp [getP] at hg
theorem chGet_kinds:∀(n:Nat) {c:K} {x y:El c} {s:Dat},chGet n c x=some s→∃t:Dat,chGet n c y=some t∧t.1=s.1:=by
 intro n
 induction n with
 | zero=>
  intro c x y s h
  cases c <;> first | (simp only [chGet,Option.some.injEq] at h; subst h; exact ⟨_,rfl,rfl⟩) | simp [chGet] at h
 | succ n ih=>
  intro c x y s h
  cases c <;> first | exact ih h | simp [chGet] at h
theorem chGet_tys:∀(n:Nat) {c:K} {x:El c} {s:Dat},chGet n c x=some s→∀t∈s.1.tys,t∈c.tys:=by
 intro n
 induction n with
 | zero=>
  intro c x s h t ht
  cases c with
  | pair a b=>simp only [chGet,Option.some.injEq] at h; subst h; simp [K.tys,ht]
  | _=>simp [chGet] at h
 | succ n ih=>
  intro c x s h t ht
  cases c with
  | pair a b=>simp only [chGet] at h; simp [K.tys,ih h t ht]
  | _=>simp [chGet] at h
theorem navKeep_flds {h h':Heap} {own:List TypeId}:∀(q:List Stp) {k:K} {x y:El k} {cs cs':List Value} {wh:Option (Nat×Nat)} {c0:List Value} {w0:Option (Nat×Nat)},
  PIn q k x→(∀t∈pathTys q k,memN t own=true∧t∉k.tys)→navF h q k cs wh=some (c0,w0)→PIn q k y∧∃c1,navF h' q k cs' wh=some (c1,w0):=by
 intro q
 induction q with
 | nil=>
  intro k x y cs cs' wh c0 w0 _ _ hn
  simp only [navF,Option.some.injEq,Prod.mk.injEq] at hn ⊢
  exact ⟨trivial,_,rfl,hn.2⟩
 | cons s q ih=>
  intro k x y cs cs' wh c0 w0 hp ht hn
  cases s with
  | fld n=>
   cases k with
   | st c=>
    simp only [PIn] at hp
    cases hg:chGet n c x with
    | none=>rw [hg] at hp; exact hp.elim
    | some s=>
     rw [hg] at hp
     simp only at hp
     have hpt:pathTys (.fld n :: q) (.st c)=pathTys q s.1:=by simp [pathTys,chK_of_get n hg]
     rw [hpt] at ht
     obtain ⟨t,g1,g2⟩:=chGet_kinds n (c:=c) (x:=x) (y:=y) hg
     obtain ⟨sk,sx⟩:=s
     obtain ⟨tk,ty⟩:=t
     simp only at g2
     subst g2
     simp only [navF] at hn ⊢
     cases ho:chOff n c with
     | none=>rw [ho] at hn; simp at hn
     | some q2=>
      rw [ho] at hn
      simp only at hn
      have hk2:q2.2=tk:=by
       have key:∀(n:Nat) {c:K} {x:El c} {s:Dat} {q:Nat×K},chGet n c x=some s→chOff n c=some q→q.2=s.1:=by
        intro n
        induction n with
        | zero=>intro c x s q h1 h2; cases c with
         | pair a b=>simp only [chGet,chOff,Option.some.injEq] at h1 h2; subst h1; subst h2; rfl
         | _=>simp [chGet] at h1
        | succ n ih=>intro c x s q h1 h2; cases c with
         | pair a b=>
          simp only [chGet,chOff] at h1 h2
          cases h3:chOff n b with
          | none=>rw [h3] at h2; simp at h2
          | some q3=>rw [h3] at h2; simp only [Option.some.injEq] at h2; subst h2; exact ih (q:=q3) h1 h3
         | _=>simp [chGet] at h1
       exact key n hg ho
      obtain ⟨o2,k2⟩:=q2
      simp only at hk2
      subst hk2
      simp only [PIn,g1]
      exact ih hp (fun t h=>⟨(ht t h).1,fun h2=>(ht t h).2 (chGet_tys n hg t h2)⟩) hn
   | _=>simp [PIn] at hp
  | idx i=>
   cases k with
   | sl e k=>exact absurd (by simp [K.tys]) (ht e (by simp [pathTys])).2
   | _=>simp [PIn] at hp
theorem Cells_row {h:Heap} {b o n:Nat} {arr:Array Value} {e:TypeId} {fr:Nat×Nat} (hb:h b=some (.cells arr e fr)) (hl:o+n≤arr.size):Cells h b o (rowL h b o n):=by
 intro i hi
 simp only [rowL,List.length_map,List.length_range] at hi ⊢
 rw [List.getElem?_map,List.getElem?_range hi]
 simp only [Option.map_some]
 unfold cellAt
 rw [hb]
 simp [show o+i<arr.size by omega]
theorem SameBut.widen {h0 h h':Heap} {b o n o' n':Nat} (H0:SameBut h0 h b o n) (H:SameBut h h' b o' n') (h1:o≤o') (h2:o'+n'≤o+n):SameBut h0 h' b o n:=by
 obtain ⟨a0,a1,e,fr,g1,g2,g3,g4⟩:=H0
 obtain ⟨b0,b1,e',fr',f1,f2,f3,f4⟩:=H
 rw [g2] at f1
 simp only [Option.some.injEq,Obj.cells.injEq] at f1
 obtain ⟨rfl,rfl,rfl⟩:=f1
 exact ⟨a0,b1,e,fr,g1,f2,f3.trans g3,fun i hi=>(f4 i (by omega)).trans (g4 i hi)⟩
theorem mem_mergeT {l m:List Tag} {t:Tag}:t∈mergeT l m↔t∈l∨t∈m:=by
 induction l with
 | nil=>simp [mergeT]
 | cons s l ih=>
  obtain ⟨r,n⟩:=s
  simp only [mergeT]
  cases h:m.any fun t=>Nat.beq t.1 r && Nat.beq t.2 n with
  | true=>
   simp only [cond_true,ih,List.mem_cons]
   constructor
   ·intro h; exact h.imp .inr id
   ·rintro ((h1 | h1) | h1)
    ·subst h1
     obtain ⟨t,h2,h3⟩:=List.any_eq_true.1 h
     simp only [Bool.and_eq_true] at h3
     obtain ⟨tr,tn⟩:=t
     have:=Nat.eq_of_beq_eq_true h3.1
     have:=Nat.eq_of_beq_eq_true h3.2
     simp_all
    ·exact .inl h1
    ·exact .inr h1
  | false=>simp only [cond_false,ih,List.mem_cons,or_assoc]
theorem mem_dropT {r:Nat} {l:List Tag} {t:Tag}:t∈dropT r l↔t∈l∧t.1≠r:=by
 unfold dropT
 rw [List.mem_filter]
 constructor
 ·rintro ⟨h1,h2⟩
  refine ⟨h1,fun e=>?_⟩
  rw [e] at h2
  simp at h2
 ·rintro ⟨h1,h2⟩
  refine ⟨h1, ?_⟩
  cases hb:Nat.beq t.1 r with
  | true=>exact absurd (Nat.eq_of_beq_eq_true hb) h2
  | false=>rfl
section
variable {cx:Cx} {σ:St} {α:Asg} {F:List Nat} {a:Act} {w:World} {r:Nat} {R:Root}
theorem okT_tags {T T':List Tag} {b:Nat} (h:okT cx σ α F w T b) (hs:∀t∈T,t∈T'):okT cx σ α F w T' b:=
 ⟨h.1,h.2.1,h.2.2.1,fun r R h1 h2=>by obtain ⟨n,hn⟩:=h.2.2.2.1 r R h1 h2; exact ⟨n,hs _ hn⟩,fun hb=>(h.2.2.2.2 hb).imp (fun ⟨j,n,h1,h2⟩=>⟨j,n,hs _ h1,h2⟩) id⟩
theorem cleanT_sub {T T':List Tag} {tys tys':List TypeId} (h:cleanT σ tys T=true) (hs:∀t∈T',t∈T) (ht:∀t∈tys',t∈tys):cleanT σ tys' T'=true:=by
 rw [cleanT_iff] at h ⊢
 intro t h1
 rcases h t (hs t h1) with h | ⟨R,h2,h3,h4⟩
 ·exact .inl h
 ·refine .inr ⟨R,h2,h3, ?_⟩
  unfold clean at h4 ⊢
  rw [List.all_eq_true] at h4 ⊢
  intro x hx
  have:=h4 x hx
  simp only [Bool.not_eq_true',memN_false] at this ⊢
  exact fun h=>this (ht x h)
theorem fo_notBase (H:Rel cx σ α F a w) (hr:liveR σ r R) {b:Nat} (hb:b∈α.fo r):¬isBase cx b:=by
 rintro ⟨j,pi,o,n,h1,h2⟩
 obtain ⟨Q,hQ,hk,hl,_⟩:=H.pbase j pi b o n h1 h2
 have hbq:b∈blk α Q (parR j):=by simp [blk,whR,hk,hl]
 have hbr:b∈blk α R r:=List.mem_append_right _ hb
 by_cases e:r=parR j
 ·subst e
  have hQR:Q=R:=by have:=hQ.1; rw [hr.1] at this; simpa using this.symm
  subst hQR
  have hnd:=(H.roots _ _ hr).nd
  rw [blk_blkOf,nd_blkOf] at hnd
  exact hnd.1 b o (by simp [whOf,hk,hl]) hb
 ·exact H.dis _ _ _ _ hr hQ e b hbr hbq
theorem F_notBase (H:Rel cx σ α F a w) {b:Nat} (hb:b∈F):¬isBase cx b:=by
 rintro ⟨j,pi,o,n,h1,h2⟩
 obtain ⟨Q,hQ,hk,hl,_⟩:=H.pbase j pi b o n h1 h2
 have hbq:b∈blk α Q (parR j):=by simp [blk,whR,hk,hl]
 exact H.fdis _ _ hQ b hbq hb
def storeRoot (R:Root) (z:Dat) (own:List TypeId) (tags:List Tag) (lw lh:List TypeId) (kp:Bool):Root:=
 { R with k:=z.1,x:=z.2,own:=own,tags:=tags,w:=lw++R.w,h:=lh++R.h,keep:=kp }
theorem placeMem (H:Rel cx σ α F a w) (hr:liveR σ r R) (hv:validR σ R) {p:List Stp} {d:Dat} (hg:getP p R.k R.x=some d) (hpin:PIn p R.k R.x) (hown:∀t∈pathTys p R.k,memN t R.own=true)
  {cs1:List Value} {b o:Nat} (hn:navF (hp w) p R.k (α.hdr r) (whR α R r)=some (cs1,some (b,o))) :
  Cells (hp w) b o cs1∧(∃fo1,Ow (hp w) R.own (okT cx σ α F w R.tags) d.1 d.2 cs1 fo1∧∀b∈fo1,b∈α.fo r)∧b∈blk α R r∧(∃arr e lo hi,hp w b=some (.cells arr e (lo,hi))∧(∀i,i<arr.size→¬(lo≤i∧i<hi))∧o+d.1.size≤arr.size∧((lastTy R p=e∧¬isBase cx b)∨(isBase cx b∧lastTy R p=SENT)))∧
   (∀b' o',whR α R r=some (b',o')→b=b'→o'≤o∧o+d.1.size≤o'+R.k.size):=by
 have K:=H.roots r R hr
 have hnd:=K.nd
 rw [blk_blkOf,nd_blkOf] at hnd
 obtain ⟨cs1',fo1,rest,wh',hn',hp1,hd1,hc1,hin,hnone,hup⟩:=focus p (K.ow hv) (fun b o e=>(K.mem b o e).1) hg hpin hown hnd.2 (fun b o e=>hnd.1 b o e)
 rw [hn] at hn'
 simp only [Option.some.injEq,Prod.mk.injEq] at hn'
 obtain ⟨rfl,rfl⟩:=hn'
 refine ⟨hc1 b o rfl,⟨fo1,hd1,fun b hb=>hp1.mem_iff.2 (List.mem_append_left _ hb)⟩, ?_, ?_, ?_⟩
 ·rw [blk_blkOf,mem_blkOf]
  rcases hin b o rfl with ⟨_,o0,ew,_⟩ | ⟨h1,_⟩
  ·exact .inl ⟨o0,ew⟩
  ·exact .inr (hp1.mem_iff.2 (List.mem_append_right _ h1))
 ·rcases hin b o rfl with ⟨h0,o0,ew,h1,h2⟩ | ⟨h1,arr,e,lo,hi,h2,h3,h4,h5⟩
  ·obtain ⟨_,arr,e,lo,hi,g1,g2,g3,g4⟩:=K.mem b o0 ew
   refine ⟨arr,e,lo,hi,g1,g2,by omega, ?_⟩
   unfold lastTy
   rw [h0]
   simp only [List.getLastD_nil]
   unfold Root.bt
   cases hk:R.kind with
   | var t=>
    refine .inl ⟨(g4 t hk).symm, ?_⟩
    rintro ⟨j,pi,o',n',h1',h2'⟩
    obtain ⟨Q,hQ,hkQ,hlQ,_⟩:=H.pbase j pi b o' n' h1' h2'
    have hbq:b∈blk α Q (parR j):=by simp [blk,whR,hkQ,hlQ]
    have hbr:b∈blk α R r:=by rw [blk_blkOf,mem_blkOf]; exact .inl ⟨o0,ew⟩
    by_cases e:r=parR j
    ·subst e
     have hQR:Q=R:=by have:=hQ.1; rw [hr.1] at this; simpa using this.symm
     subst hQR
     rw [hk] at hkQ
     simp at hkQ
    ·exact H.dis _ _ _ _ hr hQ e b hbr hbq
   | par=>
    obtain ⟨j,pi,n,hj1,hj2,hj3⟩:=H.parb r R hr hk
    have:(α.loc r).1=b:=by
     have:=ew
     unfold whR at this
     rw [hk] at this
     simp only [Option.some.injEq] at this
     rw [this]
    exact .inr ⟨⟨j,pi,_,n,hj2,by rw [hj3,this]⟩,rfl⟩
   | anon=>unfold whR at ew; rw [hk] at ew; simp at ew
   | dead=>unfold whR at ew; rw [hk] at ew; simp at ew
  ·refine ⟨arr,e,lo,hi,h2,h3,h5, .inl ⟨?_,fo_notBase H hr (hp1.mem_iff.2 (List.mem_append_right _ h1))⟩⟩
   unfold lastTy
   rw [List.getLastD_eq_getLast?,h4]
   rfl
 ·intro b' o' ew e
  subst e
  rcases hin b o rfl with ⟨_,o0,ew',h1,h2⟩ | ⟨h1,_⟩
  ·rw [ew] at ew'
   simp only [Option.some.injEq,Prod.mk.injEq,true_and] at ew'
   subst ew'
   exact ⟨h1,h2⟩
  ·exact absurd (hp1.mem_iff.2 (List.mem_append_right _ h1)) (hnd.1 b o' ew)
end
end Go.Proofs.Ytailcbngagacaaa.Ow

/- The framework, part 12: the turn of a place. Own work of this seat. -/
namespace Go.Proofs.Ytailcbngagacaaa.Ow
open Go
variable [Fr]
section
variable {cx:Cx} {σ:St} {α:Asg} {F:List Nat} {a:Act} {w:World} {r:Nat} {R:Root}
structure PlaceTurn (cx:Cx) (σ:St) (α:Asg) (F:List Nat) (w:World) (r:Nat) (R:Root) (p:List Stp) (d:Dat) (own':List TypeId) (cs1:List Value) (wh':Option (Nat×Nat)) (fo1 rest:List Nat)
  (t z:Dat) (tags':List Tag) (lw lh:List TypeId) (kp:Bool) (ft F':List Nat) (cs':List Value) (w':World):Prop where
 hz:setP p R.k R.x t=some z
 ht:t.1.size=d.1.size
 hvt:∀e∈vtysK own' d.1,e∈vtysK own' t.1
 os:w'.os=w.os∧w'.tape=w.tape∧w'.output=w.output
 size:w.heap.size≤w'.heap.size
 chg:∀b,b<w.heap.size→hp w' b≠hp w b→b∈F∨(b∈fo1∧∃e∈lw,elTy (hp w) b=some e)∨(∃o,wh'=some (b,o)∧lastTy R p∈lw)
 cells:∀b o,wh'=some (b,o)→Cells (hp w') b o cs'∧SameBut (hp w) (hp w') b o d.1.size
 none:wh'=none→cs'=cs1
 len:cs'.length=d.1.size
 log:lw≠[]∨lh≠[]
 tags:(∀t∈R.tags,t∈tags')∧tagsW σ tags'∧∀n,(r,n)∉tags'
 newft:∀b∈ft,b∈fo1∨b∈F∨(w.heap.size≤b∧b<w'.heap.size)
 ftnd:ft.Nodup
 newF:∀b∈F',b∈F∨(w.heap.size≤b∧b<w'.heap.size)∨(b∈fo1∧∃e∈lw,elTy (hp w) b=some e)
 F'nd:F'.Nodup
 ftF':∀b∈ft,b∉F'
 isst:isSt t.1=isSt d.1∨wh'≠Option.none
 gapt:t.1=d.1∨(∀q',(getP q' t.1 t.2).isSome=true→(∀e∈pathTys q' t.1,e∉lh)→pathTys q' d.1=pathTys q' t.1∧(getP q' d.1 d.2).isSome=true)∨GAPT∈lh
 nav:GAPT∉lh→NavKeep (hp w) (hp w') own' d.1 d.2 cs1 wh' t cs' lh
 cont:∀α',Turn cx σ α F w (setRoot σ r (storeRoot R z own' tags' lw lh kp)) α' F' w' (one1 r lw) (one1 r lh)→(∀b∈blk α' (storeRoot R z own' tags' lw lh kp) r,(∃o,whR α R r=some (b,o))∨b∈ft∨b∈rest)→
  validR (setRoot σ r (storeRoot R z own' tags' lw lh kp)) (storeRoot R z own' tags' lw lh kp)→Ow (hp w') own' (okT cx (setRoot σ r (storeRoot R z own' tags' lw lh kp)) α' F' w' tags') t.1 t.2 cs' ft
theorem Rel.place (H:Rel cx σ α F a w) (hr:liveR σ r R) (hv:validR σ R) {p:List Stp} {d:Dat} {own':List TypeId} (hg:getP p R.k R.x=some d) (hpin:PIn p R.k R.x)
  (hsub:∀t,memN t own'=true→memN t R.own=true) (hown:∀t∈pathTys p R.k,memN t own'=true) :
  ∃fd ok' fo1 rest cs1 wh',navF (hp w) p R.k (α.hdr r) (whR α R r)=some (cs1,wh')∧(α.fo r).Perm (fo1++rest++fd)∧Ow (hp w) own' ok' d.1 d.2 cs1 fo1∧(∀b∈fo1++rest,∃e∈R.k.tys,memN e own'=true∧elTy (hp w) b=some e)∧
   ((∀t∈R.k.tys,memN t own'=memN t R.own)→fd=[]∧Ow (hp w) own' (okT cx σ α F w R.tags) d.1 d.2 cs1 fo1)∧
   (∀b o,wh'=some (b,o)→b∈rest∨∃o0,whR α R r=some (b,o0)∧o0≤o∧o+d.1.size≤o0+R.k.size)∧(∀b o,wh'=some (b,o)→b∉fo1)∧
   ∀{t z:Dat} {tags':List Tag} {lw lh:List TypeId} {kp:Bool} {ft F':List Nat} {cs':List Value} {w':World},PlaceTurn cx σ α F w r R p d own' cs1 wh' fo1 rest t z tags' lw lh kp ft F' cs' w'→
    ∃α',Rel cx (setRoot σ r (storeRoot R z own' tags' lw lh kp)) α' F' a w'∧Turn cx σ α F w (setRoot σ r (storeRoot R z own' tags' lw lh kp)) α' F' w' (one1 r lw) (one1 r lh)∧(∀b∈blk α' (storeRoot R z own' tags' lw lh kp) r,(∃o,whR α R r=some (b,o))∨b∈ft∨b∈rest)∧
     (GAPT∉lh→validR (setRoot σ r (storeRoot R z own' tags' lw lh kp)) (storeRoot R z own' tags' lw lh kp)→navF (hp w') p z.1 (α'.hdr r) (whR α' (storeRoot R z own' tags' lw lh kp) r)=some (cs',wh'))∧∀b∈ft,b∈α'.fo r:=by
 have K:=H.roots r R hr
 have hnd:=K.nd
 rw [blk_blkOf,nd_blkOf] at hnd
 have hO:=K.ow hv
 obtain ⟨foK,fd,hpK,hOK,hfd0⟩:∃foK fd,(α.fo r).Perm (foK++fd)∧Ow (hp w) own' (fun b=>(okT cx σ α F w R.tags b∨b∈fd)∧∃t∈vtysK own' R.k,elIs (hp w) b t) R.k R.x (α.hdr r) foK∧((∀t∈R.k.tys,memN t own'=memN t R.own)→fd=[]):=by
  by_cases hall:∀t∈R.k.tys,memN t own'=memN t R.own
  ·exact ⟨α.fo r,[],by simp,Ow_tys _ (fun _ h=>h) (Ow_mono (fun _ _=>rfl) (fun _ h=>.inl h) (fun _ _=>rfl) (Ow_same hall hO)),fun _=>rfl⟩
  ·obtain ⟨foK,fd,h1,h2⟩:=Ow_less (own':=own') (fun t _ h=>hsub t h) hO
   exact ⟨foK,fd,h1,Ow_tys _ (fun _ h=>h) h2,fun h=>absurd h hall⟩
 have hndK:=hpK.nodup hnd.2
 have hfoK:∀b,b∈α.fo r↔b∈foK∨b∈fd:=fun b=>by rw [hpK.mem_iff,List.mem_append]
 obtain ⟨cs1,fo1,rest,wh',hn,hp1,hd1,hc1,hin,hnone,hup⟩:=focus p hOK (fun b o e=>(K.mem b o e).1) hg hpin hown (List.nodup_append.1 hndK).1 (fun b o e hb=>hnd.1 b o e ((hfoK b).2 (.inl hb)))
 have hpf:(α.fo r).Perm (fo1++rest++fd):=hpK.trans (List.Perm.append_right _ hp1)
 have hfo:∀b,b∈α.fo r↔(b∈fo1∨b∈rest)∨b∈fd:=fun b=>by rw [hpf.mem_iff,List.mem_append,List.mem_append]
 have hnd3:=hpf.nodup hnd.2
 have hnd12:=(List.nodup_append.1 hnd3).1
 have htyK:=Ow_fo_ty hOK
 have hwh:∀b o,wh'=some (b,o)→b∈rest∨∃o0,whR α R r=some (b,o0)∧o0≤o∧o+d.1.size≤o0+R.k.size:=by
  intro b o e
  rcases hin b o e with ⟨_,o0,ew,h1,h2⟩ | ⟨h1,_⟩
  ·exact .inr ⟨o0,ew,h1,h2⟩
  ·exact .inl h1
 have hwhfo1:∀b o,wh'=some (b,o)→b∉fo1:=by
  intro b o e hb
  rcases hwh b o e with h | ⟨o0,ew,_⟩
  ·exact (List.nodup_append.1 hnd12).2.2 b hb b h rfl
  ·exact hnd.1 b o0 ew ((hfo b).2 (.inl (.inl hb)))
 have hwhfd:∀b o,wh'=some (b,o)→b∉fd:=by
  intro b o e hb
  rcases hwh b o e with h | ⟨o0,ew,_⟩
  ·exact (List.nodup_append.1 hnd3).2.2 b (List.mem_append_right _ h) b hb rfl
  ·exact hnd.1 b o0 ew ((hfo b).2 (.inr hb))
 refine ⟨fd,_,fo1,rest,cs1,wh',hn,hpf,hd1,fun b hb=>htyK b (hp1.mem_iff.2 hb), ?_,hwh,hwhfo1, ?_⟩
 ·intro hall
  have h0:=hfd0 hall
  refine ⟨h0,Ow_mono (fun _ _=>rfl) (fun b hb=>?_) (fun _ _=>rfl) hd1⟩
  rcases hb.1 with hb | hb
  ·exact hb
  ·rw [h0] at hb; simp at hb
 intro t z tags' lw lh kp ft F' cs' w' P
 generalize hR':storeRoot R z own' tags' lw lh kp=R' at *
 have Ez:R'.k=z.1:=by rw [←hR']; rfl
 have hkind:R'.kind=R.kind:=by rw [←hR']; rfl
 have hdead:R'.isDead=false:=by rw [isDead_eq hkind]; exact hr.2
 have hRown:R'.own=own':=by rw [←hR']; rfl
 have hRtags:R'.tags=tags':=by rw [←hR']; rfl
 have hRg:R'.g=R.g:=by rw [←hR']; rfl
 have hRw:R'.w=lw++R.w:=by rw [←hR']; rfl
 have hRh:R'.h=lh++R.h:=by rw [←hR']; rfl
 have hsz:z.1.size=R.k.size:=setP_like p hg P.ht P.hz
 have hmine:∀b,b∈fo1∨b∈rest∨b∈fd∨(∃o,whR α R r=some (b,o))→b∈blk α R r:=by
  intro b hb
  rw [blk_blkOf,mem_blkOf,hfo]
  rcases hb with h | h | h | h
  ·exact .inr (.inl (.inl h))
  ·exact .inr (.inl (.inr h))
  ·exact .inr (.inr h)
  ·exact .inl h
 have hbF:∀b∈blk α R r,b∉F:=fun b hb=>H.fdis r R hr b hb
 have hblt:∀b∈blk α R r,b<w.heap.size:=fun b hb=>(K.mine b hb).1
 have hbF':∀b∈blk α R r,b∉fo1→b∉F':=fun b hb hno h=>by
  rcases P.newF b h with h | h | h
  ·exact hbF b hb h
  ·have:=hblt b hb; omega
  ·exact hno h.1
 have hstay:∀b∈blk α R r,b∉fo1→(∀o,wh'≠some (b,o))→hp w' b=hp w b:=by
  intro b hb h1 h2
  refine Classical.byContradiction fun hne=>?_
  rcases P.chg b (hblt b hb) hne with h | ⟨h,_⟩ | ⟨o,h,_⟩
  ·exact hbF b hb h
  ·exact h1 h
  ·exact h2 o h
 have hfdstay:∀b∈fd,hp w' b=hp w b:=fun b hb=>hstay b (hmine b (.inr (.inr (.inl hb))))
  (fun h=>(List.nodup_append.1 hnd3).2.2 b (List.mem_append_left _ h) b hb rfl) (fun o e=>hwhfd b o e hb)
 have hreststay:∀b∈rest,wh'.map (·.1)≠some b→hp w' b=hp w b:=fun b hb hne=>hstay b (hmine b (.inr (.inl hb)))
  (fun h=>(List.nodup_append.1 hnd12).2.2 b h b hb rfl) (fun o e=>hne (by rw [e]; rfl))
 have hwhstay:∀b o,whR α R r=some (b,o)→wh'.map (·.1)≠some b→hp w' b=hp w b:=fun b o e hne=>hstay b (hmine b (.inr (.inr (.inr ⟨o,e⟩))))
  (fun h=>hnd.1 b o e ((hfo b).2 (.inl (.inl h)))) (fun o e=>hne (by rw [e]; rfl))
 let hdr':=match whR α R r with
  | some (b0,o0)=>rowL (hp w') b0 o0 R.k.size
  | none=>α.hdr r
 have hT1:Turn1 cx σ α F w r R R' (ft++rest) F' w' lw lh:=by
  refine ⟨.inr ⟨hRw,hRh,by rw [hRg]; exact Nat.le_refl _,hkind,fun _=>by rw [Ez]; exact hsz,P.log⟩,by rw [hRtags]; exact P.tags.2,P.os,P.size, ?_, ?_, ?_,P.F'nd, ?_, ?_,fun _=>by rw [←hR']; exact ⟨rfl,rfl⟩⟩
  ·intro b hb hne
   rcases P.chg b hb hne with h | ⟨h,h2⟩ | ⟨o,h,h2⟩
   ·exact .inl h
   ·exact .inr ⟨hmine b (.inl h), .inr (.inl h2)⟩
   ·have hbb:b∈blk α R r:=hmine b (by
     rcases hwh b o h with h | ⟨o0,ew,_⟩
     ·exact .inr (.inl h)
     ·exact .inr (.inr (.inr ⟨o0,ew⟩)))
    refine .inr ⟨hbb, .inr ?_⟩
    rcases hin b o h with ⟨h0,o0,ew,_⟩ | ⟨_,arr,e,lo,hi,g1,_,g3,_⟩
    ·
     obtain ⟨_,arr,e,lo,hi,g1,g2,g3,g4⟩:=K.mem b o0 ew
     unfold lastTy at h2
     rw [h0] at h2
     simp only [List.getLastD_nil] at h2
     cases hk:R.kind with
     | var tv=>
      refine .inl ⟨tv, ?_, ?_⟩
      ·unfold Root.bt at h2; rw [hk] at h2; exact h2
      ·unfold elTy; rw [g1]; simp [g4 tv hk]
     | par=>
      obtain ⟨j,pi,n,hj1,hj2,hj3⟩:=H.parb r R hr hk
      have:(α.loc r).1=b:=by
       have:=ew
       unfold whR at this
       rw [hk] at this
       simp only [Option.some.injEq] at this
       rw [this]
      exact .inr ⟨⟨j,pi,_,n,hj2,by rw [hj3,this]⟩,fun e=>by rw [e] at h2; simp at h2⟩
     | anon=>unfold whR at ew; rw [hk] at ew; simp at ew
     | dead=>unfold whR at ew; rw [hk] at ew; simp at ew
    ·refine .inl ⟨e, ?_,by unfold elTy; rw [g1]⟩
     unfold lastTy at h2
     rw [List.getLastD_eq_getLast?,g3] at h2
     exact h2
  ·intro _ b hb
   rw [blkOf_kind hkind,mem_blkOf,List.mem_append] at hb
   rcases hb with ⟨o,h⟩ | h | h
   ·exact .inl (hmine b (.inr (.inr (.inr ⟨o,h⟩))))
   ·rcases P.newft b h with h | h | h
    ·exact .inl (hmine b (.inl h))
    ·exact .inr (.inl h)
    ·exact .inr (.inr h)
   ·exact .inl (hmine b (.inr (.inl h)))
  ·intro b hb
   rcases P.newF b hb with h | h | h
   ·exact .inl h
   ·exact .inr (.inl h)
   ·exact .inr (.inr ⟨hmine b (.inl h.1), .inr (.inl h.2)⟩)
  ·intro _ b hb
   rw [blkOf_kind hkind,mem_blkOf,List.mem_append] at hb
   rcases hb with ⟨o,h⟩ | h | h
   ·exact hbF' b (hmine b (.inr (.inr (.inr ⟨o,h⟩)))) (fun h1=>hnd.1 b o h ((hfo b).2 (.inl (.inl h1))))
   ·exact P.ftF' b h
   ·exact hbF' b (hmine b (.inr (.inl h))) (fun h1=>(List.nodup_append.1 hnd12).2.2 b h1 b h rfl)
  ·intro j pi b o n hj hb hrj hne
   obtain ⟨Q,hQ,hk,hl,hs⟩:=H.pbase j pi b o n hj hb
   have hQR:Q=R:=by have:=hQ.1; rw [←hrj,hr.1] at this; simpa using this.symm
   subst hQR
   have hwb:whR α Q r=some (b,o):=by unfold whR; rw [hk,hrj,hl]
   have hbb:=hmine b (.inr (.inr (.inr ⟨o,hwb⟩)))
   obtain ⟨_,_,_,_,_,f6⟩:=H.frame
   have h0:=f6 j pi b o n hj hb
   rcases P.chg b (hblt b hbb) hne with h | ⟨h,_⟩ | ⟨o',h,_⟩
   ·exact absurd h (hbF b hbb)
   ·exact absurd ((hfo b).2 (.inl (.inl h))) (hnd.1 b o hwb)
   ·rcases hwh b o' h with h1 | ⟨o0,ew,h1,h2⟩
    ·exact absurd ((hfo b).2 (.inl (.inr h1))) (hnd.1 b o hwb)
    ·rw [hwb] at ew
     simp only [Option.some.injEq,Prod.mk.injEq,true_and] at ew
     subst ew
     exact h0.widen (P.cells b o' h).2 h1 (by omega)
 have hT:=hT1.turn (hdr':=hdr') H hr
 have hblk':∀b∈blk (setAsg α r (α.loc r) hdr' (ft++rest)) R' r,(∃o,whR α R r=some (b,o))∨b∈ft∨b∈rest:=by
  intro b hb
  rw [blk_setAsg,blkOf_kind hkind,mem_blkOf,List.mem_append] at hb
  exact hb
 have hwhole:validR (setRoot σ r R') R'→Ow (hp w') own' (okT cx (setRoot σ r R') (setAsg α r (α.loc r) hdr' (ft++rest)) F' w' tags') z.1 z.2 hdr' (ft++rest)∧
   (GAPT∉lh→(t.1=d.1→z.1=R.k)∧NavKeep (hp w) (hp w') own' R.k R.x (α.hdr r) (whR α R r) z hdr' lh∧navF (hp w') p z.1 hdr' (whR α R r)=some (cs',wh')):=by
  intro hv'
  have hcont:=P.cont _ (by rw [hR']; exact hT) (by rw [hR']; exact hblk') (by rw [hR']; exact hv')
  rw [hR'] at hcont
  have hvt:∀e∈vtysK own' R.k,e∈R'.vtys:=by
   unfold Root.vtys
   rw [hRown,Ez]
   exact (vtys_setP p hg P.hz).2 P.hvt
  have hc2:=hv'.2
  rw [hRtags] at hc2
  obtain ⟨_,hV,_⟩:=hT.views H R.tags (vtysK own' R.k) (H.wroots r R hr.1).1 (cleanT_sub hc2 P.tags.1 hvt)
  have hok:∀b,((okT cx σ α F w R.tags b∨b∈fd)∧∃t∈vtysK own' R.k,elIs (hp w) b t)→okT cx (setRoot σ r R') (setAsg α r (α.loc r) hdr' (ft++rest)) F' w' tags' b∧hp w' b=hp w b:=by
   rintro b ⟨hb,hty⟩
   rcases hb with hb | hb
   ·obtain ⟨h1,h2⟩:=hV b hb (.inl hty)
    exact ⟨okT_tags h1 P.tags.1,h2⟩
   ·have hbb:=hmine b (.inr (.inr (.inl hb)))
    refine ⟨⟨Nat.lt_of_lt_of_le (hblt b hbb) P.size,hbF' b hbb (fun h1=>(List.nodup_append.1 hnd3).2.2 b (List.mem_append_left _ h1) b hb rfl),fo_notBase H hr ((hfo b).2 (.inr hb)), ?_, ?_⟩,hfdstay b hb⟩
    ·intro q Q hq hbq
     exfalso
     rcases liveR_set hq with ⟨rfl,rfl,_⟩ | ⟨e,hq'⟩
     ·rcases hblk' b hbq with ⟨o,h⟩ | h | h
      ·exact hnd.1 b o h ((hfo b).2 (.inr hb))
      ·rcases P.newft b h with h | h | h
       ·exact (List.nodup_append.1 hnd3).2.2 b (List.mem_append_left _ h) b hb rfl
       ·exact hbF b hbb h
       ·have:=hblt b hbb; omega
      ·exact (List.nodup_append.1 hnd3).2.2 b (List.mem_append_right _ h) b hb rfl
     ·rw [(Same_ne (α:=α) (σ:=σ) (R:=R') e).blk] at hbq
      exact H.dis _ _ _ _ hr hq' (Ne.symm e) b hbb hbq
    ·intro hb0
     rcases (K.mine b hbb).2 with h | ⟨j,pi,h1,h2⟩
     ·omega
     ·exact .inr ⟨j,pi,h1,h2⟩
  obtain ⟨csn,hl0,hO',hC',hN',hK'⟩:=hup.go (hp w') (okT cx (setRoot σ r R') (setAsg α r (α.loc r) hdr' (ft++rest)) F' w' tags') t cs' ft z P.hz P.len hcont hok hreststay P.cells P.none hwhstay
  have hcsn:csn=hdr':=by
   cases hw:whR α R r with
   | none=>
    have:hdr'=α.hdr r:=by simp only [hdr']; rw [hw]
    rw [this]
    exact hN' hw
   | some q=>
    have:hdr'=rowL (hp w') q.1 q.2 R.k.size:=by simp only [hdr']; rw [hw]
    rw [this]
    have h1:=rowL_of_cells (hC' q.1 q.2 hw)
    rw [hl0,K.len] at h1
    exact h1.symm
  rw [hcsn] at hO'
  refine ⟨hO',fun hgp=>?_⟩
  have:=hK' lh P.ht (P.nav hgp)
  rw [hcsn] at this
  exact ⟨this.1,this.2.2⟩
 refine ⟨setAsg α r (α.loc r) hdr' (ft++rest),hT1.rel H hr ?_ ?_ ?_,hT,hblk',fun hgn hv'=>by
  have h3:=((hwhole hv').2 hgn).2.2
  have hwh2:whR (setAsg α r (α.loc r) hdr' (ft++rest)) R' r=whR α R r:=by rw [whR_setAsg,whOf_kind hkind, ←whR_whOf]
  have hhd2:(setAsg α r (α.loc r) hdr' (ft++rest)).hdr r=hdr':=by simp [setAsg,upd_same]
  rw [hwh2,hhd2]
  exact h3,fun b hb=>by
  have hfo2:(setAsg α r (α.loc r) hdr' (ft++rest)).fo r=ft++rest:=by simp [setAsg,upd_same]
  rw [hfo2]
  exact List.mem_append_left _ hb⟩
 ·intro _
  refine ⟨fun hv'=>?_, ?_, ?_, ?_⟩
  ·have:=(hwhole hv').1
   subst hR'
   exact this
  ·rw [Ez,hsz]
   simp only [hdr']
   cases hw:whR α R r with
   | none=>exact K.len
   | some q=>simp [rowL]
  ·intro b o hb
   rw [whOf_kind hkind, ←whR_whOf] at hb
   have hh:hdr'=rowL (hp w') b o R.k.size:=by simp only [hdr']; rw [hb]
   obtain ⟨_,arr,e,lo,hi,g1,g2,g3,g4⟩:=K.mem b o hb
   have hnew:∃arr',hp w' b=some (.cells arr' e (lo,hi))∧arr'.size=arr.size:=by
    by_cases hbw:wh'.map (·.1)=some b
    ·cases hwh':wh' with
     | none=>rw [hwh'] at hbw; simp at hbw
     | some q=>
      rw [hwh'] at hbw
      simp only [Option.map_some,Option.some.injEq] at hbw
      obtain ⟨a1,a2,te,fr,f1,f2,f3,_⟩:=(P.cells q.1 q.2 hwh').2
      rw [hbw] at f1 f2
      rw [g1] at f1
      simp only [Option.some.injEq,Obj.cells.injEq] at f1
      obtain ⟨rfl,rfl,rfl⟩:=f1
      exact ⟨a2,f2,f3⟩
    ·exact ⟨arr,(hwhstay b o hb hbw).trans g1,rfl⟩
   obtain ⟨arr',f1,f2⟩:=hnew
   refine ⟨?_,arr',e,lo,hi,f1,by rw [f2]; exact g2,by rw [f2,Ez,hsz]; exact g3,fun tv hk=>g4 tv (hkind▸hk)⟩
   rw [hh]
   exact Cells_row f1 (by rw [f2]; exact g3)
  ·rw [blkOf_kind hkind,nd_blkOf]
   refine ⟨fun b o hb h=>?_,List.nodup_append.2 ⟨P.ftnd,(List.nodup_append.1 hnd12).2.1,fun b h1 c h2 e=>?_⟩⟩
   ·have hbb:=hmine b (.inr (.inr (.inr ⟨o,hb⟩)))
    rcases List.mem_append.1 h with h | h
    ·rcases P.newft b h with h | h | h
     ·exact hnd.1 b o hb ((hfo b).2 (.inl (.inl h)))
     ·exact hbF b hbb h
     ·have:=hblt b hbb; omega
    ·exact hnd.1 b o hb ((hfo b).2 (.inl (.inr h)))
   ·subst e
    have hbb:=hmine b (.inr (.inl h2))
    rcases P.newft b h1 with h | h | h
    ·exact (List.nodup_append.1 hnd12).2.2 b h b h2 rfl
    ·exact hbF b hbb h
    ·have:=hblt b hbb; omega
 ·intro _ q n v hn' hold
  refine ⟨hold.1, ?_⟩
  intro Q hQ hvQ hcl hty hsome
  have hQ':Q=R':=by
   rw [setRoot_same] at hQ
   simpa using hQ.symm
  subst hQ'
  have hwh2:whR (setAsg α r (α.loc r) hdr' (ft++rest)) Q r=whR α R r:=by rw [whR_setAsg,whOf_kind hkind, ←whR_whOf]
  have hhd2:(setAsg α r (α.loc r) hdr' (ft++rest)).hdr r=hdr':=by simp [setAsg,upd_same]
  rw [hwh2,hhd2]
  rw [hRh,clean_append hn'] at hcl
  by_cases hq:q=[]
  ·subst hq
   obtain ⟨_,cs,b,o,h1,h2⟩:=hold.2 R hr.1 hv (by simp [clean,ptrTys,memN]) (fun t ht=>by simp [pathTys] at ht) rfl
   simp only [navF,Option.some.injEq,Prod.mk.injEq] at h1
   exact ⟨trivial,hdr',b,o,by simp only [navF]; rw [h1.2],h2⟩
  ·have hpt:∀k,ptrTys q k=GAPT :: pathTys q k:=by
    intro k
    cases q with
    | nil=>exact absurd rfl hq
    | cons s q=>rfl
   rw [hpt] at hcl
   have hgn:GAPT∉lh:=fun hm=>hcl.1 GAPT hm (by simp)
   obtain ⟨hk,hnk,_⟩:=(hwhole hvQ).2 hgn
   subst hR'
   have hpath:pathTys q R.k=pathTys q z.1∧(getP q R.k R.x).isSome=true:=by
    rcases P.gapt with h | h | h
    ·have hk:=hk h
     obtain ⟨zk,zx⟩:=z
     simp only at hk
     subst hk
     exact ⟨rfl,by rw [getP_isSome q (y:=zx)]; exact hsome⟩
    ·exact swap_path (bad:=lh) p q hg P.hz h hsome (fun e he hm=>hcl.1 e hm (List.mem_cons_of_mem _ he))
    ·exact absurd h hgn
   have hpe:pathTys q (storeRoot R z own' tags' lw lh kp).k=pathTys q R.k:=hpath.1.symm
   rw [hpe] at hcl hty
   have hcl1:∀t∈lh,t∉GAPT :: pathTys q R.k:=hcl.1
   obtain ⟨g1,cs,b,o,g2,g3⟩:=hold.2 R hr.1 hv (by rw [hpt]; exact hcl.2) (fun t ht=>hsub t (hty t ht)) hpath.2
   obtain ⟨f1,c1,f2⟩:=hnk q cs (some (b,o)) g1 (fun t ht=>⟨hty t ht,fun h=>hcl1 t h (List.mem_cons_of_mem _ ht)⟩) g2 hsome
   exact ⟨f1,c1,b,o,f2,g3⟩
 ·intro _ g v hg' hold Q hQ hgQ
  obtain ⟨hQ',_⟩:=liveR_same hQ
  subst hQ'
  obtain ⟨h1,h2⟩:=hold R hr (hRg▸hgQ)
  have hw:whR α R r=none:=by unfold whR; rw [h1]
  have hh:hdr'=α.hdr r:=by simp only [hdr']; rw [hw]
  have hhd2:(setAsg α r (α.loc r) hdr' (ft++rest)).hdr r=hdr':=by simp [setAsg,upd_same]
  rw [hhd2,hh,hkind]
  refine ⟨h1, ?_⟩
  rw [Ez]
  refine (VC_isSt ?_).2 h2
  by_cases hp:p=[]
  ·subst hp
   have hz:=P.hz
   simp only [setP,getP,Option.some.injEq] at hz hg
   subst hz
   rcases P.isst with h | h
   ·rw [h, ←hg]
   ·simp only [navF,Option.some.injEq,Prod.mk.injEq] at hn
    rw [←hn.2,hw] at h
    exact absurd rfl h
  ·exact setP_isSt hp P.hz
end
end Go.Proofs.Ytailcbngagacaaa.Ow

/- The framework, part 13: what programs read. Own work of this seat. -/
namespace Go.Proofs.Ytailcbngagacaaa.Ow
open Go
variable [Fr]
theorem flat_tys:∀{k:K},k.flat=true→k.tys=[]:=by
 intro k
 induction k with
 | sl e k ih=>intro h; simp [K.flat] at h
 | gap n=>intro h; simp [K.flat] at h
 | pair a b iha ihb=>intro h; simp only [K.flat,Bool.and_eq_true] at h; simp [K.tys,iha h.1,ihb h.2]
 | st f ih=>intro h; exact ih h
 | _=>intro _; rfl
theorem vtysK_flat {own:List TypeId} {k:K} (h:k.flat=true):vtysK own k=[]:=by
 cases he:vtysK own k with
 | nil=>rfl
 | cons t l=>
  have:t∈k.tys:=vtysK_tys (own:=own) (by rw [he]; simp)
  rw [flat_tys h] at this
  simp at this
theorem Ow_flat {h h':Heap} {own own':List TypeId} {ok ok':Nat→Prop}:∀{k:K} {x:El k} {cs:List Value} {fo:List Nat},k.flat=true→Ow h own ok k x cs fo→fo=[]∧Ow h' own' ok' k x cs []:=by
 intro k
 induction k with
 | sl e k ih=>intro x cs fo h; simp [K.flat] at h
 | gap n=>intro x cs fo h; simp [K.flat] at h
 | pair a b iha ihb=>
  intro x cs fo h H
  simp only [K.flat,Bool.and_eq_true] at h
  obtain ⟨c1,c2,f1,f2,e,hp,h1,h2⟩:=H
  obtain ⟨g1,k1⟩:=iha h.1 h1
  obtain ⟨g2,k2⟩:=ihb h.2 h2
  subst g1; subst g2
  exact ⟨hp.eq_nil,c1,c2,[],[],e, .refl _,k1,k2⟩
 | st f ih=>intro x cs fo h H; exact ih (x:=x) h H
 | int ik=>intro x cs fo _ H; exact ⟨H.1,rfl,H.2⟩
 | bool=>intro x cs fo _ H; exact ⟨H.1,rfl,H.2⟩
 | id e=>intro x cs fo _ H; exact ⟨H.1,rfl,H.2⟩
 | str=>intro x cs fo _ H; exact ⟨H.1,rfl,H.2⟩
 | unit=>intro x cs fo _ H; exact ⟨H.1,rfl,H.2⟩
theorem inK_rng {ik:IntKind} {n:Int} (h:inK ik n=true):rng ik n:=by
 cases ik <;> simp_all [inK,rng,inK.Int.blt,inK.Int.ble]
theorem tys_beq {a b:K} (h:a.beq b=true):a=b:=K.eq_of_beq h
theorem castK_some {a b:K} {x:El a} {y:El b} (h:castK a b x=some y):∃e:a=b,y=e▸x:=by
 unfold castK at h
 split at h
 ·rename_i hb
  simp only [Option.some.injEq] at h
  exact ⟨K.eq_of_beq hb,h.symm⟩
 ·simp at h
section
variable {A:Type} {cx:Cx} {σ:St} {α:Asg} {F:List Nat} {a:Act} {w:World} {z:A}
theorem chkTags_inv {k:Prog A} {tys:List TypeId}:∀{T:List Tag},(chkTags T tys k).ends σ z→cleanT σ tys T=true∧k.ends σ z:=by
 intro T
 induction T with
 | nil=>intro h; exact ⟨rfl,h⟩
 | cons t T ih=>
  obtain ⟨r,n⟩:=t
  intro h
  simp only [chkTags] at h
  cases he:isExt r with
  | true=>
   rw [he] at h
   obtain ⟨h1,h2⟩:=ih h
   exact ⟨by simp [cleanT,he,h1],h2⟩
  | false=>
   rw [he] at h
   simp only [cond_false,Prog.ends] at h
   cases hr:σ.roots r with
   | none=>rw [hr] at h; exact h.elim
   | some R=>
    rw [hr] at h
    simp only at h
    cases hc:(!R.isDead && clean R.w n tys) with
    | false=>rw [hc] at h; exact h.elim
    | true=>
     rw [hc] at h
     obtain ⟨h1,h2⟩:=ih h
     exact ⟨by simp only [cleanT,he,hr,cond_false]; rw [hc,h1]; rfl,h2⟩
theorem useR_inv {r:Nat} {k:Root→Prog A} (h:(useR r k).ends σ z):∃R,liveR σ r R∧validR σ R∧(k R).ends σ z:=by
 unfold useR at h
 simp only [Prog.ends] at h
 cases hr:σ.roots r with
 | none=>rw [hr] at h; exact h.elim
 | some R=>
  rw [hr] at h
  simp only at h
  cases hd:R.isDead with
  | true=>rw [hd] at h; exact h.elim
  | false=>
   rw [hd] at h
   obtain ⟨h1,h2⟩:=chkTags_inv h
   exact ⟨R,⟨hr,hd⟩,⟨hd,h1⟩,h2⟩
theorem litO_ok (v:Value):AVok cx σ α F w (litO v) v∧avW σ (litO v):=by
 unfold litO
 split
 ·rename_i k n
  cases h:inK k n with
  | true=>exact ⟨fun _=>⟨[.int k n],⟨rfl,by simp⟩,rfl,inK_rng h⟩,fun t ht=>by simp at ht⟩
  | false=>exact ⟨trivial,trivial⟩
 ·exact ⟨fun _=>⟨_,⟨rfl,by simp⟩,rfl⟩,fun t ht=>by simp at ht⟩
 ·rename_i s
  exact ⟨fun _=>⟨_,⟨rfl,by simp⟩,s,rfl,rfl⟩,fun t ht=>by simp at ht⟩
 ·exact ⟨⟨none,rfl⟩,trivial⟩
 ·exact ⟨rfl,trivial⟩
 ·exact ⟨trivial,trivial⟩
theorem evalO1_inv (H:Rel cx σ α F a w) {x:Operand} {k:AV1→Prog A} (h:(evalO1 x k).ends σ z):∃v1,AV1ok cx σ α F w v1 (a.eval x)∧av1W σ v1∧(k v1).ends σ z:=by
 cases x with
 | tmp t=>exact ⟨σ.slots t,H.slots t,H.wslots t,h⟩
 | const v=>obtain ⟨h1,h2⟩:=litO_ok (cx:=cx) (σ:=σ) (α:=α) (F:=F) (w:=w) v; exact ⟨.one (litO v),h1,h2,h⟩
 | func f=>exact ⟨.one (.fn f []),⟨[],rfl,trivial⟩,fun c hc=>by simp at hc,h⟩
 | global g=>exact h.elim
theorem evalO_inv (H:Rel cx σ α F a w) {x:Operand} {k:AV→Prog A} (h:(evalO x k).ends σ z):∃v1,AVok cx σ α F w v1 (a.eval x)∧avW σ v1∧(k v1).ends σ z:=by
 obtain ⟨v1,h1,h2,h3⟩:=evalO1_inv H h
 cases v1 with
 | one v=>exact ⟨v,h1,h2,h3⟩
 | tup l=>exact h3.elim
def evs (a:Act) (l:List (Nat×Operand)):List (Nat×Value):=l.map fun p=>(p.1,a.eval p.2)
theorem evalL_inv (H:Rel cx σ α F a w):∀{l:List (Nat×Operand)} {k:List (Nat×AV)→Prog A},(evalL l k).ends σ z→
  ∃vs:List (Nat×AV),vs.map (·.1)=l.map (·.1)∧listOk cx σ α F w (vs.map (·.2)) ((evs a l).map (·.2))∧(∀v∈vs,avW σ v.2)∧(k vs).ends σ z:=by
 intro l
 induction l with
 | nil=>intro k h; exact ⟨[],rfl,trivial,by simp,h⟩
 | cons p l ih=>
  obtain ⟨n,x⟩:=p
  intro k h
  simp only [evalL] at h
  obtain ⟨v,h1,h2,h3⟩:=evalO_inv H h
  obtain ⟨vs,g1,g2,g3,g4⟩:=ih h3
  exact ⟨(n,v) :: vs,by simp [g1],⟨h1,g2⟩,by simpa using ⟨h2,fun a b hb=>g3 (a,b) hb⟩,g4⟩
theorem evalAll_inv (H:Rel cx σ α F a w):∀{l:List Operand} {k:List AV→Prog A},(evalAll l k).ends σ z→
  ∃vs:List AV,listOk cx σ α F w vs (l.map a.eval)∧(∀v∈vs,avW σ v)∧(k vs).ends σ z:=by
 intro l
 induction l with
 | nil=>intro k h; exact ⟨[],trivial,by simp,h⟩
 | cons x l ih=>
  intro k h
  simp only [evalAll] at h
  obtain ⟨v,h1,h2,h3⟩:=evalO_inv H h
  obtain ⟨vs,g2,g3,g4⟩:=ih h3
  exact ⟨v :: vs,⟨h1,g2⟩,by simpa using ⟨h2,g3⟩,g4⟩
theorem val_flat {k:K} {x:El k} {T:List Tag} {v:Value} (hf:k.flat=true) (h:AVok cx σ α F w (.val k x T) v):∃cs,VC k v cs∧∀h' ok',Vw h' ok' k x cs:=by
 obtain ⟨cs,h1,h2⟩:=h (.inl hf)
 exact ⟨cs,h1,fun h' ok'=>Vw_flat hf h2⟩
theorem val_int {ik:IntKind} {n:Int} {T:List Tag} {v:Value} (h:AVok cx σ α F w (.val (.int ik) n T) v):v=.int ik n∧rng ik n:=by
 obtain ⟨cs,h1,h2,h3⟩:=h (.inl rfl)
 obtain ⟨h5,_⟩:cs=[v]∧_:=h1
 rw [h5] at h2
 simp only [List.cons.injEq,and_true] at h2
 exact ⟨h2,h3⟩
theorem val_bool {b:Bool} {T:List Tag} {v:Value} (h:AVok cx σ α F w (.val .bool b T) v):v=.bool b:=by
 obtain ⟨cs,h1,h2⟩:=h (.inl rfl)
 obtain ⟨h5,_⟩:cs=[v]∧_:=h1
 have h2':cs=[.bool b]:=h2
 rw [h5] at h2'
 simpa using h2'
theorem val_str {s:List Int} {T:List Tag} {v:Value} (h:AVok cx σ α F w (.val .str s T) v):∃B:ByteArray,v=.string B∧s=bytesOf B:=by
 obtain ⟨cs,h1,B,h2,h3⟩:=h (.inl rfl)
 obtain ⟨h5,_⟩:cs=[v]∧_:=h1
 rw [h5] at h2
 simp only [List.cons.injEq,and_true] at h2
 exact ⟨B,h2,h3⟩
theorem mk_int {ik:IntKind} {n:Int} {T:List Tag} (h:rng ik n):AVok cx σ α F w (.val (.int ik) n T) (.int ik n):=fun _=>⟨[.int ik n],⟨rfl,by simp⟩,rfl,h⟩
theorem mk_bool {b:Bool} {T:List Tag}:AVok cx σ α F w (.val .bool b T) (.bool b):=fun _=>⟨[.bool b],⟨rfl,by simp⟩,rfl⟩
theorem mk_str {B:ByteArray} {T:List Tag}:AVok cx σ α F w (.val .str (bytesOf B) T) (.string B):=fun _=>⟨[.string B],⟨rfl,by simp⟩,B,rfl,rfl⟩
theorem asInt_inv {x:AV} {v:Value} {k:IntKind→Int→Prog A} (hx:AVok cx σ α F w x v) (h:(asInt x k).ends σ z):∃ik n,v=.int ik n∧rng ik n∧(k ik n).ends σ z:=by
 unfold asInt at h
 split at h
 ·rename_i ik n T
  obtain ⟨h1,h2⟩:=val_int hx
  exact ⟨ik,n,h1,h2,h⟩
 ·exact h.elim
theorem asBool_inv {x:AV} {v:Value} {k:Bool→Prog A} (hx:AVok cx σ α F w x v) (h:(asBool x k).ends σ z):∃b,v=.bool b∧(k b).ends σ z:=by
 unfold asBool at h
 split at h
 ·rename_i b T
  exact ⟨b,val_bool hx,h⟩
 ·exact h.elim
theorem okT.q {T:List Tag} {b:Nat} (h:okT cx σ α F w T b):okQ σ α F w T b:=⟨h.1,h.2.1,h.2.2.2.1⟩
theorem okQ_tags {T T':List Tag} {b:Nat} (h:okQ σ α F w T b) (hs:∀t∈T,t∈T'):okQ σ α F w T' b:=
 ⟨h.1,h.2.1,fun r R h1 h2=>by obtain ⟨n,hn⟩:=h.2.2 r R h1 h2; exact ⟨n,hs _ hn⟩⟩
variable {r:Nat} {R:Root}
theorem out_ok (H:Rel cx σ α F a w) (hr:liveR σ r R) {k:K} (hk:k.flat=false) {b:Nat} (hb:b∈α.fo r):okT cx σ α F w (R.out r k) b:=by
 have hbb:b∈blk α R r:=List.mem_append_right _ hb
 have hm:=(H.roots r R hr).mine b hbb
 refine ⟨hm.1,H.fdis r R hr b hbb,fo_notBase H hr hb,fun q Q hq hbq=>?_,fun h0=>?_⟩
 ·by_cases e:q=r
  ·subst e
   exact ⟨lenN R.w,by simp [Root.out,hk]⟩
  ·exact absurd hbb (H.dis q Q r R hq hr e b hbq)
 ·rcases hm.2 with h | ⟨j,pi,h1,h2⟩
  ·omega
  ·exact .inr ⟨j,pi,h1,h2⟩
theorem out_sub {k:K} (hk:k.flat=false):∀t∈R.tags,t∈R.out r k:=fun t ht=>by simp [Root.out,hk,ht]
theorem out_W (H:Rel cx σ α F a w) (hr:liveR σ r R) (k:K):tagsW σ (R.out r k):=by
 intro t ht
 unfold Root.out at ht
 cases hk:k.flat with
 | true=>rw [hk] at ht; simp at ht
 | false=>
  rw [hk] at ht
  simp only [cond_false,List.mem_cons] at ht
  rcases ht with h | h
  ·subst h; exact .inr ⟨R,hr.1, .inr (Nat.le_refl _)⟩
  ·exact (H.wroots r R hr.1).1 t h
theorem out_view (H:Rel cx σ α F a w) (hr:liveR σ r R) {k:K} {x:El k} {cs:List Value} {fo1:List Nat} (hO:Ow (hp w) R.own (okT cx σ α F w R.tags) k x cs fo1) (hf:∀b∈fo1,b∈α.fo r) :
  Vw (hp w) (okT cx σ α F w (R.out r k)) k x cs:=by
 cases hk:k.flat with
 | true=>exact Vw_flat hk (Ow_view (fun _=>True) (fun _ _=>trivial) (fun _ _=>trivial) hO)
 | false=>exact Ow_view _ (fun b hb=>okT_tags hb (out_sub hk)) (fun b hb=>out_ok H hr hk (hf b hb)) hO
theorem placeOw (H:Rel cx σ α F a w) (hr:liveR σ r R) (hv:validR σ R) {p:List Stp} {d:Dat} (hg:getP p R.k R.x=some d) (hpin:PIn p R.k R.x) (hown:∀t∈pathTys p R.k,memN t R.own=true)
  {cs1:List Value} {wh':Option (Nat×Nat)} (hn:navF (hp w) p R.k (α.hdr r) (whR α R r)=some (cs1,wh')) :
  ∃fo1,Ow (hp w) R.own (okT cx σ α F w R.tags) d.1 d.2 cs1 fo1∧∀b∈fo1,b∈α.fo r:=by
 have K:=H.roots r R hr
 have hnd:=K.nd
 rw [blk_blkOf,nd_blkOf] at hnd
 obtain ⟨cs1',fo1,rest,wh2,hn',hp1,hd1,hc1,hin,hnone,hup⟩:=focus p (K.ow hv) (fun b o e=>(K.mem b o e).1) hg hpin hown hnd.2 (fun b o e=>hnd.1 b o e)
 rw [hn] at hn'
 simp only [Option.some.injEq,Prod.mk.injEq] at hn'
 obtain ⟨rfl,rfl⟩:=hn'
 exact ⟨fo1,hd1,fun b hb=>hp1.mem_iff.2 (List.mem_append_left _ hb)⟩
theorem memN_all {T:List Nat} {own:List Nat} (h:(T.all fun t=>memN t own)=true):∀t∈T,memN t own=true:=fun t ht=>List.all_eq_true.1 h t ht
theorem asVal_inv (H:Rel cx σ α F a w) {x:AV} {v:Value} {k:(kk:K)→El kk→List Tag→Prog A} (hx:AVok cx σ α F w x v) (hw:avW σ x) (h:(asVal x k).ends σ z) :
  ∃kk y T cs,VC kk v cs∧Vw (hp w) (okT cx σ α F w T) kk y cs∧tagsW σ T∧(k kk y T).ends σ z:=by
 cases x with
 | val kk y T=>
  obtain ⟨h1,h2⟩:=chkTags_inv h
  obtain ⟨cs,h3,h4⟩:=hx (.inr h1)
  exact ⟨kk,y,T,cs,h3,h4,hw,h2⟩
 | ref r g=>
  obtain ⟨R,hr,hv,h⟩:=useR_inv h
  cases hg:Nat.beq R.g g with
  | false=>simp only [hg,cond_false] at h; exact h.elim
  | true=>
   simp only [hg,cond_true] at h
   obtain ⟨h1,h2⟩:=hx R hr (Nat.eq_of_beq_eq_true hg)
   exact ⟨R.k,R.x,R.out r R.k,α.hdr r,h2,out_view H hr ((H.roots r R hr).ow hv) (fun _ h=>h),out_W H hr _,h⟩
 | bor r p n=>
  obtain ⟨R,hr,hv,h⟩:=useR_inv h
  cases hg:Nat.beq R.ver n with
  | false=>simp only [hg,cond_false] at h; exact h.elim
  | true=>
   simp only [hg,cond_true] at h
   cases hgp:getP p R.k R.x with
   | none=>rw [hgp] at h; exact h.elim
   | some d=>
    rw [hgp] at h
    obtain ⟨h1,h2,cs,wh,h3,h4⟩:=hx R hr.1 hv (Nat.eq_of_beq_eq_true hg) d hgp
    obtain ⟨fo1,h5,h6⟩:=placeOw H hr hv hgp h1 h2 h3
    exact ⟨d.1,d.2,R.out r d.1,cs,h4,out_view H hr h5 h6,out_W H hr _,h⟩
 | undef=>exact h.elim
 | nils=>exact h.elim
 | ptr r p n=>exact h.elim
 | rptr bt kk y T=>exact h.elim
 | cpy _ _ _ _=>exact h.elim
 | nilq _=>exact h.elim
 | part _ _ _ _ _=>exact h.elim
 | pcut _ _ _ _=>exact h.elim
 | app _ _ _ _=>exact h.elim
 | nilp=>exact h.elim
 | fn f cs=>exact h.elim
theorem addrOf_inv (H:Rel cx σ α F a w) {x:AV} {v:Value} {rd:Root→Nat→List Stp→Dat→Prog A} {ro:TypeId→Dat→List Tag→Prog A} (hx:AVok cx σ α F w x v) (hw:avW σ x) (h:(addrOf x rd ro).ends σ z) :
  (∃r R p d cs b o,liveR σ r R∧validR σ R∧getP p R.k R.x=some d∧PIn p R.k R.x∧(∀t∈pathTys p R.k,memN t R.own=true)∧navF (hp w) p R.k (α.hdr r) (whR α R r)=some (cs,some (b,o))∧v=.pointer (some ⟨b,o,none⟩)∧(rd R r p d).ends σ z)∨
  (∃bt d T b o cs,tagsW σ T∧v=.pointer (some ⟨b,o,none⟩)∧Cells (hp w) b o cs∧Vw (hp w) (okT cx σ α F w T) d.1 d.2 cs∧okQ σ α F w T b∧((bt=SENT∧∀t∈T,isExt t.1=true)∨(elIs (hp w) b bt∧¬isBase cx b))∧(ro bt d T).ends σ z):=by
 cases x with
 | ptr r p n=>
  obtain ⟨R,hr,hv,h⟩:=useR_inv h
  cases hc:(clean R.h n (ptrTys p R.k) && ownPath p R) with
  | false=>rw [hc] at h; exact h.elim
  | true=>
   rw [hc] at h
   simp only [cond_true] at h
   simp only [Bool.and_eq_true] at hc
   cases hgp:getP p R.k R.x with
   | none=>rw [hgp] at h; exact h.elim
   | some d=>
    rw [hgp] at h
    have hown:=memN_all hc.2
    obtain ⟨h1,cs,b,o,h2,h3⟩:=hx.2 R hr.1 hv hc.1 hown (by rw [hgp]; rfl)
    exact .inl ⟨r,R,p,d,cs,b,o,hr,hv,hgp,h1,hown,h2,h3,h⟩
 | rptr bt k y T=>
  obtain ⟨h1,h2⟩:=chkTags_inv h
  obtain ⟨b,o,cs,e,hcs,hV,hok,hb⟩:=hx.2 h1
  exact .inr ⟨bt,⟨k,y⟩,T,b,o,cs,hw,e,hcs,hV,hok,hb,h2⟩
 | undef=>exact h.elim
 | nils=>exact h.elim
 | ref r g=>exact h.elim
 | bor r p n=>exact h.elim
 | val kk y T=>exact h.elim
 | cpy _ _ _ _=>exact h.elim
 | nilq _=>exact h.elim
 | part _ _ _ _ _=>exact h.elim
 | pcut _ _ _ _=>exact h.elim
 | app _ _ _ _=>exact h.elim
 | nilp=>exact h.elim
 | fn f cs=>exact h.elim
end
end Go.Proofs.Ytailcbngagacaaa.Ow

/- The framework, part 14: what is handed away. Own work of this seat. -/
namespace Go.Proofs.Ytailcbngagacaaa.Ow
open Go
variable [Fr]
theorem appAll_append (a b:List Wr):∀σ,appAll (a++b) σ=appAll b (appAll a σ):=by
 induction a with
 | nil=>intro σ; rfl
 | cons w a ih=>intro σ; exact ih _
theorem app_root (σ:St) (r:Nat) (R:Root):(Wr.r r (some R)).app σ=setRoot σ r R:=rfl
theorem app_dead (σ:St) (r:Nat):(Wr.r r none).app σ=setRoot σ r deadRoot:=rfl
theorem app_slot (σ:St) (d:Nat) (x:AV1):(Wr.s d x).app σ=withSlots σ (upd σ.slots d x):=rfl
theorem vtysK_filter {own:List TypeId} {k:K}:∀(k0:K),(∀t∈k.tys,t∈k0.tys)→vtysK (k0.tys.filter fun t=>memN t own) k=vtysK own k:=by
 intro k0
 have key:∀t∈k0.tys,memN t (k0.tys.filter fun t=>memN t own)=memN t own:=by
  intro t ht
  cases h:memN t own with
  | true=>rw [memN_iff,List.mem_filter]; exact ⟨ht,h⟩
  | false=>
   rw [memN_false,List.mem_filter]
   rintro ⟨_,h2⟩
   rw [h] at h2
   simp at h2
 induction k with
 | sl e k ih=>
  intro h
  simp only [vtysK]
  rw [key e (h e (by simp [K.tys])),ih (fun t ht=>h t (by simp [K.tys,ht]))]
 | pair a b iha ihb=>intro h; simp only [vtysK]; rw [iha (fun t ht=>h t (by simp [K.tys,ht])),ihb (fun t ht=>h t (by simp [K.tys,ht]))]
 | st f ih=>intro h; exact ih h
 | _=>intro _; rfl
theorem memN_filter {own:List TypeId} {k:K}:∀t∈k.tys,memN t (k.tys.filter fun t=>memN t own)=memN t own:=by
 intro t ht
 cases h:memN t own with
 | true=>rw [memN_iff,List.mem_filter]; exact ⟨ht,h⟩
 | false=>
  rw [memN_false,List.mem_filter]
  rintro ⟨_,h2⟩
  rw [h] at h2
  simp at h2
theorem chGet_vtys {own:List TypeId}:∀(n:Nat) {c:K} {x:El c} {s:Dat},chGet n c x=some s→∀t∈vtysK own s.1,t∈vtysK own c:=by
 intro n
 induction n with
 | zero=>
  intro c x s h t ht
  cases c with
  | pair a b=>simp only [chGet,Option.some.injEq] at h; subst h; simp [vtysK,ht]
  | _=>simp [chGet] at h
 | succ n ih=>
  intro c x s h t ht
  cases c with
  | pair a b=>simp only [chGet] at h; simp [vtysK,ih h t ht]
  | _=>simp [chGet] at h
theorem vtysK_place {own:List TypeId}:∀(p:List Stp) {k:K} {x:El k} {d:Dat},getP p k x=some d→(∀t∈pathTys p k,memN t own=true)→∀t∈vtysK own d.1,t∈vtysK own k:=by
 intro p
 induction p with
 | nil=>intro k x d h _; simp only [getP,Option.some.injEq] at h; subst h; exact fun _ h=>h
 | cons s p ih=>
  intro k x d h ht
  cases s with
  | fld n=>
   cases k with
   | st c=>
    simp only [getP] at h
    cases hg:chGet n c x with
    | none=>rw [hg] at h; simp at h
    | some s=>
     rw [hg] at h
     simp only at h
     have hpt:pathTys (.fld n :: p) (.st c)=pathTys p s.1:=by simp [pathTys,chK_of_get n hg]
     rw [hpt] at ht
     exact fun t h2=>chGet_vtys n (c:=c) hg t (ih h ht t h2)
   | _=>simp [getP] at h
  | idx i=>
   cases k with
   | sl e k=>
    simp only [getP] at h
    intro t h2
    have:=ih h (fun t h=>ht t (by simp [pathTys,h])) t h2
    simp only [vtysK,ht e (by simp [pathTys]),cond_true]
    exact this
   | _=>simp [getP] at h
section
variable {cx:Cx} {σ:St} {α:Asg} {F:List Nat} {a:Act} {w:World}
theorem cond_ends {b:Bool} {A:Type} {x y:Prog A} {σ:St} {z:A} (h:(bif b then x else y).ends σ z):(b=true∧x.ends σ z)∨(b=false∧y.ends σ z):=by
 cases b with
 | true=>exact .inl ⟨rfl,h⟩
 | false=>exact .inr ⟨rfl,h⟩
theorem Ow_flat_fo {h:Heap} {own:List TypeId} {ok:Nat→Prop}:∀{k:K} {x:El k} {cs:List Value} {fo:List Nat},k.flat=true→Ow h own ok k x cs fo→fo=[]:=by
 intro k
 induction k with
 | sl e k ih=>intro x cs fo h; simp [K.flat] at h
 | gap n=>intro x cs fo h; simp [K.flat] at h
 | pair a b iha ihb=>
  intro x cs fo h H
  simp only [K.flat,Bool.and_eq_true] at h
  obtain ⟨c1,c2,f1,f2,e,hp,h1,h2⟩:=H
  rw [iha h.1 h1,ihb h.2 h2] at hp
  exact hp.eq_nil
 | st f ih=>intro x cs fo h H; exact ih (x:=x) h H
 | _=>intro x cs fo _ H; exact H.1
theorem Ow_take {h:Heap} {own:List TypeId} {ok:Nat→Prop} {e:TypeId} {kk:K} {xs:List (El kk)} {b b':Option Addr} {n c hi:Nat} {fo:List Nat} (hf:kk.flat=true) (he:memN e own=true) (hn:hi≤n) (hb':b'=b)
  (H:Ow h own ok (.sl e kk) xs [.slice b n c] fo):Ow h own ok (.sl e kk) (show List (El kk) from xs.take hi) [.slice b' hi c] fo:=by
 unfold Ow at H ⊢
 rw [if_pos he] at H ⊢
 obtain ⟨a,n',c',e1,e2,e3,H⟩:=H
 simp only [List.cons.injEq,Value.slice.injEq,and_true] at e1
 obtain ⟨rfl,rfl,rfl⟩:=e1
 have hlen:(xs.take hi).length=hi:=by
  have:n=xs.length:=e2
  simp; omega
 refine ⟨b,hi,c,by rw [hb'],hlen.symm,by omega, ?_⟩
 rcases H with H | ⟨bb,o,arr,l,u,ea,hb,hfr,hs,fos,hl,hp,H⟩
 ·exact .inl H
 ·have h0:∀l∈fos,l=[]:=by
   intro l hl'
   obtain ⟨i,hi',rfl⟩:=List.mem_iff_getElem.1 hl'
   have hl:fos.length=xs.length:=hl
   obtain ⟨ds,_,h2⟩:=H i (by show i<xs.length; omega)
   have:=Ow_flat_fo hf h2
   rw [←this]; simp [List.getD_eq_getElem?_getD,hi']
  have hfl:fos.flatten=[]:=List.flatten_eq_nil_iff.2 h0
  have hfl2:(fos.take hi).flatten=[]:=List.flatten_eq_nil_iff.2 fun l hl'=>h0 l (List.mem_of_mem_take hl')
  refine .inr ⟨bb,o,arr,l,u,ea,hb,hfr,hs,fos.take hi,by show (fos.take hi).length=(xs.take hi).length; simp only [List.length_take]; rw [show fos.length=xs.length from hl],by rw [hfl2, ←hfl]; exact hp,fun i hi'=>?_⟩
  have hi2:i<(xs.take hi).length:=hi'
  have hi3:i<hi∧i<xs.length:=by simp at hi2; omega
  obtain ⟨ds,h1,h2⟩:=H i hi3.2
  refine ⟨ds,h1, ?_⟩
  have e1:(show List (El kk) from xs.take hi)[i]'hi'=xs[i]'hi3.2:=by
   show (xs.take hi)[i]=_
   simp
  have e2:(fos.take hi).getD i []=fos.getD i []:=by simp [List.getD_eq_getElem?_getD,List.getElem?_take,hi3.1]
  rw [e1,e2]
  exact h2
inductive TakeI (cx:Cx) (σ:St) (α:Asg) (F:List Nat) (w:World) (v:Value) (tk:Took):Prop
 | held (hws:tk.ws=[]) (cs:List Value) (hv:VC tk.k v cs) (h:Held cx σ α F w tk.k tk.x tk.own tk.tags cs []) (hc:cleanT σ (vtysK tk.own tk.k) tk.tags=true)
 | ref (r:Nat) (R:Root) (hr:liveR σ r R) (hv:validR σ R) (e:tk=⟨R.k,R.x,R.own,R.tags,[.r r none],R.keep⟩) (hk:R.kind=.anon) (hd:VC R.k v (α.hdr r))
 | gap (r:Nat) (R:Root) (p:List Stp) (d z:Dat) (hr:liveR σ r R) (hv:validR σ R) (hg:getP p R.k R.x=some d) (hz:setP p R.k R.x (holeD d)=some z) (hpin:PIn p R.k R.x)
   (hown:∀t∈pathTys p R.k,memN t R.own=true) (hpv:p≠[]∨∃t,R.kind=.var t) (e:tk=⟨d.1,d.2,d.1.tys.filter (fun t=>memN t R.own),R.tags,[.r r (some (gapRoot R d z))],R.keep⟩)
   (hn:∃cs wh,navF (hp w) p R.k (α.hdr r) (whR α R r)=some (cs,wh)∧VC d.1 v cs)
 | cut (r:Nat) (R:Root) (cs:List Value) (hr:liveR σ r R) (hv:validR σ R) (hk:R.kind=.anon) (e:tk.own=R.own∧tk.tags=R.tags∧tk.ws=[.r r none]∧tk.keep=R.keep) (hd:VC tk.k v cs) (hl:cs.length=tk.k.size)
   (hvt:vtysK R.own tk.k=vtysK R.own R.k) (how:∀ok,Ow (hp w) R.own ok R.k R.x (α.hdr r) (α.fo r)→Ow (hp w) R.own ok tk.k tk.x cs (α.fo r))
theorem slice_VC {e:TypeId} {k:K} {c:Option Addr}:VC (.sl e k) (.slice c 0 0) [.slice c 0 0]:=⟨rfl,by simp⟩
theorem takeV_inv {A:Type} {z:A} (H:Rel cx σ α F a w) {want:K} {x:AV} {v:Value} {k:Took→Prog A} (hx:AVok cx σ α F w x v) (hw:avW σ x) (h:(takeV want x k).ends σ z) :
  ∃tk,TakeI cx σ α F w v tk∧(k tk).ends σ z:=by
 cases x with
 | val kk y T=>
  obtain ⟨h1,h2⟩:=chkTags_inv h
  obtain ⟨cs,h3,h4⟩:=hx (.inr h1)
  have hty:∀t∈vtysK [] kk,t∈kk.tys:=fun t ht=>vtysK_tys ht
  exact ⟨⟨kk,y,[],T,[],false⟩, .held rfl cs h3 ⟨fun _=>Ow_of_view (fun t _=>rfl) h4,hw,fun b hb=>by simp at hb,List.nodup_nil,Vw_len h4⟩ (cleanT_sub h1 (fun _ h=>h) hty),h2⟩
 | nils=>
  obtain ⟨c,rfl⟩:=hx
  unfold takeV at h
  cases want with
  | sl e kk=>
   refine ⟨_, .held rfl [.slice c 0 0] slice_VC ⟨fun _=>?_,fun t ht=>by simp at ht,fun b hb=>by simp at hb,List.nodup_nil,rfl⟩ rfl,h⟩
   unfold Ow
   rw [if_pos (by simp [memN])]
   exact ⟨c,0,0,rfl,rfl,Nat.le_refl _, .inl ⟨rfl,rfl⟩⟩
  | _=>exact h.elim
 | ref r g=>
  obtain ⟨R,hr,hv,h⟩:=useR_inv h
  cases hg:(Nat.beq R.g g && !R.fixed) with
  | false=>simp only [hg,cond_false] at h; exact h.elim
  | true=>
   simp only [hg,cond_true] at h
   simp only [Bool.and_eq_true] at hg
   obtain ⟨h1,h2⟩:=hx R hr (Nat.eq_of_beq_eq_true hg.1)
   exact ⟨_, .ref r R hr hv rfl h1 h2,h⟩
 | bor r p n=>
  obtain ⟨R,hr,hv,h⟩:=useR_inv h
  cases hg:Nat.beq R.ver n with
  | false=>simp only [hg,cond_false] at h; exact h.elim
  | true=>
   simp only [hg,cond_true] at h
   cases hgp:getP p R.k R.x with
   | none=>rw [hgp] at h; exact h.elim
   | some d=>
    rw [hgp] at h
    obtain ⟨h1,h2,cs,wh,h3,h4⟩:=hx R hr.1 hv (Nat.eq_of_beq_eq_true hg) d hgp
    cases hc:(p.all Stp.isFld && !R.fixed && (!p.isEmpty || R.isVar)) with
    | true=>
     simp only [hc,cond_true] at h
     cases hga:gapAt R p d with
     | none=>rw [hga] at h; exact h.elim
     | some R'=>
      rw [hga] at h
      unfold gapAt at hga
      cases hz:setP p R.k R.x (holeD d) with
      | none=>rw [hz] at hga; simp at hga
      | some zz=>
       rw [hz] at hga
       simp only [Option.some.injEq] at hga
       subst hga
       simp only [Bool.and_eq_true,Bool.or_eq_true] at hc
       refine ⟨_, .gap r R p d zz hr hv hgp hz h1 h2 ?_ rfl ⟨cs,wh,h3,h4⟩,h⟩
       rcases hc.2 with h | h
       ·left; intro e; subst e; simp at h
       ·right
        unfold Root.isVar at h
        cases hk:R.kind with
        | var t=>exact ⟨t,rfl⟩
        | anon=>rw [hk] at h; simp at h
        | par=>rw [hk] at h; simp at h
        | dead=>rw [hk] at h; simp at h
    | false=>
     simp only [hc,cond_false] at h
     obtain ⟨fo1,h5,h6⟩:=placeOw H hr hv hgp h1 h2 h3
     have hV:=out_view H hr h5 h6
     obtain ⟨hc1,h⟩:=chkTags_inv h
     exact ⟨⟨d.1,d.2,[],R.out r d.1,[],false⟩, .held rfl cs h4 ⟨fun _=>Ow_of_view (fun t _=>rfl) hV,out_W H hr _,fun b hb=>by simp at hb,List.nodup_nil,Vw_len hV⟩ (cleanT_sub hc1 (fun _ h=>h) (fun t ht=>vtysK_tys ht)),h⟩
 | undef=>exact h.elim
 | ptr r p n=>exact h.elim
 | rptr bt kk y T=>exact h.elim
 | cpy _ _ _ _=>exact h.elim
 | nilq _=>exact h.elim
 | part r g lo hi sz=>
  obtain ⟨R,hr,hv,h⟩:=useR_inv h
  rcases cond_ends h with ⟨hg,h5⟩ | ⟨_,h5⟩
  ·clear h
   simp only [Bool.and_eq_true] at hg
   obtain ⟨b',b,n,c,e1,eb,e2,e3,e4,hrf⟩:=hx
   obtain ⟨h1,h2⟩:=hrf R hr (Nat.eq_of_beq_eq_true hg.1.1)
   have hlo:lo=0:=Nat.eq_of_beq_eq_true hg.2
   subst hlo
   have hK:∀q:Dat,(⟨R.k,R.x⟩:Dat)=q→(match q.1,q.2 with
     | .sl e kk,xs=>bif kk.flat && memN e R.own && Nat.beq kk.size sz then k ⟨.sl e kk,(show List (El kk) from xs).take hi,R.own,R.tags,[.r r none],R.keep⟩ else .fail
     | _,_=>Prog.fail).ends σ z→∃tk,TakeI cx σ α F w v tk∧(k tk).ends σ z:=by
    intro q hq hh0
    obtain ⟨qk,qx⟩:=q
    cases qk with
    | sl e kk=>
     simp only at hh0
     rcases cond_ends hh0 with ⟨hc,hh⟩ | ⟨_,hh⟩
     ·clear hh0
      simp only [Bool.and_eq_true] at hc
      have hsz:kk.size=sz:=Nat.eq_of_beq_eq_true hc.2
      subst hsz
      have hVk:VC (.sl e kk) (.slice b n c) (α.hdr r):=by
       have:=congrArg (fun q:Dat=>VC q.1 (.slice b n c) (α.hdr r)) hq
       exact cast this h2
      have hb0:b'=b:=by
       rw [eb (.inl rfl)]
       cases b with
       | none=>rfl
       | some ad=>obtain ⟨x,y,z⟩:=ad; simp [Addr.add]
      refine ⟨⟨.sl e kk,(show List (El kk) from qx).take hi,R.own,R.tags,[.r r none],R.keep⟩, .cut r R [.slice b' hi c] hr hv h1 ⟨rfl,rfl,rfl,rfl⟩ ⟨by rw [e1]; simp,by rw [e1]; simp⟩ rfl ?_ (fun ok hO=>?_),hh⟩
      ·exact congrArg (fun q:Dat=>vtysK R.own q.1) hq.symm
      ·have hO:=cast (congrArg (fun q:Dat=>Ow (hp w) R.own ok q.1 q.2 (α.hdr r) (α.fo r)) hq) hO
       simp only at hO
       rw [hVk.1] at hO
       exact Ow_take hc.1.1 hc.1.2 e3 hb0 hO
     ·exact hh.elim
    | _=>exact hh0.elim
   exact hK _ rfl h5
  ·exact h5.elim
 | pcut _ _ _ _=>exact h.elim
 | app _ _ _ _=>exact h.elim
 | nilp=>exact h.elim
 | fn f cs=>exact h.elim
def HeldAll (cx:Cx) (σ:St) (α:Asg) (F:List Nat) (w:World):List (Value×Took)→List (List Value×List Nat)→Prop
 | [],[]=>True
 | it :: l,h :: hs=>(VC it.2.k it.1 h.1∧Held cx σ α F w it.2.k it.2.x it.2.own it.2.tags h.1 h.2∧cleanT σ (vtysK it.2.own it.2.k) it.2.tags=true)∧HeldAll cx σ α F w l hs
 | _,_=>False
def tws (l:List (Value×Took)):List Wr:=l.flatMap fun it=>it.2.ws
def ttags (l:List (Value×Took)):List Tag:=l.flatMap fun it=>it.2.tags
theorem rid_append (a b:List Wr):(a++b).flatMap Wr.rid=a.flatMap Wr.rid++b.flatMap Wr.rid:=List.flatMap_append
theorem take1 (H:Rel cx σ α F a w) {v:Value} {tk:Took} (h:TakeI cx σ α F w v tk) :
  ∃α' F' cs fo lw lh,Rel cx (appAll tk.ws σ) α' F' a w∧Turn cx σ α F w (appAll tk.ws σ) α' F' w lw lh∧VC tk.k v cs∧Held cx (appAll tk.ws σ) α' F' w tk.k tk.x tk.own tk.tags cs fo∧
   cleanT (appAll tk.ws σ) (vtysK tk.own tk.k) tk.tags=true∧(∀b∈F,b∈F')∧(∀b∈fo,b∉F)∧(∀q,q∉tk.ws.flatMap Wr.rid→Same σ α (appAll tk.ws σ) α' q):=by
 cases h with
 | held hws cs hv hh hc=>
  rw [hws]
  exact ⟨α,F,cs,[],_,_,H,memTurn H ⟨rfl,rfl,rfl⟩ (Nat.le_refl _) (fun _ _ h=>absurd rfl h) (fun b hb=>.inl hb) H.fnd,hv,hh,hc,fun _ h=>h,fun b hb=>by simp at hb,fun q _=>Same_refl ..⟩
 | ref r R hr hv e hk hd=>
  subst e
  obtain ⟨h1,h2,h3,h4⟩:=kill H hr hk hv
  refine ⟨_,_,α.hdr r,α.fo r,_,_,h1,h2,hd,h3,h4,fun b hb=>List.mem_append_right _ hb,fun b hb hF=>H.fdis r R hr b (List.mem_append_right _ hb) hF, ?_⟩
  intro q hq
  have hq':q≠r:=by simpa [Wr.rid] using hq
  exact Same_ne hq'
 | cut r R cs hr hv hk e hd hl hvt how=>
  obtain ⟨e1,e2,e3,e4⟩:=e
  obtain ⟨h1,h2,h3,h4⟩:=kill H hr hk hv
  rw [e3]
  refine ⟨_,_,cs,α.fo r,_,_,h1,h2,hd, ?_, ?_,fun b hb=>List.mem_append_right _ hb,fun b hb hF=>H.fdis r R hr b (List.mem_append_right _ hb) hF, ?_⟩
  ·rw [e1,e2]
   refine ⟨fun hc=>?_,h3.wt,h3.sub,h3.nd,hl⟩
   have:=h3.ow (by rw [←hvt]; exact hc)
   exact how _ this
  ·rw [e1,e2]
   show cleanT (setRoot σ r deadRoot) (vtysK R.own tk.k) R.tags=true
   rw [hvt]; exact h4
  ·intro q hq
   have hq':q≠r:=by simpa [Wr.rid] using hq
   exact Same_ne hq'
 | gap r R p d z hr hv hg hz hpin hown hpv e hn=>
  subst e
  obtain ⟨cs,wh,hn1,hn2⟩:=hn
  obtain ⟨cs1,wh',fo1,rest,g1,g2,g3,g4,g5,_⟩:=gap H hr hv hg hz hpin hown hpv
  rw [hn1] at g1
  simp only [Option.some.injEq,Prod.mk.injEq] at g1
  obtain ⟨rfl,rfl⟩:=g1
  have hcl:cleanT (setRoot σ r (gapRoot R d z)) (vtysK R.own d.1) R.tags=true:=by
   rw [g5]
   exact cleanT_sub hv.2 (fun _ h=>h) (vtysK_place p hg hown)
  refine ⟨_,_,cs,fo1,_,_,g2,g3,hn2, ?_, ?_,fun b hb=>List.mem_append_right _ hb, ?_, ?_⟩
  ·refine ⟨fun hc=>?_,g4.wt,g4.sub,g4.nd,g4.len⟩
   exact Ow_same (fun t ht=>memN_filter t ht) (g4.ow (by rw [vtysK_filter d.1 (fun _ h=>h)] at hc; exact hc))
  ·show cleanT (setRoot σ r (gapRoot R d z)) (vtysK (d.1.tys.filter fun t=>memN t R.own) d.1) R.tags=true
   rw [vtysK_filter d.1 (fun _ h=>h)]
   exact hcl
  ·intro b hb hF
   have:=g2.fnd
   exact (List.nodup_append.1 this).2.2 b hb b hF rfl
  ·intro q hq
   have hq':q≠r:=by simpa [Wr.rid] using hq
   exact Same_ne hq'
theorem cleanT_same {σ':St} {tys:List TypeId} {T:List Tag} (h:∀t∈T,σ'.roots t.1=σ.roots t.1):cleanT σ' tys T=cleanT σ tys T:=by
 induction T with
 | nil=>rfl
 | cons t T ih=>
  obtain ⟨q,n⟩:=t
  simp only [cleanT]
  rw [ih (fun t ht=>h t (by simp [ht])),h (q,n) (by simp)]
theorem TakeI.stays {σ':St} {α':Asg} {F':List Nat} {lw lh:Nat→List Nat} {v:Value} {tk:Took} (h:TakeI cx σ α F w v tk) (H:Rel cx σ α F a w) (T:Turn cx σ α F w σ' α' F' w lw lh)
  (hs:∀q,(q∈tk.ws.flatMap Wr.rid∨q∈tk.tags.map (·.1))→Same σ α σ' α' q):TakeI cx σ' α' F' w v tk:=by
 cases h with
 | held hws cs hv hh hc=>
  exact .held hws cs hv (hh.turn H T (fun b hb=>by simp at hb)) (by rw [cleanT_same (fun t ht=>(hs t.1 (.inr (List.mem_map.2 ⟨t,ht,rfl⟩))).root)]; exact hc)
 | ref r R hr hv e hk hd=>
  subst e
  have hS:=hs r (.inl (by simp [Wr.rid]))
  refine .ref r R ((hS.live R).2 hr) ⟨hv.1, ?_⟩ rfl hk (by rw [hS.hdr]; exact hd)
  rw [cleanT_same (fun t ht=>(hs t.1 (.inr (List.mem_map.2 ⟨t,ht,rfl⟩))).root)]
  exact hv.2
 | cut r R cs hr hv hk e hd hl hvt how=>
  have hS:=hs r (.inl (by rw [e.2.2.1]; simp [Wr.rid]))
  refine .cut r R cs ((hS.live R).2 hr) ⟨hv.1, ?_⟩ hk e hd hl hvt (by rw [hS.hdr,hS.fo]; exact how)
  rw [cleanT_same (fun t ht=>(hs t.1 (.inr (List.mem_map.2 ⟨t,by rw [e.2.1]; exact ht,rfl⟩))).root)]
  exact hv.2
 | gap r R p d z hr hv hg hz hpin hown hpv e hn=>
  subst e
  have hS:=hs r (.inl (by simp [Wr.rid]))
  refine .gap r R p d z ((hS.live R).2 hr) ⟨hv.1, ?_⟩ hg hz hpin hown hpv rfl (by rw [hS.hdr,hS.wh]; exact hn)
  rw [cleanT_same (fun t ht=>(hs t.1 (.inr (List.mem_map.2 ⟨t,ht,rfl⟩))).root)]
  exact hv.2
theorem HeldAll.turn {σ':St} {α':Asg} {F':List Nat} {lw lh:Nat→List Nat} (H:Rel cx σ α F a w) (T:Turn cx σ α F w σ' α' F' w lw lh) (hF:∀b∈F,b∈F') :
  ∀{l:List (Value×Took)} {hs:List (List Value×List Nat)},(∀t∈ttags l,σ'.roots t.1=σ.roots t.1)→HeldAll cx σ α F w l hs→HeldAll cx σ' α' F' w l hs
 | [],[],_,_=>trivial
 | it :: l,h :: hs,hr,hh=>by
  refine ⟨⟨hh.1.1,hh.1.2.1.turn H T (fun b hb=>⟨rfl,hF b (hh.1.2.1.sub b hb)⟩), ?_⟩,HeldAll.turn H T hF (fun t ht=>hr t (by simp only [ttags,List.flatMap_cons,List.mem_append]; exact .inr ht)) hh.2⟩
  rw [cleanT_same (fun t ht=>hr t (by simp only [ttags,List.flatMap_cons,List.mem_append]; exact .inl ht))]
  exact hh.1.2.2
 | [],_ :: _,_,h=>h.elim
 | _ :: _,[],_,h=>h.elim
theorem apartN_iff {l:List Nat}:apartN l=true↔l.Nodup:=by
 induction l with
 | nil=>simp [apartN]
 | cons n l ih=>simp [apartN,ih,memN_false]
theorem takes:∀(l:List (Value×Took)) {σ:St} {α:Asg} {F:List Nat},Rel cx σ α F a w→(∀it∈l,TakeI cx σ α F w it.1 it.2)→((tws l).flatMap Wr.rid).Nodup→(∀t∈ttags l,t.1∉(tws l).flatMap Wr.rid)→
  ∃α' F' hs,Rel cx (appAll (tws l) σ) α' F' a w∧HeldAll cx (appAll (tws l) σ) α' F' w l hs∧(hs.flatMap (·.2)).Nodup∧(∀b∈hs.flatMap (·.2),b∉F)∧(∀b∈F,b∈F')∧
   (∀q,q∉(tws l).flatMap Wr.rid→Same σ α (appAll (tws l) σ) α' q)∧
   (∀k x own tags cs fo,Held cx σ α F w k x own tags cs fo→Held cx (appAll (tws l) σ) α' F' w k x own tags cs fo)∧Views cx σ α F w (appAll (tws l) σ) α' F' w∧(∀t,tagOk σ t→tagOk (appAll (tws l) σ) t)∧(∀q,σ.roots q=none→(appAll (tws l) σ).roots q=none):=by
 intro l
 induction l with
 | nil=>intro σ α F H _ _ _; exact ⟨α,F,[],H,trivial,List.nodup_nil,fun b hb=>by simp at hb,fun _ h=>h,fun q _=>Same_refl ..,fun _ _ _ _ _ _ h=>h,fun T tys _ h=>⟨h,fun b hb _=>⟨hb,rfl⟩,fun b hb _=>⟨hb,rfl⟩⟩,fun _ h=>h,fun _ h=>h⟩
 | cons it l ih=>
  intro σ α F H hT hnd htg
  have e1:tws (it :: l)=it.2.ws++tws l:=rfl
  have e2:ttags (it :: l)=it.2.tags++ttags l:=rfl
  rw [e1,rid_append] at hnd htg
  rw [e2] at htg
  obtain ⟨α1,F1,cs,fo,lw,lh,H1,T1,h1,h2,h3,h4,h5,h6⟩:=take1 H (hT it (by simp))
  have hnd':=List.nodup_append.1 hnd
  obtain ⟨α2,F2,hs,H2,g1,g2,g3,g4,g5,g6,g7,g8,g9⟩:=ih H1 (fun it' hi=>(hT it' (by simp [hi])).stays H T1 (fun q hq=>by
   refine h6 q ?_
   rcases hq with hq | hq
   ·intro hq'
    exact hnd'.2.2 q hq' q (by
     rw [List.mem_flatMap] at hq ⊢
     obtain ⟨wr,hw1,hw2⟩:=hq
     exact ⟨wr,List.mem_flatMap.2 ⟨it',hi,hw1⟩,hw2⟩) rfl
   ·obtain ⟨t,ht,rfl⟩:=List.mem_map.1 hq
    intro hq'
    exact htg t (List.mem_append_right _ (List.mem_flatMap.2 ⟨it',hi,ht⟩)) (List.mem_append_left _ hq'))) hnd'.2.1
   (fun t ht hq=>htg t (List.mem_append_right _ ht) (List.mem_append_right _ hq))
  rw [e1,appAll_append]
  have hq1:∀q,q∉(it.2.ws).flatMap Wr.rid++(tws l).flatMap Wr.rid→Same σ α (appAll (tws l) (appAll it.2.ws σ)) α2 q:=by
   intro q hq
   simp only [List.mem_append,not_or] at hq
   have s1:=h6 q hq.1
   have s2:=g5 q hq.2
   exact ⟨s2.root.trans s1.root,s2.loc.trans s1.loc,s2.hdr.trans s1.hdr,s2.fo.trans s1.fo⟩
  refine ⟨α2,F2,(cs,fo) :: hs,H2,⟨⟨h1,g6 _ _ _ _ _ _ h2, ?_⟩,g1⟩, ?_, ?_,fun b hb=>g4 b (h4 b hb), ?_,fun k x own tags cs fo hh=>g6 _ _ _ _ _ _ (hh.turn H T1 (fun b hb=>⟨rfl,h4 b (hh.sub b hb)⟩)), ?_,fun t ht=>g8 t (T1.tag ht), ?_⟩
  ·rw [cleanT_same (fun t ht=>(g5 t.1 (fun hq=>htg t (List.mem_append_left _ ht) (List.mem_append_right _ hq))).root)]
   exact h3
  ·simp only [List.flatMap_cons]
   exact List.nodup_append.2 ⟨h2.nd,g2,fun b hb c hc e=>g3 c hc (e▸h2.sub b hb)⟩
  ·intro b hb hF
   simp only [List.flatMap_cons,List.mem_append] at hb
   rcases hb with hb | hb
   ·exact h5 b hb hF
   ·exact g3 b hb (h4 b hF)
  ·rw [rid_append]
   exact hq1
  ·intro T tys hw hc
   obtain ⟨k1,k2,k3⟩:=g7 T tys (fun t ht=>T1.tag (hw t ht)) hc
   obtain ⟨j1,j2,j3⟩:=T1.views H T tys hw k1
   refine ⟨j1,fun b hb ht=>?_,fun b hb ht=>?_⟩
   ·obtain ⟨a1,a2⟩:=j2 b hb ht
    exact ⟨(k2 b a1 ht).1,rfl⟩
   ·obtain ⟨a1,a2⟩:=j3 b hb ht
    exact ⟨(k3 b a1 ht).1,rfl⟩
  ·intro q hq
   refine g9 q ?_
   cases hq2:(appAll it.2.ws σ).roots q with
   | none=>rfl
   | some Q=>
    exfalso
    by_cases hm:q∈(it.2.ws).flatMap Wr.rid
    ·have:=hT it (by simp)
     cases this with
     | held hws cs hv hh hc=>rw [hws] at hm; simp at hm
     | ref r R hr hv e hk hd=>rw [e] at hm; simp [Wr.rid] at hm; subst hm; rw [hr.1] at hq; simp at hq
     | cut r R cs hr hv hk e hd hl hvt how=>rw [e.2.2.1] at hm; simp [Wr.rid] at hm; subst hm; rw [hr.1] at hq; simp at hq
     | gap r R p d z hr hv hg hz hpin hown hpv e hn=>rw [e] at hm; simp [Wr.rid] at hm; subst hm; rw [hr.1] at hq; simp at hq
    ·rw [(h6 q hm).root,hq] at hq2
     simp at hq2
end
end Go.Proofs.Ytailcbngagacaaa.Ow

/- The framework, part 15: a store; a new root. Own work of this seat. -/
namespace Go.Proofs.Ytailcbngagacaaa.Ow
open Go
variable [Fr]
theorem isExt_extR (j:Nat):isExt (extR j)=true:=by simp [isExt,extR,Nat.add_mod]
theorem apartW_iff {ws:List Wr} {T:List Tag}:apartW ws T=true↔∀t∈T,t.1∉ws.flatMap Wr.rid:=by
 unfold apartW
 rw [List.all_eq_true]
 simp [memN_false]
theorem beqLoc_r {n m:Nat}:(Loc.r n).beq (.r m)=Nat.beq n m:=rfl
theorem ws_notr {ws:List Wr} {r:Nat} (h:(ws.all fun w=>!w.loc.beq (.r r))=true):r∉ws.flatMap Wr.rid:=by
 rw [List.mem_flatMap]
 rintro ⟨w,h1,h2⟩
 have:=List.all_eq_true.1 h w h1
 cases w with
 | s n a=>simp [Wr.rid] at h2
 | r n o=>
  simp only [Wr.rid,List.mem_singleton] at h2
  subst h2
  simp [Wr.loc,Loc.beq] at this
theorem chOff_kind:∀(n:Nat) {c:K} {x:El c} {s:Dat} {q:Nat×K},chGet n c x=some s→chOff n c=some q→q.2=s.1:=by
 intro n
 induction n with
 | zero=>intro c x s q h1 h2; cases c with
  | pair a b=>simp only [chGet,chOff,Option.some.injEq] at h1 h2; subst h1; subst h2; rfl
  | _=>simp [chGet] at h1
 | succ n ih=>intro c x s q h1 h2; cases c with
  | pair a b=>
   simp only [chGet,chOff] at h1 h2
   cases h3:chOff n b with
   | none=>rw [h3] at h2; simp at h2
   | some q3=>rw [h3] at h2; simp only [Option.some.injEq] at h2; subst h2; exact ih (q:=q3) h1 h3
  | _=>simp [chGet] at h1
theorem nav_none {h:Heap}:∀(p:List Stp) {k:K} {x:El k} {cs:List Value} {c1:List Value} {w1:Option (Nat×Nat)},pathTys p k=[]→(getP p k x).isSome=true→navF h p k cs none=some (c1,w1)→w1=none:=by
 intro p
 induction p with
 | nil=>intro k x cs c1 w1 _ _ h; simp only [navF,Option.some.injEq,Prod.mk.injEq] at h; exact h.2.symm
 | cons s p ih=>
  intro k x cs c1 w1 h0 hs h
  cases s with
  | fld n=>
   cases k with
   | st c=>
    simp only [getP] at hs
    cases hg:chGet n c x with
    | none=>rw [hg] at hs; simp at hs
    | some s=>
     rw [hg] at hs
     have hp2:pathTys (.fld n :: p) (.st c)=pathTys p s.1:=by simp [pathTys,chK_of_get n hg]
     rw [hp2] at h0
     simp only [navF] at h
     cases ho:chOff n c with
     | none=>rw [ho] at h; simp at h
     | some q=>
      have hk2:q.2=s.1:=chOff_kind n (c:=c) hg ho
      rw [ho] at h
      obtain ⟨q1,q2⟩:=q
      simp only at hk2
      subst hk2
      exact ih h0 hs h
   | _=>simp [getP] at hs
  | idx i=>
   cases k with
   | sl e k=>simp [pathTys] at h0
   | _=>simp [getP] at hs
theorem K.beq_self:∀k:K,k.beq k=true:=by
 intro k
 induction k with
 | int ik=>cases ik <;> rfl
 | sl e k ih=>simp [K.beq,ih]
 | pair a b iha ihb=>simp [K.beq,iha,ihb]
 | st f ih=>exact ih
 | gap n=>simp [K.beq]
 | id e=>simp [K.beq]
 | _=>rfl
theorem PIn_get:∀(q:List Stp) {k:K} {x:El k},PIn q k x→(getP q k x).isSome=true:=by
 intro q
 induction q with
 | nil=>intro k x _; rfl
 | cons s q ih=>
  intro k x h
  cases s with
  | fld n=>
   cases k with
   | st c=>
    simp only [PIn] at h
    simp only [getP]
    cases hc:chGet n c x with
    | none=>rw [hc] at h; exact h.elim
    | some d=>rw [hc] at h; exact ih h
   | _=>exact h.elim
  | idx i=>
   cases k with
   | sl e k=>exact ih h.2.2
   | _=>exact h.elim
theorem PIn_nil:∀(q:List Stp) {k:K} {x:El k},pathTys q k=[]→(getP q k x).isSome=true→PIn q k x:=by
 intro q
 induction q with
 | nil=>intro k x _ _; trivial
 | cons s q ih=>
  intro k x h0 hs
  cases s with
  | idx i=>cases k <;> simp [pathTys,getP] at h0 hs
  | fld n=>
   cases k with
   | st c=>
    simp only [getP] at hs
    cases hg:chGet n c x with
    | none=>rw [hg] at hs; simp at hs
    | some s=>
     rw [hg] at hs
     simp only at hs
     have hp2:pathTys (.fld n :: q) (.st c)=pathTys q s.1:=by simp [pathTys,chK_of_get n hg]
     rw [hp2] at h0
     simp only [PIn,hg]
     exact ih h0 hs
   | _=>simp [getP] at hs
section
variable {cx:Cx} {σ:St} {α:Asg} {F:List Nat} {a:Act} {w:World} {r:Nat} {R:Root}
theorem storeHeld {P:Program} {T:Tab} {t:TypeId} {kk:K} {x:El kk} {own_t:List TypeId} {tags_t:List Tag} {cs_t:List Value} {fo_t:List Nat} {v:Value} (hT:TyOk P T t kk)
  (H:Rel cx σ α F a w) (hr:liveR σ r R) (hv:validR σ R) {p:List Stp} {d z:Dat} (hg:getP p R.k R.x=some d) (hz:setP p R.k R.x ⟨kk,x⟩=some z) (hpin:PIn p R.k R.x) (hown:∀t∈pathTys p R.k,memN t R.own=true)
  (hh:Held cx σ α F w kk x own_t tags_t cs_t fo_t) (hc:cleanT σ (vtysK own_t kk) tags_t=true) (hvc:VC kk v cs_t) (hd:d.1=kk∨d.1=kk.hole)
  (hself:kk.flat=true∨selfOk R r tags_t (vtysK own_t kk)=true) (hbad:∀t∈pathTys p R.k,t∉vtysK own_t kk) (kp:Bool)
  {cs1:List Value} {b o:Nat} (hn:navF (hp w) p R.k (α.hdr r) (whR α R r)=some (cs1,some (b,o))) :
  ∃w',(Instr.storeAt t (.pointer (some ⟨b,o,none⟩)) v).run P w=.ok () w'∧∃α' F',
   Rel cx (setRoot σ r (storeRoot R z (ownLess R.own (vtysK own_t kk)) (bif kk.flat then R.tags else mergeT (dropT r tags_t) R.tags) [lastTy R p] ((bif d.1.beq kk then [] else gapLog kk)++kk.tys) kp)) α' F' a w':=by
 have K0:=H.roots r R hr
 have hnt:=H.wroots r R hr.1
 have hO1:=hh.ow hc
 obtain ⟨_,_,hbb,⟨arr,e,lo,hi,hb,hf,hs,hlast⟩,_⟩:=placeMem H hr hv hg hpin hown hn
 have hds:kk.size=d.1.size:=by
  rcases hd with h | h
  ·rw [h]
  ·rw [h,hole_size]
 have hone:=Ow_one hT.noGap hO1
 have hrun:=run_storeAt (o:=o) hT hb hf hh.len (by omega) hvc hone
 obtain ⟨s1,s2,arr',s3,s4,s5,s6⟩:=setCells_hp b cs_t w arr e (lo,hi) o hb (by rw [hh.len]; omega)
 have s7:=setCells_meta b cs_t w o
 refine ⟨_,hrun, ?_⟩
 have hownb:∀t∈pathTys p R.k,memN t (ownLess R.own (vtysK own_t kk))=true:=fun t ht=>memN_ownLess.2 ⟨hown t ht,hbad t ht⟩
 obtain ⟨fd,ok',fo1,rest,cs1',wh',hn',hpf,hd1,hty,_,hwh,hwf,hgo⟩:=H.place hr hv (own':=ownLess R.own (vtysK own_t kk)) hg hpin (fun t h=>(memN_ownLess.1 h).1) hownb
 rw [hn] at hn'
 simp only [Option.some.injEq,Prod.mk.injEq] at hn'
 obtain ⟨rfl,rfl⟩:=hn'
 obtain ⟨ft,fdt,hpt,hOt⟩:=Ow_less (own':=ownLess R.own (vtysK own_t kk)) (fun t ht hm=>by
  rcases vtysK_or (own:=own_t) ht with h | h
  ·exact absurd h (memN_ownLess.1 hm).2
  ·exact h) (Ow_tys (vtysK own_t kk) (fun _ h=>h) hO1)
 have hndt:=hpt.nodup hh.nd
 have hft:∀b∈ft,b∈fo_t:=fun b hb=>hpt.mem_iff.2 (List.mem_append_left _ hb)
 have hfdt:∀b∈fdt,b∈fo_t:=fun b hb=>hpt.mem_iff.2 (List.mem_append_right _ hb)
 have hbF:b∉F:=H.fdis r R hr b hbb
 have hftty:=Ow_fo_ty hOt
 suffices hP:PlaceTurn cx σ α F w r R p d (ownLess R.own (vtysK own_t kk)) cs1 (some (b,o)) fo1 rest ⟨kk,x⟩ z (bif kk.flat then R.tags else mergeT (dropT r tags_t) R.tags) [lastTy R p] ((bif d.1.beq kk then [] else gapLog kk)++kk.tys) kp ft (F.filter fun b=>!memN b fo_t) cs_t (w.setCells b o cs_t) by
  obtain ⟨α',h,_⟩:=hgo hP
  exact ⟨α',_,h⟩
 have hF':∀b',b'∈F.filter (fun b=>!memN b fo_t)↔b'∈F∧b'∉fo_t:=fun b'=>by rw [List.mem_filter]; simp [memN_false]
 refine ⟨hz,hds, ?_,⟨s7.1,s7.2.1,s7.2.2⟩,by omega, ?_, ?_,fun h=>by simp at h,by rw [hh.len,hds], .inl (by simp), ?_,fun b' hb'=>.inr (.inl (hh.sub b' (hft b' hb'))),(List.nodup_append.1 hndt).1,fun b' hb'=>.inl ((hF' b').1 hb').1,H.fnd.filter _,fun b' hb' h=>((hF' b').1 h).2 (hft b' hb'), .inr (by simp), ?_, ?_, ?_⟩
 ·rcases hd with h | h
  ·rw [h]; exact fun _ h=>h
  ·rw [h,vtysK_hole]; intro t ht; simp at ht
 ·intro b' _ hne
  refine .inr (.inr ?_)
  by_cases e:b'=b
  ·subst e; exact ⟨o,rfl,by simp⟩
  ·exact absurd (s1 b' e) hne
 ·intro b' o' e'
  simp only [Option.some.injEq,Prod.mk.injEq] at e'
  obtain ⟨rfl,rfl⟩:=e'
  refine ⟨fun i hi=>?_,arr,arr',e,(lo,hi),hb,s3,s4,fun i hi=>?_⟩
  ·unfold cellAt
   rw [s3]
   exact s5 i hi
  ·exact s6 i (by rw [hh.len,hds]; exact hi)
 ·cases hfl:kk.flat with
  | true=>exact ⟨fun _ h=>h,hnt.1,hnt.2.2⟩
  | false=>
   refine ⟨fun t ht=>mem_mergeT.2 (.inr ht),fun t ht=>?_,fun n ht=>?_⟩
   ·rcases mem_mergeT.1 ht with h | h
    ·exact hh.wt t (mem_dropT.1 h).1
    ·exact hnt.1 t h
   ·rcases mem_mergeT.1 ht with h | h
    ·exact (mem_dropT.1 h).2 rfl
    ·exact hnt.2.2 n h
 ·cases hbq:d.1.beq kk with
  | true=>exact .inl (K.eq_of_beq hbq).symm
  | false=>
   have hdh:d.1=kk.hole:=hd.resolve_left (fun e=>by rw [e,K.beq_self] at hbq; simp at hbq)
   refine .inr (.inl fun q' h1 h2=>?_)
   have hnil:pathTys q' kk=[]:=by
    cases he:pathTys q' kk with
    | nil=>rfl
    | cons e l=>exact absurd (List.mem_append_right _ (pathTys_tys q' e (by rw [he]; simp))) (h2 e (by rw [show pathTys q' (⟨kk,x⟩:Dat).1=pathTys q' kk from rfl,he]; simp))
   obtain ⟨dk,dx⟩:=d
   simp only at hdh
   subst hdh
   obtain ⟨h3,h4⟩:=hole_back q' (y:=x) hnil h1
   refine ⟨?_, ?_⟩
   ·show pathTys q' kk.hole=pathTys q' kk
    rw [h3,hnil]
   ·show (getP q' kk.hole dx).isSome=true
    rw [getP_isSome q' (y:=holeE kk x)]
    exact h4
 ·intro _ q c0 w0 hpq htq hnq hqs
  obtain ⟨dk,dx⟩:=d
  rcases hd with ek | ek
  ·simp only at ek
   subst ek
   exact navKeep_flds q hpq (fun t ht=>⟨(htq t ht).1,fun h=>(htq t ht).2 (List.mem_append_right _ h)⟩) hnq
  ·simp only at ek
   subst ek
   have hs0:(getP q kk.hole dx).isSome=true:=PIn_get q hpq
   rw [getP_isSome q (y:=holeE kk x)] at hs0
   obtain ⟨h1,h2,h3,_,h5⟩:=hole_nav (h:=hp w) q (x:=x) hs0
   have hnq':navF (hp w) q kk cs1 (some (b,o))=some (c0,w0):=by rw [←h5]; exact hnq
   exact navKeep_flds (own:=ownLess R.own (vtysK own_t kk)) q (PIn_nil q h1 h3) (fun t ht=>by rw [h1] at ht; simp at ht) hnq'
 ·intro α' Tn hblk hval
  cases hfl:kk.flat with
  | true=>
   obtain ⟨e1,e2⟩:=Ow_flat (h':=hp (w.setCells b o cs_t)) (own':=ownLess R.own (vtysK own_t kk)) (ok':=okT cx (setRoot σ r (storeRoot R z (ownLess R.own (vtysK own_t kk)) (bif kk.flat then R.tags else mergeT (dropT r tags_t) R.tags) [lastTy R p] ((bif d.1.beq kk then [] else gapLog kk)++kk.tys) kp)) α' (F.filter fun b=>!memN b fo_t) (w.setCells b o cs_t) (bif true then R.tags else mergeT (dropT r tags_t) R.tags)) hfl hOt
   subst e1
   rw [hfl] at e2
   exact e2
  | false=>
   rw [hfl] at Tn hblk hval
   have hselff:=hself.resolve_left (by rw [hfl]; simp)
   simp only [cond_false] at Tn hblk hval ⊢
   generalize hR':storeRoot R z (ownLess R.own (vtysK own_t kk)) (mergeT (dropT r tags_t) R.tags) [lastTy R p] ((bif d.1.beq kk then [] else gapLog kk)++kk.tys) kp=R' at *
   have hRw:R'.w=[lastTy R p]++R.w:=by rw [←hR']; rfl
   have hRt:R'.tags=mergeT (dropT r tags_t) R.tags:=by rw [←hR']; rfl
   have hRv:R'.vtys=vtysK (ownLess R.own (vtysK own_t kk)) z.1:=by rw [←hR']; rfl
   have hRd:R'.isDead=false:=hval.1
   have hsubv:∀t∈vtysK own_t kk,t∈R'.vtys:=by
    intro t ht
    rw [hRv]
    have h1:=vtysK_anti (own:=own_t) (own':=ownLess R.own (vtysK own_t kk)) (k:=kk) (fun t ht hm=>by
     rcases vtysK_or (own:=own_t) ht with h | h
     ·exact absurd h (memN_ownLess.1 hm).2
     ·exact h) t ht
    rcases (vtys_setP p hg hz).1 t h1 with h | ⟨q,h2,h3⟩
    ·exact h
    ·rw [hownb q h2] at h3; simp at h3
   have hlastbad:∀n,(r,n)∈tags_t→lastTy R p∉vtysK own_t kk:=by
    intro n hn1 hl
    unfold lastTy at hl
    cases hpt:pathTys p R.k with
    | nil=>
     rw [hpt] at hl
     simp only [List.getLastD_nil] at hl
     unfold selfOk at hselff
     rw [Bool.or_eq_true] at hselff
     rcases hselff with h | h
     ·have:=List.all_eq_true.1 h _ hn1
      simp at this
     ·unfold Root.bt at hl
      cases hk:R.kind with
      | var tv=>rw [hk] at h hl; simp only at h hl; rw [Bool.not_eq_true',memN_false] at h; exact h hl
      | par=>rw [hk] at h; simp at h
      | anon=>
       rcases hwh b o rfl with h1 | ⟨o0,ew,_⟩
       ·
        rw [hpt] at hbad
        have:=hty b (List.mem_append_right _ h1)
        have hne:whR α R r=none:=by unfold whR; rw [hk]
        rw [hne] at hn
        have:=nav_none p hpt (by rw [hg]; rfl) hn
        simp at this
       ·unfold whR at ew; rw [hk] at ew; simp at ew
      | dead=>have:=hr.2; simp [Root.isDead,hk] at this
    | cons e l=>
     rw [hpt,List.getLastD_eq_getLast?] at hl
     have:(e :: l).getLast?.getD R.bt∈(e :: l):=by
      rw [List.getLast?_eq_some_getLast (by simp)]
      exact List.getLast_mem _
     exact hbad _ (by rw [hpt]; exact this) hl
   have hc':cleanT (setRoot σ r R') (vtysK own_t kk) tags_t=true:=by
    rw [cleanT_iff]
    intro tg htg
    by_cases e:tg.1=r
    ·refine .inr ⟨R',by rw [e]; exact setRoot_same ..,hRd, ?_⟩
     rw [cleanT_iff] at hc
     rcases hc tg htg with h | ⟨Q,h1,h2,h3⟩
     ·rw [e,hnt.2.1] at h; simp at h
     ·rw [e,hr.1] at h1
      simp only [Option.some.injEq] at h1
      subst h1
      rw [hRw]
      refine (clean_append ?_).2 ⟨fun t ht=>?_,h3⟩
      ·rcases hh.wt tg htg with h | ⟨Q,q1,q2⟩
       ·rw [e,hnt.2.1] at h; simp at h
       ·rw [e,hr.1] at q1
        simp only [Option.some.injEq] at q1
        subst q1
        rcases q2 with q2 | q2
        ·rw [hr.2] at q2; simp at q2
        ·exact q2
      ·simp only [List.mem_singleton] at ht
       subst ht
       exact hlastbad tg.2 (by rw [←e]; exact htg)
    ·have h2:=hval.2
     rw [hRt,cleanT_iff] at h2
     rcases h2 tg (mem_mergeT.2 (.inl (mem_dropT.2 ⟨htg,e⟩))) with h | ⟨Q,h3,h4,h5⟩
     ·exact .inl h
     ·refine .inr ⟨Q,h3,h4, ?_⟩
      unfold clean at h5 ⊢
      rw [List.all_eq_true] at h5 ⊢
      intro x hx
      have:=h5 x hx
      simp only [Bool.not_eq_true',memN_false] at this ⊢
      exact fun h=>this (hsubv x h)
   obtain ⟨_,hV,_⟩:=Tn.views H tags_t (vtysK own_t kk) hh.wt hc'
   have hsame:∀b',b'≠b→hp (w.setCells b o cs_t) b'=hp w b':=s1
   refine Ow_mono ?_ ?_ (fun b' hb'=>hsame b' (fun e=>hbF (e▸hh.sub b' (hft b' hb')))) hOt
   ·rintro b' (⟨h1,h2⟩ | h)
    ·exact (hV b' h1 (.inl h2)).2
    ·exact hsame b' (fun e=>hbF (e▸hh.sub b' (hfdt b' h)))
   ·rintro b' (⟨h1,h2⟩ | h)
    ·obtain ⟨g1,g2,g3,g4,g5⟩:=(hV b' h1 (.inl h2)).1
     refine ⟨g1,g2,g3,fun q Q hq hbq=>?_,fun h0=>?_⟩
     ·obtain ⟨n,hn1⟩:=g4 q Q hq hbq
      by_cases e:q=r
      ·exfalso
       subst e
       obtain ⟨rfl,_⟩:=liveR_same hq
       obtain ⟨tt,ht1,ht2⟩:=h2
       have notown:∀e,mine cx w b'→elTy (hp w) b'=some e→memN e (ownLess R.own (vtysK own_t kk))=true→False:=by
        intro e hmn he hm
        have ht2:=H.tyOf hmn ht2
        rw [ht2] at he
        simp only [Option.some.injEq] at he
        subst he
        exact (memN_ownLess.1 hm).2 ht1
       rcases hblk b' hbq with ⟨o',h⟩ | h | h
       ·unfold selfOk at hselff
        rw [Bool.or_eq_true] at hselff
        rcases hselff with h3 | h3
        ·have:=List.all_eq_true.1 h3 _ hn1
         simp at this
        ·cases hk:R.kind with
         | var tv=>
          rw [hk] at h3
          simp only at h3
          rw [Bool.not_eq_true',memN_false] at h3
          obtain ⟨_,arr2,e2,lo2,hi2,f1,_,_,f4⟩:=K0.mem b' o' h
          have ht2:=H.tyOf (K0.mine b' (by unfold blk; rw [h]; exact List.mem_cons_self)) ht2
          unfold elTy at ht2
          rw [f1] at ht2
          simp only [Option.some.injEq] at ht2
          exact h3 (by rw [←f4 tv hk,ht2]; exact ht1)
         | par=>rw [hk] at h3; simp at h3
         | anon=>unfold whR at h; rw [hk] at h; simp at h
         | dead=>have:=hr.2; simp [Root.isDead,hk] at this
       ·obtain ⟨e,_,h3,h4⟩:=hftty b' h
        exact notown e (H.fl b' (hh.sub b' (hft b' h))) h4 h3
       ·obtain ⟨e,_,h3,h4⟩:=hty b' (List.mem_append_right _ h)
        exact notown e (K0.mine b' (List.mem_append_right _ (hpf.mem_iff.2 (by simp [h])))) h4 h3
      ·exact ⟨n,mem_mergeT.2 (.inl (mem_dropT.2 ⟨hn1,e⟩))⟩
     ·rcases g5 h0 with ⟨j,n,h3,h4⟩ | h3
      ·refine .inl ⟨j,n,mem_mergeT.2 (.inl (mem_dropT.2 ⟨h3, ?_⟩)),h4⟩
       intro e
       have:=hnt.2.1
       rw [←e] at this
       simp only at this
       rw [isExt_extR] at this
       simp at this
      ·exact .inr h3
    ·have hbF2:=hh.sub b' (hfdt b' h)
     have hm:=H.fl b' hbF2
     refine ⟨by have:=hm.1; omega,fun h2=>((hF' b').1 h2).2 (hfdt b' h),F_notBase H hbF2,fun q Q hq hbq=>?_,fun h0=>?_⟩
     ·exfalso
      rcases liveR_set hq with ⟨rfl,rfl,_⟩ | ⟨e,hq'⟩
      ·rcases hblk b' hbq with ⟨o',h2⟩ | h2 | h2
       ·exact H.fdis _ _ hr b' (by rw [blk_blkOf,mem_blkOf]; exact .inl ⟨o',h2⟩) hbF2
       ·exact (List.nodup_append.1 hndt).2.2 b' h2 b' h rfl
       ·exact H.fdis _ _ hr b' (by rw [blk_blkOf,mem_blkOf,hpf.mem_iff]; exact .inr (by simp [h2])) hbF2
      ·obtain ⟨Q2,g1,g2⟩:=Tn.old q Q hq'.1
       have hns:Same σ α (setRoot σ r R') α' q:=by
        refine Classical.byContradiction fun hns=>?_
        rcases g2 with ⟨h1,h2⟩ | ⟨_,h2⟩
        ·rw [setRoot_ne σ R' e] at g1
         rw [hq'.1] at g1
         simp only [Option.some.injEq] at g1
         subst g1
         rw [hq'.2] at h1
         simp at h1
        ·rcases h2.2.2.2.2.2.2 with h3 | ⟨_,_,h3⟩
         ·rw [one1_ne _ e,one1_ne _ e] at h3
          simp at h3
         ·exact hns h3
       rw [hns.blk] at hbq
       exact H.fdis _ _ hq' b' hbq hbF2
     ·rcases hm.2 with h | ⟨j,pi,h1,h2⟩
      ·omega
      ·exact .inr ⟨j,pi,h1,h2⟩
end
end Go.Proofs.Ytailcbngagacaaa.Ow

/- The framework, part 16: a new root. Own work of this seat. -/
namespace Go.Proofs.Ytailcbngagacaaa.Ow
open Go
variable [Fr]
theorem isExt_locR (d c:Nat):isExt (locR d c)=false:=by
 unfold isExt locR
 have:(4 * (8 * d+c)+2) % 4=2:=by omega
 rw [this]; rfl
section
variable {cx:Cx} {σ:St} {α:Asg} {F:List Nat} {a:Act} {w:World} {r:Nat}
theorem tags_new {T:List Tag} (h:tagsW σ T) (hn:σ.roots r=none) (hx:isExt r=false):∀n,(r,n)∉T:=by
 intro n hn2
 rcases h _ hn2 with h | ⟨Q,h,_⟩
 ·simp only at h; rw [hx] at h; simp at h
 ·simp only at h; rw [hn] at h; simp at h
theorem adopt (H:Rel cx σ α F a w) (hn:σ.roots r=none) (hx:isExt r=false) {R':Root} (hd:R'.isDead=false) (hk:R'.kind≠.par) (htags:tagsW σ R'.tags) (loc:Nat×Nat) (hdr':List Value) (fo' F':List Nat)
  (hblk:∀b∈blkOf R' loc fo',b∈F∧b∉F') (hnd:(blkOf R' loc fo').Nodup) (hF':∀b∈F',b∈F) (hF'nd:F'.Nodup)
  (how:cleanT σ R'.vtys R'.tags=true→Ow (hp w) R'.own (fun b=>okT cx σ α F w R'.tags b∨(b∈F∧b∉F'∧b∉blkOf R' loc fo')) R'.k R'.x hdr' fo') (hlen:hdr'.length=R'.k.size)
  (hmem:∀b o,whOf R' loc=some (b,o)→Cells (hp w) b o hdr'∧∃arr e lo hi,hp w b=some (.cells arr e (lo,hi))∧(∀i,i<arr.size→¬(lo≤i∧i<hi))∧o+R'.k.size≤arr.size∧(∀t,R'.kind=.var t→e=t)) :
  Rel cx (setRoot σ r R') (setAsg α r loc hdr' fo') F' a w∧Turn cx σ α F w (setRoot σ r R') (setAsg α r loc hdr' fo') F' w (one1 r []) (one1 r []):=by
 have hns:∀{q:Nat},¬Same σ α (setRoot σ r R') (setAsg α r loc hdr' fo') q→q=r:=fun {q} h=>Classical.byContradiction fun e=>h (Same_ne e)
 have hold:∀{q Q},σ.roots q=some Q→q≠r:=fun {q Q} h e=>by rw [e,hn] at h; simp at h
 have T:Turn cx σ α F w (setRoot σ r R') (setAsg α r loc hdr' fo') F' w (one1 r []) (one1 r []):=by
  refine ⟨rfl,⟨rfl,rfl,rfl⟩,Nat.le_refl _, ?_, ?_, ?_,fun b _ h=>absurd rfl h, ?_,hF'nd, ?_, ?_,fun _ _ _ _ _ _ _ h=>absurd rfl h,fun q Q Q' h1 h2 _=>by rw [setRoot_ne σ R' (hold h1),h1] at h2; simp only [Option.some.injEq] at h2; subst h2; exact ⟨rfl,rfl⟩⟩
  ·intro q Q hQ
   have e:=hold hQ
   refine ⟨Q,by rw [setRoot_ne σ R' e]; exact hQ, ?_⟩
   cases hd:Q.isDead with
   | true=>exact .inl ⟨rfl,by intro hk; simp [Root.isDead,hk] at hd⟩
   | false=>exact .inr ⟨rfl,by rw [one1_ne _ e]; rfl,by rw [one1_ne _ e]; rfl,Nat.le_refl _,rfl,by simp [setAsg,upd_ne _ _ e],fun _=>rfl, .inr ⟨one1_ne _ e,one1_ne _ e,Same_ne e⟩⟩
  ·intro q Q hQ hs
   have e:=hns hs
   subst e
   rw [setRoot_same] at hQ
   simp only [Option.some.injEq] at hQ
   subst hQ
   refine ⟨fun t ht=>?_,hx,tags_new htags hn hx⟩
   have hne:t.1≠q:=fun e=>tags_new htags hn hx t.2 (by rw [←e]; exact ht)
   rcases htags t ht with h | ⟨Q,h1,h2⟩
   ·exact .inl h
   ·exact .inr ⟨Q,by rw [setRoot_ne σ R' hne]; exact h1,h2⟩
  ·intro q Q hq hQ
   by_cases e:q=r
   ·subst e
    rw [setRoot_same] at hQ
    simp only [Option.some.injEq] at hQ
    subst hQ
    exact hk
   ·rw [setRoot_ne σ R' e,hq] at hQ; simp at hQ
  ·rintro b (⟨q,Q,hq,hb,hno⟩ | hb)
   ·rcases liveR_set hq with ⟨rfl,rfl,_⟩ | ⟨e,hq'⟩
    ·rw [blk_setAsg] at hb
     exact .inl (hblk b hb).1
    ·rw [(Same_ne (α:=α) (σ:=σ) (R:=R') e).blk] at hb
     exact absurd ⟨Q,hq',hb⟩ hno
   ·exact .inl (hF' b hb)
  ·intro q Q hq hs b hb
   have e:=hns hs
   subst e
   obtain ⟨rfl,_⟩:=liveR_same hq
   rw [blk_setAsg] at hb
   exact (hblk b hb).2
  ·intro q Q q' Q' hq hq' hne hs hs'
   exact absurd ((hns hs).trans (hns hs').symm) hne
 refine ⟨H.turn T ?_ ?_ ?_,T⟩
 ·intro q Q hq hs
  have e:=hns hs
  subst e
  obtain ⟨rfl,_⟩:=liveR_same hq
  refine ⟨fun hv=>?_, ?_, ?_, ?_⟩
  ·have e1:(setAsg α q loc hdr' fo').hdr q=hdr':=by simp [setAsg,upd_same]
   have e2:(setAsg α q loc hdr' fo').fo q=fo':=by simp [setAsg,upd_same]
   rw [e1,e2]
   obtain ⟨h1,h2,_⟩:=T.views H Q.tags _ htags hv.2
   refine Ow_mono (fun _ _=>rfl) ?_ (fun _ _=>rfl) (Ow_tys _ (fun _ h=>h) (how h1))
   rintro b ⟨hb | ⟨g1,g2,g3⟩,hty⟩
   ·exact (h2 b hb (.inl hty)).1
   ·have hm:=H.fl b g1
    refine ⟨hm.1,g2,F_notBase H g1,fun q' Q' hq' hb'=>?_,fun h0=>?_⟩
    ·exfalso
     rcases liveR_set hq' with ⟨rfl,rfl,_⟩ | ⟨e,hq2⟩
     ·rw [blk_setAsg] at hb'; exact g3 hb'
     ·rw [(Same_ne (α:=α) (σ:=σ) (R:=Q) e).blk] at hb'
      exact H.fdis _ _ hq2 b hb' g1
    ·rcases hm.2 with h | ⟨j,pi,h1,h2⟩
     ·omega
     ·exact .inr ⟨j,pi,h1,h2⟩
  ·simpa [setAsg,upd_same] using hlen
  ·intro b o hb
   rw [whR_setAsg] at hb
   simpa [setAsg,upd_same] using hmem b o hb
  ·rw [blk_setAsg]; exact hnd
 ·intro q Q hq hs
  exact absurd (hns hs) (hold hq.1)
 ·intro q Q hq hs
  exact absurd (hns hs) (hold hq.1)
theorem blkOf_anon {R:Root} (h:R.kind=.anon) (loc:Nat×Nat) (fo:List Nat):blkOf R loc fo=fo:=by simp [blkOf,h]
theorem blkOf_var {R:Root} {t:TypeId} (h:R.kind=.var t) (loc:Nat×Nat) (fo:List Nat):blkOf R loc fo=loc.1 :: fo:=by simp [blkOf,h]
theorem whOf_anon {R:Root} (h:R.kind=.anon) (loc:Nat×Nat):whOf R loc=none:=by simp [whOf,h]
theorem whOf_var {R:Root} {t:TypeId} (h:R.kind=.var t) (loc:Nat×Nat):whOf R loc=some loc:=by simp [whOf,h]
theorem mk_ref {k:K} {x:El k} {own:List TypeId} {tags:List Tag} {kp:Bool} {hdr:List Value} {fo F':List Nat} {loc:Nat×Nat} {v:Value} {w:World} (h:VC k v hdr) :
  AVok cx (setRoot σ r (newRoot k x own tags .anon kp)) (setAsg α r loc hdr fo) F' w (.ref r 0) v:=by
 intro Q hQ _
 obtain ⟨rfl,_⟩:=liveR_same hQ
 refine ⟨rfl, ?_⟩
 simp only [setAsg,upd_same]
 exact h
theorem mk_ptr {k:K} {x:El k} {own:List TypeId} {tags:List Tag} {kp:Bool} {hdr:List Value} {fo F':List Nat} {b:Nat} {t:TypeId} {w:World} :
  AVok cx (setRoot σ r (newRoot k x own tags (.var t) kp)) (setAsg α r (b,0) hdr fo) F' w (.ptr r [] 0) (.pointer (some ⟨b,0,none⟩)):=by
 refine ⟨⟨b,0,rfl⟩, ?_⟩
 intro Q hQ _ _ _ _
 rw [setRoot_same] at hQ
 simp only [Option.some.injEq] at hQ
 subst hQ
 refine ⟨trivial,hdr,b,0, ?_,rfl⟩
 simp only [navF]
 rw [whR_setAsg]
 simp [whOf,newRoot,setAsg,upd_same]
theorem mk_ptrO {k:K} {x:El k} {own:List TypeId} {tags:List Tag} {kp:Bool} {hdr:List Value} {fo F':List Nat} {b o:Nat} {t:TypeId} {w:World} :
  AVok cx (setRoot σ r (newRoot k x own tags (.var t) kp)) (setAsg α r (b,o) hdr fo) F' w (.ptr r [] 0) (.pointer (some ⟨b,o,none⟩)):=by
 refine ⟨⟨b,o,rfl⟩, ?_⟩
 intro Q hQ _ _ _ _
 rw [setRoot_same] at hQ
 simp only [Option.some.injEq] at hQ
 subst hQ
 refine ⟨trivial,hdr,b,o, ?_,rfl⟩
 simp only [navF]
 rw [whR_setAsg]
 simp [whOf,newRoot,setAsg,upd_same]
theorem tags0_W {tk:Took} (h:tagsW σ tk.tags):tagsW σ tk.tags0:=by
 unfold Took.tags0
 split
 ·intro t ht; simp at ht
 ·exact h
theorem Ow_own {h:Heap} {own:List TypeId} {ok ok':Nat→Prop} {k:K} {x:El k} {cs:List Value} {fo:List Nat} (hv:vtysK own k=[]) (H:Ow h own ok k x cs fo):Ow h own ok' k x cs fo:=by
 refine Ow_mono (fun _ _=>rfl) (fun b hb=>?_) (fun _ _=>rfl) (Ow_tys [] (by rw [hv]; exact fun _ h=>h) H)
 obtain ⟨_,t,ht,_⟩:=hb
 simp at ht
theorem boxHeld {P:Program} {tk:Took} {t:TypeId} {v:Value} {cs:List Value} {fo:List Nat} (H:Rel cx σ α F a w) (hn:σ.roots r=none) (hx:isExt r=false) (hh:Held cx σ α F w tk.k tk.x tk.own tk.tags cs fo)
  (hc:cleanT σ (vtysK tk.own tk.k) tk.tags=true) (hv:VC tk.k v cs) (kp:Bool) :
  (Instr.box t v).run P w=.ok (.pointer (some ⟨w.heap.size,0,none⟩)) (w.alloc (.cells v.cells t))∧
   ∃α' F',Rel cx (setRoot σ r (newRoot tk.k tk.x tk.own tk.tags0 (.var t) kp)) α' F' a (w.alloc (.cells v.cells t))∧
    AVok cx (setRoot σ r (newRoot tk.k tk.x tk.own tk.tags0 (.var t) kp)) α' F' (w.alloc (.cells v.cells t)) (.ptr r [] 0) (.pointer (some ⟨w.heap.size,0,none⟩)):=by
 refine ⟨run_boxAt t v w, ?_⟩
 have hcs:v.cells=cs.toArray:=by
  have:=hv.cells
  apply Array.ext'
  simpa using this
 rw [hcs]
 obtain ⟨H1,T1⟩:=H.alloc (.cells cs.toArray t)
 have hh1:=hh.turn H T1 (fun b hb=>⟨hp_alloc_old w _ (H.fl b (hh.sub b hb)).1,List.mem_cons_of_mem _ (hh.sub b hb)⟩)
 have hnew:hp (w.alloc (.cells cs.toArray t)) w.heap.size=some (.cells cs.toArray t (0,0)):=hp_alloc_new w _
 have hbF:w.heap.size∉F:=fun h=>by have:=(H.fl _ h).1; omega
 have hbf:w.heap.size∉fo:=fun h=>hbF (hh.sub _ h)
 have hk:(newRoot tk.k tk.x tk.own tk.tags0 (.var t) kp).kind=.var t:=rfl
 obtain ⟨h1,h2⟩:=adopt (R':=newRoot tk.k tk.x tk.own tk.tags0 (.var t) kp) H1 hn hx rfl (by simp [newRoot]) (tags0_W hh1.wt) (w.heap.size,0) cs fo (F.filter fun b=>!memN b fo)
  (fun b hb=>by
   rw [blkOf_var hk] at hb
   rcases List.mem_cons.1 hb with h | h
   ·simp only at h; subst h
    exact ⟨List.mem_cons_self,fun h=>hbF (List.mem_filter.1 h).1⟩
   ·refine ⟨List.mem_cons_of_mem _ (hh.sub b h),fun h2=>?_⟩
    have:=(List.mem_filter.1 h2).2
    simp only [Bool.not_eq_true',memN_false] at this
    exact this h)
  (by rw [blkOf_var hk]; exact List.nodup_cons.2 ⟨hbf,hh.nd⟩)
  (fun b hb=>List.mem_cons_of_mem _ (List.mem_filter.1 hb).1) (H.fnd.filter _)
  (fun hcl=>by
   show Ow _ tk.own _ tk.k tk.x cs fo
   cases hb:tk.bad with
   | nil=>exact Ow_own hb (hh1.ow hc)
   | cons t0 l=>
    have et:(newRoot tk.k tk.x tk.own tk.tags0 (.var t) kp).tags=tk.tags:=by
     show tk.tags0=tk.tags
     unfold Took.tags0
     rw [hb]
    rw [et] at hcl ⊢
    exact Ow_mono (fun _ _=>rfl) (fun b h=>.inl h) (fun _ _=>rfl) (hh1.ow hcl)) hh.len
  (fun b o hb=>by
   rw [whOf_var hk] at hb
   simp only [Option.some.injEq,Prod.mk.injEq] at hb
   obtain ⟨rfl,rfl⟩:=hb
   refine ⟨fun i hi=>?_,cs.toArray,t,0,0,hnew,fun i _=>by omega, ?_,fun t' ht'=>?_⟩
   ·unfold cellAt
    rw [hnew]
    simp
   ·show 0+tk.k.size≤_
    simp [hh.len]
   ·have:RKind.var t=RKind.var t':=ht'
    simpa using this)
 exact ⟨_,_,h1,mk_ptr⟩
theorem anonHeld {k:K} {x:El k} {own:List TypeId} {tags:List Tag} {v:Value} {cs:List Value} {fo:List Nat} (H:Rel cx σ α F a w) (hn:σ.roots r=none) (hx:isExt r=false)
  (hsub:∀b∈fo,b∈F) (hnd:fo.Nodup) (hwt:tagsW σ tags) {F':List Nat} (hF':∀b∈F',b∈F∧b∉fo) (hF'nd:F'.Nodup) (hlen:cs.length=k.size)
  (how:cleanT σ (vtysK own k) tags=true→Ow (hp w) own (fun b=>okT cx σ α F w tags b∨(b∈F∧b∉F'∧b∉fo)) k x cs fo) (hv:VC k v cs) (kp:Bool) :
  ∃α',Rel cx (setRoot σ r (newRoot k x own tags .anon kp)) α' F' a w∧AVok cx (setRoot σ r (newRoot k x own tags .anon kp)) α' F' w (.ref r 0) v:=by
 have hk:(newRoot k x own tags .anon kp).kind=.anon:=rfl
 obtain ⟨h1,h2⟩:=adopt (R':=newRoot k x own tags .anon kp) H hn hx rfl (by simp [newRoot]) hwt (0,0) cs fo F'
  (fun b hb=>by rw [blkOf_anon hk] at hb; exact ⟨hsub b hb,fun h=>(hF' b h).2 hb⟩) (by rw [blkOf_anon hk]; exact hnd) (fun b hb=>(hF' b hb).1) hF'nd
  (fun hc=>by rw [blkOf_anon hk]; exact how hc) hlen (fun b o hb=>by rw [whOf_anon hk] at hb; simp at hb)
 exact ⟨_,h1,mk_ref hv⟩
end
end Go.Proofs.Ytailcbngagacaaa.Ow

/- The framework, part 17: operations, one by one. Own work of this seat. -/
namespace Go.Proofs.Ytailcbngagacaaa.Ow
open Go
variable [Fr]
def Did (P:Program) (cx:Cx) (o:Oper) (a:Act) (w:World) (σ':St):Prop:=
 ∃v w' α' F',((execOp a.eval o).run P w=.ok (.value v) w'∨((execOp a.eval o).run P w=.ok .skip w'∧v=undef))∧Rel cx σ' α' F' (a.put o.dst v) w'
theorem Did.wp {P:Program} {cx:Cx} {o:Oper} {a:Act} {w:World} {σ':St} (h:Did P cx o a w σ') {K:Act→World→Prop} {Q:Exit→Act→World→Prop}
  (hK:∀α' F' a' w',Rel cx σ' α' F' a' w'→K a' w'):o.wp P a w K Q:=by
 obtain ⟨v,w',α',F',h | ⟨h,rfl⟩,h2⟩:=h
 ·unfold Oper.wp; rw [h]; exact hK _ _ _ _ h2
 ·unfold Oper.wp; rw [h]; exact hK _ _ _ _ h2
section
variable {P:Program} {T:Tab} {cx:Cx} {σ:St} {α:Asg} {F:List Nat} {a:Act} {w:World} {o:Oper} {d:Nat} {ws:List Wr}
theorem did_put (H:Rel cx σ α F a w) (hd:o.dst=some d) (hdn:d<cx.nt) {x:AV1} {v:Value} (hrun:(execOp a.eval o).run P w=.ok (.value v) w) (hx:AV1ok cx σ α F w x v) (hw:av1W σ x) :
  Did P cx o a w (appAll [.s d x] σ):=by
 refine ⟨v,w,α,F, .inl hrun, ?_⟩
 rw [hd]
 exact H.put hdn hw hx
theorem did_put2 {σ1:St} {α1:Asg} {F1:List Nat} {w1:World} (H:Rel cx σ1 α1 F1 a w1) (hd:o.dst=some d) (hdn:d<cx.nt) {x:AV1} {v:Value} (hrun:(execOp a.eval o).run P w=.ok (.value v) w1) (hx:AV1ok cx σ1 α1 F1 w1 x v) (hw:av1W σ1 x) :
  Did P cx o a w (appAll [.s d x] σ1):=by
 refine ⟨v,w1,α1,F1, .inl hrun, ?_⟩
 rw [hd]
 exact H.put hdn hw hx
theorem freshR_inv {A:Type} {z:A} {r:Nat} {k:Prog A} (h:(freshR r k).ends σ z):σ.roots r=none∧k.ends σ z:=by
 unfold freshR at h
 simp only [Prog.ends] at h
 cases hr:σ.roots r with
 | none=>rw [hr] at h; exact ⟨rfl,h⟩
 | some R=>rw [hr] at h; exact h.elim
theorem ends_ret {A:Type} {z x:A} (h:(Prog.ret x).ends σ z):z=x:=h
theorem did_move (H:Rel cx σ α F a w) (hd:o.dst=some d) (hdn:d<cx.nt) {x:Operand} (ho:o.op=.move x) (h:(evalO1 x fun v=>(.ret [.s d v]:Prog (List Wr))).ends σ ws):Did P cx o a w (appAll ws σ):=by
 obtain ⟨v,h1,h2,h3⟩:=evalO1_inv H h
 rw [ends_ret h3]
 exact did_put H hd hdn (by simp [execOp,ho]) h1 h2
theorem TyOk.sl {t:TypeId} {e:TypeId} {k:K} (h:TyOk P T t (.sl e k)):P.underlying t=some (.slice e)∧TyOk P T e k∧0<k.size∧∃i,P.info? e=some i∧i.bytes=T.bytes e∧0<i.bytes:=by
 unfold TyOk TyOk2 at h
 exact ⟨h.1,h.2.2.1,h.2.2.2.1,h.2.2.2.2⟩
theorem nil_held {e:TypeId} {k:K} {c:Option Addr} {own:List TypeId} {ok:Nat→Prop} {h:Heap}:Ow h own ok (.sl e k) ([]:List (El k)) [.slice c 0 0] []:=by
 unfold Ow
 split
 ·exact ⟨c,0,0,rfl,rfl,Nat.le_refl _, .inl ⟨rfl,rfl⟩⟩
 ·exact ⟨rfl,c,0,0,rfl,rfl,Nat.le_refl _,fun h=>by omega⟩
theorem did_assign {L:K→List TypeId} (H:Rel cx σ α F a w) (hd:o.dst=some d) (hdn:d<cx.nt) {x:Operand} (ho:o.op=.assign x)
  (h:(evalO1 x fun
   | .one .nils=>match T.ty o.type with
    | some (.sl e kk)=>.root (locR d 0) fun
     | none=>.ret [.r (locR d 0) (some (newRoot (.sl e kk) [] (e :: L kk) [] .anon)), .s d (.one (.ref (locR d 0) 0))]
     | some _=>.ret [.s d (.one .nils)]
    | _=>.fail
   | v=>(.ret [.s d v]:Prog (List Wr))).ends σ ws):Did P cx o a w (appAll ws σ):=by
 obtain ⟨v,h1,h2,h3⟩:=evalO1_inv H h
 have hrun:(execOp a.eval o).run P w=.ok (.value (a.eval x)) w:=by simp [execOp,ho]
 have key:ws=[.s d v]→Did P cx o a w (appAll ws σ):=fun e=>by rw [e]; exact did_put H hd hdn hrun h1 h2
 cases v with
 | tup l=>exact key (ends_ret h3)
 | one v=>
  cases v with
  | nils=>
   have h1':=h1
   obtain ⟨c,hc⟩:=h1
   simp only at h3
   split at h3
   ·rename_i e kk hty
    simp only [Prog.ends] at h3
    cases g1:σ.roots (locR d 0) with
    | some Q=>
     rw [g1] at h3
     exact key (ends_ret h3)
    | none=>
    rw [g1] at h3
    have g2:=h3
    rw [ends_ret g2]
    obtain ⟨α',k1,k2⟩:=anonHeld (k:=.sl e kk) (x:=([]:List (El kk))) (own:=e :: L kk) (tags:=[]) (v:=a.eval x) (cs:=[.slice c 0 0]) (fo:=[]) (r:=locR d 0) (F':=F) H g1 (isExt_locR d 0) (fun b hb=>by simp at hb) List.nodup_nil (fun t ht=>by simp at ht)
     (fun b hb=>⟨hb,by simp⟩) H.fnd rfl (fun _=>nil_held) (by rw [hc]; exact slice_VC) false
    exact did_put2 (x:=.one (.ref (locR d 0) 0)) k1 hd hdn hrun k2 ⟨_,setRoot_same .., .inr (Nat.zero_le _)⟩
   ·exact h3.elim
  | _=>exact key (ends_ret h3)
theorem did_pick (H:Rel cx σ α F a w) (hd:o.dst=some d) (hdn:d<cx.nt) {c x y:Operand} (ho:o.op=.pick c x y)
  (h:(evalO c fun c=>asBool c fun c=>evalO1 x fun v=>evalO1 y fun u=>.br c (.ret [.s d v]) ((.ret [.s d u]):Prog (List Wr))).ends σ ws):Did P cx o a w (appAll ws σ):=by
 obtain ⟨vc,h1,_,h⟩:=evalO_inv H h
 obtain ⟨b,h2,h⟩:=asBool_inv h1 h
 obtain ⟨v,h3,h4,h⟩:=evalO1_inv H h
 obtain ⟨u,h5,h6,h⟩:=evalO1_inv H h
 rcases h with ⟨hb,h⟩ | ⟨hb,h⟩
 ·rw [ends_ret h]
  exact did_put H hd hdn (by simp [execOp,ho,h2,hb,Go.asBool]) h3 h4
 ·rw [ends_ret h]
  exact did_put H hd hdn (by simp [execOp,ho,h2,hb,Go.asBool]) h5 h6
theorem TyOk.shape {t:TypeId} {k:K} (h:TyOk P T t k):(∀a b,k≠.pair a b)∧k≠.unit∧∀n,k≠.gap n:=by
 unfold TyOk TyOk2 at h
 refine ⟨fun a b e=>?_,fun e=>?_,fun n e=>?_⟩ <;> subst e <;> exact h.elim
theorem vtysK_all {own:List TypeId} {k:K} (h:∀t∈k.tys,memN t own=true):vtysK own k=[]:=by
 cases he:vtysK own k with
 | nil=>rfl
 | cons t l=>
  exfalso
  have key:∀(k:K),(∀t∈k.tys,memN t own=true)→∀t,t∉vtysK own k:=by
   intro k
   induction k with
   | sl e k ih=>
    intro h t ht
    simp only [vtysK,h e (by simp [K.tys]),cond_true] at ht
    exact ih (fun t ht=>h t (by simp [K.tys,ht])) t ht
   | pair a b iha ihb=>
    intro h t ht
    simp only [vtysK,List.mem_append] at ht
    rcases ht with ht | ht
    ·exact iha (fun t ht=>h t (by simp [K.tys,ht])) t ht
    ·exact ihb (fun t ht=>h t (by simp [K.tys,ht])) t ht
   | st f ih=>intro h t ht; exact ih h t ht
   | _=>intro _ t ht; simp [vtysK] at ht
  exact key k h t (by rw [he]; simp)
theorem memN_self {l:List Nat}:∀t∈l,memN t l=true:=fun t ht=>memN_iff.2 ht
theorem did_alloc (hT:TabOk P T) (H:Rel cx σ α F a w) (hd:o.dst=some d) (hdn:d<cx.nt) {t:TypeId} (ho:o.op=.alloc t)
  (h:(match T.ty t with
   | some kk=>freshR (locR d 0) (.ret [Wr.r (locR d 0) (some (newRoot kk kk.zero kk.tys [] (.var t))),Wr.s d (.one (.ptr (locR d 0) [] 0))])
   | none=>(.fail:Prog (List Wr))).ends σ ws):Did P cx o a w (appAll ws σ):=by
 split at h
 ·rename_i kk hty
  have ht:=hT.ty t kk hty
  obtain ⟨g1,g2⟩:=freshR_inv h
  rw [ends_ret g2]
  obtain ⟨s1,s2,s3⟩:=ht.shape
  have hz:Ow (hp w) kk.tys (okT cx σ α F w []) kk kk.zero (zcells kk) []:=zero_Ow ht.noGap memN_self
  obtain ⟨k0,α',F',k1,k2⟩:=boxHeld (P:=P) (tk:=⟨kk,kk.zero,kk.tys,[],[],false⟩) (t:=t) (v:=zval kk) (cs:=zcells kk) (fo:=[]) (r:=locR d 0) H g1 (isExt_locR d 0)
   ⟨fun _=>hz,fun t ht=>by simp at ht,fun b hb=>by simp at hb,List.nodup_nil,Ow_len hz⟩ rfl (zval_VC s1 s2 s3) false
  have e0:(Took.tags0 ⟨kk,kk.zero,kk.tys,[],[],false⟩)=[]:=by unfold Took.tags0; split <;> rfl
  rw [e0] at k1 k2
  exact did_put2 (x:=.one (.ptr (locR d 0) [] 0)) k1 hd hdn (by
   have:=run_allocAt (P:=P) ht w
   simp only [execOp,ho,Sem.run_bind,this,Result.andThen_ok,Sem.run_pure]) k2 ⟨_,setRoot_same .., .inr (Nat.zero_le _)⟩
 ·exact h.elim
theorem did_nilCheck (H:Rel cx σ α F a w) (hd:o.dst=some d) (hdn:d<cx.nt) {x:Operand} (ho:o.op=.nilCheck x)
  (h:(evalO x fun
   | .ptr r p h=>.ret [.s d (.one (.ptr r p h))]
   | .rptr bt kk y tags=>.ret [.s d (.one (.rptr bt kk y tags))]
   | _=>(.fail:Prog (List Wr))).ends σ ws):Did P cx o a w (appAll ws σ):=by
 obtain ⟨v,h1,h2,h⟩:=evalO_inv H h
 cases v with
 | ptr r p n=>
  rw [ends_ret h]
  obtain ⟨b,q,hv⟩:=h1.1
  exact did_put (v:=a.eval x) H hd hdn (by simp [execOp,ho,hv]) h1 h2
 | rptr bt kk y tags=>
  rw [ends_ret h]
  obtain ⟨b,q,hv⟩:=h1.1
  exact did_put (v:=a.eval x) H hd hdn (by simp [execOp,ho,hv]) h1 h2
 | _=>exact h.elim
end
end Go.Proofs.Ytailcbngagacaaa.Ow

/- The framework, part 18: loads, stores, fields, elements. Own work of this seat. -/
namespace Go.Proofs.Ytailcbngagacaaa.Ow
open Go
variable [Fr]
theorem beq_true {a b:K} {A:Type} {x y:Prog A} {σ:St} {z:A} (h:(bif a.beq b then x else y).ends σ z):(a=b∧x.ends σ z)∨(a.beq b=false∧y.ends σ z):=by
  cases hb:a.beq b with
  | true=>rw [hb] at h; exact .inl ⟨K.eq_of_beq hb,h⟩
  | false=>rw [hb] at h; exact .inr ⟨rfl,h⟩
section
variable {P:Program} {T:Tab} {cx:Cx} {σ:St} {α:Asg} {F:List Nat} {a:Act} {w:World} {o:Oper} {d:Nat} {ws:List Wr}
theorem structField {P:Program} {T:Tab}:∀(n:Nat) {c:K} {fs:List Field} {off0 off:Nat} {k:K},(TyOk2 P T c).2 fs off0→chOff n c=some (off,k)→∃f,fs[n]?=some f∧f.offset=off0+off∧TyOk P T f.type k∧0<k.size:=by
  intro n
  induction n with
  | zero=>
    intro c fs off0 off k h ho
    cases c with
    | pair a b=>
      simp only [chOff,Option.some.injEq,Prod.mk.injEq] at ho
      obtain ⟨rfl,rfl⟩:=ho
      cases fs with
      | nil=>exact h.elim
      | cons f fs=>exact ⟨f,rfl,h.1,h.2.1,h.2.2.1⟩
    | _=>simp [chOff] at ho
  | succ n ih=>
    intro c fs off0 off k h ho
    cases c with
    | pair a b=>
      simp only [chOff] at ho
      cases h2:chOff n b with
      | none=>rw [h2] at ho; simp at ho
      | some q=>
        rw [h2] at ho
        simp only [Option.some.injEq,Prod.mk.injEq] at ho
        cases fs with
        | nil=>exact h.elim
        | cons f fs=>
          obtain ⟨g,g1,g2,g3,g4⟩:=ih (off:=q.1) (k:=q.2) h.2.2.2 (by rw [h2])
          exact ⟨g,by simpa using g1,by rw [g2, ←ho.1]; omega,by rw [←ho.2]; exact g3,by rw [←ho.2]; exact g4⟩
    | _=>simp [chOff] at ho
theorem TyOk.st {t:TypeId} {c:K} (h:TyOk P T t (.st c)):∃fs,P.underlying t=some (.struct fs)∧(TyOk2 P T c).2 fs.toList 0:=by
  unfold TyOk TyOk2 at h
  exact h.1
theorem sub_cells {cs:List Value} {off n:Nat} (h:off+n≤cs.length):((cs.drop off).take n).length=n:=by simp; omega
theorem chOff_le:∀(n:Nat) {c:K} {off:Nat} {k:K},chOff n c=some (off,k)→off+k.size≤c.size:=by
  intro n
  induction n with
  | zero=>intro c off k h; cases c with
    | pair a b=>simp only [chOff,Option.some.injEq,Prod.mk.injEq] at h; obtain ⟨rfl,rfl⟩:=h; simp [K.size]
    | _=>simp [chOff] at h
  | succ n ih=>intro c off k h; cases c with
    | pair a b=>
      simp only [chOff] at h
      cases h2:chOff n b with
      | none=>rw [h2] at h; simp at h
      | some q=>
        rw [h2] at h
        simp only [Option.some.injEq,Prod.mk.injEq] at h
        have:=ih (off:=q.1) (k:=q.2) (by rw [h2])
        simp only [K.size]
        rw [←h.1, ←h.2]
        omega
    | _=>simp [chOff] at h
theorem run_part {t:TypeId} {k:K} (h:TyOk P T t k) (hk:0<k.size) {cs:List Value} {off:Nat} (hl:off+k.size≤cs.length):∃u,(part t cs.toArray off).run P w=.ok u w∧((∀x,u≠.agg x)∨isSt k=true→VC k u ((cs.drop off).take k.size)):=by
  unfold part
  simp only [Sem.run_bind,h.isAgg w,Result.andThen]
  cases hs:isSt k with
  | true=>
    refine ⟨.agg (cs.toArray.extract off (off+k.size)),by simp [h.info.sizeOf w,Result.andThen],fun _=>?_⟩
    cases k with
    | st c=>
      show Value.agg _=.agg _
      congr 1
      apply Array.ext'
      simp [List.extract_eq_take_drop]
    | _=>simp [isSt] at hs
  | false=>
    have hlt:off<cs.length:=by omega
    refine ⟨cs[off],by simp [hlt],fun hu=>?_⟩
    have hu':∀x,cs[off]≠.agg x:=hu.resolve_right (by simp)
    have hk1:k.size=1:=by
      cases k with
      | st c=>simp [isSt] at hs
      | pair a b=>exact (show False from h).elim
      | unit=>exact (show False from h).elim
      | gap n=>exact (show False from h).elim
      | _=>rfl
    have e:(cs.drop off).take k.size=[cs[off]]:=by
      rw [hk1,List.drop_eq_getElem_cons hlt]
      rfl
    rw [e]
    cases k with
    | st c=>simp [isSt] at hs
    | _=>exact ⟨rfl,hu'⟩
theorem oneCell_noAgg {v:Value} (h:v.oneCell'=true):∀x,v≠.agg x:=by
  intro x e
  subst e
  simp [Value.oneCell'] at h
theorem run_field {t:TypeId} {c:K} (h:TyOk P T t (.st c)) {cs:List Value} {n off:Nat} {k:K} (ho:chOff n c=some (off,k)) (hl:cs.length=c.size) (h1:∀v∈cs,v.oneCell'=true) :
    ∃u,(Instr.field t (.agg cs.toArray) n).run P w=.ok u w∧VC k u ((cs.drop off).take k.size):=by
  obtain ⟨fs,hu,hf⟩:=h.st
  obtain ⟨f,f1,f2,f3,f4⟩:=structField n hf ho
  have hle:=chOff_le n ho
  obtain ⟨u,g1,g2⟩:=run_part (w:=w) f3 f4 (cs:=cs) (off:=off) (by omega)
  have f1':fs[n]?=some f:=by rw [←Array.getElem?_toList]; exact f1
  refine ⟨u, ?_,g2 ?_⟩
  · unfold Instr.field
    simp only [Sem.run_bind,run_underlying hu,Result.andThen,f1',asAgg,Sem.run_pure]
    rw [show f.offset=off from by omega]
    exact g1
  · cases hs:isSt k with
    | true=>exact .inr rfl
    | false=>
      left
      unfold part at g1
      simp only [Sem.run_bind,f3.isAgg w,Result.andThen,hs] at g1
      have hlt:off<cs.length:=by omega
      simp [hlt] at g1
      rw [←g1]
      exact oneCell_noAgg (h1 _ (List.getElem_mem hlt))
theorem bor_same {r:Nat} {R:Root} {p:List Stp} {v:Value} {dd:Dat} {cs:List Value} {wh:Option (Nat×Nat)} (hr:liveR σ r R) (hg:getP p R.k R.x=some dd) (h1:PIn p R.k R.x) (h2:∀t∈pathTys p R.k,memN t R.own=true)
    (h3:navF (hp w) p R.k (α.hdr r) (whR α R r)=some (cs,wh)) (h4:VC dd.1 v cs):AVok cx σ α F w (.bor r p R.ver) v:=by
  intro R' hR' _ _ d' hd'
  rw [hr.1] at hR'
  simp only [Option.some.injEq] at hR'
  subst hR'
  rw [hg] at hd'
  simp only [Option.some.injEq] at hd'
  subst hd'
  exact ⟨h1,h2,cs,wh,h3,h4⟩
theorem Rel.grown0 (H:Rel cx σ α F a w) {w':World} (hos:w'.os=w.os) (hout:w'.output=w.output) (hsz:w.heap.size≤w'.heap.size) (hold:∀b,b<w.heap.size→hp w' b=hp w b) (ht:w'.tape=w.tape):Rel cx σ α F a w':=by
  have hs:∀r,Same σ α σ α r:=fun r=>⟨rfl,rfl,rfl,rfl⟩
  have hch:∀b,b<w.heap.size→hp w' b=hp w b:=hold
  have T:Turn cx σ α F w σ α F w' (fun _=>[]) (fun _=>[]):=by
    refine ⟨rfl,⟨hos,ht,hout⟩,hsz,fun r R hr=>⟨R,hr, ?_⟩,fun r R' _ h=>absurd (hs r) h,fun r R' h1 h2=>by rw [h1] at h2; simp at h2,fun b hb hne=>absurd (hch b hb) hne, ?_,H.fnd,
      fun r R' _ h=>absurd (hs r) h,fun r R r' R' _ _ _ h=>absurd (hs r) h, ?_,fun r R R' h1 h2 _=>by rw [h1] at h2; simp only [Option.some.injEq] at h2; subst h2; exact ⟨rfl,rfl⟩⟩
    · cases hd:R.isDead with
      | true=>exact .inl ⟨rfl,fun hk=>by unfold Root.isDead at hd; rw [hk] at hd; simp at hd⟩
      | false=>exact .inr ⟨rfl,rfl,rfl,Nat.le_refl _,rfl,rfl,fun _=>rfl, .inr ⟨rfl,rfl,hs r⟩⟩
    · rintro b (⟨r,R,h1,h2,h3⟩ | h)
      · exact absurd ⟨R,h1,h2⟩ h3
      · exact .inl h
    · intro j pi b o n h1 h2 hne
      obtain ⟨R,hR,hk,hl,_⟩:=H.pbase j pi b o n h1 h2
      exact absurd (hch b ((H.roots _ R hR).mine b (by simp [blk,whR,hk,hl])).1) hne
  exact H.turn T (fun r R _ h=>absurd (hs r) h) (fun r R _ h=>absurd (hs r) h) (fun r R _ h=>absurd (hs r) h)
theorem chK_off:∀(n:Nat) {c:K},(pathTys.chK n c).isSome=true→∃off k,chOff n c=some (off,k):=by
  intro n
  induction n with
  | zero=>intro c h; cases c with
    | pair a b=>exact ⟨0,a,rfl⟩
    | _=>simp [pathTys.chK] at h
  | succ n ih=>intro c h; cases c with
    | pair a b=>obtain ⟨off,k,h1⟩:=ih (c:=b) h; exact ⟨a.size+off,k,by simp [chOff,h1]⟩
    | _=>simp [pathTys.chK] at h
theorem chK_off2:∀(n:Nat) {c k:K},pathTys.chK n c=some k→∃off,chOff n c=some (off,k):=by
  intro n
  induction n with
  | zero=>intro c k h; cases c with
    | pair a b=>simp only [pathTys.chK,Option.some.injEq] at h; subst h; exact ⟨0,rfl⟩
    | _=>simp [pathTys.chK] at h
  | succ n ih=>intro c k h; cases c with
    | pair a b=>obtain ⟨off,h1⟩:=ih (c:=b) h; exact ⟨a.size+off,by simp [chOff,h1]⟩
    | _=>simp [pathTys.chK] at h
theorem fldOff_append:∀(p:List Stp) {n:Nat} {k k1 k2:K} {off o2:Nat} {c:K},fldOff p k=some (off,k1)→k1=.st c→chOff n c=some (o2,k2)→fldOff (p++[.fld n]) k=some (off+o2,k2):=by
  intro p
  induction p with
  | nil=>
    intro n k k1 k2 off o2 c h e h2
    simp only [fldOff,Option.some.injEq,Prod.mk.injEq] at h
    obtain ⟨rfl,rfl⟩:=h
    subst e
    simp [fldOff,h2]
  | cons s p ih=>
    intro n k k1 k2 off o2 c h e h2
    cases s with
    | idx i=>simp [fldOff] at h
    | fld m=>
      cases k with
      | st c'=>
        simp only [fldOff,List.cons_append] at h ⊢
        cases hq:chOff m c' with
        | none=>rw [hq] at h; simp at h
        | some q=>
          rw [hq] at h
          simp only at h ⊢
          cases hr:fldOff p q.2 with
          | none=>rw [hr] at h; simp at h
          | some r=>
            rw [hr] at h
            simp only [Option.some.injEq,Prod.mk.injEq] at h
            obtain ⟨rfl,rfl⟩:=h
            rw [ih (off:=r.1) (k1:=r.2) (by rw [hr]) e h2]
            simp only [Nat.add_assoc]
      | _=>simp [fldOff] at h
theorem kindP_off:∀(p:List Stp) {k k1 k2:K} {off:Nat},kindP p k=some k1→fldOff p k=some (off,k2)→k2=k1:=by
  intro p
  induction p with
  | nil=>
    intro k k1 k2 off h1 h2
    simp only [kindP,Option.some.injEq] at h1
    simp only [fldOff,Option.some.injEq,Prod.mk.injEq] at h2
    rw [←h1,h2.2]
  | cons s p ih=>
    intro k k1 k2 off h1 h2
    cases s with
    | idx i=>simp [fldOff] at h2
    | fld m=>
      cases k with
      | st c=>
        simp only [kindP,fldOff] at h1 h2
        cases hk:pathTys.chK m c with
        | none=>rw [hk] at h1; simp at h1
        | some k0=>
          obtain ⟨o,ho⟩:=chK_off2 m hk
          rw [hk] at h1
          rw [ho] at h2
          simp only at h1 h2
          cases hr:fldOff p k0 with
          | none=>rw [hr] at h2; simp at h2
          | some r=>
            rw [hr] at h2
            simp only [Option.some.injEq,Prod.mk.injEq] at h2
            rw [←h2.2]
            exact ih (off:=r.1) h1 (by rw [hr])
      | _=>simp [fldOff] at h2
theorem fldOff_nav {h:Heap}:∀(p:List Stp) {k k1:K} {x:El k} {cs:List Value} {d:Dat} {off:Nat},getP p k x=some d→fldOff p k=some (off,k1)→cs.length=k.size→
    k1=d.1∧off+k1.size≤cs.length∧navF h p k cs none=some ((cs.drop off).take k1.size,none)∧PIn p k x∧pathTys p k=[]:=by
  intro p
  induction p with
  | nil=>
    intro k k1 x cs d off hg ho hl
    simp only [getP,Option.some.injEq] at hg
    simp only [fldOff,Option.some.injEq,Prod.mk.injEq] at ho
    obtain ⟨rfl,rfl⟩:=ho
    subst hg
    exact ⟨rfl,by omega,by simp [navF, ←hl],trivial,by simp [pathTys]⟩
  | cons s p ih=>
    intro k k1 x cs d off hg ho hl
    cases s with
    | idx i=>simp [fldOff] at ho
    | fld n=>
      cases k with
      | st c=>
        simp only [getP,fldOff] at hg ho
        cases hcg:chGet n c x with
        | none=>rw [hcg] at hg; simp at hg
        | some s=>
          rw [hcg] at hg
          simp only at hg
          cases hq:chOff n c with
          | none=>rw [hq] at ho; simp at ho
          | some q=>
            have hk2:q.2=s.1:=chOff_kind n (c:=c) hcg hq
            rw [hq] at ho
            obtain ⟨q1,q2⟩:=q
            simp only at hk2 ho
            subst hk2
            cases hr:fldOff p s.1 with
            | none=>rw [hr] at ho; simp at ho
            | some r=>
              rw [hr] at ho
              simp only [Option.some.injEq,Prod.mk.injEq] at ho
              obtain ⟨rfl,rfl⟩:=ho
              have hle:=chOff_le n hq
              have hl':cs.length=c.size:=hl
              obtain ⟨g1,g2,g3,g4,g5⟩:=ih (cs:=(cs.drop q1).take s.1.size) (off:=r.1) (k1:=r.2) hg (by rw [hr]) (sub_cells (by omega))
              rw [sub_cells (by omega)] at g2
              refine ⟨g1,by omega, ?_,by simp only [PIn,hcg]; exact g4,by simp [pathTys,chK_of_get n hcg,g5]⟩
              simp only [navF]
              rw [hq]
              simp only [Option.map_none]
              rw [g3]
              simp only [List.drop_take,List.take_take,List.drop_drop,Nat.min_eq_left (show r.2.size≤s.1.size - r.1 by omega)]
      | _=>simp [getP] at hg
theorem did_load (hT:TabOk P T) (H:Rel cx σ α F a w) (hd:o.dst=some d) (hdn:d<cx.nt) {t:TypeId} {x:Operand} {bor:Bool} (ho:o.op=.load t x)
    (h:(evalO x fun v=>loadP T bor t v fun u=>(.ret [Wr.s d (.one u)]:Prog (List Wr))).ends σ ws):Did P cx o a w (appAll ws σ):=by
  obtain ⟨v,h1,h2,h⟩:=evalO_inv H h
  unfold loadP at h
  split at h
  · exact h.elim
  · rename_i kk hty
    have ht:=hT.ty t kk hty
    obtain ⟨s1,s2,s3⟩:=ht.shape
    split at h
    · rename_i r g k0 p
      obtain ⟨u,b,off,k1,e,hq,hC,ho1,hR⟩:=h1
      obtain ⟨R,hr,hv,h⟩:=useR_inv h
      rcases cond_ends h with ⟨hc,h⟩ | ⟨_,h⟩
      · simp only [Bool.and_eq_true] at hc
        cases hg:getP p R.k R.x with
        | none=>rw [hg] at h; exact h.elim
        | some dd=>
          rw [hg] at h
          simp only at h
          obtain ⟨dk,dx⟩:=dd
          rcases beq_true h with ⟨ek,h5⟩ | ⟨_,h⟩
          · simp only at ek
            subst ek
            have hk0:=K.eq_of_beq hc.1.2
            subst hk0
            obtain ⟨hka,hvc⟩:=hR R hr (Nat.eq_of_beq_eq_true hc.1.1)
            rw [hvc.cells] at hC
            have hwn:whR α R r=none:=by unfold whR; rw [hka]
            obtain ⟨g1,g2,g3,g4,g5⟩:=fldOff_nav (h:=hp w) p hg ho1 (H.roots r R hr).len
            simp only at g1
            subst g1
            have hown:∀t∈pathTys p R.k,memN t R.own=true:=fun t ht=>by rw [g5] at ht; simp at ht
            have hn:navF (hp w) p R.k (α.hdr r) (whR α R r)=some (((α.hdr r).drop off).take k1.size,none):=by rw [hwn]; exact g3
            obtain ⟨fo1,hO,hf⟩:=placeOw H hr hv hg g4 hown hn
            have hV:=out_view H hr hO hf
            have hcs:Cells (hp w) b off (((α.hdr r).drop off).take k1.size):=by
              intro i hi
              have hi':i<k1.size:=by rw [sub_cells g2] at hi; exact hi
              have:=hC (off+i) (by omega)
              rw [Nat.zero_add] at this
              rw [this,List.getElem?_take_of_lt hi',List.getElem?_drop]
            obtain ⟨u',hu⟩:=VC.mk s1 s2 s3 hV
            have hrun:=run_loadAt (P:=P) ht hcs (Vw_len hV) hu
            have hrun':(execOp a.eval o).run P w=.ok (.value u') w:=by simp only [execOp,ho,e,Sem.run_bind,hrun,Result.andThen_ok,Sem.run_pure]
            rcases cond_ends h5 with ⟨hf,h6⟩ | ⟨_,h6⟩
            · rw [ends_ret h6]
              exact did_put H hd hdn hrun' (show AVok cx σ α F w (.val k1 dx []) u' from fun _=>⟨_,hu,Vw_flat hf hV⟩) (fun t ht=>by simp at ht)
            · rw [ends_ret h6]
              exact did_put (x:=.one (.bor r p R.ver)) H hd hdn hrun' (bor_same (cx:=cx) (F:=F) hr hg g4 hown hn hu) ⟨R,hr.1, .inr (Nat.le_refl _)⟩
          · exact h.elim
      · exact h.elim
    rcases addrOf_inv H h1 h2 h with ⟨r,R,p,dd,cs,b,q,hr,hv,hg,hpin,hown,hn,e,h⟩ | ⟨bt,dd,Tg,b,q,cs,hw,e,hcs,hV,hok,hb,h⟩
    · obtain ⟨hC,⟨fo1,hO,hf⟩,_⟩:=placeMem H hr hv hg hpin hown hn
      obtain ⟨dk,dx⟩:=dd
      rcases beq_true h with ⟨ek,h5⟩ | ⟨_,h⟩
      · simp only at ek
        subst ek
        clear h
        have h:=h5
        clear h5
        have hV:=out_view H hr hO hf
        obtain ⟨u,hu⟩:=VC.mk s1 s2 s3 hV
        have hrun:=run_loadAt (P:=P) ht hC (Vw_len hV) hu
        have hrun':(execOp a.eval o).run P w=.ok (.value u) w:=by simp only [execOp,ho,e,Sem.run_bind,hrun,Result.andThen_ok,Sem.run_pure]
        rcases cond_ends h with ⟨_,h⟩ | ⟨_,h⟩
        · rw [ends_ret h]
          exact did_put (x:=.one (.bor r p R.ver)) H hd hdn hrun' (bor_same (cx:=cx) (F:=F) hr hg hpin hown hn hu) ⟨R,hr.1, .inr (Nat.le_refl _)⟩
        · rw [ends_ret h]
          exact did_put H hd hdn hrun' (show AVok cx σ α F w (.val dk dx _) u from fun _=>⟨cs,hu,hV⟩) (out_W H hr _)
      · exact h.elim
    · obtain ⟨dk,dx⟩:=dd
      rcases beq_true h with ⟨ek,h5⟩ | ⟨_,h⟩
      · simp only at ek
        subst ek
        clear h
        have h:=h5
        clear h5
        obtain ⟨u,hu⟩:=VC.mk s1 s2 s3 hV
        have hrun:=run_loadAt (P:=P) ht hcs (Vw_len hV) hu
        have hrun':(execOp a.eval o).run P w=.ok (.value u) w:=by simp only [execOp,ho,e,Sem.run_bind,hrun,Result.andThen_ok,Sem.run_pure]
        rw [ends_ret h]
        refine did_put H hd hdn hrun' (show AVok cx σ α F w (.val dk dx _) u from fun _=>⟨cs,hu, ?_⟩) ?_
        · cases hf:dk.flat with
          | true=>exact Vw_flat hf hV
          | false=>exact hV
        · cases hf:dk.flat with
          | true=>intro t ht; simp at ht
          | false=>exact hw
      · exact h.elim
theorem setRoot_setRoot (σ:St) (r:Nat) (A B:Root):setRoot (setRoot σ r A) r B=setRoot σ r B:=by
  unfold setRoot
  simp only [St.mk.injEq,true_and]
  funext n
  unfold upd
  cases Nat.beq n r <;> rfl
theorem flds_setP {h:Heap}:∀(p:List Stp) {k:K} {x:El k} {t d z:Dat},p.all Stp.isFld=true→getP p k x=some d→setP p k x t=some z→t.1.size=d.1.size→
    getP p z.1 z.2=some t∧PIn p z.1 z.2∧pathTys p z.1=[]∧∀cs wh,navF h p z.1 cs wh=navF h p k cs wh:=by
  intro p
  induction p with
  | nil=>
    intro k x t d z _ hg hz hs
    simp only [setP,Option.some.injEq] at hz
    subst hz
    exact ⟨rfl,trivial,by simp [pathTys],fun cs wh=>rfl⟩
  | cons s p ih=>
    intro k x t d z hp hg hz hs
    cases s with
    | idx i=>simp [Stp.isFld] at hp
    | fld n=>
      have hp':p.all Stp.isFld=true:=by simpa [Stp.isFld] using hp
      cases k with
      | st c=>
        simp only [getP,setP] at hg hz
        cases hcg:chGet n c x with
        | none=>rw [hcg] at hg; simp at hg
        | some s=>
          rw [hcg] at hg hz
          simp only at hg hz
          cases hs':setP p s.1 s.2 t with
          | none=>rw [hs'] at hz; simp at hz
          | some u=>
            rw [hs'] at hz
            simp only at hz
            cases hcp:chPut n c x u with
            | none=>rw [hcp] at hz; simp at hz
            | some y=>
              rw [hcp] at hz
              simp only [Option.some.injEq] at hz
              subst hz
              obtain ⟨i1,i2,i3,i4⟩:=ih hp' hg hs' hs
              have e1:chGet n y.1 y.2=some u:=chGet_put n hcp
              have hsz:u.1.size=s.1.size:=setP_like p hg hs hs'
              refine ⟨by simp only [getP,e1]; exact i1,by simp only [PIn,e1]; exact i2,by simp [pathTys,chK_of_get n e1,i3],fun cs wh=>?_⟩
              simp only [navF]
              cases ho:chOff n c with
              | none=>
                exfalso
                obtain ⟨off,h1⟩:=chK_off2 n (chK_of_get n hcg)
                rw [ho] at h1; simp at h1
              | some q=>
                have hk2:q.2=s.1:=chOff_kind n (c:=c) hcg ho
                obtain ⟨q1,q2⟩:=q
                simp only at hk2
                subst hk2
                rw [chOff_of_put n ho hcp]
                simp only
                rw [hsz]
                exact i4 _ _
      | _=>simp [getP] at hg
theorem regain_inv {R:Root} {r:Nat} {p:List Stp} {d:Dat} {tk:Took} {q:Root×Dat} (h:regain R r p d tk=some q) :
    ∃zg own',setP p R.k R.x (holeD d)=some zg∧q=(gapRootO R d zg own',(holeD d))∧(∀t∈zg.1.tys,memN t own'=memN t R.own)∧p.all Stp.isFld=true∧(p≠[]∨∃t,R.kind=.var t)∧∀n,(r,n)∉tk.tags:=by
  unfold regain at h
  cases hc:(!d.1.flat && p.all Stp.isFld && !R.keep && (!p.isEmpty || R.isVar) && tk.tags.all (fun t=>!Nat.beq t.1 r)) with
  | false=>rw [hc] at h; simp at h
  | true=>
    rw [hc] at h
    simp only [cond_true] at h
    simp only [Bool.and_eq_true] at hc
    obtain ⟨⟨⟨⟨_,c1⟩,_⟩,c2⟩,c3⟩:=hc
    unfold gapAt at h
    cases hz:setP p R.k R.x (holeD d) with
    | none=>rw [hz] at h; simp at h
    | some zg=>
      rw [hz] at h
      simp only at h
      cases hl:tk.own.filter (fun t=>!memN t R.own && memN t d.1.tys && !memN t zg.1.tys) with
      | nil=>rw [hl] at h; simp at h
      | cons a l=>
        rw [hl] at h
        simp only [Option.some.injEq] at h
        refine ⟨zg,(a :: l)++R.own,rfl,h.symm,fun t ht=>?_,c1, ?_,fun n hn=>?_⟩
        · cases hm:memN t R.own with
          | true=>rw [memN_iff] at hm ⊢; exact List.mem_append_right _ hm
          | false=>
            rw [memN_false] at hm ⊢
            intro h1
            rcases List.mem_append.1 h1 with h1 | h1
            · rw [←hl] at h1
              have:=(List.mem_filter.1 h1).2
              simp only [Bool.and_eq_true,Bool.not_eq_true',memN_false] at this
              exact this.2 ht
            · exact hm h1
        · rcases Bool.or_eq_true .. |>.mp c2 with h1 | h1
          · left; intro e; rw [e] at h1; simp at h1
          · right
            unfold Root.isVar at h1
            cases hk:R.kind with
            | var t=>exact ⟨t,rfl⟩
            | anon=>rw [hk] at h1; simp at h1
            | par=>rw [hk] at h1; simp at h1
            | dead=>rw [hk] at h1; simp at h1
        · have:=List.all_eq_true.1 c3 _ hn
          simp at this
theorem storeAt_ok {t:TypeId} {kk:K} {x:El kk} {town:List TypeId} {ttags:List Tag} {tws:List Wr} {tkeep:Bool} {cst:List Value} {fot:List Nat} {v:Value} {r:Nat} {R:Root} (ht:TyOk P T t kk)
    (H:Rel cx σ α F a w) (hr:liveR σ r R) (hv:validR σ R) {p:List Stp} {dd:Dat} (hg:getP p R.k R.x=some dd) (hpin:PIn p R.k R.x) (hown:∀t∈pathTys p R.k,memN t R.own=true)
    (k2:cleanT σ (vtysK town kk) ttags=true) (k3:VC kk v cst) (k1:Held cx σ α F w kk x town ttags cst fot)
    {cs1:List Value} {b o:Nat} (hn:navF (hp w) p R.k (α.hdr r) (whR α R r)=some (cs1,some (b,o))) {A:Type} {z:A} {k:List Wr→Prog A} {σ0:St} (h:(storeAt kk r p ⟨kk,x,town,ttags,tws,tkeep⟩ R dd k).ends σ0 z) :
    ∃w',(Instr.storeAt t (.pointer (some ⟨b,o,none⟩)) v).run P w=.ok () w'∧∃α' F',∃R',Rel cx (setRoot σ r R') α' F' a w'∧(k (tws++[.r r (some R')])).ends σ0 z:=by
  unfold storeAt at h
  rcases cond_ends h with ⟨hc3,h⟩ | ⟨_,h⟩
  · simp only [Bool.and_eq_true] at hc3
    simp only [Took.bad] at hc3 h
    cases hz:setP p R.k R.x ⟨kk,x⟩ with
    | none=>rw [hz] at h; exact h.elim
    | some z=>
      rw [hz] at h
      simp only at h
      rcases cond_ends h with ⟨_,h⟩ | ⟨_,h⟩
      · exact h.elim
      · obtain ⟨w',r1,α',F',r2⟩:=storeHeld (P:=P) (z:=z) ht H hr hv hg hz hpin hown k1 k2 k3
          (by
            rcases Bool.or_eq_true .. |>.mp hc3.1.1 with h | h
            · exact .inl (K.eq_of_beq h)
            · exact .inr (K.eq_of_beq (Bool.and_eq_true .. |>.mp h).1))
          (by
            rcases Bool.or_eq_true .. |>.mp hc3.1.2 with h | h
            · exact .inl h
            · exact .inr h)
          (fun t ht=>by
            have:=List.all_eq_true.1 hc3.2 t ht
            simpa [memN_false] using this) (R.keep || tkeep) hn
        exact ⟨w',r1,α',F',_,r2,h⟩
  · exact h.elim
theorem did_storeV (hT:TabOk P T) (H:Rel cx σ α F a w) (hd:o.dst=none) {t:TypeId} {x y:Operand} (ho:o.op=.store t x y) {u v:AV} (h1:AVok cx σ α F w u (a.eval x)) (h2:avW σ u) (h3:AVok cx σ α F w v (a.eval y)) (h4:avW σ v)
    (h:(storeP T t u v fun ws=>(.ret ws:Prog (List Wr))).ends σ ws):Did P cx o a w (appAll ws σ):=by
  unfold storeP at h
  cases hty:T.ty t with
  | none=>rw [hty] at h; exact h.elim
  | some kk=>
   rw [hty] at h
   cases u with
   | ptr r p n=>
    simp only at h
    have ht:=hT.ty t kk hty
    obtain ⟨tk,htk,h⟩:=takeV_inv H h3 h4 h
    rcases cond_ends h with ⟨hc1,h⟩ | ⟨_,h⟩
    · simp only [Bool.and_eq_true] at hc1
      obtain ⟨R,hr,hv,h⟩:=useR_inv h
      rcases cond_ends h with ⟨hc2,h⟩ | ⟨_,h⟩
      · simp only [Bool.and_eq_true] at hc2
        cases hg:getP p R.k R.x with
        | none=>rw [hg] at h; exact h.elim
        | some dd=>
          rw [hg] at h
          simp only at h
          have hkk:tk.k=kk:=K.eq_of_beq hc1.1
          have hrid:=ws_notr hc1.2
          have hown:=memN_all hc2.1.2
          obtain ⟨hpin,cs,b,q,hn,e⟩:=h1.2 R hr.1 hv hc2.1.1 hown (by rw [hg]; rfl)
          have hap:=apartW_iff.1 hc2.2
          obtain ⟨α1,F1,cst,fot,lw,lh,H1,T1,k1,k2,k3,k4,k5,k6⟩:=take1 H htk
          have hS:=k6 r hrid
          have hr1:=(hS.live R).2 hr
          have hv1:validR (appAll tk.ws σ) R:=⟨hv.1,by rw [cleanT_same (fun t ht=>(k6 t.1 (hap t ht)).root)]; exact hv.2⟩
          have hn1:navF (hp w) p R.k (α1.hdr r) (whR α1 R r)=some (cs,some (b,q)):=by rw [hS.hdr,hS.wh]; exact hn
          obtain ⟨tkk,tkx,town,ttags,tws,tkeep⟩:=tk
          simp only at hkk
          subst hkk
          simp only [Took.bad] at k2 k3 h
          cases hrg:regain R r p dd ⟨tkk,tkx,town,ttags,tws,tkeep⟩ with
          | none=>
            rw [hrg] at h
            obtain ⟨w',r1,α',F',r2⟩:=storeAt_ok (P:=P) ht H1 hr1 hv1 hg hpin hown k3 k1 k2 hn1 h
            obtain ⟨R',r2,r3⟩:=r2
            rw [ends_ret r3]
            refine ⟨undef,w',α',F', .inr ⟨?_,rfl⟩, ?_⟩
            · simp only [execOp,ho,e,Sem.run_bind,r1,Result.andThen_ok,Sem.run_pure]
            · rw [hd,appAll_append]
              exact r2
          | some qq=>
            rw [hrg] at h
            simp only at h
            obtain ⟨hck,h⟩:=chkTags_inv h
            obtain ⟨zg,own',g1,g2,g3,g4,g5,g6⟩:=regain_inv hrg
            subst g2
            simp only at hck h
            have hnt:=(H1.wroots r R hr1.1).2.2
            obtain ⟨cs1,wh',fo1,rest,hn',H2,T2,_,_,hpm⟩:=gap2 (own':=own') H1 hr1 hv1 hg g1 hpin hown g5 g3
            rw [hn1] at hn'
            simp only [Option.some.injEq,Prod.mk.injEq] at hn'
            obtain ⟨rfl,rfl⟩:=hn'
            have hr2:liveR (setRoot (appAll tws σ) r (gapRootO R dd zg own')) r (gapRootO R dd zg own'):=⟨setRoot_same ..,hr.2⟩
            have hv2:validR (setRoot (appAll tws σ) r (gapRootO R dd zg own')) (gapRootO R dd zg own'):=⟨hv.1,by
              show cleanT _ _ R.tags=true
              rw [cleanT_set hnt,cleanT_same (fun t ht=>(k6 t.1 (hap t ht)).root)]
              exact hck⟩
            have k1':=k2.turn H1 T2 (fun b hb=>⟨rfl,List.mem_append_right _ (k2.sub b hb)⟩)
            have k2':cleanT (setRoot (appAll tws σ) r (gapRootO R dd zg own')) (vtysK town tkk) ttags=true:=by rw [cleanT_set g6]; exact k3
            obtain ⟨f1,f2,f3,f4⟩:=flds_setP (h:=hp w) p g4 hg g1 (hole_size dd.1)
            have hsd:(setAsg α1 r (α1.loc r) (α1.hdr r) rest).hdr r=α1.hdr r:=by simp [setAsg,upd_same]
            have hswh:whR (setAsg α1 r (α1.loc r) (α1.hdr r) rest) (gapRootO R dd zg own') r=whR α1 R r:=by rw [whR_setAsg,whOf_kind (show (gapRootO R dd zg own').kind=R.kind from rfl), ←whR_whOf]
            have hn2:navF (hp w) p (gapRootO R dd zg own').k ((setAsg α1 r (α1.loc r) (α1.hdr r) rest).hdr r) (whR (setAsg α1 r (α1.loc r) (α1.hdr r) rest) (gapRootO R dd zg own') r)=some (cs,some (b,q)):=by
              rw [hsd,hswh]
              exact (f4 _ _).trans hn1
            obtain ⟨w',r1,α',F',r2⟩:=storeAt_ok (P:=P) ht H2 hr2 hv2 f1 f2 (fun t ht=>by have ht':t∈pathTys p zg.1:=ht; rw [f3] at ht'; simp at ht') k2' k1 k1' hn2 h
            obtain ⟨R',r2,r3⟩:=r2
            rw [ends_ret r3]
            refine ⟨undef,w',α',F', .inr ⟨?_,rfl⟩, ?_⟩
            · simp only [execOp,ho,e,Sem.run_bind,r1,Result.andThen_ok,Sem.run_pure]
            · rw [hd,appAll_append]
              rw [setRoot_setRoot] at r2
              exact r2
      · exact h.elim
    · exact h.elim
   | _=>exact h.elim
theorem cpyP_inv {A:Type} {z:A} {x:AV} {kk:K} {yes:Nat→Nat→Prog A} {no:Prog A} (h:(cpyP x kk yes no).ends σ z):(∃r g R,x=.ref r g∧liveR σ r R∧validR σ R∧R.g=g∧R.k=kk∧(yes r g).ends σ z)∨no.ends σ z:=by
  cases x with
  | ref r g=>
    simp only [cpyP,Prog.ends] at h
    cases hr:σ.roots r with
    | none=>rw [hr] at h; exact .inr h
    | some R=>
      rw [hr] at h
      simp only at h
      rcases cond_ends h with ⟨_,h⟩ | ⟨_,h⟩
      · obtain ⟨R',hr',hv,h⟩:=useR_inv h
        rcases cond_ends h with ⟨hc,h⟩ | ⟨_,h⟩
        · simp only [Bool.and_eq_true] at hc
          exact .inl ⟨r,g,R',rfl,hr',hv,Nat.eq_of_beq_eq_true hc.1,K.eq_of_beq hc.2,h⟩
        · exact h.elim
      · exact .inr h
  | _=>exact .inr h
theorem did_box (H:Rel cx σ α F a w) (hd:o.dst=some d) (hdn:d<cx.nt) {t:TypeId} {x:Operand} (ho:o.op=.box t x)
    (h:(match T.ty t with
      | some kk=>evalO x fun a=>cpyP a kk (fun r g=>.ret [Wr.s d (.one (.cpy r g kk []))]) <| takeV kk a fun tk=>bif tk.k.beq kk && !memN t tk.bad then
          freshR (locR d 0) (.ret (tk.ws++[Wr.r (locR d 0) (some (newRoot tk.k tk.x tk.own tk.tags0 (.var t) tk.keep)),Wr.s d (.one (.ptr (locR d 0) [] 0))]))
        else (.fail:Prog (List Wr))
      | none=>.fail).ends σ ws):Did P cx o a w (appAll ws σ):=by
  split at h
  · rename_i kk hty
    obtain ⟨u,h1,h2,h⟩:=evalO_inv H h
    rcases cpyP_inv h with ⟨r,g,R,eu,hr,hv,eg,ek,h5⟩ | h
    · subst eu eg ek
      obtain ⟨hka,hvc⟩:=h1 R hr rfl
      have hb0:∀b,b<w.heap.size→hp (w.alloc (.cells (a.eval x).cells t)) b=hp w b:=fun b hb=>hp_alloc_old w _ hb
      have H1:Rel cx σ α F a (w.alloc (.cells (a.eval x).cells t)):=H.grown0 rfl rfl (by show w.heap.size≤(w.heap.push _).size; simp) hb0 rfl
      have hnew:=hp_alloc_new w (.cells (a.eval x).cells t)
      rw [ends_ret h5]
      refine did_put2 (v:=.pointer (some ⟨w.heap.size,0,none⟩)) (x:=.one (.cpy r R.g R.k [])) H1 hd hdn (by simp only [execOp,ho,Sem.run_bind,run_boxAt,Result.andThen_ok,Sem.run_pure]) ⟨a.eval x,w.heap.size,0,R.k,rfl,⟨?_,fun hF=>?_,fun q Q hq hbq=>?_⟩,fun i hi=>?_,rfl,h1⟩ h2
      · show w.heap.size<(w.heap.push _).size; simp
      · have:=(H.fl _ hF).1; omega
      · have:=((H.roots q Q hq).mine _ hbq).1; omega
      · unfold cellAt
        rw [hnew]
        simp
    obtain ⟨tk,htk,h⟩:=takeV_inv H h1 h2 h
    rcases cond_ends h with ⟨_,h⟩ | ⟨_,h⟩
    · obtain ⟨g1,g2⟩:=freshR_inv h
      rw [ends_ret g2]
      obtain ⟨α1,F1,cst,fot,lw,lh,H1,T1,k1,k2,k3,k4,k5,k6⟩:=take1 H htk
      have hnr:locR d 0∉tk.ws.flatMap Wr.rid:=by
        intro hm
        cases htk with
        | held hws cs hv h hc=>rw [hws] at hm; simp at hm
        | ref r R hr hv e hk hd=>rw [e] at hm; simp only [List.flatMap_cons,List.flatMap_nil,List.append_nil,Wr.rid,List.mem_singleton] at hm; rw [hm,hr.1] at g1; simp at g1
        | cut r R cs hr hv hk e hd hl hvt how=>rw [e.2.2.1] at hm; simp only [List.flatMap_cons,List.flatMap_nil,List.append_nil,Wr.rid,List.mem_singleton] at hm; rw [hm,hr.1] at g1; simp at g1
        | gap r R p dd z hr hv hg hz hpin hown hpv e hn=>rw [e] at hm; simp only [List.flatMap_cons,List.flatMap_nil,List.append_nil,Wr.rid,List.mem_singleton] at hm; rw [hm,hr.1] at g1; simp at g1
      have hn1:(appAll tk.ws σ).roots (locR d 0)=none:=by rw [(k6 _ hnr).root]; exact g1
      obtain ⟨r1,α',F',r2,r3⟩:=boxHeld (P:=P) (t:=t) H1 hn1 (isExt_locR d 0) k2 k3 k1 tk.keep
      rw [appAll_append]
      exact did_put2 (x:=.one (.ptr (locR d 0) [] 0)) r2 hd hdn (by simp only [execOp,ho,Sem.run_bind,r1,Result.andThen_ok,Sem.run_pure]) r3 ⟨_,setRoot_same .., .inr (Nat.zero_le _)⟩
    · exact h.elim
  · exact h.elim
end
end Go.Proofs.Ytailcbngagacaaa.Ow
