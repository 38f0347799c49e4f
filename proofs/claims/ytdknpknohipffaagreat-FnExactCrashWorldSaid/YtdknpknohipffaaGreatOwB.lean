/- A verified reading of translated code: values in place of memory; part B of 6, spaces and remarks taken out. No condition. Own work of this seat. -/
import Derived.Test.YtdknpknohipffaaGreatOwA
set_option linter.unusedSectionVars false
set_option linter.unusedVariables false
set_option linter.unusedSimpArgs false
namespace Go.Proofs.YtdknpknohipffaaGreat.Ow
section
open Go
variable [Fr]
def mJ (σ:St) (s:Nat→yQ):St:=⟨s,σ.roots⟩
theorem rZ (σ:St) (s:Nat→yQ) (tys:List TypeId):∀(T:List Tag),bg (mJ σ s) tys T=bg σ tys T
 | []=>rfl
 | (r,n) :: T=>by simp only [bg,rZ σ s tys T]; rfl
section
variable {cx:Cx} {σ:St} {α:dK} {F:List Nat} {a:Act} {w:World}
theorem Ol (s:Nat→yQ):iT cx (mJ σ s) α F w=iT cx σ α F w:=rfl
theorem MC (s:Nat→yQ) {bt:TypeId} {k:K} {x:El k} {T:List Tag} {v:Value}:MB cx (mJ σ s) α F w bt k x T v↔MB cx σ α F w bt k x T v:=by
 unfold MB
 rw [rZ,Ol]
 exact Iff.rfl
theorem Fv (s:Nat→yQ):∀{cs:List (TypeId×Dat×List Tag)} {vs:List Value},kK cx (mJ σ s) α F w cs vs↔kK cx σ α F w cs vs
 | [],[]=>Iff.rfl
 | c :: cs,v :: vs=>by simp only [kK,MC s,Fv s]
 | [],_ :: _=>Iff.rfl
 | _ :: _,[]=>Iff.rfl
theorem sJ (s:Nat→yQ) {R:Root}:bq (mJ σ s) R↔bq σ R:=by unfold bq; rw [rZ]
theorem DU (s:Nat→yQ) {x:AV} {v:Value}:bI cx (mJ σ s) α F w x v↔bI cx σ α F w x v:=by
 cases x with
 | undef=>exact Iff.rfl
 | val k x T=>simp only [bI,rZ,Ol]
 | iQ=>exact Iff.rfl
 | ref r g=>exact Iff.rfl
 | K5 r g k p=>exact Iff.rfl
 | xy r p n=>simp only [bI,sJ]; exact Iff.rfl
 | ptr r p n=>simp only [bI,sJ]; exact Iff.rfl
 | je bt k x T=>exact MC s
 | sG=>exact Iff.rfl
 | Bz _=>exact Iff.rfl
 | part _ _ _ _ _=>exact Iff.rfl
 | yL _ _ _ _=>simp only [bI,sJ]; exact Iff.rfl
 | app _ _ _ _=>simp only [bI,sJ]; exact Iff.rfl
 | fn f cs=>simp only [bI,Fv s]
theorem FN (s:Nat→yQ):∀{l:List AV} {vs:List Value},fG cx (mJ σ s) α F w l vs↔fG cx σ α F w l vs
 | [],[]=>Iff.rfl
 | c :: cs,v :: vs=>by simp only [fG,DU s,FN s]
 | [],_ :: _=>Iff.rfl
 | _ :: _,[]=>Iff.rfl
theorem Qv (s:Nat→yQ) {x:yQ} {v:Value}:jT cx (mJ σ s) α F w x v↔jT cx σ α F w x v:=by
 cases x with
 | one a=>exact DU s
 | J7 l=>simp only [jT,FN s]
theorem Tx (s:Nat→yQ) {x:yQ}:Ah (mJ σ s) x↔Ah σ x:=by cases x <;> exact Iff.rfl
theorem Rel.put (H:Rel cx σ α F a w) {d:Nat} {x:yQ} {v:Value} (hd:d<cx.nt) (hw:Ah σ x) (hx:jT cx σ α F w x v) :
  Rel cx (mJ σ (upd σ.slots d x)) α F (a.put (some d) v) w where
 defs:=H.defs
 sz:=by simpa [Act.put] using H.sz
 mQ:=H.mQ
 JA:=H.JA
 slots:=by
  intro s
  rw [Qv]
  show jT cx σ α F w (upd σ.slots d x s) _
  by_cases e:s=d
  ·subst e
   rw [upd_same]
   have:(a.put (some s) v).tmps.getD s undef=v:=by
    have:=H.sz
    simp [Act.put,Array.getElem?_setIfInBounds_self_of_lt (show s<a.tmps.size by omega)]
   rw [this]
   exact hx
  ·rw [upd_ne _ _ e]
   have:(a.put (some d) v).tmps.getD s undef=a.tmps.getD s undef:=by
    simp [Act.put,Array.getElem?_setIfInBounds_ne (Ne.symm e)]
   rw [this]
   exact H.slots s
 AR:=by
  intro s
  rw [Tx]
  show Ah σ (upd σ.slots d x s)
  by_cases e:s=d
  ·subst e; rw [upd_same]; exact hw
  ·rw [upd_ne _ _ e]; exact H.AR s
 roots:=by
  intro r R hr
  have K:=H.roots r R hr
  exact ⟨fun hv=>K.ow ((sJ _).1 hv),K.len,K.mem,K.nd,K.mine⟩
 dD:=H.dD
 MX:=H.MX
 fl:=H.fl
 Ca:=H.Ca
 jB:=H.jB
 frame:=H.frame
 wP:=H.wP
 qA:=H.qA
 zw:=fun j p ts v h=>let ⟨h0,R,h1,h2⟩:=H.zw j p ts v h; ⟨h0,R,h1,fun ht=>(DU _).2 (h2 ht)⟩
 zy:=H.zy
def dw (w:World) (n:Nat):World:={ w with drawn:=n }
theorem NP (n:Nat):∀{cs:List (TypeId×Dat×List Tag)} {vs:List Value},kK cx σ α F w cs vs→kK cx σ α F (dw w n) cs vs
 | [],[],_=>trivial
 | _ :: _,_ :: _,h=>⟨h.1,NP n h.2⟩
 | [],_ :: _,h=>h.elim
 | _ :: _,[],h=>h.elim
theorem OU (n:Nat) {x:AV} {v:Value} (h:bI cx σ α F w x v):bI cx σ α F (dw w n) x v:=by
 cases x with
 | fn f cs=>obtain ⟨vs,h1,h2⟩:=h; exact ⟨vs,h1,NP n h2⟩
 | undef=>exact h
 | val k x T=>exact h
 | iQ=>exact h
 | ref r g=>exact h
 | K5 r g k p=>exact h
 | xy r p n=>exact h
 | ptr r p n=>exact h
 | je bt k x T=>exact h
 | sG=>exact h
 | Bz _=>exact h
 | part _ _ _ _ _=>exact h
 | yL _ _ _ _=>exact h
 | app _ _ _ _=>exact h
theorem Rel.drawn (H:Rel cx σ α F a w) (n:Nat):Rel cx σ α F a (dw w n) where
 defs:=H.defs
 sz:=H.sz
 mQ:=H.mQ
 JA:=H.JA
 slots:=fun s=>by
  have h:=H.slots s
  generalize σ.slots s=x at h
  cases x with
  | one a=>exact OU n h
  | J7 l=>
   obtain ⟨vs,h1,h2⟩:=h
   refine ⟨vs,h1, ?_⟩
   clear h1
   induction l generalizing vs with
   | nil=>cases vs with
    | nil=>trivial
    | cons v vs=>exact h2.elim
   | cons b l ih=>cases vs with
    | nil=>exact h2.elim
    | cons v vs=>exact ⟨OU n h2.1,ih vs h2.2⟩
 AR:=H.AR
 roots:=fun r R hr=>let K:=H.roots r R hr; ⟨K.ow,K.len,K.mem,K.nd,K.mine⟩
 dD:=H.dD
 MX:=H.MX
 fl:=H.fl
 Ca:=H.Ca
 jB:=H.jB
 frame:=H.frame
 wP:=H.wP
 qA:=H.qA
 zw:=fun j p ts v h=>let ⟨h0,R,h1,h2⟩:=H.zw j p ts v h; ⟨h0,R,h1,fun ht=>OU n (h2 ht)⟩
 zy:=H.zy
def tQ (r:Nat) (l:List Nat):Nat→List Nat:=fun q=>if q=r then l else []
theorem vX (r:Nat) (l:List Nat):tQ r l r=l:=if_pos rfl
theorem qI {r q:Nat} (l:List Nat) (h:q≠r):tQ r l q=[]:=if_neg h
variable {r:Nat} {R R':Root} {hdr':List Value} {dJ F':List Nat} {w':World} {lw lh:List Nat}
def Tc (cx:Cx) (R':Root) (lw:List Nat) (w:World) (b:Nat):Prop:=R'.aX=true∨(∃e∈lw,q8 (hp w) b=some e)∨(mG cx b∧lw≠[])
structure BP (cx:Cx) (σ:St) (α:dK) (F:List Nat) (w:World) (r:Nat) (R R':Root) (dJ F':List Nat) (w':World) (lw lh:List Nat):Prop where
 step:(R'.aX=true∧R.kind≠.par)∨(R'.w=lw++R.w∧R'.h=lh++R.h∧R.g≤R'.g∧R'.kind=R.kind∧(R.kind=.par→R'.k.size=R.k.size)∧(lw≠[]∨lh≠[]))
 tags:fD σ R'.tags∧∀n,(r,n)∉R'.tags
 os:w'.os=w.os∧w'.tape=w.tape∧w'.output=w.output
 size:w.heap.size≤w'.heap.size
 SI:∀b,b<w.heap.size→hp w' b≠hp w b→b∈F∨(b∈blk α R r∧Tc cx R' lw w b)
 new:R'.aX=false→∀b∈iF R' (α.loc r) dJ,b∈blk α R r∨b∈F∨(w.heap.size≤b∧b<w'.heap.size)
 newF:∀b∈F',b∈F∨(w.heap.size≤b∧b<w'.heap.size)∨(b∈blk α R r∧Tc cx R' lw w b)
 Ca:F'.Nodup
 jB:R'.aX=false→∀b∈iF R' (α.loc r) dJ,b∉F'
 base:∀j pi b o n,cx.par j=some pi→pi.base=some (b,o,n)→r=au j→hp w' b≠hp w b→gT (hp cx.w0) (hp w') b o n
 ev:R'.aX=false→R'.ew=R.ew∧R'.eh=R.eh
theorem jC {q:Nat} {Q:Root} (h:aR (az σ r R') q Q):(q=r∧Q=R'∧R'.aX=false)∨(q≠r∧aR σ q Q):=by
 by_cases e:q=r
 ·subst e
  obtain ⟨h1,h2⟩:=eX h
  exact .inl ⟨rfl,h1,h2⟩
 ·exact .inr ⟨e,(Ma e).1 h⟩
theorem BP.turn (H:Rel cx σ α F a w) (hr:aR σ r R) (T:BP cx σ α F w r R R' dJ F' w' lw lh) :
  nE cx σ α F w (az σ r R') (aJ α r (α.loc r) hdr' dJ) F' w' (tQ r lw) (tQ r lh):=by
 have hsame:∀q,q≠r→Same σ α (az σ r R') (aJ α r (α.loc r) hdr' dJ) q:=fun q h=>iy h
 have Zh:∀b,Tc cx R' lw w b→Loose cx (az σ r R') (tQ r lw) w r b:=by
  rintro b (h | ⟨e,he,hb⟩ | ⟨h,hl⟩)
  ·refine .inl fun Q hQ=>?_
   rw [aK] at hQ
   simp only [apd] at hQ
   subst hQ
   exact h
  ·exact .inr (.inl ⟨e,by rw [vX]; exact he,hb⟩)
  ·exact .inr (.inr ⟨h,by rw [vX]; exact hl⟩)
 have hns:∀{q:Nat},¬Same σ α (az σ r R') (aJ α r (α.loc r) hdr' dJ) q→q=r:=fun {q} h=>apA fun e=>h (hsame q e)
 refine ⟨rfl,T.os,T.size, ?_, ?_, ?_, ?_, ?_,T.Ca, ?_, ?_, ?_, ?_⟩
 ·intro q Q hQ
  by_cases e:q=r
  ·subst e
   rw [hr.1] at hQ
   simp only [apd] at hQ
   subst hQ
   refine ⟨R',aK .., ?_⟩
   rcases T.step with h | ⟨h1,h2,h3,h4,h5,h6⟩
   ·exact .inl h
   ·exact .inr ⟨hr.2,by rw [vX]; exact h1,by rw [vX]; exact h2,h3,h4,by simp [aJ,upd_same],h5,by rw [vX,vX]; exact .inl h6⟩
  ·refine ⟨Q,by rw [bZ σ R' e]; exact hQ, ?_⟩
   cases hd:Q.aX with
   | true=>
    refine .inl ⟨rfl, ?_⟩
    intro hk
    simp [Root.aX,hk] at hd
   | false=>exact .inr ⟨rfl,by rw [qI lw e]; rfl,by rw [qI lh e]; rfl,apu _,rfl,by simp [aJ,upd_ne _ _ e],fun _=>rfl, .inr ⟨qI lw e,qI lh e,hsame q e⟩⟩
 ·intro q Q hQ hs
  have e:=hns hs
  subst e
  rw [aK] at hQ
  simp only [apd] at hQ
  subst hQ
  refine ⟨fun t ht=>?_,(H.dD q R hr.1).2.1,T.tags.2⟩
  have hne:t.1≠q:=fun e=>T.tags.2 t.2 (by rw [←e]; exact ht)
  rcases T.tags.1 t ht with h | ⟨Q,h1,h2⟩
  ·exact .inl h
  ·exact .inr ⟨Q,by rw [bZ σ R' hne]; exact h1,h2⟩
 ·intro q Q hn hQ
  have e:q≠r:=fun e=>by rw [e,hr.1] at hn; simp at hn
  rw [bZ σ R' e,hn] at hQ
  simp at hQ
 ·intro b hb hne
  exact (T.SI b hb hne).imp id (fun h=>⟨r,R,hr,h.1,Zh b h.2⟩)
 ·rintro b (⟨q,Q,hq,hb,hno⟩ | hb)
  ·rcases jC hq with ⟨rfl,rfl,hd⟩ | ⟨e,hq'⟩
   ·rw [eO] at hb
    rcases T.new hd b hb with h | h | h
    ·exact absurd ⟨R,hr,h⟩ hno
    ·exact .inl h
    ·exact .inr (.inl h)
   ·rw [(hsame q e).blk] at hb
    exact absurd ⟨Q,hq',hb⟩ hno
  ·rcases T.newF b hb with h | h | h
   ·exact .inl h
   ·exact .inr (.inl h)
   ·exact .inr (.inr ⟨r,R,hr,h.1,Zh b h.2⟩)
 ·intro q Q hq hs b hb
  have e:=hns hs
  subst e
  obtain ⟨rfl,hd⟩:=eX hq
  rw [eO] at hb
  exact T.jB hd b hb
 ·intro q Q q' Q' hq hq' hne hs hs'
  exact absurd ((hns hs).trans (hns hs').symm) hne
 ·intro j pi b o n hj hb hne
  obtain ⟨Q,hQ,hk,hl,hs⟩:=H.mQ j pi b o n hj hb
  have hbq:b∈blk α Q (au j):=by simp [blk,eB,hk,hl]
  have hm:=(H.roots _ _ hQ).mine b hbq
  rcases T.SI b hm.1 hne with h | ⟨h1,_⟩
  ·exact absurd h (H.jB _ _ hQ b hbq)
  ·refine T.base j pi b o n hj hb ?_ hne
   refine apA fun e=>?_
   exact H.MX _ _ _ _ hr hQ e b h1 hbq
 ·intro q Q Q' hQ hQ' hd
  by_cases e:q=r
  ·subst e
   rw [hr.1] at hQ
   rw [aK] at hQ'
   simp only [apd] at hQ hQ'
   subst hQ
   subst hQ'
   exact T.ev hd
  ·rw [bZ σ R' e,hQ] at hQ'
   simp only [apd] at hQ'
   subst hQ'
   exact ⟨rfl,rfl⟩
theorem BP.rel (H:Rel cx σ α F a w) (hr:aR σ r R) (T:BP cx σ α F w r R R' dJ F' w' lw lh)
  (hroot:R'.aX=false→(bq (az σ r R') R'→Ow (hp w') R'.own (iT cx (az σ r R') (aJ α r (α.loc r) hdr' dJ) F' w' R'.tags) R'.k R'.x hdr' dJ)∧hdr'.length=R'.k.size∧
   (∀b o,xG R' (α.loc r)=some (b,o)→Cells (hp w') b o hdr'∧∃arr e lo hi,hp w' b=some (.cells arr e (lo,hi))∧(∀i,i<arr.size→¬(lo≤i∧i<hi))∧o+R'.k.size≤arr.size∧(∀t,R'.kind=.var t→e=t))∧
   (iF R' (α.loc r) dJ).Nodup)
  (Ia:R'.aX=false→∀p n v,n≤gG R.h→bI cx σ α F w (.ptr r p n) v→bI cx (az σ r R') (aJ α r (α.loc r) hdr' dJ) F' w' (.ptr r p n) v)
  (Dt:R'.aX=false→∀g v,g≤R.g→bI cx σ α F w (.ref r g) v→bI cx (az σ r R') (aJ α r (α.loc r) hdr' dJ) F' w' (.ref r g) v) :
  Rel cx (az σ r R') (aJ α r (α.loc r) hdr' dJ) F' a w':=by
 have hns:∀{q:Nat},¬Same σ α (az σ r R') (aJ α r (α.loc r) hdr' dJ) q→q=r:=fun {q} h=>apA fun e=>h (iy e)
 have hRq:∀{Q:Root},aR σ r Q→Q=R:=fun {Q} hQ=>by have:=hQ.1; rw [hr.1] at this; simpa using this.symm
 refine H.turn (T.turn H hr) ?_ ?_ ?_
 ·intro q Q hq hs
  have e:=hns hs
  subst e
  obtain ⟨rfl,hd⟩:=eX hq
  obtain ⟨h1,h2,h3,h4⟩:=hroot hd
  refine ⟨fun hv=>?_, ?_, ?_, ?_⟩
  ·have:=h1 hv
   simpa [aJ,upd_same] using this
  ·simpa [aJ,upd_same] using h2
  ·intro b o hb
   rw [jN] at hb
   have:=h3 b o hb
   simpa [aJ,upd_same] using this
  ·rw [eO]; exact h4
 ·intro q Q hq hs p n v hn hv
  have e:=hns hs
  subst e
  obtain rfl:=hRq hq
  cases hd:R'.aX with
  | false=>exact Ia hd p n v hn hv
  | true=>
   refine ⟨hv.1, ?_⟩
   intro Q' hQ' hval
   rw [aK] at hQ'
   simp only [apd] at hQ'
   subst hQ'
   have:=hval.1
   rw [hd] at this
   simp at this
 ·intro q Q hq hs g v hg hv
  have e:=hns hs
  subst e
  obtain rfl:=hRq hq
  cases hd:R'.aX with
  | false=>exact Dt hd g v hg hv
  | true=>
   intro Q' hQ'
   have:=(eX hQ').2
   rw [hd] at this
   simp at this
structure Held (cx:Cx) (σ:St) (α:dK) (F:List Nat) (w:World) (k:K) (x:El k) (own:List TypeId) (tags:List Tag) (cs:List Value) (fo:List Nat):Prop where
 ow:bg σ (aU own k) tags=true→Ow (hp w) own (iT cx σ α F w tags) k x cs fo
 wt:fD σ tags
 sub:∀b∈fo,b∈F
 nd:fo.Nodup
 len:cs.length=k.size
theorem Held.turn {σ':St} {α':dK} {lw lh:Nat→List Nat} {k:K} {x:El k} {own:List TypeId} {tags:List Tag} {cs:List Value} {fo:List Nat}
  (H:Rel cx σ α F a w) (T:nE cx σ α F w σ' α' F' w' lw lh) (h:Held cx σ α F w k x own tags cs fo) (hs:∀b∈fo,hp w' b=hp w b∧b∈F'):Held cx σ' α' F' w' k x own tags cs fo where
 ow:=fun hc=>by
  obtain ⟨h1,h2,_⟩:=T.views H tags _ h.wt hc
  exact bC (fun b hb=>(h2 b hb.1 (.inl hb.2)).2) (fun b hb=>(h2 b hb.1 (.inl hb.2)).1) (fun b hb=>(hs b hb).1) (tq _ (fun _ h=>h) (h.ow h1))
 wt:=fun t ht=>T.tag (h.wt t ht)
 sub:=fun b hb=>(hs b hb).2
 nd:=h.nd
 len:=h.len
theorem Held.slots {k:K} {x:El k} {own:List TypeId} {tags:List Tag} {cs:List Value} {fo:List Nat} (s:Nat→yQ) (h:Held cx σ α F w k x own tags cs fo):Held cx (mJ σ s) α F w k x own tags cs fo:=
 ⟨fun hc=>h.ow (by rw [rZ] at hc; exact hc),h.wt,h.sub,h.nd,h.len⟩
end
end
section
open Go
variable [Fr]
theorem uH {h:Heap} {own:List TypeId} {ok:Nat→Prop}:∀{k:K} {x:El k} {cs:List Value} {fo:List Nat},Ow h own ok k x cs fo→∀b∈fo,∃e∈k.tys,ay e own=true∧q8 h b=some e:=by
 intro k
 induction k with
 | int ik=>intro x cs fo H b hb; rw [H.1] at hb; simp at hb
 | bool=>intro x cs fo H b hb; rw [H.1] at hb; simp at hb
 | id e=>intro x cs fo H b hb; rw [H.1] at hb; simp at hb
 | str=>intro x cs fo H b hb; rw [H.1] at hb; simp at hb
 | sl e k ih=>
  intro x cs fo H b' hb'
  unfold Ow at H
  split at H
  ·rename_i hm
   obtain ⟨a,n,c,e1,e2,e3,H⟩:=H
   rcases H with ⟨_,h1⟩ | ⟨b,o,arr,lo,hi,ea,hb,hf,hs,bz,hl,hp,H⟩
   ·rw [h1] at hb'; simp at hb'
   ·rcases apq.1 (hp.mem_iff.1 hb') with h | h
    ·subst h
     exact ⟨e,by simp [K.tys],hm,by unfold q8; rw [hb]⟩
    ·obtain ⟨l,hl1,hl2⟩:=List.mem_flatten.1 h
     obtain ⟨i,hi,rfl⟩:=List.mem_iff_getElem.1 hl1
     obtain ⟨ds,_,h2⟩:=H i (by omega)
     rw [bY hi] at h2
     obtain ⟨e',g1,g2⟩:=ih h2 b' hl2
     exact ⟨e',by simp [K.tys,g1],g2⟩
  ·rw [H.1] at hb'; simp at hb'
 | unit=>intro x cs fo H b hb; rw [H.1] at hb; simp at hb
 | pair a b iha ihb=>
  intro x cs fo H b' hb'
  obtain ⟨c1,c2,f1,f2,e,hp,h1,h2⟩:=H
  rcases apm.1 (hp.mem_iff.1 hb') with h | h
  ·obtain ⟨e',g1,g2⟩:=iha h1 b' h; exact ⟨e',by simp [K.tys,g1],g2⟩
  ·obtain ⟨e',g1,g2⟩:=ihb h2 b' h; exact ⟨e',by simp [K.tys,g1],g2⟩
 | st f ih=>intro x cs fo H; exact ih (x:=x) H
 | gap n=>intro x cs fo H b hb; rw [H.1] at hb; simp at hb
theorem dH {t:Nat} {own bad:List TypeId}:ay t (bJ own bad)=true↔ay t own=true∧t∉bad:=by
 rw [aL,aL]
 unfold bJ
 rw [apv]
 simp [aV]
theorem CV {own:List TypeId}:∀{k:K} {t:TypeId},t∈k.tys→t∈aU own k∨ay t own=true:=by
 intro k
 induction k with
 | sl e k ih=>
  intro t ht
  simp only [K.tys,apq] at ht
  cases hm:ay e own with
  | true=>
   rcases ht with ht | ht
   ·subst ht; exact .inr hm
   ·exact (ih ht).imp (fun h=>by simp [aU,hm,h]) id
  | false=>exact .inl (by simpa [aU,hm] using ht)
 | pair a b iha ihb=>
  intro t ht
  simp only [K.tys,apm] at ht
  rcases ht with ht | ht
  ·exact (iha ht).imp (fun h=>by simp [aU,h]) id
  ·exact (ihb ht).imp (fun h=>by simp [aU,h]) id
 | st f ih=>intro t ht; exact ih ht
 | _=>intro t ht; simp [K.tys] at ht
theorem IC {own:List TypeId}:∀{k:K} {t:TypeId},t∈aU own k→t∈k.tys:=by
 intro k
 induction k with
 | sl e k ih=>
  intro t ht
  cases hm:ay e own with
  | true=>simp only [aU,hm,cond_true] at ht; simp [K.tys,ih ht]
  | false=>simpa [aU,hm,K.tys] using ht
 | pair a b iha ihb=>
  intro t ht
  simp only [aU,apm] at ht
  simp only [K.tys,apm]
  exact ht.imp iha ihb
 | st f ih=>intro t ht; exact ih ht
 | _=>intro t ht; simp [aU] at ht
section
variable {cx:Cx} {σ:St} {α:dK} {F:List Nat} {a:Act} {w:World} {F':List Nat} {w':World}
theorem FQ (H:Rel cx σ α F a w) (hos:w'.os=w.os∧w'.tape=w.tape∧w'.output=w.output) (hsize:w.heap.size≤w'.heap.size) (LD:∀b,b<w.heap.size→hp w' b≠hp w b→b∈F)
  (hnew:∀b∈F',b∈F∨(w.heap.size≤b∧b<w'.heap.size)) (hnd:F'.Nodup):nE cx σ α F w σ α F' w' (fun _=>[]) (fun _=>[]) where
 slots:=rfl
 os:=hos
 size:=hsize
 old:=fun r R hr=>⟨R,hr,by
  cases hd:R.aX with
  | true=>exact .inl ⟨rfl,by intro hk; simp [Root.aX,hk] at hd⟩
  | false=>exact .inr ⟨rfl,rfl,rfl,apu _,rfl,rfl,fun _=>rfl, .inr ⟨rfl,rfl,mo ..⟩⟩⟩
 wr:=fun r R' _ h=>absurd (mo ..) h
 aio:=fun r R' h1 h2=>by rw [h1] at h2; simp at h2
 SI:=fun b hb hne=>.inl (LD b hb hne)
 new:=by
  rintro b (⟨r,R',h1,h2,h3⟩ | h)
  ·exact absurd ⟨R',h1,h2⟩ h3
  ·exact (hnew b h).imp id .inl
 Ca:=hnd
 jB:=fun r R' _ h=>absurd (mo ..) h
 MX:=fun r R r' R' _ _ _ h=>absurd (mo ..) h
 base:=by
  intro j pi b o n hj hb hne
  obtain ⟨Q,hQ,hk,hl,hs⟩:=H.mQ j pi b o n hj hb
  have hbq:b∈blk α Q (au j):=by simp [blk,eB,hk,hl]
  have hm:=(H.roots _ _ hQ).mine b hbq
  exact absurd (LD b hm.1 hne) (H.jB _ _ hQ b hbq)
 ev:=fun r R R' h1 h2 _=>by rw [h1] at h2; simp only [apd] at h2; subst h2; exact ⟨rfl,rfl⟩
theorem Rel.mem (H:Rel cx σ α F a w) (T:nE cx σ α F w σ α F' w' (fun _=>[]) (fun _=>[])):Rel cx σ α F' a w':=
 H.turn T (fun _ _ _ h=>absurd (mo ..) h) (fun _ _ _ h=>absurd (mo ..) h) (fun _ _ _ h=>absurd (mo ..) h)
theorem Rel.alloc (H:Rel cx σ α F a w) (o:Obj):Rel cx σ α (w.heap.size :: F) a (w.alloc o)∧nE cx σ α F w σ α (w.heap.size :: F) (w.alloc o) (fun _=>[]) (fun _=>[]):=by
 have hs:(w.alloc o).heap.size=w.heap.size+1:=Array.size_push ..
 have T:nE cx σ α F w σ α (w.heap.size :: F) (w.alloc o) (fun _=>[]) (fun _=>[]):=FQ H ⟨rfl,rfl,rfl⟩ (by omega) (fun b hb hne=>absurd (qc w o hb) hne)
  (fun b hb=>by rcases apq.1 hb with h | h; exact .inr ⟨by omega,by omega⟩; exact .inl h)
  (apL.2 ⟨fun h=>by have:=(H.fl _ h).1; omega,H.Ca⟩)
 exact ⟨H.mem T,T⟩
variable {r:Nat} {R:Root}
theorem j6:cu.aX=true:=rfl
theorem nG {R':Root} {tys:List TypeId} {T:List Tag} (h:∀n,(r,n)∉T):bg (az σ r R') tys T=bg σ tys T:=by
 induction T with
 | nil=>rfl
 | cons t T ih=>
  obtain ⟨q,n⟩:=t
  have hq:q≠r:=fun e=>h n (by simp [e])
  have ih':=ih (fun n hn=>h n (by simp [hn]))
  simp only [bg]
  rw [ih',bZ σ R' hq]
def jK (α:dK) (r:Nat):dK:=aJ α r (α.loc r) (α.hdr r) []
theorem kill (H:Rel cx σ α F a w) (hr:aR σ r R) (hk:R.kind=.anon) (hv:bq σ R) :
  Rel cx (az σ r cu) (jK α r) (α.fo r++F) a w∧nE cx σ α F w (az σ r cu) (jK α r) (α.fo r++F) w (tQ r []) (tQ r [])∧
  Held cx (az σ r cu) (jK α r) (α.fo r++F) w R.k R.x R.own R.tags (α.hdr r) (α.fo r)∧bg (az σ r cu) (aU R.own R.k) R.tags=true:=by
 have hb:blk α R r=α.fo r:=by simp [blk,eB,hk]
 have K:=H.roots r R hr
 have hnd:(α.fo r).Nodup:=by rw [←hb]; exact K.nd
 have T1:BP cx σ α F w r R cu [] (α.fo r++F) w [] []:=by
  refine ⟨.inl ⟨rfl,by rw [hk]; simp⟩,⟨fun t ht=>by simp [cu] at ht,fun n hn=>by simp [cu] at hn⟩,⟨rfl,rfl,rfl⟩,apu _,fun b _ h=>absurd rfl h,fun h=>by simp [j6] at h, ?_, ?_,fun h=>by simp [j6] at h,fun _ _ _ _ _ _ _ _ h=>absurd rfl h,fun h=>by simp [j6] at h⟩
  ·intro b hb'
   rcases apm.1 hb' with h | h
   ·exact .inr (.inr ⟨by rw [hb]; exact h, .inl rfl⟩)
   ·exact .inl h
  ·exact apk.2 ⟨hnd,H.Ca,fun b h1 c h2 e=>H.jB r R hr b (by rw [hb]; exact h1) (e▸h2)⟩
 have hT:=T1.turn (hdr':=α.hdr r) H hr
 have hnt:=(H.dD r R hr.1).2.2
 have LF:bg (az σ r cu) (aU R.own R.k) R.tags=true:=by rw [nG hnt]; exact hv.2
 refine ⟨T1.rel H hr (fun h=>by simp [j6] at h) (fun h=>by simp [j6] at h) (fun h=>by simp [j6] at h),hT, ?_,LF⟩
 refine ⟨fun hc=>?_,fun t ht=>hT.tag ((H.dD r R hr.1).1 t ht),fun b hb=>api _ hb,hnd,K.len⟩
 obtain ⟨h1,h2,_⟩:=hT.views H R.tags _ (H.dD r R hr.1).1 hc
 exact bC (fun b hb=>(h2 b hb.1 (.inl hb.2)).2) (fun b hb=>(h2 b hb.1 (.inl hb.2)).1) (fun _ _=>rfl) (tq _ (fun _ h=>h) (K.ow hv))
theorem aij (H:Rel cx σ α F a w) (hr:aR σ r R) (hk:R.kind≠.par) (hv:bq σ R) :
  Rel cx (az σ r cu) (jK α r) (blk α R r++F) a w∧nE cx σ α F w (az σ r cu) (jK α r) (blk α R r++F) w (tQ r []) (tQ r [])∧
  Held cx (az σ r cu) (jK α r) (blk α R r++F) w R.k R.x R.own R.tags (α.hdr r) (α.fo r)∧bg (az σ r cu) (aU R.own R.k) R.tags=true:=by
 have K:=H.roots r R hr
 have hnd:(blk α R r).Nodup:=K.nd
 have T1:BP cx σ α F w r R cu [] (blk α R r++F) w [] []:=by
  refine ⟨.inl ⟨rfl,hk⟩,⟨fun t ht=>by simp [cu] at ht,fun n hn=>by simp [cu] at hn⟩,⟨rfl,rfl,rfl⟩,apu _,fun b _ h=>absurd rfl h,fun h=>by simp [j6] at h, ?_, ?_,fun h=>by simp [j6] at h,fun _ _ _ _ _ _ _ _ h=>absurd rfl h,fun h=>by simp [j6] at h⟩
  ·intro b hb'
   rcases apm.1 hb' with h | h
   ·exact .inr (.inr ⟨h, .inl rfl⟩)
   ·exact .inl h
  ·exact apk.2 ⟨hnd,H.Ca,fun b h1 c h2 e=>H.jB r R hr b h1 (e▸h2)⟩
 have hT:=T1.turn (hdr':=α.hdr r) H hr
 have hnt:=(H.dD r R hr.1).2.2
 have LF:bg (az σ r cu) (aU R.own R.k) R.tags=true:=by rw [nG hnt]; exact hv.2
 refine ⟨T1.rel H hr (fun h=>by simp [j6] at h) (fun h=>by simp [j6] at h) (fun h=>by simp [j6] at h),hT, ?_,LF⟩
 refine ⟨fun hc=>?_,fun t ht=>hT.tag ((H.dD r R hr.1).1 t ht),fun b hb=>api _ (apf _ hb),(apk.1 hnd).2.1,K.len⟩
 obtain ⟨h1,h2,_⟩:=hT.views H R.tags _ (H.dD r R hr.1).1 hc
 exact bC (fun b hb=>(h2 b hb.1 (.inl hb.2)).2) (fun b hb=>(h2 b hb.1 (.inl hb.2)).1) (fun _ _=>rfl) (tq _ (fun _ h=>h) (K.ow hv))
theorem qU:∀(p:List Stp) {k:K} {x y:El k},(aT p k x).isSome=(aT p k y).isSome:=by
 intro p
 induction p with
 | nil=>intro k x y; rfl
 | cons s p ih=>
  intro k x y
  cases s with
  | gL n=>
   cases k with
   | st c=>
    simp only [aT]
    have key:∀(n:Nat) {c:K} {x y:El c},(∃s t:Dat,aQ n c x=some s∧aQ n c y=some t∧s.1=t.1)∨(aQ n c x=none∧aQ n c y=none):=by
     intro n
     induction n with
     | zero=>intro c x y; cases c <;> first | exact .inl ⟨_,_,rfl,rfl,rfl⟩ | exact .inr ⟨rfl,rfl⟩
     | succ n ih=>intro c x y; cases c <;> first | exact ih | exact .inr ⟨rfl,rfl⟩
    rcases key n (c:=c) (x:=x) (y:=y) with ⟨s,t,h1,h2,h3⟩ | ⟨h1,h2⟩
    ·rw [h1,h2]
     obtain ⟨sk,sx⟩:=s
     obtain ⟨tk,ty⟩:=t
     simp only at h3
     subst h3
     exact ih
    ·rw [h1,h2]
   | _=>simp [aT]
  | idx i=>
   cases k with
   | sl e k=>simp only [aT]; exact ih
   | _=>simp [aT]
theorem Pk:∀(n m:Nat) {c:K} {x:El c} {u y:Dat},m≠n→cz n c x u=some y→aQ m y.1 y.2=aQ m c x:=by
 intro n
 induction n with
 | zero=>
  intro m c x u y hm h
  cases c with
  | pair a b=>
   simp only [cz,apd] at h
   subst h
   cases m with
   | zero=>exact absurd rfl hm
   | succ m=>rfl
  | _=>simp [cz] at h
 | succ n ih=>
  intro m c x u y hm h
  cases c with
  | pair a b=>
   simp only [cz] at h
   cases h4:cz n b x.2 u with
   | none=>rw [h4] at h; simp at h
   | some y2=>
    rw [h4] at h
    simp only [apd] at h
    subst h
    cases m with
    | zero=>rfl
    | succ m=>exact ih m (by omega) h4
  | _=>simp [cz] at h
theorem OG {bad:List TypeId}:∀(p q:List Stp) {k:K} {x:El k} {t d z:Dat},aT p k x=some d→eF p k x t=some z→
  (∀q',(aT q' t.1 t.2).isSome=true→(∀e∈ah q' t.1,e∉bad)→ah q' d.1=ah q' t.1∧(aT q' d.1 d.2).isSome=true)→(aT q z.1 z.2).isSome=true→(∀e∈ah q z.1,e∉bad)→
   ah q k=ah q z.1∧(aT q k x).isSome=true:=by
 intro p
 induction p with
 | nil=>
  intro q k x t d z hg hz ht hs hb
  simp only [eF,apd] at hz
  simp only [aT,apd] at hg
  subst hz
  subst hg
  exact ht q hs hb
 | cons s p ih=>
  intro q k x t d z hg hz ht hs hb
  cases s with
  | gL n=>
   cases k with
   | st c=>
    simp only [aT,eF] at hg hz
    cases hcg:aQ n c x with
    | none=>rw [hcg] at hg; simp at hg
    | some s=>
     rw [hcg] at hg hz
     simp only at hg hz
     cases hs':eF p s.1 s.2 t with
     | none=>rw [hs'] at hz; simp at hz
     | some u=>
      rw [hs'] at hz
      simp only at hz
      cases hcp:cz n c x u with
      | none=>rw [hcp] at hz; simp at hz
      | some y=>
       rw [hcp] at hz
       simp only [apd] at hz
       subst hz
       cases q with
       | nil=>exact ⟨rfl,rfl⟩
       | cons s2 q=>
        cases s2 with
        | idx i=>simp [aT] at hs
        | gL m=>
         by_cases hmn:m=n
         ·subst hmn
          have e1:aQ m y.1 y.2=some u:=zl m hcp
          have p1:ah (.gL m :: q) (.st c)=ah q s.1:=by simp [ah,bU m hcg]
          have p2:ah (.gL m :: q) (.st y.1)=ah q u.1:=by simp [ah,bU m e1]
          have hs2:(aT (.gL m :: q) (.st y.1) y.2).isSome=true:=hs
          simp only [aT,e1] at hs2
          have hb2:∀e∈ah (.gL m :: q) (.st y.1),e∉bad:=hb
          rw [p2] at hb2
          obtain ⟨h1,h2⟩:=ih q hg hs' ht hs2 hb2
          refine ⟨?_, ?_⟩
          ·show ah (.gL m :: q) (.st c)=ah (.gL m :: q) (.st y.1)
           rw [p1,p2,h1]
          ·simp only [aT,hcg]
           exact h2
         ·have e1:=Pk n m hmn hcp
          have hs2:(aT (.gL m :: q) (.st y.1) y.2).isSome=true:=hs
          simp only [aT,e1] at hs2
          cases hg2:aQ m c x with
          | none=>rw [hg2] at hs2; simp at hs2
          | some s2=>
           refine ⟨?_, ?_⟩
           ·show ah (.gL m :: q) (.st c)=ah (.gL m :: q) (.st y.1)
            simp only [ah,bU m hg2,bU m (e1.trans hg2)]
           ·simp only [aT,hg2]
            rw [hg2] at hs2
            exact hs2
   | _=>simp [aT] at hg
  | idx i=>
   cases k with
   | sl e k=>
    simp only [eF] at hz
    cases hs':eF p k ((show List (El k) from x).getD i.toNat k.zero) t with
    | none=>rw [hs'] at hz; simp at hz
    | some u=>
     rw [hs'] at hz
     simp only at hz
     cases hck:bP u.1 k u.2 with
     | none=>rw [hck] at hz; simp at hz
     | some y=>
      rw [hck] at hz
      simp only [apd] at hz
      subst hz
      exact ⟨rfl,by rw [qU q (y:=((show List (El k) from x).set i.toNat y))]; exact hs⟩
   | _=>simp [eF] at hz
theorem vV:∀k:K,k.hole.size=k.size:=by
 intro k
 induction k with
 | pair a b iha ihb=>simp [K.hole,K.size,iha,ihb]
 | st f ih=>simp [K.hole,K.size,ih]
 | _=>rfl
theorem abb {h:Heap} {own:List TypeId} {ok:Nat→Prop}:∀{k:K} {x:El k} {cs:List Value} {fo:List Nat},Ow h own ok k x cs fo→Ow h own ok k.hole (uN k x) cs []:=by
 intro k
 induction k with
 | int ik=>intro x cs fo H; exact ⟨rfl,H.2⟩
 | bool=>intro x cs fo H; exact ⟨rfl,H.2⟩
 | id e=>intro x cs fo H; exact ⟨rfl,H.2⟩
 | str=>intro x cs fo H; exact ⟨rfl,H.2⟩
 | sl e k ih=>intro x cs fo H; exact ⟨rfl,dn H⟩
 | unit=>intro x cs fo H; exact ⟨rfl,H.2⟩
 | pair a b iha ihb=>intro x cs fo H; obtain ⟨c1,c2,f1,f2,e,hp,h1,h2⟩:=H; exact ⟨c1,c2,[],[],e, .refl _,iha h1,ihb h2⟩
 | st f ih=>intro x cs fo H; exact ih (x:=x) H
 | gap n=>intro x cs fo H; exact ⟨rfl,H.2⟩
theorem KX:∀(n:Nat) {c:K} {x:El c},aQ n c.hole (uN c x)=(aQ n c x).map uM:=by
 intro n
 induction n with
 | zero=>intro c x; cases c <;> rfl
 | succ n ih=>
  intro c x
  cases c with
  | pair a b=>simp only [K.hole,uN,aQ]; exact ih
  | _=>rfl
theorem TH:∀(n:Nat) {c:K},bD n c.hole=(bD n c).map fun q=>(q.1,q.2.hole):=by
 intro n
 induction n with
 | zero=>intro c; cases c <;> rfl
 | succ n ih=>
  intro c
  cases c with
  | pair a b=>
   simp only [K.hole,bD]
   rw [ih (c:=b)]
   cases bD n b with
   | none=>rfl
   | some q=>simp [vV]
  | _=>rfl
theorem LJ {h:Heap}:∀(q:List Stp) {k:K} {x:El k},(aT q k.hole (uN k x)).isSome=true→
  ah q k=[]∧ah q k.hole=[]∧(aT q k x).isSome=true∧nX q k.hole (uN k x)∧∀cs wh,bF h q k.hole cs wh=bF h q k cs wh:=by
 intro q
 induction q with
 | nil=>intro k x _; exact ⟨by simp [ah],by simp [ah],rfl,trivial,fun _ _=>rfl⟩
 | cons s q ih=>
  intro k x hs
  cases s with
  | idx i=>cases k <;> simp [K.hole,aT] at hs
  | gL n=>
   cases k with
   | st c=>
    have e:aQ n c.hole (uN c x)=(aQ n c x).map uM:=KX n
    have hs':(aT (.gL n :: q) (.st c.hole) (uN c x)).isSome=true:=hs
    simp only [aT,e] at hs'
    cases hg:aQ n c x with
    | none=>rw [hg] at hs'; simp at hs'
    | some s=>
     rw [hg] at hs' e
     simp only [Option.map_some,uM] at hs' e
     obtain ⟨h1,h2,h3,h4,h5⟩:=ih (k:=s.1) (x:=s.2) hs'
     refine ⟨by simp [ah,bU n hg,h1], ?_,by simp only [aT,hg]; exact h3, ?_,fun cs wh=>?_⟩
     ·show ah (.gL n :: q) (.st c.hole)=[]
      simp [ah,bU n e,h2]
     ·show nX (.gL n :: q) (.st c.hole) (uN c x)
      simp only [nX,e]
      exact h4
     ·show bF h (.gL n :: q) (.st c.hole) cs wh=_
      simp only [bF]
      rw [TH n]
      cases ho:bD n c with
      | none=>rfl
      | some w=>
       simp only [Option.map_some]
       have hk:w.2=s.1:=by
        have key:∀(n:Nat) {c:K} {x:El c} {s:Dat} {q:Nat×K},aQ n c x=some s→bD n c=some q→q.2=s.1:=by
         intro n
         induction n with
         | zero=>intro c x s q h1 h2; cases c with
          | pair a b=>simp only [aQ,bD,apd] at h1 h2; subst h1; subst h2; rfl
          | _=>simp [aQ] at h1
         | succ n ih=>intro c x s q h1 h2; cases c with
          | pair a b=>
           simp only [aQ,bD] at h1 h2
           cases h3:bD n b with
           | none=>rw [h3] at h2; simp at h2
           | some q3=>rw [h3] at h2; simp only [apd] at h2; subst h2; exact ih (q:=q3) h1 h3
          | _=>simp [aQ] at h1
        exact key n (c:=c) hg ho
       obtain ⟨w1,w2⟩:=w
       simp only at hk
       subst hk
       simp only [vV]
       exact h5 _ _
   | _=>simp [K.hole,aT] at hs
theorem Xc:∀(q:List Stp) {k:K} {x y:El k},ah q k=[]→(aT q k x).isSome=true→ah q k.hole=[]∧(aT q k.hole (uN k y)).isSome=true:=by
 intro q
 induction q with
 | nil=>intro k x y _ _; exact ⟨by simp [ah],rfl⟩
 | cons s q ih=>
  intro k x y h0 hs
  cases s with
  | idx i=>cases k <;> simp [ah,aT] at h0 hs
  | gL n=>
   cases k with
   | st c=>
    simp only [aT] at hs
    cases hg:aQ n c x with
    | none=>rw [hg] at hs; simp at hs
    | some s=>
     rw [hg] at hs
     simp only at hs
     have hp2:ah (.gL n :: q) (.st c)=ah q s.1:=by simp [ah,bU n hg]
     rw [hp2] at h0
     have key:∀(n:Nat) {c:K} {x y:El c} {s:Dat},aQ n c x=some s→∃t:Dat,aQ n c y=some t∧t.1=s.1:=by
      intro n
      induction n with
      | zero=>intro c x y s h; cases c <;> first | (simp only [aQ,apd] at h; subst h; exact ⟨_,rfl,rfl⟩) | simp [aQ] at h
      | succ n ih=>intro c x y s h; cases c <;> first | exact ih h | simp [aQ] at h
     obtain ⟨t,g1,g2⟩:=key n (c:=c) (y:=y) hg
     obtain ⟨sk,sx⟩:=s
     obtain ⟨tk,ty⟩:=t
     simp only at g2
     subst g2
     obtain ⟨h1,h2⟩:=ih (y:=ty) h0 hs
     have e:aQ n c.hole (uN c y)=some (uM ⟨tk,ty⟩):=by rw [KX n,g1]; rfl
     refine ⟨?_, ?_⟩
     ·show ah (.gL n :: q) (.st c.hole)=[]
      simp [ah,bU n e,uM,h1]
     ·show (aT (.gL n :: q) (.st c.hole) (uN c y)).isSome=true
      simp only [aT,e]
      exact h2
   | _=>simp [aT] at hs
theorem UZ {own:List TypeId}:∀k:K,aU own k.hole=[]:=by
 intro k
 induction k with
 | pair a b iha ihb=>simp [K.hole,aU,iha,ihb]
 | st f ih=>exact ih
 | _=>rfl
theorem cells_eq {h:Heap} {b o:Nat} {cs cs':List Value} (h1:Cells h b o cs) (h2:Cells h b o cs') (hl:cs'.length=cs.length):cs'=cs:=by
 apply List.ext_getElem? 
 intro i
 by_cases hi:i<cs.length
 ·rw [←h1 i hi, ←h2 i (by omega)]
 ·rw [List.getElem?_eq_none (by omega),List.getElem?_eq_none (by omega)]
theorem Iw:∀(p:List Stp) {k:K} {x:El k} {t d z:Dat},aT p k x=some d→t.1.size=d.1.size→eF p k x t=some z→z.1.size=k.size:=by
 intro p
 induction p with
 | nil=>
  intro k x t d z hg hs hz
  simp only [aT,eF,apd] at hg hz
  subst hg; subst hz; exact hs
 | cons s p ih=>
  intro k x t d z hg hs hz
  cases s with
  | gL n=>
   cases k with
   | st c=>
    simp only [aT,eF] at hg hz
    cases hcg:aQ n c x with
    | none=>rw [hcg] at hg; simp at hg
    | some s=>
     rw [hcg] at hg hz
     simp only at hg hz
     cases hs':eF p s.1 s.2 t with
     | none=>rw [hs'] at hz; simp at hz
     | some u=>
      rw [hs'] at hz
      simp only at hz
      cases hcp:cz n c x u with
      | none=>rw [hcp] at hz; simp at hz
      | some y=>
       rw [hcp] at hz
       simp only [apd] at hz
       subst hz
       have hu:=ih hg hs hs'
       have key:∀(n:Nat) {c:K} {x:El c} {s u y:Dat},aQ n c x=some s→cz n c x u=some y→u.1.size=s.1.size→y.1.size=c.size:=by
        intro n
        induction n with
        | zero=>
         intro c x s u y h1 h2 e
         cases c with
         | pair a b=>simp only [aQ,cz,apd] at h1 h2; subst h1; subst h2; simp only at e; simp [K.size,e]
         | _=>simp [aQ] at h1
        | succ n ih=>
         intro c x s u y h1 h2 e
         cases c with
         | pair a b=>
          simp only [aQ,cz] at h1 h2
          cases h3:cz n b x.2 u with
          | none=>rw [h3] at h2; simp at h2
          | some y2=>rw [h3] at h2; simp only [apd] at h2; subst h2; simp [K.size,ih h1 h3 e]
         | _=>simp [aQ] at h1
       show y.1.size=c.size
       exact key n (c:=c) hcg hcp hu
   | _=>simp [aT] at hg
  | idx i=>
   cases k with
   | sl e k=>
    simp only [eF] at hz
    cases hs':eF p k ((show List (El k) from x).getD i.toNat k.zero) t with
    | none=>rw [hs'] at hz; simp at hz
    | some u=>
     rw [hs'] at hz
     simp only at hz
     cases hck:bP u.1 k u.2 with
     | none=>rw [hck] at hz; simp at hz
     | some y=>rw [hck] at hz; simp only [apd] at hz; subst hz; rfl
   | _=>simp [aT] at hg
theorem vZ {R R':Root} (h:R'.kind=R.kind) (loc:Nat×Nat):xG R' loc=xG R loc:=by unfold xG; rw [h]
theorem o7 {R R':Root} (h:R'.kind=R.kind) (loc:Nat×Nat) (fo:List Nat):iF R' loc fo=iF R loc fo:=by unfold iF; rw [h]
theorem QW (R:Root) (loc:Nat×Nat) (fo:List Nat):iF R loc fo=(match xG R loc with
 | some q=>[q.1]
 | none=>[])++fo:=by unfold iF xG; cases R.kind <;> rfl
theorem eZ {R:Root} {loc:Nat×Nat} {fo:List Nat} {b:Nat}:b∈iF R loc fo↔(∃o,xG R loc=some (b,o))∨b∈fo:=by
 rw [QW]
 cases h:xG R loc with
 | none=>simp
 | some q=>obtain ⟨b0,o0⟩:=q; simp; constructor <;> (intro h; rcases h with h | h <;> simp_all)
theorem nQ {R:Root} {loc:Nat×Nat} {fo:List Nat}:(iF R loc fo).Nodup↔(∀b o,xG R loc=some (b,o)→b∉fo)∧fo.Nodup:=by
 rw [QW]
 cases h:xG R loc with
 | none=>simp
 | some q=>obtain ⟨b0,o0⟩:=q; simp [apL]
theorem Xj {R R':Root} (h:R'.kind=R.kind):R'.aX=R.aX:=by unfold Root.aX; rw [h]
theorem Ve {k k':K} {v:Value} {cs:List Value} (h:uO k'=uO k):VC k' v cs↔VC k v cs:=by
 cases k <;> cases k' <;> first | exact Iff.rfl | simp [uO] at h
theorem OC {p:List Stp} {k:K} {x:El k} {t z:Dat} (hp:p≠[]) (hz:eF p k x t=some z):uO z.1=uO k:=by
 cases p with
 | nil=>exact absurd rfl hp
 | cons s p=>
  cases s with
  | gL n=>
   cases k with
   | st c=>
    simp only [eF] at hz
    cases hcg:aQ n c x with
    | none=>rw [hcg] at hz; simp at hz
    | some s=>
     rw [hcg] at hz
     simp only at hz
     cases hs':eF p s.1 s.2 t with
     | none=>rw [hs'] at hz; simp at hz
     | some u=>
      rw [hs'] at hz
      simp only at hz
      cases hcp:cz n c x u with
      | none=>rw [hcp] at hz; simp at hz
      | some y=>rw [hcp] at hz; simp only [apd] at hz; subst hz; rfl
   | _=>simp [eF] at hz
  | idx i=>
   cases k with
   | sl e k=>
    simp only [eF] at hz
    cases hs':eF p k ((show List (El k) from x).getD i.toNat k.zero) t with
    | none=>rw [hs'] at hz; simp at hz
    | some u=>
     rw [hs'] at hz
     simp only at hz
     cases hck:bP u.1 k u.2 with
     | none=>rw [hck] at hz; simp at hz
     | some y=>rw [hck] at hz; simp only [apd] at hz; subst hz; rfl
   | _=>simp [eF] at hz
theorem WS (k:K):k.tys≠[]∨tL k++k.tys≠[]:=by
 unfold tL
 cases k.tys with
 | nil=>exact .inr (by simp)
 | cons a l=>exact .inl (by simp)
def qH (R:Root) (d:Dat) (z:Dat):Root:={ R with k:=z.1,x:=z.2,w:=d.1.tys++R.w,h:=tL d.1++d.1.tys++R.h }
def eP (R:Root) (d:Dat) (z:Dat) (own':List TypeId):Root:={ qH R d z with own:=own' }
theorem pG:∀(q:List Stp) {k:K},∀t∈ah q k,t∈k.tys:=by
 intro q
 induction q with
 | nil=>intro k t ht; simp [ah] at ht
 | cons s q ih=>
  intro k t ht
  cases s with
  | gL n=>
   cases k with
   | st c=>
    simp only [ah] at ht
    cases hc:ah.Js n c with
    | none=>rw [hc] at ht; simp at ht
    | some k'=>
     rw [hc] at ht
     have h1:=ih t ht
     have:∀(n:Nat) {c k':K},ah.Js n c=some k'→∀t∈k'.tys,t∈c.tys:=by
      intro n
      induction n with
      | zero=>
       intro c k' h t ht
       cases c with
       | pair a b=>simp only [ah.Js,apd] at h; subst h; simp [K.tys,ht]
       | _=>simp [ah.Js] at h
      | succ n ih=>
       intro c k' h t ht
       cases c with
       | pair a b=>simp only [ah.Js] at h; simp [K.tys,ih h t ht]
       | _=>simp [ah.Js] at h
     exact this n hc t h1
   | _=>simp [ah] at ht
  | idx i=>
   cases k with
   | sl e k=>
    simp only [ah,apq] at ht
    rcases ht with h | h
    ·simp [K.tys,h]
    ·simp [K.tys,ih t h]
   | _=>simp [ah] at ht
theorem ahm {own':List TypeId} (H:Rel cx σ α F a w) (hr:aR σ r R) (hv:bq σ R) {p:List Stp} {d z:Dat} (hg:aT p R.k R.x=some d) (hz:eF p R.k R.x (uM d)=some z) (fU:nX p R.k R.x)
  (hown:∀t∈ah p R.k,ay t R.own=true) (hpv:p≠[]∨∃t,R.kind=.var t) (hso:∀t∈z.1.tys,ay t own'=ay t R.own) :
  ∃cs1 nY gq rest,bF (hp w) p R.k (α.hdr r) (eB α R r)=some (cs1,nY)∧
   Rel cx (az σ r (eP R d z own')) (aJ α r (α.loc r) (α.hdr r) rest) (gq++F) a w∧
   nE cx σ α F w (az σ r (eP R d z own')) (aJ α r (α.loc r) (α.hdr r) rest) (gq++F) w (tQ r d.1.tys) (tQ r (tL d.1++d.1.tys))∧
   Held cx (az σ r (eP R d z own')) (aJ α r (α.loc r) (α.hdr r) rest) (gq++F) w d.1 d.2 R.own R.tags cs1 gq∧(∀tys,bg (az σ r (eP R d z own')) tys R.tags=bg σ tys R.tags)∧(α.fo r).Perm (gq++rest):=by
 have K:=H.roots r R hr
 have hnd:=K.nd
 rw [bT,nQ] at hnd
 have hO:=K.ow hv
 obtain ⟨cs1,gq,rest,nY,hn,hp1,hd1,hc1,hin,hnone,hup⟩:=focus p hO (fun b o e=>(K.mem b o e).1) hg fU hown hnd.2 (fun b o e=>hnd.1 b o e)
 have hnt:=(H.dD r R hr.1).2.2
 have hl1:=dn hd1
 obtain ⟨cs',hl',LB,hC',hN',hK'⟩:=hup.go (hp w) (iT cx σ α F w R.tags) (uM d) cs1 [] z hz hl1 (abb hd1) (fun b hb=>⟨hb,rfl⟩) (fun _ _ _=>rfl)
  (fun b o e=>⟨hc1 b o e,by
   have:∃arr te fr,hp w b=some (.cells arr te fr):=by
    rcases hin b o e with ⟨_,o0,ew,_⟩ | ⟨_,arr,te,lo,hi,h1,_⟩
    ·obtain ⟨_,arr,te,lo,hi,h1,_⟩:=K.mem b o0 ew; exact ⟨arr,te,_,h1⟩
    ·exact ⟨arr,te,_,h1⟩
   obtain ⟨arr,te,fr,h1⟩:=this
   exact gT.of_same _ _ h1 rfl⟩) (fun _=>rfl) (fun _ _ _ _=>rfl)
 have hcs:cs'=α.hdr r:=by
  cases hw:eB α R r with
  | none=>exact hN' hw
  | some q=>exact cells_eq (K.mem q.1 q.2 hw).1 (hC' q.1 q.2 hw) hl'
 rw [hcs,List.nil_append] at LB
 replace LB:=uE hso LB
 obtain ⟨_,_,hNK,_⟩:=hK' d.1.tys (vV d.1) (fun q c0 w0 hq _ hn0 hs=>by
  obtain ⟨_,_,_,h3,h4⟩:=LJ (h:=hp w) q (x:=d.2) hs
  exact ⟨h3,c0,by rw [←hn0]; exact h4 cs1 nY⟩)
 rw [hcs] at hNK
 have hkind:(eP R d z own').kind=R.kind:=rfl
 have ahG:(eP R d z own').aX=false:=hr.2
 have N7:∀b,b∈α.fo r↔b∈gq∨b∈rest:=fun b=>by rw [hp1.mem_iff,apm]
 have FE:=hp1.nodup hnd.2
 have hsz:z.1.size=R.k.size:=Iw p (t:=uM d) hg (vV d.1) hz
 have T1:BP cx σ α F w r R (eP R d z own') rest (gq++F) w d.1.tys (tL d.1++d.1.tys):=by
  refine ⟨.inr ⟨rfl,rfl,apu _,rfl,fun _=>hsz,WS d.1⟩,⟨(H.dD r R hr.1).1,hnt⟩,⟨rfl,rfl,rfl⟩,apu _,fun b _ h=>absurd rfl h, ?_, ?_, ?_, ?_,fun _ _ _ _ _ _ _ _ h=>absurd rfl h,fun _=>⟨rfl,rfl⟩⟩
  ·intro _ b hb
   rw [o7 hkind,eZ] at hb
   refine .inl ?_
   rw [bT,eZ,N7]
   exact hb.imp id .inr
  ·intro b hb
   rcases apm.1 hb with h | h
   ·refine .inr (.inr ⟨by rw [bT,eZ,N7]; exact .inr (.inl h), .inr (.inl ?_)⟩)
    obtain ⟨e,h1,_,h2⟩:=uH hd1 b h
    exact ⟨e,h1,h2⟩
   ·exact .inl h
  ·refine apk.2 ⟨(apk.1 FE).1,H.Ca,fun b h1 c h2 e=>H.jB r R hr b ?_ (e▸h2)⟩
   rw [bT,eZ,N7]
   exact .inr (.inl h1)
  ·intro _ b hb hF
   rw [o7 hkind,eZ] at hb
   rcases apm.1 hF with h | h
   ·rcases hb with ⟨o,hb⟩ | hb
    ·exact hnd.1 b o hb ((N7 b).2 (.inl h))
    ·exact (apk.1 FE).2.2 b h b hb rfl
   ·refine H.jB r R hr b ?_ h
    rw [bT,eZ,N7]
    exact hb.imp id .inr
 have hT:=T1.turn (hdr':=α.hdr r) H hr
 have LF:∀tys,bg (az σ r (eP R d z own')) tys R.tags=bg σ tys R.tags:=fun tys=>nG hnt
 refine ⟨cs1,nY,gq,rest,hn,T1.rel H hr ?_ ?_ ?_,hT, ?_,LF,hp1⟩
 ·intro _
  refine ⟨fun hv'=>?_,by rw [K.len]; exact hsz.symm, ?_, ?_⟩
  ·obtain ⟨h1,h2,_⟩:=hT.views H R.tags _ (H.dD r R hr.1).1 hv'.2
   exact bC (fun b hb=>(h2 b hb.1 (.inl hb.2)).2) (fun b hb=>(h2 b hb.1 (.inl hb.2)).1) (fun _ _=>rfl) (tq _ (fun _ h=>h) LB)
  ·intro b o hb
   have:(eP R d z own').k.size=R.k.size:=hsz
   rw [this]
   exact K.mem b o hb
  ·rw [o7 hkind,nQ]
   exact ⟨fun b o e hb=>hnd.1 b o e ((N7 b).2 (.inr hb)),(apk.1 FE).2.1⟩
 ·intro _ q n v hn' hold
  refine ⟨hold.1, ?_⟩
  intro Q hQ hvQ hcl hty hsome
  have hQ':Q=eP R d z own':=by
   rw [aK] at hQ
   simpa using hQ.symm
  subst hQ'
  have Zx:eB (aJ α r (α.loc r) (α.hdr r) rest) (eP R d z own') r=eB α R r:=by rw [jN,vZ hkind, ←uW]
  have Um:(aJ α r (α.loc r) (α.hdr r) rest).hdr r=α.hdr r:=by simp [aJ,upd_same]
  have hh:(eP R d z own').h=(tL d.1++d.1.tys)++R.h:=rfl
  rw [hh,qa hn'] at hcl
  by_cases hq:q=[]
  case neg=>
   have hpt:∀k,eD q k=qK :: ah q k:=by
    intro k
    cases q with
    | nil=>exact absurd rfl hq
    | cons s q=>rfl
   rw [hpt] at hcl
   obtain ⟨k1,k2⟩:=OG (bad:=d.1.tys) p q hg hz (fun q' h _=>let ⟨h1,h2,h3,_⟩:=LJ (h:=hp w) q' (x:=d.2) h; ⟨h1.trans h2.symm,h3⟩) hsome (fun e he hm=>hcl.1 e (apf _ hm) (apC _ he))
   have k1':ah q R.k=ah q (eP R d z own').k:=k1
   have hty':∀t∈ah q R.k,ay t R.own=true:=fun t ht=>by
    have ht':t∈ah q z.1:=k1▸ht
    rw [←hso t (pG q t ht')]
    exact hty t ht'
   rw [←k1'] at hcl
   obtain ⟨g1,cs,b,o,g2,g3⟩:=hold.2 R hr.1 hv (by rw [hpt]; exact hcl.2) hty' k2
   obtain ⟨f1,c1,f2⟩:=hNK q cs (some (b,o)) g1 (fun t ht=>⟨hty' t ht,fun hm=>hcl.1 t (apf _ hm) (apC _ ht)⟩) g2 hsome
   rw [Zx,Um]
   exact ⟨f1,c1,b,o,f2,g3⟩
  subst hq
  obtain ⟨_,cs,b,o,h1,h2⟩:=hold.2 R hr.1 hv (by simp [clean,eD,ay]) (fun t ht=>by simp [ah] at ht) rfl
  simp only [bF,apd,apo] at h1
  refine ⟨trivial,(aJ α r (α.loc r) (α.hdr r) rest).hdr r,b,o, ?_,h2⟩
  simp only [bF]
  rw [jN,vZ hkind, ←uW,h1.2]
 ·intro _ g v hg' hold Q hQ hgQ
  obtain ⟨hQ',_⟩:=eX hQ
  subst hQ'
  obtain ⟨h1,h2⟩:=hold R hr hgQ
  refine ⟨h1, ?_⟩
  have:(aJ α r (α.loc r) (α.hdr r) rest).hdr r=α.hdr r:=by simp [aJ,upd_same]
  rw [this]
  rcases hpv with hp | ⟨t,ht⟩
  ·
   cases p with
   | nil=>exact absurd rfl hp
   | cons s p=>
    exact (Ve (OC (by simp) hz)).2 h2
  ·rw [ht] at h1; simp at h1
 ·refine ⟨fun hc=>?_,fun t ht=>hT.tag ((H.dD r R hr.1).1 t ht),fun b hb=>api _ hb,(apk.1 FE).1,hl1⟩
  obtain ⟨h1,h2,_⟩:=hT.views H R.tags _ (H.dD r R hr.1).1 hc
  exact bC (fun b hb=>(h2 b hb.1 (.inl hb.2)).2) (fun b hb=>(h2 b hb.1 (.inl hb.2)).1) (fun _ _=>rfl) (tq _ (fun _ h=>h) hd1)
theorem gap (H:Rel cx σ α F a w) (hr:aR σ r R) (hv:bq σ R) {p:List Stp} {d z:Dat} (hg:aT p R.k R.x=some d) (hz:eF p R.k R.x (uM d)=some z) (fU:nX p R.k R.x)
  (hown:∀t∈ah p R.k,ay t R.own=true) (hpv:p≠[]∨∃t,R.kind=.var t) :
  ∃cs1 nY gq rest,bF (hp w) p R.k (α.hdr r) (eB α R r)=some (cs1,nY)∧
   Rel cx (az σ r (qH R d z)) (aJ α r (α.loc r) (α.hdr r) rest) (gq++F) a w∧
   nE cx σ α F w (az σ r (qH R d z)) (aJ α r (α.loc r) (α.hdr r) rest) (gq++F) w (tQ r d.1.tys) (tQ r (tL d.1++d.1.tys))∧
   Held cx (az σ r (qH R d z)) (aJ α r (α.loc r) (α.hdr r) rest) (gq++F) w d.1 d.2 R.own R.tags cs1 gq∧(∀tys,bg (az σ r (qH R d z)) tys R.tags=bg σ tys R.tags)∧(α.fo r).Perm (gq++rest):=
 ahm (own':=R.own) H hr hv hg hz fU hown hpv (fun _ _=>rfl)
end
end
section
open Go
variable [Fr]
theorem UY {own own':List TypeId}:∀{k:K},(∀t∈k.tys,ay t own'=true→ay t own=true)→∀t∈aU own k,t∈aU own' k:=by
 intro k
 induction k with
 | sl e k ih=>
  intro h t ht
  cases hm':ay e own' with
  | true=>
   have hm:=h e (by simp [K.tys]) hm'
   simp only [aU,hm,cond_true] at ht
   simp only [aU,hm',cond_true]
   exact ih (fun t ht=>h t (by simp [K.tys,ht])) t ht
  | false=>
   have:=IC ht
   simpa [aU,hm',K.tys] using this
 | pair a b iha ihb=>
  intro h t ht
  simp only [aU,apm] at ht ⊢
  exact ht.imp (iha (fun t ht=>h t (by simp [K.tys,ht])) t) (ihb (fun t ht=>h t (by simp [K.tys,ht])) t)
 | st f ih=>intro h t ht; exact ih h t ht
 | _=>intro _ t ht; simp [aU] at ht
theorem TK {own:List TypeId}:∀(n:Nat) {c:K} {x:El c} {s u y:Dat},aQ n c x=some s→cz n c x u=some y→
  (∀e∈aU own u.1,e∈aU own y.1)∧((∀e∈aU own s.1,e∈aU own u.1)→∀e∈aU own c,e∈aU own y.1):=by
 intro n
 induction n with
 | zero=>
  intro c x s u y hg hp
  cases c with
  | pair a b=>
   simp only [aQ,cz,apd] at hg hp
   subst hg; subst hp
   refine ⟨fun e he=>by simp [aU,he],fun h e he=>?_⟩
   simp only [aU,apm] at he ⊢
   exact he.imp (h e) id
  | _=>simp [aQ] at hg
 | succ n ih=>
  intro c x s u y hg hp
  cases c with
  | pair a b=>
   simp only [aQ,cz] at hg hp
   cases h3:cz n b x.2 u with
   | none=>rw [h3] at hp; simp at hp
   | some y2=>
    rw [h3] at hp
    simp only [apd] at hp
    subst hp
    obtain ⟨g1,g2⟩:=ih hg h3
    refine ⟨fun e he=>by simp [aU,g1 e he],fun h e he=>?_⟩
    simp only [aU,apm] at he ⊢
    exact he.imp id (g2 h e)
  | _=>simp [aQ] at hg
theorem OO {own:List TypeId}:∀(p:List Stp) {k:K} {x:El k} {d t z:Dat},aT p k x=some d→eF p k x t=some z→
  (∀e∈aU own t.1,e∈aU own z.1∨∃q∈ah p k,ay q own=false)∧((∀e∈aU own d.1,e∈aU own t.1)→∀e∈aU own k,e∈aU own z.1):=by
 intro p
 induction p with
 | nil=>
  intro k x d t z hg hz
  simp only [aT,eF,apd] at hg hz
  subst hg; subst hz
  exact ⟨fun e he=>.inl he,fun h=>h⟩
 | cons s p ih=>
  intro k x d t z hg hz
  cases s with
  | gL n=>
   cases k with
   | st c=>
    simp only [aT,eF] at hg hz
    cases hcg:aQ n c x with
    | none=>rw [hcg] at hg; simp at hg
    | some s=>
     rw [hcg] at hg hz
     simp only at hg hz
     cases hs':eF p s.1 s.2 t with
     | none=>rw [hs'] at hz; simp at hz
     | some u=>
      rw [hs'] at hz
      simp only at hz
      cases hcp:cz n c x u with
      | none=>rw [hcp] at hz; simp at hz
      | some y=>
       rw [hcp] at hz
       simp only [apd] at hz
       subst hz
       obtain ⟨g1,g2⟩:=ih hg hs'
       obtain ⟨f1,f2⟩:=TK (own:=own) n hcg hcp
       have hpt:ah (.gL n :: p) (.st c)=ah p s.1:=by simp [ah,bU n hcg]
       rw [hpt]
       exact ⟨fun e he=>(g1 e he).imp (f1 e) id,fun h=>f2 (g2 h)⟩
   | _=>simp [aT] at hg
  | idx i=>
   cases k with
   | sl e k=>
    simp only [aT,eF] at hg hz
    cases hs':eF p k ((show List (El k) from x).getD i.toNat k.zero) t with
    | none=>rw [hs'] at hz; simp at hz
    | some u=>
     rw [hs'] at hz
     simp only at hz
     cases hck:bP u.1 k u.2 with
     | none=>rw [hck] at hz; simp at hz
     | some y=>
      rw [hck] at hz
      simp only [apd] at hz
      subst hz
      obtain ⟨g1,g2⟩:=ih hg hs'
      have huk:u.1=k:=by
       unfold bP at hck
       split at hck
       ·rename_i hb; exact K.eq_of_beq hb
       ·simp at hck
      refine ⟨fun e' he=>?_,fun _ e' he=>he⟩
      cases hm:ay e own with
      | false=>exact .inr ⟨e,by simp [ah],hm⟩
      | true=>
       rcases g1 e' he with h | ⟨q,h1,h2⟩
       ·exact .inl (by simp only [aU,hm,cond_true]; rw [←huk]; exact h)
       ·exact .inr ⟨q,by simp [ah,h1],h2⟩
   | _=>simp [aT] at hg
theorem Q3:∀(n:Nat) {c:K} {x y:El c} {s:Dat},aQ n c x=some s→∃t:Dat,aQ n c y=some t∧t.1=s.1:=by
 intro n
 induction n with
 | zero=>
  intro c x y s h
  cases c <;> first | (simp only [aQ,apd] at h; subst h; exact ⟨_,rfl,rfl⟩) | simp [aQ] at h
 | succ n ih=>
  intro c x y s h
  cases c <;> first | exact ih h | simp [aQ] at h
theorem Wu:∀(n:Nat) {c:K} {x:El c} {s:Dat},aQ n c x=some s→∀t∈s.1.tys,t∈c.tys:=by
 intro n
 induction n with
 | zero=>
  intro c x s h t ht
  cases c with
  | pair a b=>simp only [aQ,apd] at h; subst h; simp [K.tys,ht]
  | _=>simp [aQ] at h
 | succ n ih=>
  intro c x s h t ht
  cases c with
  | pair a b=>simp only [aQ] at h; simp [K.tys,ih h t ht]
  | _=>simp [aQ] at h
theorem vQ {h h':Heap} {own:List TypeId}:∀(q:List Stp) {k:K} {x y:El k} {cs cs':List Value} {wh:Option (Nat×Nat)} {c0:List Value} {w0:Option (Nat×Nat)},
  nX q k x→(∀t∈ah q k,ay t own=true∧t∉k.tys)→bF h q k cs wh=some (c0,w0)→nX q k y∧∃c1,bF h' q k cs' wh=some (c1,w0):=by
 intro q
 induction q with
 | nil=>
  intro k x y cs cs' wh c0 w0 _ _ hn
  simp only [bF,apd,apo] at hn ⊢
  exact ⟨trivial,_,rfl,hn.2⟩
 | cons s q ih=>
  intro k x y cs cs' wh c0 w0 hp ht hn
  cases s with
  | gL n=>
   cases k with
   | st c=>
    simp only [nX] at hp
    cases hg:aQ n c x with
    | none=>rw [hg] at hp; exact hp.elim
    | some s=>
     rw [hg] at hp
     simp only at hp
     have hpt:ah (.gL n :: q) (.st c)=ah q s.1:=by simp [ah,bU n hg]
     rw [hpt] at ht
     obtain ⟨t,g1,g2⟩:=Q3 n (c:=c) (x:=x) (y:=y) hg
     obtain ⟨sk,sx⟩:=s
     obtain ⟨tk,ty⟩:=t
     simp only at g2
     subst g2
     simp only [bF] at hn ⊢
     cases ho:bD n c with
     | none=>rw [ho] at hn; simp at hn
     | some q2=>
      rw [ho] at hn
      simp only at hn
      have hk2:q2.2=tk:=by
       have key:∀(n:Nat) {c:K} {x:El c} {s:Dat} {q:Nat×K},aQ n c x=some s→bD n c=some q→q.2=s.1:=by
        intro n
        induction n with
        | zero=>intro c x s q h1 h2; cases c with
         | pair a b=>simp only [aQ,bD,apd] at h1 h2; subst h1; subst h2; rfl
         | _=>simp [aQ] at h1
        | succ n ih=>intro c x s q h1 h2; cases c with
         | pair a b=>
          simp only [aQ,bD] at h1 h2
          cases h3:bD n b with
          | none=>rw [h3] at h2; simp at h2
          | some q3=>rw [h3] at h2; simp only [apd] at h2; subst h2; exact ih (q:=q3) h1 h3
         | _=>simp [aQ] at h1
       exact key n hg ho
      obtain ⟨o2,k2⟩:=q2
      simp only at hk2
      subst hk2
      simp only [nX,g1]
      exact ih hp (fun t h=>⟨(ht t h).1,fun h2=>(ht t h).2 (Wu n hg t h2)⟩) hn
   | _=>simp [nX] at hp
  | idx i=>
   cases k with
   | sl e k=>exact absurd (by simp [K.tys]) (ht e (by simp [ah])).2
   | _=>simp [nX] at hp
theorem Gr {h:Heap} {b o n:Nat} {arr:Array Value} {e:TypeId} {fr:Nat×Nat} (hb:h b=some (.cells arr e fr)) (hl:o+n≤arr.size):Cells h b o (qC h b o n):=by
 intro i hi
 simp only [qC,List.length_map,List.length_range] at hi ⊢
 rw [List.getElem?_map,List.getElem?_range hi]
 simp only [Option.map_some]
 unfold cellAt
 rw [hb]
 simp [show o+i<arr.size by omega]
theorem gT.widen {h0 h h':Heap} {b o n o' n':Nat} (H0:gT h0 h b o n) (H:gT h h' b o' n') (h1:o≤o') (h2:o'+n'≤o+n):gT h0 h' b o n:=by
 obtain ⟨a0,a1,e,fr,g1,g2,g3,g4⟩:=H0
 obtain ⟨b0,b1,e',fr',f1,f2,f3,f4⟩:=H
 rw [g2] at f1
 simp only [apd,Obj.cells.injEq] at f1
 obtain ⟨rfl,rfl,rfl⟩:=f1
 exact ⟨a0,b1,e,fr,g1,f2,f3.trans g3,fun i hi=>(f4 i (by omega)).trans (g4 i hi)⟩
theorem cK {l m:List Tag} {t:Tag}:t∈iP l m↔t∈l∨t∈m:=by
 induction l with
 | nil=>simp [iP]
 | cons s l ih=>
  obtain ⟨r,n⟩:=s
  simp only [iP]
  cases h:m.any fun t=>Nat.beq t.1 r && Nat.beq t.2 n with
  | true=>
   simp only [cond_true,ih,apq]
   constructor
   ·intro h; exact h.imp .inr id
   ·rintro ((h1 | h1) | h1)
    ·subst h1
     obtain ⟨t,h2,h3⟩:=List.any_eq_true.1 h
     simp only [apj] at h3
     obtain ⟨tr,tn⟩:=t
     have:=aph h3.1
     have:=aph h3.2
     simp_all
    ·exact .inl h1
    ·exact .inr h1
  | false=>simp only [cond_false,ih,apq,or_assoc]
theorem qg {r:Nat} {l:List Tag} {t:Tag}:t∈xR r l↔t∈l∧t.1≠r:=by
 unfold xR
 rw [apv]
 constructor
 ·rintro ⟨h1,h2⟩
  refine ⟨h1,fun e=>?_⟩
  rw [e] at h2
  simp at h2
 ·rintro ⟨h1,h2⟩
  refine ⟨h1, ?_⟩
  cases hb:Nat.beq t.1 r with
  | true=>exact absurd (aph hb) h2
  | false=>rfl
section
variable {cx:Cx} {σ:St} {α:dK} {F:List Nat} {a:Act} {w:World} {r:Nat} {R:Root}
theorem wT {T T':List Tag} {b:Nat} (h:iT cx σ α F w T b) (hs:∀t∈T,t∈T'):iT cx σ α F w T' b:=
 ⟨h.1,h.2.1,h.2.2.1,fun r R h1 h2=>by obtain ⟨n,hn⟩:=h.2.2.2.1 r R h1 h2; exact ⟨n,hs _ hn⟩,fun hb=>(h.2.2.2.2 hb).imp (fun ⟨j,n,h1,h2⟩=>⟨j,n,hs _ h1,h2⟩) id⟩
theorem tJ {T T':List Tag} {tys aiC:List TypeId} (h:bg σ tys T=true) (hs:∀t∈T',t∈T) (ht:∀t∈aiC,t∈tys):bg σ aiC T'=true:=by
 rw [o8] at h ⊢
 intro t h1
 rcases h t (hs t h1) with h | ⟨R,h2,h3,h4⟩
 ·exact .inl h
 ·refine .inr ⟨R,h2,h3, ?_⟩
  unfold clean at h4 ⊢
  rw [apt] at h4 ⊢
  intro x hx
  have:=h4 x hx
  simp only [Bool.not_eq_true',aV] at this ⊢
  exact fun h=>this (ht x h)
theorem o9 (H:Rel cx σ α F a w) (hr:aR σ r R) {b:Nat} (hb:b∈α.fo r):¬mG cx b:=by
 rintro ⟨j,pi,o,n,h1,h2⟩
 obtain ⟨Q,hQ,hk,hl,_⟩:=H.mQ j pi b o n h1 h2
 have hbq:b∈blk α Q (au j):=by simp [blk,eB,hk,hl]
 have hbr:b∈blk α R r:=apf _ hb
 by_cases e:r=au j
 ·subst e
  have hQR:Q=R:=by have:=hQ.1; rw [hr.1] at this; simpa using this.symm
  subst hQR
  have hnd:=(H.roots _ _ hr).nd
  rw [bT,nQ] at hnd
  exact hnd.1 b o (by simp [xG,hk,hl]) hb
 ·exact H.MX _ _ _ _ hr hQ e b hbr hbq
theorem sU (H:Rel cx σ α F a w) {b:Nat} (hb:b∈F):¬mG cx b:=by
 rintro ⟨j,pi,o,n,h1,h2⟩
 obtain ⟨Q,hQ,hk,hl,_⟩:=H.mQ j pi b o n h1 h2
 have hbq:b∈blk α Q (au j):=by simp [blk,eB,hk,hl]
 exact H.jB _ _ hQ b hbq hb
def bH (R:Root) (z:Dat) (own:List TypeId) (tags:List Tag) (lw lh:List TypeId) (kp:Bool):Root:=
 { R with k:=z.1,x:=z.2,own:=own,tags:=tags,w:=lw++R.w,h:=lh++R.h,keep:=kp }
theorem qB (H:Rel cx σ α F a w) (hr:aR σ r R) (hv:bq σ R) {p:List Stp} {d:Dat} (hg:aT p R.k R.x=some d) (fU:nX p R.k R.x) (hown:∀t∈ah p R.k,ay t R.own=true)
  {cs1:List Value} {b o:Nat} (hn:bF (hp w) p R.k (α.hdr r) (eB α R r)=some (cs1,some (b,o))) :
  Cells (hp w) b o cs1∧(∃gq,Ow (hp w) R.own (iT cx σ α F w R.tags) d.1 d.2 cs1 gq∧∀b∈gq,b∈α.fo r)∧b∈blk α R r∧(∃arr e lo hi,hp w b=some (.cells arr e (lo,hi))∧(∀i,i<arr.size→¬(lo≤i∧i<hi))∧o+d.1.size≤arr.size∧((eU R p=e∧¬mG cx b)∨(mG cx b∧eU R p=SENT)))∧
   (∀b' o',eB α R r=some (b',o')→b=b'→o'≤o∧o+d.1.size≤o'+R.k.size):=by
 have K:=H.roots r R hr
 have hnd:=K.nd
 rw [bT,nQ] at hnd
 obtain ⟨qo,gq,rest,nY,hn',hp1,hd1,hc1,hin,hnone,hup⟩:=focus p (K.ow hv) (fun b o e=>(K.mem b o e).1) hg fU hown hnd.2 (fun b o e=>hnd.1 b o e)
 rw [hn] at hn'
 simp only [apd,apo] at hn'
 obtain ⟨rfl,rfl⟩:=hn'
 refine ⟨hc1 b o rfl,⟨gq,hd1,fun b hb=>hp1.mem_iff.2 (api _ hb)⟩, ?_, ?_, ?_⟩
 ·rw [bT,eZ]
  rcases hin b o rfl with ⟨_,o0,ew,_⟩ | ⟨h1,_⟩
  ·exact .inl ⟨o0,ew⟩
  ·exact .inr (hp1.mem_iff.2 (apf _ h1))
 ·rcases hin b o rfl with ⟨h0,o0,ew,h1,h2⟩ | ⟨h1,arr,e,lo,hi,h2,h3,h4,h5⟩
  ·obtain ⟨_,arr,e,lo,hi,g1,g2,g3,g4⟩:=K.mem b o0 ew
   refine ⟨arr,e,lo,hi,g1,g2,by omega, ?_⟩
   unfold eU
   rw [h0]
   simp only [List.getLastD_nil]
   unfold Root.bt
   cases hk:R.kind with
   | var t=>
    refine .inl ⟨(g4 t hk).symm, ?_⟩
    rintro ⟨j,pi,o',n',h1',h2'⟩
    obtain ⟨Q,hQ,hkQ,hlQ,_⟩:=H.mQ j pi b o' n' h1' h2'
    have hbq:b∈blk α Q (au j):=by simp [blk,eB,hkQ,hlQ]
    have hbr:b∈blk α R r:=by rw [bT,eZ]; exact .inl ⟨o0,ew⟩
    by_cases e:r=au j
    ·subst e
     have hQR:Q=R:=by have:=hQ.1; rw [hr.1] at this; simpa using this.symm
     subst hQR
     rw [hk] at hkQ
     simp at hkQ
    ·exact H.MX _ _ _ _ hr hQ e b hbr hbq
   | par=>
    obtain ⟨j,pi,n,hj1,hj2,hj3⟩:=H.JA r R hr hk
    have:(α.loc r).1=b:=by
     have:=ew
     unfold eB at this
     rw [hk] at this
     simp only [apd] at this
     rw [this]
    exact .inr ⟨⟨j,pi,_,n,hj2,by rw [hj3,this]⟩,rfl⟩
   | anon=>unfold eB at ew; rw [hk] at ew; simp at ew
   | dead=>unfold eB at ew; rw [hk] at ew; simp at ew
  ·refine ⟨arr,e,lo,hi,h2,h3,h5, .inl ⟨?_,o9 H hr (hp1.mem_iff.2 (apf _ h1))⟩⟩
   unfold eU
   rw [List.getLastD_eq_getLast?,h4]
   rfl
 ·intro b' o' ew e
  subst e
  rcases hin b o rfl with ⟨_,o0,ew',h1,h2⟩ | ⟨h1,_⟩
  ·rw [ew] at ew'
   simp only [apd,apo,true_and] at ew'
   subst ew'
   exact ⟨h1,h2⟩
  ·exact absurd (hp1.mem_iff.2 (apf _ h1)) (hnd.1 b o' ew)
end
end
section
open Go
variable [Fr]
section
variable {cx:Cx} {σ:St} {α:dK} {F:List Nat} {a:Act} {w:World} {r:Nat} {R:Root}
structure tu (cx:Cx) (σ:St) (α:dK) (F:List Nat) (w:World) (r:Nat) (R:Root) (p:List Stp) (d:Dat) (own':List TypeId) (cs1:List Value) (nY:Option (Nat×Nat)) (gq rest:List Nat)
  (t z:Dat) (tags':List Tag) (lw lh:List TypeId) (kp:Bool) (ft F':List Nat) (cs':List Value) (w':World):Prop where
 hz:eF p R.k R.x t=some z
 ht:t.1.size=d.1.size
 Xf:∀e∈aU own' d.1,e∈aU own' t.1
 os:w'.os=w.os∧w'.tape=w.tape∧w'.output=w.output
 size:w.heap.size≤w'.heap.size
 SI:∀b,b<w.heap.size→hp w' b≠hp w b→b∈F∨(b∈gq∧∃e∈lw,q8 (hp w) b=some e)∨(∃o,nY=some (b,o)∧eU R p∈lw)
 cells:∀b o,nY=some (b,o)→Cells (hp w') b o cs'∧gT (hp w) (hp w') b o d.1.size
 none:nY=none→cs'=cs1
 len:cs'.length=d.1.size
 log:lw≠[]∨lh≠[]
 tags:(∀t∈R.tags,t∈tags')∧fD σ tags'∧∀n,(r,n)∉tags'
 VF:∀b∈ft,b∈gq∨b∈F∨(w.heap.size≤b∧b<w'.heap.size)
 alx:ft.Nodup
 newF:∀b∈F',b∈F∨(w.heap.size≤b∧b<w'.heap.size)∨(b∈gq∧∃e∈lw,q8 (hp w) b=some e)
 aiX:F'.Nodup
 alv:∀b∈ft,b∉F'
 amF:uO t.1=uO d.1∨nY≠Option.none
 alz:t.1=d.1∨(∀q',(aT q' t.1 t.2).isSome=true→(∀e∈ah q' t.1,e∉lh)→ah q' d.1=ah q' t.1∧(aT q' d.1 d.2).isSome=true)∨qK∈lh
 nav:qK∉lh→JU (hp w) (hp w') own' d.1 d.2 cs1 nY t cs' lh
 cont:∀α',nE cx σ α F w (az σ r (bH R z own' tags' lw lh kp)) α' F' w' (tQ r lw) (tQ r lh)→(∀b∈blk α' (bH R z own' tags' lw lh kp) r,(∃o,eB α R r=some (b,o))∨b∈ft∨b∈rest)→
  bq (az σ r (bH R z own' tags' lw lh kp)) (bH R z own' tags' lw lh kp)→Ow (hp w') own' (iT cx (az σ r (bH R z own' tags' lw lh kp)) α' F' w' tags') t.1 t.2 cs' ft
theorem Rel.place (H:Rel cx σ α F a w) (hr:aR σ r R) (hv:bq σ R) {p:List Stp} {d:Dat} {own':List TypeId} (hg:aT p R.k R.x=some d) (fU:nX p R.k R.x)
  (hsub:∀t,ay t own'=true→ay t R.own=true) (hown:∀t∈ah p R.k,ay t own'=true) :
  ∃fd ok' gq rest cs1 nY,bF (hp w) p R.k (α.hdr r) (eB α R r)=some (cs1,nY)∧(α.fo r).Perm (gq++rest++fd)∧Ow (hp w) own' ok' d.1 d.2 cs1 gq∧(∀b∈gq++rest,∃e∈R.k.tys,ay e own'=true∧q8 (hp w) b=some e)∧
   ((∀t∈R.k.tys,ay t own'=ay t R.own)→fd=[]∧Ow (hp w) own' (iT cx σ α F w R.tags) d.1 d.2 cs1 gq)∧
   (∀b o,nY=some (b,o)→b∈rest∨∃o0,eB α R r=some (b,o0)∧o0≤o∧o+d.1.size≤o0+R.k.size)∧(∀b o,nY=some (b,o)→b∉gq)∧
   ∀{t z:Dat} {tags':List Tag} {lw lh:List TypeId} {kp:Bool} {ft F':List Nat} {cs':List Value} {w':World},tu cx σ α F w r R p d own' cs1 nY gq rest t z tags' lw lh kp ft F' cs' w'→
    ∃α',Rel cx (az σ r (bH R z own' tags' lw lh kp)) α' F' a w'∧nE cx σ α F w (az σ r (bH R z own' tags' lw lh kp)) α' F' w' (tQ r lw) (tQ r lh)∧(∀b∈blk α' (bH R z own' tags' lw lh kp) r,(∃o,eB α R r=some (b,o))∨b∈ft∨b∈rest)∧
     (qK∉lh→bq (az σ r (bH R z own' tags' lw lh kp)) (bH R z own' tags' lw lh kp)→bF (hp w') p z.1 (α'.hdr r) (eB α' (bH R z own' tags' lw lh kp) r)=some (cs',nY))∧∀b∈ft,b∈α'.fo r:=by
 have K:=H.roots r R hr
 have hnd:=K.nd
 rw [bT,nQ] at hnd
 have hO:=K.ow hv
 obtain ⟨NY,fd,hpK,hOK,hfd0⟩:∃NY fd,(α.fo r).Perm (NY++fd)∧Ow (hp w) own' (fun b=>(iT cx σ α F w R.tags b∨b∈fd)∧∃t∈aU own' R.k,wH (hp w) b t) R.k R.x (α.hdr r) NY∧((∀t∈R.k.tys,ay t own'=ay t R.own)→fd=[]):=by
  by_cases hall:∀t∈R.k.tys,ay t own'=ay t R.own
  ·exact ⟨α.fo r,[],by simp,tq _ (fun _ h=>h) (bC (fun _ _=>rfl) (fun _ h=>.inl h) (fun _ _=>rfl) (uE hall hO)),fun _=>rfl⟩
  ·obtain ⟨NY,fd,h1,h2⟩:=vM (own':=own') (fun t _ h=>hsub t h) hO
   exact ⟨NY,fd,h1,tq _ (fun _ h=>h) h2,fun h=>absurd h hall⟩
 have aez:=hpK.nodup hnd.2
 have alZ:∀b,b∈α.fo r↔b∈NY∨b∈fd:=fun b=>by rw [hpK.mem_iff,apm]
 obtain ⟨cs1,gq,rest,nY,hn,hp1,hd1,hc1,hin,hnone,hup⟩:=focus p hOK (fun b o e=>(K.mem b o e).1) hg fU hown (apk.1 aez).1 (fun b o e hb=>hnd.1 b o e ((alZ b).2 (.inl hb)))
 have hpf:(α.fo r).Perm (gq++rest++fd):=hpK.trans (List.Perm.append_right _ hp1)
 have hfo:∀b,b∈α.fo r↔(b∈gq∨b∈rest)∨b∈fd:=fun b=>by rw [hpf.mem_iff,apm,apm]
 have Xa:=hpf.nodup hnd.2
 have Rz:=(apk.1 Xa).1
 have amz:=uH hOK
 have Az:∀b o,nY=some (b,o)→b∈rest∨∃o0,eB α R r=some (b,o0)∧o0≤o∧o+d.1.size≤o0+R.k.size:=by
  intro b o e
  rcases hin b o e with ⟨_,o0,ew,h1,h2⟩ | ⟨h1,_⟩
  ·exact .inr ⟨o0,ew,h1,h2⟩
  ·exact .inl h1
 have aeM:∀b o,nY=some (b,o)→b∉gq:=by
  intro b o e hb
  rcases Az b o e with h | ⟨o0,ew,_⟩
  ·exact (apk.1 Rz).2.2 b hb b h rfl
  ·exact hnd.1 b o0 ew ((hfo b).2 (.inl (.inl hb)))
 have aie:∀b o,nY=some (b,o)→b∉fd:=by
  intro b o e hb
  rcases Az b o e with h | ⟨o0,ew,_⟩
  ·exact (apk.1 Xa).2.2 b (apf _ h) b hb rfl
  ·exact hnd.1 b o0 ew ((hfo b).2 (.inr hb))
 refine ⟨fd,_,gq,rest,cs1,nY,hn,hpf,hd1,fun b hb=>amz b (hp1.mem_iff.2 hb), ?_,Az,aeM, ?_⟩
 ·intro hall
  have h0:=hfd0 hall
  refine ⟨h0,bC (fun _ _=>rfl) (fun b hb=>?_) (fun _ _=>rfl) hd1⟩
  rcases hb.1 with hb | hb
  ·exact hb
  ·rw [h0] at hb; simp at hb
 intro t z tags' lw lh kp ft F' cs' w' P
 generalize hR':bH R z own' tags' lw lh kp=R' at *
 have Ez:R'.k=z.1:=by rw [←hR']; rfl
 have hkind:R'.kind=R.kind:=by rw [←hR']; rfl
 have ahG:R'.aX=false:=by rw [Xj hkind]; exact hr.2
 have ahu:R'.own=own':=by rw [←hR']; rfl
 have Y1:R'.tags=tags':=by rw [←hR']; rfl
 have hRg:R'.g=R.g:=by rw [←hR']; rfl
 have hRw:R'.w=lw++R.w:=by rw [←hR']; rfl
 have hRh:R'.h=lh++R.h:=by rw [←hR']; rfl
 have hsz:z.1.size=R.k.size:=Iw p hg P.ht P.hz
 have jJ:∀b,b∈gq∨b∈rest∨b∈fd∨(∃o,eB α R r=some (b,o))→b∈blk α R r:=by
  intro b hb
  rw [bT,eZ,hfo]
  rcases hb with h | h | h | h
  ·exact .inr (.inl (.inl h))
  ·exact .inr (.inl (.inr h))
  ·exact .inr (.inr h)
  ·exact .inl h
 have Jv:∀b∈blk α R r,b∉F:=fun b hb=>H.jB r R hr b hb
 have hblt:∀b∈blk α R r,b<w.heap.size:=fun b hb=>(K.mine b hb).1
 have aej:∀b∈blk α R r,b∉gq→b∉F':=fun b hb hno h=>by
  rcases P.newF b h with h | h | h
  ·exact Jv b hb h
  ·have:=hblt b hb; omega
  ·exact hno h.1
 have Zu:∀b∈blk α R r,b∉gq→(∀o,nY≠some (b,o))→hp w' b=hp w b:=by
  intro b hb h1 h2
  refine apA fun hne=>?_
  rcases P.SI b (hblt b hb) hne with h | ⟨h,_⟩ | ⟨o,h,_⟩
  ·exact Jv b hb h
  ·exact h1 h
  ·exact h2 o h
 have abG:∀b∈fd,hp w' b=hp w b:=fun b hb=>Zu b (jJ b (.inr (.inr (.inl hb))))
  (fun h=>(apk.1 Xa).2.2 b (api _ h) b hb rfl) (fun o e=>aie b o e hb)
 have Xd:∀b∈rest,nY.map (·.1)≠some b→hp w' b=hp w b:=fun b hb hne=>Zu b (jJ b (.inr (.inl hb)))
  (fun h=>(apk.1 Rz).2.2 b h b hb rfl) (fun o e=>hne (by rw [e]; rfl))
 have Vv:∀b o,eB α R r=some (b,o)→nY.map (·.1)≠some b→hp w' b=hp w b:=fun b o e hne=>Zu b (jJ b (.inr (.inr (.inr ⟨o,e⟩))))
  (fun h=>hnd.1 b o e ((hfo b).2 (.inl (.inl h)))) (fun o e=>hne (by rw [e]; rfl))
 let hdr':=match eB α R r with
  | some (b0,o0)=>qC (hp w') b0 o0 R.k.size
  | none=>α.hdr r
 have hT1:BP cx σ α F w r R R' (ft++rest) F' w' lw lh:=by
  refine ⟨.inr ⟨hRw,hRh,by rw [hRg]; exact apu _,hkind,fun _=>by rw [Ez]; exact hsz,P.log⟩,by rw [Y1]; exact P.tags.2,P.os,P.size, ?_, ?_, ?_,P.aiX, ?_, ?_,fun _=>by rw [←hR']; exact ⟨rfl,rfl⟩⟩
  ·intro b hb hne
   rcases P.SI b hb hne with h | ⟨h,h2⟩ | ⟨o,h,h2⟩
   ·exact .inl h
   ·exact .inr ⟨jJ b (.inl h), .inr (.inl h2)⟩
   ·have hbb:b∈blk α R r:=jJ b (by
     rcases Az b o h with h | ⟨o0,ew,_⟩
     ·exact .inr (.inl h)
     ·exact .inr (.inr (.inr ⟨o0,ew⟩)))
    refine .inr ⟨hbb, .inr ?_⟩
    rcases hin b o h with ⟨h0,o0,ew,_⟩ | ⟨_,arr,e,lo,hi,g1,_,g3,_⟩
    ·
     obtain ⟨_,arr,e,lo,hi,g1,g2,g3,g4⟩:=K.mem b o0 ew
     unfold eU at h2
     rw [h0] at h2
     simp only [List.getLastD_nil] at h2
     cases hk:R.kind with
     | var tv=>
      refine .inl ⟨tv, ?_, ?_⟩
      ·unfold Root.bt at h2; rw [hk] at h2; exact h2
      ·unfold q8; rw [g1]; simp [g4 tv hk]
     | par=>
      obtain ⟨j,pi,n,hj1,hj2,hj3⟩:=H.JA r R hr hk
      have:(α.loc r).1=b:=by
       have:=ew
       unfold eB at this
       rw [hk] at this
       simp only [apd] at this
       rw [this]
      exact .inr ⟨⟨j,pi,_,n,hj2,by rw [hj3,this]⟩,fun e=>by rw [e] at h2; simp at h2⟩
     | anon=>unfold eB at ew; rw [hk] at ew; simp at ew
     | dead=>unfold eB at ew; rw [hk] at ew; simp at ew
    ·refine .inl ⟨e, ?_,by unfold q8; rw [g1]⟩
     unfold eU at h2
     rw [List.getLastD_eq_getLast?,g3] at h2
     exact h2
  ·intro _ b hb
   rw [o7 hkind,eZ,apm] at hb
   rcases hb with ⟨o,h⟩ | h | h
   ·exact .inl (jJ b (.inr (.inr (.inr ⟨o,h⟩))))
   ·rcases P.VF b h with h | h | h
    ·exact .inl (jJ b (.inl h))
    ·exact .inr (.inl h)
    ·exact .inr (.inr h)
   ·exact .inl (jJ b (.inr (.inl h)))
  ·intro b hb
   rcases P.newF b hb with h | h | h
   ·exact .inl h
   ·exact .inr (.inl h)
   ·exact .inr (.inr ⟨jJ b (.inl h.1), .inr (.inl h.2)⟩)
  ·intro _ b hb
   rw [o7 hkind,eZ,apm] at hb
   rcases hb with ⟨o,h⟩ | h | h
   ·exact aej b (jJ b (.inr (.inr (.inr ⟨o,h⟩)))) (fun h1=>hnd.1 b o h ((hfo b).2 (.inl (.inl h1))))
   ·exact P.alv b h
   ·exact aej b (jJ b (.inr (.inl h))) (fun h1=>(apk.1 Rz).2.2 b h1 b h rfl)
  ·intro j pi b o n hj hb hrj hne
   obtain ⟨Q,hQ,hk,hl,hs⟩:=H.mQ j pi b o n hj hb
   have hQR:Q=R:=by have:=hQ.1; rw [←hrj,hr.1] at this; simpa using this.symm
   subst hQR
   have hwb:eB α Q r=some (b,o):=by unfold eB; rw [hk,hrj,hl]
   have hbb:=jJ b (.inr (.inr (.inr ⟨o,hwb⟩)))
   obtain ⟨_,_,_,_,_,f6⟩:=H.frame
   have h0:=f6 j pi b o n hj hb
   rcases P.SI b (hblt b hbb) hne with h | ⟨h,_⟩ | ⟨o',h,_⟩
   ·exact absurd h (Jv b hbb)
   ·exact absurd ((hfo b).2 (.inl (.inl h))) (hnd.1 b o hwb)
   ·rcases Az b o' h with h1 | ⟨o0,ew,h1,h2⟩
    ·exact absurd ((hfo b).2 (.inl (.inr h1))) (hnd.1 b o hwb)
    ·rw [hwb] at ew
     simp only [apd,apo,true_and] at ew
     subst ew
     exact h0.widen (P.cells b o' h).2 h1 (by omega)
 have hT:=hT1.turn (hdr':=hdr') H hr
 have hblk':∀b∈blk (aJ α r (α.loc r) hdr' (ft++rest)) R' r,(∃o,eB α R r=some (b,o))∨b∈ft∨b∈rest:=by
  intro b hb
  rw [eO,o7 hkind,eZ,apm] at hb
  exact hb
 have hwhole:bq (az σ r R') R'→Ow (hp w') own' (iT cx (az σ r R') (aJ α r (α.loc r) hdr' (ft++rest)) F' w' tags') z.1 z.2 hdr' (ft++rest)∧
   (qK∉lh→(t.1=d.1→z.1=R.k)∧JU (hp w) (hp w') own' R.k R.x (α.hdr r) (eB α R r) z hdr' lh∧bF (hp w') p z.1 hdr' (eB α R r)=some (cs',nY)):=by
  intro hv'
  have hcont:=P.cont _ (by rw [hR']; exact hT) (by rw [hR']; exact hblk') (by rw [hR']; exact hv')
  rw [hR'] at hcont
  have Xf:∀e∈aU own' R.k,e∈R'.Dw:=by
   unfold Root.Dw
   rw [ahu,Ez]
   exact (OO p hg P.hz).2 P.Xf
  have hc2:=hv'.2
  rw [Y1] at hc2
  obtain ⟨_,hV,_⟩:=hT.views H R.tags (aU own' R.k) (H.dD r R hr.1).1 (tJ hc2 P.tags.1 Xf)
  have hok:∀b,((iT cx σ α F w R.tags b∨b∈fd)∧∃t∈aU own' R.k,wH (hp w) b t)→iT cx (az σ r R') (aJ α r (α.loc r) hdr' (ft++rest)) F' w' tags' b∧hp w' b=hp w b:=by
   rintro b ⟨hb,hty⟩
   rcases hb with hb | hb
   ·obtain ⟨h1,h2⟩:=hV b hb (.inl hty)
    exact ⟨wT h1 P.tags.1,h2⟩
   ·have hbb:=jJ b (.inr (.inr (.inl hb)))
    refine ⟨⟨Nat.lt_of_lt_of_le (hblt b hbb) P.size,aej b hbb (fun h1=>(apk.1 Xa).2.2 b (api _ h1) b hb rfl),o9 H hr ((hfo b).2 (.inr hb)), ?_, ?_⟩,abG b hb⟩
    ·intro q Q hq hbq
     exfalso
     rcases jC hq with ⟨rfl,rfl,_⟩ | ⟨e,hq'⟩
     ·rcases hblk' b hbq with ⟨o,h⟩ | h | h
      ·exact hnd.1 b o h ((hfo b).2 (.inr hb))
      ·rcases P.VF b h with h | h | h
       ·exact (apk.1 Xa).2.2 b (api _ h) b hb rfl
       ·exact Jv b hbb h
       ·have:=hblt b hbb; omega
      ·exact (apk.1 Xa).2.2 b (apf _ h) b hb rfl
     ·rw [(iy (α:=α) (σ:=σ) (R:=R') e).blk] at hbq
      exact H.MX _ _ _ _ hr hq' (Ne.symm e) b hbb hbq
    ·intro hb0
     rcases (K.mine b hbb).2 with h | ⟨j,pi,h1,h2⟩
     ·omega
     ·exact .inr ⟨j,pi,h1,h2⟩
  obtain ⟨csn,hl0,LB,hC',hN',hK'⟩:=hup.go (hp w') (iT cx (az σ r R') (aJ α r (α.loc r) hdr' (ft++rest)) F' w' tags') t cs' ft z P.hz P.len hcont hok Xd P.cells P.none Vv
  have ahF:csn=hdr':=by
   cases hw:eB α R r with
   | none=>
    have:hdr'=α.hdr r:=by simp only [hdr']; rw [hw]
    rw [this]
    exact hN' hw
   | some q=>
    have:hdr'=qC (hp w') q.1 q.2 R.k.size:=by simp only [hdr']; rw [hw]
    rw [this]
    have h1:=iC (hC' q.1 q.2 hw)
    rw [hl0,K.len] at h1
    exact h1.symm
  rw [ahF] at LB
  refine ⟨LB,fun Ay=>?_⟩
  have:=hK' lh P.ht (P.nav Ay)
  rw [ahF] at this
  exact ⟨this.1,this.2.2⟩
 refine ⟨aJ α r (α.loc r) hdr' (ft++rest),hT1.rel H hr ?_ ?_ ?_,hT,hblk',fun hgn hv'=>by
  have h3:=((hwhole hv').2 hgn).2.2
  have Zx:eB (aJ α r (α.loc r) hdr' (ft++rest)) R' r=eB α R r:=by rw [jN,vZ hkind, ←uW]
  have Um:(aJ α r (α.loc r) hdr' (ft++rest)).hdr r=hdr':=by simp [aJ,upd_same]
  rw [Zx,Um]
  exact h3,fun b hb=>by
  have alY:(aJ α r (α.loc r) hdr' (ft++rest)).fo r=ft++rest:=by simp [aJ,upd_same]
  rw [alY]
  exact api _ hb⟩
 ·intro _
  refine ⟨fun hv'=>?_, ?_, ?_, ?_⟩
  ·have:=(hwhole hv').1
   subst hR'
   exact this
  ·rw [Ez,hsz]
   simp only [hdr']
   cases hw:eB α R r with
   | none=>exact K.len
   | some q=>simp [qC]
  ·intro b o hb
   rw [vZ hkind, ←uW] at hb
   have hh:hdr'=qC (hp w') b o R.k.size:=by simp only [hdr']; rw [hb]
   obtain ⟨_,arr,e,lo,hi,g1,g2,g3,g4⟩:=K.mem b o hb
   have hnew:∃kP,hp w' b=some (.cells kP e (lo,hi))∧kP.size=arr.size:=by
    by_cases hbw:nY.map (·.1)=some b
    ·cases aeL:nY with
     | none=>rw [aeL] at hbw; simp at hbw
     | some q=>
      rw [aeL] at hbw
      simp only [Option.map_some,apd] at hbw
      obtain ⟨a1,a2,te,fr,f1,f2,f3,_⟩:=(P.cells q.1 q.2 aeL).2
      rw [hbw] at f1 f2
      rw [g1] at f1
      simp only [apd,Obj.cells.injEq] at f1
      obtain ⟨rfl,rfl,rfl⟩:=f1
      exact ⟨a2,f2,f3⟩
    ·exact ⟨arr,(Vv b o hb hbw).trans g1,rfl⟩
   obtain ⟨kP,f1,f2⟩:=hnew
   refine ⟨?_,kP,e,lo,hi,f1,by rw [f2]; exact g2,by rw [f2,Ez,hsz]; exact g3,fun tv hk=>g4 tv (hkind▸hk)⟩
   rw [hh]
   exact Gr f1 (by rw [f2]; exact g3)
  ·rw [o7 hkind,nQ]
   refine ⟨fun b o hb h=>?_,apk.2 ⟨P.alx,(apk.1 Rz).2.1,fun b h1 c h2 e=>?_⟩⟩
   ·have hbb:=jJ b (.inr (.inr (.inr ⟨o,hb⟩)))
    rcases apm.1 h with h | h
    ·rcases P.VF b h with h | h | h
     ·exact hnd.1 b o hb ((hfo b).2 (.inl (.inl h)))
     ·exact Jv b hbb h
     ·have:=hblt b hbb; omega
    ·exact hnd.1 b o hb ((hfo b).2 (.inl (.inr h)))
   ·subst e
    have hbb:=jJ b (.inr (.inl h2))
    rcases P.VF b h1 with h | h | h
    ·exact (apk.1 Rz).2.2 b h b h2 rfl
    ·exact Jv b hbb h
    ·have:=hblt b hbb; omega
 ·intro _ q n v hn' hold
  refine ⟨hold.1, ?_⟩
  intro Q hQ hvQ hcl hty hsome
  have hQ':Q=R':=by
   rw [aK] at hQ
   simpa using hQ.symm
  subst hQ'
  have Zx:eB (aJ α r (α.loc r) hdr' (ft++rest)) Q r=eB α R r:=by rw [jN,vZ hkind, ←uW]
  have Um:(aJ α r (α.loc r) hdr' (ft++rest)).hdr r=hdr':=by simp [aJ,upd_same]
  rw [Zx,Um]
  rw [hRh,qa hn'] at hcl
  by_cases hq:q=[]
  ·subst hq
   obtain ⟨_,cs,b,o,h1,h2⟩:=hold.2 R hr.1 hv (by simp [clean,eD,ay]) (fun t ht=>by simp [ah] at ht) rfl
   simp only [bF,apd,apo] at h1
   exact ⟨trivial,hdr',b,o,by simp only [bF]; rw [h1.2],h2⟩
  ·have hpt:∀k,eD q k=qK :: ah q k:=by
    intro k
    cases q with
    | nil=>exact absurd rfl hq
    | cons s q=>rfl
   rw [hpt] at hcl
   have hgn:qK∉lh:=fun hm=>hcl.1 qK hm (by simp)
   obtain ⟨hk,hnk,_⟩:=(hwhole hvQ).2 hgn
   subst hR'
   have acU:ah q R.k=ah q z.1∧(aT q R.k R.x).isSome=true:=by
    rcases P.alz with h | h | h
    ·have hk:=hk h
     obtain ⟨zk,zx⟩:=z
     simp only at hk
     subst hk
     exact ⟨rfl,by rw [qU q (y:=zx)]; exact hsome⟩
    ·exact OG (bad:=lh) p q hg P.hz h hsome (fun e he hm=>hcl.1 e hm (apC _ he))
    ·exact absurd h hgn
   have hpe:ah q (bH R z own' tags' lw lh kp).k=ah q R.k:=acU.1.symm
   rw [hpe] at hcl hty
   have alT:∀t∈lh,t∉qK :: ah q R.k:=hcl.1
   obtain ⟨g1,cs,b,o,g2,g3⟩:=hold.2 R hr.1 hv (by rw [hpt]; exact hcl.2) (fun t ht=>hsub t (hty t ht)) acU.2
   obtain ⟨f1,c1,f2⟩:=hnk q cs (some (b,o)) g1 (fun t ht=>⟨hty t ht,fun h=>alT t h (apC _ ht)⟩) g2 hsome
   exact ⟨f1,c1,b,o,f2,g3⟩
 ·intro _ g v hg' hold Q hQ hgQ
  obtain ⟨hQ',_⟩:=eX hQ
  subst hQ'
  obtain ⟨h1,h2⟩:=hold R hr (hRg▸hgQ)
  have hw:eB α R r=none:=by unfold eB; rw [h1]
  have hh:hdr'=α.hdr r:=by simp only [hdr']; rw [hw]
  have Um:(aJ α r (α.loc r) hdr' (ft++rest)).hdr r=hdr':=by simp [aJ,upd_same]
  rw [Um,hh,hkind]
  refine ⟨h1, ?_⟩
  rw [Ez]
  refine (Ve ?_).2 h2
  by_cases hp:p=[]
  ·subst hp
   have hz:=P.hz
   simp only [eF,aT,apd] at hz hg
   subst hz
   rcases P.amF with h | h
   ·rw [h, ←hg]
   ·simp only [bF,apd,apo] at hn
    rw [←hn.2,hw] at h
    exact absurd rfl h
  ·exact OC hp P.hz
end
end
section
open Go
variable [Fr]
theorem wL:∀{k:K},k.flat=true→k.tys=[]:=by
 intro k
 induction k with
 | sl e k ih=>intro h; simp [K.flat] at h
 | gap n=>intro h; simp [K.flat] at h
 | pair a b iha ihb=>intro h; simp only [K.flat,apj] at h; simp [K.tys,iha h.1,ihb h.2]
 | st f ih=>intro h; exact ih h
 | _=>intro _; rfl
theorem aba {h h':Heap} {own own':List TypeId} {ok ok':Nat→Prop}:∀{k:K} {x:El k} {cs:List Value} {fo:List Nat},k.flat=true→Ow h own ok k x cs fo→fo=[]∧Ow h' own' ok' k x cs []:=by
 intro k
 induction k with
 | sl e k ih=>intro x cs fo h; simp [K.flat] at h
 | gap n=>intro x cs fo h; simp [K.flat] at h
 | pair a b iha ihb=>
  intro x cs fo h H
  simp only [K.flat,apj] at h
  obtain ⟨c1,c2,f1,f2,e,hp,h1,h2⟩:=H
  obtain ⟨g1,k1⟩:=iha h.1 h1
  obtain ⟨g2,k2⟩:=ihb h.2 h2
  subst g1; subst g2
  exact ⟨hp.eq_nil,c1,c2,[],[],e, .refl _,k1,k2⟩
 | st f ih=>intro x cs fo h H; exact ih (x:=x) h H
 | int ik=>intro x cs fo _ H; exact ⟨H.1,rfl,H.2⟩
 | bool=>intro x cs fo _ H; exact ⟨H.1,rfl,H.2⟩
 | id e=>intro x cs fo _ H; exact ⟨H.1,rfl,H.2⟩
 | str=>intro x cs fo _ H; exact ⟨H.1,rfl,H.2⟩
 | unit=>intro x cs fo _ H; exact ⟨H.1,rfl,H.2⟩
theorem abO {ik:IntKind} {n:Int} (h:inK ik n=true):JB ik n:=by
 cases ik <;> simp_all [inK,JB,inK.Int.blt,inK.Int.ble]
theorem bL {a b:K} {x:El a} {y:El b} (h:bP a b x=some y):∃e:a=b,y=e▸x:=by
 unfold bP at h
 split at h
 ·rename_i hb
  simp only [apd] at h
  exact ⟨K.eq_of_beq hb,h.symm⟩
 ·simp at h
section
variable {A:Type} {cx:Cx} {σ:St} {α:dK} {F:List Nat} {a:Act} {w:World} {z:A}
theorem gM {k:Prog A} {tys:List TypeId}:∀{T:List Tag},(oH T tys k).ends σ z→bg σ tys T=true∧k.ends σ z:=by
 intro T
 induction T with
 | nil=>intro h; exact ⟨rfl,h⟩
 | cons t T ih=>
  obtain ⟨r,n⟩:=t
  intro h
  simp only [oH] at h
  cases he:fP r with
  | true=>
   rw [he] at h
   obtain ⟨h1,h2⟩:=ih h
   exact ⟨by simp [bg,he,h1],h2⟩
  | false=>
   rw [he] at h
   simp only [cond_false,Prog.ends] at h
   cases hr:σ.roots r with
   | none=>rw [hr] at h; exact h.elim
   | some R=>
    rw [hr] at h
    simp only at h
    cases hc:(!R.aX && clean R.w n tys) with
    | false=>rw [hc] at h; exact h.elim
    | true=>
     rw [hc] at h
     obtain ⟨h1,h2⟩:=ih h
     exact ⟨by simp only [bg,he,hr,cond_false]; rw [hc,h1]; rfl,h2⟩
theorem cO {r:Nat} {k:Root→Prog A} (h:(sI r k).ends σ z):∃R,aR σ r R∧bq σ R∧(k R).ends σ z:=by
 unfold sI at h
 simp only [Prog.ends] at h
 cases hr:σ.roots r with
 | none=>rw [hr] at h; exact h.elim
 | some R=>
  rw [hr] at h
  simp only at h
  cases hd:R.aX with
  | true=>rw [hd] at h; exact h.elim
  | false=>
   rw [hd] at h
   obtain ⟨h1,h2⟩:=gM h
   exact ⟨R,⟨hr,hd⟩,⟨hd,h1⟩,h2⟩
theorem abT (v:Value):bI cx σ α F w (ZV v) v∧tF σ (ZV v):=by
 unfold ZV
 split
 ·rename_i k n
  cases h:inK k n with
  | true=>exact ⟨fun _=>⟨[.int k n],⟨rfl,by simp⟩,rfl,abO h⟩,fun t ht=>by simp at ht⟩
  | false=>exact ⟨trivial,trivial⟩
 ·exact ⟨fun _=>⟨_,⟨rfl,by simp⟩,rfl⟩,fun t ht=>by simp at ht⟩
 ·rename_i s
  exact ⟨fun _=>⟨_,⟨rfl,by simp⟩,s,rfl,rfl⟩,fun t ht=>by simp at ht⟩
 ·exact ⟨⟨none,rfl⟩,trivial⟩
 ·exact ⟨rfl,trivial⟩
 ·exact ⟨trivial,trivial⟩
theorem tK (H:Rel cx σ α F a w) {x:Operand} {k:yQ→Prog A} (h:(u6 x k).ends σ z):∃v1,jT cx σ α F w v1 (a.eval x)∧Ah σ v1∧(k v1).ends σ z:=by
 cases x with
 | tmp t=>exact ⟨σ.slots t,H.slots t,H.AR t,h⟩
 | const v=>obtain ⟨h1,h2⟩:=abT (cx:=cx) (σ:=σ) (α:=α) (F:=F) (w:=w) v; exact ⟨.one (ZV v),h1,h2,h⟩
 | func f=>exact ⟨.one (.fn f []),⟨[],rfl,trivial⟩,fun c hc=>by simp at hc,h⟩
 | global g=>exact h.elim
theorem bR (H:Rel cx σ α F a w) {x:Operand} {k:AV→Prog A} (h:(dN x k).ends σ z):∃v1,bI cx σ α F w v1 (a.eval x)∧tF σ v1∧(k v1).ends σ z:=by
 obtain ⟨v1,h1,h2,h3⟩:=tK H h
 cases v1 with
 | one v=>exact ⟨v,h1,h2,h3⟩
 | J7 l=>exact h3.elim
def evs (a:Act) (l:List (Nat×Operand)):List (Nat×Value):=l.map fun p=>(p.1,a.eval p.2)
theorem NR (H:Rel cx σ α F a w):∀{l:List (Nat×Operand)} {k:List (Nat×AV)→Prog A},(Lh l k).ends σ z→
  ∃vs:List (Nat×AV),vs.map (·.1)=l.map (·.1)∧fG cx σ α F w (vs.map (·.2)) ((evs a l).map (·.2))∧(∀v∈vs,tF σ v.2)∧(k vs).ends σ z:=by
 intro l
 induction l with
 | nil=>intro k h; exact ⟨[],rfl,trivial,by simp,h⟩
 | cons p l ih=>
  obtain ⟨n,x⟩:=p
  intro k h
  simp only [Lh] at h
  obtain ⟨v,h1,h2,h3⟩:=bR H h
  obtain ⟨vs,g1,g2,g3,g4⟩:=ih h3
  exact ⟨(n,v) :: vs,by simp [g1],⟨h1,g2⟩,by simpa using ⟨h2,fun a b hb=>g3 (a,b) hb⟩,g4⟩
theorem jm (H:Rel cx σ α F a w):∀{l:List Operand} {k:List AV→Prog A},(jR l k).ends σ z→
  ∃vs:List AV,fG cx σ α F w vs (l.map a.eval)∧(∀v∈vs,tF σ v)∧(k vs).ends σ z:=by
 intro l
 induction l with
 | nil=>intro k h; exact ⟨[],trivial,by simp,h⟩
 | cons x l ih=>
  intro k h
  simp only [jR] at h
  obtain ⟨v,h1,h2,h3⟩:=bR H h
  obtain ⟨vs,g2,g3,g4⟩:=ih h3
  exact ⟨v :: vs,⟨h1,g2⟩,by simpa using ⟨h2,g3⟩,g4⟩
theorem yA {ik:IntKind} {n:Int} {T:List Tag} {v:Value} (h:bI cx σ α F w (.val (.int ik) n T) v):v=.int ik n∧JB ik n:=by
 obtain ⟨cs,h1,h2,h3⟩:=h (.inl rfl)
 obtain ⟨h5,_⟩:cs=[v]∧_:=h1
 rw [h5] at h2
 simp only [List.cons.injEq,and_true] at h2
 exact ⟨h2,h3⟩
theorem zU {b:Bool} {T:List Tag} {v:Value} (h:bI cx σ α F w (.val .bool b T) v):v=.bool b:=by
 obtain ⟨cs,h1,h2⟩:=h (.inl rfl)
 obtain ⟨h5,_⟩:cs=[v]∧_:=h1
 have h2':cs=[.bool b]:=h2
 rw [h5] at h2'
 simpa using h2'
theorem yB {s:List Int} {T:List Tag} {v:Value} (h:bI cx σ α F w (.val .str s T) v):∃B:ByteArray,v=.string B∧s=bytesOf B:=by
 obtain ⟨cs,h1,B,h2,h3⟩:=h (.inl rfl)
 obtain ⟨h5,_⟩:cs=[v]∧_:=h1
 rw [h5] at h2
 simp only [List.cons.injEq,and_true] at h2
 exact ⟨B,h2,h3⟩
theorem Uz {ik:IntKind} {n:Int} {T:List Tag} (h:JB ik n):bI cx σ α F w (.val (.int ik) n T) (.int ik n):=fun _=>⟨[.int ik n],⟨rfl,by simp⟩,rfl,h⟩
theorem abU {b:Bool} {T:List Tag}:bI cx σ α F w (.val .bool b T) (.bool b):=fun _=>⟨[.bool b],⟨rfl,by simp⟩,rfl⟩
theorem UA {B:ByteArray} {T:List Tag}:bI cx σ α F w (.val .str (bytesOf B) T) (.string B):=fun _=>⟨[.string B],⟨rfl,by simp⟩,B,rfl,rfl⟩
theorem zi {x:AV} {v:Value} {k:IntKind→Int→Prog A} (hx:bI cx σ α F w x v) (h:(asInt x k).ends σ z):∃ik n,v=.int ik n∧JB ik n∧(k ik n).ends σ z:=by
 unfold asInt at h
 split at h
 ·rename_i ik n T
  obtain ⟨h1,h2⟩:=yA hx
  exact ⟨ik,n,h1,h2,h⟩
 ·exact h.elim
theorem KM {x:AV} {v:Value} {k:Bool→Prog A} (hx:bI cx σ α F w x v) (h:(asBool x k).ends σ z):∃b,v=.bool b∧(k b).ends σ z:=by
 unfold asBool at h
 split at h
 ·rename_i b T
  exact ⟨b,zU hx,h⟩
 ·exact h.elim
theorem iT.q {T:List Tag} {b:Nat} (h:iT cx σ α F w T b):Ml σ α F w T b:=⟨h.1,h.2.1,h.2.2.2.1⟩
theorem aac {T T':List Tag} {b:Nat} (h:Ml σ α F w T b) (hs:∀t∈T,t∈T'):Ml σ α F w T' b:=
 ⟨h.1,h.2.1,fun r R h1 h2=>by obtain ⟨n,hn⟩:=h.2.2 r R h1 h2; exact ⟨n,hs _ hn⟩⟩
variable {r:Nat} {R:Root}
theorem abd {h:Heap} {own:List TypeId} {ok:Nat→Prop}:∀{k:K} {x:El k} {cs:List Value} {fo:List Nat},(∀t∈k.tys,ay t own=false)→Ow h own ok k x cs fo→fo=[]:=by
 intro k
 induction k with
 | sl e k ih=>
  intro x cs fo h H
  unfold Ow at H
  rw [if_neg (by rw [h e (by simp [K.tys])]; exact Bool.false_ne_true)] at H
  exact H.1
 | pair a b iha ihb=>
  intro x cs fo h H
  obtain ⟨c1,c2,f1,f2,e,hp,h1,h2⟩:=H
  rw [iha (fun t ht=>h t (by simp [K.tys,ht])) h1,ihb (fun t ht=>h t (by simp [K.tys,ht])) h2] at hp
  exact hp.eq_nil
 | st f ih=>intro x cs fo h H; exact ih (x:=x) h H
 | _=>intro x cs fo _ H; exact H.1
theorem Dc (R:Root) (r:Nat) {k:K} (hk:k.flat=false):R.out r k=(r,gG R.w) :: R.tags∨(R.out r k=R.tags∧∀t∈k.tys,ay t R.own=false):=by
 unfold Root.out
 rw [hk,cond_false]
 cases h:k.tys.any fun t=>ay t R.own with
 | true=>exact .inl rfl
 | false=>
  refine .inr ⟨rfl,fun t ht=>?_⟩
  have:=List.any_eq_false.1 h t ht
  simpa using this
theorem ae0 (H:Rel cx σ α F a w) (hr:aR σ r R) {k:K} (hk:R.out r k=(r,gG R.w) :: R.tags) {b:Nat} (hb:b∈α.fo r):iT cx σ α F w (R.out r k) b:=by
 have hbb:b∈blk α R r:=apf _ hb
 have hm:=(H.roots r R hr).mine b hbb
 refine ⟨hm.1,H.jB r R hr b hbb,o9 H hr hb,fun q Q hq hbq=>?_,fun h0=>?_⟩
 ·by_cases e:q=r
  ·subst e
   exact ⟨gG R.w,by rw [hk]; simp⟩
  ·exact absurd hbb (H.MX q Q r R hq hr e b hbq)
 ·rcases hm.2 with h | ⟨j,pi,h1,h2⟩
  ·omega
  ·exact .inr ⟨j,pi,h1,h2⟩
theorem VJ {k:K} (hk:k.flat=false):∀t∈R.tags,t∈R.out r k:=fun t ht=>by
 rcases Dc R r hk with h | ⟨h,_⟩ <;> rw [h]
 ·exact apC _ ht
 ·exact ht
theorem Oo (H:Rel cx σ α F a w) (hr:aR σ r R) (k:K):fD σ (R.out r k):=by
 intro t ht
 cases hk:k.flat with
 | true=>unfold Root.out at ht; rw [hk] at ht; simp at ht
 | false=>
  have h1:t=(r,gG R.w)∨t∈R.tags:=by
   rcases Dc R r hk with h | ⟨h,_⟩ <;> rw [h] at ht
   ·exact apq.1 ht
   ·exact .inr ht
  rcases h1 with h | h
  ·subst h; exact .inr ⟨R,hr.1, .inr (apu _)⟩
  ·exact (H.dD r R hr.1).1 t h
theorem pE (H:Rel cx σ α F a w) (hr:aR σ r R) {k:K} {x:El k} {cs:List Value} {gq:List Nat} (hO:Ow (hp w) R.own (iT cx σ α F w R.tags) k x cs gq) (hf:∀b∈gq,b∈α.fo r) :
  Vw (hp w) (iT cx σ α F w (R.out r k)) k x cs:=by
 cases hk:k.flat with
 | true=>exact iA hk (lu (fun _=>True) (fun _ _=>trivial) (fun _ _=>trivial) hO)
 | false=>
  rcases Dc R r hk with ho | ⟨_,hn⟩
  ·exact lu _ (fun b hb=>wT hb (VJ hk)) (fun b hb=>ae0 H hr ho (hf b hb)) hO
  ·exact lu _ (fun b hb=>wT hb (VJ hk)) (fun b hb=>by rw [abd hn hO] at hb; simp at hb) hO
theorem vR (H:Rel cx σ α F a w) (hr:aR σ r R) (hv:bq σ R) {p:List Stp} {d:Dat} (hg:aT p R.k R.x=some d) (fU:nX p R.k R.x) (hown:∀t∈ah p R.k,ay t R.own=true)
  {cs1:List Value} {nY:Option (Nat×Nat)} (hn:bF (hp w) p R.k (α.hdr r) (eB α R r)=some (cs1,nY)) :
  ∃gq,Ow (hp w) R.own (iT cx σ α F w R.tags) d.1 d.2 cs1 gq∧∀b∈gq,b∈α.fo r:=by
 have K:=H.roots r R hr
 have hnd:=K.nd
 rw [bT,nQ] at hnd
 obtain ⟨qo,gq,rest,wh2,hn',hp1,hd1,hc1,hin,hnone,hup⟩:=focus p (K.ow hv) (fun b o e=>(K.mem b o e).1) hg fU hown hnd.2 (fun b o e=>hnd.1 b o e)
 rw [hn] at hn'
 simp only [apd,apo] at hn'
 obtain ⟨rfl,rfl⟩:=hn'
 exact ⟨gq,hd1,fun b hb=>hp1.mem_iff.2 (api _ hb)⟩
theorem kI {T:List Nat} {own:List Nat} (h:(T.all fun t=>ay t own)=true):∀t∈T,ay t own=true:=fun t ht=>apt.1 h t ht
theorem vS (H:Rel cx σ α F a w) {x:AV} {v:Value} {k:(kk:K)→El kk→List Tag→Prog A} (hx:bI cx σ α F w x v) (hw:tF σ x) (h:(vB x k).ends σ z) :
  ∃kk y T cs,VC kk v cs∧Vw (hp w) (iT cx σ α F w T) kk y cs∧fD σ T∧(k kk y T).ends σ z:=by
 cases x with
 | val kk y T=>
  obtain ⟨h1,h2⟩:=gM h
  obtain ⟨cs,h3,h4⟩:=hx (.inr h1)
  exact ⟨kk,y,T,cs,h3,h4,hw,h2⟩
 | ref r g=>
  obtain ⟨R,hr,hv,h⟩:=cO h
  cases hg:Nat.beq R.g g with
  | false=>simp only [hg,cond_false] at h; exact h.elim
  | true=>
   simp only [hg,cond_true] at h
   obtain ⟨h1,h2⟩:=hx R hr (aph hg)
   exact ⟨R.k,R.x,R.out r R.k,α.hdr r,h2,pE H hr ((H.roots r R hr).ow hv) (fun _ h=>h),Oo H hr _,h⟩
 | xy r p n=>
  obtain ⟨R,hr,hv,h⟩:=cO h
  cases hg:Nat.beq R.yO n with
  | false=>simp only [hg,cond_false] at h; exact h.elim
  | true=>
   simp only [hg,cond_true] at h
   cases Ay:aT p R.k R.x with
   | none=>rw [Ay] at h; exact h.elim
   | some d=>
    rw [Ay] at h
    obtain ⟨h1,h2,cs,wh,h3,h4⟩:=hx R hr.1 hv (aph hg) d Ay
    obtain ⟨gq,h5,h6⟩:=vR H hr hv Ay h1 h2 h3
    exact ⟨d.1,d.2,R.out r d.1,cs,h4,pE H hr h5 h6,Oo H hr _,h⟩
 | undef=>exact h.elim
 | iQ=>exact h.elim
 | ptr r p n=>exact h.elim
 | je bt kk y T=>exact h.elim
 | K5 _ _ _ _=>exact h.elim
 | Bz _=>exact h.elim
 | part _ _ _ _ _=>exact h.elim
 | yL _ _ _ _=>exact h.elim
 | app _ _ _ _=>exact h.elim
 | sG=>exact h.elim
 | fn f cs=>exact h.elim
theorem Af (H:Rel cx σ α F a w) {x:AV} {v:Value} {rd:Root→Nat→List Stp→Dat→Prog A} {ro:TypeId→Dat→List Tag→Prog A} (hx:bI cx σ α F w x v) (hw:tF σ x) (h:(addrOf x rd ro).ends σ z) :
  (∃r R p d cs b o,aR σ r R∧bq σ R∧aT p R.k R.x=some d∧nX p R.k R.x∧(∀t∈ah p R.k,ay t R.own=true)∧bF (hp w) p R.k (α.hdr r) (eB α R r)=some (cs,some (b,o))∧v=.pointer (some ⟨b,o,none⟩)∧(rd R r p d).ends σ z)∨
  (∃bt d T b o cs,fD σ T∧v=.pointer (some ⟨b,o,none⟩)∧Cells (hp w) b o cs∧Vw (hp w) (iT cx σ α F w T) d.1 d.2 cs∧Ml σ α F w T b∧((bt=SENT∧∀t∈T,fP t.1=true)∨(wH (hp w) b bt∧¬mG cx b))∧(ro bt d T).ends σ z):=by
 cases x with
 | ptr r p n=>
  obtain ⟨R,hr,hv,h⟩:=cO h
  cases hc:(clean R.h n (eD p R.k) && J3 p R) with
  | false=>rw [hc] at h; exact h.elim
  | true=>
   rw [hc] at h
   simp only [cond_true] at h
   simp only [apj] at hc
   cases Ay:aT p R.k R.x with
   | none=>rw [Ay] at h; exact h.elim
   | some d=>
    rw [Ay] at h
    have hown:=kI hc.2
    obtain ⟨h1,cs,b,o,h2,h3⟩:=hx.2 R hr.1 hv hc.1 hown (by rw [Ay]; rfl)
    exact .inl ⟨r,R,p,d,cs,b,o,hr,hv,Ay,h1,hown,h2,h3,h⟩
 | je bt k y T=>
  obtain ⟨h1,h2⟩:=gM h
  obtain ⟨b,o,cs,e,hcs,hV,hok,hb⟩:=hx.2 h1
  exact .inr ⟨bt,⟨k,y⟩,T,b,o,cs,hw,e,hcs,hV,hok,hb,h2⟩
 | undef=>exact h.elim
 | iQ=>exact h.elim
 | ref r g=>exact h.elim
 | xy r p n=>exact h.elim
 | val kk y T=>exact h.elim
 | K5 _ _ _ _=>exact h.elim
 | Bz _=>exact h.elim
 | part _ _ _ _ _=>exact h.elim
 | yL _ _ _ _=>exact h.elim
 | app _ _ _ _=>exact h.elim
 | sG=>exact h.elim
 | fn f cs=>exact h.elim
end
end
section
open Go
variable [Fr]
theorem dA (a b:List Wr):∀σ,aC (a++b) σ=aC b (aC a σ):=by
 induction a with
 | nil=>intro σ; rfl
 | cons w a ih=>intro σ; exact ih _
theorem Gm {own:List TypeId} {k:K}:∀(k0:K),(∀t∈k.tys,t∈k0.tys)→aU (k0.tys.filter fun t=>ay t own) k=aU own k:=by
 intro k0
 have key:∀t∈k0.tys,ay t (k0.tys.filter fun t=>ay t own)=ay t own:=by
  intro t ht
  cases h:ay t own with
  | true=>rw [aL,apv]; exact ⟨ht,h⟩
  | false=>
   rw [aV,apv]
   rintro ⟨_,h2⟩
   rw [h] at h2
   simp at h2
 induction k with
 | sl e k ih=>
  intro h
  simp only [aU]
  rw [key e (h e (by simp [K.tys])),ih (fun t ht=>h t (by simp [K.tys,ht]))]
 | pair a b iha ihb=>intro h; simp only [aU]; rw [iha (fun t ht=>h t (by simp [K.tys,ht])),ihb (fun t ht=>h t (by simp [K.tys,ht]))]
 | st f ih=>intro h; exact ih h
 | _=>intro _; rfl
theorem R4 {own:List TypeId} {k:K}:∀t∈k.tys,ay t (k.tys.filter fun t=>ay t own)=ay t own:=by
 intro t ht
 cases h:ay t own with
 | true=>rw [aL,apv]; exact ⟨ht,h⟩
 | false=>
  rw [aV,apv]
  rintro ⟨_,h2⟩
  rw [h] at h2
  simp at h2
theorem TG {own:List TypeId}:∀(n:Nat) {c:K} {x:El c} {s:Dat},aQ n c x=some s→∀t∈aU own s.1,t∈aU own c:=by
 intro n
 induction n with
 | zero=>
  intro c x s h t ht
  cases c with
  | pair a b=>simp only [aQ,apd] at h; subst h; simp [aU,ht]
  | _=>simp [aQ] at h
 | succ n ih=>
  intro c x s h t ht
  cases c with
  | pair a b=>simp only [aQ] at h; simp [aU,ih h t ht]
  | _=>simp [aQ] at h
theorem CW {own:List TypeId}:∀(p:List Stp) {k:K} {x:El k} {d:Dat},aT p k x=some d→(∀t∈ah p k,ay t own=true)→∀t∈aU own d.1,t∈aU own k:=by
 intro p
 induction p with
 | nil=>intro k x d h _; simp only [aT,apd] at h; subst h; exact fun _ h=>h
 | cons s p ih=>
  intro k x d h ht
  cases s with
  | gL n=>
   cases k with
   | st c=>
    simp only [aT] at h
    cases hg:aQ n c x with
    | none=>rw [hg] at h; simp at h
    | some s=>
     rw [hg] at h
     simp only at h
     have hpt:ah (.gL n :: p) (.st c)=ah p s.1:=by simp [ah,bU n hg]
     rw [hpt] at ht
     exact fun t h2=>TG n (c:=c) hg t (ih h ht t h2)
   | _=>simp [aT] at h
  | idx i=>
   cases k with
   | sl e k=>
    simp only [aT] at h
    intro t h2
    have:=ih h (fun t h=>ht t (by simp [ah,h])) t h2
    simp only [aU,ht e (by simp [ah]),cond_true]
    exact this
   | _=>simp [aT] at h
section
variable {cx:Cx} {σ:St} {α:dK} {F:List Nat} {a:Act} {w:World}
theorem aB {b:Bool} {A:Type} {x y:Prog A} {σ:St} {z:A} (h:(bif b then x else y).ends σ z):(b=true∧x.ends σ z)∨(b=false∧y.ends σ z):=by
 cases b with
 | true=>exact .inl ⟨rfl,h⟩
 | false=>exact .inr ⟨rfl,h⟩
theorem KA {h:Heap} {own:List TypeId} {ok:Nat→Prop}:∀{k:K} {x:El k} {cs:List Value} {fo:List Nat},k.flat=true→Ow h own ok k x cs fo→fo=[]:=by
 intro k
 induction k with
 | sl e k ih=>intro x cs fo h; simp [K.flat] at h
 | gap n=>intro x cs fo h; simp [K.flat] at h
 | pair a b iha ihb=>
  intro x cs fo h H
  simp only [K.flat,apj] at h
  obtain ⟨c1,c2,f1,f2,e,hp,h1,h2⟩:=H
  rw [iha h.1 h1,ihb h.2 h2] at hp
  exact hp.eq_nil
 | st f ih=>intro x cs fo h H; exact ih (x:=x) h H
 | _=>intro x cs fo _ H; exact H.1
theorem abe {h:Heap} {own:List TypeId} {ok:Nat→Prop} {e:TypeId} {kk:K} {xs:List (El kk)} {b b':Option Addr} {n c hi:Nat} {fo:List Nat} (hf:kk.flat=true) (he:ay e own=true) (hn:hi≤n) (hb':b'=b)
  (H:Ow h own ok (.sl e kk) xs [.slice b n c] fo):Ow h own ok (.sl e kk) (show List (El kk) from xs.take hi) [.slice b' hi c] fo:=by
 unfold Ow at H ⊢
 rw [if_pos he] at H ⊢
 obtain ⟨a,n',c',e1,e2,e3,H⟩:=H
 simp only [List.cons.injEq,Value.slice.injEq,and_true] at e1
 obtain ⟨rfl,rfl,rfl⟩:=e1
 have hlen:(xs.take hi).length=hi:=by
  have:n=xs.length:=e2
  simp; omega
 refine ⟨b,hi,c,by rw [hb'],hlen.symm,by omega, ?_⟩
 rcases H with H | ⟨bb,o,arr,l,u,ea,hb,hfr,hs,bz,hl,hp,H⟩
 ·exact .inl H
 ·have h0:∀l∈bz,l=[]:=by
   intro l hl'
   obtain ⟨i,hi',rfl⟩:=List.mem_iff_getElem.1 hl'
   have hl:bz.length=xs.length:=hl
   obtain ⟨ds,_,h2⟩:=H i (by show i<xs.length; omega)
   have:=KA hf h2
   rw [←this]; simp [apr,hi']
  have hfl:bz.flatten=[]:=List.flatten_eq_nil_iff.2 h0
  have alX:(bz.take hi).flatten=[]:=List.flatten_eq_nil_iff.2 fun l hl'=>h0 l (List.mem_of_mem_take hl')
  refine .inr ⟨bb,o,arr,l,u,ea,hb,hfr,hs,bz.take hi,by show (bz.take hi).length=(xs.take hi).length; simp only [List.length_take]; rw [show bz.length=xs.length from hl],by rw [alX, ←hfl]; exact hp,fun i hi'=>?_⟩
  have hi2:i<(xs.take hi).length:=hi'
  have hi3:i<hi∧i<xs.length:=by simp at hi2; omega
  obtain ⟨ds,h1,h2⟩:=H i hi3.2
  refine ⟨ds,h1, ?_⟩
  have e1:(show List (El kk) from xs.take hi)[i]'hi'=xs[i]'hi3.2:=by
   show (xs.take hi)[i]=_
   simp
  have e2:(bz.take hi).getD i []=bz.getD i []:=by simp [apr,List.getElem?_take,hi3.1]
  rw [e1,e2]
  exact h2
inductive xQ (cx:Cx) (σ:St) (α:dK) (F:List Nat) (w:World) (v:Value) (tk:iL):Prop
 | held (hws:tk.ws=[]) (cs:List Value) (hv:VC tk.k v cs) (h:Held cx σ α F w tk.k tk.x tk.own tk.tags cs []) (hc:bg σ (aU tk.own tk.k) tk.tags=true)
 | ref (r:Nat) (R:Root) (hr:aR σ r R) (hv:bq σ R) (e:tk=⟨R.k,R.x,R.own,R.tags,[.r r none],R.keep⟩) (hk:R.kind=.anon) (hd:VC R.k v (α.hdr r))
 | gap (r:Nat) (R:Root) (p:List Stp) (d z:Dat) (hr:aR σ r R) (hv:bq σ R) (hg:aT p R.k R.x=some d) (hz:eF p R.k R.x (uM d)=some z) (fU:nX p R.k R.x)
   (hown:∀t∈ah p R.k,ay t R.own=true) (hpv:p≠[]∨∃t,R.kind=.var t) (e:tk=⟨d.1,d.2,d.1.tys.filter (fun t=>ay t R.own),R.tags,[.r r (some (qH R d z))],R.keep⟩)
   (hn:∃cs wh,bF (hp w) p R.k (α.hdr r) (eB α R r)=some (cs,wh)∧VC d.1 v cs)
 | cut (r:Nat) (R:Root) (cs:List Value) (hr:aR σ r R) (hv:bq σ R) (hk:R.kind=.anon) (e:tk.own=R.own∧tk.tags=R.tags∧tk.ws=[.r r none]∧tk.keep=R.keep) (hd:VC tk.k v cs) (hl:cs.length=tk.k.size)
   (Xf:aU R.own tk.k=aU R.own R.k) (how:∀ok,Ow (hp w) R.own ok R.k R.x (α.hdr r) (α.fo r)→Ow (hp w) R.own ok tk.k tk.x cs (α.fo r))
theorem CL {e:TypeId} {k:K} {c:Option Addr}:VC (.sl e k) (.slice c 0 0) [.slice c 0 0]:=⟨rfl,by simp⟩
theorem tX {A:Type} {z:A} (H:Rel cx σ α F a w) {want:K} {x:AV} {v:Value} {k:iL→Prog A} (hx:bI cx σ α F w x v) (hw:tF σ x) (h:(CQ want x k).ends σ z) :
  ∃tk,xQ cx σ α F w v tk∧(k tk).ends σ z:=by
 cases x with
 | val kk y T=>
  obtain ⟨h1,h2⟩:=gM h
  obtain ⟨cs,h3,h4⟩:=hx (.inr h1)
  have hty:∀t∈aU [] kk,t∈kk.tys:=fun t ht=>IC ht
  exact ⟨⟨kk,y,[],T,[],false⟩, .held rfl cs h3 ⟨fun _=>oZ (fun t _=>rfl) h4,hw,fun b hb=>by simp at hb,List.nodup_nil,mD h4⟩ (tJ h1 (fun _ h=>h) hty),h2⟩
 | iQ=>
  obtain ⟨c,rfl⟩:=hx
  unfold CQ at h
  cases want with
  | sl e kk=>
   refine ⟨_, .held rfl [.slice c 0 0] CL ⟨fun _=>?_,fun t ht=>by simp at ht,fun b hb=>by simp at hb,List.nodup_nil,rfl⟩ rfl,h⟩
   unfold Ow
   rw [if_pos (by simp [ay])]
   exact ⟨c,0,0,rfl,rfl,apu _, .inl ⟨rfl,rfl⟩⟩
  | _=>exact h.elim
 | ref r g=>
  obtain ⟨R,hr,hv,h⟩:=cO h
  cases hg:(Nat.beq R.g g && !R.fixed) with
  | false=>simp only [hg,cond_false] at h; exact h.elim
  | true=>
   simp only [hg,cond_true] at h
   simp only [apj] at hg
   obtain ⟨h1,h2⟩:=hx R hr (aph hg.1)
   exact ⟨_, .ref r R hr hv rfl h1 h2,h⟩
 | xy r p n=>
  obtain ⟨R,hr,hv,h⟩:=cO h
  cases hg:Nat.beq R.yO n with
  | false=>simp only [hg,cond_false] at h; exact h.elim
  | true=>
   simp only [hg,cond_true] at h
   cases Ay:aT p R.k R.x with
   | none=>rw [Ay] at h; exact h.elim
   | some d=>
    rw [Ay] at h
    obtain ⟨h1,h2,cs,wh,h3,h4⟩:=hx R hr.1 hv (aph hg) d Ay
    cases hc:(p.all Stp.qW && !R.fixed && (!p.isEmpty || R.isVar)) with
    | true=>
     simp only [hc,cond_true] at h
     cases hga:IX R p d with
     | none=>rw [hga] at h; exact h.elim
     | some R'=>
      rw [hga] at h
      unfold IX at hga
      cases hz:eF p R.k R.x (uM d) with
      | none=>rw [hz] at hga; simp at hga
      | some zz=>
       rw [hz] at hga
       simp only [apd] at hga
       subst hga
       simp only [apj,Bool.or_eq_true] at hc
       refine ⟨_, .gap r R p d zz hr hv Ay hz h1 h2 ?_ rfl ⟨cs,wh,h3,h4⟩,h⟩
       rcases hc.2 with h | h
       ·left; intro e; subst e; simp at h
       ·right
        unfold Root.isVar at h
        cases hk:R.kind with
        | var t=>exact ⟨t,rfl⟩
        | anon=>rw [hk] at h; simp at h
        | par=>rw [hk] at h; simp at h
        | dead=>rw [hk] at h; simp at h
    | false=>
     simp only [hc,cond_false] at h
     obtain ⟨gq,h5,h6⟩:=vR H hr hv Ay h1 h2 h3
     have hV:=pE H hr h5 h6
     obtain ⟨hc1,h⟩:=gM h
     exact ⟨⟨d.1,d.2,[],R.out r d.1,[],false⟩, .held rfl cs h4 ⟨fun _=>oZ (fun t _=>rfl) hV,Oo H hr _,fun b hb=>by simp at hb,List.nodup_nil,mD hV⟩ (tJ hc1 (fun _ h=>h) (fun t ht=>IC ht)),h⟩
 | undef=>exact h.elim
 | ptr r p n=>exact h.elim
 | je bt kk y T=>exact h.elim
 | K5 _ _ _ _=>exact h.elim
 | Bz _=>exact h.elim
 | part r g lo hi sz=>
  obtain ⟨R,hr,hv,h⟩:=cO h
  rcases aB h with ⟨hg,h5⟩ | ⟨_,h5⟩
  ·clear h
   simp only [apj] at hg
   obtain ⟨b',b,n,c,e1,eb,e2,e3,e4,hrf⟩:=hx
   obtain ⟨h1,h2⟩:=hrf R hr (aph hg.1.1)
   have hlo:lo=0:=aph hg.2
   subst hlo
   have hK:∀q:Dat,(⟨R.k,R.x⟩:Dat)=q→(match q.1,q.2 with
     | .sl e kk,xs=>bif kk.flat && ay e R.own && Nat.beq kk.size sz then k ⟨.sl e kk,(show List (El kk) from xs).take hi,R.own,R.tags,[.r r none],R.keep⟩ else .fail
     | _,_=>Prog.fail).ends σ z→∃tk,xQ cx σ α F w v tk∧(k tk).ends σ z:=by
    intro q hq hh0
    obtain ⟨qk,qx⟩:=q
    cases qk with
    | sl e kk=>
     simp only at hh0
     rcases aB hh0 with ⟨hc,hh⟩ | ⟨_,hh⟩
     ·clear hh0
      simp only [apj] at hc
      have hsz:kk.size=sz:=aph hc.2
      subst hsz
      have hVk:VC (.sl e kk) (.slice b n c) (α.hdr r):=by
       have:=congrArg (fun q:Dat=>VC q.1 (.slice b n c) (α.hdr r)) hq
       exact cast this h2
      have hb0:b'=b:=by
       rw [eb (.inl rfl)]
       cases b with
       | none=>rfl
       | some ad=>obtain ⟨x,y,z⟩:=ad; simp [Addr.add]
      refine ⟨⟨.sl e kk,(show List (El kk) from qx).take hi,R.own,R.tags,[.r r none],R.keep⟩, .cut r R [.slice b' hi c] hr hv h1 ⟨rfl,rfl,rfl,rfl⟩ ⟨by rw [e1]; simp,by rw [e1]; simp⟩ rfl ?_ (fun ok hO=>?_),hh⟩
      ·exact congrArg (fun q:Dat=>aU R.own q.1) hq.symm
      ·have hO:=cast (congrArg (fun q:Dat=>Ow (hp w) R.own ok q.1 q.2 (α.hdr r) (α.fo r)) hq) hO
       simp only at hO
       rw [hVk.1] at hO
       exact abe hc.1.1 hc.1.2 e3 hb0 hO
     ·exact hh.elim
    | _=>exact hh0.elim
   exact hK _ rfl h5
  ·exact h5.elim
 | yL _ _ _ _=>exact h.elim
 | app _ _ _ _=>exact h.elim
 | sG=>exact h.elim
 | fn f cs=>exact h.elim
def rW (cx:Cx) (σ:St) (α:dK) (F:List Nat) (w:World):List (Value×iL)→List (List Value×List Nat)→Prop
 | [],[]=>True
 | it :: l,h :: hs=>(VC it.2.k it.1 h.1∧Held cx σ α F w it.2.k it.2.x it.2.own it.2.tags h.1 h.2∧bg σ (aU it.2.own it.2.k) it.2.tags=true)∧rW cx σ α F w l hs
 | _,_=>False
def vF (l:List (Value×iL)):List Wr:=l.flatMap fun it=>it.2.ws
def qZ (l:List (Value×iL)):List Tag:=l.flatMap fun it=>it.2.tags
theorem Mx (a b:List Wr):(a++b).flatMap Wr.uF=a.flatMap Wr.uF++b.flatMap Wr.uF:=List.flatMap_append
theorem take1 (H:Rel cx σ α F a w) {v:Value} {tk:iL} (h:xQ cx σ α F w v tk) :
  ∃α' F' cs fo lw lh,Rel cx (aC tk.ws σ) α' F' a w∧nE cx σ α F w (aC tk.ws σ) α' F' w lw lh∧VC tk.k v cs∧Held cx (aC tk.ws σ) α' F' w tk.k tk.x tk.own tk.tags cs fo∧
   bg (aC tk.ws σ) (aU tk.own tk.k) tk.tags=true∧(∀b∈F,b∈F')∧(∀b∈fo,b∉F)∧(∀q,q∉tk.ws.flatMap Wr.uF→Same σ α (aC tk.ws σ) α' q):=by
 cases h with
 | held hws cs hv hh hc=>
  rw [hws]
  exact ⟨α,F,cs,[],_,_,H,FQ H ⟨rfl,rfl,rfl⟩ (apu _) (fun _ _ h=>absurd rfl h) (fun b hb=>.inl hb) H.Ca,hv,hh,hc,fun _ h=>h,fun b hb=>by simp at hb,fun q _=>mo ..⟩
 | ref r R hr hv e hk hd=>
  subst e
  obtain ⟨h1,h2,h3,h4⟩:=kill H hr hk hv
  refine ⟨_,_,α.hdr r,α.fo r,_,_,h1,h2,hd,h3,h4,fun b hb=>apf _ hb,fun b hb hF=>H.jB r R hr b (apf _ hb) hF, ?_⟩
  intro q hq
  have hq':q≠r:=by simpa [Wr.uF] using hq
  exact iy hq'
 | cut r R cs hr hv hk e hd hl Xf how=>
  obtain ⟨e1,e2,e3,e4⟩:=e
  obtain ⟨h1,h2,h3,h4⟩:=kill H hr hk hv
  rw [e3]
  refine ⟨_,_,cs,α.fo r,_,_,h1,h2,hd, ?_, ?_,fun b hb=>apf _ hb,fun b hb hF=>H.jB r R hr b (apf _ hb) hF, ?_⟩
  ·rw [e1,e2]
   refine ⟨fun hc=>?_,h3.wt,h3.sub,h3.nd,hl⟩
   have:=h3.ow (by rw [←Xf]; exact hc)
   exact how _ this
  ·rw [e1,e2]
   show bg (az σ r cu) (aU R.own tk.k) R.tags=true
   rw [Xf]; exact h4
  ·intro q hq
   have hq':q≠r:=by simpa [Wr.uF] using hq
   exact iy hq'
 | gap r R p d z hr hv hg hz fU hown hpv e hn=>
  subst e
  obtain ⟨cs,wh,hn1,hn2⟩:=hn
  obtain ⟨cs1,nY,gq,rest,g1,g2,g3,g4,g5,_⟩:=gap H hr hv hg hz fU hown hpv
  rw [hn1] at g1
  simp only [apd,apo] at g1
  obtain ⟨rfl,rfl⟩:=g1
  have hcl:bg (az σ r (qH R d z)) (aU R.own d.1) R.tags=true:=by
   rw [g5]
   exact tJ hv.2 (fun _ h=>h) (CW p hg hown)
  refine ⟨_,_,cs,gq,_,_,g2,g3,hn2, ?_, ?_,fun b hb=>apf _ hb, ?_, ?_⟩
  ·refine ⟨fun hc=>?_,g4.wt,g4.sub,g4.nd,g4.len⟩
   exact uE (fun t ht=>R4 t ht) (g4.ow (by rw [Gm d.1 (fun _ h=>h)] at hc; exact hc))
  ·show bg (az σ r (qH R d z)) (aU (d.1.tys.filter fun t=>ay t R.own) d.1) R.tags=true
   rw [Gm d.1 (fun _ h=>h)]
   exact hcl
  ·intro b hb hF
   have:=g2.Ca
   exact (apk.1 this).2.2 b hb b hF rfl
  ·intro q hq
   have hq':q≠r:=by simpa [Wr.uF] using hq
   exact iy hq'
theorem fA {σ':St} {tys:List TypeId} {T:List Tag} (h:∀t∈T,σ'.roots t.1=σ.roots t.1):bg σ' tys T=bg σ tys T:=by
 induction T with
 | nil=>rfl
 | cons t T ih=>
  obtain ⟨q,n⟩:=t
  simp only [bg]
  rw [ih (fun t ht=>h t (by simp [ht])),h (q,n) (by simp)]
theorem xQ.stays {σ':St} {α':dK} {F':List Nat} {lw lh:Nat→List Nat} {v:Value} {tk:iL} (h:xQ cx σ α F w v tk) (H:Rel cx σ α F a w) (T:nE cx σ α F w σ' α' F' w lw lh)
  (hs:∀q,(q∈tk.ws.flatMap Wr.uF∨q∈tk.tags.map (·.1))→Same σ α σ' α' q):xQ cx σ' α' F' w v tk:=by
 cases h with
 | held hws cs hv hh hc=>
  exact .held hws cs hv (hh.turn H T (fun b hb=>by simp at hb)) (by rw [fA (fun t ht=>(hs t.1 (.inr (apO.2 ⟨t,ht,rfl⟩))).root)]; exact hc)
 | ref r R hr hv e hk hd=>
  subst e
  have hS:=hs r (.inl (by simp [Wr.uF]))
  refine .ref r R ((hS.live R).2 hr) ⟨hv.1, ?_⟩ rfl hk (by rw [hS.hdr]; exact hd)
  rw [fA (fun t ht=>(hs t.1 (.inr (apO.2 ⟨t,ht,rfl⟩))).root)]
  exact hv.2
 | cut r R cs hr hv hk e hd hl Xf how=>
  have hS:=hs r (.inl (by rw [e.2.2.1]; simp [Wr.uF]))
  refine .cut r R cs ((hS.live R).2 hr) ⟨hv.1, ?_⟩ hk e hd hl Xf (by rw [hS.hdr,hS.fo]; exact how)
  rw [fA (fun t ht=>(hs t.1 (.inr (apO.2 ⟨t,by rw [e.2.1]; exact ht,rfl⟩))).root)]
  exact hv.2
 | gap r R p d z hr hv hg hz fU hown hpv e hn=>
  subst e
  have hS:=hs r (.inl (by simp [Wr.uF]))
  refine .gap r R p d z ((hS.live R).2 hr) ⟨hv.1, ?_⟩ hg hz fU hown hpv rfl (by rw [hS.hdr,hS.wh]; exact hn)
  rw [fA (fun t ht=>(hs t.1 (.inr (apO.2 ⟨t,ht,rfl⟩))).root)]
  exact hv.2
theorem rW.turn {σ':St} {α':dK} {F':List Nat} {lw lh:Nat→List Nat} (H:Rel cx σ α F a w) (T:nE cx σ α F w σ' α' F' w lw lh) (hF:∀b∈F,b∈F') :
  ∀{l:List (Value×iL)} {hs:List (List Value×List Nat)},(∀t∈qZ l,σ'.roots t.1=σ.roots t.1)→rW cx σ α F w l hs→rW cx σ' α' F' w l hs
 | [],[],_,_=>trivial
 | it :: l,h :: hs,hr,hh=>by
  refine ⟨⟨hh.1.1,hh.1.2.1.turn H T (fun b hb=>⟨rfl,hF b (hh.1.2.1.sub b hb)⟩), ?_⟩,rW.turn H T hF (fun t ht=>hr t (by simp only [qZ,List.flatMap_cons,apm]; exact .inr ht)) hh.2⟩
  rw [fA (fun t ht=>hr t (by simp only [qZ,List.flatMap_cons,apm]; exact .inl ht))]
  exact hh.1.2.2
 | [],_ :: _,_,h=>h.elim
 | _ :: _,[],_,h=>h.elim
theorem Ag {l:List Nat}:Ht l=true↔l.Nodup:=by
 induction l with
 | nil=>simp [Ht]
 | cons n l ih=>simp [Ht,ih,aV]
theorem takes:∀(l:List (Value×iL)) {σ:St} {α:dK} {F:List Nat},Rel cx σ α F a w→(∀it∈l,xQ cx σ α F w it.1 it.2)→((vF l).flatMap Wr.uF).Nodup→(∀t∈qZ l,t.1∉(vF l).flatMap Wr.uF)→
  ∃α' F' hs,Rel cx (aC (vF l) σ) α' F' a w∧rW cx (aC (vF l) σ) α' F' w l hs∧(hs.flatMap (·.2)).Nodup∧(∀b∈hs.flatMap (·.2),b∉F)∧(∀b∈F,b∈F')∧
   (∀q,q∉(vF l).flatMap Wr.uF→Same σ α (aC (vF l) σ) α' q)∧
   (∀k x own tags cs fo,Held cx σ α F w k x own tags cs fo→Held cx (aC (vF l) σ) α' F' w k x own tags cs fo)∧Views cx σ α F w (aC (vF l) σ) α' F' w∧(∀t,Gl σ t→Gl (aC (vF l) σ) t)∧(∀q,σ.roots q=none→(aC (vF l) σ).roots q=none):=by
 intro l
 induction l with
 | nil=>intro σ α F H _ _ _; exact ⟨α,F,[],H,trivial,List.nodup_nil,fun b hb=>by simp at hb,fun _ h=>h,fun q _=>mo ..,fun _ _ _ _ _ _ h=>h,fun T tys _ h=>⟨h,fun b hb _=>⟨hb,rfl⟩,fun b hb _=>⟨hb,rfl⟩⟩,fun _ h=>h,fun _ h=>h⟩
 | cons it l ih=>
  intro σ α F H hT hnd xC
  have e1:vF (it :: l)=it.2.ws++vF l:=rfl
  have e2:qZ (it :: l)=it.2.tags++qZ l:=rfl
  rw [e1,Mx] at hnd xC
  rw [e2] at xC
  obtain ⟨dL,F1,cs,fo,lw,lh,H1,T1,h1,h2,h3,h4,h5,h6⟩:=take1 H (hT it (by simp))
  have hnd':=apk.1 hnd
  obtain ⟨II,F2,hs,H2,g1,g2,g3,g4,g5,g6,g7,g8,g9⟩:=ih H1 (fun it' hi=>(hT it' (by simp [hi])).stays H T1 (fun q hq=>by
   refine h6 q ?_
   rcases hq with hq | hq
   ·intro hq'
    exact hnd'.2.2 q hq' q (by
     rw [apP] at hq ⊢
     obtain ⟨wr,hw1,hw2⟩:=hq
     exact ⟨wr,apP.2 ⟨it',hi,hw1⟩,hw2⟩) rfl
   ·obtain ⟨t,ht,rfl⟩:=apO.1 hq
    intro hq'
    exact xC t (apf _ (apP.2 ⟨it',hi,ht⟩)) (api _ hq'))) hnd'.2.1
   (fun t ht hq=>xC t (apf _ ht) (apf _ hq))
  rw [e1,dA]
  have hq1:∀q,q∉(it.2.ws).flatMap Wr.uF++(vF l).flatMap Wr.uF→Same σ α (aC (vF l) (aC it.2.ws σ)) II q:=by
   intro q hq
   simp only [apm,not_or] at hq
   have s1:=h6 q hq.1
   have s2:=g5 q hq.2
   exact ⟨s2.root.trans s1.root,s2.loc.trans s1.loc,s2.hdr.trans s1.hdr,s2.fo.trans s1.fo⟩
  refine ⟨II,F2,(cs,fo) :: hs,H2,⟨⟨h1,g6 _ _ _ _ _ _ h2, ?_⟩,g1⟩, ?_, ?_,fun b hb=>g4 b (h4 b hb), ?_,fun k x own tags cs fo hh=>g6 _ _ _ _ _ _ (hh.turn H T1 (fun b hb=>⟨rfl,h4 b (hh.sub b hb)⟩)), ?_,fun t ht=>g8 t (T1.tag ht), ?_⟩
  ·rw [fA (fun t ht=>(g5 t.1 (fun hq=>xC t (api _ ht) (apf _ hq))).root)]
   exact h3
  ·simp only [List.flatMap_cons]
   exact apk.2 ⟨h2.nd,g2,fun b hb c hc e=>g3 c hc (e▸h2.sub b hb)⟩
  ·intro b hb hF
   simp only [List.flatMap_cons,apm] at hb
   rcases hb with hb | hb
   ·exact h5 b hb hF
   ·exact g3 b hb (h4 b hF)
  ·rw [Mx]
   exact hq1
  ·intro T tys hw hc
   obtain ⟨k1,k2,k3⟩:=g7 T tys (fun t ht=>T1.tag (hw t ht)) hc
   obtain ⟨j1,j2,j3⟩:=T1.views H T tys hw k1
   refine ⟨j1,fun b hb ht=>?_,fun b hb ht=>?_⟩
   ·obtain ⟨a1,a2⟩:=j2 b hb ht
    exact ⟨(k2 b a1 ht).1,rfl⟩
   ·obtain ⟨a1,a2⟩:=j3 b hb ht
    exact ⟨(k3 b a1 ht).1,rfl⟩
  ·intro q hq
   refine g9 q ?_
   cases hq2:(aC it.2.ws σ).roots q with
   | none=>rfl
   | some Q=>
    exfalso
    by_cases hm:q∈(it.2.ws).flatMap Wr.uF
    ·have:=hT it (by simp)
     cases this with
     | held hws cs hv hh hc=>rw [hws] at hm; simp at hm
     | ref r R hr hv e hk hd=>rw [e] at hm; simp [Wr.uF] at hm; subst hm; rw [hr.1] at hq; simp at hq
     | cut r R cs hr hv hk e hd hl Xf how=>rw [e.2.2.1] at hm; simp [Wr.uF] at hm; subst hm; rw [hr.1] at hq; simp at hq
     | gap r R p d z hr hv hg hz fU hown hpv e hn=>rw [e] at hm; simp [Wr.uF] at hm; subst hm; rw [hr.1] at hq; simp at hq
    ·rw [(h6 q hm).root,hq] at hq2
     simp at hq2
end
end
section
open Go
variable [Fr]
theorem iO (j:Nat):fP (qp j)=true:=by simp [fP,qp,Nat.add_mod]
theorem D7 {ws:List Wr} {T:List Tag}:BS ws T=true↔∀t∈T,t.1∉ws.flatMap Wr.uF:=by
 unfold BS
 rw [apt]
 simp [aV]
theorem acf {ws:List Wr} {r:Nat} (h:(ws.all fun w=>!w.loc.beq (.r r))=true):r∉ws.flatMap Wr.uF:=by
 rw [apP]
 rintro ⟨w,h1,h2⟩
 have:=apt.1 h w h1
 cases w with
 | s n a=>simp [Wr.uF] at h2
 | r n o=>
  simp only [Wr.uF,apx] at h2
  subst h2
  simp [Wr.loc,Loc.beq] at this
theorem Am:∀(n:Nat) {c:K} {x:El c} {s:Dat} {q:Nat×K},aQ n c x=some s→bD n c=some q→q.2=s.1:=by
 intro n
 induction n with
 | zero=>intro c x s q h1 h2; cases c with
  | pair a b=>simp only [aQ,bD,apd] at h1 h2; subst h1; subst h2; rfl
  | _=>simp [aQ] at h1
 | succ n ih=>intro c x s q h1 h2; cases c with
  | pair a b=>
   simp only [aQ,bD] at h1 h2
   cases h3:bD n b with
   | none=>rw [h3] at h2; simp at h2
   | some q3=>rw [h3] at h2; simp only [apd] at h2; subst h2; exact ih (q:=q3) h1 h3
  | _=>simp [aQ] at h1
theorem Z8 {h:Heap}:∀(p:List Stp) {k:K} {x:El k} {cs:List Value} {c1:List Value} {w1:Option (Nat×Nat)},ah p k=[]→(aT p k x).isSome=true→bF h p k cs none=some (c1,w1)→w1=none:=by
 intro p
 induction p with
 | nil=>intro k x cs c1 w1 _ _ h; simp only [bF,apd,apo] at h; exact h.2.symm
 | cons s p ih=>
  intro k x cs c1 w1 h0 hs h
  cases s with
  | gL n=>
   cases k with
   | st c=>
    simp only [aT] at hs
    cases hg:aQ n c x with
    | none=>rw [hg] at hs; simp at hs
    | some s=>
     rw [hg] at hs
     have hp2:ah (.gL n :: p) (.st c)=ah p s.1:=by simp [ah,bU n hg]
     rw [hp2] at h0
     simp only [bF] at h
     cases ho:bD n c with
     | none=>rw [ho] at h; simp at h
     | some q=>
      have hk2:q.2=s.1:=Am n (c:=c) hg ho
      rw [ho] at h
      obtain ⟨q1,q2⟩:=q
      simp only at hk2
      subst hk2
      exact ih h0 hs h
   | _=>simp [aT] at hs
  | idx i=>
   cases k with
   | sl e k=>simp [ah] at h0
   | _=>simp [aT] at hs
theorem K.YA:∀k:K,k.beq k=true:=by
 intro k
 induction k with
 | int ik=>cases ik <;> rfl
 | sl e k ih=>simp [K.beq,ih]
 | pair a b iha ihb=>simp [K.beq,iha,ihb]
 | st f ih=>exact ih
 | gap n=>simp [K.beq]
 | id e=>simp [K.beq]
 | _=>rfl
theorem U9:∀(q:List Stp) {k:K} {x:El k},nX q k x→(aT q k x).isSome=true:=by
 intro q
 induction q with
 | nil=>intro k x _; rfl
 | cons s q ih=>
  intro k x h
  cases s with
  | gL n=>
   cases k with
   | st c=>
    simp only [nX] at h
    simp only [aT]
    cases hc:aQ n c x with
    | none=>rw [hc] at h; exact h.elim
    | some d=>rw [hc] at h; exact ih h
   | _=>exact h.elim
  | idx i=>
   cases k with
   | sl e k=>exact ih h.2.2
   | _=>exact h.elim
theorem abf:∀(q:List Stp) {k:K} {x:El k},ah q k=[]→(aT q k x).isSome=true→nX q k x:=by
 intro q
 induction q with
 | nil=>intro k x _ _; trivial
 | cons s q ih=>
  intro k x h0 hs
  cases s with
  | idx i=>cases k <;> simp [ah,aT] at h0 hs
  | gL n=>
   cases k with
   | st c=>
    simp only [aT] at hs
    cases hg:aQ n c x with
    | none=>rw [hg] at hs; simp at hs
    | some s=>
     rw [hg] at hs
     simp only at hs
     have hp2:ah (.gL n :: q) (.st c)=ah q s.1:=by simp [ah,bU n hg]
     rw [hp2] at h0
     simp only [nX,hg]
     exact ih h0 hs
   | _=>simp [aT] at hs
section
variable {cx:Cx} {σ:St} {α:dK} {F:List Nat} {a:Act} {w:World} {r:Nat} {R:Root}
theorem XO {P:Program} {T:ji} {t:TypeId} {kk:K} {x:El kk} {oM:List TypeId} {u7:List Tag} {Pp:List Value} {Ug:List Nat} {v:Value} (hT:fM P T t kk)
  (H:Rel cx σ α F a w) (hr:aR σ r R) (hv:bq σ R) {p:List Stp} {d z:Dat} (hg:aT p R.k R.x=some d) (hz:eF p R.k R.x ⟨kk,x⟩=some z) (fU:nX p R.k R.x) (hown:∀t∈ah p R.k,ay t R.own=true)
  (hh:Held cx σ α F w kk x oM u7 Pp Ug) (hc:bg σ (aU oM kk) u7=true) (Jw:VC kk v Pp) (hd:d.1=kk∨d.1=kk.hole)
  (hself:kk.flat=true∨Qg R r u7 (aU oM kk)=true) (hbad:∀t∈ah p R.k,t∉aU oM kk) (kp:Bool)
  {cs1:List Value} {b o:Nat} (hn:bF (hp w) p R.k (α.hdr r) (eB α R r)=some (cs1,some (b,o))) :
  ∃w',(Instr.storeAt t (.pointer (some ⟨b,o,none⟩)) v).run P w=.ok () w'∧∃α' F',
   Rel cx (az σ r (bH R z (bJ R.own (aU oM kk)) (bif kk.flat then R.tags else iP (xR r u7) R.tags) [eU R p] ((bif d.1.beq kk then [] else tL kk)++kk.tys) kp)) α' F' a w':=by
 have K0:=H.roots r R hr
 have hnt:=H.dD r R hr.1
 have WW:=hh.ow hc
 obtain ⟨_,_,hbb,⟨arr,e,lo,hi,hb,hf,hs,hlast⟩,_⟩:=qB H hr hv hg fU hown hn
 have hds:kk.size=d.1.size:=by
  rcases hd with h | h
  ·rw [h]
  ·rw [h,vV]
 have hone:=Td hT.gN WW
 have hrun:=I7 (o:=o) hT hb hf hh.len (by omega) Jw hone
 obtain ⟨s1,s2,kP,s3,s4,s5,s6⟩:=uV b Pp w arr e (lo,hi) o hb (by rw [hh.len]; omega)
 have s7:=qD b Pp w o
 refine ⟨_,hrun, ?_⟩
 have acS:∀t∈ah p R.k,ay t (bJ R.own (aU oM kk))=true:=fun t ht=>dH.2 ⟨hown t ht,hbad t ht⟩
 obtain ⟨fd,ok',gq,rest,qo,nY,hn',hpf,hd1,hty,_,Az,hwf,hgo⟩:=H.place hr hv (own':=bJ R.own (aU oM kk)) hg fU (fun t h=>(dH.1 h).1) acS
 rw [hn] at hn'
 simp only [apd,apo] at hn'
 obtain ⟨rfl,rfl⟩:=hn'
 obtain ⟨ft,DF,hpt,hOt⟩:=vM (own':=bJ R.own (aU oM kk)) (fun t ht hm=>by
  rcases CV (own:=oM) ht with h | h
  ·exact absurd h (dH.1 hm).2
  ·exact h) (tq (aU oM kk) (fun _ h=>h) WW)
 have ahU:=hpt.nodup hh.nd
 have hft:∀b∈ft,b∈Ug:=fun b hb=>hpt.mem_iff.2 (api _ hb)
 have aer:∀b∈DF,b∈Ug:=fun b hb=>hpt.mem_iff.2 (apf _ hb)
 have Jv:b∉F:=H.jB r R hr b hbb
 have ahM:=uH hOt
 suffices hP:tu cx σ α F w r R p d (bJ R.own (aU oM kk)) cs1 (some (b,o)) gq rest ⟨kk,x⟩ z (bif kk.flat then R.tags else iP (xR r u7) R.tags) [eU R p] ((bif d.1.beq kk then [] else tL kk)++kk.tys) kp ft (F.filter fun b=>!ay b Ug) Pp (w.setCells b o Pp) by
  obtain ⟨α',h,_⟩:=hgo hP
  exact ⟨α',_,h⟩
 have hF':∀b',b'∈F.filter (fun b=>!ay b Ug)↔b'∈F∧b'∉Ug:=fun b'=>by rw [apv]; simp [aV]
 refine ⟨hz,hds, ?_,⟨s7.1,s7.2.1,s7.2.2⟩,by omega, ?_, ?_,fun h=>by simp at h,by rw [hh.len,hds], .inl (by simp), ?_,fun b' hb'=>.inr (.inl (hh.sub b' (hft b' hb'))),(apk.1 ahU).1,fun b' hb'=>.inl ((hF' b').1 hb').1,H.Ca.filter _,fun b' hb' h=>((hF' b').1 h).2 (hft b' hb'), .inr (by simp), ?_, ?_, ?_⟩
 ·rcases hd with h | h
  ·rw [h]; exact fun _ h=>h
  ·rw [h,UZ]; intro t ht; simp at ht
 ·intro b' _ hne
  refine .inr (.inr ?_)
  by_cases e:b'=b
  ·subst e; exact ⟨o,rfl,by simp⟩
  ·exact absurd (s1 b' e) hne
 ·intro b' o' e'
  simp only [apd,apo] at e'
  obtain ⟨rfl,rfl⟩:=e'
  refine ⟨fun i hi=>?_,arr,kP,e,(lo,hi),hb,s3,s4,fun i hi=>?_⟩
  ·unfold cellAt
   rw [s3]
   exact s5 i hi
  ·exact s6 i (by rw [hh.len,hds]; exact hi)
 ·cases hfl:kk.flat with
  | true=>exact ⟨fun _ h=>h,hnt.1,hnt.2.2⟩
  | false=>
   refine ⟨fun t ht=>cK.2 (.inr ht),fun t ht=>?_,fun n ht=>?_⟩
   ·rcases cK.1 ht with h | h
    ·exact hh.wt t (qg.1 h).1
    ·exact hnt.1 t h
   ·rcases cK.1 ht with h | h
    ·exact (qg.1 h).2 rfl
    ·exact hnt.2.2 n h
 ·cases hbq:d.1.beq kk with
  | true=>exact .inl (K.eq_of_beq hbq).symm
  | false=>
   have hdh:d.1=kk.hole:=hd.resolve_left (fun e=>by rw [e,K.YA] at hbq; simp at hbq)
   refine .inr (.inl fun q' h1 h2=>?_)
   have hnil:ah q' kk=[]:=by
    cases he:ah q' kk with
    | nil=>rfl
    | cons e l=>exact absurd (apf _ (pG q' e (by rw [he]; simp))) (h2 e (by rw [show ah q' (⟨kk,x⟩:Dat).1=ah q' kk from rfl,he]; simp))
   obtain ⟨dk,dx⟩:=d
   simp only at hdh
   subst hdh
   obtain ⟨h3,h4⟩:=Xc q' (y:=x) hnil h1
   refine ⟨?_, ?_⟩
   ·show ah q' kk.hole=ah q' kk
    rw [h3,hnil]
   ·show (aT q' kk.hole dx).isSome=true
    rw [qU q' (y:=uN kk x)]
    exact h4
 ·intro _ q c0 w0 hpq Zw hnq hqs
  obtain ⟨dk,dx⟩:=d
  rcases hd with ek | ek
  ·simp only at ek
   subst ek
   exact vQ q hpq (fun t ht=>⟨(Zw t ht).1,fun h=>(Zw t ht).2 (apf _ h)⟩) hnq
  ·simp only at ek
   subst ek
   have hs0:(aT q kk.hole dx).isSome=true:=U9 q hpq
   rw [qU q (y:=uN kk x)] at hs0
   obtain ⟨h1,h2,h3,_,h5⟩:=LJ (h:=hp w) q (x:=x) hs0
   have amn:bF (hp w) q kk cs1 (some (b,o))=some (c0,w0):=by rw [←h5]; exact hnq
   exact vQ (own:=bJ R.own (aU oM kk)) q (abf q h1 h3) (fun t ht=>by rw [h1] at ht; simp at ht) amn
 ·intro α' Tn hblk hval
  cases hfl:kk.flat with
  | true=>
   obtain ⟨e1,e2⟩:=aba (h':=hp (w.setCells b o Pp)) (own':=bJ R.own (aU oM kk)) (ok':=iT cx (az σ r (bH R z (bJ R.own (aU oM kk)) (bif kk.flat then R.tags else iP (xR r u7) R.tags) [eU R p] ((bif d.1.beq kk then [] else tL kk)++kk.tys) kp)) α' (F.filter fun b=>!ay b Ug) (w.setCells b o Pp) (bif true then R.tags else iP (xR r u7) R.tags)) hfl hOt
   subst e1
   rw [hfl] at e2
   exact e2
  | false=>
   rw [hfl] at Tn hblk hval
   have Ib:=hself.resolve_left (by rw [hfl]; simp)
   simp only [cond_false] at Tn hblk hval ⊢
   generalize hR':bH R z (bJ R.own (aU oM kk)) (iP (xR r u7) R.tags) [eU R p] ((bif d.1.beq kk then [] else tL kk)++kk.tys) kp=R' at *
   have hRw:R'.w=[eU R p]++R.w:=by rw [←hR']; rfl
   have hRt:R'.tags=iP (xR r u7) R.tags:=by rw [←hR']; rfl
   have hRv:R'.Dw=aU (bJ R.own (aU oM kk)) z.1:=by rw [←hR']; rfl
   have hRd:R'.aX=false:=hval.1
   have ah6:∀t∈aU oM kk,t∈R'.Dw:=by
    intro t ht
    rw [hRv]
    have h1:=UY (own:=oM) (own':=bJ R.own (aU oM kk)) (k:=kk) (fun t ht hm=>by
     rcases CV (own:=oM) ht with h | h
     ·exact absurd h (dH.1 hm).2
     ·exact h) t ht
    rcases (OO p hg hz).1 t h1 with h | ⟨q,h2,h3⟩
    ·exact h
    ·rw [acS q h2] at h3; simp at h3
   have Zg:∀n,(r,n)∈u7→eU R p∉aU oM kk:=by
    intro n hn1 hl
    unfold eU at hl
    cases hpt:ah p R.k with
    | nil=>
     rw [hpt] at hl
     simp only [List.getLastD_nil] at hl
     unfold Qg at Ib
     rw [Bool.or_eq_true] at Ib
     rcases Ib with h | h
     ·have:=apt.1 h _ hn1
      simp at this
     ·unfold Root.bt at hl
      cases hk:R.kind with
      | var tv=>rw [hk] at h hl; simp only at h hl; rw [Bool.not_eq_true',aV] at h; exact h hl
      | par=>rw [hk] at h; simp at h
      | anon=>
       rcases Az b o rfl with h1 | ⟨o0,ew,_⟩
       ·
        rw [hpt] at hbad
        have:=hty b (apf _ h1)
        have hne:eB α R r=none:=by unfold eB; rw [hk]
        rw [hne] at hn
        have:=Z8 p hpt (by rw [hg]; rfl) hn
        simp at this
       ·unfold eB at ew; rw [hk] at ew; simp at ew
      | dead=>have:=hr.2; simp [Root.aX,hk] at this
    | cons e l=>
     rw [hpt,List.getLastD_eq_getLast?] at hl
     have:(e :: l).getLast?.getD R.bt∈(e :: l):=by
      rw [List.getLast?_eq_some_getLast (by simp)]
      exact List.getLast_mem _
     exact hbad _ (by rw [hpt]; exact this) hl
   have hc':bg (az σ r R') (aU oM kk) u7=true:=by
    rw [o8]
    intro tg xC
    by_cases e:tg.1=r
    ·refine .inr ⟨R',by rw [e]; exact aK ..,hRd, ?_⟩
     rw [o8] at hc
     rcases hc tg xC with h | ⟨Q,h1,h2,h3⟩
     ·rw [e,hnt.2.1] at h; simp at h
     ·rw [e,hr.1] at h1
      simp only [apd] at h1
      subst h1
      rw [hRw]
      refine (qa ?_).2 ⟨fun t ht=>?_,h3⟩
      ·rcases hh.wt tg xC with h | ⟨Q,q1,q2⟩
       ·rw [e,hnt.2.1] at h; simp at h
       ·rw [e,hr.1] at q1
        simp only [apd] at q1
        subst q1
        rcases q2 with q2 | q2
        ·rw [hr.2] at q2; simp at q2
        ·exact q2
      ·simp only [apx] at ht
       subst ht
       exact Zg tg.2 (by rw [←e]; exact xC)
    ·have h2:=hval.2
     rw [hRt,o8] at h2
     rcases h2 tg (cK.2 (.inl (qg.2 ⟨xC,e⟩))) with h | ⟨Q,h3,h4,h5⟩
     ·exact .inl h
     ·refine .inr ⟨Q,h3,h4, ?_⟩
      unfold clean at h5 ⊢
      rw [apt] at h5 ⊢
      intro x hx
      have:=h5 x hx
      simp only [Bool.not_eq_true',aV] at this ⊢
      exact fun h=>this (ah6 x h)
   obtain ⟨_,hV,_⟩:=Tn.views H u7 (aU oM kk) hh.wt hc'
   have hsame:∀b',b'≠b→hp (w.setCells b o Pp) b'=hp w b':=s1
   refine bC ?_ ?_ (fun b' hb'=>hsame b' (fun e=>Jv (e▸hh.sub b' (hft b' hb')))) hOt
   ·rintro b' (⟨h1,h2⟩ | h)
    ·exact (hV b' h1 (.inl h2)).2
    ·exact hsame b' (fun e=>Jv (e▸hh.sub b' (aer b' h)))
   ·rintro b' (⟨h1,h2⟩ | h)
    ·obtain ⟨g1,g2,g3,g4,g5⟩:=(hV b' h1 (.inl h2)).1
     refine ⟨g1,g2,g3,fun q Q hq hbq=>?_,fun h0=>?_⟩
     ·obtain ⟨n,hn1⟩:=g4 q Q hq hbq
      by_cases e:q=r
      ·exfalso
       subst e
       obtain ⟨rfl,_⟩:=eX hq
       obtain ⟨tt,ht1,ht2⟩:=h2
       have aaa:∀e,mine cx w b'→q8 (hp w) b'=some e→ay e (bJ R.own (aU oM kk))=true→False:=by
        intro e hmn he hm
        have ht2:=H.UX hmn ht2
        rw [ht2] at he
        simp only [apd] at he
        subst he
        exact (dH.1 hm).2 ht1
       rcases hblk b' hbq with ⟨o',h⟩ | h | h
       ·unfold Qg at Ib
        rw [Bool.or_eq_true] at Ib
        rcases Ib with h3 | h3
        ·have:=apt.1 h3 _ hn1
         simp at this
        ·cases hk:R.kind with
         | var tv=>
          rw [hk] at h3
          simp only at h3
          rw [Bool.not_eq_true',aV] at h3
          obtain ⟨_,anP,e2,lo2,hi2,f1,_,_,f4⟩:=K0.mem b' o' h
          have ht2:=H.UX (K0.mine b' (by unfold blk; rw [h]; exact apK)) ht2
          unfold q8 at ht2
          rw [f1] at ht2
          simp only [apd] at ht2
          exact h3 (by rw [←f4 tv hk,ht2]; exact ht1)
         | par=>rw [hk] at h3; simp at h3
         | anon=>unfold eB at h; rw [hk] at h; simp at h
         | dead=>have:=hr.2; simp [Root.aX,hk] at this
       ·obtain ⟨e,_,h3,h4⟩:=ahM b' h
        exact aaa e (H.fl b' (hh.sub b' (hft b' h))) h4 h3
       ·obtain ⟨e,_,h3,h4⟩:=hty b' (apf _ h)
        exact aaa e (K0.mine b' (apf _ (hpf.mem_iff.2 (by simp [h])))) h4 h3
      ·exact ⟨n,cK.2 (.inl (qg.2 ⟨hn1,e⟩))⟩
     ·rcases g5 h0 with ⟨j,n,h3,h4⟩ | h3
      ·refine .inl ⟨j,n,cK.2 (.inl (qg.2 ⟨h3, ?_⟩)),h4⟩
       intro e
       have:=hnt.2.1
       rw [←e] at this
       simp only at this
       rw [iO] at this
       simp at this
      ·exact .inr h3
    ·have Y5:=hh.sub b' (aer b' h)
     have hm:=H.fl b' Y5
     refine ⟨by have:=hm.1; omega,fun h2=>((hF' b').1 h2).2 (aer b' h),sU H Y5,fun q Q hq hbq=>?_,fun h0=>?_⟩
     ·exfalso
      rcases jC hq with ⟨rfl,rfl,_⟩ | ⟨e,hq'⟩
      ·rcases hblk b' hbq with ⟨o',h2⟩ | h2 | h2
       ·exact H.jB _ _ hr b' (by rw [bT,eZ]; exact .inl ⟨o',h2⟩) Y5
       ·exact (apk.1 ahU).2.2 b' h2 b' h rfl
       ·exact H.jB _ _ hr b' (by rw [bT,eZ,hpf.mem_iff]; exact .inr (by simp [h2])) Y5
      ·obtain ⟨Q2,g1,g2⟩:=Tn.old q Q hq'.1
       have hns:Same σ α (az σ r R') α' q:=by
        refine apA fun hns=>?_
        rcases g2 with ⟨h1,h2⟩ | ⟨_,h2⟩
        ·rw [bZ σ R' e] at g1
         rw [hq'.1] at g1
         simp only [apd] at g1
         subst g1
         rw [hq'.2] at h1
         simp at h1
        ·rcases h2.2.2.2.2.2.2 with h3 | ⟨_,_,h3⟩
         ·rw [qI _ e,qI _ e] at h3
          simp at h3
         ·exact hns h3
       rw [hns.blk] at hbq
       exact H.jB _ _ hq' b' hbq Y5
     ·rcases hm.2 with h | ⟨j,pi,h1,h2⟩
      ·omega
      ·exact .inr ⟨j,pi,h1,h2⟩
end
end
section
open Go
variable [Fr]
theorem gF (d c:Nat):fP (bE d c)=false:=by
 unfold fP bE
 have:(4 * (8 * d+c)+2) % 4=2:=by omega
 rw [this]; rfl
section
variable {cx:Cx} {σ:St} {α:dK} {F:List Nat} {a:Act} {w:World} {r:Nat}
theorem SB {T:List Tag} (h:fD σ T) (hn:σ.roots r=none) (hx:fP r=false):∀n,(r,n)∉T:=by
 intro n hn2
 rcases h _ hn2 with h | ⟨Q,h,_⟩
 ·simp only at h; rw [hx] at h; simp at h
 ·simp only at h; rw [hn] at h; simp at h
theorem QL (H:Rel cx σ α F a w) (hn:σ.roots r=none) (hx:fP r=false) {R':Root} (hd:R'.aX=false) (hk:R'.kind≠.par) (su:fD σ R'.tags) (loc:Nat×Nat) (hdr':List Value) (dJ F':List Nat)
  (hblk:∀b∈iF R' loc dJ,b∈F∧b∉F') (hnd:(iF R' loc dJ).Nodup) (hF':∀b∈F',b∈F) (YY:F'.Nodup)
  (how:bg σ R'.Dw R'.tags=true→Ow (hp w) R'.own (fun b=>iT cx σ α F w R'.tags b∨(b∈F∧b∉F'∧b∉iF R' loc dJ)) R'.k R'.x hdr' dJ) (hlen:hdr'.length=R'.k.size)
  (hmem:∀b o,xG R' loc=some (b,o)→Cells (hp w) b o hdr'∧∃arr e lo hi,hp w b=some (.cells arr e (lo,hi))∧(∀i,i<arr.size→¬(lo≤i∧i<hi))∧o+R'.k.size≤arr.size∧(∀t,R'.kind=.var t→e=t)) :
  Rel cx (az σ r R') (aJ α r loc hdr' dJ) F' a w∧nE cx σ α F w (az σ r R') (aJ α r loc hdr' dJ) F' w (tQ r []) (tQ r []):=by
 have hns:∀{q:Nat},¬Same σ α (az σ r R') (aJ α r loc hdr' dJ) q→q=r:=fun {q} h=>apA fun e=>h (iy e)
 have hold:∀{q Q},σ.roots q=some Q→q≠r:=fun {q Q} h e=>by rw [e,hn] at h; simp at h
 have T:nE cx σ α F w (az σ r R') (aJ α r loc hdr' dJ) F' w (tQ r []) (tQ r []):=by
  refine ⟨rfl,⟨rfl,rfl,rfl⟩,apu _, ?_, ?_, ?_,fun b _ h=>absurd rfl h, ?_,YY, ?_, ?_,fun _ _ _ _ _ _ _ h=>absurd rfl h,fun q Q Q' h1 h2 _=>by rw [bZ σ R' (hold h1),h1] at h2; simp only [apd] at h2; subst h2; exact ⟨rfl,rfl⟩⟩
  ·intro q Q hQ
   have e:=hold hQ
   refine ⟨Q,by rw [bZ σ R' e]; exact hQ, ?_⟩
   cases hd:Q.aX with
   | true=>exact .inl ⟨rfl,by intro hk; simp [Root.aX,hk] at hd⟩
   | false=>exact .inr ⟨rfl,by rw [qI _ e]; rfl,by rw [qI _ e]; rfl,apu _,rfl,by simp [aJ,upd_ne _ _ e],fun _=>rfl, .inr ⟨qI _ e,qI _ e,iy e⟩⟩
  ·intro q Q hQ hs
   have e:=hns hs
   subst e
   rw [aK] at hQ
   simp only [apd] at hQ
   subst hQ
   refine ⟨fun t ht=>?_,hx,SB su hn hx⟩
   have hne:t.1≠q:=fun e=>SB su hn hx t.2 (by rw [←e]; exact ht)
   rcases su t ht with h | ⟨Q,h1,h2⟩
   ·exact .inl h
   ·exact .inr ⟨Q,by rw [bZ σ R' hne]; exact h1,h2⟩
  ·intro q Q hq hQ
   by_cases e:q=r
   ·subst e
    rw [aK] at hQ
    simp only [apd] at hQ
    subst hQ
    exact hk
   ·rw [bZ σ R' e,hq] at hQ; simp at hQ
  ·rintro b (⟨q,Q,hq,hb,hno⟩ | hb)
   ·rcases jC hq with ⟨rfl,rfl,_⟩ | ⟨e,hq'⟩
    ·rw [eO] at hb
     exact .inl (hblk b hb).1
    ·rw [(iy (α:=α) (σ:=σ) (R:=R') e).blk] at hb
     exact absurd ⟨Q,hq',hb⟩ hno
   ·exact .inl (hF' b hb)
  ·intro q Q hq hs b hb
   have e:=hns hs
   subst e
   obtain ⟨rfl,_⟩:=eX hq
   rw [eO] at hb
   exact (hblk b hb).2
  ·intro q Q q' Q' hq hq' hne hs hs'
   exact absurd ((hns hs).trans (hns hs').symm) hne
 refine ⟨H.turn T ?_ ?_ ?_,T⟩
 ·intro q Q hq hs
  have e:=hns hs
  subst e
  obtain ⟨rfl,_⟩:=eX hq
  refine ⟨fun hv=>?_, ?_, ?_, ?_⟩
  ·have e1:(aJ α q loc hdr' dJ).hdr q=hdr':=by simp [aJ,upd_same]
   have e2:(aJ α q loc hdr' dJ).fo q=dJ:=by simp [aJ,upd_same]
   rw [e1,e2]
   obtain ⟨h1,h2,_⟩:=T.views H Q.tags _ su hv.2
   refine bC (fun _ _=>rfl) ?_ (fun _ _=>rfl) (tq _ (fun _ h=>h) (how h1))
   rintro b ⟨hb | ⟨g1,g2,g3⟩,hty⟩
   ·exact (h2 b hb (.inl hty)).1
   ·have hm:=H.fl b g1
    refine ⟨hm.1,g2,sU H g1,fun q' Q' hq' hb'=>?_,fun h0=>?_⟩
    ·exfalso
     rcases jC hq' with ⟨rfl,rfl,_⟩ | ⟨e,hq2⟩
     ·rw [eO] at hb'; exact g3 hb'
     ·rw [(iy (α:=α) (σ:=σ) (R:=Q) e).blk] at hb'
      exact H.jB _ _ hq2 b hb' g1
    ·rcases hm.2 with h | ⟨j,pi,h1,h2⟩
     ·omega
     ·exact .inr ⟨j,pi,h1,h2⟩
  ·simpa [aJ,upd_same] using hlen
  ·intro b o hb
   rw [jN] at hb
   simpa [aJ,upd_same] using hmem b o hb
  ·rw [eO]; exact hnd
 ·intro q Q hq hs
  exact absurd (hns hs) (hold hq.1)
 ·intro q Q hq hs
  exact absurd (hns hs) (hold hq.1)
theorem gY {R:Root} (h:R.kind=.anon) (loc:Nat×Nat) (fo:List Nat):iF R loc fo=fo:=by simp [iF,h]
theorem vT {R:Root} {t:TypeId} (h:R.kind=.var t) (loc:Nat×Nat) (fo:List Nat):iF R loc fo=loc.1 :: fo:=by simp [iF,h]
theorem zV {R:Root} (h:R.kind=.anon) (loc:Nat×Nat):xG R loc=none:=by simp [xG,h]
theorem SC {R:Root} {t:TypeId} (h:R.kind=.var t) (loc:Nat×Nat):xG R loc=some loc:=by simp [xG,h]
theorem Z7 {k:K} {x:El k} {own:List TypeId} {tags:List Tag} {kp:Bool} {hdr:List Value} {fo F':List Nat} {loc:Nat×Nat} {v:Value} {w:World} (h:VC k v hdr) :
  bI cx (az σ r (aP k x own tags .anon kp)) (aJ α r loc hdr fo) F' w (.ref r 0) v:=by
 intro Q hQ _
 obtain ⟨rfl,_⟩:=eX hQ
 refine ⟨rfl, ?_⟩
 simp only [aJ,upd_same]
 exact h
theorem aeY {k:K} {x:El k} {own:List TypeId} {tags:List Tag} {kp:Bool} {hdr:List Value} {fo F':List Nat} {b:Nat} {t:TypeId} {w:World} :
  bI cx (az σ r (aP k x own tags (.var t) kp)) (aJ α r (b,0) hdr fo) F' w (.ptr r [] 0) (.pointer (some ⟨b,0,none⟩)):=by
 refine ⟨⟨b,0,rfl⟩, ?_⟩
 intro Q hQ _ _ _ _
 rw [aK] at hQ
 simp only [apd] at hQ
 subst hQ
 refine ⟨trivial,hdr,b,0, ?_,rfl⟩
 simp only [bF]
 rw [jN]
 simp [xG,aP,aJ,upd_same]
theorem abV {k:K} {x:El k} {own:List TypeId} {tags:List Tag} {kp:Bool} {hdr:List Value} {fo F':List Nat} {b o:Nat} {t:TypeId} {w:World} :
  bI cx (az σ r (aP k x own tags (.var t) kp)) (aJ α r (b,o) hdr fo) F' w (.ptr r [] 0) (.pointer (some ⟨b,o,none⟩)):=by
 refine ⟨⟨b,o,rfl⟩, ?_⟩
 intro Q hQ _ _ _ _
 rw [aK] at hQ
 simp only [apd] at hQ
 subst hQ
 refine ⟨trivial,hdr,b,o, ?_,rfl⟩
 simp only [bF]
 rw [jN]
 simp [xG,aP,aJ,upd_same]
theorem J6 {tk:iL} (h:fD σ tk.tags):fD σ tk.jV:=by
 unfold iL.jV
 split
 ·intro t ht; simp at ht
 ·exact h
theorem gP {h:Heap} {own:List TypeId} {ok ok':Nat→Prop} {k:K} {x:El k} {cs:List Value} {fo:List Nat} (hv:aU own k=[]) (H:Ow h own ok k x cs fo):Ow h own ok' k x cs fo:=by
 refine bC (fun _ _=>rfl) (fun b hb=>?_) (fun _ _=>rfl) (tq [] (by rw [hv]; exact fun _ h=>h) H)
 obtain ⟨_,t,ht,_⟩:=hb
 simp at ht
theorem Vg {P:Program} {tk:iL} {t:TypeId} {v:Value} {cs:List Value} {fo:List Nat} (H:Rel cx σ α F a w) (hn:σ.roots r=none) (hx:fP r=false) (hh:Held cx σ α F w tk.k tk.x tk.own tk.tags cs fo)
  (hc:bg σ (aU tk.own tk.k) tk.tags=true) (hv:VC tk.k v cs) (kp:Bool) :
  (Instr.box t v).run P w=.ok (.pointer (some ⟨w.heap.size,0,none⟩)) (w.alloc (.cells v.cells t))∧
   ∃α' F',Rel cx (az σ r (aP tk.k tk.x tk.own tk.jV (.var t) kp)) α' F' a (w.alloc (.cells v.cells t))∧
    bI cx (az σ r (aP tk.k tk.x tk.own tk.jV (.var t) kp)) α' F' (w.alloc (.cells v.cells t)) (.ptr r [] 0) (.pointer (some ⟨w.heap.size,0,none⟩)):=by
 refine ⟨OB t v w, ?_⟩
 have hcs:v.cells=cs.toArray:=by
  have:=hv.cells
  apply Array.ext'
  simpa using this
 rw [hcs]
 obtain ⟨H1,T1⟩:=H.alloc (.cells cs.toArray t)
 have hh1:=hh.turn H T1 (fun b hb=>⟨qc w _ (H.fl b (hh.sub b hb)).1,apC _ (hh.sub b hb)⟩)
 have hnew:hp (w.alloc (.cells cs.toArray t)) w.heap.size=some (.cells cs.toArray t (0,0)):=sj w _
 have Jv:w.heap.size∉F:=fun h=>by have:=(H.fl _ h).1; omega
 have hbf:w.heap.size∉fo:=fun h=>Jv (hh.sub _ h)
 have hk:(aP tk.k tk.x tk.own tk.jV (.var t) kp).kind=.var t:=rfl
 obtain ⟨h1,h2⟩:=QL (R':=aP tk.k tk.x tk.own tk.jV (.var t) kp) H1 hn hx rfl (by simp [aP]) (J6 hh1.wt) (w.heap.size,0) cs fo (F.filter fun b=>!ay b fo)
  (fun b hb=>by
   rw [vT hk] at hb
   rcases apq.1 hb with h | h
   ·simp only at h; subst h
    exact ⟨apK,fun h=>Jv (apv.1 h).1⟩
   ·refine ⟨apC _ (hh.sub b h),fun h2=>?_⟩
    have:=(apv.1 h2).2
    simp only [Bool.not_eq_true',aV] at this
    exact this h)
  (by rw [vT hk]; exact apL.2 ⟨hbf,hh.nd⟩)
  (fun b hb=>apC _ (apv.1 hb).1) (H.Ca.filter _)
  (fun hcl=>by
   show Ow _ tk.own _ tk.k tk.x cs fo
   cases hb:tk.bad with
   | nil=>exact gP hb (hh1.ow hc)
   | cons t0 l=>
    have et:(aP tk.k tk.x tk.own tk.jV (.var t) kp).tags=tk.tags:=by
     show tk.jV=tk.tags
     unfold iL.jV
     rw [hb]
    rw [et] at hcl ⊢
    exact bC (fun _ _=>rfl) (fun b h=>.inl h) (fun _ _=>rfl) (hh1.ow hcl)) hh.len
  (fun b o hb=>by
   rw [SC hk] at hb
   simp only [apd,apo] at hb
   obtain ⟨rfl,rfl⟩:=hb
   refine ⟨fun i hi=>?_,cs.toArray,t,0,0,hnew,fun i _=>by omega, ?_,fun t' ht'=>?_⟩
   ·unfold cellAt
    rw [hnew]
    simp
   ·show 0+tk.k.size≤_
    simp [hh.len]
   ·have:IK.var t=IK.var t':=ht'
    simpa using this)
 exact ⟨_,_,h1,aeY⟩
theorem BR {k:K} {x:El k} {own:List TypeId} {tags:List Tag} {v:Value} {cs:List Value} {fo:List Nat} (H:Rel cx σ α F a w) (hn:σ.roots r=none) (hx:fP r=false)
  (hsub:∀b∈fo,b∈F) (hnd:fo.Nodup) (hwt:fD σ tags) {F':List Nat} (hF':∀b∈F',b∈F∧b∉fo) (YY:F'.Nodup) (hlen:cs.length=k.size)
  (how:bg σ (aU own k) tags=true→Ow (hp w) own (fun b=>iT cx σ α F w tags b∨(b∈F∧b∉F'∧b∉fo)) k x cs fo) (hv:VC k v cs) (kp:Bool) :
  ∃α',Rel cx (az σ r (aP k x own tags .anon kp)) α' F' a w∧bI cx (az σ r (aP k x own tags .anon kp)) α' F' w (.ref r 0) v:=by
 have hk:(aP k x own tags .anon kp).kind=.anon:=rfl
 obtain ⟨h1,h2⟩:=QL (R':=aP k x own tags .anon kp) H hn hx rfl (by simp [aP]) hwt (0,0) cs fo F'
  (fun b hb=>by rw [gY hk] at hb; exact ⟨hsub b hb,fun h=>(hF' b h).2 hb⟩) (by rw [gY hk]; exact hnd) (fun b hb=>(hF' b hb).1) YY
  (fun hc=>by rw [gY hk]; exact how hc) hlen (fun b o hb=>by rw [zV hk] at hb; simp at hb)
 exact ⟨_,h1,Z7 hv⟩
end
end
section
open Go
variable [Fr]
def sM (P:Program) (cx:Cx) (o:Oper) (a:Act) (w:World) (σ':St):Prop:=
 ∃v w' α' F',((execOp a.eval o).run P w=.ok (.value v) w'∨((execOp a.eval o).run P w=.ok .skip w'∧v=undef))∧Rel cx σ' α' F' (a.put o.dst v) w'
theorem sM.wp {P:Program} {cx:Cx} {o:Oper} {a:Act} {w:World} {σ':St} (h:sM P cx o a w σ') {K:Act→World→Prop} {Q:Exit→Act→World→Prop}
  (hK:∀α' F' a' w',Rel cx σ' α' F' a' w'→K a' w'):o.wp P a w K Q:=by
 obtain ⟨v,w',α',F',h | ⟨h,rfl⟩,h2⟩:=h
 ·unfold Oper.wp; rw [h]; exact hK _ _ _ _ h2
 ·unfold Oper.wp; rw [h]; exact hK _ _ _ _ h2
section
variable {P:Program} {T:ji} {cx:Cx} {σ:St} {α:dK} {F:List Nat} {a:Act} {w:World} {o:Oper} {d:Nat} {ws:List Wr}
theorem bM (H:Rel cx σ α F a w) (hd:o.dst=some d) (hdn:d<cx.nt) {x:yQ} {v:Value} (hrun:(execOp a.eval o).run P w=.ok (.value v) w) (hx:jT cx σ α F w x v) (hw:Ah σ x) :
  sM P cx o a w (aC [.s d x] σ):=by
 refine ⟨v,w,α,F, .inl hrun, ?_⟩
 rw [hd]
 exact H.put hdn hw hx
theorem iW {σ1:St} {dL:dK} {F1:List Nat} {w1:World} (H:Rel cx σ1 dL F1 a w1) (hd:o.dst=some d) (hdn:d<cx.nt) {x:yQ} {v:Value} (hrun:(execOp a.eval o).run P w=.ok (.value v) w1) (hx:jT cx σ1 dL F1 w1 x v) (hw:Ah σ1 x) :
  sM P cx o a w (aC [.s d x] σ1):=by
 refine ⟨v,w1,dL,F1, .inl hrun, ?_⟩
 rw [hd]
 exact H.put hdn hw hx
theorem gZ {A:Type} {z:A} {r:Nat} {k:Prog A} (h:(jY r k).ends σ z):σ.roots r=none∧k.ends σ z:=by
 unfold jY at h
 simp only [Prog.ends] at h
 cases hr:σ.roots r with
 | none=>rw [hr] at h; exact ⟨rfl,h⟩
 | some R=>rw [hr] at h; exact h.elim
theorem aD {A:Type} {z x:A} (h:(Prog.ret x).ends σ z):z=x:=h
theorem YL (H:Rel cx σ α F a w) (hd:o.dst=some d) (hdn:d<cx.nt) {x:Operand} (ho:o.op=.move x) (h:(u6 x fun v=>(.ret [.s d v]:Prog (List Wr))).ends σ ws):sM P cx o a w (aC ws σ):=by
 obtain ⟨v,h1,h2,h3⟩:=tK H h
 rw [aD h3]
 exact bM H hd hdn (by simp [execOp,ho]) h1 h2
theorem fM.sl {t:TypeId} {e:TypeId} {k:K} (h:fM P T t (.sl e k)):P.underlying t=some (.slice e)∧fM P T e k∧0<k.size∧∃i,P.info? e=some i∧i.bytes=T.bytes e∧0<i.bytes:=by
 unfold fM jU at h
 exact ⟨h.1,h.2.2.1,h.2.2.2.1,h.2.2.2.2⟩
theorem zC {e:TypeId} {k:K} {c:Option Addr} {own:List TypeId} {ok:Nat→Prop} {h:Heap}:Ow h own ok (.sl e k) ([]:List (El k)) [.slice c 0 0] []:=by
 unfold Ow
 split
 ·exact ⟨c,0,0,rfl,rfl,apu _, .inl ⟨rfl,rfl⟩⟩
 ·exact ⟨rfl,c,0,0,rfl,rfl,apu _,fun h=>by omega⟩
theorem TT {L:K→List TypeId} (H:Rel cx σ α F a w) (hd:o.dst=some d) (hdn:d<cx.nt) {x:Operand} (ho:o.op=.assign x)
  (h:(u6 x fun
   | .one .iQ=>match T.ty o.type with
    | some (.sl e kk)=>.root (bE d 0) fun
     | none=>.ret [.r (bE d 0) (some (aP (.sl e kk) [] (e :: L kk) [] .anon)), .s d (.one (.ref (bE d 0) 0))]
     | some _=>.ret [.s d (.one .iQ)]
    | _=>.fail
   | v=>(.ret [.s d v]:Prog (List Wr))).ends σ ws):sM P cx o a w (aC ws σ):=by
 obtain ⟨v,h1,h2,h3⟩:=tK H h
 have hrun:(execOp a.eval o).run P w=.ok (.value (a.eval x)) w:=by simp [execOp,ho]
 have key:ws=[.s d v]→sM P cx o a w (aC ws σ):=fun e=>by rw [e]; exact bM H hd hdn hrun h1 h2
 cases v with
 | J7 l=>exact key (aD h3)
 | one v=>
  cases v with
  | iQ=>
   have h1':=h1
   obtain ⟨c,hc⟩:=h1
   simp only at h3
   split at h3
   ·rename_i e kk hty
    simp only [Prog.ends] at h3
    cases g1:σ.roots (bE d 0) with
    | some Q=>
     rw [g1] at h3
     exact key (aD h3)
    | none=>
    rw [g1] at h3
    have g2:=h3
    rw [aD g2]
    obtain ⟨α',k1,k2⟩:=BR (k:=.sl e kk) (x:=([]:List (El kk))) (own:=e :: L kk) (tags:=[]) (v:=a.eval x) (cs:=[.slice c 0 0]) (fo:=[]) (r:=bE d 0) (F':=F) H g1 (gF d 0) (fun b hb=>by simp at hb) List.nodup_nil (fun t ht=>by simp at ht)
     (fun b hb=>⟨hb,by simp⟩) H.Ca rfl (fun _=>zC) (by rw [hc]; exact CL) false
    exact iW (x:=.one (.ref (bE d 0) 0)) k1 hd hdn hrun k2 ⟨_,aK .., .inr (apM _)⟩
   ·exact h3.elim
  | _=>exact key (aD h3)
theorem YM (H:Rel cx σ α F a w) (hd:o.dst=some d) (hdn:d<cx.nt) {c x y:Operand} (ho:o.op=.pick c x y)
  (h:(dN c fun c=>asBool c fun c=>u6 x fun v=>u6 y fun u=>.br c (.ret [.s d v]) ((.ret [.s d u]):Prog (List Wr))).ends σ ws):sM P cx o a w (aC ws σ):=by
 obtain ⟨vc,h1,_,h⟩:=bR H h
 obtain ⟨b,h2,h⟩:=KM h1 h
 obtain ⟨v,h3,h4,h⟩:=tK H h
 obtain ⟨u,h5,h6,h⟩:=tK H h
 rcases h with ⟨hb,h⟩ | ⟨hb,h⟩
 ·rw [aD h]
  exact bM H hd hdn (by simp [execOp,ho,h2,hb,Go.asBool]) h3 h4
 ·rw [aD h]
  exact bM H hd hdn (by simp [execOp,ho,h2,hb,Go.asBool]) h5 h6
theorem fM.shape {t:TypeId} {k:K} (h:fM P T t k):(∀a b,k≠.pair a b)∧k≠.unit∧∀n,k≠.gap n:=by
 unfold fM jU at h
 refine ⟨fun a b e=>?_,fun e=>?_,fun n e=>?_⟩ <;> subst e <;> exact h.elim
theorem dm {own:List TypeId} {k:K} (h:∀t∈k.tys,ay t own=true):aU own k=[]:=by
 cases he:aU own k with
 | nil=>rfl
 | cons t l=>
  exfalso
  have key:∀(k:K),(∀t∈k.tys,ay t own=true)→∀t,t∉aU own k:=by
   intro k
   induction k with
   | sl e k ih=>
    intro h t ht
    simp only [aU,h e (by simp [K.tys]),cond_true] at ht
    exact ih (fun t ht=>h t (by simp [K.tys,ht])) t ht
   | pair a b iha ihb=>
    intro h t ht
    simp only [aU,apm] at ht
    rcases ht with ht | ht
    ·exact iha (fun t ht=>h t (by simp [K.tys,ht])) t ht
    ·exact ihb (fun t ht=>h t (by simp [K.tys,ht])) t ht
   | st f ih=>intro h t ht; exact ih h t ht
   | _=>intro _ t ht; simp [aU] at ht
  exact key k h t (by rw [he]; simp)
theorem Xy {l:List Nat}:∀t∈l,ay t l=true:=fun t ht=>aL.2 ht
theorem WA (hT:fu P T) (H:Rel cx σ α F a w) (hd:o.dst=some d) (hdn:d<cx.nt) {t:TypeId} (ho:o.op=.alloc t)
  (h:(match T.ty t with
   | some kk=>jY (bE d 0) (.ret [Wr.r (bE d 0) (some (aP kk kk.zero kk.tys [] (.var t))),Wr.s d (.one (.ptr (bE d 0) [] 0))])
   | none=>(.fail:Prog (List Wr))).ends σ ws):sM P cx o a w (aC ws σ):=by
 split at h
 ·rename_i kk hty
  have ht:=hT.ty t kk hty
  obtain ⟨g1,g2⟩:=gZ h
  rw [aD g2]
  obtain ⟨s1,s2,s3⟩:=ht.shape
  have hz:Ow (hp w) kk.tys (iT cx σ α F w []) kk kk.zero (bV kk) []:=Gn ht.gN Xy
  obtain ⟨k0,α',F',k1,k2⟩:=Vg (P:=P) (tk:=⟨kk,kk.zero,kk.tys,[],[],false⟩) (t:=t) (v:=sP kk) (cs:=bV kk) (fo:=[]) (r:=bE d 0) H g1 (gF d 0)
   ⟨fun _=>hz,fun t ht=>by simp at ht,fun b hb=>by simp at hb,List.nodup_nil,dn hz⟩ rfl (VV s1 s2 s3) false
  have e0:(iL.jV ⟨kk,kk.zero,kk.tys,[],[],false⟩)=[]:=by unfold iL.jV; split <;> rfl
  rw [e0] at k1 k2
  exact iW (x:=.one (.ptr (bE d 0) [] 0)) k1 hd hdn (by
   have:=Sq (P:=P) ht w
   simp only [execOp,ho,apD,this,apw,apI]) k2 ⟨_,aK .., .inr (apM _)⟩
 ·exact h.elim
theorem Px (H:Rel cx σ α F a w) (hd:o.dst=some d) (hdn:d<cx.nt) {x:Operand} (ho:o.op=.nilCheck x)
  (h:(dN x fun
   | .ptr r p h=>.ret [.s d (.one (.ptr r p h))]
   | .je bt kk y tags=>.ret [.s d (.one (.je bt kk y tags))]
   | _=>(.fail:Prog (List Wr))).ends σ ws):sM P cx o a w (aC ws σ):=by
 obtain ⟨v,h1,h2,h⟩:=bR H h
 cases v with
 | ptr r p n=>
  rw [aD h]
  obtain ⟨b,q,hv⟩:=h1.1
  exact bM (v:=a.eval x) H hd hdn (by simp [execOp,ho,hv]) h1 h2
 | je bt kk y tags=>
  rw [aD h]
  obtain ⟨b,q,hv⟩:=h1.1
  exact bM (v:=a.eval x) H hd hdn (by simp [execOp,ho,hv]) h1 h2
 | _=>exact h.elim
end
end
section
open Go
variable [Fr]
theorem beq_true {a b:K} {A:Type} {x y:Prog A} {σ:St} {z:A} (h:(bif a.beq b then x else y).ends σ z):(a=b∧x.ends σ z)∨(a.beq b=false∧y.ends σ z):=by
  cases hb:a.beq b with
  | true=>rw [hb] at h; exact .inl ⟨K.eq_of_beq hb,h⟩
  | false=>rw [hb] at h; exact .inr ⟨rfl,h⟩
section
variable {P:Program} {T:ji} {cx:Cx} {σ:St} {α:dK} {F:List Nat} {a:Act} {w:World} {o:Oper} {d:Nat} {ws:List Wr}
theorem structField {P:Program} {T:ji}:∀(n:Nat) {c:K} {fs:List Field} {Mj off:Nat} {k:K},(jU P T c).2 fs Mj→bD n c=some (off,k)→∃f,fs[n]?=some f∧f.offset=Mj+off∧fM P T f.type k∧0<k.size:=by
  intro n
  induction n with
  | zero=>
    intro c fs Mj off k h ho
    cases c with
    | pair a b=>
      simp only [bD,apd,apo] at ho
      obtain ⟨rfl,rfl⟩:=ho
      cases fs with
      | nil=>exact h.elim
      | cons f fs=>exact ⟨f,rfl,h.1,h.2.1,h.2.2.1⟩
    | _=>simp [bD] at ho
  | succ n ih=>
    intro c fs Mj off k h ho
    cases c with
    | pair a b=>
      simp only [bD] at ho
      cases h2:bD n b with
      | none=>rw [h2] at ho; simp at ho
      | some q=>
        rw [h2] at ho
        simp only [apd,apo] at ho
        cases fs with
        | nil=>exact h.elim
        | cons f fs=>
          obtain ⟨g,g1,g2,g3,g4⟩:=ih (off:=q.1) (k:=q.2) h.2.2.2 (by rw [h2])
          exact ⟨g,by simpa using g1,by rw [g2, ←ho.1]; omega,by rw [←ho.2]; exact g3,by rw [←ho.2]; exact g4⟩
    | _=>simp [bD] at ho
theorem fM.st {t:TypeId} {c:K} (h:fM P T t (.st c)):∃fs,P.underlying t=some (.struct fs)∧(jU P T c).2 fs.toList 0:=by
  unfold fM jU at h
  exact h.1
theorem Df {cs:List Value} {off n:Nat} (h:off+n≤cs.length):((cs.drop off).take n).length=n:=by simp; omega
theorem KY:∀(n:Nat) {c:K} {off:Nat} {k:K},bD n c=some (off,k)→off+k.size≤c.size:=by
  intro n
  induction n with
  | zero=>intro c off k h; cases c with
    | pair a b=>simp only [bD,apd,apo] at h; obtain ⟨rfl,rfl⟩:=h; simp [K.size]
    | _=>simp [bD] at h
  | succ n ih=>intro c off k h; cases c with
    | pair a b=>
      simp only [bD] at h
      cases h2:bD n b with
      | none=>rw [h2] at h; simp at h
      | some q=>
        rw [h2] at h
        simp only [apd,apo] at h
        have:=ih (off:=q.1) (k:=q.2) (by rw [h2])
        simp only [K.size]
        rw [←h.1, ←h.2]
        omega
    | _=>simp [bD] at h
theorem aat {t:TypeId} {k:K} (h:fM P T t k) (hk:0<k.size) {cs:List Value} {off:Nat} (hl:off+k.size≤cs.length):∃u,(part t cs.toArray off).run P w=.ok u w∧((∀x,u≠.agg x)∨uO k=true→VC k u ((cs.drop off).take k.size)):=by
  unfold part
  simp only [apD,h.isAgg w,Result.andThen]
  cases hs:uO k with
  | true=>
    refine ⟨.agg (cs.toArray.extract off (off+k.size)),by simp [h.info.sizeOf w,Result.andThen],fun _=>?_⟩
    cases k with
    | st c=>
      show Value.agg _=.agg _
      congr 1
      apply Array.ext'
      simp [List.extract_eq_take_drop]
    | _=>simp [uO] at hs
  | false=>
    have hlt:off<cs.length:=by omega
    refine ⟨cs[off],by simp [hlt],fun hu=>?_⟩
    have hu':∀x,cs[off]≠.agg x:=hu.resolve_right (by simp)
    have hk1:k.size=1:=by
      cases k with
      | st c=>simp [uO] at hs
      | pair a b=>exact (show False from h).elim
      | unit=>exact (show False from h).elim
      | gap n=>exact (show False from h).elim
      | _=>rfl
    have e:(cs.drop off).take k.size=[cs[off]]:=by
      rw [hk1,List.drop_eq_getElem_cons hlt]
      rfl
    rw [e]
    cases k with
    | st c=>simp [uO] at hs
    | _=>exact ⟨rfl,hu'⟩
theorem Ns {v:Value} (h:v.oneCell'=true):∀x,v≠.agg x:=by
  intro x e
  subst e
  simp [Value.oneCell'] at h
theorem XJ {t:TypeId} {c:K} (h:fM P T t (.st c)) {cs:List Value} {n off:Nat} {k:K} (ho:bD n c=some (off,k)) (hl:cs.length=c.size) (h1:∀v∈cs,v.oneCell'=true) :
    ∃u,(Instr.field t (.agg cs.toArray) n).run P w=.ok u w∧VC k u ((cs.drop off).take k.size):=by
  obtain ⟨fs,hu,hf⟩:=h.st
  obtain ⟨f,f1,f2,f3,f4⟩:=structField n hf ho
  have hle:=KY n ho
  obtain ⟨u,g1,g2⟩:=aat (w:=w) f3 f4 (cs:=cs) (off:=off) (by omega)
  have f1':fs[n]?=some f:=by rw [←Array.getElem?_toList]; exact f1
  refine ⟨u, ?_,g2 ?_⟩
  · unfold Instr.field
    simp only [apD,run_underlying hu,Result.andThen,f1',asAgg,apI]
    rw [show f.offset=off from by omega]
    exact g1
  · cases hs:uO k with
    | true=>exact .inr rfl
    | false=>
      left
      unfold part at g1
      simp only [apD,f3.isAgg w,Result.andThen,hs] at g1
      have hlt:off<cs.length:=by omega
      simp [hlt] at g1
      rw [←g1]
      exact Ns (h1 _ (apG hlt))
theorem BV {r:Nat} {R:Root} {p:List Stp} {v:Value} {dd:Dat} {cs:List Value} {wh:Option (Nat×Nat)} (hr:aR σ r R) (hg:aT p R.k R.x=some dd) (h1:nX p R.k R.x) (h2:∀t∈ah p R.k,ay t R.own=true)
    (h3:bF (hp w) p R.k (α.hdr r) (eB α R r)=some (cs,wh)) (h4:VC dd.1 v cs):bI cx σ α F w (.xy r p R.yO) v:=by
  intro R' hR' _ _ d' hd'
  rw [hr.1] at hR'
  simp only [apd] at hR'
  subst hR'
  rw [hg] at hd'
  simp only [apd] at hd'
  subst hd'
  exact ⟨h1,h2,cs,wh,h3,h4⟩
theorem Rel.YW (H:Rel cx σ α F a w) {w':World} (hos:w'.os=w.os) (hout:w'.output=w.output) (hsz:w.heap.size≤w'.heap.size) (hold:∀b,b<w.heap.size→hp w' b=hp w b) (ht:w'.tape=w.tape):Rel cx σ α F a w':=by
  have hs:∀r,Same σ α σ α r:=fun r=>⟨rfl,rfl,rfl,rfl⟩
  have hch:∀b,b<w.heap.size→hp w' b=hp w b:=hold
  have T:nE cx σ α F w σ α F w' (fun _=>[]) (fun _=>[]):=by
    refine ⟨rfl,⟨hos,ht,hout⟩,hsz,fun r R hr=>⟨R,hr, ?_⟩,fun r R' _ h=>absurd (hs r) h,fun r R' h1 h2=>by rw [h1] at h2; simp at h2,fun b hb hne=>absurd (hch b hb) hne, ?_,H.Ca,
      fun r R' _ h=>absurd (hs r) h,fun r R r' R' _ _ _ h=>absurd (hs r) h, ?_,fun r R R' h1 h2 _=>by rw [h1] at h2; simp only [apd] at h2; subst h2; exact ⟨rfl,rfl⟩⟩
    · cases hd:R.aX with
      | true=>exact .inl ⟨rfl,fun hk=>by unfold Root.aX at hd; rw [hk] at hd; simp at hd⟩
      | false=>exact .inr ⟨rfl,rfl,rfl,apu _,rfl,rfl,fun _=>rfl, .inr ⟨rfl,rfl,hs r⟩⟩
    · rintro b (⟨r,R,h1,h2,h3⟩ | h)
      · exact absurd ⟨R,h1,h2⟩ h3
      · exact .inl h
    · intro j pi b o n h1 h2 hne
      obtain ⟨R,hR,hk,hl,_⟩:=H.mQ j pi b o n h1 h2
      exact absurd (hch b ((H.roots _ R hR).mine b (by simp [blk,eB,hk,hl])).1) hne
  exact H.turn T (fun r R _ h=>absurd (hs r) h) (fun r R _ h=>absurd (hs r) h) (fun r R _ h=>absurd (hs r) h)
theorem Pm:∀(n:Nat) {c:K},(ah.Js n c).isSome=true→∃off k,bD n c=some (off,k):=by
  intro n
  induction n with
  | zero=>intro c h; cases c with
    | pair a b=>exact ⟨0,a,rfl⟩
    | _=>simp [ah.Js] at h
  | succ n ih=>intro c h; cases c with
    | pair a b=>obtain ⟨off,k,h1⟩:=ih (c:=b) h; exact ⟨a.size+off,k,by simp [bD,h1]⟩
    | _=>simp [ah.Js] at h
theorem Q4:∀(n:Nat) {c k:K},ah.Js n c=some k→∃off,bD n c=some (off,k):=by
  intro n
  induction n with
  | zero=>intro c k h; cases c with
    | pair a b=>simp only [ah.Js,apd] at h; subst h; exact ⟨0,rfl⟩
    | _=>simp [ah.Js] at h
  | succ n ih=>intro c k h; cases c with
    | pair a b=>obtain ⟨off,h1⟩:=ih (c:=b) h; exact ⟨a.size+off,by simp [bD,h1]⟩
    | _=>simp [ah.Js] at h
theorem Nl:∀(p:List Stp) {n:Nat} {k k1 k2:K} {off o2:Nat} {c:K},kL p k=some (off,k1)→k1=.st c→bD n c=some (o2,k2)→kL (p++[.gL n]) k=some (off+o2,k2):=by
  intro p
  induction p with
  | nil=>
    intro n k k1 k2 off o2 c h e h2
    simp only [kL,apd,apo] at h
    obtain ⟨rfl,rfl⟩:=h
    subst e
    simp [kL,h2]
  | cons s p ih=>
    intro n k k1 k2 off o2 c h e h2
    cases s with
    | idx i=>simp [kL] at h
    | gL m=>
      cases k with
      | st c'=>
        simp only [kL,List.cons_append] at h ⊢
        cases hq:bD m c' with
        | none=>rw [hq] at h; simp at h
        | some q=>
          rw [hq] at h
          simp only at h ⊢
          cases hr:kL p q.2 with
          | none=>rw [hr] at h; simp at h
          | some r=>
            rw [hr] at h
            simp only [apd,apo] at h
            obtain ⟨rfl,rfl⟩:=h
            rw [ih (off:=r.1) (k1:=r.2) (by rw [hr]) e h2]
            simp only [Nat.add_assoc]
      | _=>simp [kL] at h
theorem Xl:∀(p:List Stp) {k k1 k2:K} {off:Nat},Od p k=some k1→kL p k=some (off,k2)→k2=k1:=by
  intro p
  induction p with
  | nil=>
    intro k k1 k2 off h1 h2
    simp only [Od,apd] at h1
    simp only [kL,apd,apo] at h2
    rw [←h1,h2.2]
  | cons s p ih=>
    intro k k1 k2 off h1 h2
    cases s with
    | idx i=>simp [kL] at h2
    | gL m=>
      cases k with
      | st c=>
        simp only [Od,kL] at h1 h2
        cases hk:ah.Js m c with
        | none=>rw [hk] at h1; simp at h1
        | some k0=>
          obtain ⟨o,ho⟩:=Q4 m hk
          rw [hk] at h1
          rw [ho] at h2
          simp only at h1 h2
          cases hr:kL p k0 with
          | none=>rw [hr] at h2; simp at h2
          | some r=>
            rw [hr] at h2
            simp only [apd,apo] at h2
            rw [←h2.2]
            exact ih (off:=r.1) h1 (by rw [hr])
      | _=>simp [kL] at h2
theorem Lt {h:Heap}:∀(p:List Stp) {k k1:K} {x:El k} {cs:List Value} {d:Dat} {off:Nat},aT p k x=some d→kL p k=some (off,k1)→cs.length=k.size→
    k1=d.1∧off+k1.size≤cs.length∧bF h p k cs none=some ((cs.drop off).take k1.size,none)∧nX p k x∧ah p k=[]:=by
  intro p
  induction p with
  | nil=>
    intro k k1 x cs d off hg ho hl
    simp only [aT,apd] at hg
    simp only [kL,apd,apo] at ho
    obtain ⟨rfl,rfl⟩:=ho
    subst hg
    exact ⟨rfl,by omega,by simp [bF, ←hl],trivial,by simp [ah]⟩
  | cons s p ih=>
    intro k k1 x cs d off hg ho hl
    cases s with
    | idx i=>simp [kL] at ho
    | gL n=>
      cases k with
      | st c=>
        simp only [aT,kL] at hg ho
        cases hcg:aQ n c x with
        | none=>rw [hcg] at hg; simp at hg
        | some s=>
          rw [hcg] at hg
          simp only at hg
          cases hq:bD n c with
          | none=>rw [hq] at ho; simp at ho
          | some q=>
            have hk2:q.2=s.1:=Am n (c:=c) hcg hq
            rw [hq] at ho
            obtain ⟨q1,q2⟩:=q
            simp only at hk2 ho
            subst hk2
            cases hr:kL p s.1 with
            | none=>rw [hr] at ho; simp at ho
            | some r=>
              rw [hr] at ho
              simp only [apd,apo] at ho
              obtain ⟨rfl,rfl⟩:=ho
              have hle:=KY n hq
              have hl':cs.length=c.size:=hl
              obtain ⟨g1,g2,g3,g4,g5⟩:=ih (cs:=(cs.drop q1).take s.1.size) (off:=r.1) (k1:=r.2) hg (by rw [hr]) (Df (by omega))
              rw [Df (by omega)] at g2
              refine ⟨g1,by omega, ?_,by simp only [nX,hcg]; exact g4,by simp [ah,bU n hcg,g5]⟩
              simp only [bF]
              rw [hq]
              simp only [Option.map_none]
              rw [g3]
              simp only [List.drop_take,List.take_take,List.drop_drop,Nat.min_eq_left (show r.2.size≤s.1.size - r.1 by omega)]
      | _=>simp [aT] at hg
theorem JS (σ:St) (r:Nat) (A B:Root):az (az σ r A) r B=az σ r B:=by
  unfold az
  simp only [St.mk.injEq,true_and]
  funext n
  unfold upd
  cases Nat.beq n r <;> rfl
theorem NW {h:Heap}:∀(p:List Stp) {k:K} {x:El k} {t d z:Dat},p.all Stp.qW=true→aT p k x=some d→eF p k x t=some z→t.1.size=d.1.size→
    aT p z.1 z.2=some t∧nX p z.1 z.2∧ah p z.1=[]∧∀cs wh,bF h p z.1 cs wh=bF h p k cs wh:=by
  intro p
  induction p with
  | nil=>
    intro k x t d z _ hg hz hs
    simp only [eF,apd] at hz
    subst hz
    exact ⟨rfl,trivial,by simp [ah],fun cs wh=>rfl⟩
  | cons s p ih=>
    intro k x t d z hp hg hz hs
    cases s with
    | idx i=>simp [Stp.qW] at hp
    | gL n=>
      have hp':p.all Stp.qW=true:=by simpa [Stp.qW] using hp
      cases k with
      | st c=>
        simp only [aT,eF] at hg hz
        cases hcg:aQ n c x with
        | none=>rw [hcg] at hg; simp at hg
        | some s=>
          rw [hcg] at hg hz
          simp only at hg hz
          cases hs':eF p s.1 s.2 t with
          | none=>rw [hs'] at hz; simp at hz
          | some u=>
            rw [hs'] at hz
            simp only at hz
            cases hcp:cz n c x u with
            | none=>rw [hcp] at hz; simp at hz
            | some y=>
              rw [hcp] at hz
              simp only [apd] at hz
              subst hz
              obtain ⟨i1,i2,i3,i4⟩:=ih hp' hg hs' hs
              have e1:aQ n y.1 y.2=some u:=zl n hcp
              have hsz:u.1.size=s.1.size:=Iw p hg hs hs'
              refine ⟨by simp only [aT,e1]; exact i1,by simp only [nX,e1]; exact i2,by simp [ah,bU n e1,i3],fun cs wh=>?_⟩
              simp only [bF]
              cases ho:bD n c with
              | none=>
                exfalso
                obtain ⟨off,h1⟩:=Q4 n (bU n hcg)
                rw [ho] at h1; simp at h1
              | some q=>
                have hk2:q.2=s.1:=Am n (c:=c) hcg ho
                obtain ⟨q1,q2⟩:=q
                simp only at hk2
                subst hk2
                rw [Ao n ho hcp]
                simp only
                rw [hsz]
                exact i4 _ _
      | _=>simp [aT] at hg
theorem UF {R:Root} {r:Nat} {p:List Stp} {d:Dat} {tk:iL} {q:Root×Dat} (h:Qd R r p d tk=some q) :
    ∃zg own',eF p R.k R.x (uM d)=some zg∧q=(eP R d zg own',(uM d))∧(∀t∈zg.1.tys,ay t own'=ay t R.own)∧p.all Stp.qW=true∧(p≠[]∨∃t,R.kind=.var t)∧∀n,(r,n)∉tk.tags:=by
  unfold Qd at h
  cases hc:(!d.1.flat && p.all Stp.qW && !R.keep && (!p.isEmpty || R.isVar) && tk.tags.all (fun t=>!Nat.beq t.1 r)) with
  | false=>rw [hc] at h; simp at h
  | true=>
    rw [hc] at h
    simp only [cond_true] at h
    simp only [apj] at hc
    obtain ⟨⟨⟨⟨_,c1⟩,_⟩,c2⟩,c3⟩:=hc
    unfold IX at h
    cases hz:eF p R.k R.x (uM d) with
    | none=>rw [hz] at h; simp at h
    | some zg=>
      rw [hz] at h
      simp only at h
      cases hl:tk.own.filter (fun t=>!ay t R.own && ay t d.1.tys && !ay t zg.1.tys) with
      | nil=>rw [hl] at h; simp at h
      | cons a l=>
        rw [hl] at h
        simp only [apd] at h
        refine ⟨zg,(a :: l)++R.own,rfl,h.symm,fun t ht=>?_,c1, ?_,fun n hn=>?_⟩
        · cases hm:ay t R.own with
          | true=>rw [aL] at hm ⊢; exact apf _ hm
          | false=>
            rw [aV] at hm ⊢
            intro h1
            rcases apm.1 h1 with h1 | h1
            · rw [←hl] at h1
              have:=(apv.1 h1).2
              simp only [apj,Bool.not_eq_true',aV] at this
              exact this.2 ht
            · exact hm h1
        · rcases Bool.or_eq_true .. |>.mp c2 with h1 | h1
          · left; intro e; rw [e] at h1; simp at h1
          · right
            unfold Root.isVar at h1
            cases hk:R.kind with
            | var t=>exact ⟨t,rfl⟩
            | anon=>rw [hk] at h1; simp at h1
            | par=>rw [hk] at h1; simp at h1
            | dead=>rw [hk] at h1; simp at h1
        · have:=apt.1 c3 _ hn
          simp at this
theorem MO {t:TypeId} {kk:K} {x:El kk} {XV:List TypeId} {qZ:List Tag} {vF:List Wr} {VT:Bool} {cst:List Value} {fot:List Nat} {v:Value} {r:Nat} {R:Root} (ht:fM P T t kk)
    (H:Rel cx σ α F a w) (hr:aR σ r R) (hv:bq σ R) {p:List Stp} {dd:Dat} (hg:aT p R.k R.x=some dd) (fU:nX p R.k R.x) (hown:∀t∈ah p R.k,ay t R.own=true)
    (k2:bg σ (aU XV kk) qZ=true) (k3:VC kk v cst) (k1:Held cx σ α F w kk x XV qZ cst fot)
    {cs1:List Value} {b o:Nat} (hn:bF (hp w) p R.k (α.hdr r) (eB α R r)=some (cs1,some (b,o))) {A:Type} {z:A} {k:List Wr→Prog A} {σ0:St} (h:(storeAt kk r p ⟨kk,x,XV,qZ,vF,VT⟩ R dd k).ends σ0 z) :
    ∃w',(Instr.storeAt t (.pointer (some ⟨b,o,none⟩)) v).run P w=.ok () w'∧∃α' F',∃R',Rel cx (az σ r R') α' F' a w'∧(k (vF++[.r r (some R')])).ends σ0 z:=by
  unfold storeAt at h
  rcases aB h with ⟨hc3,h⟩ | ⟨_,h⟩
  · simp only [apj] at hc3
    simp only [iL.bad] at hc3 h
    cases hz:eF p R.k R.x ⟨kk,x⟩ with
    | none=>rw [hz] at h; exact h.elim
    | some z=>
      rw [hz] at h
      simp only at h
      rcases aB h with ⟨_,h⟩ | ⟨_,h⟩
      · exact h.elim
      · obtain ⟨w',r1,α',F',r2⟩:=XO (P:=P) (z:=z) ht H hr hv hg hz fU hown k1 k2 k3
          (by
            rcases Bool.or_eq_true .. |>.mp hc3.1.1 with h | h
            · exact .inl (K.eq_of_beq h)
            · exact .inr (K.eq_of_beq (apj .. |>.mp h).1))
          (by
            rcases Bool.or_eq_true .. |>.mp hc3.1.2 with h | h
            · exact .inl h
            · exact .inr h)
          (fun t ht=>by
            have:=apt.1 hc3.2 t ht
            simpa [aV] using this) (R.keep || VT) hn
        exact ⟨w',r1,α',F',_,r2,h⟩
  · exact h.elim
theorem TW (hT:fu P T) (H:Rel cx σ α F a w) (hd:o.dst=none) {t:TypeId} {x y:Operand} (ho:o.op=.store t x y) {u v:AV} (h1:bI cx σ α F w u (a.eval x)) (h2:tF σ u) (h3:bI cx σ α F w v (a.eval y)) (h4:tF σ v)
    (h:(UN T t u v fun ws=>(.ret ws:Prog (List Wr))).ends σ ws):sM P cx o a w (aC ws σ):=by
  unfold UN at h
  cases hty:T.ty t with
  | none=>rw [hty] at h; exact h.elim
  | some kk=>
   rw [hty] at h
   cases u with
   | ptr r p n=>
    simp only at h
    have ht:=hT.ty t kk hty
    obtain ⟨tk,htk,h⟩:=tX H h3 h4 h
    rcases aB h with ⟨hc1,h⟩ | ⟨_,h⟩
    · simp only [apj] at hc1
      obtain ⟨R,hr,hv,h⟩:=cO h
      rcases aB h with ⟨hc2,h⟩ | ⟨_,h⟩
      · simp only [apj] at hc2
        cases hg:aT p R.k R.x with
        | none=>rw [hg] at h; exact h.elim
        | some dd=>
          rw [hg] at h
          simp only at h
          have hkk:tk.k=kk:=K.eq_of_beq hc1.1
          have Xe:=acf hc1.2
          have hown:=kI hc2.1.2
          obtain ⟨fU,cs,b,q,hn,e⟩:=h1.2 R hr.1 hv hc2.1.1 hown (by rw [hg]; rfl)
          have hap:=D7.1 hc2.2
          obtain ⟨dL,F1,cst,fot,lw,lh,H1,T1,k1,k2,k3,k4,k5,k6⟩:=take1 H htk
          have hS:=k6 r Xe
          have hr1:=(hS.live R).2 hr
          have hv1:bq (aC tk.ws σ) R:=⟨hv.1,by rw [fA (fun t ht=>(k6 t.1 (hap t ht)).root)]; exact hv.2⟩
          have hn1:bF (hp w) p R.k (dL.hdr r) (eB dL R r)=some (cs,some (b,q)):=by rw [hS.hdr,hS.wh]; exact hn
          obtain ⟨tkk,tkx,XV,qZ,vF,VT⟩:=tk
          simp only at hkk
          subst hkk
          simp only [iL.bad] at k2 k3 h
          cases hrg:Qd R r p dd ⟨tkk,tkx,XV,qZ,vF,VT⟩ with
          | none=>
            rw [hrg] at h
            obtain ⟨w',r1,α',F',r2⟩:=MO (P:=P) ht H1 hr1 hv1 hg fU hown k3 k1 k2 hn1 h
            obtain ⟨R',r2,r3⟩:=r2
            rw [aD r3]
            refine ⟨undef,w',α',F', .inr ⟨?_,rfl⟩, ?_⟩
            · simp only [execOp,ho,e,apD,r1,apw,apI]
            · rw [hd,dA]
              exact r2
          | some qq=>
            rw [hrg] at h
            simp only at h
            obtain ⟨hck,h⟩:=gM h
            obtain ⟨zg,own',g1,g2,g3,g4,g5,g6⟩:=UF hrg
            subst g2
            simp only at hck h
            have hnt:=(H1.dD r R hr1.1).2.2
            obtain ⟨cs1,nY,gq,rest,hn',H2,T2,_,_,hpm⟩:=ahm (own':=own') H1 hr1 hv1 hg g1 fU hown g5 g3
            rw [hn1] at hn'
            simp only [apd,apo] at hn'
            obtain ⟨rfl,rfl⟩:=hn'
            have hr2:aR (az (aC vF σ) r (eP R dd zg own')) r (eP R dd zg own'):=⟨aK ..,hr.2⟩
            have hv2:bq (az (aC vF σ) r (eP R dd zg own')) (eP R dd zg own'):=⟨hv.1,by
              show bg _ _ R.tags=true
              rw [nG hnt,fA (fun t ht=>(k6 t.1 (hap t ht)).root)]
              exact hck⟩
            have k1':=k2.turn H1 T2 (fun b hb=>⟨rfl,apf _ (k2.sub b hb)⟩)
            have k2':bg (az (aC vF σ) r (eP R dd zg own')) (aU XV tkk) qZ=true:=by rw [nG g6]; exact k3
            obtain ⟨f1,f2,f3,f4⟩:=NW (h:=hp w) p g4 hg g1 (vV dd.1)
            have hsd:(aJ dL r (dL.loc r) (dL.hdr r) rest).hdr r=dL.hdr r:=by simp [aJ,upd_same]
            have amy:eB (aJ dL r (dL.loc r) (dL.hdr r) rest) (eP R dd zg own') r=eB dL R r:=by rw [jN,vZ (show (eP R dd zg own').kind=R.kind from rfl), ←uW]
            have hn2:bF (hp w) p (eP R dd zg own').k ((aJ dL r (dL.loc r) (dL.hdr r) rest).hdr r) (eB (aJ dL r (dL.loc r) (dL.hdr r) rest) (eP R dd zg own') r)=some (cs,some (b,q)):=by
              rw [hsd,amy]
              exact (f4 _ _).trans hn1
            obtain ⟨w',r1,α',F',r2⟩:=MO (P:=P) ht H2 hr2 hv2 f1 f2 (fun t ht=>by have ht':t∈ah p zg.1:=ht; rw [f3] at ht'; simp at ht') k2' k1 k1' hn2 h
            obtain ⟨R',r2,r3⟩:=r2
            rw [aD r3]
            refine ⟨undef,w',α',F', .inr ⟨?_,rfl⟩, ?_⟩
            · simp only [execOp,ho,e,apD,r1,apw,apI]
            · rw [hd,dA]
              rw [JS] at r2
              exact r2
      · exact h.elim
    · exact h.elim
   | _=>exact h.elim
theorem YH {A:Type} {z:A} {x:AV} {kk:K} {yes:Nat→Nat→Prog A} {no:Prog A} (h:(abm x kk yes no).ends σ z):(∃r g R,x=.ref r g∧aR σ r R∧bq σ R∧R.g=g∧R.k=kk∧(yes r g).ends σ z)∨no.ends σ z:=by
  cases x with
  | ref r g=>
    simp only [abm,Prog.ends] at h
    cases hr:σ.roots r with
    | none=>rw [hr] at h; exact .inr h
    | some R=>
      rw [hr] at h
      simp only at h
      rcases aB h with ⟨_,h⟩ | ⟨_,h⟩
      · obtain ⟨R',hr',hv,h⟩:=cO h
        rcases aB h with ⟨hc,h⟩ | ⟨_,h⟩
        · simp only [apj] at hc
          exact .inl ⟨r,g,R',rfl,hr',hv,aph hc.1,K.eq_of_beq hc.2,h⟩
        · exact h.elim
      · exact .inr h
  | _=>exact .inr h
theorem abr (H:Rel cx σ α F a w) (hd:o.dst=some d) (hdn:d<cx.nt) {t:TypeId} {x:Operand} (ho:o.op=.box t x)
    (h:(match T.ty t with
      | some kk=>dN x fun a=>abm a kk (fun r g=>.ret [Wr.s d (.one (.K5 r g kk []))]) <| CQ kk a fun tk=>bif tk.k.beq kk && !ay t tk.bad then
          jY (bE d 0) (.ret (tk.ws++[Wr.r (bE d 0) (some (aP tk.k tk.x tk.own tk.jV (.var t) tk.keep)),Wr.s d (.one (.ptr (bE d 0) [] 0))]))
        else (.fail:Prog (List Wr))
      | none=>.fail).ends σ ws):sM P cx o a w (aC ws σ):=by
  split at h
  · rename_i kk hty
    obtain ⟨u,h1,h2,h⟩:=bR H h
    rcases YH h with ⟨r,g,R,eu,hr,hv,eg,ek,h5⟩ | h
    · subst eu eg ek
      obtain ⟨hka,Jw⟩:=h1 R hr rfl
      have hb0:∀b,b<w.heap.size→hp (w.alloc (.cells (a.eval x).cells t)) b=hp w b:=fun b hb=>qc w _ hb
      have H1:Rel cx σ α F a (w.alloc (.cells (a.eval x).cells t)):=H.YW rfl rfl (by show w.heap.size≤(w.heap.push _).size; simp) hb0 rfl
      have hnew:=sj w (.cells (a.eval x).cells t)
      rw [aD h5]
      refine iW (v:=.pointer (some ⟨w.heap.size,0,none⟩)) (x:=.one (.K5 r R.g R.k [])) H1 hd hdn (by simp only [execOp,ho,apD,OB,apw,apI]) ⟨a.eval x,w.heap.size,0,R.k,rfl,⟨?_,fun hF=>?_,fun q Q hq hbq=>?_⟩,fun i hi=>?_,rfl,h1⟩ h2
      · show w.heap.size<(w.heap.push _).size; simp
      · have:=(H.fl _ hF).1; omega
      · have:=((H.roots q Q hq).mine _ hbq).1; omega
      · unfold cellAt
        rw [hnew]
        simp
    obtain ⟨tk,htk,h⟩:=tX H h1 h2 h
    rcases aB h with ⟨_,h⟩ | ⟨_,h⟩
    · obtain ⟨g1,g2⟩:=gZ h
      rw [aD g2]
      obtain ⟨dL,F1,cst,fot,lw,lh,H1,T1,k1,k2,k3,k4,k5,k6⟩:=take1 H htk
      have hnr:bE d 0∉tk.ws.flatMap Wr.uF:=by
        intro hm
        cases htk with
        | held hws cs hv h hc=>rw [hws] at hm; simp at hm
        | ref r R hr hv e hk hd=>rw [e] at hm; simp only [List.flatMap_cons,List.flatMap_nil,apH,Wr.uF,apx] at hm; rw [hm,hr.1] at g1; simp at g1
        | cut r R cs hr hv hk e hd hl Xf how=>rw [e.2.2.1] at hm; simp only [List.flatMap_cons,List.flatMap_nil,apH,Wr.uF,apx] at hm; rw [hm,hr.1] at g1; simp at g1
        | gap r R p dd z hr hv hg hz fU hown hpv e hn=>rw [e] at hm; simp only [List.flatMap_cons,List.flatMap_nil,apH,Wr.uF,apx] at hm; rw [hm,hr.1] at g1; simp at g1
      have hn1:(aC tk.ws σ).roots (bE d 0)=none:=by rw [(k6 _ hnr).root]; exact g1
      obtain ⟨r1,α',F',r2,r3⟩:=Vg (P:=P) (t:=t) H1 hn1 (gF d 0) k2 k3 k1 tk.keep
      rw [dA]
      exact iW (x:=.one (.ptr (bE d 0) [] 0)) r2 hd hdn (by simp only [execOp,ho,apD,r1,apw,apI]) r3 ⟨_,aK .., .inr (apM _)⟩
    · exact h.elim
  · exact h.elim
theorem RS {B:Type} {z:B} (hT:fu P T) (H:Rel cx σ α F a w) {t:TypeId} {x:Operand} {v:AV} {xy:Bool} (ho:o.op=.load t x) (h1:bI cx σ α F w v (a.eval x)) (h2:tF σ v) {k:AV→Prog B}
    (h:(FO T xy t v k).ends σ z):∃u v',(execOp a.eval o).run P w=.ok (.value v') w∧bI cx σ α F w u v'∧tF σ u∧(k u).ends σ z:=by
  unfold FO at h
  split at h
  · exact h.elim
  · rename_i kk hty
    have ht:=hT.ty t kk hty
    obtain ⟨s1,s2,s3⟩:=ht.shape
    split at h
    · rename_i r g k0 p
      obtain ⟨u,b,off,k1,e,hq,hC,ho1,hR⟩:=h1
      obtain ⟨R,hr,hv,h⟩:=cO h
      rcases aB h with ⟨hc,h⟩ | ⟨_,h⟩
      · simp only [apj] at hc
        cases hg:aT p R.k R.x with
        | none=>rw [hg] at h; exact h.elim
        | some dd=>
          rw [hg] at h
          simp only at h
          obtain ⟨dk,dx⟩:=dd
          rcases beq_true h with ⟨ek,h5⟩ | ⟨_,h⟩
          · simp only at ek
            subst ek
            have hk0:=K.eq_of_beq hc.1.2
            subst hk0
            obtain ⟨hka,Jw⟩:=hR R hr (aph hc.1.1)
            rw [Jw.cells] at hC
            have hwn:eB α R r=none:=by unfold eB; rw [hka]
            obtain ⟨g1,g2,g3,g4,g5⟩:=Lt (h:=hp w) p hg ho1 (H.roots r R hr).len
            simp only at g1
            subst g1
            have hown:∀t∈ah p R.k,ay t R.own=true:=fun t ht=>by rw [g5] at ht; simp at ht
            have hn:bF (hp w) p R.k (α.hdr r) (eB α R r)=some (((α.hdr r).drop off).take k1.size,none):=by rw [hwn]; exact g3
            obtain ⟨gq,hO,hf⟩:=vR H hr hv hg g4 hown hn
            have hV:=pE H hr hO hf
            have hcs:Cells (hp w) b off (((α.hdr r).drop off).take k1.size):=by
              intro i hi
              have hi':i<k1.size:=by rw [Df g2] at hi; exact hi
              have:=hC (off+i) (by omega)
              rw [Nat.zero_add] at this
              rw [this,List.getElem?_take_of_lt hi',List.getElem?_drop]
            obtain ⟨u',hu⟩:=VC.mk s1 s2 s3 hV
            have hrun:=tV (P:=P) ht hcs (mD hV) hu
            have hrun':(execOp a.eval o).run P w=.ok (.value u') w:=by simp only [execOp,ho,e,apD,hrun,apw,apI]
            rcases aB h5 with ⟨hf,h6⟩ | ⟨_,h6⟩
            · exact ⟨.val k1 dx [],u',hrun',fun _=>⟨_,hu,iA hf hV⟩,fun t ht=>by simp at ht,h6⟩
            · exact ⟨.xy r p R.yO,u',hrun',BV (cx:=cx) (F:=F) hr hg g4 hown hn hu,⟨R,hr.1, .inr (apu _)⟩,h6⟩
          · exact h.elim
      · exact h.elim
    rcases Af H h1 h2 h with ⟨r,R,p,dd,cs,b,q,hr,hv,hg,fU,hown,hn,e,h⟩ | ⟨bt,dd,Tg,b,q,cs,hw,e,hcs,hV,hok,hb,h⟩
    · obtain ⟨hC,⟨gq,hO,hf⟩,_⟩:=qB H hr hv hg fU hown hn
      obtain ⟨dk,dx⟩:=dd
      rcases beq_true h with ⟨ek,h5⟩ | ⟨_,h⟩
      · simp only at ek
        subst ek
        clear h
        have h:=h5
        clear h5
        have hV:=pE H hr hO hf
        obtain ⟨u,hu⟩:=VC.mk s1 s2 s3 hV
        have hrun:=tV (P:=P) ht hC (mD hV) hu
        have hrun':(execOp a.eval o).run P w=.ok (.value u) w:=by simp only [execOp,ho,e,apD,hrun,apw,apI]
        rcases aB h with ⟨_,h⟩ | ⟨_,h⟩
        · exact ⟨.xy r p R.yO,u,hrun',BV (cx:=cx) (F:=F) hr hg fU hown hn hu,⟨R,hr.1, .inr (apu _)⟩,h⟩
        · exact ⟨.val dk dx _,u,hrun',fun _=>⟨cs,hu,hV⟩,Oo H hr _,h⟩
      · exact h.elim
    · obtain ⟨dk,dx⟩:=dd
      rcases beq_true h with ⟨ek,h5⟩ | ⟨_,h⟩
      · simp only at ek
        subst ek
        clear h
        have h:=h5
        clear h5
        obtain ⟨u,hu⟩:=VC.mk s1 s2 s3 hV
        have hrun:=tV (P:=P) ht hcs (mD hV) hu
        have hrun':(execOp a.eval o).run P w=.ok (.value u) w:=by simp only [execOp,ho,e,apD,hrun,apw,apI]
        refine ⟨.val dk dx _,u,hrun',fun _=>⟨cs,hu, ?_⟩, ?_,h⟩
        · cases hf:dk.flat with
          | true=>exact iA hf hV
          | false=>exact hV
        · cases hf:dk.flat with
          | true=>intro t ht; simp at ht
          | false=>exact hw
      · exact h.elim
theorem YK (hT:fu P T) (H:Rel cx σ α F a w) (hd:o.dst=some d) (hdn:d<cx.nt) {t:TypeId} {x:Operand} {xy:Bool} (ho:o.op=.load t x)
    (h:(dN x fun v=>FO T xy t v fun u=>(.ret [Wr.s d (.one u)]:Prog (List Wr))).ends σ ws):sM P cx o a w (aC ws σ):=by
  obtain ⟨v,h1,h2,h⟩:=bR H h
  obtain ⟨u,v',g1,g2,g3,h⟩:=RS hT H ho h1 h2 h
  rw [aD h]
  exact bM H hd hdn g1 g2 g3
theorem Ra (hT:fu P T) (H:Rel cx σ α F a w) (hd:o.dst=some d) (hdn:d<cx.nt) {t:TypeId} {x:Operand} (ho:o.op=.load t x)
    (h:(dN x fun v=>FO T true t v fun u=>match T.ty t with
      | some kk=>CQ kk u fun tk=>jY (bE d 0) (.ret (tk.ws++[Wr.r (bE d 0) (some (aP tk.k tk.x tk.own tk.jV .anon tk.keep)),Wr.s d (.one (.ref (bE d 0) 0))]))
      | none=>(.fail:Prog (List Wr))).ends σ ws):sM P cx o a w (aC ws σ):=by
  obtain ⟨v,h1,h2,h⟩:=bR H h
  obtain ⟨u,v',hrun,g4,g5,h⟩:=RS hT H ho h1 h2 h
  split at h
  · rename_i kk hty
    obtain ⟨tk,htk,h⟩:=tX H g4 g5 h
    obtain ⟨g1,g2⟩:=gZ h
    rw [aD g2]
    obtain ⟨dL,F1,cst,fot,lw,lh,H1,T1,k1,k2,k3,k4,k5,k6⟩:=take1 H htk
    have hnr:bE d 0∉tk.ws.flatMap Wr.uF:=by
      intro hm
      cases htk with
      | held hws cs hv h hc=>rw [hws] at hm; simp at hm
      | ref r R hr hv e hk hd=>rw [e] at hm; simp only [List.flatMap_cons,List.flatMap_nil,apH,Wr.uF,apx] at hm; rw [hm,hr.1] at g1; simp at g1
      | cut r R cs hr hv hk e hd hl Xf how=>rw [e.2.2.1] at hm; simp only [List.flatMap_cons,List.flatMap_nil,apH,Wr.uF,apx] at hm; rw [hm,hr.1] at g1; simp at g1
      | gap r R p dd z hr hv hg hz fU hown hpv e hn=>rw [e] at hm; simp only [List.flatMap_cons,List.flatMap_nil,apH,Wr.uF,apx] at hm; rw [hm,hr.1] at g1; simp at g1
    have hn1:(aC tk.ws σ).roots (bE d 0)=none:=by rw [(k6 _ hnr).root]; exact g1
    obtain ⟨α',r2,r3⟩:=BR (F':=F1.filter fun b=>!ay b fot) H1 hn1 (gF d 0) k2.sub k2.nd (J6 k2.wt)
      (fun b hb=>by
        obtain ⟨q1,q2⟩:=apv.1 hb
        simp only [Bool.not_eq_true',aV] at q2
        exact ⟨q1,q2⟩) (H1.Ca.filter _) k2.len
      (fun hcl=>by
        cases hb:tk.bad with
        | nil=>exact gP hb (k2.ow k3)
        | cons t0 l=>
          have et:tk.jV=tk.tags:=by
            unfold iL.jV
            rw [hb]
          rw [et] at hcl ⊢
          exact bC (fun _ _=>rfl) (fun b h=>.inl h) (fun _ _=>rfl) (k2.ow hcl)) k1 tk.keep
    rw [dA]
    exact iW (x:=.one (.ref (bE d 0) 0)) r2 hd hdn hrun r3 ⟨_,aK .., .inr (apM _)⟩
  · exact h.elim
end
end
end Go.Proofs.YtdknpknohipffaaGreat.Ow
