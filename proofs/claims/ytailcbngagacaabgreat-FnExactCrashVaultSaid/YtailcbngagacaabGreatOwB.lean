/- A verified reading of translated code: values in place of memory; part B of 6, spaces and remarks taken out. No condition. Own work of this seat. -/
import Derived.Test.YtailcbngagacaabGreatOwA
/- The framework, part 9: slots, one root's turn, what is handed away. Own work of this seat. -/
set_option linter.unusedSectionVars false
set_option linter.unusedVariables false
set_option linter.unusedSimpArgs false
namespace Go.Proofs.YtailcbngagacaabGreat.Ow
open Go
variable [Fr]
def lY (σ:St) (s:Nat→y5):St:=⟨s,σ.roots⟩
theorem sZ (σ:St) (s:Nat→y5) (tys:List TypeId):∀(T:List Tag),bg (lY σ s) tys T=bg σ tys T
 | []=>rfl
 | (r,n) :: T=>by simp only [bg,sZ σ s tys T]; rfl
section
variable {cx:Cx} {σ:St} {α:dK} {F:List Nat} {a:Act} {w:World}
theorem Mh (s:Nat→y5):iO cx (lY σ s) α F w=iO cx σ α F w:=rfl
theorem Kq (s:Nat→y5) {bt:TypeId} {k:K} {x:El k} {T:List Tag} {v:Value}:Ko cx (lY σ s) α F w bt k x T v↔Ko cx σ α F w bt k x T v:=by
 unfold Ko
 rw [sZ,Mh]
 exact Iff.rfl
theorem Ew (s:Nat→y5):∀{cs:List (TypeId×Dat×List Tag)} {vs:List Value},kr cx (lY σ s) α F w cs vs↔kr cx σ α F w cs vs
 | [],[]=>Iff.rfl
 | c :: cs,v :: vs=>by simp only [kr,Kq s,Ew s]
 | [],_ :: _=>Iff.rfl
 | _ :: _,[]=>Iff.rfl
theorem tT (s:Nat→y5) {R:Root}:bq (lY σ s) R↔bq σ R:=by unfold bq; rw [sZ]
theorem Dt (s:Nat→y5) {x:AV} {v:Value}:bH cx (lY σ s) α F w x v↔bH cx σ α F w x v:=by
 cases x with
 | undef=>exact Iff.rfl
 | val k x T=>simp only [bH,sZ,Mh]
 | iM=>exact Iff.rfl
 | ref r g=>exact Iff.rfl
 | Jl r g k p=>exact Iff.rfl
 | yj r p n=>simp only [bH,tT]; exact Iff.rfl
 | ptr r p n=>simp only [bH,tT]; exact Iff.rfl
 | iZ bt k x T=>exact Kq s
 | tJ=>exact Iff.rfl
 | Bt _=>exact Iff.rfl
 | part _ _ _ _ _=>exact Iff.rfl
 | yU _ _ _ _=>simp only [bH,tT]; exact Iff.rfl
 | app _ _ _ _=>simp only [bH,tT]; exact Iff.rfl
 | fn f cs=>simp only [bH,Ew s]
theorem EN (s:Nat→y5):∀{l:List AV} {vs:List Value},fD cx (lY σ s) α F w l vs↔fD cx σ α F w l vs
 | [],[]=>Iff.rfl
 | c :: cs,v :: vs=>by simp only [fD,Dt s,EN s]
 | [],_ :: _=>Iff.rfl
 | _ :: _,[]=>Iff.rfl
theorem Oi (s:Nat→y5) {x:y5} {v:Value}:jM cx (lY σ s) α F w x v↔jM cx σ α F w x v:=by
 cases x with
 | one a=>exact Dt s
 | Ip l=>simp only [jM,EN s]
theorem QL (s:Nat→y5) {x:y5}:Ah (lY σ s) x↔Ah σ x:=by cases x <;> exact Iff.rfl
theorem Rel.put (H:Rel cx σ α F a w) {d:Nat} {x:y5} {v:Value} (hd:d<cx.nt) (hw:Ah σ x) (hx:jM cx σ α F w x v) :
  Rel cx (lY σ (upd σ.slots d x)) α F (a.put (some d) v) w where
 defs:=H.defs
 sz:=by simpa [Act.put] using H.sz
 mg:=H.mg
 H6:=H.H6
 slots:=by
  intro s
  rw [Oi]
  show jM cx σ α F w (upd σ.slots d x s) _
  by_cases e:s=d
  ·subst e
   rw [upd_same]
   have:(a.put (some s) v).tmps.getD s undef=v:=by
    have:=H.sz
    simp [Act.put,Array.getElem?_setIfInBounds_self_of_lt (show s<a.tmps.size by omega)]
   rw [this]
   exact hx
  ·rw [upd_ne _ _ e]
   have:(a.put (some d) v).tmps.getD s undef=a.tmps.getD s undef:=by
    simp [Act.put,Array.getElem?_setIfInBounds_ne (Ne.symm e)]
   rw [this]
   exact H.slots s
 AR:=by
  intro s
  rw [QL]
  show Ah σ (upd σ.slots d x s)
  by_cases e:s=d
  ·subst e; rw [upd_same]; exact hw
  ·rw [upd_ne _ _ e]; exact H.AR s
 roots:=by
  intro r R hr
  have K:=H.roots r R hr
  exact ⟨fun hv=>K.ow ((tT _).1 hv),K.len,K.mem,K.nd,K.mine⟩
 dz:=H.dz
 KL:=H.KL
 fl:=H.fl
 CG:=H.CG
 jo:=H.jo
 frame:=H.frame
 xA:=H.xA
 qG:=H.qG
 zB:=fun j p ts v h=>let ⟨h0,R,h1,h2⟩:=H.zB j p ts v h; ⟨h0,R,h1,fun ht=>(Dt _).2 (h2 ht)⟩
 zC:=H.zC
def dw (w:World) (n:Nat):World:={ w with drawn:=n }
theorem LB (n:Nat):∀{cs:List (TypeId×Dat×List Tag)} {vs:List Value},kr cx σ α F w cs vs→kr cx σ α F (dw w n) cs vs
 | [],[],_=>trivial
 | _ :: _,_ :: _,h=>⟨h.1,LB n h.2⟩
 | [],_ :: _,h=>h.elim
 | _ :: _,[],h=>h.elim
theorem MM (n:Nat) {x:AV} {v:Value} (h:bH cx σ α F w x v):bH cx σ α F (dw w n) x v:=by
 cases x with
 | fn f cs=>obtain ⟨vs,h1,h2⟩:=h; exact ⟨vs,h1,LB n h2⟩
 | undef=>exact h
 | val k x T=>exact h
 | iM=>exact h
 | ref r g=>exact h
 | Jl r g k p=>exact h
 | yj r p n=>exact h
 | ptr r p n=>exact h
 | iZ bt k x T=>exact h
 | tJ=>exact h
 | Bt _=>exact h
 | part _ _ _ _ _=>exact h
 | yU _ _ _ _=>exact h
 | app _ _ _ _=>exact h
theorem Rel.drawn (H:Rel cx σ α F a w) (n:Nat):Rel cx σ α F a (dw w n) where
 defs:=H.defs
 sz:=H.sz
 mg:=H.mg
 H6:=H.H6
 slots:=fun s=>by
  have h:=H.slots s
  generalize σ.slots s=x at h
  cases x with
  | one a=>exact MM n h
  | Ip l=>
   obtain ⟨vs,h1,h2⟩:=h
   refine ⟨vs,h1, ?_⟩
   clear h1
   induction l generalizing vs with
   | nil=>cases vs with
    | nil=>trivial
    | cons v vs=>exact h2.elim
   | cons b l ih=>cases vs with
    | nil=>exact h2.elim
    | cons v vs=>exact ⟨MM n h2.1,ih vs h2.2⟩
 AR:=H.AR
 roots:=fun r R hr=>let K:=H.roots r R hr; ⟨K.ow,K.len,K.mem,K.nd,K.mine⟩
 dz:=H.dz
 KL:=H.KL
 fl:=H.fl
 CG:=H.CG
 jo:=H.jo
 frame:=H.frame
 xA:=H.xA
 qG:=H.qG
 zB:=fun j p ts v h=>let ⟨h0,R,h1,h2⟩:=H.zB j p ts v h; ⟨h0,R,h1,fun ht=>MM n (h2 ht)⟩
 zC:=H.zC
def uI (r:Nat) (l:List Nat):Nat→List Nat:=fun q=>if q=r then l else []
theorem wQ (r:Nat) (l:List Nat):uI r l r=l:=if_pos rfl
theorem qQ {r q:Nat} (l:List Nat) (h:q≠r):uI r l q=[]:=if_neg h
variable {r:Nat} {R R':Root} {hdr':List Value} {dI F':List Nat} {w':World} {lw lh:List Nat}
def Qz (cx:Cx) (R':Root) (lw:List Nat) (w:World) (b:Nat):Prop:=R'.aX=true∨(∃e∈lw,rV (hp w) b=some e)∨(lW cx b∧lw≠[])
structure BL (cx:Cx) (σ:St) (α:dK) (F:List Nat) (w:World) (r:Nat) (R R':Root) (dI F':List Nat) (w':World) (lw lh:List Nat):Prop where
 step:(R'.aX=true∧R.kind≠.par)∨(R'.w=lw++R.w∧R'.h=lh++R.h∧R.g≤R'.g∧R'.kind=R.kind∧(R.kind=.par→R'.k.size=R.k.size)∧(lw≠[]∨lh≠[]))
 tags:fA σ R'.tags∧∀n,(r,n)∉R'.tags
 os:w'.os=w.os∧w'.tape=w.tape∧w'.output=w.output
 size:w.heap.size≤w'.heap.size
 Qn:∀b,b<w.heap.size→hp w' b≠hp w b→b∈F∨(b∈blk α R r∧Qz cx R' lw w b)
 new:R'.aX=false→∀b∈iw R' (α.loc r) dI,b∈blk α R r∨b∈F∨(w.heap.size≤b∧b<w'.heap.size)
 newF:∀b∈F',b∈F∨(w.heap.size≤b∧b<w'.heap.size)∨(b∈blk α R r∧Qz cx R' lw w b)
 CG:F'.Nodup
 jo:R'.aX=false→∀b∈iw R' (α.loc r) dI,b∉F'
 base:∀j pi b o n,cx.par j=some pi→pi.base=some (b,o,n)→r=au j→hp w' b≠hp w b→gH (hp cx.w0) (hp w') b o n
 ev:R'.aX=false→R'.ew=R.ew∧R'.eh=R.eh
theorem jq {q:Nat} {Q:Root} (h:aP (az σ r R') q Q):(q=r∧Q=R'∧R'.aX=false)∨(q≠r∧aP σ q Q):=by
 by_cases e:q=r
 ·subst e
  obtain ⟨h1,h2⟩:=eP h
  exact .inl ⟨rfl,h1,h2⟩
 ·exact .inr ⟨e,(J4 e).1 h⟩
theorem BL.turn (H:Rel cx σ α F a w) (hr:aP σ r R) (T:BL cx σ α F w r R R' dI F' w' lw lh) :
  mW cx σ α F w (az σ r R') (aH α r (α.loc r) hdr' dI) F' w' (uI r lw) (uI r lh):=by
 have hsame:∀q,q≠r→Same σ α (az σ r R') (aH α r (α.loc r) hdr' dI) q:=fun q h=>gV h
 have Xu:∀b,Qz cx R' lw w b→Loose cx (az σ r R') (uI r lw) w r b:=by
  rintro b (h | ⟨e,he,hb⟩ | ⟨h,hl⟩)
  ·refine .inl fun Q hQ=>?_
   rw [aJ] at hQ
   simp only [Option.some.injEq] at hQ
   subst hQ
   exact h
  ·exact .inr (.inl ⟨e,by rw [wQ]; exact he,hb⟩)
  ·exact .inr (.inr ⟨h,by rw [wQ]; exact hl⟩)
 have hns:∀{q:Nat},¬Same σ α (az σ r R') (aH α r (α.loc r) hdr' dI) q→q=r:=fun {q} h=>Classical.byContradiction fun e=>h (hsame q e)
 refine ⟨rfl,T.os,T.size, ?_, ?_, ?_, ?_, ?_,T.CG, ?_, ?_, ?_, ?_⟩
 ·intro q Q hQ
  by_cases e:q=r
  ·subst e
   rw [hr.1] at hQ
   simp only [Option.some.injEq] at hQ
   subst hQ
   refine ⟨R',aJ .., ?_⟩
   rcases T.step with h | ⟨h1,h2,h3,h4,h5,h6⟩
   ·exact .inl h
   ·exact .inr ⟨hr.2,by rw [wQ]; exact h1,by rw [wQ]; exact h2,h3,h4,by simp [aH,upd_same],h5,by rw [wQ,wQ]; exact .inl h6⟩
  ·refine ⟨Q,by rw [bZ σ R' e]; exact hQ, ?_⟩
   cases hd:Q.aX with
   | true=>
    refine .inl ⟨rfl, ?_⟩
    intro hk
    simp [Root.aX,hk] at hd
   | false=>exact .inr ⟨rfl,by rw [qQ lw e]; rfl,by rw [qQ lh e]; rfl,Nat.le_refl _,rfl,by simp [aH,upd_ne _ _ e],fun _=>rfl, .inr ⟨qQ lw e,qQ lh e,hsame q e⟩⟩
 ·intro q Q hQ hs
  have e:=hns hs
  subst e
  rw [aJ] at hQ
  simp only [Option.some.injEq] at hQ
  subst hQ
  refine ⟨fun t ht=>?_,(H.dz q R hr.1).2.1,T.tags.2⟩
  have hne:t.1≠q:=fun e=>T.tags.2 t.2 (by rw [←e]; exact ht)
  rcases T.tags.1 t ht with h | ⟨Q,h1,h2⟩
  ·exact .inl h
  ·exact .inr ⟨Q,by rw [bZ σ R' hne]; exact h1,h2⟩
 ·intro q Q hn hQ
  have e:q≠r:=fun e=>by rw [e,hr.1] at hn; simp at hn
  rw [bZ σ R' e,hn] at hQ
  simp at hQ
 ·intro b hb hne
  exact (T.Qn b hb hne).imp id (fun h=>⟨r,R,hr,h.1,Xu b h.2⟩)
 ·rintro b (⟨q,Q,hq,hb,hno⟩ | hb)
  ·rcases jq hq with ⟨rfl,rfl,hd⟩ | ⟨e,hq'⟩
   ·rw [eD] at hb
    rcases T.new hd b hb with h | h | h
    ·exact absurd ⟨R,hr,h⟩ hno
    ·exact .inl h
    ·exact .inr (.inl h)
   ·rw [(hsame q e).blk] at hb
    exact absurd ⟨Q,hq',hb⟩ hno
  ·rcases T.newF b hb with h | h | h
   ·exact .inl h
   ·exact .inr (.inl h)
   ·exact .inr (.inr ⟨r,R,hr,h.1,Xu b h.2⟩)
 ·intro q Q hq hs b hb
  have e:=hns hs
  subst e
  obtain ⟨rfl,hd⟩:=eP hq
  rw [eD] at hb
  exact T.jo hd b hb
 ·intro q Q q' Q' hq hq' hne hs hs'
  exact absurd ((hns hs).trans (hns hs').symm) hne
 ·intro j pi b o n hj hb hne
  obtain ⟨Q,hQ,hk,hl,hs⟩:=H.mg j pi b o n hj hb
  have hbq:b∈blk α Q (au j):=by simp [blk,dW,hk,hl]
  have hm:=(H.roots _ _ hQ).mine b hbq
  rcases T.Qn b hm.1 hne with h | ⟨h1,_⟩
  ·exact absurd h (H.jo _ _ hQ b hbq)
  ·refine T.base j pi b o n hj hb ?_ hne
   refine Classical.byContradiction fun e=>?_
   exact H.KL _ _ _ _ hr hQ e b h1 hbq
 ·intro q Q Q' hQ hQ' hd
  by_cases e:q=r
  ·subst e
   rw [hr.1] at hQ
   rw [aJ] at hQ'
   simp only [Option.some.injEq] at hQ hQ'
   subst hQ
   subst hQ'
   exact T.ev hd
  ·rw [bZ σ R' e,hQ] at hQ'
   simp only [Option.some.injEq] at hQ'
   subst hQ'
   exact ⟨rfl,rfl⟩
theorem BL.rel (H:Rel cx σ α F a w) (hr:aP σ r R) (T:BL cx σ α F w r R R' dI F' w' lw lh)
  (hroot:R'.aX=false→(bq (az σ r R') R'→Ow (hp w') R'.own (iO cx (az σ r R') (aH α r (α.loc r) hdr' dI) F' w' R'.tags) R'.k R'.x hdr' dI)∧hdr'.length=R'.k.size∧
   (∀b o,xY R' (α.loc r)=some (b,o)→Cells (hp w') b o hdr'∧∃arr e lo hi,hp w' b=some (.cells arr e (lo,hi))∧(∀i,i<arr.size→¬(lo≤i∧i<hi))∧o+R'.k.size≤arr.size∧(∀t,R'.kind=.var t→e=t))∧
   (iw R' (α.loc r) dI).Nodup)
  (F8:R'.aX=false→∀p n v,n≤gq R.h→bH cx σ α F w (.ptr r p n) v→bH cx (az σ r R') (aH α r (α.loc r) hdr' dI) F' w' (.ptr r p n) v)
  (Da:R'.aX=false→∀g v,g≤R.g→bH cx σ α F w (.ref r g) v→bH cx (az σ r R') (aH α r (α.loc r) hdr' dI) F' w' (.ref r g) v) :
  Rel cx (az σ r R') (aH α r (α.loc r) hdr' dI) F' a w':=by
 have hns:∀{q:Nat},¬Same σ α (az σ r R') (aH α r (α.loc r) hdr' dI) q→q=r:=fun {q} h=>Classical.byContradiction fun e=>h (gV e)
 have hRq:∀{Q:Root},aP σ r Q→Q=R:=fun {Q} hQ=>by have:=hQ.1; rw [hr.1] at this; simpa using this.symm
 refine H.turn (T.turn H hr) ?_ ?_ ?_
 ·intro q Q hq hs
  have e:=hns hs
  subst e
  obtain ⟨rfl,hd⟩:=eP hq
  obtain ⟨h1,h2,h3,h4⟩:=hroot hd
  refine ⟨fun hv=>?_, ?_, ?_, ?_⟩
  ·have:=h1 hv
   simpa [aH,upd_same] using this
  ·simpa [aH,upd_same] using h2
  ·intro b o hb
   rw [jH] at hb
   have:=h3 b o hb
   simpa [aH,upd_same] using this
  ·rw [eD]; exact h4
 ·intro q Q hq hs p n v hn hv
  have e:=hns hs
  subst e
  obtain rfl:=hRq hq
  cases hd:R'.aX with
  | false=>exact F8 hd p n v hn hv
  | true=>
   refine ⟨hv.1, ?_⟩
   intro Q' hQ' hval
   rw [aJ] at hQ'
   simp only [Option.some.injEq] at hQ'
   subst hQ'
   have:=hval.1
   rw [hd] at this
   simp at this
 ·intro q Q hq hs g v hg hv
  have e:=hns hs
  subst e
  obtain rfl:=hRq hq
  cases hd:R'.aX with
  | false=>exact Da hd g v hg hv
  | true=>
   intro Q' hQ'
   have:=(eP hQ').2
   rw [hd] at this
   simp at this
structure Held (cx:Cx) (σ:St) (α:dK) (F:List Nat) (w:World) (k:K) (x:El k) (own:List TypeId) (tags:List Tag) (cs:List Value) (fo:List Nat):Prop where
 ow:bg σ (aU own k) tags=true→Ow (hp w) own (iO cx σ α F w tags) k x cs fo
 wt:fA σ tags
 sub:∀b∈fo,b∈F
 nd:fo.Nodup
 len:cs.length=k.size
theorem Held.turn {σ':St} {α':dK} {lw lh:Nat→List Nat} {k:K} {x:El k} {own:List TypeId} {tags:List Tag} {cs:List Value} {fo:List Nat}
  (H:Rel cx σ α F a w) (T:mW cx σ α F w σ' α' F' w' lw lh) (h:Held cx σ α F w k x own tags cs fo) (hs:∀b∈fo,hp w' b=hp w b∧b∈F'):Held cx σ' α' F' w' k x own tags cs fo where
 ow:=fun hc=>by
  obtain ⟨h1,h2,_⟩:=T.views H tags _ h.wt hc
  exact bD (fun b hb=>(h2 b hb.1 (.inl hb.2)).2) (fun b hb=>(h2 b hb.1 (.inl hb.2)).1) (fun b hb=>(hs b hb).1) (uA _ (fun _ h=>h) (h.ow h1))
 wt:=fun t ht=>T.tag (h.wt t ht)
 sub:=fun b hb=>(hs b hb).2
 nd:=h.nd
 len:=h.len
theorem Held.slots {k:K} {x:El k} {own:List TypeId} {tags:List Tag} {cs:List Value} {fo:List Nat} (s:Nat→y5) (h:Held cx σ α F w k x own tags cs fo):Held cx (lY σ s) α F w k x own tags cs fo:=
 ⟨fun hc=>h.ow (by rw [sZ] at hc; exact hc),h.wt,h.sub,h.nd,h.len⟩
end
end Go.Proofs.YtailcbngagacaabGreat.Ow

/- The framework, part 10: memory, what is handed away, what is new, a store. Own work of this seat. -/
namespace Go.Proofs.YtailcbngagacaabGreat.Ow
open Go
variable [Fr]
theorem vB {h:Heap} {own:List TypeId} {ok:Nat→Prop}:∀{k:K} {x:El k} {cs:List Value} {fo:List Nat},Ow h own ok k x cs fo→∀b∈fo,∃e∈k.tys,ay e own=true∧rV h b=some e:=by
 intro k
 induction k with
 | int ik=>intro x cs fo H b hb; rw [H.1] at hb; simp at hb
 | bool=>intro x cs fo H b hb; rw [H.1] at hb; simp at hb
 | id e=>intro x cs fo H b hb; rw [H.1] at hb; simp at hb
 | str=>intro x cs fo H b hb; rw [H.1] at hb; simp at hb
 | sl e k ih=>
  intro x cs fo H b' hb'
  unfold Ow at H
  split at H
  ·rename_i hm
   obtain ⟨a,n,c,e1,e2,e3,H⟩:=H
   rcases H with ⟨_,h1⟩ | ⟨b,o,arr,lo,hi,ea,hb,hf,hs,bz,hl,hp,H⟩
   ·rw [h1] at hb'; simp at hb'
   ·rcases List.mem_cons.1 (hp.mem_iff.1 hb') with h | h
    ·subst h
     exact ⟨e,by simp [K.tys],hm,by unfold rV; rw [hb]⟩
    ·obtain ⟨l,hl1,hl2⟩:=List.mem_flatten.1 h
     obtain ⟨i,hi,rfl⟩:=List.mem_iff_getElem.1 hl1
     obtain ⟨ds,_,h2⟩:=H i (by omega)
     rw [bY hi] at h2
     obtain ⟨e',g1,g2⟩:=ih h2 b' hl2
     exact ⟨e',by simp [K.tys,g1],g2⟩
  ·rw [H.1] at hb'; simp at hb'
 | unit=>intro x cs fo H b hb; rw [H.1] at hb; simp at hb
 | pair a b iha ihb=>
  intro x cs fo H b' hb'
  obtain ⟨c1,c2,f1,f2,e,hp,h1,h2⟩:=H
  rcases List.mem_append.1 (hp.mem_iff.1 hb') with h | h
  ·obtain ⟨e',g1,g2⟩:=iha h1 b' h; exact ⟨e',by simp [K.tys,g1],g2⟩
  ·obtain ⟨e',g1,g2⟩:=ihb h2 b' h; exact ⟨e',by simp [K.tys,g1],g2⟩
 | st f ih=>intro x cs fo H; exact ih (x:=x) H
 | gap n=>intro x cs fo H b hb; rw [H.1] at hb; simp at hb
theorem dG {t:Nat} {own bad:List TypeId}:ay t (bJ own bad)=true↔ay t own=true∧t∉bad:=by
 rw [aK,aK]
 unfold bJ
 rw [List.mem_filter]
 simp [aW]
theorem Cy {own:List TypeId}:∀{k:K} {t:TypeId},t∈k.tys→t∈aU own k∨ay t own=true:=by
 intro k
 induction k with
 | sl e k ih=>
  intro t ht
  simp only [K.tys,List.mem_cons] at ht
  cases hm:ay e own with
  | true=>
   rcases ht with ht | ht
   ·subst ht; exact .inr hm
   ·exact (ih ht).imp (fun h=>by simp [aU,hm,h]) id
  | false=>exact .inl (by simpa [aU,hm] using ht)
 | pair a b iha ihb=>
  intro t ht
  simp only [K.tys,List.mem_append] at ht
  rcases ht with ht | ht
  ·exact (iha ht).imp (fun h=>by simp [aU,h]) id
  ·exact (ihb ht).imp (fun h=>by simp [aU,h]) id
 | st f ih=>intro t ht; exact ih ht
 | _=>intro t ht; simp [K.tys] at ht
theorem Gq {own:List TypeId}:∀{k:K} {t:TypeId},t∈aU own k→t∈k.tys:=by
 intro k
 induction k with
 | sl e k ih=>
  intro t ht
  cases hm:ay e own with
  | true=>simp only [aU,hm,cond_true] at ht; simp [K.tys,ih ht]
  | false=>simpa [aU,hm,K.tys] using ht
 | pair a b iha ihb=>
  intro t ht
  simp only [aU,List.mem_append] at ht
  simp only [K.tys,List.mem_append]
  exact ht.imp iha ihb
 | st f ih=>intro t ht; exact ih ht
 | _=>intro t ht; simp [aU] at ht
section
variable {cx:Cx} {σ:St} {α:dK} {F:List Nat} {a:Act} {w:World} {F':List Nat} {w':World}
theorem EP (H:Rel cx σ α F a w) (hos:w'.os=w.os∧w'.tape=w.tape∧w'.output=w.output) (hsize:w.heap.size≤w'.heap.size) (JM:∀b,b<w.heap.size→hp w' b≠hp w b→b∈F)
  (hnew:∀b∈F',b∈F∨(w.heap.size≤b∧b<w'.heap.size)) (hnd:F'.Nodup):mW cx σ α F w σ α F' w' (fun _=>[]) (fun _=>[]) where
 slots:=rfl
 os:=hos
 size:=hsize
 old:=fun r R hr=>⟨R,hr,by
  cases hd:R.aX with
  | true=>exact .inl ⟨rfl,by intro hk; simp [Root.aX,hk] at hd⟩
  | false=>exact .inr ⟨rfl,rfl,rfl,Nat.le_refl _,rfl,rfl,fun _=>rfl, .inr ⟨rfl,rfl,lJ ..⟩⟩⟩
 wr:=fun r R' _ h=>absurd (lJ ..) h
 aha:=fun r R' h1 h2=>by rw [h1] at h2; simp at h2
 Qn:=fun b hb hne=>.inl (JM b hb hne)
 new:=by
  rintro b (⟨r,R',h1,h2,h3⟩ | h)
  ·exact absurd ⟨R',h1,h2⟩ h3
  ·exact (hnew b h).imp id .inl
 CG:=hnd
 jo:=fun r R' _ h=>absurd (lJ ..) h
 KL:=fun r R r' R' _ _ _ h=>absurd (lJ ..) h
 base:=by
  intro j pi b o n hj hb hne
  obtain ⟨Q,hQ,hk,hl,hs⟩:=H.mg j pi b o n hj hb
  have hbq:b∈blk α Q (au j):=by simp [blk,dW,hk,hl]
  have hm:=(H.roots _ _ hQ).mine b hbq
  exact absurd (JM b hm.1 hne) (H.jo _ _ hQ b hbq)
 ev:=fun r R R' h1 h2 _=>by rw [h1] at h2; simp only [Option.some.injEq] at h2; subst h2; exact ⟨rfl,rfl⟩
theorem Rel.mem (H:Rel cx σ α F a w) (T:mW cx σ α F w σ α F' w' (fun _=>[]) (fun _=>[])):Rel cx σ α F' a w':=
 H.turn T (fun _ _ _ h=>absurd (lJ ..) h) (fun _ _ _ h=>absurd (lJ ..) h) (fun _ _ _ h=>absurd (lJ ..) h)
theorem Rel.alloc (H:Rel cx σ α F a w) (o:Obj):Rel cx σ α (w.heap.size :: F) a (w.alloc o)∧mW cx σ α F w σ α (w.heap.size :: F) (w.alloc o) (fun _=>[]) (fun _=>[]):=by
 have hs:(w.alloc o).heap.size=w.heap.size+1:=Array.size_push ..
 have T:mW cx σ α F w σ α (w.heap.size :: F) (w.alloc o) (fun _=>[]) (fun _=>[]):=EP H ⟨rfl,rfl,rfl⟩ (by omega) (fun b hb hne=>absurd (qc w o hb) hne)
  (fun b hb=>by rcases List.mem_cons.1 hb with h | h; exact .inr ⟨by omega,by omega⟩; exact .inl h)
  (List.nodup_cons.2 ⟨fun h=>by have:=(H.fl _ h).1; omega,H.CG⟩)
 exact ⟨H.mem T,T⟩
variable {r:Nat} {R:Root}
theorem jQ:cu.aX=true:=rfl
theorem mY {R':Root} {tys:List TypeId} {T:List Tag} (h:∀n,(r,n)∉T):bg (az σ r R') tys T=bg σ tys T:=by
 induction T with
 | nil=>rfl
 | cons t T ih=>
  obtain ⟨q,n⟩:=t
  have hq:q≠r:=fun e=>h n (by simp [e])
  have ih':=ih (fun n hn=>h n (by simp [hn]))
  simp only [bg]
  rw [ih',bZ σ R' hq]
def jE (α:dK) (r:Nat):dK:=aH α r (α.loc r) (α.hdr r) []
theorem kill (H:Rel cx σ α F a w) (hr:aP σ r R) (hk:R.kind=.anon) (hv:bq σ R) :
  Rel cx (az σ r cu) (jE α r) (α.fo r++F) a w∧mW cx σ α F w (az σ r cu) (jE α r) (α.fo r++F) w (uI r []) (uI r [])∧
  Held cx (az σ r cu) (jE α r) (α.fo r++F) w R.k R.x R.own R.tags (α.hdr r) (α.fo r)∧bg (az σ r cu) (aU R.own R.k) R.tags=true:=by
 have hb:blk α R r=α.fo r:=by simp [blk,dW,hk]
 have K:=H.roots r R hr
 have hnd:(α.fo r).Nodup:=by rw [←hb]; exact K.nd
 have T1:BL cx σ α F w r R cu [] (α.fo r++F) w [] []:=by
  refine ⟨.inl ⟨rfl,by rw [hk]; simp⟩,⟨fun t ht=>by simp [cu] at ht,fun n hn=>by simp [cu] at hn⟩,⟨rfl,rfl,rfl⟩,Nat.le_refl _,fun b _ h=>absurd rfl h,fun h=>by simp [jQ] at h, ?_, ?_,fun h=>by simp [jQ] at h,fun _ _ _ _ _ _ _ _ h=>absurd rfl h,fun h=>by simp [jQ] at h⟩
  ·intro b hb'
   rcases List.mem_append.1 hb' with h | h
   ·exact .inr (.inr ⟨by rw [hb]; exact h, .inl rfl⟩)
   ·exact .inl h
  ·exact List.nodup_append.2 ⟨hnd,H.CG,fun b h1 c h2 e=>H.jo r R hr b (by rw [hb]; exact h1) (e▸h2)⟩
 have hT:=T1.turn (hdr':=α.hdr r) H hr
 have hnt:=(H.dz r R hr.1).2.2
 have JN:bg (az σ r cu) (aU R.own R.k) R.tags=true:=by rw [mY hnt]; exact hv.2
 refine ⟨T1.rel H hr (fun h=>by simp [jQ] at h) (fun h=>by simp [jQ] at h) (fun h=>by simp [jQ] at h),hT, ?_,JN⟩
 refine ⟨fun hc=>?_,fun t ht=>hT.tag ((H.dz r R hr.1).1 t ht),fun b hb=>List.mem_append_left _ hb,hnd,K.len⟩
 obtain ⟨h1,h2,_⟩:=hT.views H R.tags _ (H.dz r R hr.1).1 hc
 exact bD (fun b hb=>(h2 b hb.1 (.inl hb.2)).2) (fun b hb=>(h2 b hb.1 (.inl hb.2)).1) (fun _ _=>rfl) (uA _ (fun _ h=>h) (K.ow hv))
theorem ag5 (H:Rel cx σ α F a w) (hr:aP σ r R) (hk:R.kind≠.par) (hv:bq σ R) :
  Rel cx (az σ r cu) (jE α r) (blk α R r++F) a w∧mW cx σ α F w (az σ r cu) (jE α r) (blk α R r++F) w (uI r []) (uI r [])∧
  Held cx (az σ r cu) (jE α r) (blk α R r++F) w R.k R.x R.own R.tags (α.hdr r) (α.fo r)∧bg (az σ r cu) (aU R.own R.k) R.tags=true:=by
 have K:=H.roots r R hr
 have hnd:(blk α R r).Nodup:=K.nd
 have T1:BL cx σ α F w r R cu [] (blk α R r++F) w [] []:=by
  refine ⟨.inl ⟨rfl,hk⟩,⟨fun t ht=>by simp [cu] at ht,fun n hn=>by simp [cu] at hn⟩,⟨rfl,rfl,rfl⟩,Nat.le_refl _,fun b _ h=>absurd rfl h,fun h=>by simp [jQ] at h, ?_, ?_,fun h=>by simp [jQ] at h,fun _ _ _ _ _ _ _ _ h=>absurd rfl h,fun h=>by simp [jQ] at h⟩
  ·intro b hb'
   rcases List.mem_append.1 hb' with h | h
   ·exact .inr (.inr ⟨h, .inl rfl⟩)
   ·exact .inl h
  ·exact List.nodup_append.2 ⟨hnd,H.CG,fun b h1 c h2 e=>H.jo r R hr b h1 (e▸h2)⟩
 have hT:=T1.turn (hdr':=α.hdr r) H hr
 have hnt:=(H.dz r R hr.1).2.2
 have JN:bg (az σ r cu) (aU R.own R.k) R.tags=true:=by rw [mY hnt]; exact hv.2
 refine ⟨T1.rel H hr (fun h=>by simp [jQ] at h) (fun h=>by simp [jQ] at h) (fun h=>by simp [jQ] at h),hT, ?_,JN⟩
 refine ⟨fun hc=>?_,fun t ht=>hT.tag ((H.dz r R hr.1).1 t ht),fun b hb=>List.mem_append_left _ (List.mem_append_right _ hb),(List.nodup_append.1 hnd).2.1,K.len⟩
 obtain ⟨h1,h2,_⟩:=hT.views H R.tags _ (H.dz r R hr.1).1 hc
 exact bD (fun b hb=>(h2 b hb.1 (.inl hb.2)).2) (fun b hb=>(h2 b hb.1 (.inl hb.2)).1) (fun _ _=>rfl) (uA _ (fun _ h=>h) (K.ow hv))
theorem rJ:∀(p:List Stp) {k:K} {x y:El k},(aT p k x).isSome=(aT p k y).isSome:=by
 intro p
 induction p with
 | nil=>intro k x y; rfl
 | cons s p ih=>
  intro k x y
  cases s with
  | gB n=>
   cases k with
   | st c=>
    simp only [aT]
    have key:∀(n:Nat) {c:K} {x y:El c},(∃s t:Dat,aN n c x=some s∧aN n c y=some t∧s.1=t.1)∨(aN n c x=none∧aN n c y=none):=by
     intro n
     induction n with
     | zero=>intro c x y; cases c <;> first | exact .inl ⟨_,_,rfl,rfl,rfl⟩ | exact .inr ⟨rfl,rfl⟩
     | succ n ih=>intro c x y; cases c <;> first | exact ih | exact .inr ⟨rfl,rfl⟩
    rcases key n (c:=c) (x:=x) (y:=y) with ⟨s,t,h1,h2,h3⟩ | ⟨h1,h2⟩
    ·rw [h1,h2]
     obtain ⟨sk,sx⟩:=s
     obtain ⟨tk,ty⟩:=t
     simp only at h3
     subst h3
     exact ih
    ·rw [h1,h2]
   | _=>simp [aT]
  | idx i=>
   cases k with
   | sl e k=>simp only [aT]; exact ih
   | _=>simp [aT]
theorem Nf:∀(n m:Nat) {c:K} {x:El c} {u y:Dat},m≠n→cz n c x u=some y→aN m y.1 y.2=aN m c x:=by
 intro n
 induction n with
 | zero=>
  intro m c x u y hm h
  cases c with
  | pair a b=>
   simp only [cz,Option.some.injEq] at h
   subst h
   cases m with
   | zero=>exact absurd rfl hm
   | succ m=>rfl
  | _=>simp [cz] at h
 | succ n ih=>
  intro m c x u y hm h
  cases c with
  | pair a b=>
   simp only [cz] at h
   cases h4:cz n b x.2 u with
   | none=>rw [h4] at h; simp at h
   | some y2=>
    rw [h4] at h
    simp only [Option.some.injEq] at h
    subst h
    cases m with
    | zero=>rfl
    | succ m=>exact ih m (by omega) h4
  | _=>simp [cz] at h
theorem ME {bad:List TypeId}:∀(p q:List Stp) {k:K} {x:El k} {t d z:Dat},aT p k x=some d→dY p k x t=some z→
  (∀q',(aT q' t.1 t.2).isSome=true→(∀e∈ah q' t.1,e∉bad)→ah q' d.1=ah q' t.1∧(aT q' d.1 d.2).isSome=true)→(aT q z.1 z.2).isSome=true→(∀e∈ah q z.1,e∉bad)→
   ah q k=ah q z.1∧(aT q k x).isSome=true:=by
 intro p
 induction p with
 | nil=>
  intro q k x t d z hg hz ht hs hb
  simp only [dY,Option.some.injEq] at hz
  simp only [aT,Option.some.injEq] at hg
  subst hz
  subst hg
  exact ht q hs hb
 | cons s p ih=>
  intro q k x t d z hg hz ht hs hb
  cases s with
  | gB n=>
   cases k with
   | st c=>
    simp only [aT,dY] at hg hz
    cases hcg:aN n c x with
    | none=>rw [hcg] at hg; simp at hg
    | some s=>
     rw [hcg] at hg hz
     simp only at hg hz
     cases hs':dY p s.1 s.2 t with
     | none=>rw [hs'] at hz; simp at hz
     | some u=>
      rw [hs'] at hz
      simp only at hz
      cases hcp:cz n c x u with
      | none=>rw [hcp] at hz; simp at hz
      | some y=>
       rw [hcp] at hz
       simp only [Option.some.injEq] at hz
       subst hz
       cases q with
       | nil=>exact ⟨rfl,rfl⟩
       | cons s2 q=>
        cases s2 with
        | idx i=>simp [aT] at hs
        | gB m=>
         by_cases hmn:m=n
         ·subst hmn
          have e1:aN m y.1 y.2=some u:=zu m hcp
          have p1:ah (.gB m :: q) (.st c)=ah q s.1:=by simp [ah,bU m hcg]
          have p2:ah (.gB m :: q) (.st y.1)=ah q u.1:=by simp [ah,bU m e1]
          have hs2:(aT (.gB m :: q) (.st y.1) y.2).isSome=true:=hs
          simp only [aT,e1] at hs2
          have hb2:∀e∈ah (.gB m :: q) (.st y.1),e∉bad:=hb
          rw [p2] at hb2
          obtain ⟨h1,h2⟩:=ih q hg hs' ht hs2 hb2
          refine ⟨?_, ?_⟩
          ·show ah (.gB m :: q) (.st c)=ah (.gB m :: q) (.st y.1)
           rw [p1,p2,h1]
          ·simp only [aT,hcg]
           exact h2
         ·have e1:=Nf n m hmn hcp
          have hs2:(aT (.gB m :: q) (.st y.1) y.2).isSome=true:=hs
          simp only [aT,e1] at hs2
          cases hg2:aN m c x with
          | none=>rw [hg2] at hs2; simp at hs2
          | some s2=>
           refine ⟨?_, ?_⟩
           ·show ah (.gB m :: q) (.st c)=ah (.gB m :: q) (.st y.1)
            simp only [ah,bU m hg2,bU m (e1.trans hg2)]
           ·simp only [aT,hg2]
            rw [hg2] at hs2
            exact hs2
   | _=>simp [aT] at hg
  | idx i=>
   cases k with
   | sl e k=>
    simp only [dY] at hz
    cases hs':dY p k ((show List (El k) from x).getD i.toNat k.zero) t with
    | none=>rw [hs'] at hz; simp at hz
    | some u=>
     rw [hs'] at hz
     simp only at hz
     cases hck:bP u.1 k u.2 with
     | none=>rw [hck] at hz; simp at hz
     | some y=>
      rw [hck] at hz
      simp only [Option.some.injEq] at hz
      subst hz
      exact ⟨rfl,by rw [rJ q (y:=((show List (El k) from x).set i.toNat y))]; exact hs⟩
   | _=>simp [dY] at hz
theorem wO:∀k:K,k.hole.size=k.size:=by
 intro k
 induction k with
 | pair a b iha ihb=>simp [K.hole,K.size,iha,ihb]
 | st f ih=>simp [K.hole,K.size,ih]
 | _=>rfl
theorem Zi {h:Heap} {own:List TypeId} {ok:Nat→Prop}:∀{k:K} {x:El k} {cs:List Value} {fo:List Nat},Ow h own ok k x cs fo→Ow h own ok k.hole (vH k x) cs []:=by
 intro k
 induction k with
 | int ik=>intro x cs fo H; exact ⟨rfl,H.2⟩
 | bool=>intro x cs fo H; exact ⟨rfl,H.2⟩
 | id e=>intro x cs fo H; exact ⟨rfl,H.2⟩
 | str=>intro x cs fo H; exact ⟨rfl,H.2⟩
 | sl e k ih=>intro x cs fo H; exact ⟨rfl,dn H⟩
 | unit=>intro x cs fo H; exact ⟨rfl,H.2⟩
 | pair a b iha ihb=>intro x cs fo H; obtain ⟨c1,c2,f1,f2,e,hp,h1,h2⟩:=H; exact ⟨c1,c2,[],[],e, .refl _,iha h1,ihb h2⟩
 | st f ih=>intro x cs fo H; exact ih (x:=x) H
 | gap n=>intro x cs fo H; exact ⟨rfl,H.2⟩
theorem Jg:∀(n:Nat) {c:K} {x:El c},aN n c.hole (vH c x)=(aN n c x).map vG:=by
 intro n
 induction n with
 | zero=>intro c x; cases c <;> rfl
 | succ n ih=>
  intro c x
  cases c with
  | pair a b=>simp only [K.hole,vH,aN]; exact ih
  | _=>rfl
theorem QY:∀(n:Nat) {c:K},bC n c.hole=(bC n c).map fun q=>(q.1,q.2.hole):=by
 intro n
 induction n with
 | zero=>intro c; cases c <;> rfl
 | succ n ih=>
  intro c
  cases c with
  | pair a b=>
   simp only [K.hole,bC]
   rw [ih (c:=b)]
   cases bC n b with
   | none=>rfl
   | some q=>simp [wO]
  | _=>rfl
theorem JQ {h:Heap}:∀(q:List Stp) {k:K} {x:El k},(aT q k.hole (vH k x)).isSome=true→
  ah q k=[]∧ah q k.hole=[]∧(aT q k x).isSome=true∧nR q k.hole (vH k x)∧∀cs wh,bE h q k.hole cs wh=bE h q k cs wh:=by
 intro q
 induction q with
 | nil=>intro k x _; exact ⟨by simp [ah],by simp [ah],rfl,trivial,fun _ _=>rfl⟩
 | cons s q ih=>
  intro k x hs
  cases s with
  | idx i=>cases k <;> simp [K.hole,aT] at hs
  | gB n=>
   cases k with
   | st c=>
    have e:aN n c.hole (vH c x)=(aN n c x).map vG:=Jg n
    have hs':(aT (.gB n :: q) (.st c.hole) (vH c x)).isSome=true:=hs
    simp only [aT,e] at hs'
    cases hg:aN n c x with
    | none=>rw [hg] at hs'; simp at hs'
    | some s=>
     rw [hg] at hs' e
     simp only [Option.map_some,vG] at hs' e
     obtain ⟨h1,h2,h3,h4,h5⟩:=ih (k:=s.1) (x:=s.2) hs'
     refine ⟨by simp [ah,bU n hg,h1], ?_,by simp only [aT,hg]; exact h3, ?_,fun cs wh=>?_⟩
     ·show ah (.gB n :: q) (.st c.hole)=[]
      simp [ah,bU n e,h2]
     ·show nR (.gB n :: q) (.st c.hole) (vH c x)
      simp only [nR,e]
      exact h4
     ·show bE h (.gB n :: q) (.st c.hole) cs wh=_
      simp only [bE]
      rw [QY n]
      cases ho:bC n c with
      | none=>rfl
      | some w=>
       simp only [Option.map_some]
       have hk:w.2=s.1:=by
        have key:∀(n:Nat) {c:K} {x:El c} {s:Dat} {q:Nat×K},aN n c x=some s→bC n c=some q→q.2=s.1:=by
         intro n
         induction n with
         | zero=>intro c x s q h1 h2; cases c with
          | pair a b=>simp only [aN,bC,Option.some.injEq] at h1 h2; subst h1; subst h2; rfl
          | _=>simp [aN] at h1
         | succ n ih=>intro c x s q h1 h2; cases c with
          | pair a b=>
           simp only [aN,bC] at h1 h2
           cases h3:bC n b with
           | none=>rw [h3] at h2; simp at h2
           | some q3=>rw [h3] at h2; simp only [Option.some.injEq] at h2; subst h2; exact ih (q:=q3) h1 h3
          | _=>simp [aN] at h1
        exact key n (c:=c) hg ho
       obtain ⟨w1,w2⟩:=w
       simp only at hk
       subst hk
       simp only [wO]
       exact h5 _ _
   | _=>simp [K.hole,aT] at hs
theorem UW:∀(q:List Stp) {k:K} {x y:El k},ah q k=[]→(aT q k x).isSome=true→ah q k.hole=[]∧(aT q k.hole (vH k y)).isSome=true:=by
 intro q
 induction q with
 | nil=>intro k x y _ _; exact ⟨by simp [ah],rfl⟩
 | cons s q ih=>
  intro k x y h0 hs
  cases s with
  | idx i=>cases k <;> simp [ah,aT] at h0 hs
  | gB n=>
   cases k with
   | st c=>
    simp only [aT] at hs
    cases hg:aN n c x with
    | none=>rw [hg] at hs; simp at hs
    | some s=>
     rw [hg] at hs
     simp only at hs
     have hp2:ah (.gB n :: q) (.st c)=ah q s.1:=by simp [ah,bU n hg]
     rw [hp2] at h0
     have key:∀(n:Nat) {c:K} {x y:El c} {s:Dat},aN n c x=some s→∃t:Dat,aN n c y=some t∧t.1=s.1:=by
      intro n
      induction n with
      | zero=>intro c x y s h; cases c <;> first | (simp only [aN,Option.some.injEq] at h; subst h; exact ⟨_,rfl,rfl⟩) | simp [aN] at h
      | succ n ih=>intro c x y s h; cases c <;> first | exact ih h | simp [aN] at h
     obtain ⟨t,g1,g2⟩:=key n (c:=c) (y:=y) hg
     obtain ⟨sk,sx⟩:=s
     obtain ⟨tk,ty⟩:=t
     simp only at g2
     subst g2
     obtain ⟨h1,h2⟩:=ih (y:=ty) h0 hs
     have e:aN n c.hole (vH c y)=some (vG ⟨tk,ty⟩):=by rw [Jg n,g1]; rfl
     refine ⟨?_, ?_⟩
     ·show ah (.gB n :: q) (.st c.hole)=[]
      simp [ah,bU n e,vG,h1]
     ·show (aT (.gB n :: q) (.st c.hole) (vH c y)).isSome=true
      simp only [aT,e]
      exact h2
   | _=>simp [aT] at hs
theorem Sv {own:List TypeId}:∀k:K,aU own k.hole=[]:=by
 intro k
 induction k with
 | pair a b iha ihb=>simp [K.hole,aU,iha,ihb]
 | st f ih=>exact ih
 | _=>rfl
theorem cells_eq {h:Heap} {b o:Nat} {cs cs':List Value} (h1:Cells h b o cs) (h2:Cells h b o cs') (hl:cs'.length=cs.length):cs'=cs:=by
 apply List.ext_getElem? 
 intro i
 by_cases hi:i<cs.length
 ·rw [←h1 i hi, ←h2 i (by omega)]
 ·rw [List.getElem?_eq_none (by omega),List.getElem?_eq_none (by omega)]
theorem Gj:∀(p:List Stp) {k:K} {x:El k} {t d z:Dat},aT p k x=some d→t.1.size=d.1.size→dY p k x t=some z→z.1.size=k.size:=by
 intro p
 induction p with
 | nil=>
  intro k x t d z hg hs hz
  simp only [aT,dY,Option.some.injEq] at hg hz
  subst hg; subst hz; exact hs
 | cons s p ih=>
  intro k x t d z hg hs hz
  cases s with
  | gB n=>
   cases k with
   | st c=>
    simp only [aT,dY] at hg hz
    cases hcg:aN n c x with
    | none=>rw [hcg] at hg; simp at hg
    | some s=>
     rw [hcg] at hg hz
     simp only at hg hz
     cases hs':dY p s.1 s.2 t with
     | none=>rw [hs'] at hz; simp at hz
     | some u=>
      rw [hs'] at hz
      simp only at hz
      cases hcp:cz n c x u with
      | none=>rw [hcp] at hz; simp at hz
      | some y=>
       rw [hcp] at hz
       simp only [Option.some.injEq] at hz
       subst hz
       have hu:=ih hg hs hs'
       have key:∀(n:Nat) {c:K} {x:El c} {s u y:Dat},aN n c x=some s→cz n c x u=some y→u.1.size=s.1.size→y.1.size=c.size:=by
        intro n
        induction n with
        | zero=>
         intro c x s u y h1 h2 e
         cases c with
         | pair a b=>simp only [aN,cz,Option.some.injEq] at h1 h2; subst h1; subst h2; simp only at e; simp [K.size,e]
         | _=>simp [aN] at h1
        | succ n ih=>
         intro c x s u y h1 h2 e
         cases c with
         | pair a b=>
          simp only [aN,cz] at h1 h2
          cases h3:cz n b x.2 u with
          | none=>rw [h3] at h2; simp at h2
          | some y2=>rw [h3] at h2; simp only [Option.some.injEq] at h2; subst h2; simp [K.size,ih h1 h3 e]
         | _=>simp [aN] at h1
       show y.1.size=c.size
       exact key n (c:=c) hcg hcp hu
   | _=>simp [aT] at hg
  | idx i=>
   cases k with
   | sl e k=>
    simp only [dY] at hz
    cases hs':dY p k ((show List (El k) from x).getD i.toNat k.zero) t with
    | none=>rw [hs'] at hz; simp at hz
    | some u=>
     rw [hs'] at hz
     simp only at hz
     cases hck:bP u.1 k u.2 with
     | none=>rw [hck] at hz; simp at hz
     | some y=>rw [hck] at hz; simp only [Option.some.injEq] at hz; subst hz; rfl
   | _=>simp [aT] at hg
theorem wT {R R':Root} (h:R'.kind=R.kind) (loc:Nat×Nat):xY R' loc=xY R loc:=by unfold xY; rw [h]
theorem pq {R R':Root} (h:R'.kind=R.kind) (loc:Nat×Nat) (fo:List Nat):iw R' loc fo=iw R loc fo:=by unfold iw; rw [h]
theorem OP (R:Root) (loc:Nat×Nat) (fo:List Nat):iw R loc fo=(match xY R loc with
 | some q=>[q.1]
 | none=>[])++fo:=by unfold iw xY; cases R.kind <;> rfl
theorem eX {R:Root} {loc:Nat×Nat} {fo:List Nat} {b:Nat}:b∈iw R loc fo↔(∃o,xY R loc=some (b,o))∨b∈fo:=by
 rw [OP]
 cases h:xY R loc with
 | none=>simp
 | some q=>obtain ⟨b0,o0⟩:=q; simp; constructor <;> (intro h; rcases h with h | h <;> simp_all)
theorem nK {R:Root} {loc:Nat×Nat} {fo:List Nat}:(iw R loc fo).Nodup↔(∀b o,xY R loc=some (b,o)→b∉fo)∧fo.Nodup:=by
 rw [OP]
 cases h:xY R loc with
 | none=>simp
 | some q=>obtain ⟨b0,o0⟩:=q; simp [List.nodup_cons]
theorem U2 {R R':Root} (h:R'.kind=R.kind):R'.aX=R.aX:=by unfold Root.aX; rw [h]
theorem SL {k k':K} {v:Value} {cs:List Value} (h:vI k'=vI k):VC k' v cs↔VC k v cs:=by
 cases k <;> cases k' <;> first | exact Iff.rfl | simp [vI] at h
theorem Mx {p:List Stp} {k:K} {x:El k} {t z:Dat} (hp:p≠[]) (hz:dY p k x t=some z):vI z.1=vI k:=by
 cases p with
 | nil=>exact absurd rfl hp
 | cons s p=>
  cases s with
  | gB n=>
   cases k with
   | st c=>
    simp only [dY] at hz
    cases hcg:aN n c x with
    | none=>rw [hcg] at hz; simp at hz
    | some s=>
     rw [hcg] at hz
     simp only at hz
     cases hs':dY p s.1 s.2 t with
     | none=>rw [hs'] at hz; simp at hz
     | some u=>
      rw [hs'] at hz
      simp only at hz
      cases hcp:cz n c x u with
      | none=>rw [hcp] at hz; simp at hz
      | some y=>rw [hcp] at hz; simp only [Option.some.injEq] at hz; subst hz; rfl
   | _=>simp [dY] at hz
  | idx i=>
   cases k with
   | sl e k=>
    simp only [dY] at hz
    cases hs':dY p k ((show List (El k) from x).getD i.toNat k.zero) t with
    | none=>rw [hs'] at hz; simp at hz
    | some u=>
     rw [hs'] at hz
     simp only at hz
     cases hck:bP u.1 k u.2 with
     | none=>rw [hck] at hz; simp at hz
     | some y=>rw [hck] at hz; simp only [Option.some.injEq] at hz; subst hz; rfl
   | _=>simp [dY] at hz
theorem UJ (k:K):k.tys≠[]∨uF k++k.tys≠[]:=by
 unfold uF
 cases k.tys with
 | nil=>exact .inr (by simp)
 | cons a l=>exact .inl (by simp)
def qP (R:Root) (d:Dat) (z:Dat):Root:={ R with k:=z.1,x:=z.2,w:=d.1.tys++R.w,h:=uF d.1++d.1.tys++R.h }
def eF (R:Root) (d:Dat) (z:Dat) (own':List TypeId):Root:={ qP R d z with own:=own' }
theorem pM:∀(q:List Stp) {k:K},∀t∈ah q k,t∈k.tys:=by
 intro q
 induction q with
 | nil=>intro k t ht; simp [ah] at ht
 | cons s q ih=>
  intro k t ht
  cases s with
  | gB n=>
   cases k with
   | st c=>
    simp only [ah] at ht
    cases hc:ah.Hu n c with
    | none=>rw [hc] at ht; simp at ht
    | some k'=>
     rw [hc] at ht
     have h1:=ih t ht
     have:∀(n:Nat) {c k':K},ah.Hu n c=some k'→∀t∈k'.tys,t∈c.tys:=by
      intro n
      induction n with
      | zero=>
       intro c k' h t ht
       cases c with
       | pair a b=>simp only [ah.Hu,Option.some.injEq] at h; subst h; simp [K.tys,ht]
       | _=>simp [ah.Hu] at h
      | succ n ih=>
       intro c k' h t ht
       cases c with
       | pair a b=>simp only [ah.Hu] at h; simp [K.tys,ih h t ht]
       | _=>simp [ah.Hu] at h
     exact this n hc t h1
   | _=>simp [ah] at ht
  | idx i=>
   cases k with
   | sl e k=>
    simp only [ah,List.mem_cons] at ht
    rcases ht with h | h
    ·simp [K.tys,h]
    ·simp [K.tys,ih t h]
   | _=>simp [ah] at ht
theorem af6 {own':List TypeId} (H:Rel cx σ α F a w) (hr:aP σ r R) (hv:bq σ R) {p:List Stp} {d z:Dat} (hg:aT p R.k R.x=some d) (hz:dY p R.k R.x (vG d)=some z) (fP:nR p R.k R.x)
  (hown:∀t∈ah p R.k,ay t R.own=true) (hpv:p≠[]∨∃t,R.kind=.var t) (hso:∀t∈z.1.tys,ay t own'=ay t R.own) :
  ∃cs1 nS fU rest,bE (hp w) p R.k (α.hdr r) (dW α R r)=some (cs1,nS)∧
   Rel cx (az σ r (eF R d z own')) (aH α r (α.loc r) (α.hdr r) rest) (fU++F) a w∧
   mW cx σ α F w (az σ r (eF R d z own')) (aH α r (α.loc r) (α.hdr r) rest) (fU++F) w (uI r d.1.tys) (uI r (uF d.1++d.1.tys))∧
   Held cx (az σ r (eF R d z own')) (aH α r (α.loc r) (α.hdr r) rest) (fU++F) w d.1 d.2 R.own R.tags cs1 fU∧(∀tys,bg (az σ r (eF R d z own')) tys R.tags=bg σ tys R.tags)∧(α.fo r).Perm (fU++rest):=by
 have K:=H.roots r R hr
 have hnd:=K.nd
 rw [bS,nK] at hnd
 have hO:=K.ow hv
 obtain ⟨cs1,fU,rest,nS,hn,hp1,hd1,hc1,hin,hnone,hup⟩:=focus p hO (fun b o e=>(K.mem b o e).1) hg fP hown hnd.2 (fun b o e=>hnd.1 b o e)
 have hnt:=(H.dz r R hr.1).2.2
 have hl1:=dn hd1
 obtain ⟨cs',hl',JK,hC',hN',hK'⟩:=hup.go (hp w) (iO cx σ α F w R.tags) (vG d) cs1 [] z hz hl1 (Zi hd1) (fun b hb=>⟨hb,rfl⟩) (fun _ _ _=>rfl)
  (fun b o e=>⟨hc1 b o e,by
   have:∃arr te fr,hp w b=some (.cells arr te fr):=by
    rcases hin b o e with ⟨_,o0,ew,_⟩ | ⟨_,arr,te,lo,hi,h1,_⟩
    ·obtain ⟨_,arr,te,lo,hi,h1,_⟩:=K.mem b o0 ew; exact ⟨arr,te,_,h1⟩
    ·exact ⟨arr,te,_,h1⟩
   obtain ⟨arr,te,fr,h1⟩:=this
   exact gH.of_same _ _ h1 rfl⟩) (fun _=>rfl) (fun _ _ _ _=>rfl)
 have hcs:cs'=α.hdr r:=by
  cases hw:dW α R r with
  | none=>exact hN' hw
  | some q=>exact cells_eq (K.mem q.1 q.2 hw).1 (hC' q.1 q.2 hw) hl'
 rw [hcs,List.nil_append] at JK
 replace JK:=u7 hso JK
 obtain ⟨_,_,hNK,_⟩:=hK' d.1.tys (wO d.1) (fun q c0 w0 hq _ hn0 hs=>by
  obtain ⟨_,_,_,h3,h4⟩:=JQ (h:=hp w) q (x:=d.2) hs
  exact ⟨h3,c0,by rw [←hn0]; exact h4 cs1 nS⟩)
 rw [hcs] at hNK
 have hkind:(eF R d z own').kind=R.kind:=rfl
 have ags:(eF R d z own').aX=false:=hr.2
 have LQ:∀b,b∈α.fo r↔b∈fU∨b∈rest:=fun b=>by rw [hp1.mem_iff,List.mem_append]
 have EH:=hp1.nodup hnd.2
 have hsz:z.1.size=R.k.size:=Gj p (t:=vG d) hg (wO d.1) hz
 have T1:BL cx σ α F w r R (eF R d z own') rest (fU++F) w d.1.tys (uF d.1++d.1.tys):=by
  refine ⟨.inr ⟨rfl,rfl,Nat.le_refl _,rfl,fun _=>hsz,UJ d.1⟩,⟨(H.dz r R hr.1).1,hnt⟩,⟨rfl,rfl,rfl⟩,Nat.le_refl _,fun b _ h=>absurd rfl h, ?_, ?_, ?_, ?_,fun _ _ _ _ _ _ _ _ h=>absurd rfl h,fun _=>⟨rfl,rfl⟩⟩
  ·intro _ b hb
   rw [pq hkind,eX] at hb
   refine .inl ?_
   rw [bS,eX,LQ]
   exact hb.imp id .inr
  ·intro b hb
   rcases List.mem_append.1 hb with h | h
   ·refine .inr (.inr ⟨by rw [bS,eX,LQ]; exact .inr (.inl h), .inr (.inl ?_)⟩)
    obtain ⟨e,h1,_,h2⟩:=vB hd1 b h
    exact ⟨e,h1,h2⟩
   ·exact .inl h
  ·refine List.nodup_append.2 ⟨(List.nodup_append.1 EH).1,H.CG,fun b h1 c h2 e=>H.jo r R hr b ?_ (e▸h2)⟩
   rw [bS,eX,LQ]
   exact .inr (.inl h1)
  ·intro _ b hb hF
   rw [pq hkind,eX] at hb
   rcases List.mem_append.1 hF with h | h
   ·rcases hb with ⟨o,hb⟩ | hb
    ·exact hnd.1 b o hb ((LQ b).2 (.inl h))
    ·exact (List.nodup_append.1 EH).2.2 b h b hb rfl
   ·refine H.jo r R hr b ?_ h
    rw [bS,eX,LQ]
    exact hb.imp id .inr
 have hT:=T1.turn (hdr':=α.hdr r) H hr
 have JN:∀tys,bg (az σ r (eF R d z own')) tys R.tags=bg σ tys R.tags:=fun tys=>mY hnt
 refine ⟨cs1,nS,fU,rest,hn,T1.rel H hr ?_ ?_ ?_,hT, ?_,JN,hp1⟩
 ·intro _
  refine ⟨fun hv'=>?_,by rw [K.len]; exact hsz.symm, ?_, ?_⟩
  ·obtain ⟨h1,h2,_⟩:=hT.views H R.tags _ (H.dz r R hr.1).1 hv'.2
   exact bD (fun b hb=>(h2 b hb.1 (.inl hb.2)).2) (fun b hb=>(h2 b hb.1 (.inl hb.2)).1) (fun _ _=>rfl) (uA _ (fun _ h=>h) JK)
  ·intro b o hb
   have:(eF R d z own').k.size=R.k.size:=hsz
   rw [this]
   exact K.mem b o hb
  ·rw [pq hkind,nK]
   exact ⟨fun b o e hb=>hnd.1 b o e ((LQ b).2 (.inr hb)),(List.nodup_append.1 EH).2.1⟩
 ·intro _ q n v hn' hold
  refine ⟨hold.1, ?_⟩
  intro Q hQ hvQ hcl hty hsome
  have hQ':Q=eF R d z own':=by
   rw [aJ] at hQ
   simpa using hQ.symm
  subst hQ'
  have XJ:dW (aH α r (α.loc r) (α.hdr r) rest) (eF R d z own') r=dW α R r:=by rw [jH,wT hkind, ←vO]
  have RB:(aH α r (α.loc r) (α.hdr r) rest).hdr r=α.hdr r:=by simp [aH,upd_same]
  have hh:(eF R d z own').h=(uF d.1++d.1.tys)++R.h:=rfl
  rw [hh,qa hn'] at hcl
  by_cases hq:q=[]
  case neg=>
   have hpt:∀k,dX q k=ry :: ah q k:=by
    intro k
    cases q with
    | nil=>exact absurd rfl hq
    | cons s q=>rfl
   rw [hpt] at hcl
   obtain ⟨k1,k2⟩:=ME (bad:=d.1.tys) p q hg hz (fun q' h _=>let ⟨h1,h2,h3,_⟩:=JQ (h:=hp w) q' (x:=d.2) h; ⟨h1.trans h2.symm,h3⟩) hsome (fun e he hm=>hcl.1 e (List.mem_append_right _ hm) (List.mem_cons_of_mem _ he))
   have k1':ah q R.k=ah q (eF R d z own').k:=k1
   have hty':∀t∈ah q R.k,ay t R.own=true:=fun t ht=>by
    have ht':t∈ah q z.1:=k1▸ht
    rw [←hso t (pM q t ht')]
    exact hty t ht'
   rw [←k1'] at hcl
   obtain ⟨g1,cs,b,o,g2,g3⟩:=hold.2 R hr.1 hv (by rw [hpt]; exact hcl.2) hty' k2
   obtain ⟨f1,c1,f2⟩:=hNK q cs (some (b,o)) g1 (fun t ht=>⟨hty' t ht,fun hm=>hcl.1 t (List.mem_append_right _ hm) (List.mem_cons_of_mem _ ht)⟩) g2 hsome
   rw [XJ,RB]
   exact ⟨f1,c1,b,o,f2,g3⟩
  subst hq
  obtain ⟨_,cs,b,o,h1,h2⟩:=hold.2 R hr.1 hv (by simp [clean,dX,ay]) (fun t ht=>by simp [ah] at ht) rfl
  simp only [bE,Option.some.injEq,Prod.mk.injEq] at h1
  refine ⟨trivial,(aH α r (α.loc r) (α.hdr r) rest).hdr r,b,o, ?_,h2⟩
  simp only [bE]
  rw [jH,wT hkind, ←vO,h1.2]
 ·intro _ g v hg' hold Q hQ hgQ
  obtain ⟨hQ',_⟩:=eP hQ
  subst hQ'
  obtain ⟨h1,h2⟩:=hold R hr hgQ
  refine ⟨h1, ?_⟩
  have:(aH α r (α.loc r) (α.hdr r) rest).hdr r=α.hdr r:=by simp [aH,upd_same]
  rw [this]
  rcases hpv with hp | ⟨t,ht⟩
  ·
   cases p with
   | nil=>exact absurd rfl hp
   | cons s p=>
    exact (SL (Mx (by simp) hz)).2 h2
  ·rw [ht] at h1; simp at h1
 ·refine ⟨fun hc=>?_,fun t ht=>hT.tag ((H.dz r R hr.1).1 t ht),fun b hb=>List.mem_append_left _ hb,(List.nodup_append.1 EH).1,hl1⟩
  obtain ⟨h1,h2,_⟩:=hT.views H R.tags _ (H.dz r R hr.1).1 hc
  exact bD (fun b hb=>(h2 b hb.1 (.inl hb.2)).2) (fun b hb=>(h2 b hb.1 (.inl hb.2)).1) (fun _ _=>rfl) (uA _ (fun _ h=>h) hd1)
theorem gap (H:Rel cx σ α F a w) (hr:aP σ r R) (hv:bq σ R) {p:List Stp} {d z:Dat} (hg:aT p R.k R.x=some d) (hz:dY p R.k R.x (vG d)=some z) (fP:nR p R.k R.x)
  (hown:∀t∈ah p R.k,ay t R.own=true) (hpv:p≠[]∨∃t,R.kind=.var t) :
  ∃cs1 nS fU rest,bE (hp w) p R.k (α.hdr r) (dW α R r)=some (cs1,nS)∧
   Rel cx (az σ r (qP R d z)) (aH α r (α.loc r) (α.hdr r) rest) (fU++F) a w∧
   mW cx σ α F w (az σ r (qP R d z)) (aH α r (α.loc r) (α.hdr r) rest) (fU++F) w (uI r d.1.tys) (uI r (uF d.1++d.1.tys))∧
   Held cx (az σ r (qP R d z)) (aH α r (α.loc r) (α.hdr r) rest) (fU++F) w d.1 d.2 R.own R.tags cs1 fU∧(∀tys,bg (az σ r (qP R d z)) tys R.tags=bg σ tys R.tags)∧(α.fo r).Perm (fU++rest):=
 af6 (own':=R.own) H hr hv hg hz fP hown hpv (fun _ _=>rfl)
end
end Go.Proofs.YtailcbngagacaabGreat.Ow

/- The framework, part 11: a store. Own work of this seat. -/
namespace Go.Proofs.YtailcbngagacaabGreat.Ow
open Go
variable [Fr]
theorem Su {own own':List TypeId}:∀{k:K},(∀t∈k.tys,ay t own'=true→ay t own=true)→∀t∈aU own k,t∈aU own' k:=by
 intro k
 induction k with
 | sl e k ih=>
  intro h t ht
  cases hm':ay e own' with
  | true=>
   have hm:=h e (by simp [K.tys]) hm'
   simp only [aU,hm,cond_true] at ht
   simp only [aU,hm',cond_true]
   exact ih (fun t ht=>h t (by simp [K.tys,ht])) t ht
  | false=>
   have:=Gq ht
   simpa [aU,hm',K.tys] using this
 | pair a b iha ihb=>
  intro h t ht
  simp only [aU,List.mem_append] at ht ⊢
  exact ht.imp (iha (fun t ht=>h t (by simp [K.tys,ht])) t) (ihb (fun t ht=>h t (by simp [K.tys,ht])) t)
 | st f ih=>intro h t ht; exact ih h t ht
 | _=>intro _ t ht; simp [aU] at ht
theorem Q3 {own:List TypeId}:∀(n:Nat) {c:K} {x:El c} {s u y:Dat},aN n c x=some s→cz n c x u=some y→
  (∀e∈aU own u.1,e∈aU own y.1)∧((∀e∈aU own s.1,e∈aU own u.1)→∀e∈aU own c,e∈aU own y.1):=by
 intro n
 induction n with
 | zero=>
  intro c x s u y hg hp
  cases c with
  | pair a b=>
   simp only [aN,cz,Option.some.injEq] at hg hp
   subst hg; subst hp
   refine ⟨fun e he=>by simp [aU,he],fun h e he=>?_⟩
   simp only [aU,List.mem_append] at he ⊢
   exact he.imp (h e) id
  | _=>simp [aN] at hg
 | succ n ih=>
  intro c x s u y hg hp
  cases c with
  | pair a b=>
   simp only [aN,cz] at hg hp
   cases h3:cz n b x.2 u with
   | none=>rw [h3] at hp; simp at hp
   | some y2=>
    rw [h3] at hp
    simp only [Option.some.injEq] at hp
    subst hp
    obtain ⟨g1,g2⟩:=ih hg h3
    refine ⟨fun e he=>by simp [aU,g1 e he],fun h e he=>?_⟩
    simp only [aU,List.mem_append] at he ⊢
    exact he.imp id (g2 h e)
  | _=>simp [aN] at hg
theorem MI {own:List TypeId}:∀(p:List Stp) {k:K} {x:El k} {d t z:Dat},aT p k x=some d→dY p k x t=some z→
  (∀e∈aU own t.1,e∈aU own z.1∨∃q∈ah p k,ay q own=false)∧((∀e∈aU own d.1,e∈aU own t.1)→∀e∈aU own k,e∈aU own z.1):=by
 intro p
 induction p with
 | nil=>
  intro k x d t z hg hz
  simp only [aT,dY,Option.some.injEq] at hg hz
  subst hg; subst hz
  exact ⟨fun e he=>.inl he,fun h=>h⟩
 | cons s p ih=>
  intro k x d t z hg hz
  cases s with
  | gB n=>
   cases k with
   | st c=>
    simp only [aT,dY] at hg hz
    cases hcg:aN n c x with
    | none=>rw [hcg] at hg; simp at hg
    | some s=>
     rw [hcg] at hg hz
     simp only at hg hz
     cases hs':dY p s.1 s.2 t with
     | none=>rw [hs'] at hz; simp at hz
     | some u=>
      rw [hs'] at hz
      simp only at hz
      cases hcp:cz n c x u with
      | none=>rw [hcp] at hz; simp at hz
      | some y=>
       rw [hcp] at hz
       simp only [Option.some.injEq] at hz
       subst hz
       obtain ⟨g1,g2⟩:=ih hg hs'
       obtain ⟨f1,f2⟩:=Q3 (own:=own) n hcg hcp
       have hpt:ah (.gB n :: p) (.st c)=ah p s.1:=by simp [ah,bU n hcg]
       rw [hpt]
       exact ⟨fun e he=>(g1 e he).imp (f1 e) id,fun h=>f2 (g2 h)⟩
   | _=>simp [aT] at hg
  | idx i=>
   cases k with
   | sl e k=>
    simp only [aT,dY] at hg hz
    cases hs':dY p k ((show List (El k) from x).getD i.toNat k.zero) t with
    | none=>rw [hs'] at hz; simp at hz
    | some u=>
     rw [hs'] at hz
     simp only at hz
     cases hck:bP u.1 k u.2 with
     | none=>rw [hck] at hz; simp at hz
     | some y=>
      rw [hck] at hz
      simp only [Option.some.injEq] at hz
      subst hz
      obtain ⟨g1,g2⟩:=ih hg hs'
      have huk:u.1=k:=by
       unfold bP at hck
       split at hck
       ·rename_i hb; exact K.eq_of_beq hb
       ·simp at hck
      refine ⟨fun e' he=>?_,fun _ e' he=>he⟩
      cases hm:ay e own with
      | false=>exact .inr ⟨e,by simp [ah],hm⟩
      | true=>
       rcases g1 e' he with h | ⟨q,h1,h2⟩
       ·exact .inl (by simp only [aU,hm,cond_true]; rw [←huk]; exact h)
       ·exact .inr ⟨q,by simp [ah,h1],h2⟩
   | _=>simp [aT] at hg
theorem OV:∀(n:Nat) {c:K} {x y:El c} {s:Dat},aN n c x=some s→∃t:Dat,aN n c y=some t∧t.1=s.1:=by
 intro n
 induction n with
 | zero=>
  intro c x y s h
  cases c <;> first | (simp only [aN,Option.some.injEq] at h; subst h; exact ⟨_,rfl,rfl⟩) | simp [aN] at h
 | succ n ih=>
  intro c x y s h
  cases c <;> first | exact ih h | simp [aN] at h
theorem Ur:∀(n:Nat) {c:K} {x:El c} {s:Dat},aN n c x=some s→∀t∈s.1.tys,t∈c.tys:=by
 intro n
 induction n with
 | zero=>
  intro c x s h t ht
  cases c with
  | pair a b=>simp only [aN,Option.some.injEq] at h; subst h; simp [K.tys,ht]
  | _=>simp [aN] at h
 | succ n ih=>
  intro c x s h t ht
  cases c with
  | pair a b=>simp only [aN] at h; simp [K.tys,ih h t ht]
  | _=>simp [aN] at h
theorem wJ {h h':Heap} {own:List TypeId}:∀(q:List Stp) {k:K} {x y:El k} {cs cs':List Value} {wh:Option (Nat×Nat)} {c0:List Value} {w0:Option (Nat×Nat)},
  nR q k x→(∀t∈ah q k,ay t own=true∧t∉k.tys)→bE h q k cs wh=some (c0,w0)→nR q k y∧∃c1,bE h' q k cs' wh=some (c1,w0):=by
 intro q
 induction q with
 | nil=>
  intro k x y cs cs' wh c0 w0 _ _ hn
  simp only [bE,Option.some.injEq,Prod.mk.injEq] at hn ⊢
  exact ⟨trivial,_,rfl,hn.2⟩
 | cons s q ih=>
  intro k x y cs cs' wh c0 w0 hp ht hn
  cases s with
  | gB n=>
   cases k with
   | st c=>
    simp only [nR] at hp
    cases hg:aN n c x with
    | none=>rw [hg] at hp; exact hp.elim
    | some s=>
     rw [hg] at hp
     simp only at hp
     have hpt:ah (.gB n :: q) (.st c)=ah q s.1:=by simp [ah,bU n hg]
     rw [hpt] at ht
     obtain ⟨t,g1,g2⟩:=OV n (c:=c) (x:=x) (y:=y) hg
     obtain ⟨sk,sx⟩:=s
     obtain ⟨tk,ty⟩:=t
     simp only at g2
     subst g2
     simp only [bE] at hn ⊢
     cases ho:bC n c with
     | none=>rw [ho] at hn; simp at hn
     | some q2=>
      rw [ho] at hn
      simp only at hn
      have hk2:q2.2=tk:=by
       have key:∀(n:Nat) {c:K} {x:El c} {s:Dat} {q:Nat×K},aN n c x=some s→bC n c=some q→q.2=s.1:=by
        intro n
        induction n with
        | zero=>intro c x s q h1 h2; cases c with
         | pair a b=>simp only [aN,bC,Option.some.injEq] at h1 h2; subst h1; subst h2; rfl
         | _=>simp [aN] at h1
        | succ n ih=>intro c x s q h1 h2; cases c with
         | pair a b=>
          simp only [aN,bC] at h1 h2
          cases h3:bC n b with
          | none=>rw [h3] at h2; simp at h2
          | some q3=>rw [h3] at h2; simp only [Option.some.injEq] at h2; subst h2; exact ih (q:=q3) h1 h3
         | _=>simp [aN] at h1
       exact key n hg ho
      obtain ⟨o2,k2⟩:=q2
      simp only at hk2
      subst hk2
      simp only [nR,g1]
      exact ih hp (fun t h=>⟨(ht t h).1,fun h2=>(ht t h).2 (Ur n hg t h2)⟩) hn
   | _=>simp [nR] at hp
  | idx i=>
   cases k with
   | sl e k=>exact absurd (by simp [K.tys]) (ht e (by simp [ah])).2
   | _=>simp [nR] at hp
theorem Fp {h:Heap} {b o n:Nat} {arr:Array Value} {e:TypeId} {fr:Nat×Nat} (hb:h b=some (.cells arr e fr)) (hl:o+n≤arr.size):Cells h b o (qI h b o n):=by
 intro i hi
 simp only [qI,List.length_map,List.length_range] at hi ⊢
 rw [List.getElem?_map,List.getElem?_range hi]
 simp only [Option.map_some]
 unfold cellAt
 rw [hb]
 simp [show o+i<arr.size by omega]
theorem gH.widen {h0 h h':Heap} {b o n o' n':Nat} (H0:gH h0 h b o n) (H:gH h h' b o' n') (h1:o≤o') (h2:o'+n'≤o+n):gH h0 h' b o n:=by
 obtain ⟨a0,a1,e,fr,g1,g2,g3,g4⟩:=H0
 obtain ⟨b0,b1,e',fr',f1,f2,f3,f4⟩:=H
 rw [g2] at f1
 simp only [Option.some.injEq,Obj.cells.injEq] at f1
 obtain ⟨rfl,rfl,rfl⟩:=f1
 exact ⟨a0,b1,e,fr,g1,f2,f3.trans g3,fun i hi=>(f4 i (by omega)).trans (g4 i hi)⟩
theorem cK {l m:List Tag} {t:Tag}:t∈iL l m↔t∈l∨t∈m:=by
 induction l with
 | nil=>simp [iL]
 | cons s l ih=>
  obtain ⟨r,n⟩:=s
  simp only [iL]
  cases h:m.any fun t=>Nat.beq t.1 r && Nat.beq t.2 n with
  | true=>
   simp only [cond_true,ih,List.mem_cons]
   constructor
   ·intro h; exact h.imp .inr id
   ·rintro ((h1 | h1) | h1)
    ·subst h1
     obtain ⟨t,h2,h3⟩:=List.any_eq_true.1 h
     simp only [Bool.and_eq_true] at h3
     obtain ⟨tr,tn⟩:=t
     have:=Nat.eq_of_beq_eq_true h3.1
     have:=Nat.eq_of_beq_eq_true h3.2
     simp_all
    ·exact .inl h1
    ·exact .inr h1
  | false=>simp only [cond_false,ih,List.mem_cons,or_assoc]
theorem qg {r:Nat} {l:List Tag} {t:Tag}:t∈yl r l↔t∈l∧t.1≠r:=by
 unfold yl
 rw [List.mem_filter]
 constructor
 ·rintro ⟨h1,h2⟩
  refine ⟨h1,fun e=>?_⟩
  rw [e] at h2
  simp at h2
 ·rintro ⟨h1,h2⟩
  refine ⟨h1, ?_⟩
  cases hb:Nat.beq t.1 r with
  | true=>exact absurd (Nat.eq_of_beq_eq_true hb) h2
  | false=>rfl
section
variable {cx:Cx} {σ:St} {α:dK} {F:List Nat} {a:Act} {w:World} {r:Nat} {R:Root}
theorem xE {T T':List Tag} {b:Nat} (h:iO cx σ α F w T b) (hs:∀t∈T,t∈T'):iO cx σ α F w T' b:=
 ⟨h.1,h.2.1,h.2.2.1,fun r R h1 h2=>by obtain ⟨n,hn⟩:=h.2.2.2.1 r R h1 h2; exact ⟨n,hs _ hn⟩,fun hb=>(h.2.2.2.2 hb).imp (fun ⟨j,n,h1,h2⟩=>⟨j,n,hs _ h1,h2⟩) id⟩
theorem uD {T T':List Tag} {tys aho:List TypeId} (h:bg σ tys T=true) (hs:∀t∈T',t∈T) (ht:∀t∈aho,t∈tys):bg σ aho T'=true:=by
 rw [pz] at h ⊢
 intro t h1
 rcases h t (hs t h1) with h | ⟨R,h2,h3,h4⟩
 ·exact .inl h
 ·refine .inr ⟨R,h2,h3, ?_⟩
  unfold clean at h4 ⊢
  rw [List.all_eq_true] at h4 ⊢
  intro x hx
  have:=h4 x hx
  simp only [Bool.not_eq_true',aW] at this ⊢
  exact fun h=>this (ht x h)
theorem pE (H:Rel cx σ α F a w) (hr:aP σ r R) {b:Nat} (hb:b∈α.fo r):¬lW cx b:=by
 rintro ⟨j,pi,o,n,h1,h2⟩
 obtain ⟨Q,hQ,hk,hl,_⟩:=H.mg j pi b o n h1 h2
 have hbq:b∈blk α Q (au j):=by simp [blk,dW,hk,hl]
 have hbr:b∈blk α R r:=List.mem_append_right _ hb
 by_cases e:r=au j
 ·subst e
  have hQR:Q=R:=by have:=hQ.1; rw [hr.1] at this; simpa using this.symm
  subst hQR
  have hnd:=(H.roots _ _ hr).nd
  rw [bS,nK] at hnd
  exact hnd.1 b o (by simp [xY,hk,hl]) hb
 ·exact H.KL _ _ _ _ hr hQ e b hbr hbq
theorem uu (H:Rel cx σ α F a w) {b:Nat} (hb:b∈F):¬lW cx b:=by
 rintro ⟨j,pi,o,n,h1,h2⟩
 obtain ⟨Q,hQ,hk,hl,_⟩:=H.mg j pi b o n h1 h2
 have hbq:b∈blk α Q (au j):=by simp [blk,dW,hk,hl]
 exact H.jo _ _ hQ b hbq hb
def bG (R:Root) (z:Dat) (own:List TypeId) (tags:List Tag) (lw lh:List TypeId) (kp:Bool):Root:=
 { R with k:=z.1,x:=z.2,own:=own,tags:=tags,w:=lw++R.w,h:=lh++R.h,keep:=kp }
theorem qH (H:Rel cx σ α F a w) (hr:aP σ r R) (hv:bq σ R) {p:List Stp} {d:Dat} (hg:aT p R.k R.x=some d) (fP:nR p R.k R.x) (hown:∀t∈ah p R.k,ay t R.own=true)
  {cs1:List Value} {b o:Nat} (hn:bE (hp w) p R.k (α.hdr r) (dW α R r)=some (cs1,some (b,o))) :
  Cells (hp w) b o cs1∧(∃fU,Ow (hp w) R.own (iO cx σ α F w R.tags) d.1 d.2 cs1 fU∧∀b∈fU,b∈α.fo r)∧b∈blk α R r∧(∃arr e lo hi,hp w b=some (.cells arr e (lo,hi))∧(∀i,i<arr.size→¬(lo≤i∧i<hi))∧o+d.1.size≤arr.size∧((eO R p=e∧¬lW cx b)∨(lW cx b∧eO R p=SENT)))∧
   (∀b' o',dW α R r=some (b',o')→b=b'→o'≤o∧o+d.1.size≤o'+R.k.size):=by
 have K:=H.roots r R hr
 have hnd:=K.nd
 rw [bS,nK] at hnd
 obtain ⟨qA,fU,rest,nS,hn',hp1,hd1,hc1,hin,hnone,hup⟩:=focus p (K.ow hv) (fun b o e=>(K.mem b o e).1) hg fP hown hnd.2 (fun b o e=>hnd.1 b o e)
 rw [hn] at hn'
 simp only [Option.some.injEq,Prod.mk.injEq] at hn'
 obtain ⟨rfl,rfl⟩:=hn'
 refine ⟨hc1 b o rfl,⟨fU,hd1,fun b hb=>hp1.mem_iff.2 (List.mem_append_left _ hb)⟩, ?_, ?_, ?_⟩
 ·rw [bS,eX]
  rcases hin b o rfl with ⟨_,o0,ew,_⟩ | ⟨h1,_⟩
  ·exact .inl ⟨o0,ew⟩
  ·exact .inr (hp1.mem_iff.2 (List.mem_append_right _ h1))
 ·rcases hin b o rfl with ⟨h0,o0,ew,h1,h2⟩ | ⟨h1,arr,e,lo,hi,h2,h3,h4,h5⟩
  ·obtain ⟨_,arr,e,lo,hi,g1,g2,g3,g4⟩:=K.mem b o0 ew
   refine ⟨arr,e,lo,hi,g1,g2,by omega, ?_⟩
   unfold eO
   rw [h0]
   simp only [List.getLastD_nil]
   unfold Root.bt
   cases hk:R.kind with
   | var t=>
    refine .inl ⟨(g4 t hk).symm, ?_⟩
    rintro ⟨j,pi,o',n',h1',h2'⟩
    obtain ⟨Q,hQ,hkQ,hlQ,_⟩:=H.mg j pi b o' n' h1' h2'
    have hbq:b∈blk α Q (au j):=by simp [blk,dW,hkQ,hlQ]
    have hbr:b∈blk α R r:=by rw [bS,eX]; exact .inl ⟨o0,ew⟩
    by_cases e:r=au j
    ·subst e
     have hQR:Q=R:=by have:=hQ.1; rw [hr.1] at this; simpa using this.symm
     subst hQR
     rw [hk] at hkQ
     simp at hkQ
    ·exact H.KL _ _ _ _ hr hQ e b hbr hbq
   | par=>
    obtain ⟨j,pi,n,hj1,hj2,hj3⟩:=H.H6 r R hr hk
    have:(α.loc r).1=b:=by
     have:=ew
     unfold dW at this
     rw [hk] at this
     simp only [Option.some.injEq] at this
     rw [this]
    exact .inr ⟨⟨j,pi,_,n,hj2,by rw [hj3,this]⟩,rfl⟩
   | anon=>unfold dW at ew; rw [hk] at ew; simp at ew
   | dead=>unfold dW at ew; rw [hk] at ew; simp at ew
  ·refine ⟨arr,e,lo,hi,h2,h3,h5, .inl ⟨?_,pE H hr (hp1.mem_iff.2 (List.mem_append_right _ h1))⟩⟩
   unfold eO
   rw [List.getLastD_eq_getLast?,h4]
   rfl
 ·intro b' o' ew e
  subst e
  rcases hin b o rfl with ⟨_,o0,ew',h1,h2⟩ | ⟨h1,_⟩
  ·rw [ew] at ew'
   simp only [Option.some.injEq,Prod.mk.injEq,true_and] at ew'
   subst ew'
   exact ⟨h1,h2⟩
  ·exact absurd (hp1.mem_iff.2 (List.mem_append_right _ h1)) (hnd.1 b o' ew)
end
end Go.Proofs.YtailcbngagacaabGreat.Ow

/- The framework, part 12: the turn of a place. Own work of this seat. -/
namespace Go.Proofs.YtailcbngagacaabGreat.Ow
open Go
variable [Fr]
section
variable {cx:Cx} {σ:St} {α:dK} {F:List Nat} {a:Act} {w:World} {r:Nat} {R:Root}
structure uB (cx:Cx) (σ:St) (α:dK) (F:List Nat) (w:World) (r:Nat) (R:Root) (p:List Stp) (d:Dat) (own':List TypeId) (cs1:List Value) (nS:Option (Nat×Nat)) (fU rest:List Nat)
  (t z:Dat) (tags':List Tag) (lw lh:List TypeId) (kp:Bool) (ft F':List Nat) (cs':List Value) (w':World):Prop where
 hz:dY p R.k R.x t=some z
 ht:t.1.size=d.1.size
 VH:∀e∈aU own' d.1,e∈aU own' t.1
 os:w'.os=w.os∧w'.tape=w.tape∧w'.output=w.output
 size:w.heap.size≤w'.heap.size
 Qn:∀b,b<w.heap.size→hp w' b≠hp w b→b∈F∨(b∈fU∧∃e∈lw,rV (hp w) b=some e)∨(∃o,nS=some (b,o)∧eO R p∈lw)
 cells:∀b o,nS=some (b,o)→Cells (hp w') b o cs'∧gH (hp w) (hp w') b o d.1.size
 none:nS=none→cs'=cs1
 len:cs'.length=d.1.size
 log:lw≠[]∨lh≠[]
 tags:(∀t∈R.tags,t∈tags')∧fA σ tags'∧∀n,(r,n)∉tags'
 TA:∀b∈ft,b∈fU∨b∈F∨(w.heap.size≤b∧b<w'.heap.size)
 akk:ft.Nodup
 newF:∀b∈F',b∈F∨(w.heap.size≤b∧b<w'.heap.size)∨(b∈fU∧∃e∈lw,rV (hp w) b=some e)
 ai3:F'.Nodup
 akj:∀b∈ft,b∉F'
 als:vI t.1=vI d.1∨nS≠Option.none
 akm:t.1=d.1∨(∀q',(aT q' t.1 t.2).isSome=true→(∀e∈ah q' t.1,e∉lh)→ah q' d.1=ah q' t.1∧(aT q' d.1 d.2).isSome=true)∨ry∈lh
 nav:ry∉lh→Ie (hp w) (hp w') own' d.1 d.2 cs1 nS t cs' lh
 cont:∀α',mW cx σ α F w (az σ r (bG R z own' tags' lw lh kp)) α' F' w' (uI r lw) (uI r lh)→(∀b∈blk α' (bG R z own' tags' lw lh kp) r,(∃o,dW α R r=some (b,o))∨b∈ft∨b∈rest)→
  bq (az σ r (bG R z own' tags' lw lh kp)) (bG R z own' tags' lw lh kp)→Ow (hp w') own' (iO cx (az σ r (bG R z own' tags' lw lh kp)) α' F' w' tags') t.1 t.2 cs' ft
theorem Rel.place (H:Rel cx σ α F a w) (hr:aP σ r R) (hv:bq σ R) {p:List Stp} {d:Dat} {own':List TypeId} (hg:aT p R.k R.x=some d) (fP:nR p R.k R.x)
  (hsub:∀t,ay t own'=true→ay t R.own=true) (hown:∀t∈ah p R.k,ay t own'=true) :
  ∃fd ok' fU rest cs1 nS,bE (hp w) p R.k (α.hdr r) (dW α R r)=some (cs1,nS)∧(α.fo r).Perm (fU++rest++fd)∧Ow (hp w) own' ok' d.1 d.2 cs1 fU∧(∀b∈fU++rest,∃e∈R.k.tys,ay e own'=true∧rV (hp w) b=some e)∧
   ((∀t∈R.k.tys,ay t own'=ay t R.own)→fd=[]∧Ow (hp w) own' (iO cx σ α F w R.tags) d.1 d.2 cs1 fU)∧
   (∀b o,nS=some (b,o)→b∈rest∨∃o0,dW α R r=some (b,o0)∧o0≤o∧o+d.1.size≤o0+R.k.size)∧(∀b o,nS=some (b,o)→b∉fU)∧
   ∀{t z:Dat} {tags':List Tag} {lw lh:List TypeId} {kp:Bool} {ft F':List Nat} {cs':List Value} {w':World},uB cx σ α F w r R p d own' cs1 nS fU rest t z tags' lw lh kp ft F' cs' w'→
    ∃α',Rel cx (az σ r (bG R z own' tags' lw lh kp)) α' F' a w'∧mW cx σ α F w (az σ r (bG R z own' tags' lw lh kp)) α' F' w' (uI r lw) (uI r lh)∧(∀b∈blk α' (bG R z own' tags' lw lh kp) r,(∃o,dW α R r=some (b,o))∨b∈ft∨b∈rest)∧
     (ry∉lh→bq (az σ r (bG R z own' tags' lw lh kp)) (bG R z own' tags' lw lh kp)→bE (hp w') p z.1 (α'.hdr r) (dW α' (bG R z own' tags' lw lh kp) r)=some (cs',nS))∧∀b∈ft,b∈α'.fo r:=by
 have K:=H.roots r R hr
 have hnd:=K.nd
 rw [bS,nK] at hnd
 have hO:=K.ow hv
 obtain ⟨LM,fd,hpK,hOK,hfd0⟩:∃LM fd,(α.fo r).Perm (LM++fd)∧Ow (hp w) own' (fun b=>(iO cx σ α F w R.tags b∨b∈fd)∧∃t∈aU own' R.k,xm (hp w) b t) R.k R.x (α.hdr r) LM∧((∀t∈R.k.tys,ay t own'=ay t R.own)→fd=[]):=by
  by_cases hall:∀t∈R.k.tys,ay t own'=ay t R.own
  ·exact ⟨α.fo r,[],by simp,uA _ (fun _ h=>h) (bD (fun _ _=>rfl) (fun _ h=>.inl h) (fun _ _=>rfl) (u7 hall hO)),fun _=>rfl⟩
  ·obtain ⟨LM,fd,h1,h2⟩:=wF (own':=own') (fun t _ h=>hsub t h) hO
   exact ⟨LM,fd,h1,uA _ (fun _ h=>h) h2,fun h=>absurd h hall⟩
 have ac4:=hpK.nodup hnd.2
 have akM:∀b,b∈α.fo r↔b∈LM∨b∈fd:=fun b=>by rw [hpK.mem_iff,List.mem_append]
 obtain ⟨cs1,fU,rest,nS,hn,hp1,hd1,hc1,hin,hnone,hup⟩:=focus p hOK (fun b o e=>(K.mem b o e).1) hg fP hown (List.nodup_append.1 ac4).1 (fun b o e hb=>hnd.1 b o e ((akM b).2 (.inl hb)))
 have hpf:(α.fo r).Perm (fU++rest++fd):=hpK.trans (List.Perm.append_right _ hp1)
 have hfo:∀b,b∈α.fo r↔(b∈fU∨b∈rest)∨b∈fd:=fun b=>by rw [hpf.mem_iff,List.mem_append,List.mem_append]
 have UT:=hpf.nodup hnd.2
 have Pm:=(List.nodup_append.1 UT).1
 have alm:=vB hOK
 have Az:∀b o,nS=some (b,o)→b∈rest∨∃o0,dW α R r=some (b,o0)∧o0≤o∧o+d.1.size≤o0+R.k.size:=by
  intro b o e
  rcases hin b o e with ⟨_,o0,ew,h1,h2⟩ | ⟨h1,_⟩
  ·exact .inr ⟨o0,ew,h1,h2⟩
  ·exact .inl h1
 have adj:∀b o,nS=some (b,o)→b∉fU:=by
  intro b o e hb
  rcases Az b o e with h | ⟨o0,ew,_⟩
  ·exact (List.nodup_append.1 Pm).2.2 b hb b h rfl
  ·exact hnd.1 b o0 ew ((hfo b).2 (.inl (.inl hb)))
 have ag1:∀b o,nS=some (b,o)→b∉fd:=by
  intro b o e hb
  rcases Az b o e with h | ⟨o0,ew,_⟩
  ·exact (List.nodup_append.1 UT).2.2 b (List.mem_append_right _ h) b hb rfl
  ·exact hnd.1 b o0 ew ((hfo b).2 (.inr hb))
 refine ⟨fd,_,fU,rest,cs1,nS,hn,hpf,hd1,fun b hb=>alm b (hp1.mem_iff.2 hb), ?_,Az,adj, ?_⟩
 ·intro hall
  have h0:=hfd0 hall
  refine ⟨h0,bD (fun _ _=>rfl) (fun b hb=>?_) (fun _ _=>rfl) hd1⟩
  rcases hb.1 with hb | hb
  ·exact hb
  ·rw [h0] at hb; simp at hb
 intro t z tags' lw lh kp ft F' cs' w' P
 generalize hR':bG R z own' tags' lw lh kp=R' at *
 have Ez:R'.k=z.1:=by rw [←hR']; rfl
 have hkind:R'.kind=R.kind:=by rw [←hR']; rfl
 have ags:R'.aX=false:=by rw [U2 hkind]; exact hr.2
 have age:R'.own=own':=by rw [←hR']; rfl
 have Xe:R'.tags=tags':=by rw [←hR']; rfl
 have hRg:R'.g=R.g:=by rw [←hR']; rfl
 have hRw:R'.w=lw++R.w:=by rw [←hR']; rfl
 have hRh:R'.h=lh++R.h:=by rw [←hR']; rfl
 have hsz:z.1.size=R.k.size:=Gj p hg P.ht P.hz
 have jD:∀b,b∈fU∨b∈rest∨b∈fd∨(∃o,dW α R r=some (b,o))→b∈blk α R r:=by
  intro b hb
  rw [bS,eX,hfo]
  rcases hb with h | h | h | h
  ·exact .inr (.inl (.inl h))
  ·exact .inr (.inl (.inr h))
  ·exact .inr (.inr h)
  ·exact .inl h
 have Hz:∀b∈blk α R r,b∉F:=fun b hb=>H.jo r R hr b hb
 have hblt:∀b∈blk α R r,b<w.heap.size:=fun b hb=>(K.mine b hb).1
 have acP:∀b∈blk α R r,b∉fU→b∉F':=fun b hb hno h=>by
  rcases P.newF b h with h | h | h
  ·exact Hz b hb h
  ·have:=hblt b hb; omega
  ·exact hno h.1
 have XG:∀b∈blk α R r,b∉fU→(∀o,nS≠some (b,o))→hp w' b=hp w b:=by
  intro b hb h1 h2
  refine Classical.byContradiction fun hne=>?_
  rcases P.Qn b (hblt b hb) hne with h | ⟨h,_⟩ | ⟨o,h,_⟩
  ·exact Hz b hb h
  ·exact h1 h
  ·exact h2 o h
 have ZJ:∀b∈fd,hp w' b=hp w b:=fun b hb=>XG b (jD b (.inr (.inr (.inl hb))))
  (fun h=>(List.nodup_append.1 UT).2.2 b (List.mem_append_left _ h) b hb rfl) (fun o e=>ag1 b o e hb)
 have UX:∀b∈rest,nS.map (·.1)≠some b→hp w' b=hp w b:=fun b hb hne=>XG b (jD b (.inr (.inl hb)))
  (fun h=>(List.nodup_append.1 Pm).2.2 b h b hb rfl) (fun o e=>hne (by rw [e]; rfl))
 have Tq:∀b o,dW α R r=some (b,o)→nS.map (·.1)≠some b→hp w' b=hp w b:=fun b o e hne=>XG b (jD b (.inr (.inr (.inr ⟨o,e⟩))))
  (fun h=>hnd.1 b o e ((hfo b).2 (.inl (.inl h)))) (fun o e=>hne (by rw [e]; rfl))
 let hdr':=match dW α R r with
  | some (b0,o0)=>qI (hp w') b0 o0 R.k.size
  | none=>α.hdr r
 have hT1:BL cx σ α F w r R R' (ft++rest) F' w' lw lh:=by
  refine ⟨.inr ⟨hRw,hRh,by rw [hRg]; exact Nat.le_refl _,hkind,fun _=>by rw [Ez]; exact hsz,P.log⟩,by rw [Xe]; exact P.tags.2,P.os,P.size, ?_, ?_, ?_,P.ai3, ?_, ?_,fun _=>by rw [←hR']; exact ⟨rfl,rfl⟩⟩
  ·intro b hb hne
   rcases P.Qn b hb hne with h | ⟨h,h2⟩ | ⟨o,h,h2⟩
   ·exact .inl h
   ·exact .inr ⟨jD b (.inl h), .inr (.inl h2)⟩
   ·have hbb:b∈blk α R r:=jD b (by
     rcases Az b o h with h | ⟨o0,ew,_⟩
     ·exact .inr (.inl h)
     ·exact .inr (.inr (.inr ⟨o0,ew⟩)))
    refine .inr ⟨hbb, .inr ?_⟩
    rcases hin b o h with ⟨h0,o0,ew,_⟩ | ⟨_,arr,e,lo,hi,g1,_,g3,_⟩
    ·
     obtain ⟨_,arr,e,lo,hi,g1,g2,g3,g4⟩:=K.mem b o0 ew
     unfold eO at h2
     rw [h0] at h2
     simp only [List.getLastD_nil] at h2
     cases hk:R.kind with
     | var tv=>
      refine .inl ⟨tv, ?_, ?_⟩
      ·unfold Root.bt at h2; rw [hk] at h2; exact h2
      ·unfold rV; rw [g1]; simp [g4 tv hk]
     | par=>
      obtain ⟨j,pi,n,hj1,hj2,hj3⟩:=H.H6 r R hr hk
      have:(α.loc r).1=b:=by
       have:=ew
       unfold dW at this
       rw [hk] at this
       simp only [Option.some.injEq] at this
       rw [this]
      exact .inr ⟨⟨j,pi,_,n,hj2,by rw [hj3,this]⟩,fun e=>by rw [e] at h2; simp at h2⟩
     | anon=>unfold dW at ew; rw [hk] at ew; simp at ew
     | dead=>unfold dW at ew; rw [hk] at ew; simp at ew
    ·refine .inl ⟨e, ?_,by unfold rV; rw [g1]⟩
     unfold eO at h2
     rw [List.getLastD_eq_getLast?,g3] at h2
     exact h2
  ·intro _ b hb
   rw [pq hkind,eX,List.mem_append] at hb
   rcases hb with ⟨o,h⟩ | h | h
   ·exact .inl (jD b (.inr (.inr (.inr ⟨o,h⟩))))
   ·rcases P.TA b h with h | h | h
    ·exact .inl (jD b (.inl h))
    ·exact .inr (.inl h)
    ·exact .inr (.inr h)
   ·exact .inl (jD b (.inr (.inl h)))
  ·intro b hb
   rcases P.newF b hb with h | h | h
   ·exact .inl h
   ·exact .inr (.inl h)
   ·exact .inr (.inr ⟨jD b (.inl h.1), .inr (.inl h.2)⟩)
  ·intro _ b hb
   rw [pq hkind,eX,List.mem_append] at hb
   rcases hb with ⟨o,h⟩ | h | h
   ·exact acP b (jD b (.inr (.inr (.inr ⟨o,h⟩)))) (fun h1=>hnd.1 b o h ((hfo b).2 (.inl (.inl h1))))
   ·exact P.akj b h
   ·exact acP b (jD b (.inr (.inl h))) (fun h1=>(List.nodup_append.1 Pm).2.2 b h1 b h rfl)
  ·intro j pi b o n hj hb hrj hne
   obtain ⟨Q,hQ,hk,hl,hs⟩:=H.mg j pi b o n hj hb
   have hQR:Q=R:=by have:=hQ.1; rw [←hrj,hr.1] at this; simpa using this.symm
   subst hQR
   have hwb:dW α Q r=some (b,o):=by unfold dW; rw [hk,hrj,hl]
   have hbb:=jD b (.inr (.inr (.inr ⟨o,hwb⟩)))
   obtain ⟨_,_,_,_,_,f6⟩:=H.frame
   have h0:=f6 j pi b o n hj hb
   rcases P.Qn b (hblt b hbb) hne with h | ⟨h,_⟩ | ⟨o',h,_⟩
   ·exact absurd h (Hz b hbb)
   ·exact absurd ((hfo b).2 (.inl (.inl h))) (hnd.1 b o hwb)
   ·rcases Az b o' h with h1 | ⟨o0,ew,h1,h2⟩
    ·exact absurd ((hfo b).2 (.inl (.inr h1))) (hnd.1 b o hwb)
    ·rw [hwb] at ew
     simp only [Option.some.injEq,Prod.mk.injEq,true_and] at ew
     subst ew
     exact h0.widen (P.cells b o' h).2 h1 (by omega)
 have hT:=hT1.turn (hdr':=hdr') H hr
 have hblk':∀b∈blk (aH α r (α.loc r) hdr' (ft++rest)) R' r,(∃o,dW α R r=some (b,o))∨b∈ft∨b∈rest:=by
  intro b hb
  rw [eD,pq hkind,eX,List.mem_append] at hb
  exact hb
 have hwhole:bq (az σ r R') R'→Ow (hp w') own' (iO cx (az σ r R') (aH α r (α.loc r) hdr' (ft++rest)) F' w' tags') z.1 z.2 hdr' (ft++rest)∧
   (ry∉lh→(t.1=d.1→z.1=R.k)∧Ie (hp w) (hp w') own' R.k R.x (α.hdr r) (dW α R r) z hdr' lh∧bE (hp w') p z.1 hdr' (dW α R r)=some (cs',nS)):=by
  intro hv'
  have hcont:=P.cont _ (by rw [hR']; exact hT) (by rw [hR']; exact hblk') (by rw [hR']; exact hv')
  rw [hR'] at hcont
  have VH:∀e∈aU own' R.k,e∈R'.Db:=by
   unfold Root.Db
   rw [age,Ez]
   exact (MI p hg P.hz).2 P.VH
  have hc2:=hv'.2
  rw [Xe] at hc2
  obtain ⟨_,hV,_⟩:=hT.views H R.tags (aU own' R.k) (H.dz r R hr.1).1 (uD hc2 P.tags.1 VH)
  have hok:∀b,((iO cx σ α F w R.tags b∨b∈fd)∧∃t∈aU own' R.k,xm (hp w) b t)→iO cx (az σ r R') (aH α r (α.loc r) hdr' (ft++rest)) F' w' tags' b∧hp w' b=hp w b:=by
   rintro b ⟨hb,hty⟩
   rcases hb with hb | hb
   ·obtain ⟨h1,h2⟩:=hV b hb (.inl hty)
    exact ⟨xE h1 P.tags.1,h2⟩
   ·have hbb:=jD b (.inr (.inr (.inl hb)))
    refine ⟨⟨Nat.lt_of_lt_of_le (hblt b hbb) P.size,acP b hbb (fun h1=>(List.nodup_append.1 UT).2.2 b (List.mem_append_left _ h1) b hb rfl),pE H hr ((hfo b).2 (.inr hb)), ?_, ?_⟩,ZJ b hb⟩
    ·intro q Q hq hbq
     exfalso
     rcases jq hq with ⟨rfl,rfl,_⟩ | ⟨e,hq'⟩
     ·rcases hblk' b hbq with ⟨o,h⟩ | h | h
      ·exact hnd.1 b o h ((hfo b).2 (.inr hb))
      ·rcases P.TA b h with h | h | h
       ·exact (List.nodup_append.1 UT).2.2 b (List.mem_append_left _ h) b hb rfl
       ·exact Hz b hbb h
       ·have:=hblt b hbb; omega
      ·exact (List.nodup_append.1 UT).2.2 b (List.mem_append_right _ h) b hb rfl
     ·rw [(gV (α:=α) (σ:=σ) (R:=R') e).blk] at hbq
      exact H.KL _ _ _ _ hr hq' (Ne.symm e) b hbb hbq
    ·intro hb0
     rcases (K.mine b hbb).2 with h | ⟨j,pi,h1,h2⟩
     ·omega
     ·exact .inr ⟨j,pi,h1,h2⟩
  obtain ⟨csn,hl0,JK,hC',hN',hK'⟩:=hup.go (hp w') (iO cx (az σ r R') (aH α r (α.loc r) hdr' (ft++rest)) F' w' tags') t cs' ft z P.hz P.len hcont hok UX P.cells P.none Tq
  have agr:csn=hdr':=by
   cases hw:dW α R r with
   | none=>
    have:hdr'=α.hdr r:=by simp only [hdr']; rw [hw]
    rw [this]
    exact hN' hw
   | some q=>
    have:hdr'=qI (hp w') q.1 q.2 R.k.size:=by simp only [hdr']; rw [hw]
    rw [this]
    have h1:=gY (hC' q.1 q.2 hw)
    rw [hl0,K.len] at h1
    exact h1.symm
  rw [agr] at JK
  refine ⟨JK,fun Ay=>?_⟩
  have:=hK' lh P.ht (P.nav Ay)
  rw [agr] at this
  exact ⟨this.1,this.2.2⟩
 refine ⟨aH α r (α.loc r) hdr' (ft++rest),hT1.rel H hr ?_ ?_ ?_,hT,hblk',fun hgn hv'=>by
  have h3:=((hwhole hv').2 hgn).2.2
  have XJ:dW (aH α r (α.loc r) hdr' (ft++rest)) R' r=dW α R r:=by rw [jH,wT hkind, ←vO]
  have RB:(aH α r (α.loc r) hdr' (ft++rest)).hdr r=hdr':=by simp [aH,upd_same]
  rw [XJ,RB]
  exact h3,fun b hb=>by
  have akL:(aH α r (α.loc r) hdr' (ft++rest)).fo r=ft++rest:=by simp [aH,upd_same]
  rw [akL]
  exact List.mem_append_left _ hb⟩
 ·intro _
  refine ⟨fun hv'=>?_, ?_, ?_, ?_⟩
  ·have:=(hwhole hv').1
   subst hR'
   exact this
  ·rw [Ez,hsz]
   simp only [hdr']
   cases hw:dW α R r with
   | none=>exact K.len
   | some q=>simp [qI]
  ·intro b o hb
   rw [wT hkind, ←vO] at hb
   have hh:hdr'=qI (hp w') b o R.k.size:=by simp only [hdr']; rw [hb]
   obtain ⟨_,arr,e,lo,hi,g1,g2,g3,g4⟩:=K.mem b o hb
   have hnew:∃kE,hp w' b=some (.cells kE e (lo,hi))∧kE.size=arr.size:=by
    by_cases hbw:nS.map (·.1)=some b
    ·cases adi:nS with
     | none=>rw [adi] at hbw; simp at hbw
     | some q=>
      rw [adi] at hbw
      simp only [Option.map_some,Option.some.injEq] at hbw
      obtain ⟨a1,a2,te,fr,f1,f2,f3,_⟩:=(P.cells q.1 q.2 adi).2
      rw [hbw] at f1 f2
      rw [g1] at f1
      simp only [Option.some.injEq,Obj.cells.injEq] at f1
      obtain ⟨rfl,rfl,rfl⟩:=f1
      exact ⟨a2,f2,f3⟩
    ·exact ⟨arr,(Tq b o hb hbw).trans g1,rfl⟩
   obtain ⟨kE,f1,f2⟩:=hnew
   refine ⟨?_,kE,e,lo,hi,f1,by rw [f2]; exact g2,by rw [f2,Ez,hsz]; exact g3,fun tv hk=>g4 tv (hkind▸hk)⟩
   rw [hh]
   exact Fp f1 (by rw [f2]; exact g3)
  ·rw [pq hkind,nK]
   refine ⟨fun b o hb h=>?_,List.nodup_append.2 ⟨P.akk,(List.nodup_append.1 Pm).2.1,fun b h1 c h2 e=>?_⟩⟩
   ·have hbb:=jD b (.inr (.inr (.inr ⟨o,hb⟩)))
    rcases List.mem_append.1 h with h | h
    ·rcases P.TA b h with h | h | h
     ·exact hnd.1 b o hb ((hfo b).2 (.inl (.inl h)))
     ·exact Hz b hbb h
     ·have:=hblt b hbb; omega
    ·exact hnd.1 b o hb ((hfo b).2 (.inl (.inr h)))
   ·subst e
    have hbb:=jD b (.inr (.inl h2))
    rcases P.TA b h1 with h | h | h
    ·exact (List.nodup_append.1 Pm).2.2 b h b h2 rfl
    ·exact Hz b hbb h
    ·have:=hblt b hbb; omega
 ·intro _ q n v hn' hold
  refine ⟨hold.1, ?_⟩
  intro Q hQ hvQ hcl hty hsome
  have hQ':Q=R':=by
   rw [aJ] at hQ
   simpa using hQ.symm
  subst hQ'
  have XJ:dW (aH α r (α.loc r) hdr' (ft++rest)) Q r=dW α R r:=by rw [jH,wT hkind, ←vO]
  have RB:(aH α r (α.loc r) hdr' (ft++rest)).hdr r=hdr':=by simp [aH,upd_same]
  rw [XJ,RB]
  rw [hRh,qa hn'] at hcl
  by_cases hq:q=[]
  ·subst hq
   obtain ⟨_,cs,b,o,h1,h2⟩:=hold.2 R hr.1 hv (by simp [clean,dX,ay]) (fun t ht=>by simp [ah] at ht) rfl
   simp only [bE,Option.some.injEq,Prod.mk.injEq] at h1
   exact ⟨trivial,hdr',b,o,by simp only [bE]; rw [h1.2],h2⟩
  ·have hpt:∀k,dX q k=ry :: ah q k:=by
    intro k
    cases q with
    | nil=>exact absurd rfl hq
    | cons s q=>rfl
   rw [hpt] at hcl
   have hgn:ry∉lh:=fun hm=>hcl.1 ry hm (by simp)
   obtain ⟨hk,hnk,_⟩:=(hwhole hvQ).2 hgn
   subst hR'
   have aaL:ah q R.k=ah q z.1∧(aT q R.k R.x).isSome=true:=by
    rcases P.akm with h | h | h
    ·have hk:=hk h
     obtain ⟨zk,zx⟩:=z
     simp only at hk
     subst hk
     exact ⟨rfl,by rw [rJ q (y:=zx)]; exact hsome⟩
    ·exact ME (bad:=lh) p q hg P.hz h hsome (fun e he hm=>hcl.1 e hm (List.mem_cons_of_mem _ he))
    ·exact absurd h hgn
   have hpe:ah q (bG R z own' tags' lw lh kp).k=ah q R.k:=aaL.1.symm
   rw [hpe] at hcl hty
   have akG:∀t∈lh,t∉ry :: ah q R.k:=hcl.1
   obtain ⟨g1,cs,b,o,g2,g3⟩:=hold.2 R hr.1 hv (by rw [hpt]; exact hcl.2) (fun t ht=>hsub t (hty t ht)) aaL.2
   obtain ⟨f1,c1,f2⟩:=hnk q cs (some (b,o)) g1 (fun t ht=>⟨hty t ht,fun h=>akG t h (List.mem_cons_of_mem _ ht)⟩) g2 hsome
   exact ⟨f1,c1,b,o,f2,g3⟩
 ·intro _ g v hg' hold Q hQ hgQ
  obtain ⟨hQ',_⟩:=eP hQ
  subst hQ'
  obtain ⟨h1,h2⟩:=hold R hr (hRg▸hgQ)
  have hw:dW α R r=none:=by unfold dW; rw [h1]
  have hh:hdr'=α.hdr r:=by simp only [hdr']; rw [hw]
  have RB:(aH α r (α.loc r) hdr' (ft++rest)).hdr r=hdr':=by simp [aH,upd_same]
  rw [RB,hh,hkind]
  refine ⟨h1, ?_⟩
  rw [Ez]
  refine (SL ?_).2 h2
  by_cases hp:p=[]
  ·subst hp
   have hz:=P.hz
   simp only [dY,aT,Option.some.injEq] at hz hg
   subst hz
   rcases P.als with h | h
   ·rw [h, ←hg]
   ·simp only [bE,Option.some.injEq,Prod.mk.injEq] at hn
    rw [←hn.2,hw] at h
    exact absurd rfl h
  ·exact Mx hp P.hz
end
end Go.Proofs.YtailcbngagacaabGreat.Ow

/- The framework, part 13: what programs read. Own work of this seat. -/
namespace Go.Proofs.YtailcbngagacaabGreat.Ow
open Go
variable [Fr]
theorem xw:∀{k:K},k.flat=true→k.tys=[]:=by
 intro k
 induction k with
 | sl e k ih=>intro h; simp [K.flat] at h
 | gap n=>intro h; simp [K.flat] at h
 | pair a b iha ihb=>intro h; simp only [K.flat,Bool.and_eq_true] at h; simp [K.tys,iha h.1,ihb h.2]
 | st f ih=>intro h; exact ih h
 | _=>intro _; rfl
theorem Zh {h h':Heap} {own own':List TypeId} {ok ok':Nat→Prop}:∀{k:K} {x:El k} {cs:List Value} {fo:List Nat},k.flat=true→Ow h own ok k x cs fo→fo=[]∧Ow h' own' ok' k x cs []:=by
 intro k
 induction k with
 | sl e k ih=>intro x cs fo h; simp [K.flat] at h
 | gap n=>intro x cs fo h; simp [K.flat] at h
 | pair a b iha ihb=>
  intro x cs fo h H
  simp only [K.flat,Bool.and_eq_true] at h
  obtain ⟨c1,c2,f1,f2,e,hp,h1,h2⟩:=H
  obtain ⟨g1,k1⟩:=iha h.1 h1
  obtain ⟨g2,k2⟩:=ihb h.2 h2
  subst g1; subst g2
  exact ⟨hp.eq_nil,c1,c2,[],[],e, .refl _,k1,k2⟩
 | st f ih=>intro x cs fo h H; exact ih (x:=x) h H
 | int ik=>intro x cs fo _ H; exact ⟨H.1,rfl,H.2⟩
 | bool=>intro x cs fo _ H; exact ⟨H.1,rfl,H.2⟩
 | id e=>intro x cs fo _ H; exact ⟨H.1,rfl,H.2⟩
 | str=>intro x cs fo _ H; exact ⟨H.1,rfl,H.2⟩
 | unit=>intro x cs fo _ H; exact ⟨H.1,rfl,H.2⟩
theorem ZR {ik:IntKind} {n:Int} (h:inK ik n=true):H7 ik n:=by
 cases ik <;> simp_all [inK,H7,inK.Int.blt,inK.Int.ble]
theorem bL {a b:K} {x:El a} {y:El b} (h:bP a b x=some y):∃e:a=b,y=e▸x:=by
 unfold bP at h
 split at h
 ·rename_i hb
  simp only [Option.some.injEq] at h
  exact ⟨K.eq_of_beq hb,h.symm⟩
 ·simp at h
section
variable {A:Type} {cx:Cx} {σ:St} {α:dK} {F:List Nat} {a:Act} {w:World} {z:A}
theorem gD {k:Prog A} {tys:List TypeId}:∀{T:List Tag},(oo T tys k).ends σ z→bg σ tys T=true∧k.ends σ z:=by
 intro T
 induction T with
 | nil=>intro h; exact ⟨rfl,h⟩
 | cons t T ih=>
  obtain ⟨r,n⟩:=t
  intro h
  simp only [oo] at h
  cases he:fJ r with
  | true=>
   rw [he] at h
   obtain ⟨h1,h2⟩:=ih h
   exact ⟨by simp [bg,he,h1],h2⟩
  | false=>
   rw [he] at h
   simp only [cond_false,Prog.ends] at h
   cases hr:σ.roots r with
   | none=>rw [hr] at h; exact h.elim
   | some R=>
    rw [hr] at h
    simp only at h
    cases hc:(!R.aX && clean R.w n tys) with
    | false=>rw [hc] at h; exact h.elim
    | true=>
     rw [hc] at h
     obtain ⟨h1,h2⟩:=ih h
     exact ⟨by simp only [bg,he,hr,cond_false]; rw [hc,h1]; rfl,h2⟩
theorem cO {r:Nat} {k:Root→Prog A} (h:(tQ r k).ends σ z):∃R,aP σ r R∧bq σ R∧(k R).ends σ z:=by
 unfold tQ at h
 simp only [Prog.ends] at h
 cases hr:σ.roots r with
 | none=>rw [hr] at h; exact h.elim
 | some R=>
  rw [hr] at h
  simp only at h
  cases hd:R.aX with
  | true=>rw [hd] at h; exact h.elim
  | false=>
   rw [hd] at h
   obtain ⟨h1,h2⟩:=gD h
   exact ⟨R,⟨hr,hd⟩,⟨hd,h1⟩,h2⟩
theorem ZX (v:Value):bH cx σ α F w (X6 v) v∧vC σ (X6 v):=by
 unfold X6
 split
 ·rename_i k n
  cases h:inK k n with
  | true=>exact ⟨fun _=>⟨[.int k n],⟨rfl,by simp⟩,rfl,ZR h⟩,fun t ht=>by simp at ht⟩
  | false=>exact ⟨trivial,trivial⟩
 ·exact ⟨fun _=>⟨_,⟨rfl,by simp⟩,rfl⟩,fun t ht=>by simp at ht⟩
 ·rename_i s
  exact ⟨fun _=>⟨_,⟨rfl,by simp⟩,s,rfl,rfl⟩,fun t ht=>by simp at ht⟩
 ·exact ⟨⟨none,rfl⟩,trivial⟩
 ·exact ⟨rfl,trivial⟩
 ·exact ⟨trivial,trivial⟩
theorem uE (H:Rel cx σ α F a w) {x:Operand} {k:y5→Prog A} (h:(vU x k).ends σ z):∃v1,jM cx σ α F w v1 (a.eval x)∧Ah σ v1∧(k v1).ends σ z:=by
 cases x with
 | tmp t=>exact ⟨σ.slots t,H.slots t,H.AR t,h⟩
 | const v=>obtain ⟨h1,h2⟩:=ZX (cx:=cx) (σ:=σ) (α:=α) (F:=F) (w:=w) v; exact ⟨.one (X6 v),h1,h2,h⟩
 | func f=>exact ⟨.one (.fn f []),⟨[],rfl,trivial⟩,fun c hc=>by simp at hc,h⟩
 | global g=>exact h.elim
theorem bT (H:Rel cx σ α F a w) {x:Operand} {k:AV→Prog A} (h:(dN x k).ends σ z):∃v1,bH cx σ α F w v1 (a.eval x)∧vC σ v1∧(k v1).ends σ z:=by
 obtain ⟨v1,h1,h2,h3⟩:=uE H h
 cases v1 with
 | one v=>exact ⟨v,h1,h2,h3⟩
 | Ip l=>exact h3.elim
def evs (a:Act) (l:List (Nat×Operand)):List (Nat×Value):=l.map fun p=>(p.1,a.eval p.2)
theorem LD (H:Rel cx σ α F a w):∀{l:List (Nat×Operand)} {k:List (Nat×AV)→Prog A},(Jw l k).ends σ z→
  ∃vs:List (Nat×AV),vs.map (·.1)=l.map (·.1)∧fD cx σ α F w (vs.map (·.2)) ((evs a l).map (·.2))∧(∀v∈vs,vC σ v.2)∧(k vs).ends σ z:=by
 intro l
 induction l with
 | nil=>intro k h; exact ⟨[],rfl,trivial,by simp,h⟩
 | cons p l ih=>
  obtain ⟨n,x⟩:=p
  intro k h
  simp only [Jw] at h
  obtain ⟨v,h1,h2,h3⟩:=bT H h
  obtain ⟨vs,g1,g2,g3,g4⟩:=ih h3
  exact ⟨(n,v) :: vs,by simp [g1],⟨h1,g2⟩,by simpa using ⟨h2,fun a b hb=>g3 (a,b) hb⟩,g4⟩
theorem je (H:Rel cx σ α F a w):∀{l:List Operand} {k:List AV→Prog A},(jJ l k).ends σ z→
  ∃vs:List AV,fD cx σ α F w vs (l.map a.eval)∧(∀v∈vs,vC σ v)∧(k vs).ends σ z:=by
 intro l
 induction l with
 | nil=>intro k h; exact ⟨[],trivial,by simp,h⟩
 | cons x l ih=>
  intro k h
  simp only [jJ] at h
  obtain ⟨v,h1,h2,h3⟩:=bT H h
  obtain ⟨vs,g2,g3,g4⟩:=ih h3
  exact ⟨v :: vs,⟨h1,g2⟩,by simpa using ⟨h2,g3⟩,g4⟩
theorem yH {ik:IntKind} {n:Int} {T:List Tag} {v:Value} (h:bH cx σ α F w (.val (.int ik) n T) v):v=.int ik n∧H7 ik n:=by
 obtain ⟨cs,h1,h2,h3⟩:=h (.inl rfl)
 obtain ⟨h5,_⟩:cs=[v]∧_:=h1
 rw [h5] at h2
 simp only [List.cons.injEq,and_true] at h2
 exact ⟨h2,h3⟩
theorem zS {b:Bool} {T:List Tag} {v:Value} (h:bH cx σ α F w (.val .bool b T) v):v=.bool b:=by
 obtain ⟨cs,h1,h2⟩:=h (.inl rfl)
 obtain ⟨h5,_⟩:cs=[v]∧_:=h1
 have h2':cs=[.bool b]:=h2
 rw [h5] at h2'
 simpa using h2'
theorem yI {s:List Int} {T:List Tag} {v:Value} (h:bH cx σ α F w (.val .str s T) v):∃B:ByteArray,v=.string B∧s=bytesOf B:=by
 obtain ⟨cs,h1,B,h2,h3⟩:=h (.inl rfl)
 obtain ⟨h5,_⟩:cs=[v]∧_:=h1
 rw [h5] at h2
 simp only [List.cons.injEq,and_true] at h2
 exact ⟨B,h2,h3⟩
theorem RV {ik:IntKind} {n:Int} {T:List Tag} (h:H7 ik n):bH cx σ α F w (.val (.int ik) n T) (.int ik n):=fun _=>⟨[.int ik n],⟨rfl,by simp⟩,rfl,h⟩
theorem ZZ {b:Bool} {T:List Tag}:bH cx σ α F w (.val .bool b T) (.bool b):=fun _=>⟨[.bool b],⟨rfl,by simp⟩,rfl⟩
theorem RX {B:ByteArray} {T:List Tag}:bH cx σ α F w (.val .str (bytesOf B) T) (.string B):=fun _=>⟨[.string B],⟨rfl,by simp⟩,B,rfl,rfl⟩
theorem zq {x:AV} {v:Value} {k:IntKind→Int→Prog A} (hx:bH cx σ α F w x v) (h:(asInt x k).ends σ z):∃ik n,v=.int ik n∧H7 ik n∧(k ik n).ends σ z:=by
 unfold asInt at h
 split at h
 ·rename_i ik n T
  obtain ⟨h1,h2⟩:=yH hx
  exact ⟨ik,n,h1,h2,h⟩
 ·exact h.elim
theorem I6 {x:AV} {v:Value} {k:Bool→Prog A} (hx:bH cx σ α F w x v) (h:(asBool x k).ends σ z):∃b,v=.bool b∧(k b).ends σ z:=by
 unfold asBool at h
 split at h
 ·rename_i b T
  exact ⟨b,zS hx,h⟩
 ·exact h.elim
theorem iO.q {T:List Tag} {b:Nat} (h:iO cx σ α F w T b):Ke σ α F w T b:=⟨h.1,h.2.1,h.2.2.2.1⟩
theorem Yi {T T':List Tag} {b:Nat} (h:Ke σ α F w T b) (hs:∀t∈T,t∈T'):Ke σ α F w T' b:=
 ⟨h.1,h.2.1,fun r R h1 h2=>by obtain ⟨n,hn⟩:=h.2.2 r R h1 h2; exact ⟨n,hs _ hn⟩⟩
variable {r:Nat} {R:Root}
theorem Zj {h:Heap} {own:List TypeId} {ok:Nat→Prop}:∀{k:K} {x:El k} {cs:List Value} {fo:List Nat},(∀t∈k.tys,ay t own=false)→Ow h own ok k x cs fo→fo=[]:=by
 intro k
 induction k with
 | sl e k ih=>
  intro x cs fo h H
  unfold Ow at H
  rw [if_neg (by rw [h e (by simp [K.tys])]; exact Bool.false_ne_true)] at H
  exact H.1
 | pair a b iha ihb=>
  intro x cs fo h H
  obtain ⟨c1,c2,f1,f2,e,hp,h1,h2⟩:=H
  rw [iha (fun t ht=>h t (by simp [K.tys,ht])) h1,ihb (fun t ht=>h t (by simp [K.tys,ht])) h2] at hp
  exact hp.eq_nil
 | st f ih=>intro x cs fo h H; exact ih (x:=x) h H
 | _=>intro x cs fo _ H; exact H.1
theorem CR (R:Root) (r:Nat) {k:K} (hk:k.flat=false):R.out r k=(r,gq R.w) :: R.tags∨(R.out r k=R.tags∧∀t∈k.tys,ay t R.own=false):=by
 unfold Root.out
 rw [hk,cond_false]
 cases h:k.tys.any fun t=>ay t R.own with
 | true=>exact .inl rfl
 | false=>
  refine .inr ⟨rfl,fun t ht=>?_⟩
  have:=List.any_eq_false.1 h t ht
  simpa using this
theorem adx (H:Rel cx σ α F a w) (hr:aP σ r R) {k:K} (hk:R.out r k=(r,gq R.w) :: R.tags) {b:Nat} (hb:b∈α.fo r):iO cx σ α F w (R.out r k) b:=by
 have hbb:b∈blk α R r:=List.mem_append_right _ hb
 have hm:=(H.roots r R hr).mine b hbb
 refine ⟨hm.1,H.jo r R hr b hbb,pE H hr hb,fun q Q hq hbq=>?_,fun h0=>?_⟩
 ·by_cases e:q=r
  ·subst e
   exact ⟨gq R.w,by rw [hk]; simp⟩
  ·exact absurd hbb (H.KL q Q r R hq hr e b hbq)
 ·rcases hm.2 with h | ⟨j,pi,h1,h2⟩
  ·omega
  ·exact .inr ⟨j,pi,h1,h2⟩
theorem TE {k:K} (hk:k.flat=false):∀t∈R.tags,t∈R.out r k:=fun t ht=>by
 rcases CR R r hk with h | ⟨h,_⟩ <;> rw [h]
 ·exact List.mem_cons_of_mem _ ht
 ·exact ht
theorem Mj (H:Rel cx σ α F a w) (hr:aP σ r R) (k:K):fA σ (R.out r k):=by
 intro t ht
 cases hk:k.flat with
 | true=>unfold Root.out at ht; rw [hk] at ht; simp at ht
 | false=>
  have h1:t=(r,gq R.w)∨t∈R.tags:=by
   rcases CR R r hk with h | ⟨h,_⟩ <;> rw [h] at ht
   ·exact List.mem_cons.1 ht
   ·exact .inr ht
  rcases h1 with h | h
  ·subst h; exact .inr ⟨R,hr.1, .inr (Nat.le_refl _)⟩
  ·exact (H.dz r R hr.1).1 t h
theorem pJ (H:Rel cx σ α F a w) (hr:aP σ r R) {k:K} {x:El k} {cs:List Value} {fU:List Nat} (hO:Ow (hp w) R.own (iO cx σ α F w R.tags) k x cs fU) (hf:∀b∈fU,b∈α.fo r) :
  Vw (hp w) (iO cx σ α F w (R.out r k)) k x cs:=by
 cases hk:k.flat with
 | true=>exact gW hk (kL (fun _=>True) (fun _ _=>trivial) (fun _ _=>trivial) hO)
 | false=>
  rcases CR R r hk with ho | ⟨_,hn⟩
  ·exact kL _ (fun b hb=>xE hb (TE hk)) (fun b hb=>adx H hr ho (hf b hb)) hO
  ·exact kL _ (fun b hb=>xE hb (TE hk)) (fun b hb=>by rw [Zj hn hO] at hb; simp at hb) hO
theorem wK (H:Rel cx σ α F a w) (hr:aP σ r R) (hv:bq σ R) {p:List Stp} {d:Dat} (hg:aT p R.k R.x=some d) (fP:nR p R.k R.x) (hown:∀t∈ah p R.k,ay t R.own=true)
  {cs1:List Value} {nS:Option (Nat×Nat)} (hn:bE (hp w) p R.k (α.hdr r) (dW α R r)=some (cs1,nS)) :
  ∃fU,Ow (hp w) R.own (iO cx σ α F w R.tags) d.1 d.2 cs1 fU∧∀b∈fU,b∈α.fo r:=by
 have K:=H.roots r R hr
 have hnd:=K.nd
 rw [bS,nK] at hnd
 obtain ⟨qA,fU,rest,wh2,hn',hp1,hd1,hc1,hin,hnone,hup⟩:=focus p (K.ow hv) (fun b o e=>(K.mem b o e).1) hg fP hown hnd.2 (fun b o e=>hnd.1 b o e)
 rw [hn] at hn'
 simp only [Option.some.injEq,Prod.mk.injEq] at hn'
 obtain ⟨rfl,rfl⟩:=hn'
 exact ⟨fU,hd1,fun b hb=>hp1.mem_iff.2 (List.mem_append_left _ hb)⟩
theorem jZ {T:List Nat} {own:List Nat} (h:(T.all fun t=>ay t own)=true):∀t∈T,ay t own=true:=fun t ht=>List.all_eq_true.1 h t ht
theorem wL (H:Rel cx σ α F a w) {x:AV} {v:Value} {k:(kk:K)→El kk→List Tag→Prog A} (hx:bH cx σ α F w x v) (hw:vC σ x) (h:(vZ x k).ends σ z) :
  ∃kk y T cs,VC kk v cs∧Vw (hp w) (iO cx σ α F w T) kk y cs∧fA σ T∧(k kk y T).ends σ z:=by
 cases x with
 | val kk y T=>
  obtain ⟨h1,h2⟩:=gD h
  obtain ⟨cs,h3,h4⟩:=hx (.inr h1)
  exact ⟨kk,y,T,cs,h3,h4,hw,h2⟩
 | ref r g=>
  obtain ⟨R,hr,hv,h⟩:=cO h
  cases hg:Nat.beq R.g g with
  | false=>simp only [hg,cond_false] at h; exact h.elim
  | true=>
   simp only [hg,cond_true] at h
   obtain ⟨h1,h2⟩:=hx R hr (Nat.eq_of_beq_eq_true hg)
   exact ⟨R.k,R.x,R.out r R.k,α.hdr r,h2,pJ H hr ((H.roots r R hr).ow hv) (fun _ h=>h),Mj H hr _,h⟩
 | yj r p n=>
  obtain ⟨R,hr,hv,h⟩:=cO h
  cases hg:Nat.beq R.yY n with
  | false=>simp only [hg,cond_false] at h; exact h.elim
  | true=>
   simp only [hg,cond_true] at h
   cases Ay:aT p R.k R.x with
   | none=>rw [Ay] at h; exact h.elim
   | some d=>
    rw [Ay] at h
    obtain ⟨h1,h2,cs,wh,h3,h4⟩:=hx R hr.1 hv (Nat.eq_of_beq_eq_true hg) d Ay
    obtain ⟨fU,h5,h6⟩:=wK H hr hv Ay h1 h2 h3
    exact ⟨d.1,d.2,R.out r d.1,cs,h4,pJ H hr h5 h6,Mj H hr _,h⟩
 | undef=>exact h.elim
 | iM=>exact h.elim
 | ptr r p n=>exact h.elim
 | iZ bt kk y T=>exact h.elim
 | Jl _ _ _ _=>exact h.elim
 | Bt _=>exact h.elim
 | part _ _ _ _ _=>exact h.elim
 | yU _ _ _ _=>exact h.elim
 | app _ _ _ _=>exact h.elim
 | tJ=>exact h.elim
 | fn f cs=>exact h.elim
theorem Af (H:Rel cx σ α F a w) {x:AV} {v:Value} {rd:Root→Nat→List Stp→Dat→Prog A} {ro:TypeId→Dat→List Tag→Prog A} (hx:bH cx σ α F w x v) (hw:vC σ x) (h:(addrOf x rd ro).ends σ z) :
  (∃r R p d cs b o,aP σ r R∧bq σ R∧aT p R.k R.x=some d∧nR p R.k R.x∧(∀t∈ah p R.k,ay t R.own=true)∧bE (hp w) p R.k (α.hdr r) (dW α R r)=some (cs,some (b,o))∧v=.pointer (some ⟨b,o,none⟩)∧(rd R r p d).ends σ z)∨
  (∃bt d T b o cs,fA σ T∧v=.pointer (some ⟨b,o,none⟩)∧Cells (hp w) b o cs∧Vw (hp w) (iO cx σ α F w T) d.1 d.2 cs∧Ke σ α F w T b∧((bt=SENT∧∀t∈T,fJ t.1=true)∨(xm (hp w) b bt∧¬lW cx b))∧(ro bt d T).ends σ z):=by
 cases x with
 | ptr r p n=>
  obtain ⟨R,hr,hv,h⟩:=cO h
  cases hc:(clean R.h n (dX p R.k) && Im p R) with
  | false=>rw [hc] at h; exact h.elim
  | true=>
   rw [hc] at h
   simp only [cond_true] at h
   simp only [Bool.and_eq_true] at hc
   cases Ay:aT p R.k R.x with
   | none=>rw [Ay] at h; exact h.elim
   | some d=>
    rw [Ay] at h
    have hown:=jZ hc.2
    obtain ⟨h1,cs,b,o,h2,h3⟩:=hx.2 R hr.1 hv hc.1 hown (by rw [Ay]; rfl)
    exact .inl ⟨r,R,p,d,cs,b,o,hr,hv,Ay,h1,hown,h2,h3,h⟩
 | iZ bt k y T=>
  obtain ⟨h1,h2⟩:=gD h
  obtain ⟨b,o,cs,e,hcs,hV,hok,hb⟩:=hx.2 h1
  exact .inr ⟨bt,⟨k,y⟩,T,b,o,cs,hw,e,hcs,hV,hok,hb,h2⟩
 | undef=>exact h.elim
 | iM=>exact h.elim
 | ref r g=>exact h.elim
 | yj r p n=>exact h.elim
 | val kk y T=>exact h.elim
 | Jl _ _ _ _=>exact h.elim
 | Bt _=>exact h.elim
 | part _ _ _ _ _=>exact h.elim
 | yU _ _ _ _=>exact h.elim
 | app _ _ _ _=>exact h.elim
 | tJ=>exact h.elim
 | fn f cs=>exact h.elim
end
end Go.Proofs.YtailcbngagacaabGreat.Ow

/- The framework, part 14: what is handed away. Own work of this seat. -/
namespace Go.Proofs.YtailcbngagacaabGreat.Ow
open Go
variable [Fr]
theorem dJ (a b:List Wr):∀σ,aC (a++b) σ=aC b (aC a σ):=by
 induction a with
 | nil=>intro σ; rfl
 | cons w a ih=>intro σ; exact ih _
theorem Fe {own:List TypeId} {k:K}:∀(k0:K),(∀t∈k.tys,t∈k0.tys)→aU (k0.tys.filter fun t=>ay t own) k=aU own k:=by
 intro k0
 have key:∀t∈k0.tys,ay t (k0.tys.filter fun t=>ay t own)=ay t own:=by
  intro t ht
  cases h:ay t own with
  | true=>rw [aK,List.mem_filter]; exact ⟨ht,h⟩
  | false=>
   rw [aW,List.mem_filter]
   rintro ⟨_,h2⟩
   rw [h] at h2
   simp at h2
 induction k with
 | sl e k ih=>
  intro h
  simp only [aU]
  rw [key e (h e (by simp [K.tys])),ih (fun t ht=>h t (by simp [K.tys,ht]))]
 | pair a b iha ihb=>intro h; simp only [aU]; rw [iha (fun t ht=>h t (by simp [K.tys,ht])),ihb (fun t ht=>h t (by simp [K.tys,ht]))]
 | st f ih=>intro h; exact ih h
 | _=>intro _; rfl
theorem PM {own:List TypeId} {k:K}:∀t∈k.tys,ay t (k.tys.filter fun t=>ay t own)=ay t own:=by
 intro t ht
 cases h:ay t own with
 | true=>rw [aK,List.mem_filter]; exact ⟨ht,h⟩
 | false=>
  rw [aW,List.mem_filter]
  rintro ⟨_,h2⟩
  rw [h] at h2
  simp at h2
theorem QX {own:List TypeId}:∀(n:Nat) {c:K} {x:El c} {s:Dat},aN n c x=some s→∀t∈aU own s.1,t∈aU own c:=by
 intro n
 induction n with
 | zero=>
  intro c x s h t ht
  cases c with
  | pair a b=>simp only [aN,Option.some.injEq] at h; subst h; simp [aU,ht]
  | _=>simp [aN] at h
 | succ n ih=>
  intro c x s h t ht
  cases c with
  | pair a b=>simp only [aN] at h; simp [aU,ih h t ht]
  | _=>simp [aN] at h
theorem Cz {own:List TypeId}:∀(p:List Stp) {k:K} {x:El k} {d:Dat},aT p k x=some d→(∀t∈ah p k,ay t own=true)→∀t∈aU own d.1,t∈aU own k:=by
 intro p
 induction p with
 | nil=>intro k x d h _; simp only [aT,Option.some.injEq] at h; subst h; exact fun _ h=>h
 | cons s p ih=>
  intro k x d h ht
  cases s with
  | gB n=>
   cases k with
   | st c=>
    simp only [aT] at h
    cases hg:aN n c x with
    | none=>rw [hg] at h; simp at h
    | some s=>
     rw [hg] at h
     simp only at h
     have hpt:ah (.gB n :: p) (.st c)=ah p s.1:=by simp [ah,bU n hg]
     rw [hpt] at ht
     exact fun t h2=>QX n (c:=c) hg t (ih h ht t h2)
   | _=>simp [aT] at h
  | idx i=>
   cases k with
   | sl e k=>
    simp only [aT] at h
    intro t h2
    have:=ih h (fun t h=>ht t (by simp [ah,h])) t h2
    simp only [aU,ht e (by simp [ah]),cond_true]
    exact this
   | _=>simp [aT] at h
section
variable {cx:Cx} {σ:St} {α:dK} {F:List Nat} {a:Act} {w:World}
theorem aA {b:Bool} {A:Type} {x y:Prog A} {σ:St} {z:A} (h:(bif b then x else y).ends σ z):(b=true∧x.ends σ z)∨(b=false∧y.ends σ z):=by
 cases b with
 | true=>exact .inl ⟨rfl,h⟩
 | false=>exact .inr ⟨rfl,h⟩
theorem IP {h:Heap} {own:List TypeId} {ok:Nat→Prop}:∀{k:K} {x:El k} {cs:List Value} {fo:List Nat},k.flat=true→Ow h own ok k x cs fo→fo=[]:=by
 intro k
 induction k with
 | sl e k ih=>intro x cs fo h; simp [K.flat] at h
 | gap n=>intro x cs fo h; simp [K.flat] at h
 | pair a b iha ihb=>
  intro x cs fo h H
  simp only [K.flat,Bool.and_eq_true] at h
  obtain ⟨c1,c2,f1,f2,e,hp,h1,h2⟩:=H
  rw [iha h.1 h1,ihb h.2 h2] at hp
  exact hp.eq_nil
 | st f ih=>intro x cs fo h H; exact ih (x:=x) h H
 | _=>intro x cs fo _ H; exact H.1
theorem Zk {h:Heap} {own:List TypeId} {ok:Nat→Prop} {e:TypeId} {kk:K} {xs:List (El kk)} {b b':Option Addr} {n c hi:Nat} {fo:List Nat} (hf:kk.flat=true) (he:ay e own=true) (hn:hi≤n) (hb':b'=b)
  (H:Ow h own ok (.sl e kk) xs [.slice b n c] fo):Ow h own ok (.sl e kk) (show List (El kk) from xs.take hi) [.slice b' hi c] fo:=by
 unfold Ow at H ⊢
 rw [if_pos he] at H ⊢
 obtain ⟨a,n',c',e1,e2,e3,H⟩:=H
 simp only [List.cons.injEq,Value.slice.injEq,and_true] at e1
 obtain ⟨rfl,rfl,rfl⟩:=e1
 have hlen:(xs.take hi).length=hi:=by
  have:n=xs.length:=e2
  simp; omega
 refine ⟨b,hi,c,by rw [hb'],hlen.symm,by omega, ?_⟩
 rcases H with H | ⟨bb,o,arr,l,u,ea,hb,hfr,hs,bz,hl,hp,H⟩
 ·exact .inl H
 ·have h0:∀l∈bz,l=[]:=by
   intro l hl'
   obtain ⟨i,hi',rfl⟩:=List.mem_iff_getElem.1 hl'
   have hl:bz.length=xs.length:=hl
   obtain ⟨ds,_,h2⟩:=H i (by show i<xs.length; omega)
   have:=IP hf h2
   rw [←this]; simp [List.getD_eq_getElem?_getD,hi']
  have hfl:bz.flatten=[]:=List.flatten_eq_nil_iff.2 h0
  have akK:(bz.take hi).flatten=[]:=List.flatten_eq_nil_iff.2 fun l hl'=>h0 l (List.mem_of_mem_take hl')
  refine .inr ⟨bb,o,arr,l,u,ea,hb,hfr,hs,bz.take hi,by show (bz.take hi).length=(xs.take hi).length; simp only [List.length_take]; rw [show bz.length=xs.length from hl],by rw [akK, ←hfl]; exact hp,fun i hi'=>?_⟩
  have hi2:i<(xs.take hi).length:=hi'
  have hi3:i<hi∧i<xs.length:=by simp at hi2; omega
  obtain ⟨ds,h1,h2⟩:=H i hi3.2
  refine ⟨ds,h1, ?_⟩
  have e1:(show List (El kk) from xs.take hi)[i]'hi'=xs[i]'hi3.2:=by
   show (xs.take hi)[i]=_
   simp
  have e2:(bz.take hi).getD i []=bz.getD i []:=by simp [List.getD_eq_getElem?_getD,List.getElem?_take,hi3.1]
  rw [e1,e2]
  exact h2
inductive yh (cx:Cx) (σ:St) (α:dK) (F:List Nat) (w:World) (v:Value) (tk:iQ):Prop
 | held (hws:tk.ws=[]) (cs:List Value) (hv:VC tk.k v cs) (h:Held cx σ α F w tk.k tk.x tk.own tk.tags cs []) (hc:bg σ (aU tk.own tk.k) tk.tags=true)
 | ref (r:Nat) (R:Root) (hr:aP σ r R) (hv:bq σ R) (e:tk=⟨R.k,R.x,R.own,R.tags,[.r r none],R.keep⟩) (hk:R.kind=.anon) (hd:VC R.k v (α.hdr r))
 | gap (r:Nat) (R:Root) (p:List Stp) (d z:Dat) (hr:aP σ r R) (hv:bq σ R) (hg:aT p R.k R.x=some d) (hz:dY p R.k R.x (vG d)=some z) (fP:nR p R.k R.x)
   (hown:∀t∈ah p R.k,ay t R.own=true) (hpv:p≠[]∨∃t,R.kind=.var t) (e:tk=⟨d.1,d.2,d.1.tys.filter (fun t=>ay t R.own),R.tags,[.r r (some (qP R d z))],R.keep⟩)
   (hn:∃cs wh,bE (hp w) p R.k (α.hdr r) (dW α R r)=some (cs,wh)∧VC d.1 v cs)
 | cut (r:Nat) (R:Root) (cs:List Value) (hr:aP σ r R) (hv:bq σ R) (hk:R.kind=.anon) (e:tk.own=R.own∧tk.tags=R.tags∧tk.ws=[.r r none]∧tk.keep=R.keep) (hd:VC tk.k v cs) (hl:cs.length=tk.k.size)
   (VH:aU R.own tk.k=aU R.own R.k) (how:∀ok,Ow (hp w) R.own ok R.k R.x (α.hdr r) (α.fo r)→Ow (hp w) R.own ok tk.k tk.x cs (α.fo r))
theorem Ct {e:TypeId} {k:K} {c:Option Addr}:VC (.sl e k) (.slice c 0 0) [.slice c 0 0]:=⟨rfl,by simp⟩
theorem wR {A:Type} {z:A} (H:Rel cx σ α F a w) {want:K} {x:AV} {v:Value} {k:iQ→Prog A} (hx:bH cx σ α F w x v) (hw:vC σ x) (h:(Fa want x k).ends σ z) :
  ∃tk,yh cx σ α F w v tk∧(k tk).ends σ z:=by
 cases x with
 | val kk y T=>
  obtain ⟨h1,h2⟩:=gD h
  obtain ⟨cs,h3,h4⟩:=hx (.inr h1)
  have hty:∀t∈aU [] kk,t∈kk.tys:=fun t ht=>Gq ht
  exact ⟨⟨kk,y,[],T,[],false⟩, .held rfl cs h3 ⟨fun _=>pg (fun t _=>rfl) h4,hw,fun b hb=>by simp at hb,List.nodup_nil,lN h4⟩ (uD h1 (fun _ h=>h) hty),h2⟩
 | iM=>
  obtain ⟨c,rfl⟩:=hx
  unfold Fa at h
  cases want with
  | sl e kk=>
   refine ⟨_, .held rfl [.slice c 0 0] Ct ⟨fun _=>?_,fun t ht=>by simp at ht,fun b hb=>by simp at hb,List.nodup_nil,rfl⟩ rfl,h⟩
   unfold Ow
   rw [if_pos (by simp [ay])]
   exact ⟨c,0,0,rfl,rfl,Nat.le_refl _, .inl ⟨rfl,rfl⟩⟩
  | _=>exact h.elim
 | ref r g=>
  obtain ⟨R,hr,hv,h⟩:=cO h
  cases hg:(Nat.beq R.g g && !R.fixed) with
  | false=>simp only [hg,cond_false] at h; exact h.elim
  | true=>
   simp only [hg,cond_true] at h
   simp only [Bool.and_eq_true] at hg
   obtain ⟨h1,h2⟩:=hx R hr (Nat.eq_of_beq_eq_true hg.1)
   exact ⟨_, .ref r R hr hv rfl h1 h2,h⟩
 | yj r p n=>
  obtain ⟨R,hr,hv,h⟩:=cO h
  cases hg:Nat.beq R.yY n with
  | false=>simp only [hg,cond_false] at h; exact h.elim
  | true=>
   simp only [hg,cond_true] at h
   cases Ay:aT p R.k R.x with
   | none=>rw [Ay] at h; exact h.elim
   | some d=>
    rw [Ay] at h
    obtain ⟨h1,h2,cs,wh,h3,h4⟩:=hx R hr.1 hv (Nat.eq_of_beq_eq_true hg) d Ay
    cases hc:(p.all Stp.rP && !R.fixed && (!p.isEmpty || R.isVar)) with
    | true=>
     simp only [hc,cond_true] at h
     cases hga:GK R p d with
     | none=>rw [hga] at h; exact h.elim
     | some R'=>
      rw [hga] at h
      unfold GK at hga
      cases hz:dY p R.k R.x (vG d) with
      | none=>rw [hz] at hga; simp at hga
      | some zz=>
       rw [hz] at hga
       simp only [Option.some.injEq] at hga
       subst hga
       simp only [Bool.and_eq_true,Bool.or_eq_true] at hc
       refine ⟨_, .gap r R p d zz hr hv Ay hz h1 h2 ?_ rfl ⟨cs,wh,h3,h4⟩,h⟩
       rcases hc.2 with h | h
       ·left; intro e; subst e; simp at h
       ·right
        unfold Root.isVar at h
        cases hk:R.kind with
        | var t=>exact ⟨t,rfl⟩
        | anon=>rw [hk] at h; simp at h
        | par=>rw [hk] at h; simp at h
        | dead=>rw [hk] at h; simp at h
    | false=>
     simp only [hc,cond_false] at h
     obtain ⟨fU,h5,h6⟩:=wK H hr hv Ay h1 h2 h3
     have hV:=pJ H hr h5 h6
     obtain ⟨hc1,h⟩:=gD h
     exact ⟨⟨d.1,d.2,[],R.out r d.1,[],false⟩, .held rfl cs h4 ⟨fun _=>pg (fun t _=>rfl) hV,Mj H hr _,fun b hb=>by simp at hb,List.nodup_nil,lN hV⟩ (uD hc1 (fun _ h=>h) (fun t ht=>Gq ht)),h⟩
 | undef=>exact h.elim
 | ptr r p n=>exact h.elim
 | iZ bt kk y T=>exact h.elim
 | Jl _ _ _ _=>exact h.elim
 | Bt _=>exact h.elim
 | part r g lo hi sz=>
  obtain ⟨R,hr,hv,h⟩:=cO h
  rcases aA h with ⟨hg,h5⟩ | ⟨_,h5⟩
  ·clear h
   simp only [Bool.and_eq_true] at hg
   obtain ⟨b',b,n,c,e1,eb,e2,e3,e4,hrf⟩:=hx
   obtain ⟨h1,h2⟩:=hrf R hr (Nat.eq_of_beq_eq_true hg.1.1)
   have hlo:lo=0:=Nat.eq_of_beq_eq_true hg.2
   subst hlo
   have hK:∀q:Dat,(⟨R.k,R.x⟩:Dat)=q→(match q.1,q.2 with
     | .sl e kk,xs=>bif kk.flat && ay e R.own && Nat.beq kk.size sz then k ⟨.sl e kk,(show List (El kk) from xs).take hi,R.own,R.tags,[.r r none],R.keep⟩ else .fail
     | _,_=>Prog.fail).ends σ z→∃tk,yh cx σ α F w v tk∧(k tk).ends σ z:=by
    intro q hq hh0
    obtain ⟨qk,qx⟩:=q
    cases qk with
    | sl e kk=>
     simp only at hh0
     rcases aA hh0 with ⟨hc,hh⟩ | ⟨_,hh⟩
     ·clear hh0
      simp only [Bool.and_eq_true] at hc
      have hsz:kk.size=sz:=Nat.eq_of_beq_eq_true hc.2
      subst hsz
      have hVk:VC (.sl e kk) (.slice b n c) (α.hdr r):=by
       have:=congrArg (fun q:Dat=>VC q.1 (.slice b n c) (α.hdr r)) hq
       exact cast this h2
      have hb0:b'=b:=by
       rw [eb (.inl rfl)]
       cases b with
       | none=>rfl
       | some ad=>obtain ⟨x,y,z⟩:=ad; simp [Addr.add]
      refine ⟨⟨.sl e kk,(show List (El kk) from qx).take hi,R.own,R.tags,[.r r none],R.keep⟩, .cut r R [.slice b' hi c] hr hv h1 ⟨rfl,rfl,rfl,rfl⟩ ⟨by rw [e1]; simp,by rw [e1]; simp⟩ rfl ?_ (fun ok hO=>?_),hh⟩
      ·exact congrArg (fun q:Dat=>aU R.own q.1) hq.symm
      ·have hO:=cast (congrArg (fun q:Dat=>Ow (hp w) R.own ok q.1 q.2 (α.hdr r) (α.fo r)) hq) hO
       simp only at hO
       rw [hVk.1] at hO
       exact Zk hc.1.1 hc.1.2 e3 hb0 hO
     ·exact hh.elim
    | _=>exact hh0.elim
   exact hK _ rfl h5
  ·exact h5.elim
 | yU _ _ _ _=>exact h.elim
 | app _ _ _ _=>exact h.elim
 | tJ=>exact h.elim
 | fn f cs=>exact h.elim
def sU (cx:Cx) (σ:St) (α:dK) (F:List Nat) (w:World):List (Value×iQ)→List (List Value×List Nat)→Prop
 | [],[]=>True
 | it :: l,h :: hs=>(VC it.2.k it.1 h.1∧Held cx σ α F w it.2.k it.2.x it.2.own it.2.tags h.1 h.2∧bg σ (aU it.2.own it.2.k) it.2.tags=true)∧sU cx σ α F w l hs
 | _,_=>False
def wu (l:List (Value×iQ)):List Wr:=l.flatMap fun it=>it.2.ws
def rT (l:List (Value×iQ)):List Tag:=l.flatMap fun it=>it.2.tags
theorem Kn (a b:List Wr):(a++b).flatMap Wr.wo=a.flatMap Wr.wo++b.flatMap Wr.wo:=List.flatMap_append
theorem take1 (H:Rel cx σ α F a w) {v:Value} {tk:iQ} (h:yh cx σ α F w v tk) :
  ∃α' F' cs fo lw lh,Rel cx (aC tk.ws σ) α' F' a w∧mW cx σ α F w (aC tk.ws σ) α' F' w lw lh∧VC tk.k v cs∧Held cx (aC tk.ws σ) α' F' w tk.k tk.x tk.own tk.tags cs fo∧
   bg (aC tk.ws σ) (aU tk.own tk.k) tk.tags=true∧(∀b∈F,b∈F')∧(∀b∈fo,b∉F)∧(∀q,q∉tk.ws.flatMap Wr.wo→Same σ α (aC tk.ws σ) α' q):=by
 cases h with
 | held hws cs hv hh hc=>
  rw [hws]
  exact ⟨α,F,cs,[],_,_,H,EP H ⟨rfl,rfl,rfl⟩ (Nat.le_refl _) (fun _ _ h=>absurd rfl h) (fun b hb=>.inl hb) H.CG,hv,hh,hc,fun _ h=>h,fun b hb=>by simp at hb,fun q _=>lJ ..⟩
 | ref r R hr hv e hk hd=>
  subst e
  obtain ⟨h1,h2,h3,h4⟩:=kill H hr hk hv
  refine ⟨_,_,α.hdr r,α.fo r,_,_,h1,h2,hd,h3,h4,fun b hb=>List.mem_append_right _ hb,fun b hb hF=>H.jo r R hr b (List.mem_append_right _ hb) hF, ?_⟩
  intro q hq
  have hq':q≠r:=by simpa [Wr.wo] using hq
  exact gV hq'
 | cut r R cs hr hv hk e hd hl VH how=>
  obtain ⟨e1,e2,e3,e4⟩:=e
  obtain ⟨h1,h2,h3,h4⟩:=kill H hr hk hv
  rw [e3]
  refine ⟨_,_,cs,α.fo r,_,_,h1,h2,hd, ?_, ?_,fun b hb=>List.mem_append_right _ hb,fun b hb hF=>H.jo r R hr b (List.mem_append_right _ hb) hF, ?_⟩
  ·rw [e1,e2]
   refine ⟨fun hc=>?_,h3.wt,h3.sub,h3.nd,hl⟩
   have:=h3.ow (by rw [←VH]; exact hc)
   exact how _ this
  ·rw [e1,e2]
   show bg (az σ r cu) (aU R.own tk.k) R.tags=true
   rw [VH]; exact h4
  ·intro q hq
   have hq':q≠r:=by simpa [Wr.wo] using hq
   exact gV hq'
 | gap r R p d z hr hv hg hz fP hown hpv e hn=>
  subst e
  obtain ⟨cs,wh,hn1,hn2⟩:=hn
  obtain ⟨cs1,nS,fU,rest,g1,g2,g3,g4,g5,_⟩:=gap H hr hv hg hz fP hown hpv
  rw [hn1] at g1
  simp only [Option.some.injEq,Prod.mk.injEq] at g1
  obtain ⟨rfl,rfl⟩:=g1
  have hcl:bg (az σ r (qP R d z)) (aU R.own d.1) R.tags=true:=by
   rw [g5]
   exact uD hv.2 (fun _ h=>h) (Cz p hg hown)
  refine ⟨_,_,cs,fU,_,_,g2,g3,hn2, ?_, ?_,fun b hb=>List.mem_append_right _ hb, ?_, ?_⟩
  ·refine ⟨fun hc=>?_,g4.wt,g4.sub,g4.nd,g4.len⟩
   exact u7 (fun t ht=>PM t ht) (g4.ow (by rw [Fe d.1 (fun _ h=>h)] at hc; exact hc))
  ·show bg (az σ r (qP R d z)) (aU (d.1.tys.filter fun t=>ay t R.own) d.1) R.tags=true
   rw [Fe d.1 (fun _ h=>h)]
   exact hcl
  ·intro b hb hF
   have:=g2.CG
   exact (List.nodup_append.1 this).2.2 b hb b hF rfl
  ·intro q hq
   have hq':q≠r:=by simpa [Wr.wo] using hq
   exact gV hq'
theorem eZ {σ':St} {tys:List TypeId} {T:List Tag} (h:∀t∈T,σ'.roots t.1=σ.roots t.1):bg σ' tys T=bg σ tys T:=by
 induction T with
 | nil=>rfl
 | cons t T ih=>
  obtain ⟨q,n⟩:=t
  simp only [bg]
  rw [ih (fun t ht=>h t (by simp [ht])),h (q,n) (by simp)]
theorem yh.stays {σ':St} {α':dK} {F':List Nat} {lw lh:Nat→List Nat} {v:Value} {tk:iQ} (h:yh cx σ α F w v tk) (H:Rel cx σ α F a w) (T:mW cx σ α F w σ' α' F' w lw lh)
  (hs:∀q,(q∈tk.ws.flatMap Wr.wo∨q∈tk.tags.map (·.1))→Same σ α σ' α' q):yh cx σ' α' F' w v tk:=by
 cases h with
 | held hws cs hv hh hc=>
  exact .held hws cs hv (hh.turn H T (fun b hb=>by simp at hb)) (by rw [eZ (fun t ht=>(hs t.1 (.inr (List.mem_map.2 ⟨t,ht,rfl⟩))).root)]; exact hc)
 | ref r R hr hv e hk hd=>
  subst e
  have hS:=hs r (.inl (by simp [Wr.wo]))
  refine .ref r R ((hS.live R).2 hr) ⟨hv.1, ?_⟩ rfl hk (by rw [hS.hdr]; exact hd)
  rw [eZ (fun t ht=>(hs t.1 (.inr (List.mem_map.2 ⟨t,ht,rfl⟩))).root)]
  exact hv.2
 | cut r R cs hr hv hk e hd hl VH how=>
  have hS:=hs r (.inl (by rw [e.2.2.1]; simp [Wr.wo]))
  refine .cut r R cs ((hS.live R).2 hr) ⟨hv.1, ?_⟩ hk e hd hl VH (by rw [hS.hdr,hS.fo]; exact how)
  rw [eZ (fun t ht=>(hs t.1 (.inr (List.mem_map.2 ⟨t,by rw [e.2.1]; exact ht,rfl⟩))).root)]
  exact hv.2
 | gap r R p d z hr hv hg hz fP hown hpv e hn=>
  subst e
  have hS:=hs r (.inl (by simp [Wr.wo]))
  refine .gap r R p d z ((hS.live R).2 hr) ⟨hv.1, ?_⟩ hg hz fP hown hpv rfl (by rw [hS.hdr,hS.wh]; exact hn)
  rw [eZ (fun t ht=>(hs t.1 (.inr (List.mem_map.2 ⟨t,ht,rfl⟩))).root)]
  exact hv.2
theorem sU.turn {σ':St} {α':dK} {F':List Nat} {lw lh:Nat→List Nat} (H:Rel cx σ α F a w) (T:mW cx σ α F w σ' α' F' w lw lh) (hF:∀b∈F,b∈F') :
  ∀{l:List (Value×iQ)} {hs:List (List Value×List Nat)},(∀t∈rT l,σ'.roots t.1=σ.roots t.1)→sU cx σ α F w l hs→sU cx σ' α' F' w l hs
 | [],[],_,_=>trivial
 | it :: l,h :: hs,hr,hh=>by
  refine ⟨⟨hh.1.1,hh.1.2.1.turn H T (fun b hb=>⟨rfl,hF b (hh.1.2.1.sub b hb)⟩), ?_⟩,sU.turn H T hF (fun t ht=>hr t (by simp only [rT,List.flatMap_cons,List.mem_append]; exact .inr ht)) hh.2⟩
  rw [eZ (fun t ht=>hr t (by simp only [rT,List.flatMap_cons,List.mem_append]; exact .inl ht))]
  exact hh.1.2.2
 | [],_ :: _,_,h=>h.elim
 | _ :: _,[],_,h=>h.elim
theorem Ag {l:List Nat}:FR l=true↔l.Nodup:=by
 induction l with
 | nil=>simp [FR]
 | cons n l ih=>simp [FR,ih,aW]
theorem takes:∀(l:List (Value×iQ)) {σ:St} {α:dK} {F:List Nat},Rel cx σ α F a w→(∀it∈l,yh cx σ α F w it.1 it.2)→((wu l).flatMap Wr.wo).Nodup→(∀t∈rT l,t.1∉(wu l).flatMap Wr.wo)→
  ∃α' F' hs,Rel cx (aC (wu l) σ) α' F' a w∧sU cx (aC (wu l) σ) α' F' w l hs∧(hs.flatMap (·.2)).Nodup∧(∀b∈hs.flatMap (·.2),b∉F)∧(∀b∈F,b∈F')∧
   (∀q,q∉(wu l).flatMap Wr.wo→Same σ α (aC (wu l) σ) α' q)∧
   (∀k x own tags cs fo,Held cx σ α F w k x own tags cs fo→Held cx (aC (wu l) σ) α' F' w k x own tags cs fo)∧Views cx σ α F w (aC (wu l) σ) α' F' w∧(∀t,E9 σ t→E9 (aC (wu l) σ) t)∧(∀q,σ.roots q=none→(aC (wu l) σ).roots q=none):=by
 intro l
 induction l with
 | nil=>intro σ α F H _ _ _; exact ⟨α,F,[],H,trivial,List.nodup_nil,fun b hb=>by simp at hb,fun _ h=>h,fun q _=>lJ ..,fun _ _ _ _ _ _ h=>h,fun T tys _ h=>⟨h,fun b hb _=>⟨hb,rfl⟩,fun b hb _=>⟨hb,rfl⟩⟩,fun _ h=>h,fun _ h=>h⟩
 | cons it l ih=>
  intro σ α F H hT hnd xW
  have e1:wu (it :: l)=it.2.ws++wu l:=rfl
  have e2:rT (it :: l)=it.2.tags++rT l:=rfl
  rw [e1,Kn] at hnd xW
  rw [e2] at xW
  obtain ⟨dL,F1,cs,fo,lw,lh,H1,T1,h1,h2,h3,h4,h5,h6⟩:=take1 H (hT it (by simp))
  have hnd':=List.nodup_append.1 hnd
  obtain ⟨Gt,F2,hs,H2,g1,g2,g3,g4,g5,g6,g7,g8,g9⟩:=ih H1 (fun it' hi=>(hT it' (by simp [hi])).stays H T1 (fun q hq=>by
   refine h6 q ?_
   rcases hq with hq | hq
   ·intro hq'
    exact hnd'.2.2 q hq' q (by
     rw [List.mem_flatMap] at hq ⊢
     obtain ⟨wr,hw1,hw2⟩:=hq
     exact ⟨wr,List.mem_flatMap.2 ⟨it',hi,hw1⟩,hw2⟩) rfl
   ·obtain ⟨t,ht,rfl⟩:=List.mem_map.1 hq
    intro hq'
    exact xW t (List.mem_append_right _ (List.mem_flatMap.2 ⟨it',hi,ht⟩)) (List.mem_append_left _ hq'))) hnd'.2.1
   (fun t ht hq=>xW t (List.mem_append_right _ ht) (List.mem_append_right _ hq))
  rw [e1,dJ]
  have hq1:∀q,q∉(it.2.ws).flatMap Wr.wo++(wu l).flatMap Wr.wo→Same σ α (aC (wu l) (aC it.2.ws σ)) Gt q:=by
   intro q hq
   simp only [List.mem_append,not_or] at hq
   have s1:=h6 q hq.1
   have s2:=g5 q hq.2
   exact ⟨s2.root.trans s1.root,s2.loc.trans s1.loc,s2.hdr.trans s1.hdr,s2.fo.trans s1.fo⟩
  refine ⟨Gt,F2,(cs,fo) :: hs,H2,⟨⟨h1,g6 _ _ _ _ _ _ h2, ?_⟩,g1⟩, ?_, ?_,fun b hb=>g4 b (h4 b hb), ?_,fun k x own tags cs fo hh=>g6 _ _ _ _ _ _ (hh.turn H T1 (fun b hb=>⟨rfl,h4 b (hh.sub b hb)⟩)), ?_,fun t ht=>g8 t (T1.tag ht), ?_⟩
  ·rw [eZ (fun t ht=>(g5 t.1 (fun hq=>xW t (List.mem_append_left _ ht) (List.mem_append_right _ hq))).root)]
   exact h3
  ·simp only [List.flatMap_cons]
   exact List.nodup_append.2 ⟨h2.nd,g2,fun b hb c hc e=>g3 c hc (e▸h2.sub b hb)⟩
  ·intro b hb hF
   simp only [List.flatMap_cons,List.mem_append] at hb
   rcases hb with hb | hb
   ·exact h5 b hb hF
   ·exact g3 b hb (h4 b hF)
  ·rw [Kn]
   exact hq1
  ·intro T tys hw hc
   obtain ⟨k1,k2,k3⟩:=g7 T tys (fun t ht=>T1.tag (hw t ht)) hc
   obtain ⟨j1,j2,j3⟩:=T1.views H T tys hw k1
   refine ⟨j1,fun b hb ht=>?_,fun b hb ht=>?_⟩
   ·obtain ⟨a1,a2⟩:=j2 b hb ht
    exact ⟨(k2 b a1 ht).1,rfl⟩
   ·obtain ⟨a1,a2⟩:=j3 b hb ht
    exact ⟨(k3 b a1 ht).1,rfl⟩
  ·intro q hq
   refine g9 q ?_
   cases hq2:(aC it.2.ws σ).roots q with
   | none=>rfl
   | some Q=>
    exfalso
    by_cases hm:q∈(it.2.ws).flatMap Wr.wo
    ·have:=hT it (by simp)
     cases this with
     | held hws cs hv hh hc=>rw [hws] at hm; simp at hm
     | ref r R hr hv e hk hd=>rw [e] at hm; simp [Wr.wo] at hm; subst hm; rw [hr.1] at hq; simp at hq
     | cut r R cs hr hv hk e hd hl VH how=>rw [e.2.2.1] at hm; simp [Wr.wo] at hm; subst hm; rw [hr.1] at hq; simp at hq
     | gap r R p d z hr hv hg hz fP hown hpv e hn=>rw [e] at hm; simp [Wr.wo] at hm; subst hm; rw [hr.1] at hq; simp at hq
    ·rw [(h6 q hm).root,hq] at hq2
     simp at hq2
end
end Go.Proofs.YtailcbngagacaabGreat.Ow

/- The framework, part 15: a store; a new root. Own work of this seat. -/
namespace Go.Proofs.YtailcbngagacaabGreat.Ow
open Go
variable [Fr]
theorem iK (j:Nat):fJ (qB j)=true:=by simp [fJ,qB,Nat.add_mod]
theorem Dx {ws:List Wr} {T:List Tag}:BM ws T=true↔∀t∈T,t.1∉ws.flatMap Wr.wo:=by
 unfold BM
 rw [List.all_eq_true]
 simp [aW]
theorem aaj {ws:List Wr} {r:Nat} (h:(ws.all fun w=>!w.loc.beq (.r r))=true):r∉ws.flatMap Wr.wo:=by
 rw [List.mem_flatMap]
 rintro ⟨w,h1,h2⟩
 have:=List.all_eq_true.1 h w h1
 cases w with
 | s n a=>simp [Wr.wo] at h2
 | r n o=>
  simp only [Wr.wo,List.mem_singleton] at h2
  subst h2
  simp [Wr.loc,Loc.beq] at this
theorem Am:∀(n:Nat) {c:K} {x:El c} {s:Dat} {q:Nat×K},aN n c x=some s→bC n c=some q→q.2=s.1:=by
 intro n
 induction n with
 | zero=>intro c x s q h1 h2; cases c with
  | pair a b=>simp only [aN,bC,Option.some.injEq] at h1 h2; subst h1; subst h2; rfl
  | _=>simp [aN] at h1
 | succ n ih=>intro c x s q h1 h2; cases c with
  | pair a b=>
   simp only [aN,bC] at h1 h2
   cases h3:bC n b with
   | none=>rw [h3] at h2; simp at h2
   | some q3=>rw [h3] at h2; simp only [Option.some.injEq] at h2; subst h2; exact ih (q:=q3) h1 h3
  | _=>simp [aN] at h1
theorem Ye {h:Heap}:∀(p:List Stp) {k:K} {x:El k} {cs:List Value} {c1:List Value} {w1:Option (Nat×Nat)},ah p k=[]→(aT p k x).isSome=true→bE h p k cs none=some (c1,w1)→w1=none:=by
 intro p
 induction p with
 | nil=>intro k x cs c1 w1 _ _ h; simp only [bE,Option.some.injEq,Prod.mk.injEq] at h; exact h.2.symm
 | cons s p ih=>
  intro k x cs c1 w1 h0 hs h
  cases s with
  | gB n=>
   cases k with
   | st c=>
    simp only [aT] at hs
    cases hg:aN n c x with
    | none=>rw [hg] at hs; simp at hs
    | some s=>
     rw [hg] at hs
     have hp2:ah (.gB n :: p) (.st c)=ah p s.1:=by simp [ah,bU n hg]
     rw [hp2] at h0
     simp only [bE] at h
     cases ho:bC n c with
     | none=>rw [ho] at h; simp at h
     | some q=>
      have hk2:q.2=s.1:=Am n (c:=c) hg ho
      rw [ho] at h
      obtain ⟨q1,q2⟩:=q
      simp only at hk2
      subst hk2
      exact ih h0 hs h
   | _=>simp [aT] at hs
  | idx i=>
   cases k with
   | sl e k=>simp [ah] at h0
   | _=>simp [aT] at hs
theorem K.WA:∀k:K,k.beq k=true:=by
 intro k
 induction k with
 | int ik=>cases ik <;> rfl
 | sl e k ih=>simp [K.beq,ih]
 | pair a b iha ihb=>simp [K.beq,iha,ihb]
 | st f ih=>exact ih
 | gap n=>simp [K.beq]
 | id e=>simp [K.beq]
 | _=>rfl
theorem SG:∀(q:List Stp) {k:K} {x:El k},nR q k x→(aT q k x).isSome=true:=by
 intro q
 induction q with
 | nil=>intro k x _; rfl
 | cons s q ih=>
  intro k x h
  cases s with
  | gB n=>
   cases k with
   | st c=>
    simp only [nR] at h
    simp only [aT]
    cases hc:aN n c x with
    | none=>rw [hc] at h; exact h.elim
    | some d=>rw [hc] at h; exact ih h
   | _=>exact h.elim
  | idx i=>
   cases k with
   | sl e k=>exact ih h.2.2
   | _=>exact h.elim
theorem Zl:∀(q:List Stp) {k:K} {x:El k},ah q k=[]→(aT q k x).isSome=true→nR q k x:=by
 intro q
 induction q with
 | nil=>intro k x _ _; trivial
 | cons s q ih=>
  intro k x h0 hs
  cases s with
  | idx i=>cases k <;> simp [ah,aT] at h0 hs
  | gB n=>
   cases k with
   | st c=>
    simp only [aT] at hs
    cases hg:aN n c x with
    | none=>rw [hg] at hs; simp at hs
    | some s=>
     rw [hg] at hs
     simp only at hs
     have hp2:ah (.gB n :: q) (.st c)=ah q s.1:=by simp [ah,bU n hg]
     rw [hp2] at h0
     simp only [nR,hg]
     exact ih h0 hs
   | _=>simp [aT] at hs
section
variable {cx:Cx} {σ:St} {α:dK} {F:List Nat} {a:Act} {w:World} {r:Nat} {R:Root}
theorem Vu {P:Program} {T:jd} {t:TypeId} {kk:K} {x:El kk} {oD:List TypeId} {vV:List Tag} {Nj:List Value} {Rt:List Nat} {v:Value} (hT:fH P T t kk)
  (H:Rel cx σ α F a w) (hr:aP σ r R) (hv:bq σ R) {p:List Stp} {d z:Dat} (hg:aT p R.k R.x=some d) (hz:dY p R.k R.x ⟨kk,x⟩=some z) (fP:nR p R.k R.x) (hown:∀t∈ah p R.k,ay t R.own=true)
  (hh:Held cx σ α F w kk x oD vV Nj Rt) (hc:bg σ (aU oD kk) vV=true) (HV:VC kk v Nj) (hd:d.1=kk∨d.1=kk.hole)
  (hself:kk.flat=true∨NW R r vV (aU oD kk)=true) (hbad:∀t∈ah p R.k,t∉aU oD kk) (kp:Bool)
  {cs1:List Value} {b o:Nat} (hn:bE (hp w) p R.k (α.hdr r) (dW α R r)=some (cs1,some (b,o))) :
  ∃w',(Instr.storeAt t (.pointer (some ⟨b,o,none⟩)) v).run P w=.ok () w'∧∃α' F',
   Rel cx (az σ r (bG R z (bJ R.own (aU oD kk)) (bif kk.flat then R.tags else iL (yl r vV) R.tags) [eO R p] ((bif d.1.beq kk then [] else uF kk)++kk.tys) kp)) α' F' a w':=by
 have K0:=H.roots r R hr
 have hnt:=H.dz r R hr.1
 have UN:=hh.ow hc
 obtain ⟨_,_,hbb,⟨arr,e,lo,hi,hb,hf,hs,hlast⟩,_⟩:=qH H hr hv hg fP hown hn
 have hds:kk.size=d.1.size:=by
  rcases hd with h | h
  ·rw [h]
  ·rw [h,wO]
 have hone:=QA hT.gF UN
 have hrun:=GV (o:=o) hT hb hf hh.len (by omega) HV hone
 obtain ⟨s1,s2,kE,s3,s4,s5,s6⟩:=vN b Nj w arr e (lo,hi) o hb (by rw [hh.len]; omega)
 have s7:=qJ b Nj w o
 refine ⟨_,hrun, ?_⟩
 have aaJ:∀t∈ah p R.k,ay t (bJ R.own (aU oD kk))=true:=fun t ht=>dG.2 ⟨hown t ht,hbad t ht⟩
 obtain ⟨fd,ok',fU,rest,qA,nS,hn',hpf,hd1,hty,_,Az,hwf,hgo⟩:=H.place hr hv (own':=bJ R.own (aU oD kk)) hg fP (fun t h=>(dG.1 h).1) aaJ
 rw [hn] at hn'
 simp only [Option.some.injEq,Prod.mk.injEq] at hn'
 obtain ⟨rfl,rfl⟩:=hn'
 obtain ⟨ft,Dj,hpt,hOt⟩:=wF (own':=bJ R.own (aU oD kk)) (fun t ht hm=>by
  rcases Cy (own:=oD) ht with h | h
  ·exact absurd h (dG.1 hm).2
  ·exact h) (uA (aU oD kk) (fun _ h=>h) UN)
 have agH:=hpt.nodup hh.nd
 have hft:∀b∈ft,b∈Rt:=fun b hb=>hpt.mem_iff.2 (List.mem_append_left _ hb)
 have acW:∀b∈Dj,b∈Rt:=fun b hb=>hpt.mem_iff.2 (List.mem_append_right _ hb)
 have Hz:b∉F:=H.jo r R hr b hbb
 have agy:=vB hOt
 suffices hP:uB cx σ α F w r R p d (bJ R.own (aU oD kk)) cs1 (some (b,o)) fU rest ⟨kk,x⟩ z (bif kk.flat then R.tags else iL (yl r vV) R.tags) [eO R p] ((bif d.1.beq kk then [] else uF kk)++kk.tys) kp ft (F.filter fun b=>!ay b Rt) Nj (w.setCells b o Nj) by
  obtain ⟨α',h,_⟩:=hgo hP
  exact ⟨α',_,h⟩
 have hF':∀b',b'∈F.filter (fun b=>!ay b Rt)↔b'∈F∧b'∉Rt:=fun b'=>by rw [List.mem_filter]; simp [aW]
 refine ⟨hz,hds, ?_,⟨s7.1,s7.2.1,s7.2.2⟩,by omega, ?_, ?_,fun h=>by simp at h,by rw [hh.len,hds], .inl (by simp), ?_,fun b' hb'=>.inr (.inl (hh.sub b' (hft b' hb'))),(List.nodup_append.1 agH).1,fun b' hb'=>.inl ((hF' b').1 hb').1,H.CG.filter _,fun b' hb' h=>((hF' b').1 h).2 (hft b' hb'), .inr (by simp), ?_, ?_, ?_⟩
 ·rcases hd with h | h
  ·rw [h]; exact fun _ h=>h
  ·rw [h,Sv]; intro t ht; simp at ht
 ·intro b' _ hne
  refine .inr (.inr ?_)
  by_cases e:b'=b
  ·subst e; exact ⟨o,rfl,by simp⟩
  ·exact absurd (s1 b' e) hne
 ·intro b' o' e'
  simp only [Option.some.injEq,Prod.mk.injEq] at e'
  obtain ⟨rfl,rfl⟩:=e'
  refine ⟨fun i hi=>?_,arr,kE,e,(lo,hi),hb,s3,s4,fun i hi=>?_⟩
  ·unfold cellAt
   rw [s3]
   exact s5 i hi
  ·exact s6 i (by rw [hh.len,hds]; exact hi)
 ·cases hfl:kk.flat with
  | true=>exact ⟨fun _ h=>h,hnt.1,hnt.2.2⟩
  | false=>
   refine ⟨fun t ht=>cK.2 (.inr ht),fun t ht=>?_,fun n ht=>?_⟩
   ·rcases cK.1 ht with h | h
    ·exact hh.wt t (qg.1 h).1
    ·exact hnt.1 t h
   ·rcases cK.1 ht with h | h
    ·exact (qg.1 h).2 rfl
    ·exact hnt.2.2 n h
 ·cases hbq:d.1.beq kk with
  | true=>exact .inl (K.eq_of_beq hbq).symm
  | false=>
   have hdh:d.1=kk.hole:=hd.resolve_left (fun e=>by rw [e,K.WA] at hbq; simp at hbq)
   refine .inr (.inl fun q' h1 h2=>?_)
   have hnil:ah q' kk=[]:=by
    cases he:ah q' kk with
    | nil=>rfl
    | cons e l=>exact absurd (List.mem_append_right _ (pM q' e (by rw [he]; simp))) (h2 e (by rw [show ah q' (⟨kk,x⟩:Dat).1=ah q' kk from rfl,he]; simp))
   obtain ⟨dk,dx⟩:=d
   simp only at hdh
   subst hdh
   obtain ⟨h3,h4⟩:=UW q' (y:=x) hnil h1
   refine ⟨?_, ?_⟩
   ·show ah q' kk.hole=ah q' kk
    rw [h3,hnil]
   ·show (aT q' kk.hole dx).isSome=true
    rw [rJ q' (y:=vH kk x)]
    exact h4
 ·intro _ q c0 w0 hpq XI hnq hqs
  obtain ⟨dk,dx⟩:=d
  rcases hd with ek | ek
  ·simp only at ek
   subst ek
   exact wJ q hpq (fun t ht=>⟨(XI t ht).1,fun h=>(XI t ht).2 (List.mem_append_right _ h)⟩) hnq
  ·simp only at ek
   subst ek
   have hs0:(aT q kk.hole dx).isSome=true:=SG q hpq
   rw [rJ q (y:=vH kk x)] at hs0
   obtain ⟨h1,h2,h3,_,h5⟩:=JQ (h:=hp w) q (x:=x) hs0
   have ala:bE (hp w) q kk cs1 (some (b,o))=some (c0,w0):=by rw [←h5]; exact hnq
   exact wJ (own:=bJ R.own (aU oD kk)) q (Zl q h1 h3) (fun t ht=>by rw [h1] at ht; simp at ht) ala
 ·intro α' Tn hblk hval
  cases hfl:kk.flat with
  | true=>
   obtain ⟨e1,e2⟩:=Zh (h':=hp (w.setCells b o Nj)) (own':=bJ R.own (aU oD kk)) (ok':=iO cx (az σ r (bG R z (bJ R.own (aU oD kk)) (bif kk.flat then R.tags else iL (yl r vV) R.tags) [eO R p] ((bif d.1.beq kk then [] else uF kk)++kk.tys) kp)) α' (F.filter fun b=>!ay b Rt) (w.setCells b o Nj) (bif true then R.tags else iL (yl r vV) R.tags)) hfl hOt
   subst e1
   rw [hfl] at e2
   exact e2
  | false=>
   rw [hfl] at Tn hblk hval
   have F9:=hself.resolve_left (by rw [hfl]; simp)
   simp only [cond_false] at Tn hblk hval ⊢
   generalize hR':bG R z (bJ R.own (aU oD kk)) (iL (yl r vV) R.tags) [eO R p] ((bif d.1.beq kk then [] else uF kk)++kk.tys) kp=R' at *
   have hRw:R'.w=[eO R p]++R.w:=by rw [←hR']; rfl
   have hRt:R'.tags=iL (yl r vV) R.tags:=by rw [←hR']; rfl
   have hRv:R'.Db=aU (bJ R.own (aU oD kk)) z.1:=by rw [←hR']; rfl
   have hRd:R'.aX=false:=hval.1
   have agT:∀t∈aU oD kk,t∈R'.Db:=by
    intro t ht
    rw [hRv]
    have h1:=Su (own:=oD) (own':=bJ R.own (aU oD kk)) (k:=kk) (fun t ht hm=>by
     rcases Cy (own:=oD) ht with h | h
     ·exact absurd h (dG.1 hm).2
     ·exact h) t ht
    rcases (MI p hg hz).1 t h1 with h | ⟨q,h2,h3⟩
    ·exact h
    ·rw [aaJ q h2] at h3; simp at h3
   have Xt:∀n,(r,n)∈vV→eO R p∉aU oD kk:=by
    intro n hn1 hl
    unfold eO at hl
    cases hpt:ah p R.k with
    | nil=>
     rw [hpt] at hl
     simp only [List.getLastD_nil] at hl
     unfold NW at F9
     rw [Bool.or_eq_true] at F9
     rcases F9 with h | h
     ·have:=List.all_eq_true.1 h _ hn1
      simp at this
     ·unfold Root.bt at hl
      cases hk:R.kind with
      | var tv=>rw [hk] at h hl; simp only at h hl; rw [Bool.not_eq_true',aW] at h; exact h hl
      | par=>rw [hk] at h; simp at h
      | anon=>
       rcases Az b o rfl with h1 | ⟨o0,ew,_⟩
       ·
        rw [hpt] at hbad
        have:=hty b (List.mem_append_right _ h1)
        have hne:dW α R r=none:=by unfold dW; rw [hk]
        rw [hne] at hn
        have:=Ye p hpt (by rw [hg]; rfl) hn
        simp at this
       ·unfold dW at ew; rw [hk] at ew; simp at ew
      | dead=>have:=hr.2; simp [Root.aX,hk] at this
    | cons e l=>
     rw [hpt,List.getLastD_eq_getLast?] at hl
     have:(e :: l).getLast?.getD R.bt∈(e :: l):=by
      rw [List.getLast?_eq_some_getLast (by simp)]
      exact List.getLast_mem _
     exact hbad _ (by rw [hpt]; exact this) hl
   have hc':bg (az σ r R') (aU oD kk) vV=true:=by
    rw [pz]
    intro tg xW
    by_cases e:tg.1=r
    ·refine .inr ⟨R',by rw [e]; exact aJ ..,hRd, ?_⟩
     rw [pz] at hc
     rcases hc tg xW with h | ⟨Q,h1,h2,h3⟩
     ·rw [e,hnt.2.1] at h; simp at h
     ·rw [e,hr.1] at h1
      simp only [Option.some.injEq] at h1
      subst h1
      rw [hRw]
      refine (qa ?_).2 ⟨fun t ht=>?_,h3⟩
      ·rcases hh.wt tg xW with h | ⟨Q,q1,q2⟩
       ·rw [e,hnt.2.1] at h; simp at h
       ·rw [e,hr.1] at q1
        simp only [Option.some.injEq] at q1
        subst q1
        rcases q2 with q2 | q2
        ·rw [hr.2] at q2; simp at q2
        ·exact q2
      ·simp only [List.mem_singleton] at ht
       subst ht
       exact Xt tg.2 (by rw [←e]; exact xW)
    ·have h2:=hval.2
     rw [hRt,pz] at h2
     rcases h2 tg (cK.2 (.inl (qg.2 ⟨xW,e⟩))) with h | ⟨Q,h3,h4,h5⟩
     ·exact .inl h
     ·refine .inr ⟨Q,h3,h4, ?_⟩
      unfold clean at h5 ⊢
      rw [List.all_eq_true] at h5 ⊢
      intro x hx
      have:=h5 x hx
      simp only [Bool.not_eq_true',aW] at this ⊢
      exact fun h=>this (agT x h)
   obtain ⟨_,hV,_⟩:=Tn.views H vV (aU oD kk) hh.wt hc'
   have hsame:∀b',b'≠b→hp (w.setCells b o Nj) b'=hp w b':=s1
   refine bD ?_ ?_ (fun b' hb'=>hsame b' (fun e=>Hz (e▸hh.sub b' (hft b' hb')))) hOt
   ·rintro b' (⟨h1,h2⟩ | h)
    ·exact (hV b' h1 (.inl h2)).2
    ·exact hsame b' (fun e=>Hz (e▸hh.sub b' (acW b' h)))
   ·rintro b' (⟨h1,h2⟩ | h)
    ·obtain ⟨g1,g2,g3,g4,g5⟩:=(hV b' h1 (.inl h2)).1
     refine ⟨g1,g2,g3,fun q Q hq hbq=>?_,fun h0=>?_⟩
     ·obtain ⟨n,hn1⟩:=g4 q Q hq hbq
      by_cases e:q=r
      ·exfalso
       subst e
       obtain ⟨rfl,_⟩:=eP hq
       obtain ⟨tt,ht1,ht2⟩:=h2
       have Yg:∀e,mine cx w b'→rV (hp w) b'=some e→ay e (bJ R.own (aU oD kk))=true→False:=by
        intro e hmn he hm
        have ht2:=H.Sq hmn ht2
        rw [ht2] at he
        simp only [Option.some.injEq] at he
        subst he
        exact (dG.1 hm).2 ht1
       rcases hblk b' hbq with ⟨o',h⟩ | h | h
       ·unfold NW at F9
        rw [Bool.or_eq_true] at F9
        rcases F9 with h3 | h3
        ·have:=List.all_eq_true.1 h3 _ hn1
         simp at this
        ·cases hk:R.kind with
         | var tv=>
          rw [hk] at h3
          simp only at h3
          rw [Bool.not_eq_true',aW] at h3
          obtain ⟨_,amI,e2,lo2,hi2,f1,_,_,f4⟩:=K0.mem b' o' h
          have ht2:=H.Sq (K0.mine b' (by unfold blk; rw [h]; exact List.mem_cons_self)) ht2
          unfold rV at ht2
          rw [f1] at ht2
          simp only [Option.some.injEq] at ht2
          exact h3 (by rw [←f4 tv hk,ht2]; exact ht1)
         | par=>rw [hk] at h3; simp at h3
         | anon=>unfold dW at h; rw [hk] at h; simp at h
         | dead=>have:=hr.2; simp [Root.aX,hk] at this
       ·obtain ⟨e,_,h3,h4⟩:=agy b' h
        exact Yg e (H.fl b' (hh.sub b' (hft b' h))) h4 h3
       ·obtain ⟨e,_,h3,h4⟩:=hty b' (List.mem_append_right _ h)
        exact Yg e (K0.mine b' (List.mem_append_right _ (hpf.mem_iff.2 (by simp [h])))) h4 h3
      ·exact ⟨n,cK.2 (.inl (qg.2 ⟨hn1,e⟩))⟩
     ·rcases g5 h0 with ⟨j,n,h3,h4⟩ | h3
      ·refine .inl ⟨j,n,cK.2 (.inl (qg.2 ⟨h3, ?_⟩)),h4⟩
       intro e
       have:=hnt.2.1
       rw [←e] at this
       simp only at this
       rw [iK] at this
       simp at this
      ·exact .inr h3
    ·have Xi:=hh.sub b' (acW b' h)
     have hm:=H.fl b' Xi
     refine ⟨by have:=hm.1; omega,fun h2=>((hF' b').1 h2).2 (acW b' h),uu H Xi,fun q Q hq hbq=>?_,fun h0=>?_⟩
     ·exfalso
      rcases jq hq with ⟨rfl,rfl,_⟩ | ⟨e,hq'⟩
      ·rcases hblk b' hbq with ⟨o',h2⟩ | h2 | h2
       ·exact H.jo _ _ hr b' (by rw [bS,eX]; exact .inl ⟨o',h2⟩) Xi
       ·exact (List.nodup_append.1 agH).2.2 b' h2 b' h rfl
       ·exact H.jo _ _ hr b' (by rw [bS,eX,hpf.mem_iff]; exact .inr (by simp [h2])) Xi
      ·obtain ⟨Q2,g1,g2⟩:=Tn.old q Q hq'.1
       have hns:Same σ α (az σ r R') α' q:=by
        refine Classical.byContradiction fun hns=>?_
        rcases g2 with ⟨h1,h2⟩ | ⟨_,h2⟩
        ·rw [bZ σ R' e] at g1
         rw [hq'.1] at g1
         simp only [Option.some.injEq] at g1
         subst g1
         rw [hq'.2] at h1
         simp at h1
        ·rcases h2.2.2.2.2.2.2 with h3 | ⟨_,_,h3⟩
         ·rw [qQ _ e,qQ _ e] at h3
          simp at h3
         ·exact hns h3
       rw [hns.blk] at hbq
       exact H.jo _ _ hq' b' hbq Xi
     ·rcases hm.2 with h | ⟨j,pi,h1,h2⟩
      ·omega
      ·exact .inr ⟨j,pi,h1,h2⟩
end
end Go.Proofs.YtailcbngagacaabGreat.Ow

/- The framework, part 16: a new root. Own work of this seat. -/
namespace Go.Proofs.YtailcbngagacaabGreat.Ow
open Go
variable [Fr]
theorem gP (d c:Nat):fJ (bI d c)=false:=by
 unfold fJ bI
 have:(4 * (8 * d+c)+2) % 4=2:=by omega
 rw [this]; rfl
section
variable {cx:Cx} {σ:St} {α:dK} {F:List Nat} {a:Act} {w:World} {r:Nat}
theorem Qi {T:List Tag} (h:fA σ T) (hn:σ.roots r=none) (hx:fJ r=false):∀n,(r,n)∉T:=by
 intro n hn2
 rcases h _ hn2 with h | ⟨Q,h,_⟩
 ·simp only at h; rw [hx] at h; simp at h
 ·simp only at h; rw [hn] at h; simp at h
theorem OE (H:Rel cx σ α F a w) (hn:σ.roots r=none) (hx:fJ r=false) {R':Root} (hd:R'.aX=false) (hk:R'.kind≠.par) (tu:fA σ R'.tags) (loc:Nat×Nat) (hdr':List Value) (dI F':List Nat)
  (hblk:∀b∈iw R' loc dI,b∈F∧b∉F') (hnd:(iw R' loc dI).Nodup) (hF':∀b∈F',b∈F) (Xb:F'.Nodup)
  (how:bg σ R'.Db R'.tags=true→Ow (hp w) R'.own (fun b=>iO cx σ α F w R'.tags b∨(b∈F∧b∉F'∧b∉iw R' loc dI)) R'.k R'.x hdr' dI) (hlen:hdr'.length=R'.k.size)
  (hmem:∀b o,xY R' loc=some (b,o)→Cells (hp w) b o hdr'∧∃arr e lo hi,hp w b=some (.cells arr e (lo,hi))∧(∀i,i<arr.size→¬(lo≤i∧i<hi))∧o+R'.k.size≤arr.size∧(∀t,R'.kind=.var t→e=t)) :
  Rel cx (az σ r R') (aH α r loc hdr' dI) F' a w∧mW cx σ α F w (az σ r R') (aH α r loc hdr' dI) F' w (uI r []) (uI r []):=by
 have hns:∀{q:Nat},¬Same σ α (az σ r R') (aH α r loc hdr' dI) q→q=r:=fun {q} h=>Classical.byContradiction fun e=>h (gV e)
 have hold:∀{q Q},σ.roots q=some Q→q≠r:=fun {q Q} h e=>by rw [e,hn] at h; simp at h
 have T:mW cx σ α F w (az σ r R') (aH α r loc hdr' dI) F' w (uI r []) (uI r []):=by
  refine ⟨rfl,⟨rfl,rfl,rfl⟩,Nat.le_refl _, ?_, ?_, ?_,fun b _ h=>absurd rfl h, ?_,Xb, ?_, ?_,fun _ _ _ _ _ _ _ h=>absurd rfl h,fun q Q Q' h1 h2 _=>by rw [bZ σ R' (hold h1),h1] at h2; simp only [Option.some.injEq] at h2; subst h2; exact ⟨rfl,rfl⟩⟩
  ·intro q Q hQ
   have e:=hold hQ
   refine ⟨Q,by rw [bZ σ R' e]; exact hQ, ?_⟩
   cases hd:Q.aX with
   | true=>exact .inl ⟨rfl,by intro hk; simp [Root.aX,hk] at hd⟩
   | false=>exact .inr ⟨rfl,by rw [qQ _ e]; rfl,by rw [qQ _ e]; rfl,Nat.le_refl _,rfl,by simp [aH,upd_ne _ _ e],fun _=>rfl, .inr ⟨qQ _ e,qQ _ e,gV e⟩⟩
  ·intro q Q hQ hs
   have e:=hns hs
   subst e
   rw [aJ] at hQ
   simp only [Option.some.injEq] at hQ
   subst hQ
   refine ⟨fun t ht=>?_,hx,Qi tu hn hx⟩
   have hne:t.1≠q:=fun e=>Qi tu hn hx t.2 (by rw [←e]; exact ht)
   rcases tu t ht with h | ⟨Q,h1,h2⟩
   ·exact .inl h
   ·exact .inr ⟨Q,by rw [bZ σ R' hne]; exact h1,h2⟩
  ·intro q Q hq hQ
   by_cases e:q=r
   ·subst e
    rw [aJ] at hQ
    simp only [Option.some.injEq] at hQ
    subst hQ
    exact hk
   ·rw [bZ σ R' e,hq] at hQ; simp at hQ
  ·rintro b (⟨q,Q,hq,hb,hno⟩ | hb)
   ·rcases jq hq with ⟨rfl,rfl,_⟩ | ⟨e,hq'⟩
    ·rw [eD] at hb
     exact .inl (hblk b hb).1
    ·rw [(gV (α:=α) (σ:=σ) (R:=R') e).blk] at hb
     exact absurd ⟨Q,hq',hb⟩ hno
   ·exact .inl (hF' b hb)
  ·intro q Q hq hs b hb
   have e:=hns hs
   subst e
   obtain ⟨rfl,_⟩:=eP hq
   rw [eD] at hb
   exact (hblk b hb).2
  ·intro q Q q' Q' hq hq' hne hs hs'
   exact absurd ((hns hs).trans (hns hs').symm) hne
 refine ⟨H.turn T ?_ ?_ ?_,T⟩
 ·intro q Q hq hs
  have e:=hns hs
  subst e
  obtain ⟨rfl,_⟩:=eP hq
  refine ⟨fun hv=>?_, ?_, ?_, ?_⟩
  ·have e1:(aH α q loc hdr' dI).hdr q=hdr':=by simp [aH,upd_same]
   have e2:(aH α q loc hdr' dI).fo q=dI:=by simp [aH,upd_same]
   rw [e1,e2]
   obtain ⟨h1,h2,_⟩:=T.views H Q.tags _ tu hv.2
   refine bD (fun _ _=>rfl) ?_ (fun _ _=>rfl) (uA _ (fun _ h=>h) (how h1))
   rintro b ⟨hb | ⟨g1,g2,g3⟩,hty⟩
   ·exact (h2 b hb (.inl hty)).1
   ·have hm:=H.fl b g1
    refine ⟨hm.1,g2,uu H g1,fun q' Q' hq' hb'=>?_,fun h0=>?_⟩
    ·exfalso
     rcases jq hq' with ⟨rfl,rfl,_⟩ | ⟨e,hq2⟩
     ·rw [eD] at hb'; exact g3 hb'
     ·rw [(gV (α:=α) (σ:=σ) (R:=Q) e).blk] at hb'
      exact H.jo _ _ hq2 b hb' g1
    ·rcases hm.2 with h | ⟨j,pi,h1,h2⟩
     ·omega
     ·exact .inr ⟨j,pi,h1,h2⟩
  ·simpa [aH,upd_same] using hlen
  ·intro b o hb
   rw [jH] at hb
   simpa [aH,upd_same] using hmem b o hb
  ·rw [eD]; exact hnd
 ·intro q Q hq hs
  exact absurd (hns hs) (hold hq.1)
 ·intro q Q hq hs
  exact absurd (hns hs) (hold hq.1)
theorem gN {R:Root} (h:R.kind=.anon) (loc:Nat×Nat) (fo:List Nat):iw R loc fo=fo:=by simp [iw,h]
theorem wM {R:Root} {t:TypeId} (h:R.kind=.var t) (loc:Nat×Nat) (fo:List Nat):iw R loc fo=loc.1 :: fo:=by simp [iw,h]
theorem zT {R:Root} (h:R.kind=.anon) (loc:Nat×Nat):xY R loc=none:=by simp [xY,h]
theorem Qj {R:Root} {t:TypeId} (h:R.kind=.var t) (loc:Nat×Nat):xY R loc=some loc:=by simp [xY,h]
theorem Yd {k:K} {x:El k} {own:List TypeId} {tags:List Tag} {kp:Bool} {hdr:List Value} {fo F':List Nat} {loc:Nat×Nat} {v:Value} {w:World} (h:VC k v hdr) :
  bH cx (az σ r (aO k x own tags .anon kp)) (aH α r loc hdr fo) F' w (.ref r 0) v:=by
 intro Q hQ _
 obtain ⟨rfl,_⟩:=eP hQ
 refine ⟨rfl, ?_⟩
 simp only [aH,upd_same]
 exact h
theorem adv {k:K} {x:El k} {own:List TypeId} {tags:List Tag} {kp:Bool} {hdr:List Value} {fo F':List Nat} {b:Nat} {t:TypeId} {w:World} :
  bH cx (az σ r (aO k x own tags (.var t) kp)) (aH α r (b,0) hdr fo) F' w (.ptr r [] 0) (.pointer (some ⟨b,0,none⟩)):=by
 refine ⟨⟨b,0,rfl⟩, ?_⟩
 intro Q hQ _ _ _ _
 rw [aJ] at hQ
 simp only [Option.some.injEq] at hQ
 subst hQ
 refine ⟨trivial,hdr,b,0, ?_,rfl⟩
 simp only [bE]
 rw [jH]
 simp [xY,aO,aH,upd_same]
theorem Z0 {k:K} {x:El k} {own:List TypeId} {tags:List Tag} {kp:Bool} {hdr:List Value} {fo F':List Nat} {b o:Nat} {t:TypeId} {w:World} :
  bH cx (az σ r (aO k x own tags (.var t) kp)) (aH α r (b,o) hdr fo) F' w (.ptr r [] 0) (.pointer (some ⟨b,o,none⟩)):=by
 refine ⟨⟨b,o,rfl⟩, ?_⟩
 intro Q hQ _ _ _ _
 rw [aJ] at hQ
 simp only [Option.some.injEq] at hQ
 subst hQ
 refine ⟨trivial,hdr,b,o, ?_,rfl⟩
 simp only [bE]
 rw [jH]
 simp [xY,aO,aH,upd_same]
theorem N9 {tk:iQ} (h:fA σ tk.tags):fA σ tk.mh:=by
 unfold iQ.mh
 split
 ·intro t ht; simp at ht
 ·exact h
theorem gM {h:Heap} {own:List TypeId} {ok ok':Nat→Prop} {k:K} {x:El k} {cs:List Value} {fo:List Nat} (hv:aU own k=[]) (H:Ow h own ok k x cs fo):Ow h own ok' k x cs fo:=by
 refine bD (fun _ _=>rfl) (fun b hb=>?_) (fun _ _=>rfl) (uA [] (by rw [hv]; exact fun _ h=>h) H)
 obtain ⟨_,t,ht,_⟩:=hb
 simp at ht
theorem SQ {P:Program} {tk:iQ} {t:TypeId} {v:Value} {cs:List Value} {fo:List Nat} (H:Rel cx σ α F a w) (hn:σ.roots r=none) (hx:fJ r=false) (hh:Held cx σ α F w tk.k tk.x tk.own tk.tags cs fo)
  (hc:bg σ (aU tk.own tk.k) tk.tags=true) (hv:VC tk.k v cs) (kp:Bool) :
  (Instr.box t v).run P w=.ok (.pointer (some ⟨w.heap.size,0,none⟩)) (w.alloc (.cells v.cells t))∧
   ∃α' F',Rel cx (az σ r (aO tk.k tk.x tk.own tk.mh (.var t) kp)) α' F' a (w.alloc (.cells v.cells t))∧
    bH cx (az σ r (aO tk.k tk.x tk.own tk.mh (.var t) kp)) α' F' (w.alloc (.cells v.cells t)) (.ptr r [] 0) (.pointer (some ⟨w.heap.size,0,none⟩)):=by
 refine ⟨Mv t v w, ?_⟩
 have hcs:v.cells=cs.toArray:=by
  have:=hv.cells
  apply Array.ext'
  simpa using this
 rw [hcs]
 obtain ⟨H1,T1⟩:=H.alloc (.cells cs.toArray t)
 have hh1:=hh.turn H T1 (fun b hb=>⟨qc w _ (H.fl b (hh.sub b hb)).1,List.mem_cons_of_mem _ (hh.sub b hb)⟩)
 have hnew:hp (w.alloc (.cells cs.toArray t)) w.heap.size=some (.cells cs.toArray t (0,0)):=tq w _
 have Hz:w.heap.size∉F:=fun h=>by have:=(H.fl _ h).1; omega
 have hbf:w.heap.size∉fo:=fun h=>Hz (hh.sub _ h)
 have hk:(aO tk.k tk.x tk.own tk.mh (.var t) kp).kind=.var t:=rfl
 obtain ⟨h1,h2⟩:=OE (R':=aO tk.k tk.x tk.own tk.mh (.var t) kp) H1 hn hx rfl (by simp [aO]) (N9 hh1.wt) (w.heap.size,0) cs fo (F.filter fun b=>!ay b fo)
  (fun b hb=>by
   rw [wM hk] at hb
   rcases List.mem_cons.1 hb with h | h
   ·simp only at h; subst h
    exact ⟨List.mem_cons_self,fun h=>Hz (List.mem_filter.1 h).1⟩
   ·refine ⟨List.mem_cons_of_mem _ (hh.sub b h),fun h2=>?_⟩
    have:=(List.mem_filter.1 h2).2
    simp only [Bool.not_eq_true',aW] at this
    exact this h)
  (by rw [wM hk]; exact List.nodup_cons.2 ⟨hbf,hh.nd⟩)
  (fun b hb=>List.mem_cons_of_mem _ (List.mem_filter.1 hb).1) (H.CG.filter _)
  (fun hcl=>by
   show Ow _ tk.own _ tk.k tk.x cs fo
   cases hb:tk.bad with
   | nil=>exact gM hb (hh1.ow hc)
   | cons t0 l=>
    have et:(aO tk.k tk.x tk.own tk.mh (.var t) kp).tags=tk.tags:=by
     show tk.mh=tk.tags
     unfold iQ.mh
     rw [hb]
    rw [et] at hcl ⊢
    exact bD (fun _ _=>rfl) (fun b h=>.inl h) (fun _ _=>rfl) (hh1.ow hcl)) hh.len
  (fun b o hb=>by
   rw [Qj hk] at hb
   simp only [Option.some.injEq,Prod.mk.injEq] at hb
   obtain ⟨rfl,rfl⟩:=hb
   refine ⟨fun i hi=>?_,cs.toArray,t,0,0,hnew,fun i _=>by omega, ?_,fun t' ht'=>?_⟩
   ·unfold cellAt
    rw [hnew]
    simp
   ·show 0+tk.k.size≤_
    simp [hh.len]
   ·have:Gv.var t=Gv.var t':=ht'
    simpa using this)
 exact ⟨_,_,h1,adv⟩
theorem Et {k:K} {x:El k} {own:List TypeId} {tags:List Tag} {v:Value} {cs:List Value} {fo:List Nat} (H:Rel cx σ α F a w) (hn:σ.roots r=none) (hx:fJ r=false)
  (hsub:∀b∈fo,b∈F) (hnd:fo.Nodup) (hwt:fA σ tags) {F':List Nat} (hF':∀b∈F',b∈F∧b∉fo) (Xb:F'.Nodup) (hlen:cs.length=k.size)
  (how:bg σ (aU own k) tags=true→Ow (hp w) own (fun b=>iO cx σ α F w tags b∨(b∈F∧b∉F'∧b∉fo)) k x cs fo) (hv:VC k v cs) (kp:Bool) :
  ∃α',Rel cx (az σ r (aO k x own tags .anon kp)) α' F' a w∧bH cx (az σ r (aO k x own tags .anon kp)) α' F' w (.ref r 0) v:=by
 have hk:(aO k x own tags .anon kp).kind=.anon:=rfl
 obtain ⟨h1,h2⟩:=OE (R':=aO k x own tags .anon kp) H hn hx rfl (by simp [aO]) hwt (0,0) cs fo F'
  (fun b hb=>by rw [gN hk] at hb; exact ⟨hsub b hb,fun h=>(hF' b h).2 hb⟩) (by rw [gN hk]; exact hnd) (fun b hb=>(hF' b hb).1) Xb
  (fun hc=>by rw [gN hk]; exact how hc) hlen (fun b o hb=>by rw [zT hk] at hb; simp at hb)
 exact ⟨_,h1,Yd hv⟩
end
end Go.Proofs.YtailcbngagacaabGreat.Ow

/- The framework, part 17: operations, one by one. Own work of this seat. -/
namespace Go.Proofs.YtailcbngagacaabGreat.Ow
open Go
variable [Fr]
def tZ (P:Program) (cx:Cx) (o:Oper) (a:Act) (w:World) (σ':St):Prop:=
 ∃v w' α' F',((execOp a.eval o).run P w=.ok (.value v) w'∨((execOp a.eval o).run P w=.ok .skip w'∧v=undef))∧Rel cx σ' α' F' (a.put o.dst v) w'
theorem tZ.wp {P:Program} {cx:Cx} {o:Oper} {a:Act} {w:World} {σ':St} (h:tZ P cx o a w σ') {K:Act→World→Prop} {Q:Exit→Act→World→Prop}
  (hK:∀α' F' a' w',Rel cx σ' α' F' a' w'→K a' w'):o.wp P a w K Q:=by
 obtain ⟨v,w',α',F',h | ⟨h,rfl⟩,h2⟩:=h
 ·unfold Oper.wp; rw [h]; exact hK _ _ _ _ h2
 ·unfold Oper.wp; rw [h]; exact hK _ _ _ _ h2
section
variable {P:Program} {T:jd} {cx:Cx} {σ:St} {α:dK} {F:List Nat} {a:Act} {w:World} {o:Oper} {d:Nat} {ws:List Wr}
theorem bF (H:Rel cx σ α F a w) (hd:o.dst=some d) (hdn:d<cx.nt) {x:y5} {v:Value} (hrun:(execOp a.eval o).run P w=.ok (.value v) w) (hx:jM cx σ α F w x v) (hw:Ah σ x) :
  tZ P cx o a w (aC [.s d x] σ):=by
 refine ⟨v,w,α,F, .inl hrun, ?_⟩
 rw [hd]
 exact H.put hdn hw hx
theorem jC {σ1:St} {dL:dK} {F1:List Nat} {w1:World} (H:Rel cx σ1 dL F1 a w1) (hd:o.dst=some d) (hdn:d<cx.nt) {x:y5} {v:Value} (hrun:(execOp a.eval o).run P w=.ok (.value v) w1) (hx:jM cx σ1 dL F1 w1 x v) (hw:Ah σ1 x) :
  tZ P cx o a w (aC [.s d x] σ1):=by
 refine ⟨v,w1,dL,F1, .inl hrun, ?_⟩
 rw [hd]
 exact H.put hdn hw hx
theorem iI {A:Type} {z:A} {r:Nat} {k:Prog A} (h:(lU r k).ends σ z):σ.roots r=none∧k.ends σ z:=by
 unfold lU at h
 simp only [Prog.ends] at h
 cases hr:σ.roots r with
 | none=>rw [hr] at h; exact ⟨rfl,h⟩
 | some R=>rw [hr] at h; exact h.elim
theorem aB {A:Type} {z x:A} (h:(Prog.ret x).ends σ z):z=x:=h
theorem WN (H:Rel cx σ α F a w) (hd:o.dst=some d) (hdn:d<cx.nt) {x:Operand} (ho:o.op=.move x) (h:(vU x fun v=>(.ret [.s d v]:Prog (List Wr))).ends σ ws):tZ P cx o a w (aC ws σ):=by
 obtain ⟨v,h1,h2,h3⟩:=uE H h
 rw [aB h3]
 exact bF H hd hdn (by simp [execOp,ho]) h1 h2
theorem fH.sl {t:TypeId} {e:TypeId} {k:K} (h:fH P T t (.sl e k)):P.underlying t=some (.slice e)∧fH P T e k∧0<k.size∧∃i,P.info? e=some i∧i.bytes=T.bytes e∧0<i.bytes:=by
 unfold fH jN at h
 exact ⟨h.1,h.2.2.1,h.2.2.2.1,h.2.2.2.2⟩
theorem zF {e:TypeId} {k:K} {c:Option Addr} {own:List TypeId} {ok:Nat→Prop} {h:Heap}:Ow h own ok (.sl e k) ([]:List (El k)) [.slice c 0 0] []:=by
 unfold Ow
 split
 ·exact ⟨c,0,0,rfl,rfl,Nat.le_refl _, .inl ⟨rfl,rfl⟩⟩
 ·exact ⟨rfl,c,0,0,rfl,rfl,Nat.le_refl _,fun h=>by omega⟩
theorem Ra {L:K→List TypeId} (H:Rel cx σ α F a w) (hd:o.dst=some d) (hdn:d<cx.nt) {x:Operand} (ho:o.op=.assign x)
  (h:(vU x fun
   | .one .iM=>match T.ty o.type with
    | some (.sl e kk)=>.root (bI d 0) fun
     | none=>.ret [.r (bI d 0) (some (aO (.sl e kk) [] (e :: L kk) [] .anon)), .s d (.one (.ref (bI d 0) 0))]
     | some _=>.ret [.s d (.one .iM)]
    | _=>.fail
   | v=>(.ret [.s d v]:Prog (List Wr))).ends σ ws):tZ P cx o a w (aC ws σ):=by
 obtain ⟨v,h1,h2,h3⟩:=uE H h
 have hrun:(execOp a.eval o).run P w=.ok (.value (a.eval x)) w:=by simp [execOp,ho]
 have key:ws=[.s d v]→tZ P cx o a w (aC ws σ):=fun e=>by rw [e]; exact bF H hd hdn hrun h1 h2
 cases v with
 | Ip l=>exact key (aB h3)
 | one v=>
  cases v with
  | iM=>
   have h1':=h1
   obtain ⟨c,hc⟩:=h1
   simp only at h3
   split at h3
   ·rename_i e kk hty
    simp only [Prog.ends] at h3
    cases g1:σ.roots (bI d 0) with
    | some Q=>
     rw [g1] at h3
     exact key (aB h3)
    | none=>
    rw [g1] at h3
    have g2:=h3
    rw [aB g2]
    obtain ⟨α',k1,k2⟩:=Et (k:=.sl e kk) (x:=([]:List (El kk))) (own:=e :: L kk) (tags:=[]) (v:=a.eval x) (cs:=[.slice c 0 0]) (fo:=[]) (r:=bI d 0) (F':=F) H g1 (gP d 0) (fun b hb=>by simp at hb) List.nodup_nil (fun t ht=>by simp at ht)
     (fun b hb=>⟨hb,by simp⟩) H.CG rfl (fun _=>zF) (by rw [hc]; exact Ct) false
    exact jC (x:=.one (.ref (bI d 0) 0)) k1 hd hdn hrun k2 ⟨_,aJ .., .inr (Nat.zero_le _)⟩
   ·exact h3.elim
  | _=>exact key (aB h3)
theorem WO (H:Rel cx σ α F a w) (hd:o.dst=some d) (hdn:d<cx.nt) {c x y:Operand} (ho:o.op=.pick c x y)
  (h:(dN c fun c=>asBool c fun c=>vU x fun v=>vU y fun u=>.br c (.ret [.s d v]) ((.ret [.s d u]):Prog (List Wr))).ends σ ws):tZ P cx o a w (aC ws σ):=by
 obtain ⟨vc,h1,_,h⟩:=bT H h
 obtain ⟨b,h2,h⟩:=I6 h1 h
 obtain ⟨v,h3,h4,h⟩:=uE H h
 obtain ⟨u,h5,h6,h⟩:=uE H h
 rcases h with ⟨hb,h⟩ | ⟨hb,h⟩
 ·rw [aB h]
  exact bF H hd hdn (by simp [execOp,ho,h2,hb,Go.asBool]) h3 h4
 ·rw [aB h]
  exact bF H hd hdn (by simp [execOp,ho,h2,hb,Go.asBool]) h5 h6
theorem fH.shape {t:TypeId} {k:K} (h:fH P T t k):(∀a b,k≠.pair a b)∧k≠.unit∧∀n,k≠.gap n:=by
 unfold fH jN at h
 refine ⟨fun a b e=>?_,fun e=>?_,fun n e=>?_⟩ <;> subst e <;> exact h.elim
theorem dm {own:List TypeId} {k:K} (h:∀t∈k.tys,ay t own=true):aU own k=[]:=by
 cases he:aU own k with
 | nil=>rfl
 | cons t l=>
  exfalso
  have key:∀(k:K),(∀t∈k.tys,ay t own=true)→∀t,t∉aU own k:=by
   intro k
   induction k with
   | sl e k ih=>
    intro h t ht
    simp only [aU,h e (by simp [K.tys]),cond_true] at ht
    exact ih (fun t ht=>h t (by simp [K.tys,ht])) t ht
   | pair a b iha ihb=>
    intro h t ht
    simp only [aU,List.mem_append] at ht
    rcases ht with ht | ht
    ·exact iha (fun t ht=>h t (by simp [K.tys,ht])) t ht
    ·exact ihb (fun t ht=>h t (by simp [K.tys,ht])) t ht
   | st f ih=>intro h t ht; exact ih h t ht
   | _=>intro _ t ht; simp [aU] at ht
  exact key k h t (by rw [he]; simp)
theorem Vg {l:List Nat}:∀t∈l,ay t l=true:=fun t ht=>aK.2 ht
theorem Ux (hT:fC P T) (H:Rel cx σ α F a w) (hd:o.dst=some d) (hdn:d<cx.nt) {t:TypeId} (ho:o.op=.alloc t)
  (h:(match T.ty t with
   | some kk=>lU (bI d 0) (.ret [Wr.r (bI d 0) (some (aO kk kk.zero kk.tys [] (.var t))),Wr.s d (.one (.ptr (bI d 0) [] 0))])
   | none=>(.fail:Prog (List Wr))).ends σ ws):tZ P cx o a w (aC ws σ):=by
 split at h
 ·rename_i kk hty
  have ht:=hT.ty t kk hty
  obtain ⟨g1,g2⟩:=iI h
  rw [aB g2]
  obtain ⟨s1,s2,s3⟩:=ht.shape
  have hz:Ow (hp w) kk.tys (iO cx σ α F w []) kk kk.zero (bV kk) []:=Fg ht.gF Vg
  obtain ⟨k0,α',F',k1,k2⟩:=SQ (P:=P) (tk:=⟨kk,kk.zero,kk.tys,[],[],false⟩) (t:=t) (v:=tY kk) (cs:=bV kk) (fo:=[]) (r:=bI d 0) H g1 (gP d 0)
   ⟨fun _=>hz,fun t ht=>by simp at ht,fun b hb=>by simp at hb,List.nodup_nil,dn hz⟩ rfl (TS s1 s2 s3) false
  have e0:(iQ.mh ⟨kk,kk.zero,kk.tys,[],[],false⟩)=[]:=by unfold iQ.mh; split <;> rfl
  rw [e0] at k1 k2
  exact jC (x:=.one (.ptr (bI d 0) [] 0)) k1 hd hdn (by
   have:=P9 (P:=P) ht w
   simp only [execOp,ho,Sem.run_bind,this,Result.andThen_ok,Sem.run_pure]) k2 ⟨_,aJ .., .inr (Nat.zero_le _)⟩
 ·exact h.elim
theorem Nq (H:Rel cx σ α F a w) (hd:o.dst=some d) (hdn:d<cx.nt) {x:Operand} (ho:o.op=.nilCheck x)
  (h:(dN x fun
   | .ptr r p h=>.ret [.s d (.one (.ptr r p h))]
   | .iZ bt kk y tags=>.ret [.s d (.one (.iZ bt kk y tags))]
   | _=>(.fail:Prog (List Wr))).ends σ ws):tZ P cx o a w (aC ws σ):=by
 obtain ⟨v,h1,h2,h⟩:=bT H h
 cases v with
 | ptr r p n=>
  rw [aB h]
  obtain ⟨b,q,hv⟩:=h1.1
  exact bF (v:=a.eval x) H hd hdn (by simp [execOp,ho,hv]) h1 h2
 | iZ bt kk y tags=>
  rw [aB h]
  obtain ⟨b,q,hv⟩:=h1.1
  exact bF (v:=a.eval x) H hd hdn (by simp [execOp,ho,hv]) h1 h2
 | _=>exact h.elim
end
end Go.Proofs.YtailcbngagacaabGreat.Ow

/- The framework, part 18: loads, stores, fields, elements. Own work of this seat. -/
namespace Go.Proofs.YtailcbngagacaabGreat.Ow
open Go
variable [Fr]
theorem beq_true {a b:K} {A:Type} {x y:Prog A} {σ:St} {z:A} (h:(bif a.beq b then x else y).ends σ z):(a=b∧x.ends σ z)∨(a.beq b=false∧y.ends σ z):=by
  cases hb:a.beq b with
  | true=>rw [hb] at h; exact .inl ⟨K.eq_of_beq hb,h⟩
  | false=>rw [hb] at h; exact .inr ⟨rfl,h⟩
section
variable {P:Program} {T:jd} {cx:Cx} {σ:St} {α:dK} {F:List Nat} {a:Act} {w:World} {o:Oper} {d:Nat} {ws:List Wr}
theorem structField {P:Program} {T:jd}:∀(n:Nat) {c:K} {fs:List Field} {Kb off:Nat} {k:K},(jN P T c).2 fs Kb→bC n c=some (off,k)→∃f,fs[n]?=some f∧f.offset=Kb+off∧fH P T f.type k∧0<k.size:=by
  intro n
  induction n with
  | zero=>
    intro c fs Kb off k h ho
    cases c with
    | pair a b=>
      simp only [bC,Option.some.injEq,Prod.mk.injEq] at ho
      obtain ⟨rfl,rfl⟩:=ho
      cases fs with
      | nil=>exact h.elim
      | cons f fs=>exact ⟨f,rfl,h.1,h.2.1,h.2.2.1⟩
    | _=>simp [bC] at ho
  | succ n ih=>
    intro c fs Kb off k h ho
    cases c with
    | pair a b=>
      simp only [bC] at ho
      cases h2:bC n b with
      | none=>rw [h2] at ho; simp at ho
      | some q=>
        rw [h2] at ho
        simp only [Option.some.injEq,Prod.mk.injEq] at ho
        cases fs with
        | nil=>exact h.elim
        | cons f fs=>
          obtain ⟨g,g1,g2,g3,g4⟩:=ih (off:=q.1) (k:=q.2) h.2.2.2 (by rw [h2])
          exact ⟨g,by simpa using g1,by rw [g2, ←ho.1]; omega,by rw [←ho.2]; exact g3,by rw [←ho.2]; exact g4⟩
    | _=>simp [bC] at ho
theorem fH.st {t:TypeId} {c:K} (h:fH P T t (.st c)):∃fs,P.underlying t=some (.struct fs)∧(jN P T c).2 fs.toList 0:=by
  unfold fH jN at h
  exact h.1
theorem CU {cs:List Value} {off n:Nat} (h:off+n≤cs.length):((cs.drop off).take n).length=n:=by simp; omega
theorem Jh:∀(n:Nat) {c:K} {off:Nat} {k:K},bC n c=some (off,k)→off+k.size≤c.size:=by
  intro n
  induction n with
  | zero=>intro c off k h; cases c with
    | pair a b=>simp only [bC,Option.some.injEq,Prod.mk.injEq] at h; obtain ⟨rfl,rfl⟩:=h; simp [K.size]
    | _=>simp [bC] at h
  | succ n ih=>intro c off k h; cases c with
    | pair a b=>
      simp only [bC] at h
      cases h2:bC n b with
      | none=>rw [h2] at h; simp at h
      | some q=>
        rw [h2] at h
        simp only [Option.some.injEq,Prod.mk.injEq] at h
        have:=ih (off:=q.1) (k:=q.2) (by rw [h2])
        simp only [K.size]
        rw [←h.1, ←h.2]
        omega
    | _=>simp [bC] at h
theorem YA {t:TypeId} {k:K} (h:fH P T t k) (hk:0<k.size) {cs:List Value} {off:Nat} (hl:off+k.size≤cs.length):∃u,(part t cs.toArray off).run P w=.ok u w∧((∀x,u≠.agg x)∨vI k=true→VC k u ((cs.drop off).take k.size)):=by
  unfold part
  simp only [Sem.run_bind,h.isAgg w,Result.andThen]
  cases hs:vI k with
  | true=>
    refine ⟨.agg (cs.toArray.extract off (off+k.size)),by simp [h.info.sizeOf w,Result.andThen],fun _=>?_⟩
    cases k with
    | st c=>
      show Value.agg _=.agg _
      congr 1
      apply Array.ext'
      simp [List.extract_eq_take_drop]
    | _=>simp [vI] at hs
  | false=>
    have hlt:off<cs.length:=by omega
    refine ⟨cs[off],by simp [hlt],fun hu=>?_⟩
    have hu':∀x,cs[off]≠.agg x:=hu.resolve_right (by simp)
    have hk1:k.size=1:=by
      cases k with
      | st c=>simp [vI] at hs
      | pair a b=>exact (show False from h).elim
      | unit=>exact (show False from h).elim
      | gap n=>exact (show False from h).elim
      | _=>rfl
    have e:(cs.drop off).take k.size=[cs[off]]:=by
      rw [hk1,List.drop_eq_getElem_cons hlt]
      rfl
    rw [e]
    cases k with
    | st c=>simp [vI] at hs
    | _=>exact ⟨rfl,hu'⟩
theorem Ld {v:Value} (h:v.oneCell'=true):∀x,v≠.agg x:=by
  intro x e
  subst e
  simp [Value.oneCell'] at h
theorem Vr {t:TypeId} {c:K} (h:fH P T t (.st c)) {cs:List Value} {n off:Nat} {k:K} (ho:bC n c=some (off,k)) (hl:cs.length=c.size) (h1:∀v∈cs,v.oneCell'=true) :
    ∃u,(Instr.field t (.agg cs.toArray) n).run P w=.ok u w∧VC k u ((cs.drop off).take k.size):=by
  obtain ⟨fs,hu,hf⟩:=h.st
  obtain ⟨f,f1,f2,f3,f4⟩:=structField n hf ho
  have hle:=Jh n ho
  obtain ⟨u,g1,g2⟩:=YA (w:=w) f3 f4 (cs:=cs) (off:=off) (by omega)
  have f1':fs[n]?=some f:=by rw [←Array.getElem?_toList]; exact f1
  refine ⟨u, ?_,g2 ?_⟩
  · unfold Instr.field
    simp only [Sem.run_bind,run_underlying hu,Result.andThen,f1',asAgg,Sem.run_pure]
    rw [show f.offset=off from by omega]
    exact g1
  · cases hs:vI k with
    | true=>exact .inr rfl
    | false=>
      left
      unfold part at g1
      simp only [Sem.run_bind,f3.isAgg w,Result.andThen,hs] at g1
      have hlt:off<cs.length:=by omega
      simp [hlt] at g1
      rw [←g1]
      exact Ld (h1 _ (List.getElem_mem hlt))
theorem BO {r:Nat} {R:Root} {p:List Stp} {v:Value} {dd:Dat} {cs:List Value} {wh:Option (Nat×Nat)} (hr:aP σ r R) (hg:aT p R.k R.x=some dd) (h1:nR p R.k R.x) (h2:∀t∈ah p R.k,ay t R.own=true)
    (h3:bE (hp w) p R.k (α.hdr r) (dW α R r)=some (cs,wh)) (h4:VC dd.1 v cs):bH cx σ α F w (.yj r p R.yY) v:=by
  intro R' hR' _ _ d' hd'
  rw [hr.1] at hR'
  simp only [Option.some.injEq] at hR'
  subst hR'
  rw [hg] at hd'
  simp only [Option.some.injEq] at hd'
  subst hd'
  exact ⟨h1,h2,cs,wh,h3,h4⟩
theorem Rel.W9 (H:Rel cx σ α F a w) {w':World} (hos:w'.os=w.os) (hout:w'.output=w.output) (hsz:w.heap.size≤w'.heap.size) (hold:∀b,b<w.heap.size→hp w' b=hp w b) (ht:w'.tape=w.tape):Rel cx σ α F a w':=by
  have hs:∀r,Same σ α σ α r:=fun r=>⟨rfl,rfl,rfl,rfl⟩
  have hch:∀b,b<w.heap.size→hp w' b=hp w b:=hold
  have T:mW cx σ α F w σ α F w' (fun _=>[]) (fun _=>[]):=by
    refine ⟨rfl,⟨hos,ht,hout⟩,hsz,fun r R hr=>⟨R,hr, ?_⟩,fun r R' _ h=>absurd (hs r) h,fun r R' h1 h2=>by rw [h1] at h2; simp at h2,fun b hb hne=>absurd (hch b hb) hne, ?_,H.CG,
      fun r R' _ h=>absurd (hs r) h,fun r R r' R' _ _ _ h=>absurd (hs r) h, ?_,fun r R R' h1 h2 _=>by rw [h1] at h2; simp only [Option.some.injEq] at h2; subst h2; exact ⟨rfl,rfl⟩⟩
    · cases hd:R.aX with
      | true=>exact .inl ⟨rfl,fun hk=>by unfold Root.aX at hd; rw [hk] at hd; simp at hd⟩
      | false=>exact .inr ⟨rfl,rfl,rfl,Nat.le_refl _,rfl,rfl,fun _=>rfl, .inr ⟨rfl,rfl,hs r⟩⟩
    · rintro b (⟨r,R,h1,h2,h3⟩ | h)
      · exact absurd ⟨R,h1,h2⟩ h3
      · exact .inl h
    · intro j pi b o n h1 h2 hne
      obtain ⟨R,hR,hk,hl,_⟩:=H.mg j pi b o n h1 h2
      exact absurd (hch b ((H.roots _ R hR).mine b (by simp [blk,dW,hk,hl])).1) hne
  exact H.turn T (fun r R _ h=>absurd (hs r) h) (fun r R _ h=>absurd (hs r) h) (fun r R _ h=>absurd (hs r) h)
theorem Ng:∀(n:Nat) {c:K},(ah.Hu n c).isSome=true→∃off k,bC n c=some (off,k):=by
  intro n
  induction n with
  | zero=>intro c h; cases c with
    | pair a b=>exact ⟨0,a,rfl⟩
    | _=>simp [ah.Hu] at h
  | succ n ih=>intro c h; cases c with
    | pair a b=>obtain ⟨off,k,h1⟩:=ih (c:=b) h; exact ⟨a.size+off,k,by simp [bC,h1]⟩
    | _=>simp [ah.Hu] at h
theorem OW:∀(n:Nat) {c k:K},ah.Hu n c=some k→∃off,bC n c=some (off,k):=by
  intro n
  induction n with
  | zero=>intro c k h; cases c with
    | pair a b=>simp only [ah.Hu,Option.some.injEq] at h; subst h; exact ⟨0,rfl⟩
    | _=>simp [ah.Hu] at h
  | succ n ih=>intro c k h; cases c with
    | pair a b=>obtain ⟨off,h1⟩:=ih (c:=b) h; exact ⟨a.size+off,by simp [bC,h1]⟩
    | _=>simp [ah.Hu] at h
theorem K8:∀(p:List Stp) {n:Nat} {k k1 k2:K} {off o2:Nat} {c:K},kC p k=some (off,k1)→k1=.st c→bC n c=some (o2,k2)→kC (p++[.gB n]) k=some (off+o2,k2):=by
  intro p
  induction p with
  | nil=>
    intro n k k1 k2 off o2 c h e h2
    simp only [kC,Option.some.injEq,Prod.mk.injEq] at h
    obtain ⟨rfl,rfl⟩:=h
    subst e
    simp [kC,h2]
  | cons s p ih=>
    intro n k k1 k2 off o2 c h e h2
    cases s with
    | idx i=>simp [kC] at h
    | gB m=>
      cases k with
      | st c'=>
        simp only [kC,List.cons_append] at h ⊢
        cases hq:bC m c' with
        | none=>rw [hq] at h; simp at h
        | some q=>
          rw [hq] at h
          simp only at h ⊢
          cases hr:kC p q.2 with
          | none=>rw [hr] at h; simp at h
          | some r=>
            rw [hr] at h
            simp only [Option.some.injEq,Prod.mk.injEq] at h
            obtain ⟨rfl,rfl⟩:=h
            rw [ih (off:=r.1) (k1:=r.2) (by rw [hr]) e h2]
            simp only [Nat.add_assoc]
      | _=>simp [kC] at h
theorem U4:∀(p:List Stp) {k k1 k2:K} {off:Nat},L6 p k=some k1→kC p k=some (off,k2)→k2=k1:=by
  intro p
  induction p with
  | nil=>
    intro k k1 k2 off h1 h2
    simp only [L6,Option.some.injEq] at h1
    simp only [kC,Option.some.injEq,Prod.mk.injEq] at h2
    rw [←h1,h2.2]
  | cons s p ih=>
    intro k k1 k2 off h1 h2
    cases s with
    | idx i=>simp [kC] at h2
    | gB m=>
      cases k with
      | st c=>
        simp only [L6,kC] at h1 h2
        cases hk:ah.Hu m c with
        | none=>rw [hk] at h1; simp at h1
        | some k0=>
          obtain ⟨o,ho⟩:=OW m hk
          rw [hk] at h1
          rw [ho] at h2
          simp only at h1 h2
          cases hr:kC p k0 with
          | none=>rw [hr] at h2; simp at h2
          | some r=>
            rw [hr] at h2
            simp only [Option.some.injEq,Prod.mk.injEq] at h2
            rw [←h2.2]
            exact ih (off:=r.1) h1 (by rw [hr])
      | _=>simp [kC] at h2
theorem JF {h:Heap}:∀(p:List Stp) {k k1:K} {x:El k} {cs:List Value} {d:Dat} {off:Nat},aT p k x=some d→kC p k=some (off,k1)→cs.length=k.size→
    k1=d.1∧off+k1.size≤cs.length∧bE h p k cs none=some ((cs.drop off).take k1.size,none)∧nR p k x∧ah p k=[]:=by
  intro p
  induction p with
  | nil=>
    intro k k1 x cs d off hg ho hl
    simp only [aT,Option.some.injEq] at hg
    simp only [kC,Option.some.injEq,Prod.mk.injEq] at ho
    obtain ⟨rfl,rfl⟩:=ho
    subst hg
    exact ⟨rfl,by omega,by simp [bE, ←hl],trivial,by simp [ah]⟩
  | cons s p ih=>
    intro k k1 x cs d off hg ho hl
    cases s with
    | idx i=>simp [kC] at ho
    | gB n=>
      cases k with
      | st c=>
        simp only [aT,kC] at hg ho
        cases hcg:aN n c x with
        | none=>rw [hcg] at hg; simp at hg
        | some s=>
          rw [hcg] at hg
          simp only at hg
          cases hq:bC n c with
          | none=>rw [hq] at ho; simp at ho
          | some q=>
            have hk2:q.2=s.1:=Am n (c:=c) hcg hq
            rw [hq] at ho
            obtain ⟨q1,q2⟩:=q
            simp only at hk2 ho
            subst hk2
            cases hr:kC p s.1 with
            | none=>rw [hr] at ho; simp at ho
            | some r=>
              rw [hr] at ho
              simp only [Option.some.injEq,Prod.mk.injEq] at ho
              obtain ⟨rfl,rfl⟩:=ho
              have hle:=Jh n hq
              have hl':cs.length=c.size:=hl
              obtain ⟨g1,g2,g3,g4,g5⟩:=ih (cs:=(cs.drop q1).take s.1.size) (off:=r.1) (k1:=r.2) hg (by rw [hr]) (CU (by omega))
              rw [CU (by omega)] at g2
              refine ⟨g1,by omega, ?_,by simp only [nR,hcg]; exact g4,by simp [ah,bU n hcg,g5]⟩
              simp only [bE]
              rw [hq]
              simp only [Option.map_none]
              rw [g3]
              simp only [List.drop_take,List.take_take,List.drop_drop,Nat.min_eq_left (show r.2.size≤s.1.size - r.1 by omega)]
      | _=>simp [aT] at hg
theorem WM (hT:fC P T) (H:Rel cx σ α F a w) (hd:o.dst=some d) (hdn:d<cx.nt) {t:TypeId} {x:Operand} {yj:Bool} (ho:o.op=.load t x)
    (h:(dN x fun v=>Mc T yj t v fun u=>(.ret [Wr.s d (.one u)]:Prog (List Wr))).ends σ ws):tZ P cx o a w (aC ws σ):=by
  obtain ⟨v,h1,h2,h⟩:=bT H h
  unfold Mc at h
  split at h
  · exact h.elim
  · rename_i kk hty
    have ht:=hT.ty t kk hty
    obtain ⟨s1,s2,s3⟩:=ht.shape
    split at h
    · rename_i r g k0 p
      obtain ⟨u,b,off,k1,e,hq,hC,ho1,hR⟩:=h1
      obtain ⟨R,hr,hv,h⟩:=cO h
      rcases aA h with ⟨hc,h⟩ | ⟨_,h⟩
      · simp only [Bool.and_eq_true] at hc
        cases hg:aT p R.k R.x with
        | none=>rw [hg] at h; exact h.elim
        | some dd=>
          rw [hg] at h
          simp only at h
          obtain ⟨dk,dx⟩:=dd
          rcases beq_true h with ⟨ek,h5⟩ | ⟨_,h⟩
          · simp only at ek
            subst ek
            have hk0:=K.eq_of_beq hc.1.2
            subst hk0
            obtain ⟨hka,HV⟩:=hR R hr (Nat.eq_of_beq_eq_true hc.1.1)
            rw [HV.cells] at hC
            have hwn:dW α R r=none:=by unfold dW; rw [hka]
            obtain ⟨g1,g2,g3,g4,g5⟩:=JF (h:=hp w) p hg ho1 (H.roots r R hr).len
            simp only at g1
            subst g1
            have hown:∀t∈ah p R.k,ay t R.own=true:=fun t ht=>by rw [g5] at ht; simp at ht
            have hn:bE (hp w) p R.k (α.hdr r) (dW α R r)=some (((α.hdr r).drop off).take k1.size,none):=by rw [hwn]; exact g3
            obtain ⟨fU,hO,hf⟩:=wK H hr hv hg g4 hown hn
            have hV:=pJ H hr hO hf
            have hcs:Cells (hp w) b off (((α.hdr r).drop off).take k1.size):=by
              intro i hi
              have hi':i<k1.size:=by rw [CU g2] at hi; exact hi
              have:=hC (off+i) (by omega)
              rw [Nat.zero_add] at this
              rw [this,List.getElem?_take_of_lt hi',List.getElem?_drop]
            obtain ⟨u',hu⟩:=VC.mk s1 s2 s3 hV
            have hrun:=uK (P:=P) ht hcs (lN hV) hu
            have hrun':(execOp a.eval o).run P w=.ok (.value u') w:=by simp only [execOp,ho,e,Sem.run_bind,hrun,Result.andThen_ok,Sem.run_pure]
            rcases aA h5 with ⟨hf,h6⟩ | ⟨_,h6⟩
            · rw [aB h6]
              exact bF H hd hdn hrun' (show bH cx σ α F w (.val k1 dx []) u' from fun _=>⟨_,hu,gW hf hV⟩) (fun t ht=>by simp at ht)
            · rw [aB h6]
              exact bF (x:=.one (.yj r p R.yY)) H hd hdn hrun' (BO (cx:=cx) (F:=F) hr hg g4 hown hn hu) ⟨R,hr.1, .inr (Nat.le_refl _)⟩
          · exact h.elim
      · exact h.elim
    rcases Af H h1 h2 h with ⟨r,R,p,dd,cs,b,q,hr,hv,hg,fP,hown,hn,e,h⟩ | ⟨bt,dd,Tg,b,q,cs,hw,e,hcs,hV,hok,hb,h⟩
    · obtain ⟨hC,⟨fU,hO,hf⟩,_⟩:=qH H hr hv hg fP hown hn
      obtain ⟨dk,dx⟩:=dd
      rcases beq_true h with ⟨ek,h5⟩ | ⟨_,h⟩
      · simp only at ek
        subst ek
        clear h
        have h:=h5
        clear h5
        have hV:=pJ H hr hO hf
        obtain ⟨u,hu⟩:=VC.mk s1 s2 s3 hV
        have hrun:=uK (P:=P) ht hC (lN hV) hu
        have hrun':(execOp a.eval o).run P w=.ok (.value u) w:=by simp only [execOp,ho,e,Sem.run_bind,hrun,Result.andThen_ok,Sem.run_pure]
        rcases aA h with ⟨_,h⟩ | ⟨_,h⟩
        · rw [aB h]
          exact bF (x:=.one (.yj r p R.yY)) H hd hdn hrun' (BO (cx:=cx) (F:=F) hr hg fP hown hn hu) ⟨R,hr.1, .inr (Nat.le_refl _)⟩
        · rw [aB h]
          exact bF H hd hdn hrun' (show bH cx σ α F w (.val dk dx _) u from fun _=>⟨cs,hu,hV⟩) (Mj H hr _)
      · exact h.elim
    · obtain ⟨dk,dx⟩:=dd
      rcases beq_true h with ⟨ek,h5⟩ | ⟨_,h⟩
      · simp only at ek
        subst ek
        clear h
        have h:=h5
        clear h5
        obtain ⟨u,hu⟩:=VC.mk s1 s2 s3 hV
        have hrun:=uK (P:=P) ht hcs (lN hV) hu
        have hrun':(execOp a.eval o).run P w=.ok (.value u) w:=by simp only [execOp,ho,e,Sem.run_bind,hrun,Result.andThen_ok,Sem.run_pure]
        rw [aB h]
        refine bF H hd hdn hrun' (show bH cx σ α F w (.val dk dx _) u from fun _=>⟨cs,hu, ?_⟩) ?_
        · cases hf:dk.flat with
          | true=>exact gW hf hV
          | false=>exact hV
        · cases hf:dk.flat with
          | true=>intro t ht; simp at ht
          | false=>exact hw
      · exact h.elim
theorem Ic (σ:St) (r:Nat) (A B:Root):az (az σ r A) r B=az σ r B:=by
  unfold az
  simp only [St.mk.injEq,true_and]
  funext n
  unfold upd
  cases Nat.beq n r <;> rfl
theorem LK {h:Heap}:∀(p:List Stp) {k:K} {x:El k} {t d z:Dat},p.all Stp.rP=true→aT p k x=some d→dY p k x t=some z→t.1.size=d.1.size→
    aT p z.1 z.2=some t∧nR p z.1 z.2∧ah p z.1=[]∧∀cs wh,bE h p z.1 cs wh=bE h p k cs wh:=by
  intro p
  induction p with
  | nil=>
    intro k x t d z _ hg hz hs
    simp only [dY,Option.some.injEq] at hz
    subst hz
    exact ⟨rfl,trivial,by simp [ah],fun cs wh=>rfl⟩
  | cons s p ih=>
    intro k x t d z hp hg hz hs
    cases s with
    | idx i=>simp [Stp.rP] at hp
    | gB n=>
      have hp':p.all Stp.rP=true:=by simpa [Stp.rP] using hp
      cases k with
      | st c=>
        simp only [aT,dY] at hg hz
        cases hcg:aN n c x with
        | none=>rw [hcg] at hg; simp at hg
        | some s=>
          rw [hcg] at hg hz
          simp only at hg hz
          cases hs':dY p s.1 s.2 t with
          | none=>rw [hs'] at hz; simp at hz
          | some u=>
            rw [hs'] at hz
            simp only at hz
            cases hcp:cz n c x u with
            | none=>rw [hcp] at hz; simp at hz
            | some y=>
              rw [hcp] at hz
              simp only [Option.some.injEq] at hz
              subst hz
              obtain ⟨i1,i2,i3,i4⟩:=ih hp' hg hs' hs
              have e1:aN n y.1 y.2=some u:=zu n hcp
              have hsz:u.1.size=s.1.size:=Gj p hg hs hs'
              refine ⟨by simp only [aT,e1]; exact i1,by simp only [nR,e1]; exact i2,by simp [ah,bU n e1,i3],fun cs wh=>?_⟩
              simp only [bE]
              cases ho:bC n c with
              | none=>
                exfalso
                obtain ⟨off,h1⟩:=OW n (bU n hcg)
                rw [ho] at h1; simp at h1
              | some q=>
                have hk2:q.2=s.1:=Am n (c:=c) hcg ho
                obtain ⟨q1,q2⟩:=q
                simp only at hk2
                subst hk2
                rw [Ao n ho hcp]
                simp only
                rw [hsz]
                exact i4 _ _
      | _=>simp [aT] at hg
theorem R5 {R:Root} {r:Nat} {p:List Stp} {d:Dat} {tk:iQ} {q:Root×Dat} (h:NT R r p d tk=some q) :
    ∃zg own',dY p R.k R.x (vG d)=some zg∧q=(eF R d zg own',(vG d))∧(∀t∈zg.1.tys,ay t own'=ay t R.own)∧p.all Stp.rP=true∧(p≠[]∨∃t,R.kind=.var t)∧∀n,(r,n)∉tk.tags:=by
  unfold NT at h
  cases hc:(!d.1.flat && p.all Stp.rP && !R.keep && (!p.isEmpty || R.isVar) && tk.tags.all (fun t=>!Nat.beq t.1 r)) with
  | false=>rw [hc] at h; simp at h
  | true=>
    rw [hc] at h
    simp only [cond_true] at h
    simp only [Bool.and_eq_true] at hc
    obtain ⟨⟨⟨⟨_,c1⟩,_⟩,c2⟩,c3⟩:=hc
    unfold GK at h
    cases hz:dY p R.k R.x (vG d) with
    | none=>rw [hz] at h; simp at h
    | some zg=>
      rw [hz] at h
      simp only at h
      cases hl:tk.own.filter (fun t=>!ay t R.own && ay t d.1.tys && !ay t zg.1.tys) with
      | nil=>rw [hl] at h; simp at h
      | cons a l=>
        rw [hl] at h
        simp only [Option.some.injEq] at h
        refine ⟨zg,(a :: l)++R.own,rfl,h.symm,fun t ht=>?_,c1, ?_,fun n hn=>?_⟩
        · cases hm:ay t R.own with
          | true=>rw [aK] at hm ⊢; exact List.mem_append_right _ hm
          | false=>
            rw [aW] at hm ⊢
            intro h1
            rcases List.mem_append.1 h1 with h1 | h1
            · rw [←hl] at h1
              have:=(List.mem_filter.1 h1).2
              simp only [Bool.and_eq_true,Bool.not_eq_true',aW] at this
              exact this.2 ht
            · exact hm h1
        · rcases Bool.or_eq_true .. |>.mp c2 with h1 | h1
          · left; intro e; rw [e] at h1; simp at h1
          · right
            unfold Root.isVar at h1
            cases hk:R.kind with
            | var t=>exact ⟨t,rfl⟩
            | anon=>rw [hk] at h1; simp at h1
            | par=>rw [hk] at h1; simp at h1
            | dead=>rw [hk] at h1; simp at h1
        · have:=List.all_eq_true.1 c3 _ hn
          simp at this
theorem KA {t:TypeId} {kk:K} {x:El kk} {VA:List TypeId} {rT:List Tag} {wu:List Wr} {TQ:Bool} {cst:List Value} {fot:List Nat} {v:Value} {r:Nat} {R:Root} (ht:fH P T t kk)
    (H:Rel cx σ α F a w) (hr:aP σ r R) (hv:bq σ R) {p:List Stp} {dd:Dat} (hg:aT p R.k R.x=some dd) (fP:nR p R.k R.x) (hown:∀t∈ah p R.k,ay t R.own=true)
    (k2:bg σ (aU VA kk) rT=true) (k3:VC kk v cst) (k1:Held cx σ α F w kk x VA rT cst fot)
    {cs1:List Value} {b o:Nat} (hn:bE (hp w) p R.k (α.hdr r) (dW α R r)=some (cs1,some (b,o))) {A:Type} {z:A} {k:List Wr→Prog A} {σ0:St} (h:(storeAt kk r p ⟨kk,x,VA,rT,wu,TQ⟩ R dd k).ends σ0 z) :
    ∃w',(Instr.storeAt t (.pointer (some ⟨b,o,none⟩)) v).run P w=.ok () w'∧∃α' F',∃R',Rel cx (az σ r R') α' F' a w'∧(k (wu++[.r r (some R')])).ends σ0 z:=by
  unfold storeAt at h
  rcases aA h with ⟨hc3,h⟩ | ⟨_,h⟩
  · simp only [Bool.and_eq_true] at hc3
    simp only [iQ.bad] at hc3 h
    cases hz:dY p R.k R.x ⟨kk,x⟩ with
    | none=>rw [hz] at h; exact h.elim
    | some z=>
      rw [hz] at h
      simp only at h
      rcases aA h with ⟨_,h⟩ | ⟨_,h⟩
      · exact h.elim
      · obtain ⟨w',r1,α',F',r2⟩:=Vu (P:=P) (z:=z) ht H hr hv hg hz fP hown k1 k2 k3
          (by
            rcases Bool.or_eq_true .. |>.mp hc3.1.1 with h | h
            · exact .inl (K.eq_of_beq h)
            · exact .inr (K.eq_of_beq (Bool.and_eq_true .. |>.mp h).1))
          (by
            rcases Bool.or_eq_true .. |>.mp hc3.1.2 with h | h
            · exact .inl h
            · exact .inr h)
          (fun t ht=>by
            have:=List.all_eq_true.1 hc3.2 t ht
            simpa [aW] using this) (R.keep || TQ) hn
        exact ⟨w',r1,α',F',_,r2,h⟩
  · exact h.elim
theorem Re (hT:fC P T) (H:Rel cx σ α F a w) (hd:o.dst=none) {t:TypeId} {x y:Operand} (ho:o.op=.store t x y) {u v:AV} (h1:bH cx σ α F w u (a.eval x)) (h2:vC σ u) (h3:bH cx σ α F w v (a.eval y)) (h4:vC σ v)
    (h:(Sg T t u v fun ws=>(.ret ws:Prog (List Wr))).ends σ ws):tZ P cx o a w (aC ws σ):=by
  unfold Sg at h
  cases hty:T.ty t with
  | none=>rw [hty] at h; exact h.elim
  | some kk=>
   rw [hty] at h
   cases u with
   | ptr r p n=>
    simp only at h
    have ht:=hT.ty t kk hty
    obtain ⟨tk,htk,h⟩:=wR H h3 h4 h
    rcases aA h with ⟨hc1,h⟩ | ⟨_,h⟩
    · simp only [Bool.and_eq_true] at hc1
      obtain ⟨R,hr,hv,h⟩:=cO h
      rcases aA h with ⟨hc2,h⟩ | ⟨_,h⟩
      · simp only [Bool.and_eq_true] at hc2
        cases hg:aT p R.k R.x with
        | none=>rw [hg] at h; exact h.elim
        | some dd=>
          rw [hg] at h
          simp only at h
          have hkk:tk.k=kk:=K.eq_of_beq hc1.1
          have UY:=aaj hc1.2
          have hown:=jZ hc2.1.2
          obtain ⟨fP,cs,b,q,hn,e⟩:=h1.2 R hr.1 hv hc2.1.1 hown (by rw [hg]; rfl)
          have hap:=Dx.1 hc2.2
          obtain ⟨dL,F1,cst,fot,lw,lh,H1,T1,k1,k2,k3,k4,k5,k6⟩:=take1 H htk
          have hS:=k6 r UY
          have hr1:=(hS.live R).2 hr
          have hv1:bq (aC tk.ws σ) R:=⟨hv.1,by rw [eZ (fun t ht=>(k6 t.1 (hap t ht)).root)]; exact hv.2⟩
          have hn1:bE (hp w) p R.k (dL.hdr r) (dW dL R r)=some (cs,some (b,q)):=by rw [hS.hdr,hS.wh]; exact hn
          obtain ⟨tkk,tkx,VA,rT,wu,TQ⟩:=tk
          simp only at hkk
          subst hkk
          simp only [iQ.bad] at k2 k3 h
          cases hrg:NT R r p dd ⟨tkk,tkx,VA,rT,wu,TQ⟩ with
          | none=>
            rw [hrg] at h
            obtain ⟨w',r1,α',F',r2⟩:=KA (P:=P) ht H1 hr1 hv1 hg fP hown k3 k1 k2 hn1 h
            obtain ⟨R',r2,r3⟩:=r2
            rw [aB r3]
            refine ⟨undef,w',α',F', .inr ⟨?_,rfl⟩, ?_⟩
            · simp only [execOp,ho,e,Sem.run_bind,r1,Result.andThen_ok,Sem.run_pure]
            · rw [hd,dJ]
              exact r2
          | some qq=>
            rw [hrg] at h
            simp only at h
            obtain ⟨hck,h⟩:=gD h
            obtain ⟨zg,own',g1,g2,g3,g4,g5,g6⟩:=R5 hrg
            subst g2
            simp only at hck h
            have hnt:=(H1.dz r R hr1.1).2.2
            obtain ⟨cs1,nS,fU,rest,hn',H2,T2,_,_,hpm⟩:=af6 (own':=own') H1 hr1 hv1 hg g1 fP hown g5 g3
            rw [hn1] at hn'
            simp only [Option.some.injEq,Prod.mk.injEq] at hn'
            obtain ⟨rfl,rfl⟩:=hn'
            have hr2:aP (az (aC wu σ) r (eF R dd zg own')) r (eF R dd zg own'):=⟨aJ ..,hr.2⟩
            have hv2:bq (az (aC wu σ) r (eF R dd zg own')) (eF R dd zg own'):=⟨hv.1,by
              show bg _ _ R.tags=true
              rw [mY hnt,eZ (fun t ht=>(k6 t.1 (hap t ht)).root)]
              exact hck⟩
            have k1':=k2.turn H1 T2 (fun b hb=>⟨rfl,List.mem_append_right _ (k2.sub b hb)⟩)
            have k2':bg (az (aC wu σ) r (eF R dd zg own')) (aU VA tkk) rT=true:=by rw [mY g6]; exact k3
            obtain ⟨f1,f2,f3,f4⟩:=LK (h:=hp w) p g4 hg g1 (wO dd.1)
            have hsd:(aH dL r (dL.loc r) (dL.hdr r) rest).hdr r=dL.hdr r:=by simp [aH,upd_same]
            have alk:dW (aH dL r (dL.loc r) (dL.hdr r) rest) (eF R dd zg own') r=dW dL R r:=by rw [jH,wT (show (eF R dd zg own').kind=R.kind from rfl), ←vO]
            have hn2:bE (hp w) p (eF R dd zg own').k ((aH dL r (dL.loc r) (dL.hdr r) rest).hdr r) (dW (aH dL r (dL.loc r) (dL.hdr r) rest) (eF R dd zg own') r)=some (cs,some (b,q)):=by
              rw [hsd,alk]
              exact (f4 _ _).trans hn1
            obtain ⟨w',r1,α',F',r2⟩:=KA (P:=P) ht H2 hr2 hv2 f1 f2 (fun t ht=>by have ht':t∈ah p zg.1:=ht; rw [f3] at ht'; simp at ht') k2' k1 k1' hn2 h
            obtain ⟨R',r2,r3⟩:=r2
            rw [aB r3]
            refine ⟨undef,w',α',F', .inr ⟨?_,rfl⟩, ?_⟩
            · simp only [execOp,ho,e,Sem.run_bind,r1,Result.andThen_ok,Sem.run_pure]
            · rw [hd,dJ]
              rw [Ic] at r2
              exact r2
      · exact h.elim
    · exact h.elim
   | _=>exact h.elim
theorem WJ {A:Type} {z:A} {x:AV} {kk:K} {yes:Nat→Nat→Prog A} {no:Prog A} (h:(Zp x kk yes no).ends σ z):(∃r g R,x=.ref r g∧aP σ r R∧bq σ R∧R.g=g∧R.k=kk∧(yes r g).ends σ z)∨no.ends σ z:=by
  cases x with
  | ref r g=>
    simp only [Zp,Prog.ends] at h
    cases hr:σ.roots r with
    | none=>rw [hr] at h; exact .inr h
    | some R=>
      rw [hr] at h
      simp only at h
      rcases aA h with ⟨_,h⟩ | ⟨_,h⟩
      · obtain ⟨R',hr',hv,h⟩:=cO h
        rcases aA h with ⟨hc,h⟩ | ⟨_,h⟩
        · simp only [Bool.and_eq_true] at hc
          exact .inl ⟨r,g,R',rfl,hr',hv,Nat.eq_of_beq_eq_true hc.1,K.eq_of_beq hc.2,h⟩
        · exact h.elim
      · exact .inr h
  | _=>exact .inr h
theorem Zu (H:Rel cx σ α F a w) (hd:o.dst=some d) (hdn:d<cx.nt) {t:TypeId} {x:Operand} (ho:o.op=.box t x)
    (h:(match T.ty t with
      | some kk=>dN x fun a=>Zp a kk (fun r g=>.ret [Wr.s d (.one (.Jl r g kk []))]) <| Fa kk a fun tk=>bif tk.k.beq kk && !ay t tk.bad then
          lU (bI d 0) (.ret (tk.ws++[Wr.r (bI d 0) (some (aO tk.k tk.x tk.own tk.mh (.var t) tk.keep)),Wr.s d (.one (.ptr (bI d 0) [] 0))]))
        else (.fail:Prog (List Wr))
      | none=>.fail).ends σ ws):tZ P cx o a w (aC ws σ):=by
  split at h
  · rename_i kk hty
    obtain ⟨u,h1,h2,h⟩:=bT H h
    rcases WJ h with ⟨r,g,R,eu,hr,hv,eg,ek,h5⟩ | h
    · subst eu eg ek
      obtain ⟨hka,HV⟩:=h1 R hr rfl
      have hb0:∀b,b<w.heap.size→hp (w.alloc (.cells (a.eval x).cells t)) b=hp w b:=fun b hb=>qc w _ hb
      have H1:Rel cx σ α F a (w.alloc (.cells (a.eval x).cells t)):=H.W9 rfl rfl (by show w.heap.size≤(w.heap.push _).size; simp) hb0 rfl
      have hnew:=tq w (.cells (a.eval x).cells t)
      rw [aB h5]
      refine jC (v:=.pointer (some ⟨w.heap.size,0,none⟩)) (x:=.one (.Jl r R.g R.k [])) H1 hd hdn (by simp only [execOp,ho,Sem.run_bind,Mv,Result.andThen_ok,Sem.run_pure]) ⟨a.eval x,w.heap.size,0,R.k,rfl,⟨?_,fun hF=>?_,fun q Q hq hbq=>?_⟩,fun i hi=>?_,rfl,h1⟩ h2
      · show w.heap.size<(w.heap.push _).size; simp
      · have:=(H.fl _ hF).1; omega
      · have:=((H.roots q Q hq).mine _ hbq).1; omega
      · unfold cellAt
        rw [hnew]
        simp
    obtain ⟨tk,htk,h⟩:=wR H h1 h2 h
    rcases aA h with ⟨_,h⟩ | ⟨_,h⟩
    · obtain ⟨g1,g2⟩:=iI h
      rw [aB g2]
      obtain ⟨dL,F1,cst,fot,lw,lh,H1,T1,k1,k2,k3,k4,k5,k6⟩:=take1 H htk
      have hnr:bI d 0∉tk.ws.flatMap Wr.wo:=by
        intro hm
        cases htk with
        | held hws cs hv h hc=>rw [hws] at hm; simp at hm
        | ref r R hr hv e hk hd=>rw [e] at hm; simp only [List.flatMap_cons,List.flatMap_nil,List.append_nil,Wr.wo,List.mem_singleton] at hm; rw [hm,hr.1] at g1; simp at g1
        | cut r R cs hr hv hk e hd hl VH how=>rw [e.2.2.1] at hm; simp only [List.flatMap_cons,List.flatMap_nil,List.append_nil,Wr.wo,List.mem_singleton] at hm; rw [hm,hr.1] at g1; simp at g1
        | gap r R p dd z hr hv hg hz fP hown hpv e hn=>rw [e] at hm; simp only [List.flatMap_cons,List.flatMap_nil,List.append_nil,Wr.wo,List.mem_singleton] at hm; rw [hm,hr.1] at g1; simp at g1
      have hn1:(aC tk.ws σ).roots (bI d 0)=none:=by rw [(k6 _ hnr).root]; exact g1
      obtain ⟨r1,α',F',r2,r3⟩:=SQ (P:=P) (t:=t) H1 hn1 (gP d 0) k2 k3 k1 tk.keep
      rw [dJ]
      exact jC (x:=.one (.ptr (bI d 0) [] 0)) r2 hd hdn (by simp only [execOp,ho,Sem.run_bind,r1,Result.andThen_ok,Sem.run_pure]) r3 ⟨_,aJ .., .inr (Nat.zero_le _)⟩
    · exact h.elim
  · exact h.elim
end
end Go.Proofs.YtailcbngagacaabGreat.Ow
