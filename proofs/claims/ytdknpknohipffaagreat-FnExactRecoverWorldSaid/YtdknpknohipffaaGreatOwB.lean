/- A verified reading of translated code: values in place of memory; part B of 6, spaces and remarks taken out. No condition. Own work of this seat. -/
import Derived.Test.YtdknpknohipffaaGreatOwA
/- The framework, part 9: slots, one root's turn, what is handed away. Own work of this seat. -/
set_option linter.unusedSectionVars false
set_option linter.unusedVariables false
set_option linter.unusedSimpArgs false
namespace Go.Proofs.YtdknpknohipffaaGreat.Ow
open Go
variable [Fr]
def nI (σ:St) (s:Nat→Br):St:=⟨s,σ.roots⟩
theorem u6 (σ:St) (s:Nat→Br) (tys:List TypeId):∀(T:List Tag),bg (nI σ s) tys T=bg σ tys T
 | []=>rfl
 | (r,n) :: T=>by simp only [bg,u6 σ s tys T]; rfl
section
variable {cx:Cx} {σ:St} {α:dN} {F:List Nat} {a:Act} {w:World}
theorem Pw (s:Nat→Br):iU cx (nI σ s) α F w=iU cx σ α F w:=rfl
theorem NQ (s:Nat→Br) {bt:TypeId} {k:K} {x:El k} {T:List Tag} {v:Value}:NP cx (nI σ s) α F w bt k x T v↔NP cx σ α F w bt k x T v:=by
 unfold NP
 rw [u6,Pw]
 exact Iff.rfl
theorem H9 (s:Nat→Br):∀{cs:List (TypeId×Dat×List Tag)} {vs:List Value},lD cx (nI σ s) α F w cs vs↔lD cx σ α F w cs vs
 | [],[]=>Iff.rfl
 | c :: cs,v :: vs=>by simp only [lD,NQ s,H9 s]
 | [],_ :: _=>Iff.rfl
 | _ :: _,[]=>Iff.rfl
theorem vH (s:Nat→Br) {R:Root}:bq (nI σ s) R↔bq σ R:=by unfold bq; rw [u6]
theorem Gf (s:Nat→Br) {x:AV} {v:Value}:bH cx (nI σ s) α F w x v↔bH cx σ α F w x v:=by
 cases x with
 | undef=>exact Iff.rfl
 | val k x T=>simp only [bH,u6,Pw]
 | iZ=>exact Iff.rfl
 | ref r g=>exact Iff.rfl
 | MF r g k p=>exact Iff.rfl
 | zW r p n=>simp only [bH,vH]; exact Iff.rfl
 | ptr r p n=>simp only [bH,vH]; exact Iff.rfl
 | jl bt k x T=>exact NQ s
 | vB=>exact Iff.rfl
 | D7 _=>exact Iff.rfl
 | part _ _ _ _ _=>exact Iff.rfl
 | Bl _ _ _ _=>simp only [bH,vH]; exact Iff.rfl
 | app _ _ _ _=>simp only [bH,vH]; exact Iff.rfl
 | fn f cs=>simp only [bH,H9 s]
theorem Ip (s:Nat→Br):∀{l:List AV} {vs:List Value},fE cx (nI σ s) α F w l vs↔fE cx σ α F w l vs
 | [],[]=>Iff.rfl
 | c :: cs,v :: vs=>by simp only [fE,Gf s,Ip s]
 | [],_ :: _=>Iff.rfl
 | _ :: _,[]=>Iff.rfl
theorem RF (s:Nat→Br) {x:Br} {v:Value}:kJ cx (nI σ s) α F w x v↔kJ cx σ α F w x v:=by
 cases x with
 | one a=>exact Gf s
 | Li l=>simp only [kJ,Ip s]
theorem UF (s:Nat→Br) {x:Br}:CV (nI σ s) x↔CV σ x:=by cases x <;> exact Iff.rfl
theorem Rel.put (H:Rel cx σ α F a w) {d:Nat} {x:Br} {v:Value} (hd:d<cx.nt) (hw:CV σ x) (hx:kJ cx σ α F w x v) :
  Rel cx (nI σ (upd σ.slots d x)) α F (a.put (some d) v) w where
 defs:=H.defs
 sz:=by simpa [Act.put] using H.sz
 oN:=H.oN
 KW:=H.KW
 slots:=by
  intro s
  rw [RF]
  show kJ cx σ α F w (upd σ.slots d x s) _
  by_cases e:s=d
  ·subst e
   rw [upd_same]
   have:(a.put (some s) v).tmps.getD s undef=v:=by
    have:=H.sz
    simp [Act.put,Array.getElem?_setIfInBounds_self_of_lt (show s<a.tmps.size by omega)]
   rw [this]
   exact hx
  ·rw [upd_ne _ _ e]
   have:(a.put (some d) v).tmps.getD s undef=a.tmps.getD s undef:=by
    simp [Act.put,Array.getElem?_setIfInBounds_ne (Ne.symm e)]
   rw [this]
   exact H.slots s
 Dq:=by
  intro s
  rw [UF]
  show CV σ (upd σ.slots d x s)
  by_cases e:s=d
  ·subst e; rw [upd_same]; exact hw
  ·rw [upd_ne _ _ e]; exact H.Dq s
 roots:=by
  intro r R hr
  have K:=H.roots r R hr
  exact ⟨fun hv=>K.ow ((vH _).1 hv),K.len,K.mem,K.nd,K.mine⟩
 dF:=H.dF
 Og:=H.Og
 fl:=H.fl
 Fw:=H.Fw
 jH:=H.jH
 frame:=H.frame
 zw:=H.zw
 sw:=H.sw
 Ca:=fun j p ts v h=>let ⟨h0,R,h1,h2⟩:=H.Ca j p ts v h; ⟨h0,R,h1,fun ht=>(Gf _).2 (h2 ht)⟩
 Cb:=H.Cb
def dw (w:World) (n:Nat):World:={ w with drawn:=n }
theorem O6 (n:Nat):∀{cs:List (TypeId×Dat×List Tag)} {vs:List Value},lD cx σ α F w cs vs→lD cx σ α F (dw w n) cs vs
 | [],[],_=>trivial
 | _ :: _,_ :: _,h=>⟨h.1,O6 n h.2⟩
 | [],_ :: _,h=>h.elim
 | _ :: _,[],h=>h.elim
theorem P7 (n:Nat) {x:AV} {v:Value} (h:bH cx σ α F w x v):bH cx σ α F (dw w n) x v:=by
 cases x with
 | fn f cs=>obtain ⟨vs,h1,h2⟩:=h; exact ⟨vs,h1,O6 n h2⟩
 | undef=>exact h
 | val k x T=>exact h
 | iZ=>exact h
 | ref r g=>exact h
 | MF r g k p=>exact h
 | zW r p n=>exact h
 | ptr r p n=>exact h
 | jl bt k x T=>exact h
 | vB=>exact h
 | D7 _=>exact h
 | part _ _ _ _ _=>exact h
 | Bl _ _ _ _=>exact h
 | app _ _ _ _=>exact h
theorem Rel.drawn (H:Rel cx σ α F a w) (n:Nat):Rel cx σ α F a (dw w n) where
 defs:=H.defs
 sz:=H.sz
 oN:=H.oN
 KW:=H.KW
 slots:=fun s=>by
  have h:=H.slots s
  generalize σ.slots s=x at h
  cases x with
  | one a=>exact P7 n h
  | Li l=>
   obtain ⟨vs,h1,h2⟩:=h
   refine ⟨vs,h1, ?_⟩
   clear h1
   induction l generalizing vs with
   | nil=>cases vs with
    | nil=>trivial
    | cons v vs=>exact h2.elim
   | cons b l ih=>cases vs with
    | nil=>exact h2.elim
    | cons v vs=>exact ⟨P7 n h2.1,ih vs h2.2⟩
 Dq:=H.Dq
 roots:=fun r R hr=>let K:=H.roots r R hr; ⟨K.ow,K.len,K.mem,K.nd,K.mine⟩
 dF:=H.dF
 Og:=H.Og
 fl:=H.fl
 Fw:=H.Fw
 jH:=H.jH
 frame:=H.frame
 zw:=H.zw
 sw:=H.sw
 Ca:=fun j p ts v h=>let ⟨h0,R,h1,h2⟩:=H.Ca j p ts v h; ⟨h0,R,h1,fun ht=>P7 n (h2 ht)⟩
 Cb:=H.Cb
def wK (r:Nat) (l:List Nat):Nat→List Nat:=fun q=>if q=r then l else []
theorem yM (r:Nat) (l:List Nat):wK r l r=l:=if_pos rfl
theorem sM {r q:Nat} (l:List Nat) (h:q≠r):wK r l q=[]:=if_neg h
variable {r:Nat} {R R':Root} {hdr':List Value} {dK F':List Nat} {w':World} {lw lh:List Nat}
def Us (cx:Cx) (R':Root) (lw:List Nat) (w:World) (b:Nat):Prop:=R'.aZ=true∨(∃e∈lw,uo (hp w) b=some e)∨(nG cx b∧lw≠[])
structure Es (cx:Cx) (σ:St) (α:dN) (F:List Nat) (w:World) (r:Nat) (R R':Root) (dK F':List Nat) (w':World) (lw lh:List Nat):Prop where
 step:(R'.aZ=true∧R.kind≠.par)∨(R'.w=lw++R.w∧R'.h=lh++R.h∧R.g≤R'.g∧R'.kind=R.kind∧(R.kind=.par→R'.k.size=R.k.size)∧(lw≠[]∨lh≠[]))
 tags:fC σ R'.tags∧∀n,(r,n)∉R'.tags
 os:w'.os=w.os∧w'.tape=w.tape∧w'.output=w.output
 size:w.heap.size≤w'.heap.size
 Ug:∀b,b<w.heap.size→hp w' b≠hp w b→b∈F∨(b∈blk α R r∧Us cx R' lw w b)
 new:R'.aZ=false→∀b∈iE R' (α.loc r) dK,b∈blk α R r∨b∈F∨(w.heap.size≤b∧b<w'.heap.size)
 newF:∀b∈F',b∈F∨(w.heap.size≤b∧b<w'.heap.size)∨(b∈blk α R r∧Us cx R' lw w b)
 Fw:F'.Nodup
 jH:R'.aZ=false→∀b∈iE R' (α.loc r) dK,b∉F'
 base:∀j pi b o n,cx.par j=some pi→pi.base=some (b,o,n)→r=au j→hp w' b≠hp w b→gT (hp cx.w0) (hp w') b o n
 ev:R'.aZ=false→R'.ew=R.ew∧R'.eh=R.eh
theorem jI {q:Nat} {Q:Root} (h:aR (az σ r R') q Q):(q=r∧Q=R'∧R'.aZ=false)∨(q≠r∧aR σ q Q):=by
 by_cases e:q=r
 ·subst e
  obtain ⟨h1,h2⟩:=eU h
  exact .inl ⟨rfl,h1,h2⟩
 ·exact .inr ⟨e,(Nt e).1 h⟩
theorem Es.turn (H:Rel cx σ α F a w) (hr:aR σ r R) (T:Es cx σ α F w r R R' dK F' w' lw lh) :
  oK cx σ α F w (az σ r R') (aJ α r (α.loc r) hdr' dK) F' w' (wK r lw) (wK r lh):=by
 have hsame:∀q,q≠r→Same σ α (az σ r R') (aJ α r (α.loc r) hdr' dK) q:=fun q h=>iw h
 have aaz:∀b,Us cx R' lw w b→Loose cx (az σ r R') (wK r lw) w r b:=by
  rintro b (h | ⟨e,he,hb⟩ | ⟨h,hl⟩)
  ·refine .inl fun Q hQ=>?_
   rw [aK] at hQ
   simp only [Option.some.injEq] at hQ
   subst hQ
   exact h
  ·exact .inr (.inl ⟨e,by rw [yM]; exact he,hb⟩)
  ·exact .inr (.inr ⟨h,by rw [yM]; exact hl⟩)
 have hns:∀{q:Nat},¬Same σ α (az σ r R') (aJ α r (α.loc r) hdr' dK) q→q=r:=fun {q} h=>Classical.byContradiction fun e=>h (hsame q e)
 refine ⟨rfl,T.os,T.size, ?_, ?_, ?_, ?_, ?_,T.Fw, ?_, ?_, ?_, ?_⟩
 ·intro q Q hQ
  by_cases e:q=r
  ·subst e
   rw [hr.1] at hQ
   simp only [Option.some.injEq] at hQ
   subst hQ
   refine ⟨R',aK .., ?_⟩
   rcases T.step with h | ⟨h1,h2,h3,h4,h5,h6⟩
   ·exact .inl h
   ·exact .inr ⟨hr.2,by rw [yM]; exact h1,by rw [yM]; exact h2,h3,h4,by simp [aJ,upd_same],h5,by rw [yM,yM]; exact .inl h6⟩
  ·refine ⟨Q,by rw [cu σ R' e]; exact hQ, ?_⟩
   cases hd:Q.aZ with
   | true=>
    refine .inl ⟨rfl, ?_⟩
    intro hk
    simp [Root.aZ,hk] at hd
   | false=>exact .inr ⟨rfl,by rw [sM lw e]; rfl,by rw [sM lh e]; rfl,Nat.le_refl _,rfl,by simp [aJ,upd_ne _ _ e],fun _=>rfl, .inr ⟨sM lw e,sM lh e,hsame q e⟩⟩
 ·intro q Q hQ hs
  have e:=hns hs
  subst e
  rw [aK] at hQ
  simp only [Option.some.injEq] at hQ
  subst hQ
  refine ⟨fun t ht=>?_,(H.dF q R hr.1).2.1,T.tags.2⟩
  have hne:t.1≠q:=fun e=>T.tags.2 t.2 (by rw [←e]; exact ht)
  rcases T.tags.1 t ht with h | ⟨Q,h1,h2⟩
  ·exact .inl h
  ·exact .inr ⟨Q,by rw [cu σ R' hne]; exact h1,h2⟩
 ·intro q Q hn hQ
  have e:q≠r:=fun e=>by rw [e,hr.1] at hn; simp at hn
  rw [cu σ R' e,hn] at hQ
  simp at hQ
 ·intro b hb hne
  exact (T.Ug b hb hne).imp id (fun h=>⟨r,R,hr,h.1,aaz b h.2⟩)
 ·rintro b (⟨q,Q,hq,hb,hno⟩ | hb)
  ·rcases jI hq with ⟨rfl,rfl,hd⟩ | ⟨e,hq'⟩
   ·rw [eO] at hb
    rcases T.new hd b hb with h | h | h
    ·exact absurd ⟨R,hr,h⟩ hno
    ·exact .inl h
    ·exact .inr (.inl h)
   ·rw [(hsame q e).blk] at hb
    exact absurd ⟨Q,hq',hb⟩ hno
  ·rcases T.newF b hb with h | h | h
   ·exact .inl h
   ·exact .inr (.inl h)
   ·exact .inr (.inr ⟨r,R,hr,h.1,aaz b h.2⟩)
 ·intro q Q hq hs b hb
  have e:=hns hs
  subst e
  obtain ⟨rfl,hd⟩:=eU hq
  rw [eO] at hb
  exact T.jH hd b hb
 ·intro q Q q' Q' hq hq' hne hs hs'
  exact absurd ((hns hs).trans (hns hs').symm) hne
 ·intro j pi b o n hj hb hne
  obtain ⟨Q,hQ,hk,hl,hs⟩:=H.oN j pi b o n hj hb
  have hbq:b∈blk α Q (au j):=by simp [blk,eD,hk,hl]
  have hm:=(H.roots _ _ hQ).mine b hbq
  rcases T.Ug b hm.1 hne with h | ⟨h1,_⟩
  ·exact absurd h (H.jH _ _ hQ b hbq)
  ·refine T.base j pi b o n hj hb ?_ hne
   refine Classical.byContradiction fun e=>?_
   exact H.Og _ _ _ _ hr hQ e b h1 hbq
 ·intro q Q Q' hQ hQ' hd
  by_cases e:q=r
  ·subst e
   rw [hr.1] at hQ
   rw [aK] at hQ'
   simp only [Option.some.injEq] at hQ hQ'
   subst hQ
   subst hQ'
   exact T.ev hd
  ·rw [cu σ R' e,hQ] at hQ'
   simp only [Option.some.injEq] at hQ'
   subst hQ'
   exact ⟨rfl,rfl⟩
theorem Es.rel (H:Rel cx σ α F a w) (hr:aR σ r R) (T:Es cx σ α F w r R R' dK F' w' lw lh)
  (hroot:R'.aZ=false→(bq (az σ r R') R'→Ow (hp w') R'.own (iU cx (az σ r R') (aJ α r (α.loc r) hdr' dK) F' w' R'.tags) R'.k R'.x hdr' dK)∧hdr'.length=R'.k.size∧
   (∀b o,Aa R' (α.loc r)=some (b,o)→Cells (hp w') b o hdr'∧∃arr e lo hi,hp w' b=some (.cells arr e (lo,hi))∧(∀i,i<arr.size→¬(lo≤i∧i<hi))∧o+R'.k.size≤arr.size∧(∀t,R'.kind=.var t→e=t))∧
   (iE R' (α.loc r) dK).Nodup)
  (JJ:R'.aZ=false→∀p n v,n≤gG R.h→bH cx σ α F w (.ptr r p n) v→bH cx (az σ r R') (aJ α r (α.loc r) hdr' dK) F' w' (.ptr r p n) v)
  (FV:R'.aZ=false→∀g v,g≤R.g→bH cx σ α F w (.ref r g) v→bH cx (az σ r R') (aJ α r (α.loc r) hdr' dK) F' w' (.ref r g) v) :
  Rel cx (az σ r R') (aJ α r (α.loc r) hdr' dK) F' a w':=by
 have hns:∀{q:Nat},¬Same σ α (az σ r R') (aJ α r (α.loc r) hdr' dK) q→q=r:=fun {q} h=>Classical.byContradiction fun e=>h (iw e)
 have hRq:∀{Q:Root},aR σ r Q→Q=R:=fun {Q} hQ=>by have:=hQ.1; rw [hr.1] at this; simpa using this.symm
 refine H.turn (T.turn H hr) ?_ ?_ ?_
 ·intro q Q hq hs
  have e:=hns hs
  subst e
  obtain ⟨rfl,hd⟩:=eU hq
  obtain ⟨h1,h2,h3,h4⟩:=hroot hd
  refine ⟨fun hv=>?_, ?_, ?_, ?_⟩
  ·have:=h1 hv
   simpa [aJ,upd_same] using this
  ·simpa [aJ,upd_same] using h2
  ·intro b o hb
   rw [jX] at hb
   have:=h3 b o hb
   simpa [aJ,upd_same] using this
  ·rw [eO]; exact h4
 ·intro q Q hq hs p n v hn hv
  have e:=hns hs
  subst e
  obtain rfl:=hRq hq
  cases hd:R'.aZ with
  | false=>exact JJ hd p n v hn hv
  | true=>
   refine ⟨hv.1, ?_⟩
   intro Q' hQ' hval
   rw [aK] at hQ'
   simp only [Option.some.injEq] at hQ'
   subst hQ'
   have:=hval.1
   rw [hd] at this
   simp at this
 ·intro q Q hq hs g v hg hv
  have e:=hns hs
  subst e
  obtain rfl:=hRq hq
  cases hd:R'.aZ with
  | false=>exact FV hd g v hg hv
  | true=>
   intro Q' hQ'
   have:=(eU hQ').2
   rw [hd] at this
   simp at this
structure Held (cx:Cx) (σ:St) (α:dN) (F:List Nat) (w:World) (k:K) (x:El k) (own:List TypeId) (tags:List Tag) (cs:List Value) (fo:List Nat):Prop where
 ow:bg σ (aU own k) tags=true→Ow (hp w) own (iU cx σ α F w tags) k x cs fo
 wt:fC σ tags
 sub:∀b∈fo,b∈F
 nd:fo.Nodup
 len:cs.length=k.size
theorem Held.turn {σ':St} {α':dN} {lw lh:Nat→List Nat} {k:K} {x:El k} {own:List TypeId} {tags:List Tag} {cs:List Value} {fo:List Nat}
  (H:Rel cx σ α F a w) (T:oK cx σ α F w σ' α' F' w' lw lh) (h:Held cx σ α F w k x own tags cs fo) (hs:∀b∈fo,hp w' b=hp w b∧b∈F'):Held cx σ' α' F' w' k x own tags cs fo where
 ow:=fun hc=>by
  obtain ⟨h1,h2,_⟩:=T.views H tags _ h.wt hc
  exact bC (fun b hb=>(h2 b hb.1 (.inl hb.2)).2) (fun b hb=>(h2 b hb.1 (.inl hb.2)).1) (fun b hb=>(hs b hb).1) (wB _ (fun _ h=>h) (h.ow h1))
 wt:=fun t ht=>T.tag (h.wt t ht)
 sub:=fun b hb=>(hs b hb).2
 nd:=h.nd
 len:=h.len
theorem Held.slots {k:K} {x:El k} {own:List TypeId} {tags:List Tag} {cs:List Value} {fo:List Nat} (s:Nat→Br) (h:Held cx σ α F w k x own tags cs fo):Held cx (nI σ s) α F w k x own tags cs fo:=
 ⟨fun hc=>h.ow (by rw [u6] at hc; exact hc),h.wt,h.sub,h.nd,h.len⟩
end
end Go.Proofs.YtdknpknohipffaaGreat.Ow

/- The framework, part 10: memory, what is handed away, what is new, a store. Own work of this seat. -/
namespace Go.Proofs.YtdknpknohipffaaGreat.Ow
open Go
variable [Fr]
theorem xy {h:Heap} {own:List TypeId} {ok:Nat→Prop}:∀{k:K} {x:El k} {cs:List Value} {fo:List Nat},Ow h own ok k x cs fo→∀b∈fo,∃e∈k.tys,ay e own=true∧uo h b=some e:=by
 intro k
 induction k with
 | int ik=>intro x cs fo H b hb; rw [H.1] at hb; simp at hb
 | bool=>intro x cs fo H b hb; rw [H.1] at hb; simp at hb
 | id e=>intro x cs fo H b hb; rw [H.1] at hb; simp at hb
 | str=>intro x cs fo H b hb; rw [H.1] at hb; simp at hb
 | sl e k ih=>
  intro x cs fo H b' hb'
  unfold Ow at H
  split at H
  ·rename_i hm
   obtain ⟨a,n,c,e1,e2,e3,H⟩:=H
   rcases H with ⟨_,h1⟩ | ⟨b,o,arr,lo,hi,ea,hb,hf,hs,bz,hl,hp,H⟩
   ·rw [h1] at hb'; simp at hb'
   ·rcases List.mem_cons.1 (hp.mem_iff.1 hb') with h | h
    ·subst h
     exact ⟨e,by simp [K.tys],hm,by unfold uo; rw [hb]⟩
    ·obtain ⟨l,hl1,hl2⟩:=List.mem_flatten.1 h
     obtain ⟨i,hi,rfl⟩:=List.mem_iff_getElem.1 hl1
     obtain ⟨ds,_,h2⟩:=H i (by omega)
     rw [bZ hi] at h2
     obtain ⟨e',g1,g2⟩:=ih h2 b' hl2
     exact ⟨e',by simp [K.tys,g1],g2⟩
  ·rw [H.1] at hb'; simp at hb'
 | unit=>intro x cs fo H b hb; rw [H.1] at hb; simp at hb
 | pair a b iha ihb=>
  intro x cs fo H b' hb'
  obtain ⟨c1,c2,f1,f2,e,hp,h1,h2⟩:=H
  rcases List.mem_append.1 (hp.mem_iff.1 hb') with h | h
  ·obtain ⟨e',g1,g2⟩:=iha h1 b' h; exact ⟨e',by simp [K.tys,g1],g2⟩
  ·obtain ⟨e',g1,g2⟩:=ihb h2 b' h; exact ⟨e',by simp [K.tys,g1],g2⟩
 | st f ih=>intro x cs fo H; exact ih (x:=x) H
 | gap n=>intro x cs fo H b hb; rw [H.1] at hb; simp at hb
theorem dI {t:Nat} {own bad:List TypeId}:ay t (bI own bad)=true↔ay t own=true∧t∉bad:=by
 rw [aL,aL]
 unfold bI
 rw [List.mem_filter]
 simp [aV]
theorem Fp {own:List TypeId}:∀{k:K} {t:TypeId},t∈k.tys→t∈aU own k∨ay t own=true:=by
 intro k
 induction k with
 | sl e k ih=>
  intro t ht
  simp only [K.tys,List.mem_cons] at ht
  cases hm:ay e own with
  | true=>
   rcases ht with ht | ht
   ·subst ht; exact .inr hm
   ·exact (ih ht).imp (fun h=>by simp [aU,hm,h]) id
  | false=>exact .inl (by simpa [aU,hm] using ht)
 | pair a b iha ihb=>
  intro t ht
  simp only [K.tys,List.mem_append] at ht
  rcases ht with ht | ht
  ·exact (iha ht).imp (fun h=>by simp [aU,h]) id
  ·exact (ihb ht).imp (fun h=>by simp [aU,h]) id
 | st f ih=>intro t ht; exact ih ht
 | _=>intro t ht; simp [K.tys] at ht
theorem J3 {own:List TypeId}:∀{k:K} {t:TypeId},t∈aU own k→t∈k.tys:=by
 intro k
 induction k with
 | sl e k ih=>
  intro t ht
  cases hm:ay e own with
  | true=>simp only [aU,hm,cond_true] at ht; simp [K.tys,ih ht]
  | false=>simpa [aU,hm,K.tys] using ht
 | pair a b iha ihb=>
  intro t ht
  simp only [aU,List.mem_append] at ht
  simp only [K.tys,List.mem_append]
  exact ht.imp iha ihb
 | st f ih=>intro t ht; exact ih ht
 | _=>intro t ht; simp [aU] at ht
section
variable {cx:Cx} {σ:St} {α:dN} {F:List Nat} {a:Act} {w:World} {F':List Nat} {w':World}
theorem Iu (H:Rel cx σ α F a w) (hos:w'.os=w.os∧w'.tape=w.tape∧w'.output=w.output) (hsize:w.heap.size≤w'.heap.size) (Na:∀b,b<w.heap.size→hp w' b≠hp w b→b∈F)
  (hnew:∀b∈F',b∈F∨(w.heap.size≤b∧b<w'.heap.size)) (hnd:F'.Nodup):oK cx σ α F w σ α F' w' (fun _=>[]) (fun _=>[]) where
 slots:=rfl
 os:=hos
 size:=hsize
 old:=fun r R hr=>⟨R,hr,by
  cases hd:R.aZ with
  | true=>exact .inl ⟨rfl,by intro hk; simp [Root.aZ,hk] at hd⟩
  | false=>exact .inr ⟨rfl,rfl,rfl,Nat.le_refl _,rfl,rfl,fun _=>rfl, .inr ⟨rfl,rfl,ny ..⟩⟩⟩
 wr:=fun r R' _ h=>absurd (ny ..) h
 akK:=fun r R' h1 h2=>by rw [h1] at h2; simp at h2
 Ug:=fun b hb hne=>.inl (Na b hb hne)
 new:=by
  rintro b (⟨r,R',h1,h2,h3⟩ | h)
  ·exact absurd ⟨R',h1,h2⟩ h3
  ·exact (hnew b h).imp id .inl
 Fw:=hnd
 jH:=fun r R' _ h=>absurd (ny ..) h
 Og:=fun r R r' R' _ _ _ h=>absurd (ny ..) h
 base:=by
  intro j pi b o n hj hb hne
  obtain ⟨Q,hQ,hk,hl,hs⟩:=H.oN j pi b o n hj hb
  have hbq:b∈blk α Q (au j):=by simp [blk,eD,hk,hl]
  have hm:=(H.roots _ _ hQ).mine b hbq
  exact absurd (Na b hm.1 hne) (H.jH _ _ hQ b hbq)
 ev:=fun r R R' h1 h2 _=>by rw [h1] at h2; simp only [Option.some.injEq] at h2; subst h2; exact ⟨rfl,rfl⟩
theorem Rel.mem (H:Rel cx σ α F a w) (T:oK cx σ α F w σ α F' w' (fun _=>[]) (fun _=>[])):Rel cx σ α F' a w':=
 H.turn T (fun _ _ _ h=>absurd (ny ..) h) (fun _ _ _ h=>absurd (ny ..) h) (fun _ _ _ h=>absurd (ny ..) h)
theorem Rel.alloc (H:Rel cx σ α F a w) (o:Obj):Rel cx σ α (w.heap.size :: F) a (w.alloc o)∧oK cx σ α F w σ α (w.heap.size :: F) (w.alloc o) (fun _=>[]) (fun _=>[]):=by
 have hs:(w.alloc o).heap.size=w.heap.size+1:=Array.size_push ..
 have T:oK cx σ α F w σ α (w.heap.size :: F) (w.alloc o) (fun _=>[]) (fun _=>[]):=Iu H ⟨rfl,rfl,rfl⟩ (by omega) (fun b hb hne=>absurd (rz w o hb) hne)
  (fun b hb=>by rcases List.mem_cons.1 hb with h | h; exact .inr ⟨by omega,by omega⟩; exact .inl h)
  (List.nodup_cons.2 ⟨fun h=>by have:=(H.fl _ h).1; omega,H.Fw⟩)
 exact ⟨H.mem T,T⟩
variable {r:Nat} {R:Root}
theorem kH:cz.aZ=true:=rfl
theorem nY {R':Root} {tys:List TypeId} {T:List Tag} (h:∀n,(r,n)∉T):bg (az σ r R') tys T=bg σ tys T:=by
 induction T with
 | nil=>rfl
 | cons t T ih=>
  obtain ⟨q,n⟩:=t
  have hq:q≠r:=fun e=>h n (by simp [e])
  have ih':=ih (fun n hn=>h n (by simp [hn]))
  simp only [bg]
  rw [ih',cu σ R' hq]
def jV (α:dN) (r:Nat):dN:=aJ α r (α.loc r) (α.hdr r) []
theorem kill (H:Rel cx σ α F a w) (hr:aR σ r R) (hk:R.kind=.anon) (hv:bq σ R) :
  Rel cx (az σ r cz) (jV α r) (α.fo r++F) a w∧oK cx σ α F w (az σ r cz) (jV α r) (α.fo r++F) w (wK r []) (wK r [])∧
  Held cx (az σ r cz) (jV α r) (α.fo r++F) w R.k R.x R.own R.tags (α.hdr r) (α.fo r)∧bg (az σ r cz) (aU R.own R.k) R.tags=true:=by
 have hb:blk α R r=α.fo r:=by simp [blk,eD,hk]
 have K:=H.roots r R hr
 have hnd:(α.fo r).Nodup:=by rw [←hb]; exact K.nd
 have T1:Es cx σ α F w r R cz [] (α.fo r++F) w [] []:=by
  refine ⟨.inl ⟨rfl,by rw [hk]; simp⟩,⟨fun t ht=>by simp [cz] at ht,fun n hn=>by simp [cz] at hn⟩,⟨rfl,rfl,rfl⟩,Nat.le_refl _,fun b _ h=>absurd rfl h,fun h=>by simp [kH] at h, ?_, ?_,fun h=>by simp [kH] at h,fun _ _ _ _ _ _ _ _ h=>absurd rfl h,fun h=>by simp [kH] at h⟩
  ·intro b hb'
   rcases List.mem_append.1 hb' with h | h
   ·exact .inr (.inr ⟨by rw [hb]; exact h, .inl rfl⟩)
   ·exact .inl h
  ·exact List.nodup_append.2 ⟨hnd,H.Fw,fun b h1 c h2 e=>H.jH r R hr b (by rw [hb]; exact h1) (e▸h2)⟩
 have hT:=T1.turn (hdr':=α.hdr r) H hr
 have hnt:=(H.dF r R hr.1).2.2
 have Nb:bg (az σ r cz) (aU R.own R.k) R.tags=true:=by rw [nY hnt]; exact hv.2
 refine ⟨T1.rel H hr (fun h=>by simp [kH] at h) (fun h=>by simp [kH] at h) (fun h=>by simp [kH] at h),hT, ?_,Nb⟩
 refine ⟨fun hc=>?_,fun t ht=>hT.tag ((H.dF r R hr.1).1 t ht),fun b hb=>List.mem_append_left _ hb,hnd,K.len⟩
 obtain ⟨h1,h2,_⟩:=hT.views H R.tags _ (H.dF r R hr.1).1 hc
 exact bC (fun b hb=>(h2 b hb.1 (.inl hb.2)).2) (fun b hb=>(h2 b hb.1 (.inl hb.2)).1) (fun _ _=>rfl) (wB _ (fun _ h=>h) (K.ow hv))
theorem akF (H:Rel cx σ α F a w) (hr:aR σ r R) (hk:R.kind≠.par) (hv:bq σ R) :
  Rel cx (az σ r cz) (jV α r) (blk α R r++F) a w∧oK cx σ α F w (az σ r cz) (jV α r) (blk α R r++F) w (wK r []) (wK r [])∧
  Held cx (az σ r cz) (jV α r) (blk α R r++F) w R.k R.x R.own R.tags (α.hdr r) (α.fo r)∧bg (az σ r cz) (aU R.own R.k) R.tags=true:=by
 have K:=H.roots r R hr
 have hnd:(blk α R r).Nodup:=K.nd
 have T1:Es cx σ α F w r R cz [] (blk α R r++F) w [] []:=by
  refine ⟨.inl ⟨rfl,hk⟩,⟨fun t ht=>by simp [cz] at ht,fun n hn=>by simp [cz] at hn⟩,⟨rfl,rfl,rfl⟩,Nat.le_refl _,fun b _ h=>absurd rfl h,fun h=>by simp [kH] at h, ?_, ?_,fun h=>by simp [kH] at h,fun _ _ _ _ _ _ _ _ h=>absurd rfl h,fun h=>by simp [kH] at h⟩
  ·intro b hb'
   rcases List.mem_append.1 hb' with h | h
   ·exact .inr (.inr ⟨h, .inl rfl⟩)
   ·exact .inl h
  ·exact List.nodup_append.2 ⟨hnd,H.Fw,fun b h1 c h2 e=>H.jH r R hr b h1 (e▸h2)⟩
 have hT:=T1.turn (hdr':=α.hdr r) H hr
 have hnt:=(H.dF r R hr.1).2.2
 have Nb:bg (az σ r cz) (aU R.own R.k) R.tags=true:=by rw [nY hnt]; exact hv.2
 refine ⟨T1.rel H hr (fun h=>by simp [kH] at h) (fun h=>by simp [kH] at h) (fun h=>by simp [kH] at h),hT, ?_,Nb⟩
 refine ⟨fun hc=>?_,fun t ht=>hT.tag ((H.dF r R hr.1).1 t ht),fun b hb=>List.mem_append_left _ (List.mem_append_right _ hb),(List.nodup_append.1 hnd).2.1,K.len⟩
 obtain ⟨h1,h2,_⟩:=hT.views H R.tags _ (H.dF r R hr.1).1 hc
 exact bC (fun b hb=>(h2 b hb.1 (.inl hb.2)).2) (fun b hb=>(h2 b hb.1 (.inl hb.2)).1) (fun _ _=>rfl) (wB _ (fun _ h=>h) (K.ow hv))
theorem tZ:∀(p:List Stp) {k:K} {x y:El k},(aT p k x).isSome=(aT p k y).isSome:=by
 intro p
 induction p with
 | nil=>intro k x y; rfl
 | cons s p ih=>
  intro k x y
  cases s with
  | gL n=>
   cases k with
   | st c=>
    simp only [aT]
    have key:∀(n:Nat) {c:K} {x y:El c},(∃s t:Dat,aQ n c x=some s∧aQ n c y=some t∧s.1=t.1)∨(aQ n c x=none∧aQ n c y=none):=by
     intro n
     induction n with
     | zero=>intro c x y; cases c <;> first | exact .inl ⟨_,_,rfl,rfl,rfl⟩ | exact .inr ⟨rfl,rfl⟩
     | succ n ih=>intro c x y; cases c <;> first | exact ih | exact .inr ⟨rfl,rfl⟩
    rcases key n (c:=c) (x:=x) (y:=y) with ⟨s,t,h1,h2,h3⟩ | ⟨h1,h2⟩
    ·rw [h1,h2]
     obtain ⟨sk,sx⟩:=s
     obtain ⟨tk,ty⟩:=t
     simp only at h3
     subst h3
     exact ih
    ·rw [h1,h2]
   | _=>simp [aT]
  | idx i=>
   cases k with
   | sl e k=>simp only [aT]; exact ih
   | _=>simp [aT]
theorem Qu:∀(n m:Nat) {c:K} {x:El c} {u y:Dat},m≠n→cB n c x u=some y→aQ m y.1 y.2=aQ m c x:=by
 intro n
 induction n with
 | zero=>
  intro m c x u y hm h
  cases c with
  | pair a b=>
   simp only [cB,Option.some.injEq] at h
   subst h
   cases m with
   | zero=>exact absurd rfl hm
   | succ m=>rfl
  | _=>simp [cB] at h
 | succ n ih=>
  intro m c x u y hm h
  cases c with
  | pair a b=>
   simp only [cB] at h
   cases h4:cB n b x.2 u with
   | none=>rw [h4] at h; simp at h
   | some y2=>
    rw [h4] at h
    simp only [Option.some.injEq] at h
    subst h
    cases m with
    | zero=>rfl
    | succ m=>exact ih m (by omega) h4
  | _=>simp [cB] at h
theorem PT {bad:List TypeId}:∀(p q:List Stp) {k:K} {x:El k} {t d z:Dat},aT p k x=some d→eF p k x t=some z→
  (∀q',(aT q' t.1 t.2).isSome=true→(∀e∈ah q' t.1,e∉bad)→ah q' d.1=ah q' t.1∧(aT q' d.1 d.2).isSome=true)→(aT q z.1 z.2).isSome=true→(∀e∈ah q z.1,e∉bad)→
   ah q k=ah q z.1∧(aT q k x).isSome=true:=by
 intro p
 induction p with
 | nil=>
  intro q k x t d z hg hz ht hs hb
  simp only [eF,Option.some.injEq] at hz
  simp only [aT,Option.some.injEq] at hg
  subst hz
  subst hg
  exact ht q hs hb
 | cons s p ih=>
  intro q k x t d z hg hz ht hs hb
  cases s with
  | gL n=>
   cases k with
   | st c=>
    simp only [aT,eF] at hg hz
    cases hcg:aQ n c x with
    | none=>rw [hcg] at hg; simp at hg
    | some s=>
     rw [hcg] at hg hz
     simp only at hg hz
     cases hs':eF p s.1 s.2 t with
     | none=>rw [hs'] at hz; simp at hz
     | some u=>
      rw [hs'] at hz
      simp only at hz
      cases hcp:cB n c x u with
      | none=>rw [hcp] at hz; simp at hz
      | some y=>
       rw [hcp] at hz
       simp only [Option.some.injEq] at hz
       subst hz
       cases q with
       | nil=>exact ⟨rfl,rfl⟩
       | cons s2 q=>
        cases s2 with
        | idx i=>simp [aT] at hs
        | gL m=>
         by_cases hmn:m=n
         ·subst hmn
          have e1:aQ m y.1 y.2=some u:=BQ m hcp
          have p1:ah (.gL m :: q) (.st c)=ah q s.1:=by simp [ah,bU m hcg]
          have p2:ah (.gL m :: q) (.st y.1)=ah q u.1:=by simp [ah,bU m e1]
          have hs2:(aT (.gL m :: q) (.st y.1) y.2).isSome=true:=hs
          simp only [aT,e1] at hs2
          have hb2:∀e∈ah (.gL m :: q) (.st y.1),e∉bad:=hb
          rw [p2] at hb2
          obtain ⟨h1,h2⟩:=ih q hg hs' ht hs2 hb2
          refine ⟨?_, ?_⟩
          ·show ah (.gL m :: q) (.st c)=ah (.gL m :: q) (.st y.1)
           rw [p1,p2,h1]
          ·simp only [aT,hcg]
           exact h2
         ·have e1:=Qu n m hmn hcp
          have hs2:(aT (.gL m :: q) (.st y.1) y.2).isSome=true:=hs
          simp only [aT,e1] at hs2
          cases hg2:aQ m c x with
          | none=>rw [hg2] at hs2; simp at hs2
          | some s2=>
           refine ⟨?_, ?_⟩
           ·show ah (.gL m :: q) (.st c)=ah (.gL m :: q) (.st y.1)
            simp only [ah,bU m hg2,bU m (e1.trans hg2)]
           ·simp only [aT,hg2]
            rw [hg2] at hs2
            exact hs2
   | _=>simp [aT] at hg
  | idx i=>
   cases k with
   | sl e k=>
    simp only [eF] at hz
    cases hs':eF p k ((show List (El k) from x).getD i.toNat k.zero) t with
    | none=>rw [hs'] at hz; simp at hz
    | some u=>
     rw [hs'] at hz
     simp only at hz
     cases hck:bQ u.1 k u.2 with
     | none=>rw [hck] at hz; simp at hz
     | some y=>
      rw [hck] at hz
      simp only [Option.some.injEq] at hz
      subst hz
      exact ⟨rfl,by rw [tZ q (y:=((show List (El k) from x).set i.toNat y))]; exact hs⟩
   | _=>simp [eF] at hz
theorem yK:∀k:K,k.hole.size=k.size:=by
 intro k
 induction k with
 | pair a b iha ihb=>simp [K.hole,K.size,iha,ihb]
 | st f ih=>simp [K.hole,K.size,ih]
 | _=>rfl
theorem acG {h:Heap} {own:List TypeId} {ok:Nat→Prop}:∀{k:K} {x:El k} {cs:List Value} {fo:List Nat},Ow h own ok k x cs fo→Ow h own ok k.hole (xE k x) cs []:=by
 intro k
 induction k with
 | int ik=>intro x cs fo H; exact ⟨rfl,H.2⟩
 | bool=>intro x cs fo H; exact ⟨rfl,H.2⟩
 | id e=>intro x cs fo H; exact ⟨rfl,H.2⟩
 | str=>intro x cs fo H; exact ⟨rfl,H.2⟩
 | sl e k ih=>intro x cs fo H; exact ⟨rfl,dA H⟩
 | unit=>intro x cs fo H; exact ⟨rfl,H.2⟩
 | pair a b iha ihb=>intro x cs fo H; obtain ⟨c1,c2,f1,f2,e,hp,h1,h2⟩:=H; exact ⟨c1,c2,[],[],e, .refl _,iha h1,ihb h2⟩
 | st f ih=>intro x cs fo H; exact ih (x:=x) H
 | gap n=>intro x cs fo H; exact ⟨rfl,H.2⟩
theorem Mw:∀(n:Nat) {c:K} {x:El c},aQ n c.hole (xE c x)=(aQ n c x).map xD:=by
 intro n
 induction n with
 | zero=>intro c x; cases c <;> rfl
 | succ n ih=>
  intro c x
  cases c with
  | pair a b=>simp only [K.hole,xE,aQ]; exact ih
  | _=>rfl
theorem UQ:∀(n:Nat) {c:K},bD n c.hole=(bD n c).map fun q=>(q.1,q.2.hole):=by
 intro n
 induction n with
 | zero=>intro c; cases c <;> rfl
 | succ n ih=>
  intro c
  cases c with
  | pair a b=>
   simp only [K.hole,bD]
   rw [ih (c:=b)]
   cases bD n b with
   | none=>rfl
   | some q=>simp [yK]
  | _=>rfl
theorem Ng {h:Heap}:∀(q:List Stp) {k:K} {x:El k},(aT q k.hole (xE k x)).isSome=true→
  ah q k=[]∧ah q k.hole=[]∧(aT q k x).isSome=true∧oZ q k.hole (xE k x)∧∀cs wh,bF h q k.hole cs wh=bF h q k cs wh:=by
 intro q
 induction q with
 | nil=>intro k x _; exact ⟨by simp [ah],by simp [ah],rfl,trivial,fun _ _=>rfl⟩
 | cons s q ih=>
  intro k x hs
  cases s with
  | idx i=>cases k <;> simp [K.hole,aT] at hs
  | gL n=>
   cases k with
   | st c=>
    have e:aQ n c.hole (xE c x)=(aQ n c x).map xD:=Mw n
    have hs':(aT (.gL n :: q) (.st c.hole) (xE c x)).isSome=true:=hs
    simp only [aT,e] at hs'
    cases hg:aQ n c x with
    | none=>rw [hg] at hs'; simp at hs'
    | some s=>
     rw [hg] at hs' e
     simp only [Option.map_some,xD] at hs' e
     obtain ⟨h1,h2,h3,h4,h5⟩:=ih (k:=s.1) (x:=s.2) hs'
     refine ⟨by simp [ah,bU n hg,h1], ?_,by simp only [aT,hg]; exact h3, ?_,fun cs wh=>?_⟩
     ·show ah (.gL n :: q) (.st c.hole)=[]
      simp [ah,bU n e,h2]
     ·show oZ (.gL n :: q) (.st c.hole) (xE c x)
      simp only [oZ,e]
      exact h4
     ·show bF h (.gL n :: q) (.st c.hole) cs wh=_
      simp only [bF]
      rw [UQ n]
      cases ho:bD n c with
      | none=>rfl
      | some w=>
       simp only [Option.map_some]
       have hk:w.2=s.1:=by
        have key:∀(n:Nat) {c:K} {x:El c} {s:Dat} {q:Nat×K},aQ n c x=some s→bD n c=some q→q.2=s.1:=by
         intro n
         induction n with
         | zero=>intro c x s q h1 h2; cases c with
          | pair a b=>simp only [aQ,bD,Option.some.injEq] at h1 h2; subst h1; subst h2; rfl
          | _=>simp [aQ] at h1
         | succ n ih=>intro c x s q h1 h2; cases c with
          | pair a b=>
           simp only [aQ,bD] at h1 h2
           cases h3:bD n b with
           | none=>rw [h3] at h2; simp at h2
           | some q3=>rw [h3] at h2; simp only [Option.some.injEq] at h2; subst h2; exact ih (q:=q3) h1 h3
          | _=>simp [aQ] at h1
        exact key n (c:=c) hg ho
       obtain ⟨w1,w2⟩:=w
       simp only at hk
       subst hk
       simp only [yK]
       exact h5 _ _
   | _=>simp [K.hole,aT] at hs
theorem X9:∀(q:List Stp) {k:K} {x y:El k},ah q k=[]→(aT q k x).isSome=true→ah q k.hole=[]∧(aT q k.hole (xE k y)).isSome=true:=by
 intro q
 induction q with
 | nil=>intro k x y _ _; exact ⟨by simp [ah],rfl⟩
 | cons s q ih=>
  intro k x y h0 hs
  cases s with
  | idx i=>cases k <;> simp [ah,aT] at h0 hs
  | gL n=>
   cases k with
   | st c=>
    simp only [aT] at hs
    cases hg:aQ n c x with
    | none=>rw [hg] at hs; simp at hs
    | some s=>
     rw [hg] at hs
     simp only at hs
     have hp2:ah (.gL n :: q) (.st c)=ah q s.1:=by simp [ah,bU n hg]
     rw [hp2] at h0
     have key:∀(n:Nat) {c:K} {x y:El c} {s:Dat},aQ n c x=some s→∃t:Dat,aQ n c y=some t∧t.1=s.1:=by
      intro n
      induction n with
      | zero=>intro c x y s h; cases c <;> first | (simp only [aQ,Option.some.injEq] at h; subst h; exact ⟨_,rfl,rfl⟩) | simp [aQ] at h
      | succ n ih=>intro c x y s h; cases c <;> first | exact ih h | simp [aQ] at h
     obtain ⟨t,g1,g2⟩:=key n (c:=c) (y:=y) hg
     obtain ⟨sk,sx⟩:=s
     obtain ⟨tk,ty⟩:=t
     simp only at g2
     subst g2
     obtain ⟨h1,h2⟩:=ih (y:=ty) h0 hs
     have e:aQ n c.hole (xE c y)=some (xD ⟨tk,ty⟩):=by rw [Mw n,g1]; rfl
     refine ⟨?_, ?_⟩
     ·show ah (.gL n :: q) (.st c.hole)=[]
      simp [ah,bU n e,xD,h1]
     ·show (aT (.gL n :: q) (.st c.hole) (xE c y)).isSome=true
      simp only [aT,e]
      exact h2
   | _=>simp [aT] at hs
theorem VS {own:List TypeId}:∀k:K,aU own k.hole=[]:=by
 intro k
 induction k with
 | pair a b iha ihb=>simp [K.hole,aU,iha,ihb]
 | st f ih=>exact ih
 | _=>rfl
theorem cells_eq {h:Heap} {b o:Nat} {cs cs':List Value} (h1:Cells h b o cs) (h2:Cells h b o cs') (hl:cs'.length=cs.length):cs'=cs:=by
 apply List.ext_getElem? 
 intro i
 by_cases hi:i<cs.length
 ·rw [←h1 i hi, ←h2 i (by omega)]
 ·rw [List.getElem?_eq_none (by omega),List.getElem?_eq_none (by omega)]
theorem JW:∀(p:List Stp) {k:K} {x:El k} {t d z:Dat},aT p k x=some d→t.1.size=d.1.size→eF p k x t=some z→z.1.size=k.size:=by
 intro p
 induction p with
 | nil=>
  intro k x t d z hg hs hz
  simp only [aT,eF,Option.some.injEq] at hg hz
  subst hg; subst hz; exact hs
 | cons s p ih=>
  intro k x t d z hg hs hz
  cases s with
  | gL n=>
   cases k with
   | st c=>
    simp only [aT,eF] at hg hz
    cases hcg:aQ n c x with
    | none=>rw [hcg] at hg; simp at hg
    | some s=>
     rw [hcg] at hg hz
     simp only at hg hz
     cases hs':eF p s.1 s.2 t with
     | none=>rw [hs'] at hz; simp at hz
     | some u=>
      rw [hs'] at hz
      simp only at hz
      cases hcp:cB n c x u with
      | none=>rw [hcp] at hz; simp at hz
      | some y=>
       rw [hcp] at hz
       simp only [Option.some.injEq] at hz
       subst hz
       have hu:=ih hg hs hs'
       have key:∀(n:Nat) {c:K} {x:El c} {s u y:Dat},aQ n c x=some s→cB n c x u=some y→u.1.size=s.1.size→y.1.size=c.size:=by
        intro n
        induction n with
        | zero=>
         intro c x s u y h1 h2 e
         cases c with
         | pair a b=>simp only [aQ,cB,Option.some.injEq] at h1 h2; subst h1; subst h2; simp only at e; simp [K.size,e]
         | _=>simp [aQ] at h1
        | succ n ih=>
         intro c x s u y h1 h2 e
         cases c with
         | pair a b=>
          simp only [aQ,cB] at h1 h2
          cases h3:cB n b x.2 u with
          | none=>rw [h3] at h2; simp at h2
          | some y2=>rw [h3] at h2; simp only [Option.some.injEq] at h2; subst h2; simp [K.size,ih h1 h3 e]
         | _=>simp [aQ] at h1
       show y.1.size=c.size
       exact key n (c:=c) hcg hcp hu
   | _=>simp [aT] at hg
  | idx i=>
   cases k with
   | sl e k=>
    simp only [eF] at hz
    cases hs':eF p k ((show List (El k) from x).getD i.toNat k.zero) t with
    | none=>rw [hs'] at hz; simp at hz
    | some u=>
     rw [hs'] at hz
     simp only at hz
     cases hck:bQ u.1 k u.2 with
     | none=>rw [hck] at hz; simp at hz
     | some y=>rw [hck] at hz; simp only [Option.some.injEq] at hz; subst hz; rfl
   | _=>simp [aT] at hg
theorem yO {R R':Root} (h:R'.kind=R.kind) (loc:Nat×Nat):Aa R' loc=Aa R loc:=by unfold Aa; rw [h]
theorem qE {R R':Root} (h:R'.kind=R.kind) (loc:Nat×Nat) (fo:List Nat):iE R' loc fo=iE R loc fo:=by unfold iE; rw [h]
theorem Sg (R:Root) (loc:Nat×Nat) (fo:List Nat):iE R loc fo=(match Aa R loc with
 | some q=>[q.1]
 | none=>[])++fo:=by unfold iE Aa; cases R.kind <;> rfl
theorem eY {R:Root} {loc:Nat×Nat} {fo:List Nat} {b:Nat}:b∈iE R loc fo↔(∃o,Aa R loc=some (b,o))∨b∈fo:=by
 rw [Sg]
 cases h:Aa R loc with
 | none=>simp
 | some q=>obtain ⟨b0,o0⟩:=q; simp; constructor <;> (intro h; rcases h with h | h <;> simp_all)
theorem oM {R:Root} {loc:Nat×Nat} {fo:List Nat}:(iE R loc fo).Nodup↔(∀b o,Aa R loc=some (b,o)→b∉fo)∧fo.Nodup:=by
 rw [Sg]
 cases h:Aa R loc with
 | none=>simp
 | some q=>obtain ⟨b0,o0⟩:=q; simp [List.nodup_cons]
theorem Yg {R R':Root} (h:R'.kind=R.kind):R'.aZ=R.aZ:=by unfold Root.aZ; rw [h]
theorem Wh {k k':K} {v:Value} {cs:List Value} (h:xG k'=xG k):VC k' v cs↔VC k v cs:=by
 cases k <;> cases k' <;> first | exact Iff.rfl | simp [xG] at h
theorem PO {p:List Stp} {k:K} {x:El k} {t z:Dat} (hp:p≠[]) (hz:eF p k x t=some z):xG z.1=xG k:=by
 cases p with
 | nil=>exact absurd rfl hp
 | cons s p=>
  cases s with
  | gL n=>
   cases k with
   | st c=>
    simp only [eF] at hz
    cases hcg:aQ n c x with
    | none=>rw [hcg] at hz; simp at hz
    | some s=>
     rw [hcg] at hz
     simp only at hz
     cases hs':eF p s.1 s.2 t with
     | none=>rw [hs'] at hz; simp at hz
     | some u=>
      rw [hs'] at hz
      simp only at hz
      cases hcp:cB n c x u with
      | none=>rw [hcp] at hz; simp at hz
      | some y=>rw [hcp] at hz; simp only [Option.some.injEq] at hz; subst hz; rfl
   | _=>simp [eF] at hz
  | idx i=>
   cases k with
   | sl e k=>
    simp only [eF] at hz
    cases hs':eF p k ((show List (El k) from x).getD i.toNat k.zero) t with
    | none=>rw [hs'] at hz; simp at hz
    | some u=>
     rw [hs'] at hz
     simp only at hz
     cases hck:bQ u.1 k u.2 with
     | none=>rw [hck] at hz; simp at hz
     | some y=>rw [hck] at hz; simp only [Option.some.injEq] at hz; subst hz; rfl
   | _=>simp [eF] at hz
theorem XX (k:K):k.tys≠[]∨wH k++k.tys≠[]:=by
 unfold wH
 cases k.tys with
 | nil=>exact .inr (by simp)
 | cons a l=>exact .inl (by simp)
def sK (R:Root) (d:Dat) (z:Dat):Root:={ R with k:=z.1,x:=z.2,w:=d.1.tys++R.w,h:=wH d.1++d.1.tys++R.h }
def eP (R:Root) (d:Dat) (z:Dat) (own':List TypeId):Root:={ sK R d z with own:=own' }
theorem qM:∀(q:List Stp) {k:K},∀t∈ah q k,t∈k.tys:=by
 intro q
 induction q with
 | nil=>intro k t ht; simp [ah] at ht
 | cons s q ih=>
  intro k t ht
  cases s with
  | gL n=>
   cases k with
   | st c=>
    simp only [ah] at ht
    cases hc:ah.KN n c with
    | none=>rw [hc] at ht; simp at ht
    | some k'=>
     rw [hc] at ht
     have h1:=ih t ht
     have:∀(n:Nat) {c k':K},ah.KN n c=some k'→∀t∈k'.tys,t∈c.tys:=by
      intro n
      induction n with
      | zero=>
       intro c k' h t ht
       cases c with
       | pair a b=>simp only [ah.KN,Option.some.injEq] at h; subst h; simp [K.tys,ht]
       | _=>simp [ah.KN] at h
      | succ n ih=>
       intro c k' h t ht
       cases c with
       | pair a b=>simp only [ah.KN] at h; simp [K.tys,ih h t ht]
       | _=>simp [ah.KN] at h
     exact this n hc t h1
   | _=>simp [ah] at ht
  | idx i=>
   cases k with
   | sl e k=>
    simp only [ah,List.mem_cons] at ht
    rcases ht with h | h
    ·simp [K.tys,h]
    ·simp [K.tys,ih t h]
   | _=>simp [ah] at ht
theorem ajK {own':List TypeId} (H:Rel cx σ α F a w) (hr:aR σ r R) (hv:bq σ R) {p:List Stp} {d z:Dat} (hg:aT p R.k R.x=some d) (hz:eF p R.k R.x (xD d)=some z) (fT:oZ p R.k R.x)
  (hown:∀t∈ah p R.k,ay t R.own=true) (hpv:p≠[]∨∃t,R.kind=.var t) (hso:∀t∈z.1.tys,ay t own'=ay t R.own) :
  ∃cs1 o7 gp rest,bF (hp w) p R.k (α.hdr r) (eD α R r)=some (cs1,o7)∧
   Rel cx (az σ r (eP R d z own')) (aJ α r (α.loc r) (α.hdr r) rest) (gp++F) a w∧
   oK cx σ α F w (az σ r (eP R d z own')) (aJ α r (α.loc r) (α.hdr r) rest) (gp++F) w (wK r d.1.tys) (wK r (wH d.1++d.1.tys))∧
   Held cx (az σ r (eP R d z own')) (aJ α r (α.loc r) (α.hdr r) rest) (gp++F) w d.1 d.2 R.own R.tags cs1 gp∧(∀tys,bg (az σ r (eP R d z own')) tys R.tags=bg σ tys R.tags)∧(α.fo r).Perm (gp++rest):=by
 have K:=H.roots r R hr
 have hnd:=K.nd
 rw [bT,oM] at hnd
 have hO:=K.ow hv
 obtain ⟨cs1,gp,rest,o7,hn,hp1,hd1,hc1,hin,hnone,hup⟩:=focus p hO (fun b o e=>(K.mem b o e).1) hg fT hown hnd.2 (fun b o e=>hnd.1 b o e)
 have hnt:=(H.dF r R hr.1).2.2
 have hl1:=dA hd1
 obtain ⟨cs',hl',M8,hC',hN',hK'⟩:=hup.go (hp w) (iU cx σ α F w R.tags) (xD d) cs1 [] z hz hl1 (acG hd1) (fun b hb=>⟨hb,rfl⟩) (fun _ _ _=>rfl)
  (fun b o e=>⟨hc1 b o e,by
   have:∃arr te fr,hp w b=some (.cells arr te fr):=by
    rcases hin b o e with ⟨_,o0,ew,_⟩ | ⟨_,arr,te,lo,hi,h1,_⟩
    ·obtain ⟨_,arr,te,lo,hi,h1,_⟩:=K.mem b o0 ew; exact ⟨arr,te,_,h1⟩
    ·exact ⟨arr,te,_,h1⟩
   obtain ⟨arr,te,fr,h1⟩:=this
   exact gT.of_same _ _ h1 rfl⟩) (fun _=>rfl) (fun _ _ _ _=>rfl)
 have hcs:cs'=α.hdr r:=by
  cases hw:eD α R r with
  | none=>exact hN' hw
  | some q=>exact cells_eq (K.mem q.1 q.2 hw).1 (hC' q.1 q.2 hw) hl'
 rw [hcs,List.nil_append] at M8
 replace M8:=xh hso M8
 obtain ⟨_,_,hNK,_⟩:=hK' d.1.tys (yK d.1) (fun q c0 w0 hq _ hn0 hs=>by
  obtain ⟨_,_,_,h3,h4⟩:=Ng (h:=hp w) q (x:=d.2) hs
  exact ⟨h3,c0,by rw [←hn0]; exact h4 cs1 o7⟩)
 rw [hcs] at hNK
 have hkind:(eP R d z own').kind=R.kind:=rfl
 have aj3:(eP R d z own').aZ=false:=hr.2
 have Ph:∀b,b∈α.fo r↔b∈gp∨b∈rest:=fun b=>by rw [hp1.mem_iff,List.mem_append]
 have Ij:=hp1.nodup hnd.2
 have hsz:z.1.size=R.k.size:=JW p (t:=xD d) hg (yK d.1) hz
 have T1:Es cx σ α F w r R (eP R d z own') rest (gp++F) w d.1.tys (wH d.1++d.1.tys):=by
  refine ⟨.inr ⟨rfl,rfl,Nat.le_refl _,rfl,fun _=>hsz,XX d.1⟩,⟨(H.dF r R hr.1).1,hnt⟩,⟨rfl,rfl,rfl⟩,Nat.le_refl _,fun b _ h=>absurd rfl h, ?_, ?_, ?_, ?_,fun _ _ _ _ _ _ _ _ h=>absurd rfl h,fun _=>⟨rfl,rfl⟩⟩
  ·intro _ b hb
   rw [qE hkind,eY] at hb
   refine .inl ?_
   rw [bT,eY,Ph]
   exact hb.imp id .inr
  ·intro b hb
   rcases List.mem_append.1 hb with h | h
   ·refine .inr (.inr ⟨by rw [bT,eY,Ph]; exact .inr (.inl h), .inr (.inl ?_)⟩)
    obtain ⟨e,h1,_,h2⟩:=xy hd1 b h
    exact ⟨e,h1,h2⟩
   ·exact .inl h
  ·refine List.nodup_append.2 ⟨(List.nodup_append.1 Ij).1,H.Fw,fun b h1 c h2 e=>H.jH r R hr b ?_ (e▸h2)⟩
   rw [bT,eY,Ph]
   exact .inr (.inl h1)
  ·intro _ b hb hF
   rw [qE hkind,eY] at hb
   rcases List.mem_append.1 hF with h | h
   ·rcases hb with ⟨o,hb⟩ | hb
    ·exact hnd.1 b o hb ((Ph b).2 (.inl h))
    ·exact (List.nodup_append.1 Ij).2.2 b h b hb rfl
   ·refine H.jH r R hr b ?_ h
    rw [bT,eY,Ph]
    exact hb.imp id .inr
 have hT:=T1.turn (hdr':=α.hdr r) H hr
 have Nb:∀tys,bg (az σ r (eP R d z own')) tys R.tags=bg σ tys R.tags:=fun tys=>nY hnt
 refine ⟨cs1,o7,gp,rest,hn,T1.rel H hr ?_ ?_ ?_,hT, ?_,Nb,hp1⟩
 ·intro _
  refine ⟨fun hv'=>?_,by rw [K.len]; exact hsz.symm, ?_, ?_⟩
  ·obtain ⟨h1,h2,_⟩:=hT.views H R.tags _ (H.dF r R hr.1).1 hv'.2
   exact bC (fun b hb=>(h2 b hb.1 (.inl hb.2)).2) (fun b hb=>(h2 b hb.1 (.inl hb.2)).1) (fun _ _=>rfl) (wB _ (fun _ h=>h) M8)
  ·intro b o hb
   have:(eP R d z own').k.size=R.k.size:=hsz
   rw [this]
   exact K.mem b o hb
  ·rw [qE hkind,oM]
   exact ⟨fun b o e hb=>hnd.1 b o e ((Ph b).2 (.inr hb)),(List.nodup_append.1 Ij).2.1⟩
 ·intro _ q n v hn' hold
  refine ⟨hold.1, ?_⟩
  intro Q hQ hvQ hcl hty hsome
  have hQ':Q=eP R d z own':=by
   rw [aK] at hQ
   simpa using hQ.symm
  subst hQ'
  have aaO:eD (aJ α r (α.loc r) (α.hdr r) rest) (eP R d z own') r=eD α R r:=by rw [jX,yO hkind, ←xO]
  have Vj:(aJ α r (α.loc r) (α.hdr r) rest).hdr r=α.hdr r:=by simp [aJ,upd_same]
  have hh:(eP R d z own').h=(wH d.1++d.1.tys)++R.h:=rfl
  rw [hh,ru hn'] at hcl
  by_cases hq:q=[]
  case neg=>
   have hpt:∀k,eB q k=tK :: ah q k:=by
    intro k
    cases q with
    | nil=>exact absurd rfl hq
    | cons s q=>rfl
   rw [hpt] at hcl
   obtain ⟨k1,k2⟩:=PT (bad:=d.1.tys) p q hg hz (fun q' h _=>let ⟨h1,h2,h3,_⟩:=Ng (h:=hp w) q' (x:=d.2) h; ⟨h1.trans h2.symm,h3⟩) hsome (fun e he hm=>hcl.1 e (List.mem_append_right _ hm) (List.mem_cons_of_mem _ he))
   have k1':ah q R.k=ah q (eP R d z own').k:=k1
   have hty':∀t∈ah q R.k,ay t R.own=true:=fun t ht=>by
    have ht':t∈ah q z.1:=k1▸ht
    rw [←hso t (qM q t ht')]
    exact hty t ht'
   rw [←k1'] at hcl
   obtain ⟨g1,cs,b,o,g2,g3⟩:=hold.2 R hr.1 hv (by rw [hpt]; exact hcl.2) hty' k2
   obtain ⟨f1,c1,f2⟩:=hNK q cs (some (b,o)) g1 (fun t ht=>⟨hty' t ht,fun hm=>hcl.1 t (List.mem_append_right _ hm) (List.mem_cons_of_mem _ ht)⟩) g2 hsome
   rw [aaO,Vj]
   exact ⟨f1,c1,b,o,f2,g3⟩
  subst hq
  obtain ⟨_,cs,b,o,h1,h2⟩:=hold.2 R hr.1 hv (by simp [clean,eB,ay]) (fun t ht=>by simp [ah] at ht) rfl
  simp only [bF,Option.some.injEq,Prod.mk.injEq] at h1
  refine ⟨trivial,(aJ α r (α.loc r) (α.hdr r) rest).hdr r,b,o, ?_,h2⟩
  simp only [bF]
  rw [jX,yO hkind, ←xO,h1.2]
 ·intro _ g v hg' hold Q hQ hgQ
  obtain ⟨hQ',_⟩:=eU hQ
  subst hQ'
  obtain ⟨h1,h2⟩:=hold R hr hgQ
  refine ⟨h1, ?_⟩
  have:(aJ α r (α.loc r) (α.hdr r) rest).hdr r=α.hdr r:=by simp [aJ,upd_same]
  rw [this]
  rcases hpv with hp | ⟨t,ht⟩
  ·
   cases p with
   | nil=>exact absurd rfl hp
   | cons s p=>
    exact (Wh (PO (by simp) hz)).2 h2
  ·rw [ht] at h1; simp at h1
 ·refine ⟨fun hc=>?_,fun t ht=>hT.tag ((H.dF r R hr.1).1 t ht),fun b hb=>List.mem_append_left _ hb,(List.nodup_append.1 Ij).1,hl1⟩
  obtain ⟨h1,h2,_⟩:=hT.views H R.tags _ (H.dF r R hr.1).1 hc
  exact bC (fun b hb=>(h2 b hb.1 (.inl hb.2)).2) (fun b hb=>(h2 b hb.1 (.inl hb.2)).1) (fun _ _=>rfl) (wB _ (fun _ h=>h) hd1)
theorem gap (H:Rel cx σ α F a w) (hr:aR σ r R) (hv:bq σ R) {p:List Stp} {d z:Dat} (hg:aT p R.k R.x=some d) (hz:eF p R.k R.x (xD d)=some z) (fT:oZ p R.k R.x)
  (hown:∀t∈ah p R.k,ay t R.own=true) (hpv:p≠[]∨∃t,R.kind=.var t) :
  ∃cs1 o7 gp rest,bF (hp w) p R.k (α.hdr r) (eD α R r)=some (cs1,o7)∧
   Rel cx (az σ r (sK R d z)) (aJ α r (α.loc r) (α.hdr r) rest) (gp++F) a w∧
   oK cx σ α F w (az σ r (sK R d z)) (aJ α r (α.loc r) (α.hdr r) rest) (gp++F) w (wK r d.1.tys) (wK r (wH d.1++d.1.tys))∧
   Held cx (az σ r (sK R d z)) (aJ α r (α.loc r) (α.hdr r) rest) (gp++F) w d.1 d.2 R.own R.tags cs1 gp∧(∀tys,bg (az σ r (sK R d z)) tys R.tags=bg σ tys R.tags)∧(α.fo r).Perm (gp++rest):=
 ajK (own':=R.own) H hr hv hg hz fT hown hpv (fun _ _=>rfl)
end
end Go.Proofs.YtdknpknohipffaaGreat.Ow

/- The framework, part 11: a store. Own work of this seat. -/
namespace Go.Proofs.YtdknpknohipffaaGreat.Ow
open Go
variable [Fr]
theorem VQ {own own':List TypeId}:∀{k:K},(∀t∈k.tys,ay t own'=true→ay t own=true)→∀t∈aU own k,t∈aU own' k:=by
 intro k
 induction k with
 | sl e k ih=>
  intro h t ht
  cases hm':ay e own' with
  | true=>
   have hm:=h e (by simp [K.tys]) hm'
   simp only [aU,hm,cond_true] at ht
   simp only [aU,hm',cond_true]
   exact ih (fun t ht=>h t (by simp [K.tys,ht])) t ht
  | false=>
   have:=J3 ht
   simpa [aU,hm',K.tys] using this
 | pair a b iha ihb=>
  intro h t ht
  simp only [aU,List.mem_append] at ht ⊢
  exact ht.imp (iha (fun t ht=>h t (by simp [K.tys,ht])) t) (ihb (fun t ht=>h t (by simp [K.tys,ht])) t)
 | st f ih=>intro h t ht; exact ih h t ht
 | _=>intro _ t ht; simp [aU] at ht
theorem UT {own:List TypeId}:∀(n:Nat) {c:K} {x:El c} {s u y:Dat},aQ n c x=some s→cB n c x u=some y→
  (∀e∈aU own u.1,e∈aU own y.1)∧((∀e∈aU own s.1,e∈aU own u.1)→∀e∈aU own c,e∈aU own y.1):=by
 intro n
 induction n with
 | zero=>
  intro c x s u y hg hp
  cases c with
  | pair a b=>
   simp only [aQ,cB,Option.some.injEq] at hg hp
   subst hg; subst hp
   refine ⟨fun e he=>by simp [aU,he],fun h e he=>?_⟩
   simp only [aU,List.mem_append] at he ⊢
   exact he.imp (h e) id
  | _=>simp [aQ] at hg
 | succ n ih=>
  intro c x s u y hg hp
  cases c with
  | pair a b=>
   simp only [aQ,cB] at hg hp
   cases h3:cB n b x.2 u with
   | none=>rw [h3] at hp; simp at hp
   | some y2=>
    rw [h3] at hp
    simp only [Option.some.injEq] at hp
    subst hp
    obtain ⟨g1,g2⟩:=ih hg h3
    refine ⟨fun e he=>by simp [aU,g1 e he],fun h e he=>?_⟩
    simp only [aU,List.mem_append] at he ⊢
    exact he.imp id (g2 h e)
  | _=>simp [aQ] at hg
theorem PZ {own:List TypeId}:∀(p:List Stp) {k:K} {x:El k} {d t z:Dat},aT p k x=some d→eF p k x t=some z→
  (∀e∈aU own t.1,e∈aU own z.1∨∃q∈ah p k,ay q own=false)∧((∀e∈aU own d.1,e∈aU own t.1)→∀e∈aU own k,e∈aU own z.1):=by
 intro p
 induction p with
 | nil=>
  intro k x d t z hg hz
  simp only [aT,eF,Option.some.injEq] at hg hz
  subst hg; subst hz
  exact ⟨fun e he=>.inl he,fun h=>h⟩
 | cons s p ih=>
  intro k x d t z hg hz
  cases s with
  | gL n=>
   cases k with
   | st c=>
    simp only [aT,eF] at hg hz
    cases hcg:aQ n c x with
    | none=>rw [hcg] at hg; simp at hg
    | some s=>
     rw [hcg] at hg hz
     simp only at hg hz
     cases hs':eF p s.1 s.2 t with
     | none=>rw [hs'] at hz; simp at hz
     | some u=>
      rw [hs'] at hz
      simp only at hz
      cases hcp:cB n c x u with
      | none=>rw [hcp] at hz; simp at hz
      | some y=>
       rw [hcp] at hz
       simp only [Option.some.injEq] at hz
       subst hz
       obtain ⟨g1,g2⟩:=ih hg hs'
       obtain ⟨f1,f2⟩:=UT (own:=own) n hcg hcp
       have hpt:ah (.gL n :: p) (.st c)=ah p s.1:=by simp [ah,bU n hcg]
       rw [hpt]
       exact ⟨fun e he=>(g1 e he).imp (f1 e) id,fun h=>f2 (g2 h)⟩
   | _=>simp [aT] at hg
  | idx i=>
   cases k with
   | sl e k=>
    simp only [aT,eF] at hg hz
    cases hs':eF p k ((show List (El k) from x).getD i.toNat k.zero) t with
    | none=>rw [hs'] at hz; simp at hz
    | some u=>
     rw [hs'] at hz
     simp only at hz
     cases hck:bQ u.1 k u.2 with
     | none=>rw [hck] at hz; simp at hz
     | some y=>
      rw [hck] at hz
      simp only [Option.some.injEq] at hz
      subst hz
      obtain ⟨g1,g2⟩:=ih hg hs'
      have huk:u.1=k:=by
       unfold bQ at hck
       split at hck
       ·rename_i hb; exact K.eq_of_beq hb
       ·simp at hck
      refine ⟨fun e' he=>?_,fun _ e' he=>he⟩
      cases hm:ay e own with
      | false=>exact .inr ⟨e,by simp [ah],hm⟩
      | true=>
       rcases g1 e' he with h | ⟨q,h1,h2⟩
       ·exact .inl (by simp only [aU,hm,cond_true]; rw [←huk]; exact h)
       ·exact .inr ⟨q,by simp [ah,h1],h2⟩
   | _=>simp [aT] at hg
theorem Sl:∀(n:Nat) {c:K} {x y:El c} {s:Dat},aQ n c x=some s→∃t:Dat,aQ n c y=some t∧t.1=s.1:=by
 intro n
 induction n with
 | zero=>
  intro c x y s h
  cases c <;> first | (simp only [aQ,Option.some.injEq] at h; subst h; exact ⟨_,rfl,rfl⟩) | simp [aQ] at h
 | succ n ih=>
  intro c x y s h
  cases c <;> first | exact ih h | simp [aQ] at h
theorem XD:∀(n:Nat) {c:K} {x:El c} {s:Dat},aQ n c x=some s→∀t∈s.1.tys,t∈c.tys:=by
 intro n
 induction n with
 | zero=>
  intro c x s h t ht
  cases c with
  | pair a b=>simp only [aQ,Option.some.injEq] at h; subst h; simp [K.tys,ht]
  | _=>simp [aQ] at h
 | succ n ih=>
  intro c x s h t ht
  cases c with
  | pair a b=>simp only [aQ] at h; simp [K.tys,ih h t ht]
  | _=>simp [aQ] at h
theorem yE {h h':Heap} {own:List TypeId}:∀(q:List Stp) {k:K} {x y:El k} {cs cs':List Value} {wh:Option (Nat×Nat)} {c0:List Value} {w0:Option (Nat×Nat)},
  oZ q k x→(∀t∈ah q k,ay t own=true∧t∉k.tys)→bF h q k cs wh=some (c0,w0)→oZ q k y∧∃c1,bF h' q k cs' wh=some (c1,w0):=by
 intro q
 induction q with
 | nil=>
  intro k x y cs cs' wh c0 w0 _ _ hn
  simp only [bF,Option.some.injEq,Prod.mk.injEq] at hn ⊢
  exact ⟨trivial,_,rfl,hn.2⟩
 | cons s q ih=>
  intro k x y cs cs' wh c0 w0 hp ht hn
  cases s with
  | gL n=>
   cases k with
   | st c=>
    simp only [oZ] at hp
    cases hg:aQ n c x with
    | none=>rw [hg] at hp; exact hp.elim
    | some s=>
     rw [hg] at hp
     simp only at hp
     have hpt:ah (.gL n :: q) (.st c)=ah q s.1:=by simp [ah,bU n hg]
     rw [hpt] at ht
     obtain ⟨t,g1,g2⟩:=Sl n (c:=c) (x:=x) (y:=y) hg
     obtain ⟨sk,sx⟩:=s
     obtain ⟨tk,ty⟩:=t
     simp only at g2
     subst g2
     simp only [bF] at hn ⊢
     cases ho:bD n c with
     | none=>rw [ho] at hn; simp at hn
     | some q2=>
      rw [ho] at hn
      simp only at hn
      have hk2:q2.2=tk:=by
       have key:∀(n:Nat) {c:K} {x:El c} {s:Dat} {q:Nat×K},aQ n c x=some s→bD n c=some q→q.2=s.1:=by
        intro n
        induction n with
        | zero=>intro c x s q h1 h2; cases c with
         | pair a b=>simp only [aQ,bD,Option.some.injEq] at h1 h2; subst h1; subst h2; rfl
         | _=>simp [aQ] at h1
        | succ n ih=>intro c x s q h1 h2; cases c with
         | pair a b=>
          simp only [aQ,bD] at h1 h2
          cases h3:bD n b with
          | none=>rw [h3] at h2; simp at h2
          | some q3=>rw [h3] at h2; simp only [Option.some.injEq] at h2; subst h2; exact ih (q:=q3) h1 h3
         | _=>simp [aQ] at h1
       exact key n hg ho
      obtain ⟨o2,k2⟩:=q2
      simp only at hk2
      subst hk2
      simp only [oZ,g1]
      exact ih hp (fun t h=>⟨(ht t h).1,fun h2=>(ht t h).2 (XD n hg t h2)⟩) hn
   | _=>simp [oZ] at hp
  | idx i=>
   cases k with
   | sl e k=>exact absurd (by simp [K.tys]) (ht e (by simp [ah])).2
   | _=>simp [oZ] at hp
theorem IQ {h:Heap} {b o n:Nat} {arr:Array Value} {e:TypeId} {fr:Nat×Nat} (hb:h b=some (.cells arr e fr)) (hl:o+n≤arr.size):Cells h b o (sF h b o n):=by
 intro i hi
 simp only [sF,List.length_map,List.length_range] at hi ⊢
 rw [List.getElem?_map,List.getElem?_range hi]
 simp only [Option.map_some]
 unfold cellAt
 rw [hb]
 simp [show o+i<arr.size by omega]
theorem gT.widen {h0 h h':Heap} {b o n o' n':Nat} (H0:gT h0 h b o n) (H:gT h h' b o' n') (h1:o≤o') (h2:o'+n'≤o+n):gT h0 h' b o n:=by
 obtain ⟨a0,a1,e,fr,g1,g2,g3,g4⟩:=H0
 obtain ⟨b0,b1,e',fr',f1,f2,f3,f4⟩:=H
 rw [g2] at f1
 simp only [Option.some.injEq,Obj.cells.injEq] at f1
 obtain ⟨rfl,rfl,rfl⟩:=f1
 exact ⟨a0,b1,e,fr,g1,f2,f3.trans g3,fun i hi=>(f4 i (by omega)).trans (g4 i hi)⟩
theorem cZ {l m:List Tag} {t:Tag}:t∈iR l m↔t∈l∨t∈m:=by
 induction l with
 | nil=>simp [iR]
 | cons s l ih=>
  obtain ⟨r,n⟩:=s
  simp only [iR]
  cases h:m.any fun t=>Nat.beq t.1 r && Nat.beq t.2 n with
  | true=>
   simp only [cond_true,ih,List.mem_cons]
   constructor
   ·intro h; exact h.imp .inr id
   ·rintro ((h1 | h1) | h1)
    ·subst h1
     obtain ⟨t,h2,h3⟩:=List.any_eq_true.1 h
     simp only [Bool.and_eq_true] at h3
     obtain ⟨tr,tn⟩:=t
     have:=Nat.eq_of_beq_eq_true h3.1
     have:=Nat.eq_of_beq_eq_true h3.2
     simp_all
    ·exact .inl h1
    ·exact .inr h1
  | false=>simp only [cond_false,ih,List.mem_cons,or_assoc]
theorem rC {r:Nat} {l:List Tag} {t:Tag}:t∈Am r l↔t∈l∧t.1≠r:=by
 unfold Am
 rw [List.mem_filter]
 constructor
 ·rintro ⟨h1,h2⟩
  refine ⟨h1,fun e=>?_⟩
  rw [e] at h2
  simp at h2
 ·rintro ⟨h1,h2⟩
  refine ⟨h1, ?_⟩
  cases hb:Nat.beq t.1 r with
  | true=>exact absurd (Nat.eq_of_beq_eq_true hb) h2
  | false=>rfl
section
variable {cx:Cx} {σ:St} {α:dN} {F:List Nat} {a:Act} {w:World} {r:Nat} {R:Root}
theorem zC {T T':List Tag} {b:Nat} (h:iU cx σ α F w T b) (hs:∀t∈T,t∈T'):iU cx σ α F w T' b:=
 ⟨h.1,h.2.1,h.2.2.1,fun r R h1 h2=>by obtain ⟨n,hn⟩:=h.2.2.2.1 r R h1 h2; exact ⟨n,hs _ hn⟩,fun hb=>(h.2.2.2.2 hb).imp (fun ⟨j,n,h1,h2⟩=>⟨j,n,hs _ h1,h2⟩) id⟩
theorem wF {T T':List Tag} {tys akY:List TypeId} (h:bg σ tys T=true) (hs:∀t∈T',t∈T) (ht:∀t∈akY,t∈tys):bg σ akY T'=true:=by
 rw [qF] at h ⊢
 intro t h1
 rcases h t (hs t h1) with h | ⟨R,h2,h3,h4⟩
 ·exact .inl h
 ·refine .inr ⟨R,h2,h3, ?_⟩
  unfold clean at h4 ⊢
  rw [List.all_eq_true] at h4 ⊢
  intro x hx
  have:=h4 x hx
  simp only [Bool.not_eq_true',aV] at this ⊢
  exact fun h=>this (ht x h)
theorem qG (H:Rel cx σ α F a w) (hr:aR σ r R) {b:Nat} (hb:b∈α.fo r):¬nG cx b:=by
 rintro ⟨j,pi,o,n,h1,h2⟩
 obtain ⟨Q,hQ,hk,hl,_⟩:=H.oN j pi b o n h1 h2
 have hbq:b∈blk α Q (au j):=by simp [blk,eD,hk,hl]
 have hbr:b∈blk α R r:=List.mem_append_right _ hb
 by_cases e:r=au j
 ·subst e
  have hQR:Q=R:=by have:=hQ.1; rw [hr.1] at this; simpa using this.symm
  subst hQR
  have hnd:=(H.roots _ _ hr).nd
  rw [bT,oM] at hnd
  exact hnd.1 b o (by simp [Aa,hk,hl]) hb
 ·exact H.Og _ _ _ _ hr hQ e b hbr hbq
theorem wm (H:Rel cx σ α F a w) {b:Nat} (hb:b∈F):¬nG cx b:=by
 rintro ⟨j,pi,o,n,h1,h2⟩
 obtain ⟨Q,hQ,hk,hl,_⟩:=H.oN j pi b o n h1 h2
 have hbq:b∈blk α Q (au j):=by simp [blk,eD,hk,hl]
 exact H.jH _ _ hQ b hbq hb
def bG (R:Root) (z:Dat) (own:List TypeId) (tags:List Tag) (lw lh:List TypeId) (kp:Bool):Root:=
 { R with k:=z.1,x:=z.2,own:=own,tags:=tags,w:=lw++R.w,h:=lh++R.h,keep:=kp }
theorem sD (H:Rel cx σ α F a w) (hr:aR σ r R) (hv:bq σ R) {p:List Stp} {d:Dat} (hg:aT p R.k R.x=some d) (fT:oZ p R.k R.x) (hown:∀t∈ah p R.k,ay t R.own=true)
  {cs1:List Value} {b o:Nat} (hn:bF (hp w) p R.k (α.hdr r) (eD α R r)=some (cs1,some (b,o))) :
  Cells (hp w) b o cs1∧(∃gp,Ow (hp w) R.own (iU cx σ α F w R.tags) d.1 d.2 cs1 gp∧∀b∈gp,b∈α.fo r)∧b∈blk α R r∧(∃arr e lo hi,hp w b=some (.cells arr e (lo,hi))∧(∀i,i<arr.size→¬(lo≤i∧i<hi))∧o+d.1.size≤arr.size∧((eT R p=e∧¬nG cx b)∨(nG cx b∧eT R p=SENT)))∧
   (∀b' o',eD α R r=some (b',o')→b=b'→o'≤o∧o+d.1.size≤o'+R.k.size):=by
 have K:=H.roots r R hr
 have hnd:=K.nd
 rw [bT,oM] at hnd
 obtain ⟨rX,gp,rest,o7,hn',hp1,hd1,hc1,hin,hnone,hup⟩:=focus p (K.ow hv) (fun b o e=>(K.mem b o e).1) hg fT hown hnd.2 (fun b o e=>hnd.1 b o e)
 rw [hn] at hn'
 simp only [Option.some.injEq,Prod.mk.injEq] at hn'
 obtain ⟨rfl,rfl⟩:=hn'
 refine ⟨hc1 b o rfl,⟨gp,hd1,fun b hb=>hp1.mem_iff.2 (List.mem_append_left _ hb)⟩, ?_, ?_, ?_⟩
 ·rw [bT,eY]
  rcases hin b o rfl with ⟨_,o0,ew,_⟩ | ⟨h1,_⟩
  ·exact .inl ⟨o0,ew⟩
  ·exact .inr (hp1.mem_iff.2 (List.mem_append_right _ h1))
 ·rcases hin b o rfl with ⟨h0,o0,ew,h1,h2⟩ | ⟨h1,arr,e,lo,hi,h2,h3,h4,h5⟩
  ·obtain ⟨_,arr,e,lo,hi,g1,g2,g3,g4⟩:=K.mem b o0 ew
   refine ⟨arr,e,lo,hi,g1,g2,by omega, ?_⟩
   unfold eT
   rw [h0]
   simp only [List.getLastD_nil]
   unfold Root.bt
   cases hk:R.kind with
   | var t=>
    refine .inl ⟨(g4 t hk).symm, ?_⟩
    rintro ⟨j,pi,o',n',h1',h2'⟩
    obtain ⟨Q,hQ,hkQ,hlQ,_⟩:=H.oN j pi b o' n' h1' h2'
    have hbq:b∈blk α Q (au j):=by simp [blk,eD,hkQ,hlQ]
    have hbr:b∈blk α R r:=by rw [bT,eY]; exact .inl ⟨o0,ew⟩
    by_cases e:r=au j
    ·subst e
     have hQR:Q=R:=by have:=hQ.1; rw [hr.1] at this; simpa using this.symm
     subst hQR
     rw [hk] at hkQ
     simp at hkQ
    ·exact H.Og _ _ _ _ hr hQ e b hbr hbq
   | par=>
    obtain ⟨j,pi,n,hj1,hj2,hj3⟩:=H.KW r R hr hk
    have:(α.loc r).1=b:=by
     have:=ew
     unfold eD at this
     rw [hk] at this
     simp only [Option.some.injEq] at this
     rw [this]
    exact .inr ⟨⟨j,pi,_,n,hj2,by rw [hj3,this]⟩,rfl⟩
   | anon=>unfold eD at ew; rw [hk] at ew; simp at ew
   | dead=>unfold eD at ew; rw [hk] at ew; simp at ew
  ·refine ⟨arr,e,lo,hi,h2,h3,h5, .inl ⟨?_,qG H hr (hp1.mem_iff.2 (List.mem_append_right _ h1))⟩⟩
   unfold eT
   rw [List.getLastD_eq_getLast?,h4]
   rfl
 ·intro b' o' ew e
  subst e
  rcases hin b o rfl with ⟨_,o0,ew',h1,h2⟩ | ⟨h1,_⟩
  ·rw [ew] at ew'
   simp only [Option.some.injEq,Prod.mk.injEq,true_and] at ew'
   subst ew'
   exact ⟨h1,h2⟩
  ·exact absurd (hp1.mem_iff.2 (List.mem_append_right _ h1)) (hnd.1 b o' ew)
end
end Go.Proofs.YtdknpknohipffaaGreat.Ow

/- The framework, part 12: the turn of a place. Own work of this seat. -/
namespace Go.Proofs.YtdknpknohipffaaGreat.Ow
open Go
variable [Fr]
section
variable {cx:Cx} {σ:St} {α:dN} {F:List Nat} {a:Act} {w:World} {r:Nat} {R:Root}
structure wC (cx:Cx) (σ:St) (α:dN) (F:List Nat) (w:World) (r:Nat) (R:Root) (p:List Stp) (d:Dat) (own':List TypeId) (cs1:List Value) (o7:Option (Nat×Nat)) (gp rest:List Nat)
  (t z:Dat) (tags':List Tag) (lw lh:List TypeId) (kp:Bool) (ft F':List Nat) (cs':List Value) (w':World):Prop where
 hz:eF p R.k R.x t=some z
 ht:t.1.size=d.1.size
 Yc:∀e∈aU own' d.1,e∈aU own' t.1
 os:w'.os=w.os∧w'.tape=w.tape∧w'.output=w.output
 size:w.heap.size≤w'.heap.size
 Ug:∀b,b<w.heap.size→hp w' b≠hp w b→b∈F∨(b∈gp∧∃e∈lw,uo (hp w) b=some e)∨(∃o,o7=some (b,o)∧eT R p∈lw)
 cells:∀b o,o7=some (b,o)→Cells (hp w') b o cs'∧gT (hp w) (hp w') b o d.1.size
 none:o7=none→cs'=cs1
 len:cs'.length=d.1.size
 log:lw≠[]∨lh≠[]
 tags:(∀t∈R.tags,t∈tags')∧fC σ tags'∧∀n,(r,n)∉tags'
 WK:∀b∈ft,b∈gp∨b∈F∨(w.heap.size≤b∧b<w'.heap.size)
 anS:ft.Nodup
 newF:∀b∈F',b∈F∨(w.heap.size≤b∧b<w'.heap.size)∨(b∈gp∧∃e∈lw,uo (hp w) b=some e)
 amI:F'.Nodup
 anR:∀b∈ft,b∉F'
 aoZ:xG t.1=xG d.1∨o7≠Option.none
 anU:t.1=d.1∨(∀q',(aT q' t.1 t.2).isSome=true→(∀e∈ah q' t.1,e∉lh)→ah q' d.1=ah q' t.1∧(aT q' d.1 d.2).isSome=true)∨tK∈lh
 nav:tK∉lh→K6 (hp w) (hp w') own' d.1 d.2 cs1 o7 t cs' lh
 cont:∀α',oK cx σ α F w (az σ r (bG R z own' tags' lw lh kp)) α' F' w' (wK r lw) (wK r lh)→(∀b∈blk α' (bG R z own' tags' lw lh kp) r,(∃o,eD α R r=some (b,o))∨b∈ft∨b∈rest)→
  bq (az σ r (bG R z own' tags' lw lh kp)) (bG R z own' tags' lw lh kp)→Ow (hp w') own' (iU cx (az σ r (bG R z own' tags' lw lh kp)) α' F' w' tags') t.1 t.2 cs' ft
theorem Rel.place (H:Rel cx σ α F a w) (hr:aR σ r R) (hv:bq σ R) {p:List Stp} {d:Dat} {own':List TypeId} (hg:aT p R.k R.x=some d) (fT:oZ p R.k R.x)
  (hsub:∀t,ay t own'=true→ay t R.own=true) (hown:∀t∈ah p R.k,ay t own'=true) :
  ∃fd ok' gp rest cs1 o7,bF (hp w) p R.k (α.hdr r) (eD α R r)=some (cs1,o7)∧(α.fo r).Perm (gp++rest++fd)∧Ow (hp w) own' ok' d.1 d.2 cs1 gp∧(∀b∈gp++rest,∃e∈R.k.tys,ay e own'=true∧uo (hp w) b=some e)∧
   ((∀t∈R.k.tys,ay t own'=ay t R.own)→fd=[]∧Ow (hp w) own' (iU cx σ α F w R.tags) d.1 d.2 cs1 gp)∧
   (∀b o,o7=some (b,o)→b∈rest∨∃o0,eD α R r=some (b,o0)∧o0≤o∧o+d.1.size≤o0+R.k.size)∧(∀b o,o7=some (b,o)→b∉gp)∧
   ∀{t z:Dat} {tags':List Tag} {lw lh:List TypeId} {kp:Bool} {ft F':List Nat} {cs':List Value} {w':World},wC cx σ α F w r R p d own' cs1 o7 gp rest t z tags' lw lh kp ft F' cs' w'→
    ∃α',Rel cx (az σ r (bG R z own' tags' lw lh kp)) α' F' a w'∧oK cx σ α F w (az σ r (bG R z own' tags' lw lh kp)) α' F' w' (wK r lw) (wK r lh)∧(∀b∈blk α' (bG R z own' tags' lw lh kp) r,(∃o,eD α R r=some (b,o))∨b∈ft∨b∈rest)∧
     (tK∉lh→bq (az σ r (bG R z own' tags' lw lh kp)) (bG R z own' tags' lw lh kp)→bF (hp w') p z.1 (α'.hdr r) (eD α' (bG R z own' tags' lw lh kp) r)=some (cs',o7))∧∀b∈ft,b∈α'.fo r:=by
 have K:=H.roots r R hr
 have hnd:=K.nd
 rw [bT,oM] at hnd
 have hO:=K.ow hv
 obtain ⟨Pf,fd,hpK,hOK,hfd0⟩:∃Pf fd,(α.fo r).Perm (Pf++fd)∧Ow (hp w) own' (fun b=>(iU cx σ α F w R.tags b∨b∈fd)∧∃t∈aU own' R.k,zi (hp w) b t) R.k R.x (α.hdr r) Pf∧((∀t∈R.k.tys,ay t own'=ay t R.own)→fd=[]):=by
  by_cases hall:∀t∈R.k.tys,ay t own'=ay t R.own
  ·exact ⟨α.fo r,[],by simp,wB _ (fun _ h=>h) (bC (fun _ _=>rfl) (fun _ h=>.inl h) (fun _ _=>rfl) (xh hall hO)),fun _=>rfl⟩
  ·obtain ⟨Pf,fd,h1,h2⟩:=yA (own':=own') (fun t _ h=>hsub t h) hO
   exact ⟨Pf,fd,h1,wB _ (fun _ h=>h) h2,fun h=>absurd h hall⟩
 have agm:=hpK.nodup hnd.2
 have aok:∀b,b∈α.fo r↔b∈Pf∨b∈fd:=fun b=>by rw [hpK.mem_iff,List.mem_append]
 obtain ⟨cs1,gp,rest,o7,hn,hp1,hd1,hc1,hin,hnone,hup⟩:=focus p hOK (fun b o e=>(K.mem b o e).1) hg fT hown (List.nodup_append.1 agm).1 (fun b o e hb=>hnd.1 b o e ((aok b).2 (.inl hb)))
 have hpf:(α.fo r).Perm (gp++rest++fd):=hpK.trans (List.Perm.append_right _ hp1)
 have hfo:∀b,b∈α.fo r↔(b∈gp∨b∈rest)∨b∈fd:=fun b=>by rw [hpf.mem_iff,List.mem_append,List.mem_append]
 have X7:=hpf.nodup hnd.2
 have SX:=(List.nodup_append.1 X7).1
 have aoT:=xy hOK
 have Di:∀b o,o7=some (b,o)→b∈rest∨∃o0,eD α R r=some (b,o0)∧o0≤o∧o+d.1.size≤o0+R.k.size:=by
  intro b o e
  rcases hin b o e with ⟨_,o0,ew,h1,h2⟩ | ⟨h1,_⟩
  ·exact .inr ⟨o0,ew,h1,h2⟩
  ·exact .inl h1
 have agA:∀b o,o7=some (b,o)→b∉gp:=by
  intro b o e hb
  rcases Di b o e with h | ⟨o0,ew,_⟩
  ·exact (List.nodup_append.1 SX).2.2 b hb b h rfl
  ·exact hnd.1 b o0 ew ((hfo b).2 (.inl (.inl hb)))
 have akB:∀b o,o7=some (b,o)→b∉fd:=by
  intro b o e hb
  rcases Di b o e with h | ⟨o0,ew,_⟩
  ·exact (List.nodup_append.1 X7).2.2 b (List.mem_append_right _ h) b hb rfl
  ·exact hnd.1 b o0 ew ((hfo b).2 (.inr hb))
 refine ⟨fd,_,gp,rest,cs1,o7,hn,hpf,hd1,fun b hb=>aoT b (hp1.mem_iff.2 hb), ?_,Di,agA, ?_⟩
 ·intro hall
  have h0:=hfd0 hall
  refine ⟨h0,bC (fun _ _=>rfl) (fun b hb=>?_) (fun _ _=>rfl) hd1⟩
  rcases hb.1 with hb | hb
  ·exact hb
  ·rw [h0] at hb; simp at hb
 intro t z tags' lw lh kp ft F' cs' w' P
 generalize hR':bG R z own' tags' lw lh kp=R' at *
 have Ez:R'.k=z.1:=by rw [←hR']; rfl
 have hkind:R'.kind=R.kind:=by rw [←hR']; rfl
 have aj3:R'.aZ=false:=by rw [Yg hkind]; exact hr.2
 have ajR:R'.own=own':=by rw [←hR']; rfl
 have aaj:R'.tags=tags':=by rw [←hR']; rfl
 have hRg:R'.g=R.g:=by rw [←hR']; rfl
 have hRw:R'.w=lw++R.w:=by rw [←hR']; rfl
 have hRh:R'.h=lh++R.h:=by rw [←hR']; rfl
 have hsz:z.1.size=R.k.size:=JW p hg P.ht P.hz
 have jT:∀b,b∈gp∨b∈rest∨b∈fd∨(∃o,eD α R r=some (b,o))→b∈blk α R r:=by
  intro b hb
  rw [bT,eY,hfo]
  rcases hb with h | h | h | h
  ·exact .inr (.inl (.inl h))
  ·exact .inr (.inl (.inr h))
  ·exact .inr (.inr h)
  ·exact .inl h
 have KQ:∀b∈blk α R r,b∉F:=fun b hb=>H.jH r R hr b hb
 have hblt:∀b∈blk α R r,b<w.heap.size:=fun b hb=>(K.mine b hb).1
 have af6:∀b∈blk α R r,b∉gp→b∉F':=fun b hb hno h=>by
  rcases P.newF b h with h | h | h
  ·exact KQ b hb h
  ·have:=hblt b hb; omega
  ·exact hno h.1
 have aaL:∀b∈blk α R r,b∉gp→(∀o,o7≠some (b,o))→hp w' b=hp w b:=by
  intro b hb h1 h2
  refine Classical.byContradiction fun hne=>?_
  rcases P.Ug b (hblt b hb) hne with h | ⟨h,_⟩ | ⟨o,h,_⟩
  ·exact KQ b hb h
  ·exact h1 h
  ·exact h2 o h
 have ac8:∀b∈fd,hp w' b=hp w b:=fun b hb=>aaL b (jT b (.inr (.inr (.inl hb))))
  (fun h=>(List.nodup_append.1 X7).2.2 b (List.mem_append_left _ h) b hb rfl) (fun o e=>akB b o e hb)
 have Ya:∀b∈rest,o7.map (·.1)≠some b→hp w' b=hp w b:=fun b hb hne=>aaL b (jT b (.inr (.inl hb)))
  (fun h=>(List.nodup_append.1 SX).2.2 b h b hb rfl) (fun o e=>hne (by rw [e]; rfl))
 have WA:∀b o,eD α R r=some (b,o)→o7.map (·.1)≠some b→hp w' b=hp w b:=fun b o e hne=>aaL b (jT b (.inr (.inr (.inr ⟨o,e⟩))))
  (fun h=>hnd.1 b o e ((hfo b).2 (.inl (.inl h)))) (fun o e=>hne (by rw [e]; rfl))
 let hdr':=match eD α R r with
  | some (b0,o0)=>sF (hp w') b0 o0 R.k.size
  | none=>α.hdr r
 have hT1:Es cx σ α F w r R R' (ft++rest) F' w' lw lh:=by
  refine ⟨.inr ⟨hRw,hRh,by rw [hRg]; exact Nat.le_refl _,hkind,fun _=>by rw [Ez]; exact hsz,P.log⟩,by rw [aaj]; exact P.tags.2,P.os,P.size, ?_, ?_, ?_,P.amI, ?_, ?_,fun _=>by rw [←hR']; exact ⟨rfl,rfl⟩⟩
  ·intro b hb hne
   rcases P.Ug b hb hne with h | ⟨h,h2⟩ | ⟨o,h,h2⟩
   ·exact .inl h
   ·exact .inr ⟨jT b (.inl h), .inr (.inl h2)⟩
   ·have hbb:b∈blk α R r:=jT b (by
     rcases Di b o h with h | ⟨o0,ew,_⟩
     ·exact .inr (.inl h)
     ·exact .inr (.inr (.inr ⟨o0,ew⟩)))
    refine .inr ⟨hbb, .inr ?_⟩
    rcases hin b o h with ⟨h0,o0,ew,_⟩ | ⟨_,arr,e,lo,hi,g1,_,g3,_⟩
    ·
     obtain ⟨_,arr,e,lo,hi,g1,g2,g3,g4⟩:=K.mem b o0 ew
     unfold eT at h2
     rw [h0] at h2
     simp only [List.getLastD_nil] at h2
     cases hk:R.kind with
     | var tv=>
      refine .inl ⟨tv, ?_, ?_⟩
      ·unfold Root.bt at h2; rw [hk] at h2; exact h2
      ·unfold uo; rw [g1]; simp [g4 tv hk]
     | par=>
      obtain ⟨j,pi,n,hj1,hj2,hj3⟩:=H.KW r R hr hk
      have:(α.loc r).1=b:=by
       have:=ew
       unfold eD at this
       rw [hk] at this
       simp only [Option.some.injEq] at this
       rw [this]
      exact .inr ⟨⟨j,pi,_,n,hj2,by rw [hj3,this]⟩,fun e=>by rw [e] at h2; simp at h2⟩
     | anon=>unfold eD at ew; rw [hk] at ew; simp at ew
     | dead=>unfold eD at ew; rw [hk] at ew; simp at ew
    ·refine .inl ⟨e, ?_,by unfold uo; rw [g1]⟩
     unfold eT at h2
     rw [List.getLastD_eq_getLast?,g3] at h2
     exact h2
  ·intro _ b hb
   rw [qE hkind,eY,List.mem_append] at hb
   rcases hb with ⟨o,h⟩ | h | h
   ·exact .inl (jT b (.inr (.inr (.inr ⟨o,h⟩))))
   ·rcases P.WK b h with h | h | h
    ·exact .inl (jT b (.inl h))
    ·exact .inr (.inl h)
    ·exact .inr (.inr h)
   ·exact .inl (jT b (.inr (.inl h)))
  ·intro b hb
   rcases P.newF b hb with h | h | h
   ·exact .inl h
   ·exact .inr (.inl h)
   ·exact .inr (.inr ⟨jT b (.inl h.1), .inr (.inl h.2)⟩)
  ·intro _ b hb
   rw [qE hkind,eY,List.mem_append] at hb
   rcases hb with ⟨o,h⟩ | h | h
   ·exact af6 b (jT b (.inr (.inr (.inr ⟨o,h⟩)))) (fun h1=>hnd.1 b o h ((hfo b).2 (.inl (.inl h1))))
   ·exact P.anR b h
   ·exact af6 b (jT b (.inr (.inl h))) (fun h1=>(List.nodup_append.1 SX).2.2 b h1 b h rfl)
  ·intro j pi b o n hj hb hrj hne
   obtain ⟨Q,hQ,hk,hl,hs⟩:=H.oN j pi b o n hj hb
   have hQR:Q=R:=by have:=hQ.1; rw [←hrj,hr.1] at this; simpa using this.symm
   subst hQR
   have hwb:eD α Q r=some (b,o):=by unfold eD; rw [hk,hrj,hl]
   have hbb:=jT b (.inr (.inr (.inr ⟨o,hwb⟩)))
   obtain ⟨_,_,_,_,_,f6⟩:=H.frame
   have h0:=f6 j pi b o n hj hb
   rcases P.Ug b (hblt b hbb) hne with h | ⟨h,_⟩ | ⟨o',h,_⟩
   ·exact absurd h (KQ b hbb)
   ·exact absurd ((hfo b).2 (.inl (.inl h))) (hnd.1 b o hwb)
   ·rcases Di b o' h with h1 | ⟨o0,ew,h1,h2⟩
    ·exact absurd ((hfo b).2 (.inl (.inr h1))) (hnd.1 b o hwb)
    ·rw [hwb] at ew
     simp only [Option.some.injEq,Prod.mk.injEq,true_and] at ew
     subst ew
     exact h0.widen (P.cells b o' h).2 h1 (by omega)
 have hT:=hT1.turn (hdr':=hdr') H hr
 have hblk':∀b∈blk (aJ α r (α.loc r) hdr' (ft++rest)) R' r,(∃o,eD α R r=some (b,o))∨b∈ft∨b∈rest:=by
  intro b hb
  rw [eO,qE hkind,eY,List.mem_append] at hb
  exact hb
 have hwhole:bq (az σ r R') R'→Ow (hp w') own' (iU cx (az σ r R') (aJ α r (α.loc r) hdr' (ft++rest)) F' w' tags') z.1 z.2 hdr' (ft++rest)∧
   (tK∉lh→(t.1=d.1→z.1=R.k)∧K6 (hp w) (hp w') own' R.k R.x (α.hdr r) (eD α R r) z hdr' lh∧bF (hp w') p z.1 hdr' (eD α R r)=some (cs',o7)):=by
  intro hv'
  have hcont:=P.cont _ (by rw [hR']; exact hT) (by rw [hR']; exact hblk') (by rw [hR']; exact hv')
  rw [hR'] at hcont
  have Yc:∀e∈aU own' R.k,e∈R'.FX:=by
   unfold Root.FX
   rw [ajR,Ez]
   exact (PZ p hg P.hz).2 P.Yc
  have hc2:=hv'.2
  rw [aaj] at hc2
  obtain ⟨_,hV,_⟩:=hT.views H R.tags (aU own' R.k) (H.dF r R hr.1).1 (wF hc2 P.tags.1 Yc)
  have hok:∀b,((iU cx σ α F w R.tags b∨b∈fd)∧∃t∈aU own' R.k,zi (hp w) b t)→iU cx (az σ r R') (aJ α r (α.loc r) hdr' (ft++rest)) F' w' tags' b∧hp w' b=hp w b:=by
   rintro b ⟨hb,hty⟩
   rcases hb with hb | hb
   ·obtain ⟨h1,h2⟩:=hV b hb (.inl hty)
    exact ⟨zC h1 P.tags.1,h2⟩
   ·have hbb:=jT b (.inr (.inr (.inl hb)))
    refine ⟨⟨Nat.lt_of_lt_of_le (hblt b hbb) P.size,af6 b hbb (fun h1=>(List.nodup_append.1 X7).2.2 b (List.mem_append_left _ h1) b hb rfl),qG H hr ((hfo b).2 (.inr hb)), ?_, ?_⟩,ac8 b hb⟩
    ·intro q Q hq hbq
     exfalso
     rcases jI hq with ⟨rfl,rfl,_⟩ | ⟨e,hq'⟩
     ·rcases hblk' b hbq with ⟨o,h⟩ | h | h
      ·exact hnd.1 b o h ((hfo b).2 (.inr hb))
      ·rcases P.WK b h with h | h | h
       ·exact (List.nodup_append.1 X7).2.2 b (List.mem_append_left _ h) b hb rfl
       ·exact KQ b hbb h
       ·have:=hblt b hbb; omega
      ·exact (List.nodup_append.1 X7).2.2 b (List.mem_append_right _ h) b hb rfl
     ·rw [(iw (α:=α) (σ:=σ) (R:=R') e).blk] at hbq
      exact H.Og _ _ _ _ hr hq' (Ne.symm e) b hbb hbq
    ·intro hb0
     rcases (K.mine b hbb).2 with h | ⟨j,pi,h1,h2⟩
     ·omega
     ·exact .inr ⟨j,pi,h1,h2⟩
  obtain ⟨csn,hl0,M8,hC',hN',hK'⟩:=hup.go (hp w') (iU cx (az σ r R') (aJ α r (α.loc r) hdr' (ft++rest)) F' w' tags') t cs' ft z P.hz P.len hcont hok Ya P.cells P.none WA
  have aj2:csn=hdr':=by
   cases hw:eD α R r with
   | none=>
    have:hdr'=α.hdr r:=by simp only [hdr']; rw [hw]
    rw [this]
    exact hN' hw
   | some q=>
    have:hdr'=sF (hp w') q.1 q.2 R.k.size:=by simp only [hdr']; rw [hw]
    rw [this]
    have h1:=iA (hC' q.1 q.2 hw)
    rw [hl0,K.len] at h1
    exact h1.symm
  rw [aj2] at M8
  refine ⟨M8,fun Dh=>?_⟩
  have:=hK' lh P.ht (P.nav Dh)
  rw [aj2] at this
  exact ⟨this.1,this.2.2⟩
 refine ⟨aJ α r (α.loc r) hdr' (ft++rest),hT1.rel H hr ?_ ?_ ?_,hT,hblk',fun hgn hv'=>by
  have h3:=((hwhole hv').2 hgn).2.2
  have aaO:eD (aJ α r (α.loc r) hdr' (ft++rest)) R' r=eD α R r:=by rw [jX,yO hkind, ←xO]
  have Vj:(aJ α r (α.loc r) hdr' (ft++rest)).hdr r=hdr':=by simp [aJ,upd_same]
  rw [aaO,Vj]
  exact h3,fun b hb=>by
  have aoj:(aJ α r (α.loc r) hdr' (ft++rest)).fo r=ft++rest:=by simp [aJ,upd_same]
  rw [aoj]
  exact List.mem_append_left _ hb⟩
 ·intro _
  refine ⟨fun hv'=>?_, ?_, ?_, ?_⟩
  ·have:=(hwhole hv').1
   subst hR'
   exact this
  ·rw [Ez,hsz]
   simp only [hdr']
   cases hw:eD α R r with
   | none=>exact K.len
   | some q=>simp [sF]
  ·intro b o hb
   rw [yO hkind, ←xO] at hb
   have hh:hdr'=sF (hp w') b o R.k.size:=by simp only [hdr']; rw [hb]
   obtain ⟨_,arr,e,lo,hi,g1,g2,g3,g4⟩:=K.mem b o hb
   have hnew:∃lI,hp w' b=some (.cells lI e (lo,hi))∧lI.size=arr.size:=by
    by_cases hbw:o7.map (·.1)=some b
    ·cases agz:o7 with
     | none=>rw [agz] at hbw; simp at hbw
     | some q=>
      rw [agz] at hbw
      simp only [Option.map_some,Option.some.injEq] at hbw
      obtain ⟨a1,a2,te,fr,f1,f2,f3,_⟩:=(P.cells q.1 q.2 agz).2
      rw [hbw] at f1 f2
      rw [g1] at f1
      simp only [Option.some.injEq,Obj.cells.injEq] at f1
      obtain ⟨rfl,rfl,rfl⟩:=f1
      exact ⟨a2,f2,f3⟩
    ·exact ⟨arr,(WA b o hb hbw).trans g1,rfl⟩
   obtain ⟨lI,f1,f2⟩:=hnew
   refine ⟨?_,lI,e,lo,hi,f1,by rw [f2]; exact g2,by rw [f2,Ez,hsz]; exact g3,fun tv hk=>g4 tv (hkind▸hk)⟩
   rw [hh]
   exact IQ f1 (by rw [f2]; exact g3)
  ·rw [qE hkind,oM]
   refine ⟨fun b o hb h=>?_,List.nodup_append.2 ⟨P.anS,(List.nodup_append.1 SX).2.1,fun b h1 c h2 e=>?_⟩⟩
   ·have hbb:=jT b (.inr (.inr (.inr ⟨o,hb⟩)))
    rcases List.mem_append.1 h with h | h
    ·rcases P.WK b h with h | h | h
     ·exact hnd.1 b o hb ((hfo b).2 (.inl (.inl h)))
     ·exact KQ b hbb h
     ·have:=hblt b hbb; omega
    ·exact hnd.1 b o hb ((hfo b).2 (.inl (.inr h)))
   ·subst e
    have hbb:=jT b (.inr (.inl h2))
    rcases P.WK b h1 with h | h | h
    ·exact (List.nodup_append.1 SX).2.2 b h b h2 rfl
    ·exact KQ b hbb h
    ·have:=hblt b hbb; omega
 ·intro _ q n v hn' hold
  refine ⟨hold.1, ?_⟩
  intro Q hQ hvQ hcl hty hsome
  have hQ':Q=R':=by
   rw [aK] at hQ
   simpa using hQ.symm
  subst hQ'
  have aaO:eD (aJ α r (α.loc r) hdr' (ft++rest)) Q r=eD α R r:=by rw [jX,yO hkind, ←xO]
  have Vj:(aJ α r (α.loc r) hdr' (ft++rest)).hdr r=hdr':=by simp [aJ,upd_same]
  rw [aaO,Vj]
  rw [hRh,ru hn'] at hcl
  by_cases hq:q=[]
  ·subst hq
   obtain ⟨_,cs,b,o,h1,h2⟩:=hold.2 R hr.1 hv (by simp [clean,eB,ay]) (fun t ht=>by simp [ah] at ht) rfl
   simp only [bF,Option.some.injEq,Prod.mk.injEq] at h1
   exact ⟨trivial,hdr',b,o,by simp only [bF]; rw [h1.2],h2⟩
  ·have hpt:∀k,eB q k=tK :: ah q k:=by
    intro k
    cases q with
    | nil=>exact absurd rfl hq
    | cons s q=>rfl
   rw [hpt] at hcl
   have hgn:tK∉lh:=fun hm=>hcl.1 tK hm (by simp)
   obtain ⟨hk,hnk,_⟩:=(hwhole hvQ).2 hgn
   subst hR'
   have aej:ah q R.k=ah q z.1∧(aT q R.k R.x).isSome=true:=by
    rcases P.anU with h | h | h
    ·have hk:=hk h
     obtain ⟨zk,zx⟩:=z
     simp only at hk
     subst hk
     exact ⟨rfl,by rw [tZ q (y:=zx)]; exact hsome⟩
    ·exact PT (bad:=lh) p q hg P.hz h hsome (fun e he hm=>hcl.1 e hm (List.mem_cons_of_mem _ he))
    ·exact absurd h hgn
   have hpe:ah q (bG R z own' tags' lw lh kp).k=ah q R.k:=aej.1.symm
   rw [hpe] at hcl hty
   have aoe:∀t∈lh,t∉tK :: ah q R.k:=hcl.1
   obtain ⟨g1,cs,b,o,g2,g3⟩:=hold.2 R hr.1 hv (by rw [hpt]; exact hcl.2) (fun t ht=>hsub t (hty t ht)) aej.2
   obtain ⟨f1,c1,f2⟩:=hnk q cs (some (b,o)) g1 (fun t ht=>⟨hty t ht,fun h=>aoe t h (List.mem_cons_of_mem _ ht)⟩) g2 hsome
   exact ⟨f1,c1,b,o,f2,g3⟩
 ·intro _ g v hg' hold Q hQ hgQ
  obtain ⟨hQ',_⟩:=eU hQ
  subst hQ'
  obtain ⟨h1,h2⟩:=hold R hr (hRg▸hgQ)
  have hw:eD α R r=none:=by unfold eD; rw [h1]
  have hh:hdr'=α.hdr r:=by simp only [hdr']; rw [hw]
  have Vj:(aJ α r (α.loc r) hdr' (ft++rest)).hdr r=hdr':=by simp [aJ,upd_same]
  rw [Vj,hh,hkind]
  refine ⟨h1, ?_⟩
  rw [Ez]
  refine (Wh ?_).2 h2
  by_cases hp:p=[]
  ·subst hp
   have hz:=P.hz
   simp only [eF,aT,Option.some.injEq] at hz hg
   subst hz
   rcases P.aoZ with h | h
   ·rw [h, ←hg]
   ·simp only [bF,Option.some.injEq,Prod.mk.injEq] at hn
    rw [←hn.2,hw] at h
    exact absurd rfl h
  ·exact PO hp P.hz
end
end Go.Proofs.YtdknpknohipffaaGreat.Ow

/- The framework, part 13: what programs read. Own work of this seat. -/
namespace Go.Proofs.YtdknpknohipffaaGreat.Ow
open Go
variable [Fr]
theorem BS:∀{k:K},k.flat=true→k.tys=[]:=by
 intro k
 induction k with
 | sl e k ih=>intro h; simp [K.flat] at h
 | gap n=>intro h; simp [K.flat] at h
 | pair a b iha ihb=>intro h; simp only [K.flat,Bool.and_eq_true] at h; simp [K.tys,iha h.1,ihb h.2]
 | st f ih=>intro h; exact ih h
 | _=>intro _; rfl
theorem acF {h h':Heap} {own own':List TypeId} {ok ok':Nat→Prop}:∀{k:K} {x:El k} {cs:List Value} {fo:List Nat},k.flat=true→Ow h own ok k x cs fo→fo=[]∧Ow h' own' ok' k x cs []:=by
 intro k
 induction k with
 | sl e k ih=>intro x cs fo h; simp [K.flat] at h
 | gap n=>intro x cs fo h; simp [K.flat] at h
 | pair a b iha ihb=>
  intro x cs fo h H
  simp only [K.flat,Bool.and_eq_true] at h
  obtain ⟨c1,c2,f1,f2,e,hp,h1,h2⟩:=H
  obtain ⟨g1,k1⟩:=iha h.1 h1
  obtain ⟨g2,k2⟩:=ihb h.2 h2
  subst g1; subst g2
  exact ⟨hp.eq_nil,c1,c2,[],[],e, .refl _,k1,k2⟩
 | st f ih=>intro x cs fo h H; exact ih (x:=x) h H
 | int ik=>intro x cs fo _ H; exact ⟨H.1,rfl,H.2⟩
 | bool=>intro x cs fo _ H; exact ⟨H.1,rfl,H.2⟩
 | id e=>intro x cs fo _ H; exact ⟨H.1,rfl,H.2⟩
 | str=>intro x cs fo _ H; exact ⟨H.1,rfl,H.2⟩
 | unit=>intro x cs fo _ H; exact ⟨H.1,rfl,H.2⟩
theorem adi {ik:IntKind} {n:Int} (h:inK ik n=true):KX ik n:=by
 cases ik <;> simp_all [inK,KX,inK.Int.blt,inK.Int.ble]
theorem bK {a b:K} {x:El a} {y:El b} (h:bQ a b x=some y):∃e:a=b,y=e▸x:=by
 unfold bQ at h
 split at h
 ·rename_i hb
  simp only [Option.some.injEq] at h
  exact ⟨K.eq_of_beq hb,h.symm⟩
 ·simp at h
section
variable {A:Type} {cx:Cx} {σ:St} {α:dN} {F:List Nat} {a:Act} {w:World} {z:A}
theorem gN {k:Prog A} {tys:List TypeId}:∀{T:List Tag},(pJ T tys k).ends σ z→bg σ tys T=true∧k.ends σ z:=by
 intro T
 induction T with
 | nil=>intro h; exact ⟨rfl,h⟩
 | cons t T ih=>
  obtain ⟨r,n⟩:=t
  intro h
  simp only [pJ] at h
  cases he:fK r with
  | true=>
   rw [he] at h
   obtain ⟨h1,h2⟩:=ih h
   exact ⟨by simp [bg,he,h1],h2⟩
  | false=>
   rw [he] at h
   simp only [cond_false,Prog.ends] at h
   cases hr:σ.roots r with
   | none=>rw [hr] at h; exact h.elim
   | some R=>
    rw [hr] at h
    simp only at h
    cases hc:(!R.aZ && clean R.w n tys) with
    | false=>rw [hc] at h; exact h.elim
    | true=>
     rw [hc] at h
     obtain ⟨h1,h2⟩:=ih h
     exact ⟨by simp only [bg,he,hr,cond_false]; rw [hc,h1]; rfl,h2⟩
theorem dh {r:Nat} {k:Root→Prog A} (h:(vG r k).ends σ z):∃R,aR σ r R∧bq σ R∧(k R).ends σ z:=by
 unfold vG at h
 simp only [Prog.ends] at h
 cases hr:σ.roots r with
 | none=>rw [hr] at h; exact h.elim
 | some R=>
  rw [hr] at h
  simp only at h
  cases hd:R.aZ with
  | true=>rw [hd] at h; exact h.elim
  | false=>
   rw [hd] at h
   obtain ⟨h1,h2⟩:=gN h
   exact ⟨R,⟨hr,hd⟩,⟨hd,h1⟩,h2⟩
theorem adn (v:Value):bH cx σ α F w (abb v) v∧wD σ (abb v):=by
 unfold abb
 split
 ·rename_i k n
  cases h:inK k n with
  | true=>exact ⟨fun _=>⟨[.int k n],⟨rfl,by simp⟩,rfl,adi h⟩,fun t ht=>by simp at ht⟩
  | false=>exact ⟨trivial,trivial⟩
 ·exact ⟨fun _=>⟨_,⟨rfl,by simp⟩,rfl⟩,fun t ht=>by simp at ht⟩
 ·rename_i s
  exact ⟨fun _=>⟨_,⟨rfl,by simp⟩,s,rfl,rfl⟩,fun t ht=>by simp at ht⟩
 ·exact ⟨⟨none,rfl⟩,trivial⟩
 ·exact ⟨rfl,trivial⟩
 ·exact ⟨trivial,trivial⟩
theorem wG (H:Rel cx σ α F a w) {x:Operand} {k:Br→Prog A} (h:(xZ x k).ends σ z):∃v1,kJ cx σ α F w v1 (a.eval x)∧CV σ v1∧(k v1).ends σ z:=by
 cases x with
 | tmp t=>exact ⟨σ.slots t,H.slots t,H.Dq t,h⟩
 | const v=>obtain ⟨h1,h2⟩:=adn (cx:=cx) (σ:=σ) (α:=α) (F:=F) (w:=w) v; exact ⟨.one (abb v),h1,h2,h⟩
 | func f=>exact ⟨.one (.fn f []),⟨[],rfl,trivial⟩,fun c hc=>by simp at hc,h⟩
 | global g=>exact h.elim
theorem bS (H:Rel cx σ α F a w) {x:Operand} {k:AV→Prog A} (h:(dP x k).ends σ z):∃v1,bH cx σ α F w v1 (a.eval x)∧wD σ v1∧(k v1).ends σ z:=by
 obtain ⟨v1,h1,h2,h3⟩:=wG H h
 cases v1 with
 | one v=>exact ⟨v,h1,h2,h3⟩
 | Li l=>exact h3.elim
def evs (a:Act) (l:List (Nat×Operand)):List (Nat×Value):=l.map fun p=>(p.1,a.eval p.2)
theorem O8 (H:Rel cx σ α F a w):∀{l:List (Nat×Operand)} {k:List (Nat×AV)→Prog A},(MR l k).ends σ z→
  ∃vs:List (Nat×AV),vs.map (·.1)=l.map (·.1)∧fE cx σ α F w (vs.map (·.2)) ((evs a l).map (·.2))∧(∀v∈vs,wD σ v.2)∧(k vs).ends σ z:=by
 intro l
 induction l with
 | nil=>intro k h; exact ⟨[],rfl,trivial,by simp,h⟩
 | cons p l ih=>
  obtain ⟨n,x⟩:=p
  intro k h
  simp only [MR] at h
  obtain ⟨v,h1,h2,h3⟩:=bS H h
  obtain ⟨vs,g1,g2,g3,g4⟩:=ih h3
  exact ⟨(n,v) :: vs,by simp [g1],⟨h1,g2⟩,by simpa using ⟨h2,fun a b hb=>g3 (a,b) hb⟩,g4⟩
theorem jv (H:Rel cx σ α F a w):∀{l:List Operand} {k:List AV→Prog A},(j4 l k).ends σ z→
  ∃vs:List AV,fE cx σ α F w vs (l.map a.eval)∧(∀v∈vs,wD σ v)∧(k vs).ends σ z:=by
 intro l
 induction l with
 | nil=>intro k h; exact ⟨[],trivial,by simp,h⟩
 | cons x l ih=>
  intro k h
  simp only [j4] at h
  obtain ⟨v,h1,h2,h3⟩:=bS H h
  obtain ⟨vs,g2,g3,g4⟩:=ih h3
  exact ⟨v :: vs,⟨h1,g2⟩,by simpa using ⟨h2,g3⟩,g4⟩
theorem AZ {ik:IntKind} {n:Int} {T:List Tag} {v:Value} (h:bH cx σ α F w (.val (.int ik) n T) v):v=.int ik n∧KX ik n:=by
 obtain ⟨cs,h1,h2,h3⟩:=h (.inl rfl)
 obtain ⟨h5,_⟩:cs=[v]∧_:=h1
 rw [h5] at h2
 simp only [List.cons.injEq,and_true] at h2
 exact ⟨h2,h3⟩
theorem Cu {b:Bool} {T:List Tag} {v:Value} (h:bH cx σ α F w (.val .bool b T) v):v=.bool b:=by
 obtain ⟨cs,h1,h2⟩:=h (.inl rfl)
 obtain ⟨h5,_⟩:cs=[v]∧_:=h1
 have h2':cs=[.bool b]:=h2
 rw [h5] at h2'
 simpa using h2'
theorem A7 {s:List Int} {T:List Tag} {v:Value} (h:bH cx σ α F w (.val .str s T) v):∃B:ByteArray,v=.string B∧s=bytesOf B:=by
 obtain ⟨cs,h1,B,h2,h3⟩:=h (.inl rfl)
 obtain ⟨h5,_⟩:cs=[v]∧_:=h1
 rw [h5] at h2
 simp only [List.cons.injEq,and_true] at h2
 exact ⟨B,h2,h3⟩
theorem Vt {ik:IntKind} {n:Int} {T:List Tag} (h:KX ik n):bH cx σ α F w (.val (.int ik) n T) (.int ik n):=fun _=>⟨[.int ik n],⟨rfl,by simp⟩,rfl,h⟩
theorem ado {b:Bool} {T:List Tag}:bH cx σ α F w (.val .bool b T) (.bool b):=fun _=>⟨[.bool b],⟨rfl,by simp⟩,rfl⟩
theorem Vu {B:ByteArray} {T:List Tag}:bH cx σ α F w (.val .str (bytesOf B) T) (.string B):=fun _=>⟨[.string B],⟨rfl,by simp⟩,B,rfl,rfl⟩
theorem BP {x:AV} {v:Value} {k:IntKind→Int→Prog A} (hx:bH cx σ α F w x v) (h:(asInt x k).ends σ z):∃ik n,v=.int ik n∧KX ik n∧(k ik n).ends σ z:=by
 unfold asInt at h
 split at h
 ·rename_i ik n T
  obtain ⟨h1,h2⟩:=AZ hx
  exact ⟨ik,n,h1,h2,h⟩
 ·exact h.elim
theorem Mj {x:AV} {v:Value} {k:Bool→Prog A} (hx:bH cx σ α F w x v) (h:(asBool x k).ends σ z):∃b,v=.bool b∧(k b).ends σ z:=by
 unfold asBool at h
 split at h
 ·rename_i b T
  exact ⟨b,Cu hx,h⟩
 ·exact h.elim
theorem iU.q {T:List Tag} {b:Nat} (h:iU cx σ α F w T b):NF σ α F w T b:=⟨h.1,h.2.1,h.2.2.2.1⟩
theorem abr {T T':List Tag} {b:Nat} (h:NF σ α F w T b) (hs:∀t∈T,t∈T'):NF σ α F w T' b:=
 ⟨h.1,h.2.1,fun r R h1 h2=>by obtain ⟨n,hn⟩:=h.2.2 r R h1 h2; exact ⟨n,hs _ hn⟩⟩
variable {r:Nat} {R:Root}
theorem acH {h:Heap} {own:List TypeId} {ok:Nat→Prop}:∀{k:K} {x:El k} {cs:List Value} {fo:List Nat},(∀t∈k.tys,ay t own=false)→Ow h own ok k x cs fo→fo=[]:=by
 intro k
 induction k with
 | sl e k ih=>
  intro x cs fo h H
  unfold Ow at H
  rw [if_neg (by rw [h e (by simp [K.tys])]; exact Bool.false_ne_true)] at H
  exact H.1
 | pair a b iha ihb=>
  intro x cs fo h H
  obtain ⟨c1,c2,f1,f2,e,hp,h1,h2⟩:=H
  rw [iha (fun t ht=>h t (by simp [K.tys,ht])) h1,ihb (fun t ht=>h t (by simp [K.tys,ht])) h2] at hp
  exact hp.eq_nil
 | st f ih=>intro x cs fo h H; exact ih (x:=x) h H
 | _=>intro x cs fo _ H; exact H.1
theorem FD (R:Root) (r:Nat) {k:K} (hk:k.flat=false):R.out r k=(r,gG R.w) :: R.tags∨(R.out r k=R.tags∧∀t∈k.tys,ay t R.own=false):=by
 unfold Root.out
 rw [hk,cond_false]
 cases h:k.tys.any fun t=>ay t R.own with
 | true=>exact .inl rfl
 | false=>
  refine .inr ⟨rfl,fun t ht=>?_⟩
  have:=List.any_eq_false.1 h t ht
  simpa using this
theorem agP (H:Rel cx σ α F a w) (hr:aR σ r R) {k:K} (hk:R.out r k=(r,gG R.w) :: R.tags) {b:Nat} (hb:b∈α.fo r):iU cx σ α F w (R.out r k) b:=by
 have hbb:b∈blk α R r:=List.mem_append_right _ hb
 have hm:=(H.roots r R hr).mine b hbb
 refine ⟨hm.1,H.jH r R hr b hbb,qG H hr hb,fun q Q hq hbq=>?_,fun h0=>?_⟩
 ·by_cases e:q=r
  ·subst e
   exact ⟨gG R.w,by rw [hk]; simp⟩
  ·exact absurd hbb (H.Og q Q r R hq hr e b hbq)
 ·rcases hm.2 with h | ⟨j,pi,h1,h2⟩
  ·omega
  ·exact .inr ⟨j,pi,h1,h2⟩
theorem WO {k:K} (hk:k.flat=false):∀t∈R.tags,t∈R.out r k:=fun t ht=>by
 rcases FD R r hk with h | ⟨h,_⟩ <;> rw [h]
 ·exact List.mem_cons_of_mem _ ht
 ·exact ht
theorem Py (H:Rel cx σ α F a w) (hr:aR σ r R) (k:K):fC σ (R.out r k):=by
 intro t ht
 cases hk:k.flat with
 | true=>unfold Root.out at ht; rw [hk] at ht; simp at ht
 | false=>
  have h1:t=(r,gG R.w)∨t∈R.tags:=by
   rcases FD R r hk with h | ⟨h,_⟩ <;> rw [h] at ht
   ·exact List.mem_cons.1 ht
   ·exact .inr ht
  rcases h1 with h | h
  ·subst h; exact .inr ⟨R,hr.1, .inr (Nat.le_refl _)⟩
  ·exact (H.dF r R hr.1).1 t h
theorem qK (H:Rel cx σ α F a w) (hr:aR σ r R) {k:K} {x:El k} {cs:List Value} {gp:List Nat} (hO:Ow (hp w) R.own (iU cx σ α F w R.tags) k x cs gp) (hf:∀b∈gp,b∈α.fo r) :
  Vw (hp w) (iU cx σ α F w (R.out r k)) k x cs:=by
 cases hk:k.flat with
 | true=>exact je hk (mg (fun _=>True) (fun _ _=>trivial) (fun _ _=>trivial) hO)
 | false=>
  rcases FD R r hk with ho | ⟨_,hn⟩
  ·exact mg _ (fun b hb=>zC hb (WO hk)) (fun b hb=>agP H hr ho (hf b hb)) hO
  ·exact mg _ (fun b hb=>zC hb (WO hk)) (fun b hb=>by rw [acH hn hO] at hb; simp at hb) hO
theorem yF (H:Rel cx σ α F a w) (hr:aR σ r R) (hv:bq σ R) {p:List Stp} {d:Dat} (hg:aT p R.k R.x=some d) (fT:oZ p R.k R.x) (hown:∀t∈ah p R.k,ay t R.own=true)
  {cs1:List Value} {o7:Option (Nat×Nat)} (hn:bF (hp w) p R.k (α.hdr r) (eD α R r)=some (cs1,o7)) :
  ∃gp,Ow (hp w) R.own (iU cx σ α F w R.tags) d.1 d.2 cs1 gp∧∀b∈gp,b∈α.fo r:=by
 have K:=H.roots r R hr
 have hnd:=K.nd
 rw [bT,oM] at hnd
 obtain ⟨rX,gp,rest,wh2,hn',hp1,hd1,hc1,hin,hnone,hup⟩:=focus p (K.ow hv) (fun b o e=>(K.mem b o e).1) hg fT hown hnd.2 (fun b o e=>hnd.1 b o e)
 rw [hn] at hn'
 simp only [Option.some.injEq,Prod.mk.injEq] at hn'
 obtain ⟨rfl,rfl⟩:=hn'
 exact ⟨gp,hd1,fun b hb=>hp1.mem_iff.2 (List.mem_append_left _ hb)⟩
theorem kU {T:List Nat} {own:List Nat} (h:(T.all fun t=>ay t own)=true):∀t∈T,ay t own=true:=fun t ht=>List.all_eq_true.1 h t ht
theorem yH (H:Rel cx σ α F a w) {x:AV} {v:Value} {k:(kk:K)→El kk→List Tag→Prog A} (hx:bH cx σ α F w x v) (hw:wD σ x) (h:(yj x k).ends σ z) :
  ∃kk y T cs,VC kk v cs∧Vw (hp w) (iU cx σ α F w T) kk y cs∧fC σ T∧(k kk y T).ends σ z:=by
 cases x with
 | val kk y T=>
  obtain ⟨h1,h2⟩:=gN h
  obtain ⟨cs,h3,h4⟩:=hx (.inr h1)
  exact ⟨kk,y,T,cs,h3,h4,hw,h2⟩
 | ref r g=>
  obtain ⟨R,hr,hv,h⟩:=dh h
  cases hg:Nat.beq R.g g with
  | false=>simp only [hg,cond_false] at h; exact h.elim
  | true=>
   simp only [hg,cond_true] at h
   obtain ⟨h1,h2⟩:=hx R hr (Nat.eq_of_beq_eq_true hg)
   exact ⟨R.k,R.x,R.out r R.k,α.hdr r,h2,qK H hr ((H.roots r R hr).ow hv) (fun _ h=>h),Py H hr _,h⟩
 | zW r p n=>
  obtain ⟨R,hr,hv,h⟩:=dh h
  cases hg:Nat.beq R.Bp n with
  | false=>simp only [hg,cond_false] at h; exact h.elim
  | true=>
   simp only [hg,cond_true] at h
   cases Dh:aT p R.k R.x with
   | none=>rw [Dh] at h; exact h.elim
   | some d=>
    rw [Dh] at h
    obtain ⟨h1,h2,cs,wh,h3,h4⟩:=hx R hr.1 hv (Nat.eq_of_beq_eq_true hg) d Dh
    obtain ⟨gp,h5,h6⟩:=yF H hr hv Dh h1 h2 h3
    exact ⟨d.1,d.2,R.out r d.1,cs,h4,qK H hr h5 h6,Py H hr _,h⟩
 | undef=>exact h.elim
 | iZ=>exact h.elim
 | ptr r p n=>exact h.elim
 | jl bt kk y T=>exact h.elim
 | MF _ _ _ _=>exact h.elim
 | D7 _=>exact h.elim
 | part _ _ _ _ _=>exact h.elim
 | Bl _ _ _ _=>exact h.elim
 | app _ _ _ _=>exact h.elim
 | vB=>exact h.elim
 | fn f cs=>exact h.elim
theorem CS (H:Rel cx σ α F a w) {x:AV} {v:Value} {rd:Root→Nat→List Stp→Dat→Prog A} {ro:TypeId→Dat→List Tag→Prog A} (hx:bH cx σ α F w x v) (hw:wD σ x) (h:(addrOf x rd ro).ends σ z) :
  (∃r R p d cs b o,aR σ r R∧bq σ R∧aT p R.k R.x=some d∧oZ p R.k R.x∧(∀t∈ah p R.k,ay t R.own=true)∧bF (hp w) p R.k (α.hdr r) (eD α R r)=some (cs,some (b,o))∧v=.pointer (some ⟨b,o,none⟩)∧(rd R r p d).ends σ z)∨
  (∃bt d T b o cs,fC σ T∧v=.pointer (some ⟨b,o,none⟩)∧Cells (hp w) b o cs∧Vw (hp w) (iU cx σ α F w T) d.1 d.2 cs∧NF σ α F w T b∧((bt=SENT∧∀t∈T,fK t.1=true)∨(zi (hp w) b bt∧¬nG cx b))∧(ro bt d T).ends σ z):=by
 cases x with
 | ptr r p n=>
  obtain ⟨R,hr,hv,h⟩:=dh h
  cases hc:(clean R.h n (eB p R.k) && Le p R) with
  | false=>rw [hc] at h; exact h.elim
  | true=>
   rw [hc] at h
   simp only [cond_true] at h
   simp only [Bool.and_eq_true] at hc
   cases Dh:aT p R.k R.x with
   | none=>rw [Dh] at h; exact h.elim
   | some d=>
    rw [Dh] at h
    have hown:=kU hc.2
    obtain ⟨h1,cs,b,o,h2,h3⟩:=hx.2 R hr.1 hv hc.1 hown (by rw [Dh]; rfl)
    exact .inl ⟨r,R,p,d,cs,b,o,hr,hv,Dh,h1,hown,h2,h3,h⟩
 | jl bt k y T=>
  obtain ⟨h1,h2⟩:=gN h
  obtain ⟨b,o,cs,e,hcs,hV,hok,hb⟩:=hx.2 h1
  exact .inr ⟨bt,⟨k,y⟩,T,b,o,cs,hw,e,hcs,hV,hok,hb,h2⟩
 | undef=>exact h.elim
 | iZ=>exact h.elim
 | ref r g=>exact h.elim
 | zW r p n=>exact h.elim
 | val kk y T=>exact h.elim
 | MF _ _ _ _=>exact h.elim
 | D7 _=>exact h.elim
 | part _ _ _ _ _=>exact h.elim
 | Bl _ _ _ _=>exact h.elim
 | app _ _ _ _=>exact h.elim
 | vB=>exact h.elim
 | fn f cs=>exact h.elim
end
end Go.Proofs.YtdknpknohipffaaGreat.Ow

/- The framework, part 14: what is handed away. Own work of this seat. -/
namespace Go.Proofs.YtdknpknohipffaaGreat.Ow
open Go
variable [Fr]
theorem dD (a b:List Wr):∀σ,aC (a++b) σ=aC b (aC a σ):=by
 induction a with
 | nil=>intro σ; rfl
 | cons w a ih=>intro σ; exact ih _
theorem IL {own:List TypeId} {k:K}:∀(k0:K),(∀t∈k.tys,t∈k0.tys)→aU (k0.tys.filter fun t=>ay t own) k=aU own k:=by
 intro k0
 have key:∀t∈k0.tys,ay t (k0.tys.filter fun t=>ay t own)=ay t own:=by
  intro t ht
  cases h:ay t own with
  | true=>rw [aL,List.mem_filter]; exact ⟨ht,h⟩
  | false=>
   rw [aV,List.mem_filter]
   rintro ⟨_,h2⟩
   rw [h] at h2
   simp at h2
 induction k with
 | sl e k ih=>
  intro h
  simp only [aU]
  rw [key e (h e (by simp [K.tys])),ih (fun t ht=>h t (by simp [K.tys,ht]))]
 | pair a b iha ihb=>intro h; simp only [aU]; rw [iha (fun t ht=>h t (by simp [K.tys,ht])),ihb (fun t ht=>h t (by simp [K.tys,ht]))]
 | st f ih=>intro h; exact ih h
 | _=>intro _; rfl
theorem Tz {own:List TypeId} {k:K}:∀t∈k.tys,ay t (k.tys.filter fun t=>ay t own)=ay t own:=by
 intro t ht
 cases h:ay t own with
 | true=>rw [aL,List.mem_filter]; exact ⟨ht,h⟩
 | false=>
  rw [aV,List.mem_filter]
  rintro ⟨_,h2⟩
  rw [h] at h2
  simp at h2
theorem UO {own:List TypeId}:∀(n:Nat) {c:K} {x:El c} {s:Dat},aQ n c x=some s→∀t∈aU own s.1,t∈aU own c:=by
 intro n
 induction n with
 | zero=>
  intro c x s h t ht
  cases c with
  | pair a b=>simp only [aQ,Option.some.injEq] at h; subst h; simp [aU,ht]
  | _=>simp [aQ] at h
 | succ n ih=>
  intro c x s h t ht
  cases c with
  | pair a b=>simp only [aQ] at h; simp [aU,ih h t ht]
  | _=>simp [aQ] at h
theorem Fq {own:List TypeId}:∀(p:List Stp) {k:K} {x:El k} {d:Dat},aT p k x=some d→(∀t∈ah p k,ay t own=true)→∀t∈aU own d.1,t∈aU own k:=by
 intro p
 induction p with
 | nil=>intro k x d h _; simp only [aT,Option.some.injEq] at h; subst h; exact fun _ h=>h
 | cons s p ih=>
  intro k x d h ht
  cases s with
  | gL n=>
   cases k with
   | st c=>
    simp only [aT] at h
    cases hg:aQ n c x with
    | none=>rw [hg] at h; simp at h
    | some s=>
     rw [hg] at h
     simp only at h
     have hpt:ah (.gL n :: p) (.st c)=ah p s.1:=by simp [ah,bU n hg]
     rw [hpt] at ht
     exact fun t h2=>UO n (c:=c) hg t (ih h ht t h2)
   | _=>simp [aT] at h
  | idx i=>
   cases k with
   | sl e k=>
    simp only [aT] at h
    intro t h2
    have:=ih h (fun t h=>ht t (by simp [ah,h])) t h2
    simp only [aU,ht e (by simp [ah]),cond_true]
    exact this
   | _=>simp [aT] at h
section
variable {cx:Cx} {σ:St} {α:dN} {F:List Nat} {a:Act} {w:World}
theorem aB {b:Bool} {A:Type} {x y:Prog A} {σ:St} {z:A} (h:(bif b then x else y).ends σ z):(b=true∧x.ends σ z)∨(b=false∧y.ends σ z):=by
 cases b with
 | true=>exact .inl ⟨rfl,h⟩
 | false=>exact .inr ⟨rfl,h⟩
theorem LY {h:Heap} {own:List TypeId} {ok:Nat→Prop}:∀{k:K} {x:El k} {cs:List Value} {fo:List Nat},k.flat=true→Ow h own ok k x cs fo→fo=[]:=by
 intro k
 induction k with
 | sl e k ih=>intro x cs fo h; simp [K.flat] at h
 | gap n=>intro x cs fo h; simp [K.flat] at h
 | pair a b iha ihb=>
  intro x cs fo h H
  simp only [K.flat,Bool.and_eq_true] at h
  obtain ⟨c1,c2,f1,f2,e,hp,h1,h2⟩:=H
  rw [iha h.1 h1,ihb h.2 h2] at hp
  exact hp.eq_nil
 | st f ih=>intro x cs fo h H; exact ih (x:=x) h H
 | _=>intro x cs fo _ H; exact H.1
theorem acI {h:Heap} {own:List TypeId} {ok:Nat→Prop} {e:TypeId} {kk:K} {xs:List (El kk)} {b b':Option Addr} {n c hi:Nat} {fo:List Nat} (hf:kk.flat=true) (he:ay e own=true) (hn:hi≤n) (hb':b'=b)
  (H:Ow h own ok (.sl e kk) xs [.slice b n c] fo):Ow h own ok (.sl e kk) (show List (El kk) from xs.take hi) [.slice b' hi c] fo:=by
 unfold Ow at H ⊢
 rw [if_pos he] at H ⊢
 obtain ⟨a,n',c',e1,e2,e3,H⟩:=H
 simp only [List.cons.injEq,Value.slice.injEq,and_true] at e1
 obtain ⟨rfl,rfl,rfl⟩:=e1
 have hlen:(xs.take hi).length=hi:=by
  have:n=xs.length:=e2
  simp; omega
 refine ⟨b,hi,c,by rw [hb'],hlen.symm,by omega, ?_⟩
 rcases H with H | ⟨bb,o,arr,l,u,ea,hb,hfr,hs,bz,hl,hp,H⟩
 ·exact .inl H
 ·have h0:∀l∈bz,l=[]:=by
   intro l hl'
   obtain ⟨i,hi',rfl⟩:=List.mem_iff_getElem.1 hl'
   have hl:bz.length=xs.length:=hl
   obtain ⟨ds,_,h2⟩:=H i (by show i<xs.length; omega)
   have:=LY hf h2
   rw [←this]; simp [List.getD_eq_getElem?_getD,hi']
  have hfl:bz.flatten=[]:=List.flatten_eq_nil_iff.2 h0
  have aoi:(bz.take hi).flatten=[]:=List.flatten_eq_nil_iff.2 fun l hl'=>h0 l (List.mem_of_mem_take hl')
  refine .inr ⟨bb,o,arr,l,u,ea,hb,hfr,hs,bz.take hi,by show (bz.take hi).length=(xs.take hi).length; simp only [List.length_take]; rw [show bz.length=xs.length from hl],by rw [aoi, ←hfl]; exact hp,fun i hi'=>?_⟩
  have hi2:i<(xs.take hi).length:=hi'
  have hi3:i<hi∧i<xs.length:=by simp at hi2; omega
  obtain ⟨ds,h1,h2⟩:=H i hi3.2
  refine ⟨ds,h1, ?_⟩
  have e1:(show List (El kk) from xs.take hi)[i]'hi'=xs[i]'hi3.2:=by
   show (xs.take hi)[i]=_
   simp
  have e2:(bz.take hi).getD i []=bz.getD i []:=by simp [List.getD_eq_getElem?_getD,List.getElem?_take,hi3.1]
  rw [e1,e2]
  exact h2
inductive Ak (cx:Cx) (σ:St) (α:dN) (F:List Nat) (w:World) (v:Value) (tk:iN):Prop
 | held (hws:tk.ws=[]) (cs:List Value) (hv:VC tk.k v cs) (h:Held cx σ α F w tk.k tk.x tk.own tk.tags cs []) (hc:bg σ (aU tk.own tk.k) tk.tags=true)
 | ref (r:Nat) (R:Root) (hr:aR σ r R) (hv:bq σ R) (e:tk=⟨R.k,R.x,R.own,R.tags,[.r r none],R.keep⟩) (hk:R.kind=.anon) (hd:VC R.k v (α.hdr r))
 | gap (r:Nat) (R:Root) (p:List Stp) (d z:Dat) (hr:aR σ r R) (hv:bq σ R) (hg:aT p R.k R.x=some d) (hz:eF p R.k R.x (xD d)=some z) (fT:oZ p R.k R.x)
   (hown:∀t∈ah p R.k,ay t R.own=true) (hpv:p≠[]∨∃t,R.kind=.var t) (e:tk=⟨d.1,d.2,d.1.tys.filter (fun t=>ay t R.own),R.tags,[.r r (some (sK R d z))],R.keep⟩)
   (hn:∃cs wh,bF (hp w) p R.k (α.hdr r) (eD α R r)=some (cs,wh)∧VC d.1 v cs)
 | cut (r:Nat) (R:Root) (cs:List Value) (hr:aR σ r R) (hv:bq σ R) (hk:R.kind=.anon) (e:tk.own=R.own∧tk.tags=R.tags∧tk.ws=[.r r none]∧tk.keep=R.keep) (hd:VC tk.k v cs) (hl:cs.length=tk.k.size)
   (Yc:aU R.own tk.k=aU R.own R.k) (how:∀ok,Ow (hp w) R.own ok R.k R.x (α.hdr r) (α.fo r)→Ow (hp w) R.own ok tk.k tk.x cs (α.fo r))
theorem II {e:TypeId} {k:K} {c:Option Addr}:VC (.sl e k) (.slice c 0 0) [.slice c 0 0]:=⟨rfl,by simp⟩
theorem wN {A:Type} {z:A} (H:Rel cx σ α F a w) {want:K} {x:AV} {v:Value} {k:iN→Prog A} (hx:bH cx σ α F w x v) (hw:wD σ x) (h:(Fe want x k).ends σ z) :
  ∃tk,Ak cx σ α F w v tk∧(k tk).ends σ z:=by
 cases x with
 | val kk y T=>
  obtain ⟨h1,h2⟩:=gN h
  obtain ⟨cs,h3,h4⟩:=hx (.inr h1)
  have hty:∀t∈aU [] kk,t∈kk.tys:=fun t ht=>J3 ht
  exact ⟨⟨kk,y,[],T,[],false⟩, .held rfl cs h3 ⟨fun _=>tL (fun t _=>rfl) h4,hw,fun b hb=>by simp at hb,List.nodup_nil,nC h4⟩ (wF h1 (fun _ h=>h) hty),h2⟩
 | iZ=>
  obtain ⟨c,rfl⟩:=hx
  unfold Fe at h
  cases want with
  | sl e kk=>
   refine ⟨_, .held rfl [.slice c 0 0] II ⟨fun _=>?_,fun t ht=>by simp at ht,fun b hb=>by simp at hb,List.nodup_nil,rfl⟩ rfl,h⟩
   unfold Ow
   rw [if_pos (by simp [ay])]
   exact ⟨c,0,0,rfl,rfl,Nat.le_refl _, .inl ⟨rfl,rfl⟩⟩
  | _=>exact h.elim
 | ref r g=>
  obtain ⟨R,hr,hv,h⟩:=dh h
  cases hg:(Nat.beq R.g g && !R.fixed) with
  | false=>simp only [hg,cond_false] at h; exact h.elim
  | true=>
   simp only [hg,cond_true] at h
   simp only [Bool.and_eq_true] at hg
   obtain ⟨h1,h2⟩:=hx R hr (Nat.eq_of_beq_eq_true hg.1)
   exact ⟨_, .ref r R hr hv rfl h1 h2,h⟩
 | zW r p n=>
  obtain ⟨R,hr,hv,h⟩:=dh h
  cases hg:Nat.beq R.Bp n with
  | false=>simp only [hg,cond_false] at h; exact h.elim
  | true=>
   simp only [hg,cond_true] at h
   cases Dh:aT p R.k R.x with
   | none=>rw [Dh] at h; exact h.elim
   | some d=>
    rw [Dh] at h
    obtain ⟨h1,h2,cs,wh,h3,h4⟩:=hx R hr.1 hv (Nat.eq_of_beq_eq_true hg) d Dh
    cases hc:(p.all Stp.ug && !R.fixed && (!p.isEmpty || R.isVar)) with
    | true=>
     simp only [hc,cond_true] at h
     cases hga:Ki R p d with
     | none=>rw [hga] at h; exact h.elim
     | some R'=>
      rw [hga] at h
      unfold Ki at hga
      cases hz:eF p R.k R.x (xD d) with
      | none=>rw [hz] at hga; simp at hga
      | some zz=>
       rw [hz] at hga
       simp only [Option.some.injEq] at hga
       subst hga
       simp only [Bool.and_eq_true,Bool.or_eq_true] at hc
       refine ⟨_, .gap r R p d zz hr hv Dh hz h1 h2 ?_ rfl ⟨cs,wh,h3,h4⟩,h⟩
       rcases hc.2 with h | h
       ·left; intro e; subst e; simp at h
       ·right
        unfold Root.isVar at h
        cases hk:R.kind with
        | var t=>exact ⟨t,rfl⟩
        | anon=>rw [hk] at h; simp at h
        | par=>rw [hk] at h; simp at h
        | dead=>rw [hk] at h; simp at h
    | false=>
     simp only [hc,cond_false] at h
     obtain ⟨gp,h5,h6⟩:=yF H hr hv Dh h1 h2 h3
     have hV:=qK H hr h5 h6
     obtain ⟨hc1,h⟩:=gN h
     exact ⟨⟨d.1,d.2,[],R.out r d.1,[],false⟩, .held rfl cs h4 ⟨fun _=>tL (fun t _=>rfl) hV,Py H hr _,fun b hb=>by simp at hb,List.nodup_nil,nC hV⟩ (wF hc1 (fun _ h=>h) (fun t ht=>J3 ht)),h⟩
 | undef=>exact h.elim
 | ptr r p n=>exact h.elim
 | jl bt kk y T=>exact h.elim
 | MF _ _ _ _=>exact h.elim
 | D7 _=>exact h.elim
 | part r g lo hi sz=>
  obtain ⟨R,hr,hv,h⟩:=dh h
  rcases aB h with ⟨hg,h5⟩ | ⟨_,h5⟩
  ·clear h
   simp only [Bool.and_eq_true] at hg
   obtain ⟨b',b,n,c,e1,eb,e2,e3,e4,hrf⟩:=hx
   obtain ⟨h1,h2⟩:=hrf R hr (Nat.eq_of_beq_eq_true hg.1.1)
   have hlo:lo=0:=Nat.eq_of_beq_eq_true hg.2
   subst hlo
   have hK:∀q:Dat,(⟨R.k,R.x⟩:Dat)=q→(match q.1,q.2 with
     | .sl e kk,xs=>bif kk.flat && ay e R.own && Nat.beq kk.size sz then k ⟨.sl e kk,(show List (El kk) from xs).take hi,R.own,R.tags,[.r r none],R.keep⟩ else .fail
     | _,_=>Prog.fail).ends σ z→∃tk,Ak cx σ α F w v tk∧(k tk).ends σ z:=by
    intro q hq hh0
    obtain ⟨qk,qx⟩:=q
    cases qk with
    | sl e kk=>
     simp only at hh0
     rcases aB hh0 with ⟨hc,hh⟩ | ⟨_,hh⟩
     ·clear hh0
      simp only [Bool.and_eq_true] at hc
      have hsz:kk.size=sz:=Nat.eq_of_beq_eq_true hc.2
      subst hsz
      have hVk:VC (.sl e kk) (.slice b n c) (α.hdr r):=by
       have:=congrArg (fun q:Dat=>VC q.1 (.slice b n c) (α.hdr r)) hq
       exact cast this h2
      have hb0:b'=b:=by
       rw [eb (.inl rfl)]
       cases b with
       | none=>rfl
       | some ad=>obtain ⟨x,y,z⟩:=ad; simp [Addr.add]
      refine ⟨⟨.sl e kk,(show List (El kk) from qx).take hi,R.own,R.tags,[.r r none],R.keep⟩, .cut r R [.slice b' hi c] hr hv h1 ⟨rfl,rfl,rfl,rfl⟩ ⟨by rw [e1]; simp,by rw [e1]; simp⟩ rfl ?_ (fun ok hO=>?_),hh⟩
      ·exact congrArg (fun q:Dat=>aU R.own q.1) hq.symm
      ·have hO:=cast (congrArg (fun q:Dat=>Ow (hp w) R.own ok q.1 q.2 (α.hdr r) (α.fo r)) hq) hO
       simp only at hO
       rw [hVk.1] at hO
       exact acI hc.1.1 hc.1.2 e3 hb0 hO
     ·exact hh.elim
    | _=>exact hh0.elim
   exact hK _ rfl h5
  ·exact h5.elim
 | Bl _ _ _ _=>exact h.elim
 | app _ _ _ _=>exact h.elim
 | vB=>exact h.elim
 | fn f cs=>exact h.elim
def uX (cx:Cx) (σ:St) (α:dN) (F:List Nat) (w:World):List (Value×iN)→List (List Value×List Nat)→Prop
 | [],[]=>True
 | it :: l,h :: hs=>(VC it.2.k it.1 h.1∧Held cx σ α F w it.2.k it.2.x it.2.own it.2.tags h.1 h.2∧bg σ (aU it.2.own it.2.k) it.2.tags=true)∧uX cx σ α F w l hs
 | _,_=>False
def yu (l:List (Value×iN)):List Wr:=l.flatMap fun it=>it.2.ws
def um (l:List (Value×iN)):List Tag:=l.flatMap fun it=>it.2.tags
theorem NN (a b:List Wr):(a++b).flatMap Wr.xu=a.flatMap Wr.xu++b.flatMap Wr.xu:=List.flatMap_append
theorem take1 (H:Rel cx σ α F a w) {v:Value} {tk:iN} (h:Ak cx σ α F w v tk) :
  ∃α' F' cs fo lw lh,Rel cx (aC tk.ws σ) α' F' a w∧oK cx σ α F w (aC tk.ws σ) α' F' w lw lh∧VC tk.k v cs∧Held cx (aC tk.ws σ) α' F' w tk.k tk.x tk.own tk.tags cs fo∧
   bg (aC tk.ws σ) (aU tk.own tk.k) tk.tags=true∧(∀b∈F,b∈F')∧(∀b∈fo,b∉F)∧(∀q,q∉tk.ws.flatMap Wr.xu→Same σ α (aC tk.ws σ) α' q):=by
 cases h with
 | held hws cs hv hh hc=>
  rw [hws]
  exact ⟨α,F,cs,[],_,_,H,Iu H ⟨rfl,rfl,rfl⟩ (Nat.le_refl _) (fun _ _ h=>absurd rfl h) (fun b hb=>.inl hb) H.Fw,hv,hh,hc,fun _ h=>h,fun b hb=>by simp at hb,fun q _=>ny ..⟩
 | ref r R hr hv e hk hd=>
  subst e
  obtain ⟨h1,h2,h3,h4⟩:=kill H hr hk hv
  refine ⟨_,_,α.hdr r,α.fo r,_,_,h1,h2,hd,h3,h4,fun b hb=>List.mem_append_right _ hb,fun b hb hF=>H.jH r R hr b (List.mem_append_right _ hb) hF, ?_⟩
  intro q hq
  have hq':q≠r:=by simpa [Wr.xu] using hq
  exact iw hq'
 | cut r R cs hr hv hk e hd hl Yc how=>
  obtain ⟨e1,e2,e3,e4⟩:=e
  obtain ⟨h1,h2,h3,h4⟩:=kill H hr hk hv
  rw [e3]
  refine ⟨_,_,cs,α.fo r,_,_,h1,h2,hd, ?_, ?_,fun b hb=>List.mem_append_right _ hb,fun b hb hF=>H.jH r R hr b (List.mem_append_right _ hb) hF, ?_⟩
  ·rw [e1,e2]
   refine ⟨fun hc=>?_,h3.wt,h3.sub,h3.nd,hl⟩
   have:=h3.ow (by rw [←Yc]; exact hc)
   exact how _ this
  ·rw [e1,e2]
   show bg (az σ r cz) (aU R.own tk.k) R.tags=true
   rw [Yc]; exact h4
  ·intro q hq
   have hq':q≠r:=by simpa [Wr.xu] using hq
   exact iw hq'
 | gap r R p d z hr hv hg hz fT hown hpv e hn=>
  subst e
  obtain ⟨cs,wh,hn1,hn2⟩:=hn
  obtain ⟨cs1,o7,gp,rest,g1,g2,g3,g4,g5,_⟩:=gap H hr hv hg hz fT hown hpv
  rw [hn1] at g1
  simp only [Option.some.injEq,Prod.mk.injEq] at g1
  obtain ⟨rfl,rfl⟩:=g1
  have hcl:bg (az σ r (sK R d z)) (aU R.own d.1) R.tags=true:=by
   rw [g5]
   exact wF hv.2 (fun _ h=>h) (Fq p hg hown)
  refine ⟨_,_,cs,gp,_,_,g2,g3,hn2, ?_, ?_,fun b hb=>List.mem_append_right _ hb, ?_, ?_⟩
  ·refine ⟨fun hc=>?_,g4.wt,g4.sub,g4.nd,g4.len⟩
   exact xh (fun t ht=>Tz t ht) (g4.ow (by rw [IL d.1 (fun _ h=>h)] at hc; exact hc))
  ·show bg (az σ r (sK R d z)) (aU (d.1.tys.filter fun t=>ay t R.own) d.1) R.tags=true
   rw [IL d.1 (fun _ h=>h)]
   exact hcl
  ·intro b hb hF
   have:=g2.Fw
   exact (List.nodup_append.1 this).2.2 b hb b hF rfl
  ·intro q hq
   have hq':q≠r:=by simpa [Wr.xu] using hq
   exact iw hq'
theorem fu {σ':St} {tys:List TypeId} {T:List Tag} (h:∀t∈T,σ'.roots t.1=σ.roots t.1):bg σ' tys T=bg σ tys T:=by
 induction T with
 | nil=>rfl
 | cons t T ih=>
  obtain ⟨q,n⟩:=t
  simp only [bg]
  rw [ih (fun t ht=>h t (by simp [ht])),h (q,n) (by simp)]
theorem Ak.stays {σ':St} {α':dN} {F':List Nat} {lw lh:Nat→List Nat} {v:Value} {tk:iN} (h:Ak cx σ α F w v tk) (H:Rel cx σ α F a w) (T:oK cx σ α F w σ' α' F' w lw lh)
  (hs:∀q,(q∈tk.ws.flatMap Wr.xu∨q∈tk.tags.map (·.1))→Same σ α σ' α' q):Ak cx σ' α' F' w v tk:=by
 cases h with
 | held hws cs hv hh hc=>
  exact .held hws cs hv (hh.turn H T (fun b hb=>by simp at hb)) (by rw [fu (fun t ht=>(hs t.1 (.inr (List.mem_map.2 ⟨t,ht,rfl⟩))).root)]; exact hc)
 | ref r R hr hv e hk hd=>
  subst e
  have hS:=hs r (.inl (by simp [Wr.xu]))
  refine .ref r R ((hS.live R).2 hr) ⟨hv.1, ?_⟩ rfl hk (by rw [hS.hdr]; exact hd)
  rw [fu (fun t ht=>(hs t.1 (.inr (List.mem_map.2 ⟨t,ht,rfl⟩))).root)]
  exact hv.2
 | cut r R cs hr hv hk e hd hl Yc how=>
  have hS:=hs r (.inl (by rw [e.2.2.1]; simp [Wr.xu]))
  refine .cut r R cs ((hS.live R).2 hr) ⟨hv.1, ?_⟩ hk e hd hl Yc (by rw [hS.hdr,hS.fo]; exact how)
  rw [fu (fun t ht=>(hs t.1 (.inr (List.mem_map.2 ⟨t,by rw [e.2.1]; exact ht,rfl⟩))).root)]
  exact hv.2
 | gap r R p d z hr hv hg hz fT hown hpv e hn=>
  subst e
  have hS:=hs r (.inl (by simp [Wr.xu]))
  refine .gap r R p d z ((hS.live R).2 hr) ⟨hv.1, ?_⟩ hg hz fT hown hpv rfl (by rw [hS.hdr,hS.wh]; exact hn)
  rw [fu (fun t ht=>(hs t.1 (.inr (List.mem_map.2 ⟨t,ht,rfl⟩))).root)]
  exact hv.2
theorem uX.turn {σ':St} {α':dN} {F':List Nat} {lw lh:Nat→List Nat} (H:Rel cx σ α F a w) (T:oK cx σ α F w σ' α' F' w lw lh) (hF:∀b∈F,b∈F') :
  ∀{l:List (Value×iN)} {hs:List (List Value×List Nat)},(∀t∈um l,σ'.roots t.1=σ.roots t.1)→uX cx σ α F w l hs→uX cx σ' α' F' w l hs
 | [],[],_,_=>trivial
 | it :: l,h :: hs,hr,hh=>by
  refine ⟨⟨hh.1.1,hh.1.2.1.turn H T (fun b hb=>⟨rfl,hF b (hh.1.2.1.sub b hb)⟩), ?_⟩,uX.turn H T hF (fun t ht=>hr t (by simp only [um,List.flatMap_cons,List.mem_append]; exact .inr ht)) hh.2⟩
  rw [fu (fun t ht=>hr t (by simp only [um,List.flatMap_cons,List.mem_append]; exact .inl ht))]
  exact hh.1.2.2
 | [],_ :: _,_,h=>h.elim
 | _ :: _,[],_,h=>h.elim
theorem CU {l:List Nat}:Jw l=true↔l.Nodup:=by
 induction l with
 | nil=>simp [Jw]
 | cons n l ih=>simp [Jw,ih,aV]
theorem takes:∀(l:List (Value×iN)) {σ:St} {α:dN} {F:List Nat},Rel cx σ α F a w→(∀it∈l,Ak cx σ α F w it.1 it.2)→((yu l).flatMap Wr.xu).Nodup→(∀t∈um l,t.1∉(yu l).flatMap Wr.xu)→
  ∃α' F' hs,Rel cx (aC (yu l) σ) α' F' a w∧uX cx (aC (yu l) σ) α' F' w l hs∧(hs.flatMap (·.2)).Nodup∧(∀b∈hs.flatMap (·.2),b∉F)∧(∀b∈F,b∈F')∧
   (∀q,q∉(yu l).flatMap Wr.xu→Same σ α (aC (yu l) σ) α' q)∧
   (∀k x own tags cs fo,Held cx σ α F w k x own tags cs fo→Held cx (aC (yu l) σ) α' F' w k x own tags cs fo)∧Views cx σ α F w (aC (yu l) σ) α' F' w∧(∀t,IK σ t→IK (aC (yu l) σ) t)∧(∀q,σ.roots q=none→(aC (yu l) σ).roots q=none):=by
 intro l
 induction l with
 | nil=>intro σ α F H _ _ _; exact ⟨α,F,[],H,trivial,List.nodup_nil,fun b hb=>by simp at hb,fun _ h=>h,fun q _=>ny ..,fun _ _ _ _ _ _ h=>h,fun T tys _ h=>⟨h,fun b hb _=>⟨hb,rfl⟩,fun b hb _=>⟨hb,rfl⟩⟩,fun _ h=>h,fun _ h=>h⟩
 | cons it l ih=>
  intro σ α F H hT hnd zZ
  have e1:yu (it :: l)=it.2.ws++yu l:=rfl
  have e2:um (it :: l)=it.2.tags++um l:=rfl
  rw [e1,NN] at hnd zZ
  rw [e2] at zZ
  obtain ⟨dO,F1,cs,fo,lw,lh,H1,T1,h1,h2,h3,h4,h5,h6⟩:=take1 H (hT it (by simp))
  have hnd':=List.nodup_append.1 hnd
  obtain ⟨J6,F2,hs,H2,g1,g2,g3,g4,g5,g6,g7,g8,g9⟩:=ih H1 (fun it' hi=>(hT it' (by simp [hi])).stays H T1 (fun q hq=>by
   refine h6 q ?_
   rcases hq with hq | hq
   ·intro hq'
    exact hnd'.2.2 q hq' q (by
     rw [List.mem_flatMap] at hq ⊢
     obtain ⟨wr,hw1,hw2⟩:=hq
     exact ⟨wr,List.mem_flatMap.2 ⟨it',hi,hw1⟩,hw2⟩) rfl
   ·obtain ⟨t,ht,rfl⟩:=List.mem_map.1 hq
    intro hq'
    exact zZ t (List.mem_append_right _ (List.mem_flatMap.2 ⟨it',hi,ht⟩)) (List.mem_append_left _ hq'))) hnd'.2.1
   (fun t ht hq=>zZ t (List.mem_append_right _ ht) (List.mem_append_right _ hq))
  rw [e1,dD]
  have hq1:∀q,q∉(it.2.ws).flatMap Wr.xu++(yu l).flatMap Wr.xu→Same σ α (aC (yu l) (aC it.2.ws σ)) J6 q:=by
   intro q hq
   simp only [List.mem_append,not_or] at hq
   have s1:=h6 q hq.1
   have s2:=g5 q hq.2
   exact ⟨s2.root.trans s1.root,s2.loc.trans s1.loc,s2.hdr.trans s1.hdr,s2.fo.trans s1.fo⟩
  refine ⟨J6,F2,(cs,fo) :: hs,H2,⟨⟨h1,g6 _ _ _ _ _ _ h2, ?_⟩,g1⟩, ?_, ?_,fun b hb=>g4 b (h4 b hb), ?_,fun k x own tags cs fo hh=>g6 _ _ _ _ _ _ (hh.turn H T1 (fun b hb=>⟨rfl,h4 b (hh.sub b hb)⟩)), ?_,fun t ht=>g8 t (T1.tag ht), ?_⟩
  ·rw [fu (fun t ht=>(g5 t.1 (fun hq=>zZ t (List.mem_append_left _ ht) (List.mem_append_right _ hq))).root)]
   exact h3
  ·simp only [List.flatMap_cons]
   exact List.nodup_append.2 ⟨h2.nd,g2,fun b hb c hc e=>g3 c hc (e▸h2.sub b hb)⟩
  ·intro b hb hF
   simp only [List.flatMap_cons,List.mem_append] at hb
   rcases hb with hb | hb
   ·exact h5 b hb hF
   ·exact g3 b hb (h4 b hF)
  ·rw [NN]
   exact hq1
  ·intro T tys hw hc
   obtain ⟨k1,k2,k3⟩:=g7 T tys (fun t ht=>T1.tag (hw t ht)) hc
   obtain ⟨j1,j2,j3⟩:=T1.views H T tys hw k1
   refine ⟨j1,fun b hb ht=>?_,fun b hb ht=>?_⟩
   ·obtain ⟨a1,a2⟩:=j2 b hb ht
    exact ⟨(k2 b a1 ht).1,rfl⟩
   ·obtain ⟨a1,a2⟩:=j3 b hb ht
    exact ⟨(k3 b a1 ht).1,rfl⟩
  ·intro q hq
   refine g9 q ?_
   cases hq2:(aC it.2.ws σ).roots q with
   | none=>rfl
   | some Q=>
    exfalso
    by_cases hm:q∈(it.2.ws).flatMap Wr.xu
    ·have:=hT it (by simp)
     cases this with
     | held hws cs hv hh hc=>rw [hws] at hm; simp at hm
     | ref r R hr hv e hk hd=>rw [e] at hm; simp [Wr.xu] at hm; subst hm; rw [hr.1] at hq; simp at hq
     | cut r R cs hr hv hk e hd hl Yc how=>rw [e.2.2.1] at hm; simp [Wr.xu] at hm; subst hm; rw [hr.1] at hq; simp at hq
     | gap r R p d z hr hv hg hz fT hown hpv e hn=>rw [e] at hm; simp [Wr.xu] at hm; subst hm; rw [hr.1] at hq; simp at hq
    ·rw [(h6 q hm).root,hq] at hq2
     simp at hq2
end
end Go.Proofs.YtdknpknohipffaaGreat.Ow

/- The framework, part 15: a store; a new root. Own work of this seat. -/
namespace Go.Proofs.YtdknpknohipffaaGreat.Ow
open Go
variable [Fr]
theorem iQ (j:Nat):fK (su j)=true:=by simp [fK,su,Nat.add_mod]
theorem Gp {ws:List Wr} {T:List Tag}:Ew ws T=true↔∀t∈T,t.1∉ws.flatMap Wr.xu:=by
 unfold Ew
 rw [List.all_eq_true]
 simp [aV]
theorem adG {ws:List Wr} {r:Nat} (h:(ws.all fun w=>!w.loc.beq (.r r))=true):r∉ws.flatMap Wr.xu:=by
 rw [List.mem_flatMap]
 rintro ⟨w,h1,h2⟩
 have:=List.all_eq_true.1 h w h1
 cases w with
 | s n a=>simp [Wr.xu] at h2
 | r n o=>
  simp only [Wr.xu,List.mem_singleton] at h2
  subst h2
  simp [Wr.loc,Loc.beq] at this
theorem C8:∀(n:Nat) {c:K} {x:El c} {s:Dat} {q:Nat×K},aQ n c x=some s→bD n c=some q→q.2=s.1:=by
 intro n
 induction n with
 | zero=>intro c x s q h1 h2; cases c with
  | pair a b=>simp only [aQ,bD,Option.some.injEq] at h1 h2; subst h1; subst h2; rfl
  | _=>simp [aQ] at h1
 | succ n ih=>intro c x s q h1 h2; cases c with
  | pair a b=>
   simp only [aQ,bD] at h1 h2
   cases h3:bD n b with
   | none=>rw [h3] at h2; simp at h2
   | some q3=>rw [h3] at h2; simp only [Option.some.injEq] at h2; subst h2; exact ih (q:=q3) h1 h3
  | _=>simp [aQ] at h1
theorem abn {h:Heap}:∀(p:List Stp) {k:K} {x:El k} {cs:List Value} {c1:List Value} {w1:Option (Nat×Nat)},ah p k=[]→(aT p k x).isSome=true→bF h p k cs none=some (c1,w1)→w1=none:=by
 intro p
 induction p with
 | nil=>intro k x cs c1 w1 _ _ h; simp only [bF,Option.some.injEq,Prod.mk.injEq] at h; exact h.2.symm
 | cons s p ih=>
  intro k x cs c1 w1 h0 hs h
  cases s with
  | gL n=>
   cases k with
   | st c=>
    simp only [aT] at hs
    cases hg:aQ n c x with
    | none=>rw [hg] at hs; simp at hs
    | some s=>
     rw [hg] at hs
     have hp2:ah (.gL n :: p) (.st c)=ah p s.1:=by simp [ah,bU n hg]
     rw [hp2] at h0
     simp only [bF] at h
     cases ho:bD n c with
     | none=>rw [ho] at h; simp at h
     | some q=>
      have hk2:q.2=s.1:=C8 n (c:=c) hg ho
      rw [ho] at h
      obtain ⟨q1,q2⟩:=q
      simp only at hk2
      subst hk2
      exact ih h0 hs h
   | _=>simp [aT] at hs
  | idx i=>
   cases k with
   | sl e k=>simp [ah] at h0
   | _=>simp [aT] at hs
theorem K.ZO:∀k:K,k.beq k=true:=by
 intro k
 induction k with
 | int ik=>cases ik <;> rfl
 | sl e k ih=>simp [K.beq,ih]
 | pair a b iha ihb=>simp [K.beq,iha,ihb]
 | st f ih=>exact ih
 | gap n=>simp [K.beq]
 | id e=>simp [K.beq]
 | _=>rfl
theorem V8:∀(q:List Stp) {k:K} {x:El k},oZ q k x→(aT q k x).isSome=true:=by
 intro q
 induction q with
 | nil=>intro k x _; rfl
 | cons s q ih=>
  intro k x h
  cases s with
  | gL n=>
   cases k with
   | st c=>
    simp only [oZ] at h
    simp only [aT]
    cases hc:aQ n c x with
    | none=>rw [hc] at h; exact h.elim
    | some d=>rw [hc] at h; exact ih h
   | _=>exact h.elim
  | idx i=>
   cases k with
   | sl e k=>exact ih h.2.2
   | _=>exact h.elim
theorem acJ:∀(q:List Stp) {k:K} {x:El k},ah q k=[]→(aT q k x).isSome=true→oZ q k x:=by
 intro q
 induction q with
 | nil=>intro k x _ _; trivial
 | cons s q ih=>
  intro k x h0 hs
  cases s with
  | idx i=>cases k <;> simp [ah,aT] at h0 hs
  | gL n=>
   cases k with
   | st c=>
    simp only [aT] at hs
    cases hg:aQ n c x with
    | none=>rw [hg] at hs; simp at hs
    | some s=>
     rw [hg] at hs
     simp only at hs
     have hp2:ah (.gL n :: q) (.st c)=ah q s.1:=by simp [ah,bU n hg]
     rw [hp2] at h0
     simp only [oZ,hg]
     exact ih h0 hs
   | _=>simp [aT] at hs
section
variable {cx:Cx} {σ:St} {α:dN} {F:List Nat} {a:Act} {w:World} {r:Nat} {R:Root}
theorem YL {P:Program} {T:jF} {t:TypeId} {kk:K} {x:El kk} {pR:List TypeId} {x8:List Tag} {Qx:List Value} {Ve:List Nat} {v:Value} (hT:fP P T t kk)
  (H:Rel cx σ α F a w) (hr:aR σ r R) (hv:bq σ R) {p:List Stp} {d z:Dat} (hg:aT p R.k R.x=some d) (hz:eF p R.k R.x ⟨kk,x⟩=some z) (fT:oZ p R.k R.x) (hown:∀t∈ah p R.k,ay t R.own=true)
  (hh:Held cx σ α F w kk x pR x8 Qx Ve) (hc:bg σ (aU pR kk) x8=true) (KS:VC kk v Qx) (hd:d.1=kk∨d.1=kk.hole)
  (hself:kk.flat=true∨Rl R r x8 (aU pR kk)=true) (hbad:∀t∈ah p R.k,t∉aU pR kk) (kp:Bool)
  {cs1:List Value} {b o:Nat} (hn:bF (hp w) p R.k (α.hdr r) (eD α R r)=some (cs1,some (b,o))) :
  ∃w',(Instr.storeAt t (.pointer (some ⟨b,o,none⟩)) v).run P w=.ok () w'∧∃α' F',
   Rel cx (az σ r (bG R z (bI R.own (aU pR kk)) (bif kk.flat then R.tags else iR (Am r x8) R.tags) [eT R p] ((bif d.1.beq kk then [] else wH kk)++kk.tys) kp)) α' F' a w':=by
 have K0:=H.roots r R hr
 have hnt:=H.dF r R hr.1
 have X0:=hh.ow hc
 obtain ⟨_,_,hbb,⟨arr,e,lo,hi,hb,hf,hs,hlast⟩,_⟩:=sD H hr hv hg fT hown hn
 have hds:kk.size=d.1.size:=by
  rcases hd with h | h
  ·rw [h]
  ·rw [h,yK]
 have hone:=Ut hT.gP X0
 have hrun:=Kq (o:=o) hT hb hf hh.len (by omega) KS hone
 obtain ⟨s1,s2,lI,s3,s4,s5,s6⟩:=xN b Qx w arr e (lo,hi) o hb (by rw [hh.len]; omega)
 have s7:=sG b Qx w o
 refine ⟨_,hrun, ?_⟩
 have aeh:∀t∈ah p R.k,ay t (bI R.own (aU pR kk))=true:=fun t ht=>dI.2 ⟨hown t ht,hbad t ht⟩
 obtain ⟨fd,ok',gp,rest,rX,o7,hn',hpf,hd1,hty,_,Di,hwf,hgo⟩:=H.place hr hv (own':=bI R.own (aU pR kk)) hg fT (fun t h=>(dI.1 h).1) aeh
 rw [hn] at hn'
 simp only [Option.some.injEq,Prod.mk.injEq] at hn'
 obtain ⟨rfl,rfl⟩:=hn'
 obtain ⟨ft,F6,hpt,hOt⟩:=yA (own':=bI R.own (aU pR kk)) (fun t ht hm=>by
  rcases Fp (own:=pR) ht with h | h
  ·exact absurd h (dI.1 hm).2
  ·exact h) (wB (aU pR kk) (fun _ h=>h) X0)
 have aki:=hpt.nodup hh.nd
 have hft:∀b∈ft,b∈Ve:=fun b hb=>hpt.mem_iff.2 (List.mem_append_left _ hb)
 have agd:∀b∈F6,b∈Ve:=fun b hb=>hpt.mem_iff.2 (List.mem_append_right _ hb)
 have KQ:b∉F:=H.jH r R hr b hbb
 have aj9:=xy hOt
 suffices hP:wC cx σ α F w r R p d (bI R.own (aU pR kk)) cs1 (some (b,o)) gp rest ⟨kk,x⟩ z (bif kk.flat then R.tags else iR (Am r x8) R.tags) [eT R p] ((bif d.1.beq kk then [] else wH kk)++kk.tys) kp ft (F.filter fun b=>!ay b Ve) Qx (w.setCells b o Qx) by
  obtain ⟨α',h,_⟩:=hgo hP
  exact ⟨α',_,h⟩
 have hF':∀b',b'∈F.filter (fun b=>!ay b Ve)↔b'∈F∧b'∉Ve:=fun b'=>by rw [List.mem_filter]; simp [aV]
 refine ⟨hz,hds, ?_,⟨s7.1,s7.2.1,s7.2.2⟩,by omega, ?_, ?_,fun h=>by simp at h,by rw [hh.len,hds], .inl (by simp), ?_,fun b' hb'=>.inr (.inl (hh.sub b' (hft b' hb'))),(List.nodup_append.1 aki).1,fun b' hb'=>.inl ((hF' b').1 hb').1,H.Fw.filter _,fun b' hb' h=>((hF' b').1 h).2 (hft b' hb'), .inr (by simp), ?_, ?_, ?_⟩
 ·rcases hd with h | h
  ·rw [h]; exact fun _ h=>h
  ·rw [h,VS]; intro t ht; simp at ht
 ·intro b' _ hne
  refine .inr (.inr ?_)
  by_cases e:b'=b
  ·subst e; exact ⟨o,rfl,by simp⟩
  ·exact absurd (s1 b' e) hne
 ·intro b' o' e'
  simp only [Option.some.injEq,Prod.mk.injEq] at e'
  obtain ⟨rfl,rfl⟩:=e'
  refine ⟨fun i hi=>?_,arr,lI,e,(lo,hi),hb,s3,s4,fun i hi=>?_⟩
  ·unfold cellAt
   rw [s3]
   exact s5 i hi
  ·exact s6 i (by rw [hh.len,hds]; exact hi)
 ·cases hfl:kk.flat with
  | true=>exact ⟨fun _ h=>h,hnt.1,hnt.2.2⟩
  | false=>
   refine ⟨fun t ht=>cZ.2 (.inr ht),fun t ht=>?_,fun n ht=>?_⟩
   ·rcases cZ.1 ht with h | h
    ·exact hh.wt t (rC.1 h).1
    ·exact hnt.1 t h
   ·rcases cZ.1 ht with h | h
    ·exact (rC.1 h).2 rfl
    ·exact hnt.2.2 n h
 ·cases hbq:d.1.beq kk with
  | true=>exact .inl (K.eq_of_beq hbq).symm
  | false=>
   have hdh:d.1=kk.hole:=hd.resolve_left (fun e=>by rw [e,K.ZO] at hbq; simp at hbq)
   refine .inr (.inl fun q' h1 h2=>?_)
   have hnil:ah q' kk=[]:=by
    cases he:ah q' kk with
    | nil=>rfl
    | cons e l=>exact absurd (List.mem_append_right _ (qM q' e (by rw [he]; simp))) (h2 e (by rw [show ah q' (⟨kk,x⟩:Dat).1=ah q' kk from rfl,he]; simp))
   obtain ⟨dk,dx⟩:=d
   simp only at hdh
   subst hdh
   obtain ⟨h3,h4⟩:=X9 q' (y:=x) hnil h1
   refine ⟨?_, ?_⟩
   ·show ah q' kk.hole=ah q' kk
    rw [h3,hnil]
   ·show (aT q' kk.hole dx).isSome=true
    rw [tZ q' (y:=xE kk x)]
    exact h4
 ·intro _ q c0 w0 hpq htq hnq hqs
  obtain ⟨dk,dx⟩:=d
  rcases hd with ek | ek
  ·simp only at ek
   subst ek
   exact yE q hpq (fun t ht=>⟨(htq t ht).1,fun h=>(htq t ht).2 (List.mem_append_right _ h)⟩) hnq
  ·simp only at ek
   subst ek
   have hs0:(aT q kk.hole dx).isSome=true:=V8 q hpq
   rw [tZ q (y:=xE kk x)] at hs0
   obtain ⟨h1,h2,h3,_,h5⟩:=Ng (h:=hp w) q (x:=x) hs0
   have aoI:bF (hp w) q kk cs1 (some (b,o))=some (c0,w0):=by rw [←h5]; exact hnq
   exact yE (own:=bI R.own (aU pR kk)) q (acJ q h1 h3) (fun t ht=>by rw [h1] at ht; simp at ht) aoI
 ·intro α' Tn hblk hval
  cases hfl:kk.flat with
  | true=>
   obtain ⟨e1,e2⟩:=acF (h':=hp (w.setCells b o Qx)) (own':=bI R.own (aU pR kk)) (ok':=iU cx (az σ r (bG R z (bI R.own (aU pR kk)) (bif kk.flat then R.tags else iR (Am r x8) R.tags) [eT R p] ((bif d.1.beq kk then [] else wH kk)++kk.tys) kp)) α' (F.filter fun b=>!ay b Ve) (w.setCells b o Qx) (bif true then R.tags else iR (Am r x8) R.tags)) hfl hOt
   subst e1
   rw [hfl] at e2
   exact e2
  | false=>
   rw [hfl] at Tn hblk hval
   have JK:=hself.resolve_left (by rw [hfl]; simp)
   simp only [cond_false] at Tn hblk hval ⊢
   generalize hR':bG R z (bI R.own (aU pR kk)) (iR (Am r x8) R.tags) [eT R p] ((bif d.1.beq kk then [] else wH kk)++kk.tys) kp=R' at *
   have hRw:R'.w=[eT R p]++R.w:=by rw [←hR']; rfl
   have hRt:R'.tags=iR (Am r x8) R.tags:=by rw [←hR']; rfl
   have hRv:R'.FX=aU (bI R.own (aU pR kk)) z.1:=by rw [←hR']; rfl
   have hRd:R'.aZ=false:=hval.1
   have akt:∀t∈aU pR kk,t∈R'.FX:=by
    intro t ht
    rw [hRv]
    have h1:=VQ (own:=pR) (own':=bI R.own (aU pR kk)) (k:=kk) (fun t ht hm=>by
     rcases Fp (own:=pR) ht with h | h
     ·exact absurd h (dI.1 hm).2
     ·exact h) t ht
    rcases (PZ p hg hz).1 t h1 with h | ⟨q,h2,h3⟩
    ·exact h
    ·rw [aeh q h2] at h3; simp at h3
   have aay:∀n,(r,n)∈x8→eT R p∉aU pR kk:=by
    intro n hn1 hl
    unfold eT at hl
    cases hpt:ah p R.k with
    | nil=>
     rw [hpt] at hl
     simp only [List.getLastD_nil] at hl
     unfold Rl at JK
     rw [Bool.or_eq_true] at JK
     rcases JK with h | h
     ·have:=List.all_eq_true.1 h _ hn1
      simp at this
     ·unfold Root.bt at hl
      cases hk:R.kind with
      | var tv=>rw [hk] at h hl; simp only at h hl; rw [Bool.not_eq_true',aV] at h; exact h hl
      | par=>rw [hk] at h; simp at h
      | anon=>
       rcases Di b o rfl with h1 | ⟨o0,ew,_⟩
       ·
        rw [hpt] at hbad
        have:=hty b (List.mem_append_right _ h1)
        have hne:eD α R r=none:=by unfold eD; rw [hk]
        rw [hne] at hn
        have:=abn p hpt (by rw [hg]; rfl) hn
        simp at this
       ·unfold eD at ew; rw [hk] at ew; simp at ew
      | dead=>have:=hr.2; simp [Root.aZ,hk] at this
    | cons e l=>
     rw [hpt,List.getLastD_eq_getLast?] at hl
     have:(e :: l).getLast?.getD R.bt∈(e :: l):=by
      rw [List.getLast?_eq_some_getLast (by simp)]
      exact List.getLast_mem _
     exact hbad _ (by rw [hpt]; exact this) hl
   have hc':bg (az σ r R') (aU pR kk) x8=true:=by
    rw [qF]
    intro tg zZ
    by_cases e:tg.1=r
    ·refine .inr ⟨R',by rw [e]; exact aK ..,hRd, ?_⟩
     rw [qF] at hc
     rcases hc tg zZ with h | ⟨Q,h1,h2,h3⟩
     ·rw [e,hnt.2.1] at h; simp at h
     ·rw [e,hr.1] at h1
      simp only [Option.some.injEq] at h1
      subst h1
      rw [hRw]
      refine (ru ?_).2 ⟨fun t ht=>?_,h3⟩
      ·rcases hh.wt tg zZ with h | ⟨Q,q1,q2⟩
       ·rw [e,hnt.2.1] at h; simp at h
       ·rw [e,hr.1] at q1
        simp only [Option.some.injEq] at q1
        subst q1
        rcases q2 with q2 | q2
        ·rw [hr.2] at q2; simp at q2
        ·exact q2
      ·simp only [List.mem_singleton] at ht
       subst ht
       exact aay tg.2 (by rw [←e]; exact zZ)
    ·have h2:=hval.2
     rw [hRt,qF] at h2
     rcases h2 tg (cZ.2 (.inl (rC.2 ⟨zZ,e⟩))) with h | ⟨Q,h3,h4,h5⟩
     ·exact .inl h
     ·refine .inr ⟨Q,h3,h4, ?_⟩
      unfold clean at h5 ⊢
      rw [List.all_eq_true] at h5 ⊢
      intro x hx
      have:=h5 x hx
      simp only [Bool.not_eq_true',aV] at this ⊢
      exact fun h=>this (akt x h)
   obtain ⟨_,hV,_⟩:=Tn.views H x8 (aU pR kk) hh.wt hc'
   have hsame:∀b',b'≠b→hp (w.setCells b o Qx) b'=hp w b':=s1
   refine bC ?_ ?_ (fun b' hb'=>hsame b' (fun e=>KQ (e▸hh.sub b' (hft b' hb')))) hOt
   ·rintro b' (⟨h1,h2⟩ | h)
    ·exact (hV b' h1 (.inl h2)).2
    ·exact hsame b' (fun e=>KQ (e▸hh.sub b' (agd b' h)))
   ·rintro b' (⟨h1,h2⟩ | h)
    ·obtain ⟨g1,g2,g3,g4,g5⟩:=(hV b' h1 (.inl h2)).1
     refine ⟨g1,g2,g3,fun q Q hq hbq=>?_,fun h0=>?_⟩
     ·obtain ⟨n,hn1⟩:=g4 q Q hq hbq
      by_cases e:q=r
      ·exfalso
       subst e
       obtain ⟨rfl,_⟩:=eU hq
       obtain ⟨tt,ht1,ht2⟩:=h2
       have abp:∀e,mine cx w b'→uo (hp w) b'=some e→ay e (bI R.own (aU pR kk))=true→False:=by
        intro e hmn he hm
        have ht2:=H.VP hmn ht2
        rw [ht2] at he
        simp only [Option.some.injEq] at he
        subst he
        exact (dI.1 hm).2 ht1
       rcases hblk b' hbq with ⟨o',h⟩ | h | h
       ·unfold Rl at JK
        rw [Bool.or_eq_true] at JK
        rcases JK with h3 | h3
        ·have:=List.all_eq_true.1 h3 _ hn1
         simp at this
        ·cases hk:R.kind with
         | var tv=>
          rw [hk] at h3
          simp only at h3
          rw [Bool.not_eq_true',aV] at h3
          obtain ⟨_,aqe,e2,lo2,hi2,f1,_,_,f4⟩:=K0.mem b' o' h
          have ht2:=H.VP (K0.mine b' (by unfold blk; rw [h]; exact List.mem_cons_self)) ht2
          unfold uo at ht2
          rw [f1] at ht2
          simp only [Option.some.injEq] at ht2
          exact h3 (by rw [←f4 tv hk,ht2]; exact ht1)
         | par=>rw [hk] at h3; simp at h3
         | anon=>unfold eD at h; rw [hk] at h; simp at h
         | dead=>have:=hr.2; simp [Root.aZ,hk] at this
       ·obtain ⟨e,_,h3,h4⟩:=aj9 b' h
        exact abp e (H.fl b' (hh.sub b' (hft b' h))) h4 h3
       ·obtain ⟨e,_,h3,h4⟩:=hty b' (List.mem_append_right _ h)
        exact abp e (K0.mine b' (List.mem_append_right _ (hpf.mem_iff.2 (by simp [h])))) h4 h3
      ·exact ⟨n,cZ.2 (.inl (rC.2 ⟨hn1,e⟩))⟩
     ·rcases g5 h0 with ⟨j,n,h3,h4⟩ | h3
      ·refine .inl ⟨j,n,cZ.2 (.inl (rC.2 ⟨h3, ?_⟩)),h4⟩
       intro e
       have:=hnt.2.1
       rw [←e] at this
       simp only at this
       rw [iQ] at this
       simp at this
      ·exact .inr h3
    ·have aan:=hh.sub b' (agd b' h)
     have hm:=H.fl b' aan
     refine ⟨by have:=hm.1; omega,fun h2=>((hF' b').1 h2).2 (agd b' h),wm H aan,fun q Q hq hbq=>?_,fun h0=>?_⟩
     ·exfalso
      rcases jI hq with ⟨rfl,rfl,_⟩ | ⟨e,hq'⟩
      ·rcases hblk b' hbq with ⟨o',h2⟩ | h2 | h2
       ·exact H.jH _ _ hr b' (by rw [bT,eY]; exact .inl ⟨o',h2⟩) aan
       ·exact (List.nodup_append.1 aki).2.2 b' h2 b' h rfl
       ·exact H.jH _ _ hr b' (by rw [bT,eY,hpf.mem_iff]; exact .inr (by simp [h2])) aan
      ·obtain ⟨Q2,g1,g2⟩:=Tn.old q Q hq'.1
       have hns:Same σ α (az σ r R') α' q:=by
        refine Classical.byContradiction fun hns=>?_
        rcases g2 with ⟨h1,h2⟩ | ⟨_,h2⟩
        ·rw [cu σ R' e] at g1
         rw [hq'.1] at g1
         simp only [Option.some.injEq] at g1
         subst g1
         rw [hq'.2] at h1
         simp at h1
        ·rcases h2.2.2.2.2.2.2 with h3 | ⟨_,_,h3⟩
         ·rw [sM _ e,sM _ e] at h3
          simp at h3
         ·exact hns h3
       rw [hns.blk] at hbq
       exact H.jH _ _ hq' b' hbq aan
     ·rcases hm.2 with h | ⟨j,pi,h1,h2⟩
      ·omega
      ·exact .inr ⟨j,pi,h1,h2⟩
end
end Go.Proofs.YtdknpknohipffaaGreat.Ow

/- The framework, part 16: a new root. Own work of this seat. -/
namespace Go.Proofs.YtdknpknohipffaaGreat.Ow
open Go
variable [Fr]
theorem gF (d c:Nat):fK (bE d c)=false:=by
 unfold fK bE
 have:(4 * (8 * d+c)+2) % 4=2:=by omega
 rw [this]; rfl
section
variable {cx:Cx} {σ:St} {α:dN} {F:List Nat} {a:Act} {w:World} {r:Nat}
theorem T9 {T:List Tag} (h:fC σ T) (hn:σ.roots r=none) (hx:fK r=false):∀n,(r,n)∉T:=by
 intro n hn2
 rcases h _ hn2 with h | ⟨Q,h,_⟩
 ·simp only at h; rw [hx] at h; simp at h
 ·simp only at h; rw [hn] at h; simp at h
theorem R4 (H:Rel cx σ α F a w) (hn:σ.roots r=none) (hx:fK r=false) {R':Root} (hd:R'.aZ=false) (hk:R'.kind≠.par) (ve:fC σ R'.tags) (loc:Nat×Nat) (hdr':List Value) (dK F':List Nat)
  (hblk:∀b∈iE R' loc dK,b∈F∧b∉F') (hnd:(iE R' loc dK).Nodup) (hF':∀b∈F',b∈F) (aag:F'.Nodup)
  (how:bg σ R'.FX R'.tags=true→Ow (hp w) R'.own (fun b=>iU cx σ α F w R'.tags b∨(b∈F∧b∉F'∧b∉iE R' loc dK)) R'.k R'.x hdr' dK) (hlen:hdr'.length=R'.k.size)
  (hmem:∀b o,Aa R' loc=some (b,o)→Cells (hp w) b o hdr'∧∃arr e lo hi,hp w b=some (.cells arr e (lo,hi))∧(∀i,i<arr.size→¬(lo≤i∧i<hi))∧o+R'.k.size≤arr.size∧(∀t,R'.kind=.var t→e=t)) :
  Rel cx (az σ r R') (aJ α r loc hdr' dK) F' a w∧oK cx σ α F w (az σ r R') (aJ α r loc hdr' dK) F' w (wK r []) (wK r []):=by
 have hns:∀{q:Nat},¬Same σ α (az σ r R') (aJ α r loc hdr' dK) q→q=r:=fun {q} h=>Classical.byContradiction fun e=>h (iw e)
 have hold:∀{q Q},σ.roots q=some Q→q≠r:=fun {q Q} h e=>by rw [e,hn] at h; simp at h
 have T:oK cx σ α F w (az σ r R') (aJ α r loc hdr' dK) F' w (wK r []) (wK r []):=by
  refine ⟨rfl,⟨rfl,rfl,rfl⟩,Nat.le_refl _, ?_, ?_, ?_,fun b _ h=>absurd rfl h, ?_,aag, ?_, ?_,fun _ _ _ _ _ _ _ h=>absurd rfl h,fun q Q Q' h1 h2 _=>by rw [cu σ R' (hold h1),h1] at h2; simp only [Option.some.injEq] at h2; subst h2; exact ⟨rfl,rfl⟩⟩
  ·intro q Q hQ
   have e:=hold hQ
   refine ⟨Q,by rw [cu σ R' e]; exact hQ, ?_⟩
   cases hd:Q.aZ with
   | true=>exact .inl ⟨rfl,by intro hk; simp [Root.aZ,hk] at hd⟩
   | false=>exact .inr ⟨rfl,by rw [sM _ e]; rfl,by rw [sM _ e]; rfl,Nat.le_refl _,rfl,by simp [aJ,upd_ne _ _ e],fun _=>rfl, .inr ⟨sM _ e,sM _ e,iw e⟩⟩
  ·intro q Q hQ hs
   have e:=hns hs
   subst e
   rw [aK] at hQ
   simp only [Option.some.injEq] at hQ
   subst hQ
   refine ⟨fun t ht=>?_,hx,T9 ve hn hx⟩
   have hne:t.1≠q:=fun e=>T9 ve hn hx t.2 (by rw [←e]; exact ht)
   rcases ve t ht with h | ⟨Q,h1,h2⟩
   ·exact .inl h
   ·exact .inr ⟨Q,by rw [cu σ R' hne]; exact h1,h2⟩
  ·intro q Q hq hQ
   by_cases e:q=r
   ·subst e
    rw [aK] at hQ
    simp only [Option.some.injEq] at hQ
    subst hQ
    exact hk
   ·rw [cu σ R' e,hq] at hQ; simp at hQ
  ·rintro b (⟨q,Q,hq,hb,hno⟩ | hb)
   ·rcases jI hq with ⟨rfl,rfl,_⟩ | ⟨e,hq'⟩
    ·rw [eO] at hb
     exact .inl (hblk b hb).1
    ·rw [(iw (α:=α) (σ:=σ) (R:=R') e).blk] at hb
     exact absurd ⟨Q,hq',hb⟩ hno
   ·exact .inl (hF' b hb)
  ·intro q Q hq hs b hb
   have e:=hns hs
   subst e
   obtain ⟨rfl,_⟩:=eU hq
   rw [eO] at hb
   exact (hblk b hb).2
  ·intro q Q q' Q' hq hq' hne hs hs'
   exact absurd ((hns hs).trans (hns hs').symm) hne
 refine ⟨H.turn T ?_ ?_ ?_,T⟩
 ·intro q Q hq hs
  have e:=hns hs
  subst e
  obtain ⟨rfl,_⟩:=eU hq
  refine ⟨fun hv=>?_, ?_, ?_, ?_⟩
  ·have e1:(aJ α q loc hdr' dK).hdr q=hdr':=by simp [aJ,upd_same]
   have e2:(aJ α q loc hdr' dK).fo q=dK:=by simp [aJ,upd_same]
   rw [e1,e2]
   obtain ⟨h1,h2,_⟩:=T.views H Q.tags _ ve hv.2
   refine bC (fun _ _=>rfl) ?_ (fun _ _=>rfl) (wB _ (fun _ h=>h) (how h1))
   rintro b ⟨hb | ⟨g1,g2,g3⟩,hty⟩
   ·exact (h2 b hb (.inl hty)).1
   ·have hm:=H.fl b g1
    refine ⟨hm.1,g2,wm H g1,fun q' Q' hq' hb'=>?_,fun h0=>?_⟩
    ·exfalso
     rcases jI hq' with ⟨rfl,rfl,_⟩ | ⟨e,hq2⟩
     ·rw [eO] at hb'; exact g3 hb'
     ·rw [(iw (α:=α) (σ:=σ) (R:=Q) e).blk] at hb'
      exact H.jH _ _ hq2 b hb' g1
    ·rcases hm.2 with h | ⟨j,pi,h1,h2⟩
     ·omega
     ·exact .inr ⟨j,pi,h1,h2⟩
  ·simpa [aJ,upd_same] using hlen
  ·intro b o hb
   rw [jX] at hb
   simpa [aJ,upd_same] using hmem b o hb
  ·rw [eO]; exact hnd
 ·intro q Q hq hs
  exact absurd (hns hs) (hold hq.1)
 ·intro q Q hq hs
  exact absurd (hns hs) (hold hq.1)
theorem gY {R:Root} (h:R.kind=.anon) (loc:Nat×Nat) (fo:List Nat):iE R loc fo=fo:=by simp [iE,h]
theorem yI {R:Root} {t:TypeId} (h:R.kind=.var t) (loc:Nat×Nat) (fo:List Nat):iE R loc fo=loc.1 :: fo:=by simp [iE,h]
theorem Cv {R:Root} (h:R.kind=.anon) (loc:Nat×Nat):Aa R loc=none:=by simp [Aa,h]
theorem Ua {R:Root} {t:TypeId} (h:R.kind=.var t) (loc:Nat×Nat):Aa R loc=some loc:=by simp [Aa,h]
theorem abm {k:K} {x:El k} {own:List TypeId} {tags:List Tag} {kp:Bool} {hdr:List Value} {fo F':List Nat} {loc:Nat×Nat} {v:Value} {w:World} (h:VC k v hdr) :
  bH cx (az σ r (aP k x own tags .anon kp)) (aJ α r loc hdr fo) F' w (.ref r 0) v:=by
 intro Q hQ _
 obtain ⟨rfl,_⟩:=eU hQ
 refine ⟨rfl, ?_⟩
 simp only [aJ,upd_same]
 exact h
theorem agN {k:K} {x:El k} {own:List TypeId} {tags:List Tag} {kp:Bool} {hdr:List Value} {fo F':List Nat} {b:Nat} {t:TypeId} {w:World} :
  bH cx (az σ r (aP k x own tags (.var t) kp)) (aJ α r (b,0) hdr fo) F' w (.ptr r [] 0) (.pointer (some ⟨b,0,none⟩)):=by
 refine ⟨⟨b,0,rfl⟩, ?_⟩
 intro Q hQ _ _ _ _
 rw [aK] at hQ
 simp only [Option.some.injEq] at hQ
 subst hQ
 refine ⟨trivial,hdr,b,0, ?_,rfl⟩
 simp only [bF]
 rw [jX]
 simp [Aa,aP,aJ,upd_same]
theorem adp {k:K} {x:El k} {own:List TypeId} {tags:List Tag} {kp:Bool} {hdr:List Value} {fo F':List Nat} {b o:Nat} {t:TypeId} {w:World} :
  bH cx (az σ r (aP k x own tags (.var t) kp)) (aJ α r (b,o) hdr fo) F' w (.ptr r [] 0) (.pointer (some ⟨b,o,none⟩)):=by
 refine ⟨⟨b,o,rfl⟩, ?_⟩
 intro Q hQ _ _ _ _
 rw [aK] at hQ
 simp only [Option.some.injEq] at hQ
 subst hQ
 refine ⟨trivial,hdr,b,o, ?_,rfl⟩
 simp only [bF]
 rw [jX]
 simp [Aa,aP,aJ,upd_same]
theorem Lh {tk:iN} (h:fC σ tk.tags):fC σ tk.ko:=by
 unfold iN.ko
 split
 ·intro t ht; simp at ht
 ·exact h
theorem gQ {h:Heap} {own:List TypeId} {ok ok':Nat→Prop} {k:K} {x:El k} {cs:List Value} {fo:List Nat} (hv:aU own k=[]) (H:Ow h own ok k x cs fo):Ow h own ok' k x cs fo:=by
 refine bC (fun _ _=>rfl) (fun b hb=>?_) (fun _ _=>rfl) (wB [] (by rw [hv]; exact fun _ h=>h) H)
 obtain ⟨_,t,ht,_⟩:=hb
 simp at ht
theorem Wj {P:Program} {tk:iN} {t:TypeId} {v:Value} {cs:List Value} {fo:List Nat} (H:Rel cx σ α F a w) (hn:σ.roots r=none) (hx:fK r=false) (hh:Held cx σ α F w tk.k tk.x tk.own tk.tags cs fo)
  (hc:bg σ (aU tk.own tk.k) tk.tags=true) (hv:VC tk.k v cs) (kp:Bool) :
  (Instr.box t v).run P w=.ok (.pointer (some ⟨w.heap.size,0,none⟩)) (w.alloc (.cells v.cells t))∧
   ∃α' F',Rel cx (az σ r (aP tk.k tk.x tk.own tk.ko (.var t) kp)) α' F' a (w.alloc (.cells v.cells t))∧
    bH cx (az σ r (aP tk.k tk.x tk.own tk.ko (.var t) kp)) α' F' (w.alloc (.cells v.cells t)) (.ptr r [] 0) (.pointer (some ⟨w.heap.size,0,none⟩)):=by
 refine ⟨PN t v w, ?_⟩
 have hcs:v.cells=cs.toArray:=by
  have:=hv.cells
  apply Array.ext'
  simpa using this
 rw [hcs]
 obtain ⟨H1,T1⟩:=H.alloc (.cells cs.toArray t)
 have hh1:=hh.turn H T1 (fun b hb=>⟨rz w _ (H.fl b (hh.sub b hb)).1,List.mem_cons_of_mem _ (hh.sub b hb)⟩)
 have hnew:hp (w.alloc (.cells cs.toArray t)) w.heap.size=some (.cells cs.toArray t (0,0)):=u7 w _
 have KQ:w.heap.size∉F:=fun h=>by have:=(H.fl _ h).1; omega
 have hbf:w.heap.size∉fo:=fun h=>KQ (hh.sub _ h)
 have hk:(aP tk.k tk.x tk.own tk.ko (.var t) kp).kind=.var t:=rfl
 obtain ⟨h1,h2⟩:=R4 (R':=aP tk.k tk.x tk.own tk.ko (.var t) kp) H1 hn hx rfl (by simp [aP]) (Lh hh1.wt) (w.heap.size,0) cs fo (F.filter fun b=>!ay b fo)
  (fun b hb=>by
   rw [yI hk] at hb
   rcases List.mem_cons.1 hb with h | h
   ·simp only at h; subst h
    exact ⟨List.mem_cons_self,fun h=>KQ (List.mem_filter.1 h).1⟩
   ·refine ⟨List.mem_cons_of_mem _ (hh.sub b h),fun h2=>?_⟩
    have:=(List.mem_filter.1 h2).2
    simp only [Bool.not_eq_true',aV] at this
    exact this h)
  (by rw [yI hk]; exact List.nodup_cons.2 ⟨hbf,hh.nd⟩)
  (fun b hb=>List.mem_cons_of_mem _ (List.mem_filter.1 hb).1) (H.Fw.filter _)
  (fun hcl=>by
   show Ow _ tk.own _ tk.k tk.x cs fo
   cases hb:tk.bad with
   | nil=>exact gQ hb (hh1.ow hc)
   | cons t0 l=>
    have et:(aP tk.k tk.x tk.own tk.ko (.var t) kp).tags=tk.tags:=by
     show tk.ko=tk.tags
     unfold iN.ko
     rw [hb]
    rw [et] at hcl ⊢
    exact bC (fun _ _=>rfl) (fun b h=>.inl h) (fun _ _=>rfl) (hh1.ow hcl)) hh.len
  (fun b o hb=>by
   rw [Ua hk] at hb
   simp only [Option.some.injEq,Prod.mk.injEq] at hb
   obtain ⟨rfl,rfl⟩:=hb
   refine ⟨fun i hi=>?_,cs.toArray,t,0,0,hnew,fun i _=>by omega, ?_,fun t' ht'=>?_⟩
   ·unfold cellAt
    rw [hnew]
    simp
   ·show 0+tk.k.size≤_
    simp [hh.len]
   ·have:J8.var t=J8.var t':=ht'
    simpa using this)
 exact ⟨_,_,h1,agN⟩
theorem Eu {k:K} {x:El k} {own:List TypeId} {tags:List Tag} {v:Value} {cs:List Value} {fo:List Nat} (H:Rel cx σ α F a w) (hn:σ.roots r=none) (hx:fK r=false)
  (hsub:∀b∈fo,b∈F) (hnd:fo.Nodup) (hwt:fC σ tags) {F':List Nat} (hF':∀b∈F',b∈F∧b∉fo) (aag:F'.Nodup) (hlen:cs.length=k.size)
  (how:bg σ (aU own k) tags=true→Ow (hp w) own (fun b=>iU cx σ α F w tags b∨(b∈F∧b∉F'∧b∉fo)) k x cs fo) (hv:VC k v cs) (kp:Bool) :
  ∃α',Rel cx (az σ r (aP k x own tags .anon kp)) α' F' a w∧bH cx (az σ r (aP k x own tags .anon kp)) α' F' w (.ref r 0) v:=by
 have hk:(aP k x own tags .anon kp).kind=.anon:=rfl
 obtain ⟨h1,h2⟩:=R4 (R':=aP k x own tags .anon kp) H hn hx rfl (by simp [aP]) hwt (0,0) cs fo F'
  (fun b hb=>by rw [gY hk] at hb; exact ⟨hsub b hb,fun h=>(hF' b h).2 hb⟩) (by rw [gY hk]; exact hnd) (fun b hb=>(hF' b hb).1) aag
  (fun hc=>by rw [gY hk]; exact how hc) hlen (fun b o hb=>by rw [Cv hk] at hb; simp at hb)
 exact ⟨_,h1,abm hv⟩
end
end Go.Proofs.YtdknpknohipffaaGreat.Ow

/- The framework, part 17: operations, one by one. Own work of this seat. -/
namespace Go.Proofs.YtdknpknohipffaaGreat.Ow
open Go
variable [Fr]
def vJ (P:Program) (cx:Cx) (o:Oper) (a:Act) (w:World) (σ':St):Prop:=
 ∃v w' α' F',((execOp a.eval o).run P w=.ok (.value v) w'∨((execOp a.eval o).run P w=.ok .skip w'∧v=undef))∧Rel cx σ' α' F' (a.put o.dst v) w'
theorem vJ.wp {P:Program} {cx:Cx} {o:Oper} {a:Act} {w:World} {σ':St} (h:vJ P cx o a w σ') {K:Act→World→Prop} {Q:Exit→Act→World→Prop}
  (hK:∀α' F' a' w',Rel cx σ' α' F' a' w'→K a' w'):o.wp P a w K Q:=by
 obtain ⟨v,w',α',F',h | ⟨h,rfl⟩,h2⟩:=h
 ·unfold Oper.wp; rw [h]; exact hK _ _ _ _ h2
 ·unfold Oper.wp; rw [h]; exact hK _ _ _ _ h2
section
variable {P:Program} {T:jF} {cx:Cx} {σ:St} {α:dN} {F:List Nat} {a:Act} {w:World} {o:Oper} {d:Nat} {ws:List Wr}
theorem bL (H:Rel cx σ α F a w) (hd:o.dst=some d) (hdn:d<cx.nt) {x:Br} {v:Value} (hrun:(execOp a.eval o).run P w=.ok (.value v) w) (hx:kJ cx σ α F w x v) (hw:CV σ x) :
  vJ P cx o a w (aC [.s d x] σ):=by
 refine ⟨v,w,α,F, .inl hrun, ?_⟩
 rw [hd]
 exact H.put hdn hw hx
theorem iY {σ1:St} {dO:dN} {F1:List Nat} {w1:World} (H:Rel cx σ1 dO F1 a w1) (hd:o.dst=some d) (hdn:d<cx.nt) {x:Br} {v:Value} (hrun:(execOp a.eval o).run P w=.ok (.value v) w1) (hx:kJ cx σ1 dO F1 w1 x v) (hw:CV σ1 x) :
  vJ P cx o a w (aC [.s d x] σ1):=by
 refine ⟨v,w1,dO,F1, .inl hrun, ?_⟩
 rw [hd]
 exact H.put hdn hw hx
theorem gZ {A:Type} {z:A} {r:Nat} {k:Prog A} (h:(ku r k).ends σ z):σ.roots r=none∧k.ends σ z:=by
 unfold ku at h
 simp only [Prog.ends] at h
 cases hr:σ.roots r with
 | none=>rw [hr] at h; exact ⟨rfl,h⟩
 | some R=>rw [hr] at h; exact h.elim
theorem aD {A:Type} {z x:A} (h:(Prog.ret x).ends σ z):z=x:=h
theorem Z0 (H:Rel cx σ α F a w) (hd:o.dst=some d) (hdn:d<cx.nt) {x:Operand} (ho:o.op=.move x) (h:(xZ x fun v=>(.ret [.s d v]:Prog (List Wr))).ends σ ws):vJ P cx o a w (aC ws σ):=by
 obtain ⟨v,h1,h2,h3⟩:=wG H h
 rw [aD h3]
 exact bL H hd hdn (by simp [execOp,ho]) h1 h2
theorem fP.sl {t:TypeId} {e:TypeId} {k:K} (h:fP P T t (.sl e k)):P.underlying t=some (.slice e)∧fP P T e k∧0<k.size∧∃i,P.info? e=some i∧i.bytes=T.bytes e∧0<i.bytes:=by
 unfold fP kg at h
 exact ⟨h.1,h.2.2.1,h.2.2.2.1,h.2.2.2.2⟩
theorem ER {e:TypeId} {k:K} {c:Option Addr} {own:List TypeId} {ok:Nat→Prop} {h:Heap}:Ow h own ok (.sl e k) ([]:List (El k)) [.slice c 0 0] []:=by
 unfold Ow
 split
 ·exact ⟨c,0,0,rfl,rfl,Nat.le_refl _, .inl ⟨rfl,rfl⟩⟩
 ·exact ⟨rfl,c,0,0,rfl,rfl,Nat.le_refl _,fun h=>by omega⟩
theorem U0 {L:K→List TypeId} (H:Rel cx σ α F a w) (hd:o.dst=some d) (hdn:d<cx.nt) {x:Operand} (ho:o.op=.assign x)
  (h:(xZ x fun
   | .one .iZ=>match T.ty o.type with
    | some (.sl e kk)=>.root (bE d 0) fun
     | none=>.ret [.r (bE d 0) (some (aP (.sl e kk) [] (e :: L kk) [] .anon)), .s d (.one (.ref (bE d 0) 0))]
     | some _=>.ret [.s d (.one .iZ)]
    | _=>.fail
   | v=>(.ret [.s d v]:Prog (List Wr))).ends σ ws):vJ P cx o a w (aC ws σ):=by
 obtain ⟨v,h1,h2,h3⟩:=wG H h
 have hrun:(execOp a.eval o).run P w=.ok (.value (a.eval x)) w:=by simp [execOp,ho]
 have key:ws=[.s d v]→vJ P cx o a w (aC ws σ):=fun e=>by rw [e]; exact bL H hd hdn hrun h1 h2
 cases v with
 | Li l=>exact key (aD h3)
 | one v=>
  cases v with
  | iZ=>
   have h1':=h1
   obtain ⟨c,hc⟩:=h1
   simp only at h3
   split at h3
   ·rename_i e kk hty
    simp only [Prog.ends] at h3
    cases g1:σ.roots (bE d 0) with
    | some Q=>
     rw [g1] at h3
     exact key (aD h3)
    | none=>
    rw [g1] at h3
    have g2:=h3
    rw [aD g2]
    obtain ⟨α',k1,k2⟩:=Eu (k:=.sl e kk) (x:=([]:List (El kk))) (own:=e :: L kk) (tags:=[]) (v:=a.eval x) (cs:=[.slice c 0 0]) (fo:=[]) (r:=bE d 0) (F':=F) H g1 (gF d 0) (fun b hb=>by simp at hb) List.nodup_nil (fun t ht=>by simp at ht)
     (fun b hb=>⟨hb,by simp⟩) H.Fw rfl (fun _=>ER) (by rw [hc]; exact II) false
    exact iY (x:=.one (.ref (bE d 0) 0)) k1 hd hdn hrun k2 ⟨_,aK .., .inr (Nat.zero_le _)⟩
   ·exact h3.elim
  | _=>exact key (aD h3)
theorem Z4 (H:Rel cx σ α F a w) (hd:o.dst=some d) (hdn:d<cx.nt) {c x y:Operand} (ho:o.op=.pick c x y)
  (h:(dP c fun c=>asBool c fun c=>xZ x fun v=>xZ y fun u=>.br c (.ret [.s d v]) ((.ret [.s d u]):Prog (List Wr))).ends σ ws):vJ P cx o a w (aC ws σ):=by
 obtain ⟨vc,h1,_,h⟩:=bS H h
 obtain ⟨b,h2,h⟩:=Mj h1 h
 obtain ⟨v,h3,h4,h⟩:=wG H h
 obtain ⟨u,h5,h6,h⟩:=wG H h
 rcases h with ⟨hb,h⟩ | ⟨hb,h⟩
 ·rw [aD h]
  exact bL H hd hdn (by simp [execOp,ho,h2,hb,Go.asBool]) h3 h4
 ·rw [aD h]
  exact bL H hd hdn (by simp [execOp,ho,h2,hb,Go.asBool]) h5 h6
theorem fP.shape {t:TypeId} {k:K} (h:fP P T t k):(∀a b,k≠.pair a b)∧k≠.unit∧∀n,k≠.gap n:=by
 unfold fP kg at h
 refine ⟨fun a b e=>?_,fun e=>?_,fun n e=>?_⟩ <;> subst e <;> exact h.elim
theorem dz {own:List TypeId} {k:K} (h:∀t∈k.tys,ay t own=true):aU own k=[]:=by
 cases he:aU own k with
 | nil=>rfl
 | cons t l=>
  exfalso
  have key:∀(k:K),(∀t∈k.tys,ay t own=true)→∀t,t∉aU own k:=by
   intro k
   induction k with
   | sl e k ih=>
    intro h t ht
    simp only [aU,h e (by simp [K.tys]),cond_true] at ht
    exact ih (fun t ht=>h t (by simp [K.tys,ht])) t ht
   | pair a b iha ihb=>
    intro h t ht
    simp only [aU,List.mem_append] at ht
    rcases ht with ht | ht
    ·exact iha (fun t ht=>h t (by simp [K.tys,ht])) t ht
    ·exact ihb (fun t ht=>h t (by simp [K.tys,ht])) t ht
   | st f ih=>intro h t ht; exact ih h t ht
   | _=>intro _ t ht; simp [aU] at ht
  exact key k h t (by rw [he]; simp)
theorem Yv {l:List Nat}:∀t∈l,ay t l=true:=fun t ht=>aL.2 ht
theorem XJ (hT:fq P T) (H:Rel cx σ α F a w) (hd:o.dst=some d) (hdn:d<cx.nt) {t:TypeId} (ho:o.op=.alloc t)
  (h:(match T.ty t with
   | some kk=>ku (bE d 0) (.ret [Wr.r (bE d 0) (some (aP kk kk.zero kk.tys [] (.var t))),Wr.s d (.one (.ptr (bE d 0) [] 0))])
   | none=>(.fail:Prog (List Wr))).ends σ ws):vJ P cx o a w (aC ws σ):=by
 split at h
 ·rename_i kk hty
  have ht:=hT.ty t kk hty
  obtain ⟨g1,g2⟩:=gZ h
  rw [aD g2]
  obtain ⟨s1,s2,s3⟩:=ht.shape
  have hz:Ow (hp w) kk.tys (iU cx σ α F w []) kk kk.zero (bW kk) []:=IM ht.gP Yv
  obtain ⟨k0,α',F',k1,k2⟩:=Wj (P:=P) (tk:=⟨kk,kk.zero,kk.tys,[],[],false⟩) (t:=t) (v:=vL kk) (cs:=bW kk) (fo:=[]) (r:=bE d 0) H g1 (gF d 0)
   ⟨fun _=>hz,fun t ht=>by simp at ht,fun b hb=>by simp at hb,List.nodup_nil,dA hz⟩ rfl (Xa s1 s2 s3) false
  have e0:(iN.ko ⟨kk,kk.zero,kk.tys,[],[],false⟩)=[]:=by unfold iN.ko; split <;> rfl
  rw [e0] at k1 k2
  exact iY (x:=.one (.ptr (bE d 0) [] 0)) k1 hd hdn (by
   have:=TR (P:=P) ht w
   simp only [execOp,ho,Sem.run_bind,this,Result.andThen_ok,Sem.run_pure]) k2 ⟨_,aK .., .inr (Nat.zero_le _)⟩
 ·exact h.elim
theorem QC (H:Rel cx σ α F a w) (hd:o.dst=some d) (hdn:d<cx.nt) {x:Operand} (ho:o.op=.nilCheck x)
  (h:(dP x fun
   | .ptr r p h=>.ret [.s d (.one (.ptr r p h))]
   | .jl bt kk y tags=>.ret [.s d (.one (.jl bt kk y tags))]
   | _=>(.fail:Prog (List Wr))).ends σ ws):vJ P cx o a w (aC ws σ):=by
 obtain ⟨v,h1,h2,h⟩:=bS H h
 cases v with
 | ptr r p n=>
  rw [aD h]
  obtain ⟨b,q,hv⟩:=h1.1
  exact bL (v:=a.eval x) H hd hdn (by simp [execOp,ho,hv]) h1 h2
 | jl bt kk y tags=>
  rw [aD h]
  obtain ⟨b,q,hv⟩:=h1.1
  exact bL (v:=a.eval x) H hd hdn (by simp [execOp,ho,hv]) h1 h2
 | _=>exact h.elim
end
end Go.Proofs.YtdknpknohipffaaGreat.Ow

/- The framework, part 18: loads, stores, fields, elements. Own work of this seat. -/
namespace Go.Proofs.YtdknpknohipffaaGreat.Ow
open Go
variable [Fr]
theorem beq_true {a b:K} {A:Type} {x y:Prog A} {σ:St} {z:A} (h:(bif a.beq b then x else y).ends σ z):(a=b∧x.ends σ z)∨(a.beq b=false∧y.ends σ z):=by
  cases hb:a.beq b with
  | true=>rw [hb] at h; exact .inl ⟨K.eq_of_beq hb,h⟩
  | false=>rw [hb] at h; exact .inr ⟨rfl,h⟩
section
variable {P:Program} {T:jF} {cx:Cx} {σ:St} {α:dN} {F:List Nat} {a:Act} {w:World} {o:Oper} {d:Nat} {ws:List Wr}
theorem structField {P:Program} {T:jF}:∀(n:Nat) {c:K} {fs:List Field} {NC off:Nat} {k:K},(kg P T c).2 fs NC→bD n c=some (off,k)→∃f,fs[n]?=some f∧f.offset=NC+off∧fP P T f.type k∧0<k.size:=by
  intro n
  induction n with
  | zero=>
    intro c fs NC off k h ho
    cases c with
    | pair a b=>
      simp only [bD,Option.some.injEq,Prod.mk.injEq] at ho
      obtain ⟨rfl,rfl⟩:=ho
      cases fs with
      | nil=>exact h.elim
      | cons f fs=>exact ⟨f,rfl,h.1,h.2.1,h.2.2.1⟩
    | _=>simp [bD] at ho
  | succ n ih=>
    intro c fs NC off k h ho
    cases c with
    | pair a b=>
      simp only [bD] at ho
      cases h2:bD n b with
      | none=>rw [h2] at ho; simp at ho
      | some q=>
        rw [h2] at ho
        simp only [Option.some.injEq,Prod.mk.injEq] at ho
        cases fs with
        | nil=>exact h.elim
        | cons f fs=>
          obtain ⟨g,g1,g2,g3,g4⟩:=ih (off:=q.1) (k:=q.2) h.2.2.2 (by rw [h2])
          exact ⟨g,by simpa using g1,by rw [g2, ←ho.1]; omega,by rw [←ho.2]; exact g3,by rw [←ho.2]; exact g4⟩
    | _=>simp [bD] at ho
theorem fP.st {t:TypeId} {c:K} (h:fP P T t (.st c)):∃fs,P.underlying t=some (.struct fs)∧(kg P T c).2 fs.toList 0:=by
  unfold fP kg at h
  exact h.1
theorem FH {cs:List Value} {off n:Nat} (h:off+n≤cs.length):((cs.drop off).take n).length=n:=by simp; omega
theorem Mx:∀(n:Nat) {c:K} {off:Nat} {k:K},bD n c=some (off,k)→off+k.size≤c.size:=by
  intro n
  induction n with
  | zero=>intro c off k h; cases c with
    | pair a b=>simp only [bD,Option.some.injEq,Prod.mk.injEq] at h; obtain ⟨rfl,rfl⟩:=h; simp [K.size]
    | _=>simp [bD] at h
  | succ n ih=>intro c off k h; cases c with
    | pair a b=>
      simp only [bD] at h
      cases h2:bD n b with
      | none=>rw [h2] at h; simp at h
      | some q=>
        rw [h2] at h
        simp only [Option.some.injEq,Prod.mk.injEq] at h
        have:=ih (off:=q.1) (k:=q.2) (by rw [h2])
        simp only [K.size]
        rw [←h.1, ←h.2]
        omega
    | _=>simp [bD] at h
theorem abI {t:TypeId} {k:K} (h:fP P T t k) (hk:0<k.size) {cs:List Value} {off:Nat} (hl:off+k.size≤cs.length):∃u,(part t cs.toArray off).run P w=.ok u w∧((∀x,u≠.agg x)∨xG k=true→VC k u ((cs.drop off).take k.size)):=by
  unfold part
  simp only [Sem.run_bind,h.isAgg w,Result.andThen]
  cases hs:xG k with
  | true=>
    refine ⟨.agg (cs.toArray.extract off (off+k.size)),by simp [h.info.sizeOf w,Result.andThen],fun _=>?_⟩
    cases k with
    | st c=>
      show Value.agg _=.agg _
      congr 1
      apply Array.ext'
      simp [List.extract_eq_take_drop]
    | _=>simp [xG] at hs
  | false=>
    have hlt:off<cs.length:=by omega
    refine ⟨cs[off],by simp [hlt],fun hu=>?_⟩
    have hu':∀x,cs[off]≠.agg x:=hu.resolve_right (by simp)
    have hk1:k.size=1:=by
      cases k with
      | st c=>simp [xG] at hs
      | pair a b=>exact (show False from h).elim
      | unit=>exact (show False from h).elim
      | gap n=>exact (show False from h).elim
      | _=>rfl
    have e:(cs.drop off).take k.size=[cs[off]]:=by
      rw [hk1,List.drop_eq_getElem_cons hlt]
      rfl
    rw [e]
    cases k with
    | st c=>simp [xG] at hs
    | _=>exact ⟨rfl,hu'⟩
theorem OL {v:Value} (h:v.oneCell'=true):∀x,v≠.agg x:=by
  intro x e
  subst e
  simp [Value.oneCell'] at h
theorem YG {t:TypeId} {c:K} (h:fP P T t (.st c)) {cs:List Value} {n off:Nat} {k:K} (ho:bD n c=some (off,k)) (hl:cs.length=c.size) (h1:∀v∈cs,v.oneCell'=true) :
    ∃u,(Instr.field t (.agg cs.toArray) n).run P w=.ok u w∧VC k u ((cs.drop off).take k.size):=by
  obtain ⟨fs,hu,hf⟩:=h.st
  obtain ⟨f,f1,f2,f3,f4⟩:=structField n hf ho
  have hle:=Mx n ho
  obtain ⟨u,g1,g2⟩:=abI (w:=w) f3 f4 (cs:=cs) (off:=off) (by omega)
  have f1':fs[n]?=some f:=by rw [←Array.getElem?_toList]; exact f1
  refine ⟨u, ?_,g2 ?_⟩
  · unfold Instr.field
    simp only [Sem.run_bind,run_underlying hu,Result.andThen,f1',asAgg,Sem.run_pure]
    rw [show f.offset=off from by omega]
    exact g1
  · cases hs:xG k with
    | true=>exact .inr rfl
    | false=>
      left
      unfold part at g1
      simp only [Sem.run_bind,f3.isAgg w,Result.andThen,hs] at g1
      have hlt:off<cs.length:=by omega
      simp [hlt] at g1
      rw [←g1]
      exact OL (h1 _ (List.getElem_mem hlt))
theorem EA {r:Nat} {R:Root} {p:List Stp} {v:Value} {dd:Dat} {cs:List Value} {wh:Option (Nat×Nat)} (hr:aR σ r R) (hg:aT p R.k R.x=some dd) (h1:oZ p R.k R.x) (h2:∀t∈ah p R.k,ay t R.own=true)
    (h3:bF (hp w) p R.k (α.hdr r) (eD α R r)=some (cs,wh)) (h4:VC dd.1 v cs):bH cx σ α F w (.zW r p R.Bp) v:=by
  intro R' hR' _ _ d' hd'
  rw [hr.1] at hR'
  simp only [Option.some.injEq] at hR'
  subst hR'
  rw [hg] at hd'
  simp only [Option.some.injEq] at hd'
  subst hd'
  exact ⟨h1,h2,cs,wh,h3,h4⟩
theorem Rel.aae (H:Rel cx σ α F a w) {w':World} (hos:w'.os=w.os) (hout:w'.output=w.output) (hsz:w.heap.size≤w'.heap.size) (hold:∀b,b<w.heap.size→hp w' b=hp w b) (ht:w'.tape=w.tape):Rel cx σ α F a w':=by
  have hs:∀r,Same σ α σ α r:=fun r=>⟨rfl,rfl,rfl,rfl⟩
  have hch:∀b,b<w.heap.size→hp w' b=hp w b:=hold
  have T:oK cx σ α F w σ α F w' (fun _=>[]) (fun _=>[]):=by
    refine ⟨rfl,⟨hos,ht,hout⟩,hsz,fun r R hr=>⟨R,hr, ?_⟩,fun r R' _ h=>absurd (hs r) h,fun r R' h1 h2=>by rw [h1] at h2; simp at h2,fun b hb hne=>absurd (hch b hb) hne, ?_,H.Fw,
      fun r R' _ h=>absurd (hs r) h,fun r R r' R' _ _ _ h=>absurd (hs r) h, ?_,fun r R R' h1 h2 _=>by rw [h1] at h2; simp only [Option.some.injEq] at h2; subst h2; exact ⟨rfl,rfl⟩⟩
    · cases hd:R.aZ with
      | true=>exact .inl ⟨rfl,fun hk=>by unfold Root.aZ at hd; rw [hk] at hd; simp at hd⟩
      | false=>exact .inr ⟨rfl,rfl,rfl,Nat.le_refl _,rfl,rfl,fun _=>rfl, .inr ⟨rfl,rfl,hs r⟩⟩
    · rintro b (⟨r,R,h1,h2,h3⟩ | h)
      · exact absurd ⟨R,h1,h2⟩ h3
      · exact .inl h
    · intro j pi b o n h1 h2 hne
      obtain ⟨R,hR,hk,hl,_⟩:=H.oN j pi b o n h1 h2
      exact absurd (hch b ((H.roots _ R hR).mine b (by simp [blk,eD,hk,hl])).1) hne
  exact H.turn T (fun r R _ h=>absurd (hs r) h) (fun r R _ h=>absurd (hs r) h) (fun r R _ h=>absurd (hs r) h)
theorem Qv:∀(n:Nat) {c:K},(ah.KN n c).isSome=true→∃off k,bD n c=some (off,k):=by
  intro n
  induction n with
  | zero=>intro c h; cases c with
    | pair a b=>exact ⟨0,a,rfl⟩
    | _=>simp [ah.KN] at h
  | succ n ih=>intro c h; cases c with
    | pair a b=>obtain ⟨off,k,h1⟩:=ih (c:=b) h; exact ⟨a.size+off,k,by simp [bD,h1]⟩
    | _=>simp [ah.KN] at h
theorem Sm:∀(n:Nat) {c k:K},ah.KN n c=some k→∃off,bD n c=some (off,k):=by
  intro n
  induction n with
  | zero=>intro c k h; cases c with
    | pair a b=>simp only [ah.KN,Option.some.injEq] at h; subst h; exact ⟨0,rfl⟩
    | _=>simp [ah.KN] at h
  | succ n ih=>intro c k h; cases c with
    | pair a b=>obtain ⟨off,h1⟩:=ih (c:=b) h; exact ⟨a.size+off,by simp [bD,h1]⟩
    | _=>simp [ah.KN] at h
theorem OE:∀(p:List Stp) {n:Nat} {k k1 k2:K} {off o2:Nat} {c:K},lF p k=some (off,k1)→k1=.st c→bD n c=some (o2,k2)→lF (p++[.gL n]) k=some (off+o2,k2):=by
  intro p
  induction p with
  | nil=>
    intro n k k1 k2 off o2 c h e h2
    simp only [lF,Option.some.injEq,Prod.mk.injEq] at h
    obtain ⟨rfl,rfl⟩:=h
    subst e
    simp [lF,h2]
  | cons s p ih=>
    intro n k k1 k2 off o2 c h e h2
    cases s with
    | idx i=>simp [lF] at h
    | gL m=>
      cases k with
      | st c'=>
        simp only [lF,List.cons_append] at h ⊢
        cases hq:bD m c' with
        | none=>rw [hq] at h; simp at h
        | some q=>
          rw [hq] at h
          simp only at h ⊢
          cases hr:lF p q.2 with
          | none=>rw [hr] at h; simp at h
          | some r=>
            rw [hr] at h
            simp only [Option.some.injEq,Prod.mk.injEq] at h
            obtain ⟨rfl,rfl⟩:=h
            rw [ih (off:=r.1) (k1:=r.2) (by rw [hr]) e h2]
            simp only [Nat.add_assoc]
      | _=>simp [lF] at h
theorem Yi:∀(p:List Stp) {k k1 k2:K} {off:Nat},Pn p k=some k1→lF p k=some (off,k2)→k2=k1:=by
  intro p
  induction p with
  | nil=>
    intro k k1 k2 off h1 h2
    simp only [Pn,Option.some.injEq] at h1
    simp only [lF,Option.some.injEq,Prod.mk.injEq] at h2
    rw [←h1,h2.2]
  | cons s p ih=>
    intro k k1 k2 off h1 h2
    cases s with
    | idx i=>simp [lF] at h2
    | gL m=>
      cases k with
      | st c=>
        simp only [Pn,lF] at h1 h2
        cases hk:ah.KN m c with
        | none=>rw [hk] at h1; simp at h1
        | some k0=>
          obtain ⟨o,ho⟩:=Sm m hk
          rw [hk] at h1
          rw [ho] at h2
          simp only at h1 h2
          cases hr:lF p k0 with
          | none=>rw [hr] at h2; simp at h2
          | some r=>
            rw [hr] at h2
            simp only [Option.some.injEq,Prod.mk.injEq] at h2
            rw [←h2.2]
            exact ih (off:=r.1) h1 (by rw [hr])
      | _=>simp [lF] at h2
theorem M3 {h:Heap}:∀(p:List Stp) {k k1:K} {x:El k} {cs:List Value} {d:Dat} {off:Nat},aT p k x=some d→lF p k=some (off,k1)→cs.length=k.size→
    k1=d.1∧off+k1.size≤cs.length∧bF h p k cs none=some ((cs.drop off).take k1.size,none)∧oZ p k x∧ah p k=[]:=by
  intro p
  induction p with
  | nil=>
    intro k k1 x cs d off hg ho hl
    simp only [aT,Option.some.injEq] at hg
    simp only [lF,Option.some.injEq,Prod.mk.injEq] at ho
    obtain ⟨rfl,rfl⟩:=ho
    subst hg
    exact ⟨rfl,by omega,by simp [bF, ←hl],trivial,by simp [ah]⟩
  | cons s p ih=>
    intro k k1 x cs d off hg ho hl
    cases s with
    | idx i=>simp [lF] at ho
    | gL n=>
      cases k with
      | st c=>
        simp only [aT,lF] at hg ho
        cases hcg:aQ n c x with
        | none=>rw [hcg] at hg; simp at hg
        | some s=>
          rw [hcg] at hg
          simp only at hg
          cases hq:bD n c with
          | none=>rw [hq] at ho; simp at ho
          | some q=>
            have hk2:q.2=s.1:=C8 n (c:=c) hcg hq
            rw [hq] at ho
            obtain ⟨q1,q2⟩:=q
            simp only at hk2 ho
            subst hk2
            cases hr:lF p s.1 with
            | none=>rw [hr] at ho; simp at ho
            | some r=>
              rw [hr] at ho
              simp only [Option.some.injEq,Prod.mk.injEq] at ho
              obtain ⟨rfl,rfl⟩:=ho
              have hle:=Mx n hq
              have hl':cs.length=c.size:=hl
              obtain ⟨g1,g2,g3,g4,g5⟩:=ih (cs:=(cs.drop q1).take s.1.size) (off:=r.1) (k1:=r.2) hg (by rw [hr]) (FH (by omega))
              rw [FH (by omega)] at g2
              refine ⟨g1,by omega, ?_,by simp only [oZ,hcg]; exact g4,by simp [ah,bU n hcg,g5]⟩
              simp only [bF]
              rw [hq]
              simp only [Option.map_none]
              rw [g3]
              simp only [List.drop_take,List.take_take,List.drop_drop,Nat.min_eq_left (show r.2.size≤s.1.size - r.1 by omega)]
      | _=>simp [aT] at hg
theorem K5 (σ:St) (r:Nat) (A B:Root):az (az σ r A) r B=az σ r B:=by
  unfold az
  simp only [St.mk.injEq,true_and]
  funext n
  unfold upd
  cases Nat.beq n r <;> rfl
theorem Pe {h:Heap}:∀(p:List Stp) {k:K} {x:El k} {t d z:Dat},p.all Stp.ug=true→aT p k x=some d→eF p k x t=some z→t.1.size=d.1.size→
    aT p z.1 z.2=some t∧oZ p z.1 z.2∧ah p z.1=[]∧∀cs wh,bF h p z.1 cs wh=bF h p k cs wh:=by
  intro p
  induction p with
  | nil=>
    intro k x t d z _ hg hz hs
    simp only [eF,Option.some.injEq] at hz
    subst hz
    exact ⟨rfl,trivial,by simp [ah],fun cs wh=>rfl⟩
  | cons s p ih=>
    intro k x t d z hp hg hz hs
    cases s with
    | idx i=>simp [Stp.ug] at hp
    | gL n=>
      have hp':p.all Stp.ug=true:=by simpa [Stp.ug] using hp
      cases k with
      | st c=>
        simp only [aT,eF] at hg hz
        cases hcg:aQ n c x with
        | none=>rw [hcg] at hg; simp at hg
        | some s=>
          rw [hcg] at hg hz
          simp only at hg hz
          cases hs':eF p s.1 s.2 t with
          | none=>rw [hs'] at hz; simp at hz
          | some u=>
            rw [hs'] at hz
            simp only at hz
            cases hcp:cB n c x u with
            | none=>rw [hcp] at hz; simp at hz
            | some y=>
              rw [hcp] at hz
              simp only [Option.some.injEq] at hz
              subst hz
              obtain ⟨i1,i2,i3,i4⟩:=ih hp' hg hs' hs
              have e1:aQ n y.1 y.2=some u:=BQ n hcp
              have hsz:u.1.size=s.1.size:=JW p hg hs hs'
              refine ⟨by simp only [aT,e1]; exact i1,by simp only [oZ,e1]; exact i2,by simp [ah,bU n e1,i3],fun cs wh=>?_⟩
              simp only [bF]
              cases ho:bD n c with
              | none=>
                exfalso
                obtain ⟨off,h1⟩:=Sm n (bU n hcg)
                rw [ho] at h1; simp at h1
              | some q=>
                have hk2:q.2=s.1:=C8 n (c:=c) hcg ho
                obtain ⟨q1,q2⟩:=q
                simp only at hk2
                subst hk2
                rw [C9 n ho hcp]
                simp only
                rw [hsz]
                exact i4 _ _
      | _=>simp [aT] at hg
theorem VA {R:Root} {r:Nat} {p:List Stp} {d:Dat} {tk:iN} {q:Root×Dat} (h:Re R r p d tk=some q) :
    ∃zg own',eF p R.k R.x (xD d)=some zg∧q=(eP R d zg own',(xD d))∧(∀t∈zg.1.tys,ay t own'=ay t R.own)∧p.all Stp.ug=true∧(p≠[]∨∃t,R.kind=.var t)∧∀n,(r,n)∉tk.tags:=by
  unfold Re at h
  cases hc:(!d.1.flat && p.all Stp.ug && !R.keep && (!p.isEmpty || R.isVar) && tk.tags.all (fun t=>!Nat.beq t.1 r)) with
  | false=>rw [hc] at h; simp at h
  | true=>
    rw [hc] at h
    simp only [cond_true] at h
    simp only [Bool.and_eq_true] at hc
    obtain ⟨⟨⟨⟨_,c1⟩,_⟩,c2⟩,c3⟩:=hc
    unfold Ki at h
    cases hz:eF p R.k R.x (xD d) with
    | none=>rw [hz] at h; simp at h
    | some zg=>
      rw [hz] at h
      simp only at h
      cases hl:tk.own.filter (fun t=>!ay t R.own && ay t d.1.tys && !ay t zg.1.tys) with
      | nil=>rw [hl] at h; simp at h
      | cons a l=>
        rw [hl] at h
        simp only [Option.some.injEq] at h
        refine ⟨zg,(a :: l)++R.own,rfl,h.symm,fun t ht=>?_,c1, ?_,fun n hn=>?_⟩
        · cases hm:ay t R.own with
          | true=>rw [aL] at hm ⊢; exact List.mem_append_right _ hm
          | false=>
            rw [aV] at hm ⊢
            intro h1
            rcases List.mem_append.1 h1 with h1 | h1
            · rw [←hl] at h1
              have:=(List.mem_filter.1 h1).2
              simp only [Bool.and_eq_true,Bool.not_eq_true',aV] at this
              exact this.2 ht
            · exact hm h1
        · rcases Bool.or_eq_true .. |>.mp c2 with h1 | h1
          · left; intro e; rw [e] at h1; simp at h1
          · right
            unfold Root.isVar at h1
            cases hk:R.kind with
            | var t=>exact ⟨t,rfl⟩
            | anon=>rw [hk] at h1; simp at h1
            | par=>rw [hk] at h1; simp at h1
            | dead=>rw [hk] at h1; simp at h1
        · have:=List.all_eq_true.1 c3 _ hn
          simp at this
theorem NZ {t:TypeId} {kk:K} {x:El kk} {YR:List TypeId} {um:List Tag} {yu:List Wr} {WZ:Bool} {cst:List Value} {fot:List Nat} {v:Value} {r:Nat} {R:Root} (ht:fP P T t kk)
    (H:Rel cx σ α F a w) (hr:aR σ r R) (hv:bq σ R) {p:List Stp} {dd:Dat} (hg:aT p R.k R.x=some dd) (fT:oZ p R.k R.x) (hown:∀t∈ah p R.k,ay t R.own=true)
    (k2:bg σ (aU YR kk) um=true) (k3:VC kk v cst) (k1:Held cx σ α F w kk x YR um cst fot)
    {cs1:List Value} {b o:Nat} (hn:bF (hp w) p R.k (α.hdr r) (eD α R r)=some (cs1,some (b,o))) {A:Type} {z:A} {k:List Wr→Prog A} {σ0:St} (h:(storeAt kk r p ⟨kk,x,YR,um,yu,WZ⟩ R dd k).ends σ0 z) :
    ∃w',(Instr.storeAt t (.pointer (some ⟨b,o,none⟩)) v).run P w=.ok () w'∧∃α' F',∃R',Rel cx (az σ r R') α' F' a w'∧(k (yu++[.r r (some R')])).ends σ0 z:=by
  unfold storeAt at h
  rcases aB h with ⟨hc3,h⟩ | ⟨_,h⟩
  · simp only [Bool.and_eq_true] at hc3
    simp only [iN.bad] at hc3 h
    cases hz:eF p R.k R.x ⟨kk,x⟩ with
    | none=>rw [hz] at h; exact h.elim
    | some z=>
      rw [hz] at h
      simp only at h
      rcases aB h with ⟨_,h⟩ | ⟨_,h⟩
      · exact h.elim
      · obtain ⟨w',r1,α',F',r2⟩:=YL (P:=P) (z:=z) ht H hr hv hg hz fT hown k1 k2 k3
          (by
            rcases Bool.or_eq_true .. |>.mp hc3.1.1 with h | h
            · exact .inl (K.eq_of_beq h)
            · exact .inr (K.eq_of_beq (Bool.and_eq_true .. |>.mp h).1))
          (by
            rcases Bool.or_eq_true .. |>.mp hc3.1.2 with h | h
            · exact .inl h
            · exact .inr h)
          (fun t ht=>by
            have:=List.all_eq_true.1 hc3.2 t ht
            simpa [aV] using this) (R.keep || WZ) hn
        exact ⟨w',r1,α',F',_,r2,h⟩
  · exact h.elim
theorem U3 (hT:fq P T) (H:Rel cx σ α F a w) (hd:o.dst=none) {t:TypeId} {x y:Operand} (ho:o.op=.store t x y) {u v:AV} (h1:bH cx σ α F w u (a.eval x)) (h2:wD σ u) (h3:bH cx σ α F w v (a.eval y)) (h4:wD σ v)
    (h:(VJ T t u v fun ws=>(.ret ws:Prog (List Wr))).ends σ ws):vJ P cx o a w (aC ws σ):=by
  unfold VJ at h
  cases hty:T.ty t with
  | none=>rw [hty] at h; exact h.elim
  | some kk=>
   rw [hty] at h
   cases u with
   | ptr r p n=>
    simp only at h
    have ht:=hT.ty t kk hty
    obtain ⟨tk,htk,h⟩:=wN H h3 h4 h
    rcases aB h with ⟨hc1,h⟩ | ⟨_,h⟩
    · simp only [Bool.and_eq_true] at hc1
      obtain ⟨R,hr,hv,h⟩:=dh h
      rcases aB h with ⟨hc2,h⟩ | ⟨_,h⟩
      · simp only [Bool.and_eq_true] at hc2
        cases hg:aT p R.k R.x with
        | none=>rw [hg] at h; exact h.elim
        | some dd=>
          rw [hg] at h
          simp only at h
          have hkk:tk.k=kk:=K.eq_of_beq hc1.1
          have Yb:=adG hc1.2
          have hown:=kU hc2.1.2
          obtain ⟨fT,cs,b,q,hn,e⟩:=h1.2 R hr.1 hv hc2.1.1 hown (by rw [hg]; rfl)
          have hap:=Gp.1 hc2.2
          obtain ⟨dO,F1,cst,fot,lw,lh,H1,T1,k1,k2,k3,k4,k5,k6⟩:=take1 H htk
          have hS:=k6 r Yb
          have hr1:=(hS.live R).2 hr
          have hv1:bq (aC tk.ws σ) R:=⟨hv.1,by rw [fu (fun t ht=>(k6 t.1 (hap t ht)).root)]; exact hv.2⟩
          have hn1:bF (hp w) p R.k (dO.hdr r) (eD dO R r)=some (cs,some (b,q)):=by rw [hS.hdr,hS.wh]; exact hn
          obtain ⟨tkk,tkx,YR,um,yu,WZ⟩:=tk
          simp only at hkk
          subst hkk
          simp only [iN.bad] at k2 k3 h
          cases hrg:Re R r p dd ⟨tkk,tkx,YR,um,yu,WZ⟩ with
          | none=>
            rw [hrg] at h
            obtain ⟨w',r1,α',F',r2⟩:=NZ (P:=P) ht H1 hr1 hv1 hg fT hown k3 k1 k2 hn1 h
            obtain ⟨R',r2,r3⟩:=r2
            rw [aD r3]
            refine ⟨undef,w',α',F', .inr ⟨?_,rfl⟩, ?_⟩
            · simp only [execOp,ho,e,Sem.run_bind,r1,Result.andThen_ok,Sem.run_pure]
            · rw [hd,dD]
              exact r2
          | some qq=>
            rw [hrg] at h
            simp only at h
            obtain ⟨hck,h⟩:=gN h
            obtain ⟨zg,own',g1,g2,g3,g4,g5,g6⟩:=VA hrg
            subst g2
            simp only at hck h
            have hnt:=(H1.dF r R hr1.1).2.2
            obtain ⟨cs1,o7,gp,rest,hn',H2,T2,_,_,hpm⟩:=ajK (own':=own') H1 hr1 hv1 hg g1 fT hown g5 g3
            rw [hn1] at hn'
            simp only [Option.some.injEq,Prod.mk.injEq] at hn'
            obtain ⟨rfl,rfl⟩:=hn'
            have hr2:aR (az (aC yu σ) r (eP R dd zg own')) r (eP R dd zg own'):=⟨aK ..,hr.2⟩
            have hv2:bq (az (aC yu σ) r (eP R dd zg own')) (eP R dd zg own'):=⟨hv.1,by
              show bg _ _ R.tags=true
              rw [nY hnt,fu (fun t ht=>(k6 t.1 (hap t ht)).root)]
              exact hck⟩
            have k1':=k2.turn H1 T2 (fun b hb=>⟨rfl,List.mem_append_right _ (k2.sub b hb)⟩)
            have k2':bg (az (aC yu σ) r (eP R dd zg own')) (aU YR tkk) um=true:=by rw [nY g6]; exact k3
            obtain ⟨f1,f2,f3,f4⟩:=Pe (h:=hp w) p g4 hg g1 (yK dd.1)
            have hsd:(aJ dO r (dO.loc r) (dO.hdr r) rest).hdr r=dO.hdr r:=by simp [aJ,upd_same]
            have aoS:eD (aJ dO r (dO.loc r) (dO.hdr r) rest) (eP R dd zg own') r=eD dO R r:=by rw [jX,yO (show (eP R dd zg own').kind=R.kind from rfl), ←xO]
            have hn2:bF (hp w) p (eP R dd zg own').k ((aJ dO r (dO.loc r) (dO.hdr r) rest).hdr r) (eD (aJ dO r (dO.loc r) (dO.hdr r) rest) (eP R dd zg own') r)=some (cs,some (b,q)):=by
              rw [hsd,aoS]
              exact (f4 _ _).trans hn1
            obtain ⟨w',r1,α',F',r2⟩:=NZ (P:=P) ht H2 hr2 hv2 f1 f2 (fun t ht=>by have ht':t∈ah p zg.1:=ht; rw [f3] at ht'; simp at ht') k2' k1 k1' hn2 h
            obtain ⟨R',r2,r3⟩:=r2
            rw [aD r3]
            refine ⟨undef,w',α',F', .inr ⟨?_,rfl⟩, ?_⟩
            · simp only [execOp,ho,e,Sem.run_bind,r1,Result.andThen_ok,Sem.run_pure]
            · rw [hd,dD]
              rw [K5] at r2
              exact r2
      · exact h.elim
    · exact h.elim
   | _=>exact h.elim
theorem ZW {A:Type} {z:A} {x:AV} {kk:K} {yes:Nat→Nat→Prog A} {no:Prog A} (h:(acQ x kk yes no).ends σ z):(∃r g R,x=.ref r g∧aR σ r R∧bq σ R∧R.g=g∧R.k=kk∧(yes r g).ends σ z)∨no.ends σ z:=by
  cases x with
  | ref r g=>
    simp only [acQ,Prog.ends] at h
    cases hr:σ.roots r with
    | none=>rw [hr] at h; exact .inr h
    | some R=>
      rw [hr] at h
      simp only at h
      rcases aB h with ⟨_,h⟩ | ⟨_,h⟩
      · obtain ⟨R',hr',hv,h⟩:=dh h
        rcases aB h with ⟨hc,h⟩ | ⟨_,h⟩
        · simp only [Bool.and_eq_true] at hc
          exact .inl ⟨r,g,R',rfl,hr',hv,Nat.eq_of_beq_eq_true hc.1,K.eq_of_beq hc.2,h⟩
        · exact h.elim
      · exact .inr h
  | _=>exact .inr h
theorem acU (H:Rel cx σ α F a w) (hd:o.dst=some d) (hdn:d<cx.nt) {t:TypeId} {x:Operand} (ho:o.op=.box t x)
    (h:(match T.ty t with
      | some kk=>dP x fun a=>acQ a kk (fun r g=>.ret [Wr.s d (.one (.MF r g kk []))]) <| Fe kk a fun tk=>bif tk.k.beq kk && !ay t tk.bad then
          ku (bE d 0) (.ret (tk.ws++[Wr.r (bE d 0) (some (aP tk.k tk.x tk.own tk.ko (.var t) tk.keep)),Wr.s d (.one (.ptr (bE d 0) [] 0))]))
        else (.fail:Prog (List Wr))
      | none=>.fail).ends σ ws):vJ P cx o a w (aC ws σ):=by
  split at h
  · rename_i kk hty
    obtain ⟨u,h1,h2,h⟩:=bS H h
    rcases ZW h with ⟨r,g,R,eu,hr,hv,eg,ek,h5⟩ | h
    · subst eu eg ek
      obtain ⟨hka,KS⟩:=h1 R hr rfl
      have hb0:∀b,b<w.heap.size→hp (w.alloc (.cells (a.eval x).cells t)) b=hp w b:=fun b hb=>rz w _ hb
      have H1:Rel cx σ α F a (w.alloc (.cells (a.eval x).cells t)):=H.aae rfl rfl (by show w.heap.size≤(w.heap.push _).size; simp) hb0 rfl
      have hnew:=u7 w (.cells (a.eval x).cells t)
      rw [aD h5]
      refine iY (v:=.pointer (some ⟨w.heap.size,0,none⟩)) (x:=.one (.MF r R.g R.k [])) H1 hd hdn (by simp only [execOp,ho,Sem.run_bind,PN,Result.andThen_ok,Sem.run_pure]) ⟨a.eval x,w.heap.size,0,R.k,rfl,⟨?_,fun hF=>?_,fun q Q hq hbq=>?_⟩,fun i hi=>?_,rfl,h1⟩ h2
      · show w.heap.size<(w.heap.push _).size; simp
      · have:=(H.fl _ hF).1; omega
      · have:=((H.roots q Q hq).mine _ hbq).1; omega
      · unfold cellAt
        rw [hnew]
        simp
    obtain ⟨tk,htk,h⟩:=wN H h1 h2 h
    rcases aB h with ⟨_,h⟩ | ⟨_,h⟩
    · obtain ⟨g1,g2⟩:=gZ h
      rw [aD g2]
      obtain ⟨dO,F1,cst,fot,lw,lh,H1,T1,k1,k2,k3,k4,k5,k6⟩:=take1 H htk
      have hnr:bE d 0∉tk.ws.flatMap Wr.xu:=by
        intro hm
        cases htk with
        | held hws cs hv h hc=>rw [hws] at hm; simp at hm
        | ref r R hr hv e hk hd=>rw [e] at hm; simp only [List.flatMap_cons,List.flatMap_nil,List.append_nil,Wr.xu,List.mem_singleton] at hm; rw [hm,hr.1] at g1; simp at g1
        | cut r R cs hr hv hk e hd hl Yc how=>rw [e.2.2.1] at hm; simp only [List.flatMap_cons,List.flatMap_nil,List.append_nil,Wr.xu,List.mem_singleton] at hm; rw [hm,hr.1] at g1; simp at g1
        | gap r R p dd z hr hv hg hz fT hown hpv e hn=>rw [e] at hm; simp only [List.flatMap_cons,List.flatMap_nil,List.append_nil,Wr.xu,List.mem_singleton] at hm; rw [hm,hr.1] at g1; simp at g1
      have hn1:(aC tk.ws σ).roots (bE d 0)=none:=by rw [(k6 _ hnr).root]; exact g1
      obtain ⟨r1,α',F',r2,r3⟩:=Wj (P:=P) (t:=t) H1 hn1 (gF d 0) k2 k3 k1 tk.keep
      rw [dD]
      exact iY (x:=.one (.ptr (bE d 0) [] 0)) r2 hd hdn (by simp only [execOp,ho,Sem.run_bind,r1,Result.andThen_ok,Sem.run_pure]) r3 ⟨_,aK .., .inr (Nat.zero_le _)⟩
    · exact h.elim
  · exact h.elim
theorem Tq {B:Type} {z:B} (hT:fq P T) (H:Rel cx σ α F a w) {t:TypeId} {x:Operand} {v:AV} {zW:Bool} (ho:o.op=.load t x) (h1:bH cx σ α F w v (a.eval x)) (h2:wD σ v) {k:AV→Prog B}
    (h:(Iq T zW t v k).ends σ z):∃u v',(execOp a.eval o).run P w=.ok (.value v') w∧bH cx σ α F w u v'∧wD σ u∧(k u).ends σ z:=by
  unfold Iq at h
  split at h
  · exact h.elim
  · rename_i kk hty
    have ht:=hT.ty t kk hty
    obtain ⟨s1,s2,s3⟩:=ht.shape
    split at h
    · rename_i r g k0 p
      obtain ⟨u,b,off,k1,e,hq,hC,ho1,hR⟩:=h1
      obtain ⟨R,hr,hv,h⟩:=dh h
      rcases aB h with ⟨hc,h⟩ | ⟨_,h⟩
      · simp only [Bool.and_eq_true] at hc
        cases hg:aT p R.k R.x with
        | none=>rw [hg] at h; exact h.elim
        | some dd=>
          rw [hg] at h
          simp only at h
          obtain ⟨dk,dx⟩:=dd
          rcases beq_true h with ⟨ek,h5⟩ | ⟨_,h⟩
          · simp only at ek
            subst ek
            have hk0:=K.eq_of_beq hc.1.2
            subst hk0
            obtain ⟨hka,KS⟩:=hR R hr (Nat.eq_of_beq_eq_true hc.1.1)
            rw [KS.cells] at hC
            have hwn:eD α R r=none:=by unfold eD; rw [hka]
            obtain ⟨g1,g2,g3,g4,g5⟩:=M3 (h:=hp w) p hg ho1 (H.roots r R hr).len
            simp only at g1
            subst g1
            have hown:∀t∈ah p R.k,ay t R.own=true:=fun t ht=>by rw [g5] at ht; simp at ht
            have hn:bF (hp w) p R.k (α.hdr r) (eD α R r)=some (((α.hdr r).drop off).take k1.size,none):=by rw [hwn]; exact g3
            obtain ⟨gp,hO,hf⟩:=yF H hr hv hg g4 hown hn
            have hV:=qK H hr hO hf
            have hcs:Cells (hp w) b off (((α.hdr r).drop off).take k1.size):=by
              intro i hi
              have hi':i<k1.size:=by rw [FH g2] at hi; exact hi
              have:=hC (off+i) (by omega)
              rw [Nat.zero_add] at this
              rw [this,List.getElem?_take_of_lt hi',List.getElem?_drop]
            obtain ⟨u',hu⟩:=VC.mk s1 s2 s3 hV
            have hrun:=wM (P:=P) ht hcs (nC hV) hu
            have hrun':(execOp a.eval o).run P w=.ok (.value u') w:=by simp only [execOp,ho,e,Sem.run_bind,hrun,Result.andThen_ok,Sem.run_pure]
            rcases aB h5 with ⟨hf,h6⟩ | ⟨_,h6⟩
            · exact ⟨.val k1 dx [],u',hrun',fun _=>⟨_,hu,je hf hV⟩,fun t ht=>by simp at ht,h6⟩
            · exact ⟨.zW r p R.Bp,u',hrun',EA (cx:=cx) (F:=F) hr hg g4 hown hn hu,⟨R,hr.1, .inr (Nat.le_refl _)⟩,h6⟩
          · exact h.elim
      · exact h.elim
    rcases CS H h1 h2 h with ⟨r,R,p,dd,cs,b,q,hr,hv,hg,fT,hown,hn,e,h⟩ | ⟨bt,dd,Tg,b,q,cs,hw,e,hcs,hV,hok,hb,h⟩
    · obtain ⟨hC,⟨gp,hO,hf⟩,_⟩:=sD H hr hv hg fT hown hn
      obtain ⟨dk,dx⟩:=dd
      rcases beq_true h with ⟨ek,h5⟩ | ⟨_,h⟩
      · simp only at ek
        subst ek
        clear h
        have h:=h5
        clear h5
        have hV:=qK H hr hO hf
        obtain ⟨u,hu⟩:=VC.mk s1 s2 s3 hV
        have hrun:=wM (P:=P) ht hC (nC hV) hu
        have hrun':(execOp a.eval o).run P w=.ok (.value u) w:=by simp only [execOp,ho,e,Sem.run_bind,hrun,Result.andThen_ok,Sem.run_pure]
        rcases aB h with ⟨_,h⟩ | ⟨_,h⟩
        · exact ⟨.zW r p R.Bp,u,hrun',EA (cx:=cx) (F:=F) hr hg fT hown hn hu,⟨R,hr.1, .inr (Nat.le_refl _)⟩,h⟩
        · exact ⟨.val dk dx _,u,hrun',fun _=>⟨cs,hu,hV⟩,Py H hr _,h⟩
      · exact h.elim
    · obtain ⟨dk,dx⟩:=dd
      rcases beq_true h with ⟨ek,h5⟩ | ⟨_,h⟩
      · simp only at ek
        subst ek
        clear h
        have h:=h5
        clear h5
        obtain ⟨u,hu⟩:=VC.mk s1 s2 s3 hV
        have hrun:=wM (P:=P) ht hcs (nC hV) hu
        have hrun':(execOp a.eval o).run P w=.ok (.value u) w:=by simp only [execOp,ho,e,Sem.run_bind,hrun,Result.andThen_ok,Sem.run_pure]
        refine ⟨.val dk dx _,u,hrun',fun _=>⟨cs,hu, ?_⟩, ?_,h⟩
        · cases hf:dk.flat with
          | true=>exact je hf hV
          | false=>exact hV
        · cases hf:dk.flat with
          | true=>intro t ht; simp at ht
          | false=>exact hw
      · exact h.elim
theorem ZZ (hT:fq P T) (H:Rel cx σ α F a w) (hd:o.dst=some d) (hdn:d<cx.nt) {t:TypeId} {x:Operand} {zW:Bool} (ho:o.op=.load t x)
    (h:(dP x fun v=>Iq T zW t v fun u=>(.ret [Wr.s d (.one u)]:Prog (List Wr))).ends σ ws):vJ P cx o a w (aC ws σ):=by
  obtain ⟨v,h1,h2,h⟩:=bS H h
  obtain ⟨u,v',g1,g2,g3,h⟩:=Tq hT H ho h1 h2 h
  rw [aD h]
  exact bL H hd hdn g1 g2 g3
theorem Sw (hT:fq P T) (H:Rel cx σ α F a w) (hd:o.dst=some d) (hdn:d<cx.nt) {t:TypeId} {x:Operand} (ho:o.op=.load t x)
    (h:(dP x fun v=>Iq T true t v fun u=>match T.ty t with
      | some kk=>Fe kk u fun tk=>ku (bE d 0) (.ret (tk.ws++[Wr.r (bE d 0) (some (aP tk.k tk.x tk.own tk.ko .anon tk.keep)),Wr.s d (.one (.ref (bE d 0) 0))]))
      | none=>(.fail:Prog (List Wr))).ends σ ws):vJ P cx o a w (aC ws σ):=by
  obtain ⟨v,h1,h2,h⟩:=bS H h
  obtain ⟨u,v',hrun,g4,g5,h⟩:=Tq hT H ho h1 h2 h
  split at h
  · rename_i kk hty
    obtain ⟨tk,htk,h⟩:=wN H g4 g5 h
    obtain ⟨g1,g2⟩:=gZ h
    rw [aD g2]
    obtain ⟨dO,F1,cst,fot,lw,lh,H1,T1,k1,k2,k3,k4,k5,k6⟩:=take1 H htk
    have hnr:bE d 0∉tk.ws.flatMap Wr.xu:=by
      intro hm
      cases htk with
      | held hws cs hv h hc=>rw [hws] at hm; simp at hm
      | ref r R hr hv e hk hd=>rw [e] at hm; simp only [List.flatMap_cons,List.flatMap_nil,List.append_nil,Wr.xu,List.mem_singleton] at hm; rw [hm,hr.1] at g1; simp at g1
      | cut r R cs hr hv hk e hd hl Yc how=>rw [e.2.2.1] at hm; simp only [List.flatMap_cons,List.flatMap_nil,List.append_nil,Wr.xu,List.mem_singleton] at hm; rw [hm,hr.1] at g1; simp at g1
      | gap r R p dd z hr hv hg hz fT hown hpv e hn=>rw [e] at hm; simp only [List.flatMap_cons,List.flatMap_nil,List.append_nil,Wr.xu,List.mem_singleton] at hm; rw [hm,hr.1] at g1; simp at g1
    have hn1:(aC tk.ws σ).roots (bE d 0)=none:=by rw [(k6 _ hnr).root]; exact g1
    obtain ⟨α',r2,r3⟩:=Eu (F':=F1.filter fun b=>!ay b fot) H1 hn1 (gF d 0) k2.sub k2.nd (Lh k2.wt)
      (fun b hb=>by
        obtain ⟨q1,q2⟩:=List.mem_filter.1 hb
        simp only [Bool.not_eq_true',aV] at q2
        exact ⟨q1,q2⟩) (H1.Fw.filter _) k2.len
      (fun hcl=>by
        cases hb:tk.bad with
        | nil=>exact gQ hb (k2.ow k3)
        | cons t0 l=>
          have et:tk.ko=tk.tags:=by
            unfold iN.ko
            rw [hb]
          rw [et] at hcl ⊢
          exact bC (fun _ _=>rfl) (fun b h=>.inl h) (fun _ _=>rfl) (k2.ow hcl)) k1 tk.keep
    rw [dD]
    exact iY (x:=.one (.ref (bE d 0) 0)) r2 hd hdn hrun r3 ⟨_,aK .., .inr (Nat.zero_le _)⟩
  · exact h.elim
end
end Go.Proofs.YtdknpknohipffaaGreat.Ow
