/- A verified reading of translated code, part F of 7. No condition. -/
import Derived.Test.YtailcbngagacaaaGreatOwE
set_option linter.unusedSectionVars false
set_option linter.unusedVariables false
set_option linter.unusedSimpArgs false
namespace Go.Proofs.YtailcbngagacaaaGreat.Ow
section
open Go
variable [Fr]
def iU (g:GA):List Nat:=(match g.base with
 | some q=>[q.1]
 | none=>[])++g.fo
def CY:aV->List Nat
 | .val _ bE=>bE
 | _=>[]
def rF:aV->Nat
 | .rw k _ _ _=>k.size
 | _=>0
def kS (cx:Cx) (Z:St) (J:aH) (F:List Nat) (w:World) (ps:List aV) (c:Cont (kin ps)) (is:List bM) (gs:List GA):Cx where
 nt:=0
 w0:=w
 ext:=fun j b=>(∃i,is[j]?=some i/\bG cx Z J F w i.ids b)/\∀(m:Nat) (g:GA) (q:Nat×Nat),gs[m]?=some g->g.base=some q->b≠q.1
 par:=fun j=>match gs[j]?,ps[j]? with
  | some g,some p=>bif g.ow || g.wb then some ⟨g.base.map fun q=>(q.1,q.2,rF p),iU g,g.wb⟩ else none
  | _,_=>none
 ptrs:=fun j q ts v=>∃g R0 c0 b o,gs[j]?=some g/\g.wb=true/\iJ (iI ps 0 c) (ah j)=some R0/\ts=iW q R0.k/\(∀t∈az q R0.k,aa t R0.own=true)/\bX q R0.k R0.x/\aT (hp w) q R0.k g.cs g.base=some (c0,some (b,o))/\v=.pointer (some ⟨b,o,none⟩)
 refs:=fun j v=>∃g,gs[j]?=some g/\g.v=v/\g.base=none/\g.wb=true
def tL (gs:List GA):aH where
 loc:=fun r=>((gs[r / 4]?).bind (·.base)).getD (0,0)
 hdr:=fun r=>((gs[r / 4]?).map (·.cs)).getD []
 fo:=fun r=>((gs[r / 4]?).map (·.fo)).getD []
theorem aa9 (j:Nat):ah j / 4=j:=by unfold ah; omega
theorem Ad (j:Nat):gZ (ah j)=false:=by
 unfold gZ ah
 have:4 * j % 4=0:=by omega
 rw [this]; rfl
section
variable {P:Program} {T:bH} {cx:Cx} {Z:St} {J:aH} {F:List Nat} {a:Act} {w:World} {ps:List aV} {c:Cont (kin ps)} {vs:List Value} {is:List bM} {gs:List GA}
structure Apart (cx:Cx) (Z:St) (J:aH) (F:List Nat) (w:World) (ps:List aV) (is:List bM) (gs:List GA):Prop where
 one:∀(j j':Nat) (g g':GA),gs[j]?=some g->gs[j']?=some g'->g.wb=true->g'.wb=true->j=j'
 own:(gs.flatMap fun g=>bif g.ow then g.fo else []).Nodup
 bE:∀(j:Nat) (p:aV) (i:bM) (r n:Nat),ps[j]?=some p->is[j]?=some i->(r,n)∈i.ids->∀(m:Nat) (i':bM) q,is[m]?=some i'->i'.wb=some (r,q)->m∈CY p/\∃k bE,p=.val k bE/\∀b∈i'.bt,b∉k.tys
 prw:∀(j:Nat) (p:aV),ps[j]?=some p->∀m∈CY p,∃(i':bM) (q:Nat×List Stp×List TypeId×List TypeId),is[m]?=some i'/\i'.wb=some q
theorem flatMap_apart {A:Type} {f:A->List Nat}:∀{l:List A} {i j:Nat} {x y:A},(l.flatMap f).Nodup->l[i]?=some x->l[j]?=some y->i≠j->∀b∈f x,b∉f y:=by
 intro l
 induction l with
 | nil=>intro i j x y _ h; simp at h
 | cons z l ih=>
  intro i j x y hnd hi hj hne b hb hb'
  simp only [kQ] at hnd
  have n:=cK.1 hnd
  cases i with
  | zero=>
   simp only [qO,au] at hi
   subst hi
   cases j with
   | zero=>exact hne rfl
   | succ j=>exact n.2.2 b hb b (jZ.2 ⟨y,qo (by simpa using hj),hb'⟩) rfl
  | succ i=>
   cases j with
   | zero=>
    simp only [qO,au] at hj
    subst hj
    exact n.2.2 b hb' b (jZ.2 ⟨x,qo (by simpa using hi),hb⟩) rfl
   | succ j=>exact ih n.2.1 (by simpa using hi) (by simpa using hj) (by omega) b hb hb'
theorem aob {p:aV} {cj:Cont p.kin} {v:Value} {i:bM} {g:GA} (h:uD cx Z J F a w p cj v i g) (hw:g.wb=true) :
  ∃(k:K) (x:El k) (ow wt ht:List TypeId) (r:Nat) (R:Root) (q:List Stp) (wh:Option (Nat×Nat)),((p=.rw k ow wt ht/\i.bt=[iV R q]/\∃b o,wh=some (b,o)/\v=.pointer (some ⟨b,o,none⟩)/\g.base=some (b,o)/\b∉g.fo)\/(p=.bR k ow wt/\ht=k.tys/\i.bt=[]/\VC k v g.cs/\g.base=none))/\
   zi cx Z J w k x ow i wt ht r R q/\aT (hp w) q R.k (J.hdr r) (aK J R r)=some (g.cs,wh)/\Ow (hp w) R.own (bG cx Z J F w R.tags) k x g.cs g.fo/\(∀b∈g.fo,b∈J.fo r)/\g.fo.Nodup/\g.ow=false/\g.v=v:=by
 obtain ⟨hv,h⟩:=h
 cases p with
 | val k bE=>rw [h.2.1] at hw; simp at hw
 | ro k=>rw [h.2.1] at hw; simp at hw
 | rw k ow wt ht=>
  obtain ⟨h1,h2,r,R,q,b,o,h3,h4,h5,h6,h7,h8,h9,h10,h11,_⟩:=h
  exact ⟨k,cj.1,ow,wt,ht,r,R,q,some (b,o), .inl ⟨rfl,h4,b,o,rfl,h6,h7,h11⟩,h3,h5,h8,h9,h10,h1,hv⟩
 | bR k ow wt=>
  obtain ⟨h1,h2,r,R,q,wh,h3,h4,h5,h6,h7,h8,h9,h10,_⟩:=h
  exact ⟨k,cj.1,ow,wt,k.tys,r,R,q,wh, .inr ⟨rfl,rfl,h4,h6,h7⟩,h3,h5,h8,h9,h10,h1,hv⟩
 | own k ow=>rw [h.2.1] at hw; simp at hw
 | fn f ks=>rw [h.2.1] at hw; simp at hw
 | into j q=>rw [h.2.1] at hw; simp at hw
structure RD (cx:Cx) (Z:St) (J:aH) (F:List Nat) (w:World) (ps:List aV) (vs:List Value) (is:List bM) (gs:List GA) (j:Nat) (R:Root) (g:GA) (i:bM) (p:aV):Prop where
 hg:gs[j]?=some g
 hi:is[j]?=some i
 hq:ps[j]?=some p
 hv:vs[j]?=some g.v
 held:g.ow=true\/g.wb=true
 bE:CY p=[]
 amz:∀k bE,p≠.val k bE
 lw:R.w=[]
 lh:R.h=[]
 g0:R.g=0
 ew:R.ew=[]
 eh:R.eh=[]
 tags:R.tags=bif R.k.tys.all (fun t=>aa t R.own) then [] else [(jA j,0)]
 ow:Ow (hp w) R.own (bG cx Z J F w i.ids) R.k R.x g.cs g.fo
 nd:g.fo.Nodup
 kind:(R.kind=.par/\rF p=R.k.size/\g.wb=true/\∃b o,g.base=some (b,o)/\b∉g.fo)\/(R.kind=.anon/\g.base=none/\VC R.k g.v g.cs)
theorem NB {p:aV} {cj:Cont p.kin} {v:Value} {i:bM} {g:GA} {j:Nat} {R:Root} (h:uD cx Z J F a w p cj v i g) (hg:gs[j]?=some g) (hi:is[j]?=some i) (hp:ps[j]?=some p) (hv:vs[j]?=some v) (hR:lK p j cj=some R):RD cx Z J F w ps vs is gs j R g i p:=by
 obtain ⟨h0,h⟩:=h
 subst h0
 have hall:∀{k:K} {ow own:List TypeId},v_ k own ow=true->∀t∈k.tys,aa t ow=aa t own:=fun hj t ht=>by
  have:=eH.1 hj t ht
  exact (by simpa using this:aa t _=aa t _).symm
 cases p with
 | rw k ow wt ht=>
  obtain ⟨h1,h2,r,R0,q,b,o,h3,h4,h5,h6,h7,h8,h9,h10,h11,_⟩:=h
  simp only [lK,au] at hR
  subst hR
  refine ⟨hg,hi,hp,hv, .inr h2,rfl,by simp,rfl,rfl,rfl,rfl,rfl,rfl, ?_,h10, .inl ⟨rfl,rfl,h2,b,o,h7,h11⟩⟩
  rw [h3.ids]
  exact vv (hall h3.just) h8
 | bR k ow wt=>
  obtain ⟨h1,h2,r,R0,q,wh,h3,h4,h5,h6,h7,h8,h9,h10,_⟩:=h
  simp only [lK,au] at hR
  subst hR
  refine ⟨hg,hi,hp,hv, .inr h2,rfl,by simp,rfl,rfl,rfl,rfl,rfl,rfl, ?_,h10, .inr ⟨rfl,h7,h6⟩⟩
  rw [h3.ids]
  exact vv (hall h3.just) h8
 | own k ow=>
  obtain ⟨h1,h2,h3,h4,h5,h6,h7,h8⟩:=h
  simp only [lK,au] at hR
  subst hR
  exact ⟨hg,hi,hp,hv, .inl h1,rfl,by simp,rfl,rfl,rfl,rfl,rfl,rfl,h6,h8, .inr ⟨rfl,h4,h5⟩⟩
 | val k bE=>simp [lK] at hR
 | ro k=>simp [lK] at hR
 | fn f ks=>simp [lK] at hR
 | into j q=>simp [lK] at hR
theorem Na {p:aV} {cj:Cont p.kin} {v:Value} {i:bM} {g:GA} (j:Nat) (h:uD cx Z J F a w p cj v i g) (hh:g.ow=true\/g.wb=true):∃R,lK p j cj=some R:=by
 obtain ⟨h0,h⟩:=h
 cases p with
 | rw k ow wt ht=>exact ⟨_,rfl⟩
 | bR k ow wt=>exact ⟨_,rfl⟩
 | own k ow=>exact ⟨_,rfl⟩
 | val k bE=>rcases hh with hh | hh <;> simp [h.1,h.2.1] at hh
 | ro k=>rcases hh with hh | hh <;> simp [h.1,h.2.1] at hh
 | fn f ks=>rcases hh with hh | hh <;> simp [h.1,h.2.1] at hh
 | into j q=>rcases hh with hh | hh <;> simp [h.1,h.2.1] at hh
theorem sw (H:Rel cx Z J F a w) {p:aV} {cj:Cont p.kin} {v:Value} {i:bM} {g:GA} (h:uD cx Z J F a w p cj v i g):(∀b∈iU g,(g.ow=true/\b∈F)\/(g.wb=true/\∃r R q,i.wb=some (r,q)/\aU Z r R/\b∈blk J R r))/\
  (∀b o,g.base=some (b,o)->∃r R q arr e lo hi,i.wb=some (r,q)/\aU Z r R/\b∈blk J R r/\hp w b=some (.cells arr e (lo,hi))/\jq arr.size lo hi/\o+rF p<=arr.size/\Cells (hp w) b o g.cs/\((∀t∈i.bt,t=e)/\i.bt≠[]/\¬nV cx b\/nV cx b))/\
  (∀b∈g.fo,g.wb=true->∃r R q,i.wb=some (r,q)/\aU Z r R/\b∈J.fo r)/\(g.wb=true↔i.wb≠none):=by
 obtain ⟨hv,h⟩:=h
 cases p with
 | val k bE=>
  obtain ⟨h1,h2,h3,h4,h5,_⟩:=h
  exact ⟨fun b hb=>by simp [iU,h4,h5] at hb,fun b o hb=>by rw [h5] at hb; simp at hb,fun b hb=>by rw [h4] at hb; simp at hb,by simp [h2,h3]⟩
 | ro k=>
  obtain ⟨h1,h2,h3,h4,h5,_⟩:=h
  exact ⟨fun b hb=>by simp [iU,h4,h5] at hb,fun b o hb=>by rw [h5] at hb; simp at hb,fun b hb=>by rw [h4] at hb; simp at hb,by simp [h2,h3]⟩
 | fn f ks=>
  obtain ⟨h1,h2,h3,h4,h5,_⟩:=h
  exact ⟨fun b hb=>by simp [iU,h4,h5] at hb,fun b o hb=>by rw [h5] at hb; simp at hb,fun b hb=>by rw [h4] at hb; simp at hb,by simp [h2,h3]⟩
 | own k ow=>
  obtain ⟨h1,h2,h3,h4,h5,h6,h7,h8⟩:=h
  exact ⟨fun b hb=>.inl ⟨h1,h7 b (by simpa [iU,h4] using hb)⟩,fun b o hb=>by rw [h4] at hb; simp at hb,fun b hb hw=>by rw [h2] at hw; simp at hw,by simp [h2,h3]⟩
 | bR k ow wt=>
  obtain ⟨h1,h2,r,R,q,wh,h3,h4,h5,h6,h7,h8,h9,h10,_⟩:=h
  have hf:∀b∈g.fo,b∈blk J R r:=fun b hb=>bB _ (h9 b hb)
  exact ⟨fun b hb=>.inr ⟨h2,r,R,_,h3.wb,h3.lv,hf b (by simpa [iU,h7] using hb)⟩,fun b o hb=>by rw [h7] at hb; simp at hb,fun b hb _=>⟨r,R,_,h3.wb,h3.lv,h9 b hb⟩,by simp [h2,h3.wb]⟩
 | rw k ow wt ht=>
  obtain ⟨h1,h2,r,R,q,b,o,h3,h4,h5,h6,h7,h8,h9,h10,h11,_⟩:=h
  have hf:∀b∈g.fo,b∈blk J R r:=fun b hb=>bB _ (h9 b hb)
  obtain ⟨m1,_,m2,⟨arr,e,lo,hi,m3,m4,m5,m6⟩,_⟩:=xy H h3.lv h3.vl h3.get h3.pin h3.own h5
  refine ⟨fun b' hb=>?_,fun b' o' hb=>?_,fun b hb _=>⟨r,R,_,h3.wb,h3.lv,h9 b hb⟩,by simp [h2,h3.wb]⟩
  ·refine .inr ⟨h2,r,R,_,h3.wb,h3.lv, ?_⟩
   simp only [iU,h7,kX,rR,bT] at hb
   rcases hb with hb | hb
   ·subst hb; exact m2
   ·exact hf b' hb
  ·rw [h7] at hb
   simp only [au,bS] at hb
   obtain ⟨rfl,rfl⟩:=hb
   refine ⟨r,R,_,arr,e,lo,hi,h3.wb,h3.lv,m2,m3,m4,m5,m1, ?_⟩
   rcases m6 with ⟨m6,m7⟩ | ⟨m6,_⟩
   ·exact .inl ⟨fun t ht=>by rw [h4] at ht; simp only [gI] at ht; rw [ht,m6],by rw [h4]; simp,m7⟩
   ·exact .inr m6
 | into j q=>
  obtain ⟨h1,h2,h3,h4,h5,_⟩:=h
  exact ⟨fun b hb=>by simp [iU,h4,h5] at hb,fun b o hb=>by rw [h5] at hb; simp at hb,fun b hb=>by rw [h4] at hb; simp at hb,by simp [h2,h3]⟩
end
end
section
open Go
variable [Fr]
section
variable {P:Program} {T:bH} {cx:Cx} {Z:St} {J:aH} {F:List Nat} {a:Act} {w:World} {ps:List aV} {c:Cont (kin ps)} {vs:List Value} {is:List bM} {gs:List GA}
theorem xZ {j:Nat} {g:GA} (h:gs[j]?=some g):(tL gs).loc (ah j)=g.base.getD (0,0)/\(tL gs).hdr (ah j)=g.cs/\(tL gs).fo (ah j)=g.fo:=by
 simp [tL,aa9,h]
theorem RD.blk {j:Nat} {R:Root} {g:GA} {i:bM} {p:aV} (D:RD cx Z J F w ps vs is gs j R g i p):blk (tL gs) R (ah j)=iU g:=by
 obtain ⟨h1,h2,h3⟩:=xZ D.hg
 unfold Ow.blk iU aK
 rw [h1,h3]
 rcases D.kind with ⟨hk,_,_,b,o,hb,_⟩ | ⟨hk,hb,_⟩
 ·rw [hk,hb]; rfl
 ·rw [hk,hb]
theorem RD.wh {j:Nat} {R:Root} {g:GA} {i:bM} {p:aV} (D:RD cx Z J F w ps vs is gs j R g i p):aK (tL gs) R (ah j)=g.base:=by
 obtain ⟨h1,h2,h3⟩:=xZ D.hg
 unfold aK
 rw [h1]
 rcases D.kind with ⟨hk,_,_,b,o,hb,_⟩ | ⟨hk,hb,_⟩
 ·rw [hk,hb]; rfl
 ·rw [hk,hb]
theorem RD.live {j:Nat} {R:Root} {g:GA} {i:bM} {p:aV} (D:RD cx Z J F w ps vs is gs j R g i p):R.bY=false:=by
 unfold Root.bY
 rcases D.kind with ⟨hk,_⟩ | ⟨hk,_⟩ <;> rw [hk]
theorem alA (H:Rel cx Z J F a w) (hJ:wM cx Z J F a w ps c vs is gs) (hA:Apart cx Z J F w ps is gs):Rel (kS cx Z J F w ps c is gs) (fD ps c) (tL gs) [] ⟨vs.toArray,[]⟩ w:=by
 obtain ⟨lv,li,lg,hat⟩:=hJ.at (i0:=0)
 simp only [om] at hat
 have hroot:∀{r:Nat} {R:Root},(fD ps c).roots r=some R->∃j g i p,r=ah j/\RD cx Z J F w ps vs is gs j R g i p:=by
  intro r R h
  obtain ⟨j,p,h1,h2⟩:=al_ (show iJ (iI ps 0 c) r=some R from h)
  simp only [om] at h1
  subst h1
  obtain ⟨cj,v,i,g,e1,e2,e3,e4,e5,e6⟩:=hat j p h2
  have hR:lK p j cj=some R:=by rw [<-e6]; exact h
  exact ⟨j,g,i,p,rfl,NB e4 e3 e2 h2 e1 hR⟩
 have ak_:∀{j:Nat} {R:Root},(fD ps c).roots (ah j)=some R->∃g i p,RD cx Z J F w ps vs is gs j R g i p:=by
  intro j R h
  obtain ⟨j',g,i,p,h1,h2⟩:=hroot h
  have:=aa_ h1
  subst this
  exact ⟨g,i,p,h2⟩
 have hmk:∀{j:Nat} {g:GA},gs[j]?=some g->(g.ow=true\/g.wb=true)->∃R i p,(fD ps c).roots (ah j)=some R/\RD cx Z J F w ps vs is gs j R g i p:=by
  intro j g hg hh
  have hj:j<ps.length:=by have:=(qm.1 hg).1; omega
  obtain ⟨cj,v,i,g',e1,e2,e3,e4,e5,e6⟩:=hat j ps[j] (jd hj)
  rw [hg] at e3
  simp only [au] at e3
  subst e3
  obtain ⟨R,hR⟩:=Na j e4 hh
  have hr:(fD ps c).roots (ah j)=some R:=by show iJ (iI ps 0 c) (ah j)=some R; rw [e6,hR]
  exact ⟨R,i,ps[j],hr,NB e4 hg e2 (jd hj) e1 hR⟩
 have hgj:∀{j:Nat} {g:GA},gs[j]?=some g->∃p cj v i,ps[j]?=some p/\vs[j]?=some v/\is[j]?=some i/\uD cx Z J F a w p cj v i g:=by
  intro j g hg
  have hj:j<ps.length:=by have:=(qm.1 hg).1; omega
  obtain ⟨cj,v,i,g',e1,e2,e3,e4,_⟩:=hat j ps[j] (jd hj)
  rw [hg] at e3
  simp only [au] at e3
  subst e3
  exact ⟨ps[j],cj,v,i,jd hj,e1,e2,e4⟩
 have Ct:∀{j:Nat} {g:GA} {b:Nat},gs[j]?=some g->b∈iU g->(g.ow=true/\b∈F)\/(g.wb=true/\∃i r R q,is[j]?=some i/\i.wb=some (r,q)/\aU Z r R/\b∈blk J R r):=by
  intro j g b hg hb
  obtain ⟨p,cj,v,i,e1,e2,e3,e4⟩:=hgj hg
  rcases (sw H e4).1 b hb with h | ⟨h,r,R,q,h1⟩
  ·exact .inl h
  ·exact .inr ⟨h,i,r,R,q,e3,h1⟩
 have hmn:∀{j:Nat} {g:GA} {b:Nat},gs[j]?=some g->b∈iU g->mine cx w b:=by
  intro j g b hg hb
  rcases Ct hg hb with ⟨_,h⟩ | ⟨_,i,r,R,q,_,_,h1,h2⟩
  ·exact H.fl b h
  ·exact (H.roots r R h1).mine b h2
 have hlt:∀{j:Nat} {g:GA} {b:Nat},gs[j]?=some g->b∈iU g->b<w.heap.size:=fun hg hb=>(hmn hg hb).1
 have ZJ:∀{j:Nat} {g:GA} {b:Nat},gs[j]?=some g->g.ow=true->b∈iU g->b∈g.fo:=by
  intro j g b hg ho hb
  obtain ⟨p,cj,v,i,e1,e2,e3,e4⟩:=hgj hg
  unfold iU at hb
  cases hbase:g.base with
  | none=>rw [hbase] at hb; simpa using hb
  | some q=>
   exfalso
   obtain ⟨q1,q2⟩:=q
   obtain ⟨r,R,q,_,_,_,_,h1,_⟩:=(sw H e4).2.1 q1 q2 hbase
   have hw:g.wb=true:=(sw H e4).2.2.2.2 (by rw [h1]; simp)
   obtain ⟨_,h⟩:=e4
   cases p <;> first | (obtain ⟨g1,g2,_⟩:=h; rw [ho] at g1; simp at g1; done) | (obtain ⟨g1,g2,_⟩:=h; rw [hw] at g2; simp at g2; done) | exact h.elim
 have Zg:∀{j j':Nat} {g g':GA} {b:Nat},gs[j]?=some g->gs[j']?=some g'->j≠j'->b∈iU g->b∉iU g':=by
  intro j j' g g' b hg hg' hne hb hb'
  rcases Ct hg hb with ⟨ho,h⟩ | ⟨hw,i,r,R,q,_,_,h1,h2⟩
  ·rcases Ct hg' hb' with ⟨ho',h'⟩ | ⟨_,i',r',R',q',_,_,h1',h2'⟩
   ·refine flatMap_apart hA.own hg hg' hne b ?_ ?_
    ·rw [ho]; exact ZJ hg ho hb
    ·rw [ho']; exact ZJ hg' ho' hb'
   ·exact H.fB r' R' h1' b h2' h
  ·rcases Ct hg' hb' with ⟨_,h'⟩ | ⟨hw',_⟩
   ·exact H.fB r R h1 b h2 h'
   ·exact hne (hA.one j j' g g' hg hg' hw hw')
 have hnd:∀{j:Nat} {R:Root} {g:GA} {i:bM} {p:aV},RD cx Z J F w ps vs is gs j R g i p->(iU g).Nodup:=by
  intro j R g i p D
  unfold iU
  rcases D.kind with ⟨_,_,_,b,o,hb,hno⟩ | ⟨_,hb,_⟩
  ·rw [hb]; exact jg.2 ⟨hno,D.nd⟩
  ·rw [hb]; exact D.nd
 have SF:∀{j m:Nat} {i:bM} {p:aV} {g:GA} {b:Nat},is[j]?=some i->ps[j]?=some p->mE Z J F w i.ids b->gs[m]?=some g->b∈iU g->m∈CY p/\(∃k bE,p=.val k bE/\∀i',is[m]?=some i'->∀t∈i'.bt,t∉k.tys):=by
  intro j m i p g b hi hp hb hg hbf
  rcases Ct hg hbf with ⟨_,h⟩ | ⟨_,i',r,R,q,h0,h1,h2,h3⟩
  ·exact absurd h hb.2.1
  ·obtain ⟨n,hn⟩:=hb.2.2 r R h2 h3
   obtain ⟨g1,k,bE,g2,g3⟩:=hA.bE j p i r n hp hi hn m i' q h0 h1
   refine ⟨g1,k,bE,g2,fun CK h=>?_⟩
   rw [h0] at h
   simp only [au] at h
   subst h
   exact g3
 have RX:∀{j:Nat} {i:bM} {p:aV} {b:Nat},is[j]?=some i->ps[j]?=some p->bG cx Z J F w i.ids b->(∀k bE,p=.val k bE->∃t∈k.tys,l9 (hp w) b t)->(kS cx Z J F w ps c is gs).ext j b:=by
  intro j i p b hi hp hb ht
  refine ⟨⟨i,hi,hb⟩,fun m g q hg hbase e=>?_⟩
  have hbf:b∈iU g:=by unfold iU; rw [hbase,e]; simp
  obtain ⟨_,k,bE,h1,h2⟩:=SF hi hp hb.q hg hbf
  obtain ⟨p',cj,v,i',e1,e2,e3,e4⟩:=hgj hg
  obtain ⟨r,R,q',arr,e',lo,hi',f1,f2,f3,f4,f5,f6,f7,f8⟩:=(sw H e4).2.1 q.1 q.2 (by rw [hbase])
  rcases f8 with ⟨f8,f9,f10⟩ | f8
  ·obtain ⟨t,ht1,ht2⟩:=ht k bE h1
   have ht2:=H.Di (hmn hg hbf) ht2
   rw [e] at ht2
   unfold jS at ht2
   rw [f4] at ht2
   simp only [au] at ht2
   cases hbt:i'.bt with
   | nil=>exact f9 hbt
   | cons t0 l=>
    have hm:t0∈i'.bt:=by rw [hbt]; simp
    exact h2 i' e3 t0 hm (by rw [f8 t0 hm,ht2]; exact ht1)
  ·exact hb.2.2.1 (e▸f8)
 have Sn:∀{j:Nat} {i:bM} {p:aV} {b:Nat} {T:List Tag},is[j]?=some i->ps[j]?=some p->(kS cx Z J F w ps c is gs).ext j b->(jA j,0)∈T->(∀n∈CY p,(ah n,0)∈T)->bG (kS cx Z J F w ps c is gs) (fD ps c) (tL gs) [] w T b:=by
  intro j i p b T hi hp hb ht hpr
  obtain ⟨⟨i',hi',hok⟩,hno⟩:=hb
  rw [hi] at hi'
  simp only [au] at hi'
  subst hi'
  refine ⟨hok.1,by simp, ?_,fun r R hr hbr=>?_,fun _=>.inl ⟨j,0,ht,⟨i,hi,hok⟩,hno⟩⟩
  ·rintro ⟨m,pi,o,n,h1,h2⟩
   simp only [kS] at h1
   cases hgm:gs[m]? with
   | none=>rw [hgm] at h1; simp at h1
   | some g=>
    cases hpm:ps[m]? with
    | none=>rw [hgm,hpm] at h1; simp at h1
    | some pm=>
     rw [hgm,hpm] at h1
     simp only at h1
     cases hh:(g.ow || g.wb) with
     | false=>rw [hh] at h1; simp at h1
     | true=>
      rw [hh] at h1
      simp only [gJ,au] at h1
      subst h1
      simp only at h2
      cases hbase:g.base with
      | none=>rw [hbase] at h2; simp at h2
      | some q=>
       rw [hbase] at h2
       simp only [oU,au,bS] at h2
       exact hno m g q hgm hbase h2.1.symm
  ·obtain ⟨m,g,im,pm,h1,D⟩:=hroot hr.1
   subst h1
   rw [D.blk] at hbr
   exact ⟨0,hpr m (SF hi hp hok.q D.hg hbr).1⟩
 have akU:∀{j:Nat} {i:bM} {p:aV} {b:Nat},is[j]?=some i->ps[j]?=some p->(∀k bE,p≠.val k bE)->mE Z J F w i.ids b->mE (fD ps c) (tL gs) [] w [(jA j,0)] b:=by
  intro j i p b hi hp ES hb
  refine ⟨hb.1,by simp,fun r R hr hbr=>?_⟩
  obtain ⟨m,g,im,pm,h1,D⟩:=hroot hr.1
  subst h1
  rw [D.blk] at hbr
  obtain ⟨_,k,bE,h2,_⟩:=SF hi hp hb D.hg hbr
  exact absurd h2 (ES k bE)
 have hpar:∀{j:Nat} {pi:D8},(kS cx Z J F w ps c is gs).par j=some pi->∃g p,gs[j]?=some g/\ps[j]?=some p/\(g.ow=true\/g.wb=true)/\pi=⟨g.base.map fun q=>(q.1,q.2,rF p),iU g,g.wb⟩:=by
  intro j pi h1
  simp only [kS] at h1
  cases hgm:gs[j]? with
  | none=>rw [hgm] at h1; simp at h1
  | some g=>
   cases hpm:ps[j]? with
   | none=>rw [hgm,hpm] at h1; simp at h1
   | some pm=>
    rw [hgm,hpm] at h1
    simp only at h1
    cases hh:(g.ow || g.wb) with
    | false=>rw [hh] at h1; simp at h1
    | true=>
     rw [hh] at h1
     simp only [gJ,au] at h1
     exact ⟨g,pm,rfl,rfl,by simpa using hh,h1.symm⟩
 have ZL:∀{j:Nat} {R:Root} {g:GA} {i:bM} {p:aV},RD cx Z J F w ps vs is gs j R g i p->(kS cx Z J F w ps c is gs).par j=some ⟨g.base.map fun q=>(q.1,q.2,rF p),iU g,g.wb⟩:=by
  intro j R g i p D
  simp only [kS]
  rw [D.hg,D.hq]
  have:(g.ow || g.wb)=true:=by simpa using D.held
  simp only [this,gJ]
 have hsame:∀{j:Nat} {R R':Root},(fD ps c).roots (ah j)=some R->(fD ps c).roots (ah j)=some R'->R'=R:=fun h1 h2=>by rw [h1] at h2; simpa using h2.symm
 have vR:∀{j:Nat} {g:GA} {p:aV} {b o:Nat},gs[j]?=some g->ps[j]?=some p->g.base=some (b,o)->∃arr e lo hi,hp w b=some (.cells arr e (lo,hi))/\jq arr.size lo hi/\o+rF p<=arr.size/\Cells (hp w) b o g.cs:=by
  intro j g p b o hg hp hb
  obtain ⟨p',cj,v,i,e1,e2,e3,e4⟩:=hgj hg
  rw [hp] at e1
  simp only [au] at e1
  subst e1
  obtain ⟨r,R,q',arr,e',lo,hi',f1,f2,f3,f4,f5,f6,f7,f8⟩:=(sw H e4).2.1 b o hb
  exact ⟨arr,e',lo,hi',f4,f5,f6,f7⟩
 have ZT:∀s,jv (kS cx Z J F w ps c is gs) (fD ps c) (tL gs) [] w ((fD ps c).slots s) (vs.toArray.getD s undef)/\nu (fD ps c) ((fD ps c).slots s):=by
  intro s
  rcases aaC ps 0 c s with h | ⟨j,p,cj0,hj,hps,hs0⟩
  ·have:(fD ps c).slots s=.one .undef:=h
   rw [this]
   exact ⟨trivial,trivial⟩
  ·simp only [om] at hj
   subst hj
   obtain ⟨cj,v,i,g,e1,e2,e3,e4,e5,e6⟩:=hat s p hps
   have hsl:(fD ps c).slots s=.one (Ab p s cj):=e5
   have hvs:vs.toArray.getD s undef=v:=by
    rw [Gc]
    simp [e1]
   rw [hsl,hvs]
   have hro:∀{k:K} {x:El k} {v:Value} {b o:Nat} {cs:List Value},(∀k bE,p≠.val k bE)->v=.pointer (some ⟨b,o,none⟩)->Cells (hp w) b o cs->Vw (hp w) (bG cx Z J F w i.ids) k x cs->mE Z J F w i.ids b->CY p=[]->
     wz (kS cx Z J F w ps c is gs) (fD ps c) (tL gs) [] w SENT k x [(jA s,0)] v:=by
    intro k x v b o cs ES hv hC hV hq hpr
    refine ⟨⟨b,o,hv⟩,fun _=>⟨b,o,cs,hv,hC,lN (fun _ _=>rfl) (fun b hb=>?_) hV,akU e2 hps ES hq, .inl ⟨rfl,fun t ht=>by simp only [gI] at ht; subst ht; exact uP s⟩⟩⟩
    exact Sn e2 hps (RX e2 hps hb (fun k bE h=>absurd h (ES k bE))) (by simp) (by rw [hpr]; simp)
   have Sz:∀{R:Root},lK p s cj=some R->dQ (fD ps c) (.ref (ah s) 0)/\dQ (fD ps c) (.ptr (ah s) [] 0):=by
    intro R hR
    have hr:(fD ps c).roots (ah s)=some R:=by show iJ (iI ps 0 c) (ah s)=some R; rw [e6,hR]
    exact ⟨⟨R,hr, .inr (fT _)⟩,⟨R,hr, .inr (fT _)⟩⟩
   have Zj:gB (fD ps c) [(jA s,0)]:=fun t ht=>by simp only [gI] at ht; subst ht; exact .inl (uP s)
   have qE:∀{R:Root},lK p s cj=some R->R.kind=.anon->aW (kS cx Z J F w ps c is gs) (fD ps c) (tL gs) [] w (.ref (ah s) 0) v:=by
    intro R hR hk Q hQ _
    have hr:(fD ps c).roots (ah s)=some R:=by show iJ (iI ps 0 c) (ah s)=some R; rw [e6,hR]
    have D:=NB e4 e3 e2 hps e1 hR
    have hQR:=hsame hr hQ.1
    subst hQR
    rcases D.kind with ⟨hk',_⟩ | ⟨_,_,hV⟩
    ·rw [hk] at hk'; simp at hk'
    ·refine ⟨hk, ?_⟩
     rw [(xZ D.hg).2.1, <-e4.1]
     exact hV
   cases p with
   | val k bE=>
    obtain ⟨h0,h1,h2,h3,h4,h5,h6,h7⟩:=e4
    refine ⟨fun hc=>⟨g.cs,h6, ?_⟩, ?_⟩
    ·cases hf:k.flat with
     | true=>exact ni hf h7
     | false=>
      rw [show (Ab (.val k bE) s cj)=.val k cj.1 ((jA s,0) :: bE.map fun j=>(ah j,0)) by simp [Ab,hf]] at *
      refine lN (fun _ _=>rfl) (fun b hb=>?_) (Ig k.tys (fun _ h=>h) h7)
      refine Sn e2 hps (RX e2 hps hb.1 (fun k' aoK h=>by simp only [aV.val.injEq] at h; obtain ⟨rfl,_⟩:=h; exact hb.2)) (by simp) (fun n hn=>by exact jD _ (fI.2 ⟨n,hn,rfl⟩))
    ·intro t ht
     cases hf:k.flat with
     | true=>simp [Ab,hf] at ht
     | false=>
      simp only [Ab,hf,kg,bT,fI] at ht
      rcases ht with ht | ⟨m,hm,ht⟩
      ·subst ht; exact .inl (uP s)
      ·subst ht
       obtain ⟨i',q,f1,f2⟩:=hA.prw s _ hps m hm
       have hm':m<gs.length:=by have:=(qm.1 f1).1; omega
       obtain ⟨p',cj',v',CK,k1,k2,k3,k4⟩:=hgj (jd hm')
       rw [f1] at k3
       simp only [au] at k3
       subst k3
       obtain ⟨R,_,_,hR,_⟩:=hmk (jd hm') (.inr ((sw H k4).2.2.2.2 (by rw [f2]; simp)))
       exact .inr ⟨R,hR, .inr (fT _)⟩
   | ro k=>
    obtain ⟨h0,h1,h2,h3,h4,h5,b,o,h6,h7,h8,h9⟩:=e4
    exact ⟨hro (by simp) h6 h7 h8 h9 rfl,Zj⟩
   | rw k ow wt ht=>
    obtain ⟨R,hR⟩:=Na s e4 (.inr e4.2.2.1)
    have hr:(fD ps c).roots (ah s)=some R:=by show iJ (iI ps 0 c) (ah s)=some R; rw [e6,hR]
    have D:=NB e4 e3 e2 hps e1 hR
    obtain ⟨h0,h1,h2,r,R0,q,b,o,h3,h4,h5,h6,h7,_⟩:=e4
    refine ⟨⟨⟨b,o,h6⟩,fun Q hQ _ _ _ _=>⟨trivial,g.cs,b,o, ?_,h6⟩⟩,(Sz hR).2⟩
    have hQR:=hsame hr hQ
    subst hQR
    simp only [aT]
    rw [D.wh,h7,(xZ D.hg).2.1]
   | bR k ow wt=>
    obtain ⟨R,hR⟩:=Na s e4 (.inr e4.2.2.1)
    exact ⟨qE hR (by simp only [lK,au] at hR; subst hR; rfl),(Sz hR).1⟩
   | own k ow=>
    obtain ⟨R,hR⟩:=Na s e4 (.inl e4.2.1)
    exact ⟨qE hR (by simp only [lK,au] at hR; subst hR; rfl),(Sz hR).1⟩
   | fn f ks=>
    obtain ⟨h0,h1,h2,h3,h4,h5,us,h6,h7⟩:=e4
    have aj9:∀(ks:List K) (c0:Cont ks) (us:List Value),uD.Kj cx Z J F w ks c0 us i.ids->nA (kS cx Z J F w ps c is gs) (fD ps c) (tL gs) [] w (gp.x8 s ks c0) us:=by
     intro ks
     induction ks with
     | nil=>intro c0 us h; cases us with
      | nil=>exact trivial
      | cons _ _=>exact h.elim
     | cons k ks ih=>intro c0 us h; cases us with
      | nil=>exact h.elim
      | cons u us=>
       obtain ⟨⟨b,o,cs,g1,g2,g3,g4⟩,g5⟩:=h
       exact ⟨hro (by simp) g1 g2 g3 g4 rfl,ih c0.2 us g5⟩
    have aj_:∀(ks:List K) (c0:Cont ks),∀q∈gp.x8 s ks c0,gB (fD ps c) q.2.2:=by
     intro ks
     induction ks with
     | nil=>intro c0 q hq; simp [gp.x8] at hq
     | cons k ks ih=>
      intro c0 q hq
      rcases bT.1 hq with h | h
      ·subst h; exact Zj
      ·exact ih c0.2 q h
    exact ⟨⟨us,h6,aj9 ks cj us h7⟩,aj_ ks cj⟩
   | into j q=>
    obtain ⟨h0,h1,h2,h3,h4,h5,b,h6⟩:=e4
    exact ⟨⟨b,h6⟩,trivial⟩
 constructor
 ·rfl
 ·exact fT _
 ·intro j pi b o n hj hb
  obtain ⟨g,p,hg,hp,hh,rfl⟩:=hpar hj
  obtain ⟨R,i,p',hr,D⟩:=hmk hg hh
  have:p'=p:=by have:=D.hq; rw [hp] at this; simpa using this.symm
  subst this
  simp only at hb
  cases hbase:g.base with
  | none=>rw [hbase] at hb; simp at hb
  | some q=>
   rw [hbase] at hb
   simp only [oU,au,bS] at hb
   obtain ⟨rfl,rfl,rfl⟩:=hb
   rcases D.kind with ⟨hk,hs,_⟩ | ⟨_,hn,_⟩
   ·refine ⟨R,⟨hr,D.live⟩,hk, ?_,hs.symm⟩
    rw [(xZ hg).1,hbase]
    rfl
   ·rw [hbase] at hn; simp at hn
 ·intro r R hr hk
  obtain ⟨j,g,i,p,rfl,D⟩:=hroot hr.1
  rcases D.kind with ⟨_,hs,_,b,o,hb,_⟩ | ⟨hk',_⟩
  ·refine ⟨j,_,rF p,rfl,ZL D, ?_⟩
   rw [(xZ D.hg).1,hb]
   rfl
  ·rw [hk] at hk'; simp at hk'
 ·exact fun s=>(ZT s).1
 ·exact fun s=>(ZT s).2
 ·intro r R hr
  obtain ⟨j,g,i,p,rfl,D⟩:=hroot hr.1
  obtain ⟨a1,a2,a3⟩:=xZ D.hg
  refine ⟨fun _=>?_,by rw [a2]; exact fM D.ow,fun b o hb=>?_,by rw [D.blk]; exact hnd D,fun b hb=>?_⟩
  ·rw [a2,a3]
   have eZ:=D.tags
   cases hall:(R.k.tys.all fun t=>aa t R.own) with
   | true=>exact j5 (lu (qH hall)) D.ow
   | false=>
    rw [hall] at eZ
    refine dY (fun _ _=>rfl) (fun b hb=>?_) (fun _ _=>rfl) D.ow
    exact Sn D.hi D.hq (RX D.hi D.hq hb (fun k bE h=>absurd h (D.amz k bE))) (by rw [eZ]; simp) (by rw [D.bE]; simp)
  ·rw [D.wh] at hb
   obtain ⟨arr,e,lo,hi,m1,m2,m3,m4⟩:=vR D.hg D.hq hb
   rw [a2]
   rcases D.kind with ⟨hk,hs,_⟩ | ⟨_,hn,_⟩
   ·exact ⟨m4,arr,e,lo,hi,m1,m2,by rw [<-hs]; exact m3,fun t ht=>by rw [hk] at ht; simp at ht⟩
   ·rw [hb] at hn; simp at hn
  ·rw [D.blk] at hb
   exact ⟨hlt D.hg hb, .inr ⟨j,_,ZL D,hb⟩⟩
 ·intro r R hr
  obtain ⟨j,g,i,p,rfl,D⟩:=hroot hr
  have eZ:=D.tags
  refine ⟨fun t ht=>?_,Ad j,fun n hn=>?_⟩
  ·rw [eZ] at ht
   cases hall:(R.k.tys.all fun t=>aa t R.own) with
   | true=>rw [hall] at ht; simp at ht
   | false=>rw [hall] at ht; simp only [kg,gI] at ht; subst ht; exact .inl (uP j)
  ·rw [eZ] at hn
   cases hall:(R.k.tys.all fun t=>aa t R.own) with
   | true=>rw [hall] at hn; simp at hn
   | false=>rw [hall] at hn; simp only [kg,gI,bS] at hn; unfold ah jA at hn; omega
 ·intro r R r' R' hr hr' hne b hb
  obtain ⟨j,g,i,p,rfl,D⟩:=hroot hr.1
  obtain ⟨j',g',i',p',rfl,D'⟩:=hroot hr'.1
  rw [D.blk] at hb
  rw [D'.blk]
  exact Zg D.hg D'.hg (fun e=>hne (by rw [e])) hb
 ·intro b hb; simp at hb
 ·exact mJ
 ·intro r R _ b _ h; simp at h
 ·refine ⟨rfl,rfl,rfl,bN _,fun _ _ _=>rfl,fun j pi b o n hj hb=>?_⟩
  obtain ⟨g,p,hg,hp,hh,rfl⟩:=hpar hj
  simp only at hb
  cases hbase:g.base with
  | none=>rw [hbase] at hb; simp at hb
  | some q=>
   rw [hbase] at hb
   simp only [oU,au,bS] at hb
   obtain ⟨rfl,rfl,rfl⟩:=hb
   obtain ⟨arr,e,lo,hi,m1,_⟩:=vR hg hp (b:=q.1) (o:=q.2) (by rw [hbase])
   exact mM.of_same _ _ m1 rfl
 ·intro j pi hj hk
  obtain ⟨g,p,hg,hp,hh,rfl⟩:=hpar hj
  obtain ⟨R,i,p',hr,D⟩:=hmk hg hh
  refine ⟨R,hr,fun _ b hb _=>.inr ⟨rfl,by simp,fun q Q hq hbq=>?_⟩⟩
  obtain ⟨j',g',i',p'',rfl,D'⟩:=hroot hq.1
  rw [D'.blk] at hbq
  by_cases e:j'=j
  ·rw [e]
  ·exact absurd hb (Zg D'.hg hg e hbq)
 ·refine ⟨fun j pi hj b hb=>?_,fun b hb=>⟨?_,fun j pi hj hbl=>?_⟩,fun b hb=>H.fixed hb⟩
  ·obtain ⟨g,p,hg,hp,hh,rfl⟩:=hpar hj
   exact hlt hg hb
  ·exact xR (H.mF.2.1 b hb).1 H.frame.2.2.2.1
  ·obtain ⟨g,p,hg,hp,hh,rfl⟩:=hpar hj
   exact H.aaS (hmn hg hbl) hb
 ·intro j q ts v hv
  obtain ⟨g,R0,c0,b,o,h1,h2,h3,h4,h5,h6,h7,h8⟩:=hv
  refine ⟨⟨b,o,h8⟩,R0,h3,fun _=>⟨⟨b,o,h8⟩,fun Q hQ _ _ _ _=>?_⟩⟩
  have hQR:=hsame (show (fD ps c).roots (ah j)=some R0 from h3) hQ
  subst hQR
  obtain ⟨g',i',p',D⟩:=ak_ hQ
  have:g'=g:=by have:=D.hg; rw [h1] at this; simpa using this.symm
  subst this
  refine ⟨h6,c0,b,o, ?_,h8⟩
  rw [D.wh,(xZ D.hg).2.1]
  exact h7
 ·intro j v hv
  obtain ⟨g,h1,h2,h3,h4⟩:=hv
  obtain ⟨R,i,p,hr,D⟩:=hmk h1 (.inr h4)
  refine ⟨⟨R,hr⟩,fun Q hQ _=>?_⟩
  have hQR:=hsame hr hQ.1
  subst hQR
  rcases D.kind with ⟨_,_,_,b,o,hb,_⟩ | ⟨hk,_,hV⟩
  ·rw [h3] at hb; simp at hb
  ·refine ⟨hk, ?_⟩
   rw [(xZ D.hg).2.1, <-h2]
   exact hV
end
end
section
open Go
variable [Fr]
def vC (cx:Cx) (Z:St) (J:aH) (F:List Nat) (w:World):(rs:List gN)->Cont (eO rs)->List Value->List (List Nat)->Prop
 | [],_,[],[]=>True
 | .val k exts bE :: rs,c,v :: vs,fo :: ay=>(fo=[]/\∃T cs,(k.flat=true\/rH exts bE T=true)/\VC k v cs/\Vw (hp w) (bG cx Z J F w T) k c.1 cs)/\vC cx Z J F w rs c.2 vs ay
 | .own k ow exts bE :: rs,c,v :: vs,fo :: ay=>(∃T cs own,((k.tys.all fun t=>aa t ow)=true\/rH exts bE T=true)/\(∀t∈k.tys,aa t ow=true->aa t own=true)/\VC k v cs/\Ow (hp w) own (bG cx Z J F w T) k c.1 cs fo)/\vC cx Z J F w rs c.2 vs ay
 | .ptr t k ow exts :: rs,c,v :: vs,fo :: ay=>(∃b o T cs own aF,v=.pointer (some ⟨b,o,none⟩)/\fo=b :: aF/\((k.tys.all fun t=>aa t ow)=true\/rH exts [] T=true)/\(∀t∈k.tys,aa t ow=true->aa t own=true)/\
   (Cells (hp w) b o cs/\∃arr e lo hi,hp w b=some (.cells arr e (lo,hi))/\jq arr.size lo hi/\o+k.size<=arr.size/\e=t)/\Ow (hp w) own (bG cx Z J F w T) k c.1 cs aF)/\vC cx Z J F w rs c.2 vs ay
 | .into j p :: rs,c,v :: vs,fo :: ay=>(fo=[]/\p=[]/\∃b n cp,v=.slice b (show Int from c.1).toNat cp/\(show Int from c.1).toNat<=n/\aW cx Z J F w (.ref (ah j) 0) (.slice b n cp))/\vC cx Z J F w rs c.2 vs ay
 | _,_,_,_=>False
def Mo (Z:St) (k:K) (x:El k) (ow wt ht:List TypeId) (j:Nat):Prop:=
 ∃R,Z.roots (ah j)=some R/\cB Z R/\(∃e:R.k=k,x=e▸R.x)/\v_ k R.own ow=true/\xx R (some (wt,ht))=true/\((k.tys.all fun t=>aa t ow)=true\/rH [j] [] R.tags=true)
def rU (Z:St):(ps:List aV)->Nat->Cont (gq ps)->Prop
 | [],_,_=>True
 | .rw k ow wt ht :: ps,j,c=>Mo Z k c.1 ow wt ht j/\rU Z ps (j+1) c.2
 | .bR k ow wt :: ps,j,c=>Mo Z k c.1 ow wt k.tys j/\rU Z ps (j+1) c.2
 | .val _ _ :: ps,j,c=>rU Z ps (j+1) c
 | .ro _ :: ps,j,c=>rU Z ps (j+1) c
 | .own _ _ :: ps,j,c=>rU Z ps (j+1) c
 | .fn _ _ :: ps,j,c=>rU Z ps (j+1) c
 | .into _ _ :: ps,j,c=>rU Z ps (j+1) c
def Ka:List Value->Value
 | [v]=>v
 | vs=>.tuple vs.toArray
def Post (cx:Cx) (ps:List aV) (rs:List gN) (out:Cont (eO rs++gq ps)) (v:Value) (w':World):Prop:=
 ∃Z J F a vs ay,Rel cx Z J F a w'/\v=Ka vs/\vC cx Z J F w' rs (Cont.fst _ _ out) vs ay/\ay.flatten.Nodup/\(∀b∈ay.flatten,b∈F)/\rU Z ps 0 (Cont.snd _ _ out)
def Dn (P:Program) (f:FuncId) (args:Array Value) (w:World) (R:Value->World->Prop):Prop:=
 ((callFunc f args).run P w=.ok (.enter f args) w/\Calls P f args w fun e w'=>∃v,e=.returned v/\R v w')\/∃v w',(callFunc f args).run P w=.ok (.value v) w'/\R v w'
def wO (ps:List aV) (j:Nat) (k:K):Prop:=∃ow wt ht,ps[j]?=some (.rw k ow wt ht)\/ps[j]?=some (.bR k ow wt)
structure D9 (cx:Cx) (ps:List aV):Prop where
 par:∀j pi,cx.par j=some pi->pi.kp=true->∃k,wO ps j k
 ptr:∀j p ts v,cx.ptrs j p ts v->∃k,wO ps j k/\ts=iW p k
 ref:∀j v,cx.refs j v->∃k,wO ps j k
def aD (P:Program) (n:Nat) (E:Entry):Prop:=
 ∀(c:Cont (kin E.ps)) (out:Cont (eO E.rs++gq E.ps)),E.F n c=some out->∀(cx:Cx) (J:aH) (args:Array Value) (w:World),cx.nt=0->cx.w0=w->args.size=E.ps.length->D9 cx E.ps->
  Rel cx (fD E.ps c) J [] ⟨args,[]⟩ w->Dn P E.f args w (Post cx E.ps E.rs out)
section
variable {P:Program} {T:bH} {cx:Cx} {Z:St} {J:aH} {F:List Nat} {a:Act} {w w':World} {ps:List aV} {c:Cont (kin ps)} {vs:List Value} {is:List bM} {gs:List GA}
structure AJ (Z:St) (J:aH) (is:List bM) (gs:List GA) (kC:St) (iM:aH) (Ff:List Nat) (Z':St) (J':aH) (F':List Nat):Prop where
 blk:∀q Q b,aU Z' q Q->b∈blk J' Q q->b∈Ff\/(∃Q0,aU Z q Q0/\b∈Ow.blk J Q0 q/\∀(m:Nat) (g:GA),gs[m]?=some g->b∉g.fo)\/
  ∃(m:Nat) (i:bM) (R:Root) (u:List Stp×List TypeId×List TypeId),is[m]?=some i/\i.wb=some (q,u)/\aU kC (ah m) R/\b∈Ow.blk iM R (ah m)
 F:∀b∈F',b∈Ff
theorem Es (H:Rel cx Z J F a w) (hJ:wM cx Z J F a w ps c vs is gs) {j:Nat} {pi:D8} (h:(kS cx Z J F w ps c is gs).par j=some pi):∃g p cj v i,gs[j]?=some g/\ps[j]?=some p/\is[j]?=some i/\uD cx Z J F a w p cj v i g/\(g.ow=true\/g.wb=true)/\pi=⟨g.base.map fun q=>(q.1,q.2,rF p),iU g,g.wb⟩:=by
 obtain ⟨lv,li,lg,hat⟩:=hJ.at (i0:=0)
 simp only [kS] at h
 cases hgm:gs[j]? with
 | none=>rw [hgm] at h; simp at h
 | some g=>
  cases hpm:ps[j]? with
  | none=>rw [hgm,hpm] at h; simp at h
  | some pm=>
   rw [hgm,hpm] at h
   simp only at h
   cases hh:(g.ow || g.wb) with
   | false=>rw [hh] at h; simp at h
   | true=>
    rw [hh] at h
    simp only [gJ,au] at h
    obtain ⟨cj,v,i,g',e1,e2,e3,e4,_⟩:=hat j pm hpm
    rw [hgm] at e3
    simp only [au] at e3
    subst e3
    exact ⟨g,pm,cj,v,i,rfl,rfl,e2,e4,by simpa using hh,h.symm⟩
theorem amP (H:Rel cx Z J F a w) (hJ:wM cx Z J F a w ps c vs is gs):D9 (kS cx Z J F w ps c is gs) ps:=by
 obtain ⟨lv,li,lg,hat⟩:=hJ.at (i0:=0)
 simp only [om] at hat
 have Nk:∀{j:Nat} {g:GA},gs[j]?=some g->g.wb=true->∃p cj,ps[j]?=some p/\iJ (iI ps 0 c) (ah j)=lK p j cj/\((∃k ow wt ht,p=.rw k ow wt ht)\/∃k ow wt,p=.bR k ow wt):=by
  intro j g hg hw
  have hj:j<ps.length:=by have:=(qm.1 hg).1; omega
  obtain ⟨cj,v,i,g',e1,e2,e3,e4,e5,e6⟩:=hat j ps[j] (jd hj)
  rw [hg] at e3
  simp only [au] at e3
  subst e3
  refine ⟨ps[j],cj,jd hj,e6, ?_⟩
  obtain ⟨k,x,ow,wt,ht,r,R,q,wh,h,_⟩:=aob e4 hw
  rcases h with ⟨h,_⟩ | ⟨h,_⟩
  ·exact .inl ⟨k,ow,wt,ht,h⟩
  ·exact .inr ⟨k,ow,wt,h⟩
 have hk:∀{j:Nat} {g:GA},gs[j]?=some g->g.wb=true->∃k,wO ps j k/\∃R0,iJ (iI ps 0 c) (ah j)=some R0/\R0.k=k:=by
  intro j g hg hw
  obtain ⟨p,cj,h1,h2,h3⟩:=Nk hg hw
  rcases h3 with ⟨k,ow,wt,ht,rfl⟩ | ⟨k,ow,wt,rfl⟩
  ·exact ⟨k,⟨ow,wt,ht, .inl h1⟩,_,h2,rfl⟩
  ·exact ⟨k,⟨ow,wt,[], .inr h1⟩,_,h2,rfl⟩
 refine ⟨fun j pi hj hkp=>?_,fun j q ts v hv=>?_,fun j v hv=>?_⟩
 ·obtain ⟨g,p,cj,v,i,e1,e2,e3,e4,e5,rfl⟩:=Es H hJ hj
  obtain ⟨k,h,_⟩:=hk e1 hkp
  exact ⟨k,h⟩
 ·obtain ⟨g,R0,c0,b,o,h1,h2,h3,h4,_⟩:=hv
  obtain ⟨k,h,R1,h5,h6⟩:=hk h1 h2
  rw [h3] at h5
  simp only [au] at h5
  subst h5
  exact ⟨k,h,by rw [h4,h6]⟩
 ·obtain ⟨g,h1,_,_,h2⟩:=hv
  obtain ⟨k,h,_⟩:=hk h1 h2
  exact ⟨k,h⟩
theorem NP (H:Rel cx Z J F a w) (hJ:wM cx Z J F a w ps c vs is gs) {kC:St} {iM:aH} {Ff:List Nat} {af:Act} (Hf:Rel (kS cx Z J F w ps c is gs) kC iM Ff af w') {Z':St} {J':aH} {F':List Nat}
  (B:AJ Z J is gs kC iM Ff Z' J' F') {Tg U:List Tag} (Y4:∀j n,(jA j,n)∈Tg->∀i,is[j]?=some i->∀t∈i.ids,∃n',(t.1,n')∈U) (hU2:∀m n,(ah m,n)∈Tg->∀i q,is[m]?=some i->i.wb=some q->∃n',(q.1,n')∈U)
  {b:Nat} (hb:bG (kS cx Z J F w ps c is gs) kC iM Ff w' Tg b):bG cx Z' J' F' w' U b:=by
 obtain ⟨hb1,hb2,hb3,hb4,hb5⟩:=hb
 have hcl:w.heap.size<=b\/(b<w.heap.size/\∃j n i,(jA j,n)∈Tg/\is[j]?=some i/\bG cx Z J F w i.ids b)\/(b<w.heap.size/\∃(j:Nat) (g:GA),gs[j]?=some g/\b∈g.fo/\((g.ow=true/\b∈F)\/(g.wb=true/\∃r R,aU Z r R/\b∈J.fo r))):=by
  by_cases hlt:b<w.heap.size
  ·refine .inr ?_
   rcases hb5 hlt with ⟨j,n,h1,⟨i,h2,h3⟩,_⟩ | ⟨j,pi,h1,h2⟩
   ·exact .inl ⟨hlt,j,n,i,h1,h2,h3⟩
   ·refine .inr ⟨hlt, ?_⟩
    obtain ⟨g,p,cj,v,i,e1,e2,e3,e4,e5,rfl⟩:=Es H hJ h1
    simp only at h2
    have hfo:b∈g.fo:=by
     unfold iU at h2
     cases hbase:g.base with
     | none=>rw [hbase] at h2; simpa using h2
     | some q=>
      rw [hbase] at h2
      simp only [kX,rR,bT] at h2
      rcases h2 with h2 | h2
      ·exact absurd ⟨j,_,q.2,rF p,h1,by rw [hbase,h2]; rfl⟩ hb3
      ·exact h2
    refine ⟨j,g,e1,hfo, ?_⟩
    rcases (sw H e4).1 b (by unfold iU; exact bB _ hfo) with h | ⟨h,_⟩
    ·exact .inl h
    ·obtain ⟨r,R,q,_,f2,f3⟩:=(sw H e4).2.2.1 b hfo h
     exact .inr ⟨h,r,R,f2,f3⟩
  ·exact .inl (Nat.le_of_not_lt hlt)
 refine ⟨hb1,fun h=>hb2 (B.F b h), ?_, ?_, ?_⟩
 ·intro hbase
  have hlt:b<w.heap.size:=by
   obtain ⟨j,pi,o,n,h1,h2⟩:=hbase
   obtain ⟨Q,hQ,hk,hl,_⟩:=H.kM j pi b o n h1 h2
   exact ((H.roots _ _ hQ).mine b (by simp [Ow.blk,aK,hk,hl])).1
  rcases hcl with h | ⟨_,j,n,i,_,_,h⟩ | ⟨_,j,g,h1,h2,h⟩
  ·omega
  ·exact h.2.2.1 hbase
  ·rcases h with ⟨_,h⟩ | ⟨_,r,R,h3,h4⟩
   ·exact A7 H h hbase
   ·exact zU H h3 h4 hbase
 ·intro q Q hq hbq
  rcases B.blk q Q b hq hbq with h | ⟨Q0,h1,h2,h3⟩ | ⟨m,i,R,u,h1,h2,h3,h4⟩
  ·exact absurd h hb2
  ·have hlt:=((H.roots q Q0 h1).mine b h2).1
   rcases hcl with h | ⟨_,j,n,i,g1,g2,g3⟩ | ⟨_,j,g,g1,g2,_⟩
   ·omega
   ·obtain ⟨n',hn'⟩:=g3.2.2.2.1 q Q0 h1 h2
    exact Y4 j n g1 i g2 _ hn'
   ·exact absurd g2 (h3 j g g1)
  ·obtain ⟨n,hn⟩:=hb4 (ah m) R h3 h4
   exact hU2 m n hn i _ h1 h2
 ·intro h0
  have hlt:b<w.heap.size:=xR h0 H.frame.2.2.2.1
  have jV:Ow.mine cx w b->(∃j n,(jA j,n)∈U/\cx.ext j b)\/∃j pi,cx.par j=some pi/\b∈pi.bl:=fun hm=>by
   rcases hm.2 with h | ⟨j,pi,h1,h2⟩
   ·omega
   ·exact .inr ⟨j,pi,h1,h2⟩
  rcases hcl with h | ⟨_,j,n,i,g1,g2,g3⟩ | ⟨_,j,g,g1,g2,g3⟩
  ·omega
  ·rcases g3.2.2.2.2 h0 with ⟨j',n',f1,f2⟩ | h
   ·obtain ⟨n2,hn2⟩:=Y4 j n g1 i g2 _ f1
    exact .inl ⟨j',n2,hn2,f2⟩
   ·exact .inr h
  ·rcases g3 with ⟨_,h⟩ | ⟨_,r,R,h3,h4⟩
   ·exact jV (H.fl b h)
   ·exact jV ((H.roots r R h3).mine b (bB _ h4))
end
end
section
open Go
variable [Fr]
def qL (Z:St):(ps:List aV)->List bM->Cont (gq ps)->List Wr->Prop
 | [],[],_,ws=>ws=[]
 | .rw k _ _ _ :: ps,i :: is,c,ws=>∃r p wt ht R z ws',i.wb=some (r,p,wt,ht)/\Z.roots r=some R/\cz p R.k R.x ⟨k,c.1⟩=some z/\ws=.r r (some { R with k:=z.1,x:=z.2,w:=(iV R p :: wt)++R.w,h:=ht++R.h }) :: ws'/\qL Z ps is c.2 ws'
 | .bR k _ _ :: ps,i :: is,c,ws=>∃r p wt ht R z ws',i.wb=some (r,p,wt,ht)/\Z.roots r=some R/\cz p R.k R.x ⟨k,c.1⟩=some z/\ws=.r r (some { R with k:=z.1,x:=z.2,w:=(SENT :: (k.tys++wt))++R.w,h:=ht++R.h }) :: ws'/\qL Z ps is c.2 ws'
 | .val _ _ :: ps,_ :: is,c,ws=>qL Z ps is c ws
 | .ro _ :: ps,_ :: is,c,ws=>qL Z ps is c ws
 | .own _ _ :: ps,_ :: is,c,ws=>qL Z ps is c ws
 | .fn _ _ :: ps,_ :: is,c,ws=>qL Z ps is c ws
 | .into _ _ :: ps,_ :: is,c,ws=>qL Z ps is c ws
 | _,_,_,_=>False
theorem aha {A:Type} {z:A} {Z:St}:∀{ps:List aV} {is:List bM} {c:Cont (gq ps)} {k:List Wr->Prog A},(BP ps is c k).ends Z z->∃ws,qL Z ps is c ws/\(k ws).ends Z z:=by
 intro ps
 induction ps with
 | nil=>
  intro is c k h
  cases is with
  | nil=>exact ⟨[],rfl,h⟩
  | cons _ _=>exact h.elim
 | cons p ps ih=>
  intro is c k h
  cases is with
  | nil=>cases p <;> exact h.elim
  | cons i is=>
   cases p with
   | rw kk ow xD ht0=>
    obtain ⟨ids,wb,ws0,bt⟩:=i
    cases wb with
    | none=>exact h.elim
    | some q=>
     obtain ⟨r,p,wt,ht⟩:=q
     simp only [BP,Prog.ends] at h
     cases hr:Z.roots r with
     | none=>rw [hr] at h; exact h.elim
     | some R=>
      rw [hr] at h
      simp only at h
      cases hz:cz p R.k R.x ⟨kk,c.1⟩ with
      | none=>rw [hz] at h; exact h.elim
      | some z=>
       rw [hz] at h
       obtain ⟨ws,g1,g2⟩:=ih h
       exact ⟨_,⟨r,p,wt,ht,R,z,ws,rfl,hr,hz,rfl,g1⟩,g2⟩
   | bR kk ow xD=>
    obtain ⟨ids,wb,ws0,bt⟩:=i
    cases wb with
    | none=>exact h.elim
    | some q=>
     obtain ⟨r,p,wt,ht⟩:=q
     simp only [BP,Prog.ends] at h
     cases hr:Z.roots r with
     | none=>rw [hr] at h; exact h.elim
     | some R=>
      rw [hr] at h
      simp only at h
      cases hz:cz p R.k R.x ⟨kk,c.1⟩ with
      | none=>rw [hz] at h; exact h.elim
      | some z=>
       rw [hz] at h
       obtain ⟨ws,g1,g2⟩:=ih h
       exact ⟨_,⟨r,p,wt,ht,R,z,ws,rfl,hr,hz,rfl,g1⟩,g2⟩
   | val _ _=>exact ih h
   | ro _=>exact ih h
   | own _ _=>exact ih h
   | fn _ _=>exact ih h
   | into _ _=>exact ih h
theorem XN {Z:St}:∀{ps:List aV} {is:List bM} {c:Cont (gq ps)} {ws:List Wr},(∀i∈is,i.wb=none)->qL Z ps is c ws->ws=[]:=by
 intro ps
 induction ps with
 | nil=>
  intro is c ws _ h
  cases is with
  | nil=>exact h
  | cons _ _=>exact h.elim
 | cons p ps ih=>
  intro is c ws hn h
  cases is with
  | nil=>cases p <;> exact h.elim
  | cons i is=>
   have hn':∀i∈is,i.wb=none:=fun i hi=>hn i (by simp [hi])
   have h0:=hn i (by simp)
   cases p with
   | rw kk ow xD ht0=>obtain ⟨r,p,wt,ht,R,z,ws',h1,_⟩:=h; rw [h0] at h1; simp at h1
   | bR kk ow xD=>obtain ⟨r,p,wt,ht,R,z,ws',h1,_⟩:=h; rw [h0] at h1; simp at h1
   | val _ _=>exact ih hn' h
   | ro _=>exact ih hn' h
   | own _ _=>exact ih hn' h
   | fn _ _=>exact ih hn' h
   | into _ _=>exact ih hn' h
theorem JD {i:bM} {is:List bM} (h:yF (i :: is)=true):(i.wb=none/\yF is=true)\/(i.wb≠none/\∀i'∈is,i'.wb=none):=by
 unfold yF at h
 cases hw:i.wb with
 | none=>rw [hw] at h; exact .inl ⟨rfl,h⟩
 | some q=>
  rw [hw] at h
  refine .inr ⟨by simp,fun i' hi=>?_⟩
  have:=eH.1 h i' hi
  cases hw':i'.wb with
  | none=>rfl
  | some _=>rw [hw'] at this; simp at this
theorem ahb {Z kC:St}:∀{ps:List aV} {is:List bM} {c:Cont (gq ps)} {ws:List Wr} {j0:Nat},yF is=true->(∀(m:Nat) (p:aV) (i:bM),ps[m]?=some p->is[m]?=some i->(∀k ow wt ht,p≠.rw k ow wt ht)->(∀k ow wt,p≠.bR k ow wt)->i.wb=none)->
  qL Z ps is c ws->rU kC ps j0 c->(ws=[]/\∀i∈is,i.wb=none)\/
  ∃(j:Nat) (i:bM) (k:K) (x:El k) (ow wt ht:List TypeId) (r:Nat) (p:List Stp) (R:Root) (z:Dat) (dX ht':List TypeId),is[j]?=some i/\i.wb=some (r,p,dX,ht')/\Z.roots r=some R/\cz p R.k R.x ⟨k,x⟩=some z/\Mo kC k x ow wt ht (j0+j)/\(∀(m:Nat) (i':bM),m≠j->is[m]?=some i'->i'.wb=none)/\
   ((ps[j]?=some (.rw k ow wt ht)/\ws=[.r r (some { R with k:=z.1,x:=z.2,w:=(iV R p :: dX)++R.w,h:=ht'++R.h })])\/(ps[j]?=some (.bR k ow wt)/\ht=k.tys/\ws=[.r r (some { R with k:=z.1,x:=z.2,w:=(SENT :: (k.tys++dX))++R.w,h:=ht'++R.h })])):=by
 intro ps
 induction ps with
 | nil=>
  intro is c ws j0 _ _ hB _
  cases is with
  | nil=>exact .inl ⟨hB,by simp⟩
  | cons _ _=>exact hB.elim
 | cons p ps ih=>
  intro is c ws j0 h1 hal hB hO
  cases is with
  | nil=>cases p <;> exact hB.elim
  | cons i is=>
   have ajX:∀(m:Nat) (p:aV) (i:bM),ps[m]?=some p->is[m]?=some i->(∀k ow wt ht,p≠.rw k ow wt ht)->(∀k ow wt,p≠.bR k ow wt)->i.wb=none:=fun m p i hp hi=>hal (m+1) p i (by simpa using hp) (by simpa using hi)
   have hrest:∀{c':Cont (gq ps)} {ws':List Wr},i.wb=none->qL Z ps is c' ws'->rU kC ps (j0+1) c'->(ws'=[]/\∀i'∈i :: is,i'.wb=none)\/
     ∃(j:Nat) (i':bM) (k:K) (x:El k) (ow wt ht:List TypeId) (r:Nat) (q:List Stp) (R:Root) (z:Dat) (dX ht':List TypeId),(i :: is)[j]?=some i'/\i'.wb=some (r,q,dX,ht')/\Z.roots r=some R/\cz q R.k R.x ⟨k,x⟩=some z/\Mo kC k x ow wt ht (j0+j)/\(∀(m:Nat) (CK:bM),m≠j->(i :: is)[m]?=some CK->CK.wb=none)/\
      (((p :: ps)[j]?=some (.rw k ow wt ht)/\ws'=[.r r (some { R with k:=z.1,x:=z.2,w:=(iV R q :: dX)++R.w,h:=ht'++R.h })])\/((p :: ps)[j]?=some (.bR k ow wt)/\ht=k.tys/\ws'=[.r r (some { R with k:=z.1,x:=z.2,w:=(SENT :: (k.tys++dX))++R.w,h:=ht'++R.h })])):=by
    intro c' ws' hw hB hO
    have ho:yF is=true:=by
     rcases JD h1 with ⟨_,h⟩ | ⟨h,_⟩
     ·exact h
     ·exact absurd hw h
    rcases ih ho ajX hB hO with ⟨e,h⟩ | ⟨j,i',k,x,ow,wt,ht,r,q,R,z,dX,ht',e1,e2,e3,e4,e5,e6,e7⟩
    ·refine .inl ⟨e,fun i' hi=>?_⟩
     rcases bT.1 hi with h' | h'
     ·subst h'; exact hw
     ·exact h i' h'
    ·refine .inr ⟨j+1,i',k,x,ow,wt,ht,r,q,R,z,dX,ht',by simpa using e1,e2,e3,e4,by rw [show j0+(j+1)=j0+1+j by omega]; exact e5,fun m CK hm hi=>?_,by simpa using e7⟩
     cases m with
     | zero=>simp only [qO,au] at hi; subst hi; exact hw
     | succ m=>exact e6 m CK (by omega) (by simpa using hi)
   have hnw:∀{dX:Option (Nat×List Stp×List TypeId×List TypeId)},i.wb=dX->dX≠none->∀i'∈is,i'.wb=none:=by
    intro dX he hne
    rcases JD h1 with ⟨h,_⟩ | ⟨_,h⟩
    ·rw [he] at h; exact absurd h hne
    ·exact h
   cases p with
   | rw kk ow xD ht0=>
    obtain ⟨r,q,wt,ht,R,z,ws',g1,g2,g3,g4,g5⟩:=hB
    have hn:=hnw g1 (by simp)
    have:=XN hn g5
    subst this
    refine .inr ⟨0,i,kk,c.1,ow,xD,ht0,r,q,R,z,wt,ht,rfl,g1,g2,g3,hO.1,fun m i' hm hi=>?_, .inl ⟨rfl,g4⟩⟩
    cases m with
    | zero=>exact absurd rfl hm
    | succ m=>exact hn i' (qo (by simpa using hi))
   | bR kk ow xD=>
    obtain ⟨r,q,wt,ht,R,z,ws',g1,g2,g3,g4,g5⟩:=hB
    have hn:=hnw g1 (by simp)
    have:=XN hn g5
    subst this
    refine .inr ⟨0,i,kk,c.1,ow,xD,kk.tys,r,q,R,z,wt,ht,rfl,g1,g2,g3,hO.1,fun m i' hm hi=>?_, .inr ⟨rfl,rfl,g4⟩⟩
    cases m with
    | zero=>exact absurd rfl hm
    | succ m=>exact hn i' (qo (by simpa using hi))
   | val k bE=>exact hrest (hal 0 _ i rfl rfl (by simp) (by simp)) hB hO
   | ro k=>exact hrest (hal 0 _ i rfl rfl (by simp) (by simp)) hB hO
   | own k ow=>exact hrest (hal 0 _ i rfl rfl (by simp) (by simp)) hB hO
   | fn f ks=>exact hrest (hal 0 _ i rfl rfl (by simp) (by simp)) hB hO
   | into j q=>exact hrest (hal 0 _ i rfl rfl (by simp) (by simp)) hB hO
end
section
open Go
variable [Fr]
section
variable {P:Program} {T:bH} {cx:Cx} {Z:St} {J:aH} {F:List Nat} {a:Act} {w w':World} {ps:List aV} {c:Cont (kin ps)} {vs:List Value} {is:List bM} {gs:List GA}
theorem rG {l m:List Nat}:iK l m=true↔∀t∈l,t∈m:=by
 unfold iK
 rw [eH]
 simp [b_]
theorem aaO (h:Heap):∀(q:List Stp) {k:K} {cs:List Value} {wh:Option (Nat×Nat)} {c0:List Value} {w0:Option (Nat×Nat)},az q k≠[]->aT h q k cs wh=some (c0,w0)->(∀cu,aT h q k cs cu=some (c0,w0))/\∃b o,w0=some (b,o):=by
 intro q
 induction q with
 | nil=>intro k cs wh c0 w0 h1; simp [az] at h1
 | cons s q ih=>
  intro k cs wh c0 w0 h1 h2
  cases s with
  | aZ n=>
   cases k with
   | st c=>
    simp only [aT] at h2 ⊢
    cases ho:bO n c with
    | none=>rw [ho] at h2; simp at h2
    | some p=>
     obtain ⟨off,k'⟩:=p
     rw [ho] at h2
     simp only at h2 ⊢
     have hk:az.lH n c=some k':=by
      have:∀(n:Nat) {c:K} {off:Nat} {k':K},bO n c=some (off,k')->az.lH n c=some k':=by
       intro n
       induction n with
       | zero=>intro c off k' h; cases c <;> simp_all [bO,az.lH]
       | succ n ih=>
        intro c off k' h
        cases c with
        | pair a b=>
         simp only [bO] at h
         cases h5:bO n b with
         | none=>rw [h5] at h; simp at h
         | some q=>
          rw [h5] at h
          simp only [au,bS] at h
          simp only [az.lH]
          exact ih (by rw [h5, <-h.2])
        | _=>simp [bO] at h
      exact this n ho
     have hpt:az (.aZ n :: q) (.st c)=az q k':=by simp [az,hk]
     rw [hpt] at h1
     obtain ⟨g1,g2⟩:=ih h1 h2
     exact ⟨fun cu=>g1 _,g2⟩
   | _=>simp [aT] at h2
  | idx i=>
   cases k with
   | sl e k=>
    simp only [aT] at h2 ⊢
    split at h2
    ·rename_i ad _ _
     refine ⟨fun cu=>h2, ?_⟩
     have key:∀(q:List Stp) {k:K} {cs:List Value} {p:Nat×Nat} {c0:List Value} {w0:Option (Nat×Nat)},aT h q k cs (some p)=some (c0,w0)->∃b o,w0=some (b,o):=by
      intro q
      induction q with
      | nil=>intro k cs p c0 w0 h; simp only [aT,au,bS] at h; exact ⟨p.1,p.2,h.2.symm⟩
      | cons s q ih=>
       intro k cs p c0 w0 h
       cases s with
       | aZ n=>
        cases k with
        | st c=>
         simp only [aT] at h
         cases ho:bO n c with
         | none=>rw [ho] at h; simp at h
         | some q2=>rw [ho] at h; exact ih h
        | _=>simp [aT] at h
       | idx i=>
        cases k with
        | sl e k=>
         simp only [aT] at h
         split at h
         ·exact ih h
         ·simp at h
        | _=>simp [aT] at h
     exact key q h2
    ·simp at h2
   | _=>simp [aT] at h2
theorem XO (H:Rel cx Z J F a w) {kC:St} {iM:aH} {Ff G:List Nat} {r j:Nat} {R Rf R':Root} {i:bM} {u:List Stp×List TypeId×List TypeId} {g:GA} {rest:List Nat} {ku:aH} {lw lh:List Nat} (hr:aU Z r R) (hi:is[j]?=some i) (hw:i.wb=some (r,u)) (hlf:aU kC (ah j) Rf)
  (hg:gs[j]?=some g) (hpr:(J.fo r).Perm (g.fo++rest)) (hoth:∀(m:Nat) (gm:GA),m≠j->gs[m]?=some gm->∀b∈gm.fo,b∈F)
  (T:iC cx Z J F w (aJ Z r R') ku G w' (kU r lw) (kU r lh)) (hblk:∀b∈Ow.blk ku R' r,(∃o,aK J R r=some (b,o))\/b∈iM.fo (ah j)\/b∈rest) (hG:∀b∈G,b∈Ff):AJ Z J is gs kC iM Ff (aJ Z r R') ku G:=by
 have hK:=H.roots r R hr
 have ER:=hK.nd
 rw [jG,uR] at ER
 have zZ:=cK.1 (hpr.nodup ER.2)
 have Sk:∀{q:Nat} {Q:Root} {b:Nat},aU Z q Q->b∈Ow.blk J Q q->b∉g.fo->∀(m:Nat) (gm:GA),gs[m]?=some gm->b∉gm.fo:=by
  intro q Q b hq hb hno m gm hm vR
  by_cases e:m=j
  ·subst e
   rw [hg] at hm
   simp only [au] at hm
   subst hm
   exact hno vR
  ·exact H.fB q Q hq b hb (hoth m gm e hm b vR)
 refine ⟨fun q Q b hq hb=>?_,hG⟩
 by_cases e:q=r
 ·subst e
  obtain ⟨rfl,_⟩:=pq hq
  rcases hblk b hb with ⟨o,h⟩ | h | h
  ·have hbb:b∈Ow.blk J R q:=by rw [jG,mV]; exact .inl ⟨o,h⟩
   exact .inr (.inl ⟨R,hr,hbb,Sk hr hbb (fun h'=>ER.1 b o h (hpr.mem_iff.2 (bK _ h')))⟩)
  ·exact .inr (.inr ⟨j,i,Rf,u,hi,hw,hlf,bB _ h⟩)
  ·have hbb:b∈Ow.blk J R q:=bB _ (hpr.mem_iff.2 (bB _ h))
   exact .inr (.inl ⟨R,hr,hbb,Sk hr hbb (fun h'=>zZ.2.2 b h' b h rfl)⟩)
 ·have hq':=(Ti e).1 hq
  obtain ⟨Q2,g1,g2⟩:=T.old q Q hq'.1
  have hS:Same Z J (aJ Z r R') ku q:=by
   refine kN fun hns=>?_
   rw [jW Z R' e,hq'.1] at g1
   simp only [au] at g1
   subst g1
   rcases g2 with ⟨h1,_⟩ | ⟨_,h2⟩
   ·rw [hq'.2] at h1; simp at h1
   ·rcases h2.2.2.2.2.2.2 with h3 | ⟨_,_,h3⟩
    ·rw [uS _ e,uS _ e] at h3; simp at h3
    ·exact hns h3
  rw [hS.blk] at hb
  refine .inr (.inl ⟨Q,hq',hb,Sk hq' hb (fun h'=>?_)⟩)
  exact H.lQ r R q Q hr hq' (Ne.symm e) b (bB _ (hpr.mem_iff.2 (bK _ h'))) hb
theorem anD:∀(p:List Stp) {k:K} {x:El k} {t z:Dat},bX p k x->cz p k x t=some z->aB p z.1 z.2=some t/\bX p z.1 z.2/\az p z.1=az p k:=by
 intro p
 induction p with
 | nil=>
  intro k x t z _ hz
  simp only [cz,au] at hz
  subst hz
  exact ⟨rfl,trivial,rfl⟩
 | cons s p ih=>
  intro k x t z hp hz
  cases s with
  | aZ n=>
   cases k with
   | st c=>
    simp only [cz] at hz
    simp only [bX] at hp
    cases hg:aS n c x with
    | none=>rw [hg] at hz; simp at hz
    | some s=>
     rw [hg] at hz hp
     simp only at hz hp
     cases hs:cz p s.1 s.2 t with
     | none=>rw [hs] at hz; simp at hz
     | some u=>
      rw [hs] at hz
      simp only at hz
      cases hcp:dF n c x u with
      | none=>rw [hcp] at hz; simp at hz
      | some y=>
       rw [hcp] at hz
       simp only [au] at hz
       subst hz
       obtain ⟨h1,h2,h3⟩:=ih hp hs
       have hg2:=Ip n hcp
       refine ⟨?_, ?_, ?_⟩
       ·show aB (.aZ n :: p) (.st y.1) y.2=some t
        simp only [aB,hg2]
        exact h1
       ·show bX (.aZ n :: p) (.st y.1) y.2
        simp only [bX,hg2]
        exact h2
       ·show az (.aZ n :: p) (.st y.1)=_
        simp only [az,lI n hg2,lI n hg]
        exact h3
   | _=>exact hp.elim
  | idx i=>
   cases k with
   | sl e k=>
    simp only [cz] at hz
    obtain ⟨hp0,hp1,hp2⟩:=hp
    cases hs:cz p k ((show List (El k) from x).getD i.toNat k.zero) t with
    | none=>rw [hs] at hz; simp at hz
    | some u=>
     rw [hs] at hz
     simp only at hz
     cases hc:bU u.1 k u.2 with
     | none=>rw [hc] at hz; simp at hz
     | some y=>
      rw [hc] at hz
      simp only [au] at hz
      subst hz
      obtain ⟨ek,ey⟩:=jl hc
      obtain ⟨uk,ux⟩:=u
      simp only at ek
      subst ek
      simp only at ey
      subst ey
      obtain ⟨h1,h2,h3⟩:=ih hp2 hs
      have hlt:i.toNat < @List.length (El uk) x:=by
       have:i<((@List.length (El uk) x:Nat):Int):=hp1
       omega
      have hgd:(show List (El uk) from (show List (El uk) from x).set i.toNat y).getD i.toNat uk.zero=y:=by
       have hl2:i.toNat<(@List.set (El uk) x i.toNat y).length:=by rw [List.length_set]; exact hlt
       exact (oH hl2).trans (List.getElem_set_self hl2)
      refine ⟨?_,⟨hp0, ?_, ?_⟩, ?_⟩
      ·simp only [aB]
       rw [hgd]
       exact h1
      ·have:i<((@List.length (El uk) x:Nat):Int):=hp1
       simpa using this
      ·rw [hgd]
       exact h2
      ·rfl
   | _=>exact hp.elim
theorem ahc (H:Rel cx Z J F a w) (hJ:wM cx Z J F a w ps c vs is gs) (ho:yF is=true) {kC:St} {iM:aH} {Ff:List Nat} {af:Act} (Hf:Rel (kS cx Z J F w ps c is gs) kC iM Ff af w')
  {c':Cont (gq ps)} {ws:List Wr} (hB:qL Z ps is c' ws) (hO:rU kC ps 0 c') {G:List Nat} (hG:∀b∈G,b∈Ff) (hGn:G.Nodup) :
  ∃ku,Rel cx (aC ws Z) ku G a w'/\AJ Z J is gs kC iM Ff (aC ws Z) ku G/\(aC ws Z).slots=Z.slots/\(∀q,Z.roots q=none->(aC ws Z).roots q=none)/\(∀t,yI Z t->yI (aC ws Z) t)/\(ws=[]\/∃r R,ws=[.r r (some R)])/\
   ∀(j:Nat) (i:bM) (r:Nat) (q:List Stp) (wt ht:List TypeId),jM∉ht->is[j]?=some i->i.wb=some (r,q,wt,ht)->∃Rf R' R,kC.roots (ah j)=some Rf/\cB kC Rf/\Rf.g=0/\ws=[.r r (some R')]/\Z.roots r=some R/\bX q R'.k R'.x/\(∀t∈az q R'.k,aa t R'.own=true)/\
    (cB (aC ws Z) R'->∃wh,aT (hp w') q R'.k (ku.hdr r) (aK ku R' r)=some (iM.hdr (ah j),wh)):=by
 obtain ⟨lv,li,lg,hat⟩:=hJ.at (i0:=0)
 simp only [om] at hat
 obtain ⟨f1,f2,f3,f4,f5,f6⟩:=Hf.frame
 have hgj:∀{j:Nat} {g:GA},gs[j]?=some g->∃p cj v i,ps[j]?=some p/\vs[j]?=some v/\is[j]?=some i/\uD cx Z J F a w p cj v i g:=by
  intro j g hg
  have hj:j<ps.length:=by have:=(qm.1 hg).1; omega
  obtain ⟨cj,v,i,g',e1,e2,e3,e4,_⟩:=hat j ps[j] (jd hj)
  rw [hg] at e3
  simp only [au] at e3
  subst e3
  exact ⟨ps[j],cj,v,i,jd hj,e1,e2,e4⟩
 have sF:∀b,b<w.heap.size->hp w' b≠hp w b->∃(j:Nat) (g:GA),gs[j]?=some g/\b∈iU g/\(g.ow=true\/g.wb=true):=by
  intro b hb hne
  refine kN fun hno=>hne (f5 b hb fun j pi hj hbl=>?_)
  obtain ⟨g,p,cj,v,i,e1,e2,e3,e4,e5,rfl⟩:=Es H hJ hj
  exact hno ⟨j,g,e1,hbl,e5⟩
 have jV:∀b∈Ff,b<w'.heap.size/\(w.heap.size<=b\/∃(j:Nat) (g:GA),gs[j]?=some g/\b∈iU g/\(g.ow=true\/g.wb=true)):=by
  intro b hb
  obtain ⟨h1,h2⟩:=Hf.fl b hb
  refine ⟨h1,h2.imp id ?_⟩
  rintro ⟨j,pi,h3,h4⟩
  obtain ⟨g,p,cj,v,i,e1,e2,e3,e4,e5,rfl⟩:=Es H hJ h3
  exact ⟨j,g,e1,h4,e5⟩
 have hal:∀(m:Nat) (p:aV) (i:bM),ps[m]?=some p->is[m]?=some i->(∀k ow wt ht,p≠.rw k ow wt ht)->(∀k ow wt,p≠.bR k ow wt)->i.wb=none:=by
  intro m p i hp hi h1 h2
  obtain ⟨cj,v,i',g,e1,e2,e3,e4,_⟩:=hat m p hp
  rw [hi] at e2
  simp only [au] at e2
  subst e2
  obtain ⟨_,e4⟩:=e4
  cases p with
  | val k bE=>exact e4.2.2.1
  | ro k=>exact e4.2.2.1
  | own k ow=>exact e4.2.2.1
  | fn f ks=>exact e4.2.2.1
  | rw k ow wt ht=>exact absurd rfl (h1 k ow wt ht)
  | bR k ow wt=>exact absurd rfl (h2 k ow wt)
  | into j q=>exact e4.2.2.1
 have E8:∀{m:Nat} {g:GA} {i:bM},gs[m]?=some g->is[m]?=some i->i.wb=none->g.wb=false:=by
  intro m g i hg hi hn
  obtain ⟨p,cj,v,i',e1,e2,e3,e4⟩:=hgj hg
  rw [hi] at e3
  simp only [au] at e3
  subst e3
  cases hw:g.wb with
  | false=>rfl
  | true=>exact absurd hn ((sw H e4).2.2.2.1 hw)
 have CB:∀{m:Nat} {g:GA} {b:Nat},gs[m]?=some g->g.wb=false->b∈iU g->b∈F:=by
  intro m g b hg hw hb
  obtain ⟨p,cj,v,i,e1,e2,e3,e4⟩:=hgj hg
  rcases (sw H e4).1 b hb with ⟨_,h⟩ | ⟨h,_⟩
  ·exact h
  ·rw [hw] at h; simp at h
 rcases ahb (j0:=0) ho hal hB hO with ⟨rfl,hnone⟩ | ⟨j,i,k,x,ow,wt,ht,r,p,R,z,dX,ht',e1,e2,e3,e4,e5,e6,e7⟩
 ·
  have hnw:∀{m:Nat} {g:GA},gs[m]?=some g->g.wb=false:=by
   intro m g hg
   obtain ⟨p,cj,v,i,g1,g2,g3,g4⟩:=hgj hg
   exact E8 hg g3 (hnone i (qo g3))
  have T:=Fz (w':=w') (F':=G) H ⟨f1,f2,f3⟩ f4 (fun b hb hne=>by obtain ⟨j,g,h1,h2,_⟩:=sF b hb hne; exact CB h1 (hnw h1) h2)
   (fun b hb=>by
    obtain ⟨h1,h2⟩:=jV b (hG b hb)
    rcases h2 with h2 | ⟨j,g,h3,h4,_⟩
    ·exact .inr ⟨h2,h1⟩
    ·exact .inl (CB h3 (hnw h3) h4)) hGn
  refine ⟨J,H.mem T,⟨fun q Q b hq hb=>.inr (.inl ⟨Q,hq,hb,fun m g hg hbg=>?_⟩),hG⟩,rfl,fun q h=>h,fun t h=>h, .inl rfl,fun j i r q wt ht _ hi hw=>by rw [hnone i (qo hi)] at hw; simp at hw⟩
  exact H.fB q Q hq b hb (CB hg (hnw hg) (bB _ hbg))
 ·
  have hj:j<ps.length:=by rcases e7 with ⟨h,_⟩ | ⟨h,_⟩ <;> exact (qm.1 h).1
  obtain ⟨g,hg⟩:∃g,gs[j]?=some g:=⟨gs[j]'(by omega),jd _⟩
  obtain ⟨p0,cj,v,i',g1,g2,g3,g4⟩:=hgj hg
  rw [e1] at g3
  simp only [au] at g3
  subst g3
  obtain ⟨cj2,v2,i2,gg2,a1,a2,a3,a4,a5,a6⟩:=hat j p0 g1
  obtain ⟨x0,wh,rest,hP,pg,hOw,hfo,hgn,hpr,iH,hwf,hgo,hbase,hps,hwt,hht,hR0⟩:∃(x0:El k) (wh:Option (Nat×Nat)) (rest:List Nat),zi cx Z J w k x0 ow i dX ht' r R p/\aT (hp w) p R.k (J.hdr r) (aK J R r)=some (g.cs,wh)/\Ow (hp w) R.own (bG cx Z J F w R.tags) k x0 g.cs g.fo/\(∀b∈g.fo,b∈J.fo r)/\g.fo.Nodup/\
    (J.fo r).Perm (g.fo++rest)/\(∀b o,wh=some (b,o)->b∈rest\/∃o0,aK J R r=some (b,o0)/\o0<=o/\o+k.size<=o0+R.k.size)/\(∀b o,wh=some (b,o)->b∉g.fo)/\
    (∀{t z:Dat} {tags':List Tag} {lw lh:List TypeId} {kp:Bool} {ft F':List Nat} {cs':List Value} {w':World},BH cx Z J F w r R p ⟨k,x0⟩ R.own g.cs wh g.fo rest t z tags' lw lh kp ft F' cs' w'->
     ∃J',Rel cx (aJ Z r (je R z R.own tags' lw lh kp)) J' F' a w'/\iC cx Z J F w (aJ Z r (je R z R.own tags' lw lh kp)) J' F' w' (kU r lw) (kU r lh)/\(∀b∈Ow.blk J' (je R z R.own tags' lw lh kp) r,(∃o,aK J R r=some (b,o))\/b∈ft\/b∈rest)/\
      (jM∉lh->cB (aJ Z r (je R z R.own tags' lw lh kp)) (je R z R.own tags' lw lh kp)->aT (hp w') p z.1 (J'.hdr r) (aK J' (je R z R.own tags' lw lh kp) r)=some (cs',wh))/\∀b∈ft,b∈J'.fo r)/\
    ((∃b o,wh=some (b,o)/\g.base=some (b,o))\/(g.base=none/\VC k g.v g.cs))/\(rF p0=k.size\/g.base=none)/\(dX=wt)/\(ht'=ht)/\
    (∃R0,iJ (iI ps 0 c) (ah j)=some R0/\R0.k=k/\HEq R0.x x0/\R0.own=ow):=by
   have h4:uD cx Z J F a w p0 cj2 v2 i2 gg2:=a4
   rw [hg] at a3
   simp only [au] at a3
   subst a3
   rw [e1] at a2
   simp only [au] at a2
   subst a2
   rcases e7 with ⟨h,_⟩ | ⟨h,akx,_⟩
   ·rw [g1] at h
    simp only [au] at h
    subst h
    obtain ⟨hv0,h1,h2,r1,R1,q1,b,o,h3,h4',h5,h6,h7,h8,h9,h10,h11,rest,h12,Rs,Rt,Ru⟩:=h4
    have hwb:=h3.wb
    rw [e2] at hwb
    simp only [au,bS] at hwb
    obtain ⟨rfl,rfl,rfl,rfl⟩:=hwb
    have hRR:R1=R:=by have:=h3.lv.1; rw [e3] at this; simpa using this.symm
    subst hRR
    refine ⟨cj2.1,some (b,o),rest,h3,h5,h8,h9,h10,h12,Rs,Rt,Ru, .inl ⟨b,o,rfl,h7⟩, .inl rfl,rfl,rfl, ?_⟩
    rw [a6]
    exact ⟨_,rfl,rfl,HEq.rfl,rfl⟩
   ·rw [g1] at h
    simp only [au] at h
    subst h
    obtain ⟨hv0,h1,h2,r1,R1,q1,wh,h3,h4',h5,h6,h7,h8,h9,h10,rest,h12,Rs,Rt,Ru⟩:=h4
    have hwb:=h3.wb
    rw [e2] at hwb
    simp only [au,bS] at hwb
    obtain ⟨rfl,rfl,rfl,rfl⟩:=hwb
    have hRR:R1=R:=by have:=h3.lv.1; rw [e3] at this; simpa using this.symm
    subst hRR
    refine ⟨cj2.1,wh,rest,h3,h5,h8,h9,h10,h12,Rs,Rt,Ru, .inr ⟨h7,hv0▸h6⟩, .inr h7,rfl,akx.symm, ?_⟩
    rw [a6]
    exact ⟨_,rfl,rfl,HEq.rfl,rfl⟩
  subst hwt
  subst hht
  rw [om] at e5
  obtain ⟨lw,akL,akM,akN,hws⟩:∃lw:List TypeId,(∀e∈dX,e∈lw)/\lw≠[]/\(g.base≠none->iV R p∈lw)/\ws=[.r r (some (je R z R.own R.tags lw ht' R.keep))]:=by
   rcases e7 with ⟨h,hw⟩ | ⟨h,hh,hw⟩
   ·exact ⟨iV R p :: dX,fun e he=>by simp [he],by simp,fun _=>by simp,hw⟩
   ·refine ⟨SENT :: (k.tys++dX),fun e he=>by simp [he],by simp,fun hb=>?_,by rw [hw,hh]; rfl⟩
    rw [g1] at h
    simp only [au] at h
    subst h
    exact absurd (g4.2.2.2 |> fun ⟨_,_,_,_,_,_,_,_,hb,_⟩=>hb) hb
  subst hws
  obtain ⟨Rf,EJ,Jd,⟨ek,ex⟩,Sb,nH,oK⟩:=e5
  have hlf:aU kC (ah j) Rf:=⟨EJ,Jd.1⟩
  subst ek
  simp only at ex
  subst ex
  have Kf:=Hf.roots (ah j) Rf hlf
  have hgw:g.wb=true:=(sw H g4).2.2.2.2 (by rw [e2]; simp)
  have Nr:(kS cx Z J F w ps c is gs).par j=some ⟨g.base.map fun q=>(q.1,q.2,rF p0),iU g,g.wb⟩:=by
   simp only [kS]
   rw [hg,g1]
   simp [hgw]
  unfold xx at nH
  simp only [bg,rG] at nH
  obtain ⟨⟨⟨⟨l1,l2⟩,l3⟩,l4⟩,l5⟩:=nH
  have hg0:Rf.g=0:=bC l5
  have hkind:aK iM Rf (ah j)=g.base/\(g.base=none->iM.hdr (ah j)=g.cs):=by
   rcases hbase with ⟨b,o,_,hb⟩ | ⟨hb,hV⟩
   ·obtain ⟨Q,hQ,hk,hl,_⟩:=Hf.kM j _ b o (rF p0) Nr (by simp [hb])
    have hQR:Q=Rf:=by have:=hQ.1; rw [EJ] at this; simpa using this.symm
    subst hQR
    refine ⟨?_,fun h=>by rw [hb] at h; simp at h⟩
    unfold aK
    rw [hk,hl,hb]
   ·have hrf:=(Hf.rz j g.v ⟨g,hg,rfl,hb,hgw⟩).2 Rf hlf hg0
    refine ⟨by unfold aK; rw [hrf.1,hb],fun _=>?_⟩
    have h1:=hrf.2.cells
    have h2:=hV.cells
    rw [<-h1,h2]
  obtain ⟨Z0,Zd⟩:=hkind
  have Za:Ow.blk iM Rf (ah j)=(match g.base with | some q=>[q.1] | none=>[])++iM.fo (ah j):=by
   unfold Ow.blk
   rw [Z0]
   cases g.base <;> rfl
  have I_:(iM.fo (ah j)).Nodup:=(cK.1 (Za▸Kf.nd)).2.1
  have akI:(iM.hdr (ah j)).length=Rf.k.size:=Kf.len
  have hK:=H.roots r R hP.lv
  have ER:=hK.nd
  rw [jG,uR] at ER
  have Zo:∀b,b∈J.fo r↔b∈g.fo\/b∈rest:=fun b=>by rw [hpr.mem_iff,bW]
  have zZ:=cK.1 (hpr.nodup ER.2)
  have hcells:∀b o,wh=some (b,o)->Cells (hp w') b o (iM.hdr (ah j))/\mM (hp w) (hp w') b o Rf.k.size:=by
   intro b o hw
   obtain ⟨m1,_,m2,⟨arr,e,lo,hi,m3,m4,m5,m6⟩,_⟩:=xy H hP.lv hP.vl hP.get hP.pin hP.own (by rw [pg,hw])
   rcases hbase with ⟨b',o',hw',hb⟩ | ⟨hb,_⟩
   ·rw [hw] at hw'
    simp only [au,bS] at hw'
    obtain ⟨rfl,rfl⟩:=hw'
    have hm:=Kf.mem b o (by rw [Z0,hb])
    have hsz:rF p0=Rf.k.size:=by
     rcases hps with h | h
     ·exact h
     ·rw [hb] at h; simp at h
    have:=f6 j _ b o (rF p0) Nr (by simp [hb])
    rw [hsz] at this
    exact ⟨hm.1,this⟩
   ·have hlt:=(hK.mine b m2).1
    have hsame:hp w' b=hp w b:=by
     refine kN fun hne=>?_
     obtain ⟨m,gm,h1,h2,h3⟩:=sF b hlt hne
     by_cases e:m=j
     ·subst e
      rw [hg] at h1
      simp only [au] at h1
      subst h1
      unfold iU at h2
      rw [hb] at h2
      exact hwf b o hw (by simpa using h2)
     ·have hgm:gm.wb=false:=by
       obtain ⟨pm,cm,vm,im,k1,k2,k3,k4⟩:=hgj h1
       exact E8 h1 k3 (e6 m im e k3)
      exact H.fB r R hP.lv b m2 (CB h1 hgm h2)
    rw [Zd hb]
    exact ⟨m1.congr hsame,mM.of_same _ _ m3 hsame⟩
  have hwho:∀b,(w.heap.size<=b\/∃(j:Nat) (g:GA),gs[j]?=some g/\b∈iU g/\(g.ow=true\/g.wb=true))->(∀o,g.base≠some (b,o))->b<w'.heap.size->b∈g.fo\/b∈F\/(w.heap.size<=b/\b<w'.heap.size):=by
   intro b hb hnb hlt
   rcases hb with hb | ⟨m,gm,h1,h2,h3⟩
   ·exact .inr (.inr ⟨hb,hlt⟩)
   ·by_cases e:m=j
    ·subst e
     rw [hg] at h1
     simp only [au] at h1
     subst h1
     unfold iU at h2
     cases hbb:g.base with
     | none=>rw [hbb] at h2; exact .inl (by simpa using h2)
     | some q=>
      rw [hbb] at h2
      simp only [kX,rR,bT] at h2
      rcases h2 with h2 | h2
      ·exact absurd (by rw [hbb,h2]) (hnb q.2)
      ·exact .inl h2
    ·have hgm:gm.wb=false:=by
      obtain ⟨pm,cm,vm,im,k1,k2,k3,k4⟩:=hgj h1
      exact E8 h1 k3 (e6 m im e k3)
     exact .inr (.inl (CB h1 hgm h2))
  have Ct:∀b∈g.fo,b∈iU g:=fun b hb=>bB _ hb
  have akO:∀b∈g.fo,¬nV (kS cx Z J F w ps c is gs) b:=by
   rintro b hb ⟨m,pi,o,n,h1,h2⟩
   obtain ⟨gm,pm,cm,vm,im,k1,k2,k3,k4,k5,rfl⟩:=Es H hJ h1
   simp only at h2
   cases vR:gm.base with
   | none=>rw [vR] at h2; simp at h2
   | some q=>
    rw [vR] at h2
    simp only [oU,au,bS] at h2
    have Zq:gm.wb=true:=by
     obtain ⟨_,_,_,_,_,_,_,hw,_⟩:=(sw H k4).2.1 q.1 q.2 (by rw [vR])
     exact (sw H k4).2.2.2.2 (by rw [hw]; simp)
    by_cases e:m=j
    ·subst e
     rw [hg] at k1
     simp only [au] at k1
     subst k1
     rcases hbase with ⟨b',o',hw',hb'⟩ | ⟨hb',_⟩
     ·rw [vR] at hb'
      simp only [au] at hb'
      subst hb'
      exact hwf b' o' hw' (by have:=h2.1; simp only at this; rw [this]; exact hb)
     ·rw [vR] at hb'; simp at hb'
    ·have:=E8 k1 k3 (e6 m im e k3)
     rw [this] at Zq
     simp at Zq
  have hkb:∀b∈g.fo,(∃e∈lw,jS (hp w) b=some e)\/(hp w' b=hp w b/\b∉Ff/\∀q Q,aU kC q Q->b∈Ow.blk iM Q q->q=ah j):=by
   intro b hb
   obtain ⟨R2,h1,h2⟩:=Hf.qc j _ Nr (by simp [hgw])
   rw [EJ] at h1
   simp only [au] at h1
   subst h1
   rcases h2 Jd.1 b (Ct b hb) (akO b hb) with ⟨e,h3,h4⟩ | h
   ·refine .inl ⟨e,akL e ?_,h3⟩
    rcases h4 with h4 | h4
    ·exact l1 e h4
    ·exact l2 e h4
   ·exact .inr h
  have aj3:∀b∈iM.fo (ah j),∀o,g.base≠some (b,o):=by
   intro b hb o hbb
   have:=Za▸Kf.nd
   rw [hbb] at this
   simp only [kX,rR] at this
   exact (jg.1 this).1 hb
  have ajB:∀b∈Ff,∀o,g.base≠some (b,o):=fun b hb o hbb=>A7 Hf hb ⟨j,_,o,rF p0,Nr,by simp [hbb]⟩
  have hoth:∀(m:Nat) (gm:GA),m≠j->gs[m]?=some gm->∀b∈gm.fo,b∈F:=by
   intro m gm e hm b hb
   obtain ⟨pm,cm,vm,im,k1,k2,k3,k4⟩:=hgj hm
   exact CB hm (E8 hm k3 (e6 m im e k3)) (bB _ hb)
  have hPT:BH cx Z J F w r R p ⟨Rf.k,x0⟩ R.own g.cs wh g.fo rest ⟨Rf.k,Rf.x⟩ z R.tags lw ht' R.keep (iM.fo (ah j)) G (iM.hdr (ah j)) w':=by
   refine ⟨e4,rfl,fun _ h=>h,⟨f1,f2,f3⟩,f4, ?_,hcells, ?_,akI, .inl akM,⟨fun _ h=>h,(H.gy r R e3).1,(H.gy r R e3).2.2⟩, ?_,I_, ?_,hGn, ?_, .inl rfl, .inl rfl, ?_, ?_⟩
   ·intro b hb hne
    obtain ⟨m,gm,h1,h2,h3⟩:=sF b hb hne
    by_cases e:m=j
    ·subst e
     rw [hg] at h1
     simp only [au] at h1
     subst h1
     unfold iU at h2
     rcases bW.1 h2 with h2 | h2
     ·cases hbb:g.base with
      | none=>rw [hbb] at h2; simp at h2
      | some q=>
       rw [hbb] at h2
       simp only [gI] at h2
       rcases hbase with ⟨b',o',hw',hb'⟩ | ⟨hb',_⟩
       ·rw [hbb] at hb'
        simp only [au] at hb'
        subst hb'
        simp only at h2
        exact .inr (.inr ⟨o',by rw [h2]; exact hw',akN (by rw [hbb]; simp)⟩)
       ·rw [hbb] at hb'; simp at hb'
     ·rcases hkb b h2 with h | h
      ·exact .inr (.inl ⟨h2,h⟩)
      ·exact absurd h.1 hne
    ·have hgm:gm.wb=false:=by
      obtain ⟨pm,cm,vm,im,k1,k2,k3,k4⟩:=hgj h1
      exact E8 h1 k3 (e6 m im e k3)
     exact .inl (CB h1 hgm h2)
   ·intro hw
    rcases hbase with ⟨b',o',hw',_⟩ | ⟨hb',_⟩
    ·rw [hw] at hw'; simp at hw'
    ·exact Zd hb'
   ·intro b hb
    have hbl:b∈Ow.blk iM Rf (ah j):=bB _ hb
    obtain ⟨m1,m2⟩:=Kf.mine b hbl
    refine hwho b (m2.imp id ?_) (aj3 b hb) m1
    rintro ⟨m,pi,h3,h4⟩
    obtain ⟨gm,pm,cm,vm,im,k1,k2,k3,k4,k5,rfl⟩:=Es H hJ h3
    exact ⟨m,gm,k1,h4,k5⟩
   ·intro b hb
    obtain ⟨m1,m2⟩:=jV b (hG b hb)
    rcases hwho b m2 (ajB b (hG b hb)) m1 with h | h | h
    ·rcases hkb b h with h' | h'
     ·exact .inr (.inr ⟨h,h'⟩)
     ·exact absurd (hG b hb) h'.2.1
    ·exact .inl h
    ·exact .inr (.inl h)
   ·intro b hb hbG
    exact Hf.fB (ah j) Rf hlf b (bB _ hb) (hG b hbG)
   ·intro I5 q c0 w0 dh uf hnq _
    by_cases hpt:az q Rf.k=[]
    ·exact NM (own:=R.own) q dh (fun t ht=>by rw [hpt] at ht; simp at ht) hnq
    ·obtain ⟨hany,b,o,hw0⟩:=aaO _ q hpt hnq
     subst hw0
     have hq:q≠[]:=fun e=>hpt (by rw [e]; simp [az])
     have ak0:iW q Rf.k=jM :: az q Rf.k:=by
      cases q with
      | nil=>exact absurd rfl hq
      | cons s q=>rfl
     have hto:∀t∈az q Rf.k,aa t ow=true:=fun t ht=>by
      have h1:=eH.1 hP.just t (CX q t ht)
      have h2:=(uf t ht).1
      have h1':aa t R.own=aa t ow:=by simpa using h1
      rw [<-h1',h2]
     obtain ⟨R0,r1,r2,r3,r4⟩:=hR0
     have t_:(kS cx Z J F w ps c is gs).ptrs j q (iW q Rf.k) (.pointer (some ⟨b,o,none⟩)):=by
      refine ⟨g,R0,c0,b,o,hg,hgw,r1,by rw [r2],fun t ht=>by rw [r4]; exact hto t (r2▸ht), ?_, ?_,rfl⟩
      ·obtain ⟨R0k,R0x,_,_,_,_,_,_,_,_,_,_⟩:=R0
       simp only at r2 r3
       subst r2
       rw [eq_of_heq r3]
       exact dh
      ·rw [r2]; exact hany _
     obtain ⟨_,R2,h1,h2⟩:=Hf.ry j q _ _ t_
     rw [EJ] at h1
     simp only [au] at h1
     subst h1
     have hno:∀t∈ht',t∉iW q Rf.k:=by
      intro t ht hm
      rw [ak0] at hm
      rcases bT.1 hm with h | h
      ·exact I5 (h▸ht)
      ·exact (uf t h).2 ht
     obtain ⟨q1,cs,b',o',q2,q3⟩:=(h2 (fun t ht hm=>hno t (l4 t hm) ht)).2 Rf EJ Jd (by
       unfold clean
       rw [eH]
       intro t ht
       have:t∈Rf.h:=Mg ht
       simp only [lC,gT]
       exact hno t (l3 t this))
      (fun t ht=>by
       have h1:=eH.1 Sb t (CX q t ht)
       have h1':aa t Rf.own=aa t ow:=by simpa using h1
       rw [h1']
       exact hto t ht)
      (by rw [EH q (y:=x0)]; exact Xk q dh)
     simp only [Value.pointer.injEq,au,qK,eX] at q3
     obtain ⟨rfl,rfl⟩:=q3
     exact ⟨q1,cs,(aaO _ q hpt q2).1 _⟩
   ·intro J' Tn hblk _
    have YU:=Kf.ow Jd
    have hsame:∀t∈Rf.k.tys,aa t R.own=aa t Rf.own:=fun t ht=>by
     have h1:=eH.1 hP.just t ht
     have h2:=eH.1 Sb t ht
     have h1':aa t R.own=aa t ow:=by simpa using h1
     have h2':aa t Rf.own=aa t ow:=by simpa using h2
     rw [h1',h2']
    refine vv hsame ?_
    rcases oK with hall | oK
    ·refine j5 (lu (fun t ht=>?_)) YU
     have h2:=eH.1 Sb t ht
     have h2':aa t Rf.own=aa t ow:=by simpa using h2
     rw [h2']
     exact qH hall t ht
    ·refine dY (fun _ _=>rfl) (fun b hb=>?_) (fun _ _=>rfl) YU
     refine NP H hJ Hf (XO H hP.lv e1 e2 hlf hg hpr hoth Tn hblk hG) (fun j' n hn i' hi' t ht=>?_) (fun m n hn=>?_) hb
     ·have h1:=eH.1 oK _ hn
      simp only [uP,gJ] at h1
      have h2:jA j' / 4=j':=by unfold jA; omega
      rw [h2,b_,gI] at h1
      subst h1
      rw [e1] at hi'
      simp only [au] at hi'
      subst hi'
      rw [hP.ids] at ht
      exact ⟨t.2,ht⟩
     ·have h1:=eH.1 oK _ hn
      have h2:Nat.beq (ah m % 4) 0=true:=by unfold ah; simp
      simp only [Ad,kg,h2,gJ] at h1
      simp [aa] at h1
  obtain ⟨ku,hR2,RN,hb2,Sl,_⟩:=hgo hPT
  refine ⟨ku,hR2,XO H hP.lv e1 e2 hlf hg hpr hoth RN hb2 hG,rfl,fun q hq=>?_,fun t ht=>RN.tag ht, .inr ⟨_,_,rfl⟩,fun j' i' r' q' xD ht0 akw hi' hw'=>?_⟩
  rotate_left
  ·have ej:j'=j:=by
    refine kN fun hne=>?_
    rw [e6 j' i' hne hi'] at hw'
    simp at hw'
   subst ej
   rw [e1] at hi'
   simp only [au] at hi'
   subst hi'
   rw [e2] at hw'
   simp only [au,bS] at hw'
   obtain ⟨rfl,rfl,rfl,rfl⟩:=hw'
   obtain ⟨s1,s2,s3⟩:=anD p hP.pin e4
   exact ⟨Rf,_,R,EJ,Jd,hg0,rfl,e3,s2,fun t ht=>hP.own t (by rw [<-s3]; exact ht),fun hv'=>⟨wh,Sl akw hv'⟩⟩
  have hne:q≠r:=fun e=>by rw [e,e3] at hq; simp at hq
  show (aJ Z r _).roots q=none
  rw [jW Z _ hne]
  exact hq
end
end
section
open Go
variable [Fr]
def y_ (Z:St) (ws:List Wr) (l:List Nat) (tags:List Tag):Prop:=
 (∀r∈l,∃n,(r,n)∈tags)/\∀t∈tags,gZ t.1=true\/(∃R,ws.find? (fun w=>w.loc.beq (.r t.1))=some (.r t.1 (some R))/\t.2=dS R.w)\/(∃R,Z.roots t.1=some R/\t.2=dS R.w)
theorem al9 {w:Wr} {r:Nat} (h:w.loc.beq (.r r)=true):∃o,w=.r r o:=by
 cases w with
 | s n a=>simp [Wr.loc,Loc.beq] at h
 | r n o=>
  simp only [Wr.loc,Loc.beq] at h
  exact ⟨o,by rw [bC h]⟩
theorem TJ {A:Type} {z:A} {Z:St} {ws:List Wr}:∀{l:List Nat} {k:List Tag->Prog A},(Ai ws l k).ends Z z->∃tags,y_ Z ws l tags/\(k tags).ends Z z:=by
 intro l
 induction l with
 | nil=>intro k h; exact ⟨[],⟨by simp,by simp⟩,h⟩
 | cons r l ih=>
  intro k h
  unfold Ai at h
  have hadd:∀{n:Nat} {tags:List Tag},y_ Z ws l tags->(gZ r=true\/(∃R,ws.find? (fun w=>w.loc.beq (.r r))=some (.r r (some R))/\n=dS R.w)\/(∃R,Z.roots r=some R/\n=dS R.w))->y_ Z ws (r :: l) ((r,n) :: tags):=by
   intro n tags h1 h2
   refine ⟨fun q hq=>?_,fun t ht=>?_⟩
   ·rcases bT.1 hq with h | h
    ·subst h; exact ⟨n,by simp⟩
    ·obtain ⟨m,hm⟩:=h1.1 q h; exact ⟨m,by simp [hm]⟩
   ·rcases bT.1 ht with h | h
    ·subst h; exact h2
    ·exact h1.2 t h
  cases he:gZ r with
  | true=>
   rw [he] at h
   obtain ⟨tags,g1,g2⟩:=ih h
   exact ⟨_,hadd g1 (.inl he),g2⟩
  | false=>
   rw [he] at h
   simp only [kg] at h
   split at h
   ·rename_i q R hf
    have hq:q=r:=by
     have:=List.find?_some hf
     obtain ⟨o,ho⟩:=al9 this
     simp only [Wr.r.injEq] at ho
     exact ho.1
    subst hq
    obtain ⟨tags,g1,g2⟩:=ih h
    exact ⟨_,hadd g1 (.inr (.inl ⟨R,hf,rfl⟩)),g2⟩
   ·exact h.elim
   ·simp only [Prog.ends] at h
    cases hr:Z.roots r with
    | none=>rw [hr] at h; exact h.elim
    | some R=>
     rw [hr] at h
     obtain ⟨tags,g1,g2⟩:=ih h
     exact ⟨_,hadd g1 (.inr (.inr ⟨R,hr,rfl⟩)),g2⟩
def Ia (Z:St) (d:Nat) (is:List bM) (ws:List Wr):(rs:List gN)->Nat->Cont (eO rs)->List AV->List Wr->Prop
 | [],_,_,as,ws'=>as=[]/\ws'=[]
 | .val k exts bE :: rs,c,x,as,ws'=>∃tags as',y_ Z ws (bif k.flat then [] else w9 (yx is exts bE)) tags/\as=.val k x.1 tags :: as'/\Ia Z d is ws rs (c+1) x.2 as' ws'
 | .own k ow exts bE :: rs,c,x,as,ws'=>∃tags as' Dk,y_ Z ws (bif k.tys.all (fun t=>aa t ow) then [] else w9 (yx is exts bE)) tags/\Z.roots (aG d c)=none/\as=.ref (aG d c) 0 :: as'/\ws'=.r (aG d c) (some (bL k x.1 ow tags .anon)) :: Dk/\Ia Z d is ws rs (c+1) x.2 as' Dk
 | .ptr t k ow exts :: rs,c,x,as,ws'=>∃tags as' Dk,y_ Z ws (bif k.tys.all (fun t=>aa t ow) then [] else w9 (yx is exts [])) tags/\Z.roots (aG d c)=none/\as=.ptr (aG d c) [] 0 :: as'/\ws'=.r (aG d c) (some (bL k x.1 ow tags (.var t))) :: Dk/\Ia Z d is ws rs (c+1) x.2 as' Dk
 | .into j p :: rs,c,x,as,ws'=>c=0/\p=[]/\rs=[]/\ws'=[]/\∃i r q wt ht R,is[j]?=some i/\i.wb=some (r,q,wt,ht)/\jM∉ht/\ws.find? (fun w=>w.loc.beq (.r r))=some (.r r (some R))/\as=[.nI r q (dS R.w+dS R.h) (show Int from x.1).toNat]
theorem am7 {A:Type} {z:A} {Z:St} {d:Nat} {is:List bM} {ws:List Wr}:∀{rs:List gN} {c:Nat} {x:Cont (eO rs)} {k:List AV->List Wr->Prog A},(mW d is ws rs c x k).ends Z z->∃as ws',Ia Z d is ws rs c x as ws'/\(k as ws').ends Z z:=by
 intro rs
 induction rs with
 | nil=>intro c x k h; exact ⟨[],[],⟨rfl,rfl⟩,h⟩
 | cons p rs ih=>
  intro c x k h
  cases p with
  | val kk exts bE=>
   simp only [mW] at h
   obtain ⟨tags,h1,h⟩:=TJ h
   obtain ⟨as,ws',h2,h⟩:=ih h
   exact ⟨_,ws',⟨tags,as,h1,rfl,h2⟩,h⟩
  | own kk ow exts bE=>
   simp only [mW] at h
   obtain ⟨tags,h1,h⟩:=TJ h
   obtain ⟨hn,h⟩:=p9 h
   obtain ⟨as,ws',h2,h⟩:=ih h
   exact ⟨_,_,⟨tags,as,ws',h1,hn,rfl,rfl,h2⟩,h⟩
  | ptr t kk ow exts=>
   simp only [mW] at h
   obtain ⟨tags,h1,h⟩:=TJ h
   obtain ⟨hn,h⟩:=p9 h
   obtain ⟨as,ws',h2,h⟩:=ih h
   exact ⟨_,_,⟨tags,as,ws',h1,hn,rfl,rfl,h2⟩,h⟩
  | into j q=>
   simp only [mW] at h
   rcases bD h with ⟨hc,h⟩ | ⟨_,h⟩
   ·simp only [bg,List.isEmpty_iff] at hc
    split at h
    ·rename_i i hi
     split at h
     ·rename_i r q' wt ht hw
      split at h
      ·rename_i r' R hf
       rcases bD h with ⟨_,h⟩ | ⟨fC,h⟩
       ·exact h.elim
       have hb:=List.find?_some hf
       simp only [Wr.loc,Loc.beq] at hb
       have hb:=bC hb
       subst hb
       exact ⟨_,_,⟨bC hc.1.1,hc.1.2,hc.2,rfl,i,r',q',wt,ht,R,hi,hw,gT.1 fC,hf,rfl⟩,h⟩
      ·exact h.elim
     ·exact h.elim
    ·exact h.elim
   ·exact h.elim
theorem Ty {n:Nat} {l:List Nat}:n∈l->n∈w9 l:=by
 induction l with
 | nil=>simp
 | cons m l ih=>
  intro h
  unfold w9
  cases hm:aa m l with
  | true=>
   simp only [gJ]
   rcases bT.1 h with h | h
   ·subst h; exact ih (b_.1 hm)
   ·exact ih h
  | false=>
   simp only [kg]
   rcases bT.1 h with h | h
   ·subst h; simp
   ·simp [ih h]
section
variable {P:Program} {T:bH} {cx:Cx} {Z:St} {J:aH} {F:List Nat} {a:Act} {w w':World} {ps:List aV} {c:Cont (kin ps)} {vs:List Value} {is:List bM} {gs:List GA}
theorem UH {exts bE:List Nat} {Tg U:List Tag} {l:List Nat} (ht:rH exts bE Tg=true) (hU:∀r∈l,∃n,(r,n)∈U) (hl:∀r∈yx is exts bE,r∈l) :
  (∀j n,(jA j,n)∈Tg->∀i,is[j]?=some i->∀t∈i.ids,∃n',(t.1,n')∈U)/\(∀m n,(ah m,n)∈Tg->∀i q,is[m]?=some i->i.wb=some q->∃n',(q.1,n')∈U):=by
 refine ⟨fun j n hn i hi t ht'=>?_,fun m n hn i q hi hq=>?_⟩
 ·have h1:=eH.1 ht _ hn
  simp only [uP,gJ] at h1
  have h2:jA j / 4=j:=by unfold jA; omega
  rw [h2,b_] at h1
  refine hU _ (hl _ ?_)
  unfold yx
  refine bK _ (jZ.2 ⟨j,h1, ?_⟩)
  rw [hi]
  exact fI.2 ⟨t,ht',rfl⟩
 ·have h1:=eH.1 ht _ hn
  have h2:Nat.beq (ah m % 4) 0=true:=by unfold ah; simp
  simp only [Ad,kg,h2,gJ] at h1
  rw [aa9,b_] at h1
  refine hU _ (hl _ ?_)
  unfold yx
  refine bB _ (jZ.2 ⟨m,h1, ?_⟩)
  simp [hi,hq]
theorem aaw {d c c':Nat} (h:aG d c=aG d c'):c=c':=by unfold aG at h; omega
theorem agU (H:Rel cx Z J F a w) (hJ:wM cx Z J F a w ps c vs is gs) {kC:St} {iM:aH} {Ff:List Nat} {af:Act} (Hf:Rel (kS cx Z J F w ps c is gs) kC iM Ff af w') {Gb:St} {d:Nat} {ws:List Wr} :
  ∀{rs:List gN} {ci:Nat} {x:Cont (eO rs)} {as:List AV} {ws':List Wr} {us:List Value} {ay:List (List Nat)} {Z':St} {J':aH},Rel cx Z' J' ay.flatten a w'->AJ Z J is gs kC iM Ff Z' J' ay.flatten->
   vC (kS cx Z J F w ps c is gs) kC iM Ff w' rs x us ay->Ia Gb d is ws rs ci x as ws'->(∀l tags,y_ Gb ws l tags->gB Z' tags)->(∀cj,ci<=cj->Gb.roots (aG d cj)=none->Z'.roots (aG d cj)=none)->(∀b∈ay.flatten,b∈Ff)->
   (ci=0->∀(j:Nat) (i:bM) (r:Nat) (q:List Stp) (wt ht:List TypeId) (R:Root) (b:Option Addr) (n cp m:Nat),is[j]?=some i->i.wb=some (r,q,wt,ht)->jM∉ht->ws.find? (fun w=>w.loc.beq (.r r))=some (.r r (some R))->m<=n->aW (kS cx Z J F w ps c is gs) kC iM Ff w' (.ref (ah j) 0) (.slice b n cp)->
    aW cx Z' J' ay.flatten w' (.nI r q (dS R.w+dS R.h) m) (.slice b m cp)/\dQ Z' (.nI r q (dS R.w+dS R.h) m))->
   ∃J'',Rel cx (aC ws' Z') J'' [] a w'/\iN cx (aC ws' Z') J'' [] w' as us/\(∀v∈as,dQ (aC ws' Z') v)/\(aC ws' Z').slots=Z'.slots/\AJ Z J is gs kC iM Ff (aC ws' Z') J'' []/\
    (∀u v,dQ Z' u->aW cx Z' J' ay.flatten w' u v->aW cx (aC ws' Z') J'' [] w' u v)/\(∀t,yI Z' t->yI (aC ws' Z') t)/\(∀u,dQ Z' u->dQ (aC ws' Z') u):=by
 intro rs
 induction rs with
 | nil=>
  intro ci x as ws' us ay Z' J' H' B hL hW _ _ _ _
  obtain ⟨rfl,rfl⟩:=hW
  cases us with
  | cons _ _=>exact hL.elim
  | nil=>cases ay with
   | cons _ _=>exact hL.elim
   | nil=>exact ⟨J',H',trivial,by simp,rfl,B,fun _ _ _ h=>h,fun _ h=>h,fun _ h=>h⟩
 | cons p rs ih=>
  intro ci x as ws' us ay Z' J' H' B hL hW eZ hfr hFf hcut
  cases us with
  | nil=>cases p <;> exact hL.elim
  | cons u us=>
   cases ay with
   | nil=>cases p <;> exact hL.elim
   | cons fo ay=>
    cases p with
    | val k exts bE=>
     obtain ⟨⟨rfl,Tg,cs,h1,h2,h3⟩,h4⟩:=hL
     obtain ⟨tags,as',hN,rfl,hW⟩:=hW
     simp only [lV,rR] at H' B hFf
     obtain ⟨J'',k1,k2,k3,k4,k5,k6,k7,k8⟩:=ih H' B h4 hW eZ (fun cj hc=>hfr cj (by omega)) hFf (fun h=>absurd h (Nat.succ_ne_zero _))
     refine ⟨J'',k1,⟨fun _=>⟨cs,h2, ?_⟩,k2⟩, ?_,k4,k5,by simpa using k6,k7,k8⟩
     ·cases hf:k.flat with
      | true=>exact ni hf h3
      | false=>
       rw [hf] at hN h1
       obtain ⟨b1,b2⟩:=UH (is:=is) (h1.resolve_left (by simp)) hN.1 (fun r hr=>Ty hr)
       exact lN (fun _ _=>rfl) (fun b hb=>NP H hJ Hf k5 b1 b2 hb) h3
     ·intro v hv
      rcases bT.1 hv with h | h
      ·subst h; exact fun t ht=>k7 t (eZ _ _ hN t ht)
      ·exact k3 v h
    | own k ow exts bE=>
     obtain ⟨⟨Tg,cs,own,h1,h2,h3,h5⟩,h4⟩:=hL
     obtain ⟨tags,as',Dk,hN,hn,rfl,rfl,hW⟩:=hW
     simp only [lV] at H' B hFf
     obtain ⟨aF,fd,hpm,hO⟩:=xU (own':=ow) (fun t ht hm=>h2 t ht hm) h5
     have hnd:=cK.1 H'.iq
     have zZ:=cK.1 (hpm.nodup hnd.1)
     have hk:(bL k x.1 ow tags .anon false).kind=.anon:=rfl
     have hn':=hfr ci (bN _) hn
     have Cs:∀b∈aF,b∈fo:=fun b hb=>hpm.mem_iff.2 (bK _ hb)
     obtain ⟨q1,q2⟩:=Eg (R':=bL k x.1 ow tags .anon false) H' hn' (qb d ci) rfl (by simp [bL]) (eZ _ _ hN) (0,0) cs aF ay.flatten
      (fun b hb=>by rw [qV hk] at hb; exact ⟨bK _ (Cs b hb),fun h=>hnd.2.2 b (Cs b hb) b h rfl⟩) (by rw [qV hk]; exact zZ.1) (fun b hb=>bB _ hb) hnd.2.1
      (fun _=>by
       rw [qV hk]
       show Ow (hp w') ow _ k x.1 cs aF
       cases hall:(k.tys.all fun t=>aa t ow) with
       | true=>exact j5 (lu (qH hall)) hO
       | false=>
        rw [hall] at hN h1
        obtain ⟨b1,b2⟩:=UH (is:=is) (h1.resolve_left (by simp)) hN.1 (fun r hr=>Ty hr)
        refine dY (fun _ _=>rfl) (fun b hb=>?_) (fun _ _=>rfl) hO
        rcases hb with hb | hb
        ·exact .inl (NP H hJ Hf B b1 b2 hb)
        ·have hbf:b∈fo:=hpm.mem_iff.2 (bB _ hb)
         exact .inr ⟨bK _ hbf,fun h=>hnd.2.2 b hbf b h rfl,fun h=>zZ.2.2 b h b hb rfl⟩) (fM h5) (fun b o hb=>by rw [F8 hk] at hb; simp at hb)
     have hB2:AJ Z J is gs kC iM Ff (aJ Z' (aG d ci) (bL k x.1 ow tags .anon false)) (aR J' (aG d ci) (0,0) cs aF) ay.flatten:=by
      refine ⟨fun q Q b hq hb=>?_,fun b hb=>hFf b (bB _ hb)⟩
      rcases uo hq with ⟨rfl,rfl,_⟩ | ⟨e,hq'⟩
      ·rw [pR,qV hk] at hb
       exact .inl (hFf b (bK _ (Cs b hb)))
      ·rw [(lX (Z:=Z') (J:=J') (R:=bL k x.1 ow tags .anon false) e).blk] at hb
       exact B.blk q Q b hq' hb
     have vQ:∀u v,dQ Z' u->aW cx Z' J' (fo++ay.flatten) w' u v->aW cx (aJ Z' (aG d ci) (bL k x.1 ow tags .anon false)) (aR J' (aG d ci) (0,0) cs aF) ay.flatten w' u v:=fun u v hu hv=>
      q2.av H' (fun r R hr hs=>absurd (lX (fun e=>by have:=hr.1; rw [e,hn'] at this; simp at this)) hs) (fun r R hr hs=>absurd (lX (fun e=>by have:=hr.1; rw [e,hn'] at this; simp at this)) hs) hu hv
     obtain ⟨J'',k1,k2,k3,k4,k5,k6,k7,k8⟩:=ih (ci:=ci+1) q1 hB2 h4 hW (fun l tags hN t ht=>q2.tag (eZ l tags hN t ht)) (fun cj hc h=>by
      rw [jW]
      ·exact hfr cj (by omega) h
      ·intro e; have:=aaw e; omega) (fun b hb=>hFf b (bB _ hb)) (fun h=>absurd h (Nat.succ_ne_zero _))
     have hroot:(aJ Z' (aG d ci) (bL k x.1 ow tags .anon false)).roots (aG d ci)=some (bL k x.1 ow tags .anon false):=fE ..
     have Jb:dQ (aJ Z' (aG d ci) (bL k x.1 ow tags .anon false)) (.ref (aG d ci) 0):=⟨_,hroot, .inr (fT _)⟩
     refine ⟨J'',k1,⟨k6 _ _ Jb (aaM h3),k2⟩, ?_,k4,k5,fun u v hu hv=>?_,fun t ht=>k7 t (q2.tag ht),fun u hu=>k8 u (q2.dQ hu)⟩
     ·intro v hv
      rcases bT.1 hv with h | h
      ·subst h
       exact k8 _ Jb
      ·exact k3 v h
     ·exact k6 u v (q2.dQ hu) (vQ u v hu hv)
    | ptr t k ow exts=>
     obtain ⟨⟨b0,o0,Tg,cs,own,gQ,h3,rfl,h1,h2,hmem,h5⟩,h4⟩:=hL
     obtain ⟨tags,as',Dk,hN,hn,rfl,rfl,hW⟩:=hW
     simp only [lV] at H' B hFf
     obtain ⟨aF,fd,hpm,hO⟩:=xU (own':=ow) (fun t ht hm=>h2 t ht hm) h5
     have hnd:=cK.1 H'.iq
     have kK:=jg.1 hnd.1
     have zZ:=cK.1 (hpm.nodup kK.2)
     have hk:(bL k x.1 ow tags (.var t) false).kind=.var t:=rfl
     have hn':=hfr ci (bN _) hn
     have Cs:∀b∈b0 :: aF,b∈b0 :: gQ:=fun b hb=>by
      rcases bT.1 hb with h | h
      ·rw [h]; exact jE
      ·exact jD _ (hpm.mem_iff.2 (bK _ h))
     obtain ⟨q1,q2⟩:=Eg (R':=bL k x.1 ow tags (.var t) false) H' hn' (qb d ci) rfl (by simp [bL]) (eZ _ _ hN) (b0,o0) cs aF ay.flatten
      (fun b hb=>by rw [Eo hk] at hb; exact ⟨bK _ (Cs b hb),fun h=>hnd.2.2 b (Cs b hb) b h rfl⟩) (by rw [Eo hk]; exact jg.2 ⟨fun h=>kK.1 (hpm.mem_iff.2 (bK _ h)),zZ.1⟩) (fun b hb=>bB _ hb) hnd.2.1
      (fun _=>by
       rw [Eo hk]
       show Ow (hp w') ow _ k x.1 cs aF
       cases hall:(k.tys.all fun t=>aa t ow) with
       | true=>exact j5 (lu (qH hall)) hO
       | false=>
        rw [hall] at hN h1
        obtain ⟨b1,b2⟩:=UH (is:=is) (h1.resolve_left (by simp)) hN.1 (fun r hr=>Ty hr)
        refine dY (fun _ _=>rfl) (fun b hb=>?_) (fun _ _=>rfl) hO
        rcases hb with hb | hb
        ·exact .inl (NP H hJ Hf B b1 b2 hb)
        ·have hbf:b∈b0 :: gQ:=jD _ (hpm.mem_iff.2 (bB _ hb))
         exact .inr ⟨bK _ hbf,fun h=>hnd.2.2 b hbf b h rfl,fun h=>by
          rcases bT.1 h with h | h
          ·subst h; exact kK.1 (hpm.mem_iff.2 (bB _ hb))
          ·exact zZ.2.2 b h b hb rfl⟩) (fM h5) (fun b o hb=>by
       rw [acK hk] at hb
       simp only [au,bS] at hb
       obtain ⟨rfl,rfl⟩:=hb
       obtain ⟨m1,arr,e,lo,hi,m2,m3,m4,m5⟩:=hmem
       exact ⟨m1,arr,e,lo,hi,m2,m3,m4,fun u hu=>by rw [m5]; rw [hk] at hu; simpa using hu⟩)
     have hB2:AJ Z J is gs kC iM Ff (aJ Z' (aG d ci) (bL k x.1 ow tags (.var t) false)) (aR J' (aG d ci) (b0,o0) cs aF) ay.flatten:=by
      refine ⟨fun q Q b hq hb=>?_,fun b hb=>hFf b (bB _ hb)⟩
      rcases uo hq with ⟨rfl,rfl,_⟩ | ⟨e,hq'⟩
      ·rw [pR,Eo hk] at hb
       exact .inl (hFf b (bK _ (Cs b hb)))
      ·rw [(lX (Z:=Z') (J:=J') (R:=bL k x.1 ow tags (.var t) false) e).blk] at hb
       exact B.blk q Q b hq' hb
     have vQ:∀u v,dQ Z' u->aW cx Z' J' ((b0 :: gQ)++ay.flatten) w' u v->aW cx (aJ Z' (aG d ci) (bL k x.1 ow tags (.var t) false)) (aR J' (aG d ci) (b0,o0) cs aF) ay.flatten w' u v:=fun u v hu hv=>
      q2.av H' (fun r R hr hs=>absurd (lX (fun e=>by have:=hr.1; rw [e,hn'] at this; simp at this)) hs) (fun r R hr hs=>absurd (lX (fun e=>by have:=hr.1; rw [e,hn'] at this; simp at this)) hs) hu hv
     obtain ⟨J'',k1,k2,k3,k4,k5,k6,k7,k8⟩:=ih (ci:=ci+1) q1 hB2 h4 hW (fun l tags hN t ht=>q2.tag (eZ l tags hN t ht)) (fun cj hc h=>by
      rw [jW]
      ·exact hfr cj (by omega) h
      ·intro e; have:=aaw e; omega) (fun b hb=>hFf b (bB _ hb)) (fun h=>absurd h (Nat.succ_ne_zero _))
     have hroot:(aJ Z' (aG d ci) (bL k x.1 ow tags (.var t) false)).roots (aG d ci)=some (bL k x.1 ow tags (.var t) false):=fE ..
     have Jb:dQ (aJ Z' (aG d ci) (bL k x.1 ow tags (.var t) false)) (.ptr (aG d ci) [] 0):=⟨_,hroot, .inr (fT _)⟩
     refine ⟨J'',k1,⟨k6 _ _ Jb (by rw [h3]; exact amn),k2⟩, ?_,k4,k5,fun u v hu hv=>?_,fun t ht=>k7 t (q2.tag ht),fun u hu=>k8 u (q2.dQ hu)⟩
     ·intro v hv
      rcases bT.1 hv with h | h
      ·subst h
       exact k8 _ Jb
      ·exact k3 v h
     ·exact k6 u v (q2.dQ hu) (vQ u v hu hv)
    | into j q=>
     obtain ⟨⟨rfl,_,b,n,cp,e1,e2,e3⟩,h4⟩:=hL
     obtain ⟨hci,_,rfl,rfl,i,r,q',wt,ht,R,g1,g2,g0,g3,rfl⟩:=hW
     cases us with
     | cons _ _=>exact h4.elim
     | nil=>
      cases ay with
      | cons _ _=>exact h4.elim
      | nil=>
       obtain ⟨k1,k2⟩:=hcut hci j i r q' wt ht R b n cp _ g1 g2 g0 g3 e2 e3
       simp only [lV,Bv,h_] at H' k1
       simp only [lV,Bv,h_] at B
       refine ⟨J',H',⟨by rw [e1]; exact k1,trivial⟩,fun v hv=>?_,rfl,B,fun _ _ _ h=>?_,fun _ h=>h,fun _ h=>h⟩
       ·simp only [gI] at hv
        subst hv
        exact k2
       ·simp only [lV,Bv,h_] at h
        exact h
end
end
section
open Go
variable [Fr]
section
variable {P:Program} {T:bH} {cx:Cx} {Z:St} {J:aH} {F:List Nat} {a:Act} {w w':World}
theorem ac1:∀{ps:List aV} {c:Cont (kin ps)} {vs:List Value} {is:List bM} {ts:List (Value×eU)},rP cx Z J F a w ps c vs is ts->
  is.flatMap bM.ws=fu ts/\(∀q∈ts,rX cx Z J F w q.1 q.2)/\(∀t∈nX ts,∃(j:Nat) (i:bM) (k:K) (ow:List TypeId),ps[j]?=some (.own k ow)/\is[j]?=some i/\t∈i.ids)/\vs.length=ps.length/\is.length=ps.length:=by
 intro ps
 induction ps with
 | nil=>
  intro c vs is ts h
  cases vs with
  | cons _ _=>exact h.elim
  | nil=>cases is with
   | cons _ _=>exact h.elim
   | nil=>cases ts with
    | cons _ _=>exact h.elim
    | nil=>exact ⟨rfl,by simp,by simp [nX],rfl,rfl⟩
 | cons p ps ih=>
  intro c vs is ts h
  cases vs with
  | nil=>cases p <;> exact h.elim
  | cons v vs=>
   cases is with
   | nil=>cases p <;> exact h.elim
   | cons i is=>
    have hshift:∀{ts:List (Value×eU)},(∀t∈nX ts,∃(j:Nat) (i:bM) (k:K) (ow:List TypeId),ps[j]?=some (.own k ow)/\is[j]?=some i/\t∈i.ids)->∀t∈nX ts,∃(j:Nat) (i':bM) (k:K) (ow:List TypeId),(p :: ps)[j]?=some (.own k ow)/\(i :: is)[j]?=some i'/\t∈i'.ids:=by
     intro ts h t ht
     obtain ⟨j,i',k,ow,h1,h2,h3⟩:=h t ht
     exact ⟨j+1,i',k,ow,by simpa using h1,by simpa using h2,h3⟩
    cases p with
    | val k bE=>obtain ⟨⟨_,h1,_⟩,h6⟩:=h; obtain ⟨g1,g2,g3,g4,g5⟩:=ih h6; exact ⟨by simp [h1,g1],g2,hshift g3,by simp [g4],by simp [g5]⟩
    | ro k=>obtain ⟨⟨_,h1,_⟩,h6⟩:=h; obtain ⟨g1,g2,g3,g4,g5⟩:=ih h6; exact ⟨by simp [h1,g1],g2,hshift g3,by simp [g4],by simp [g5]⟩
    | rw k ow wt ht=>obtain ⟨⟨r,R,p,hP,_⟩,h6⟩:=h; obtain ⟨g1,g2,g3,g4,g5⟩:=ih h6; exact ⟨by simp [hP.ws,g1],g2,hshift g3,by simp [g4],by simp [g5]⟩
    | bR k ow wt=>obtain ⟨⟨r,R,p,hP,_⟩,h6⟩:=h; obtain ⟨g1,g2,g3,g4,g5⟩:=ih h6; exact ⟨by simp [hP.ws,g1],g2,hshift g3,by simp [g4],by simp [g5]⟩
    | fn f ks=>obtain ⟨⟨_,h1,_⟩,h6⟩:=h; obtain ⟨g1,g2,g3,g4,g5⟩:=ih h6; exact ⟨by simp [h1,g1],g2,hshift g3,by simp [g4],by simp [g5]⟩
    | own k ow=>
     cases ts with
     | nil=>exact h.elim
     | cons q ts=>
      obtain ⟨⟨h1,h2,h3,h4,h5⟩,h6⟩:=h
      obtain ⟨g1,g2,g3,g4,g5⟩:=ih h6
      refine ⟨?_, ?_, ?_,by simp [g4],by simp [g5]⟩
      ·rw [h3]; simp [g1,fu]
      ·intro q' hq
       rcases bT.1 hq with h | h
       ·subst h; rw [h1]; exact h2
       ·exact g2 q' h
      ·intro t ht
       simp only [nX,kQ,bW] at ht
       rcases ht with ht | ht
       ·exact ⟨0,i,k,ow,rfl,rfl,by rw [h3]; exact ht⟩
       ·exact hshift g3 t ht
    | into j q=>obtain ⟨⟨_,h1,_⟩,h6⟩:=h; obtain ⟨g1,g2,g3,g4,g5⟩:=ih h6; exact ⟨by simp [h1,g1],g2,hshift g3,by simp [g4],by simp [g5]⟩
theorem aa8 {r:Nat}:∀{is:List bM} {n m:Nat},uU r is n=some m->∃i q,n<=m/\is[m - n]?=some i/\i.wb=some (r,q):=by
 intro is
 induction is with
 | nil=>intro n m h; simp [uU] at h
 | cons i is ih=>
  intro n m h
  unfold uU at h
  have hrec:uU r is (n+1)=some m->∃i' q,n<=m/\(i :: is)[m - n]?=some i'/\i'.wb=some (r,q):=by
   intro h
   obtain ⟨i',q,h1,h2,h3⟩:=ih h
   refine ⟨i',q,by omega, ?_,h3⟩
   have:m - n=(m - (n+1))+1:=by omega
   rw [this]
   simpa using h2
  cases hw:i.wb with
  | none=>rw [hw] at h; exact hrec h
  | some q=>
   rw [hw] at h
   simp only at h
   cases hb:Nat.beq r q.1 with
   | true=>
    rw [hb] at h
    simp only [gJ,au] at h
    subst h
    exact ⟨i,q.2,bN _,by simp,by rw [hw,bC hb]⟩
   | false=>rw [hb] at h; exact hrec h
theorem amN {r:Nat}:∀{is:List bM} {n:Nat},uU r is n=none->∀i∈is,∀q,i.wb≠some (r,q):=by
 intro is
 induction is with
 | nil=>intro n _ i hi; simp at hi
 | cons i is ih=>
  intro n h i' hi q he
  unfold uU at h
  rcases bT.1 hi with h' | h'
  ·subst h'
   rw [he] at h
   simp at h
  ·cases hw:i.wb with
   | none=>rw [hw] at h; exact ih h i' h' q he
   | some q'=>
    rw [hw] at h
    simp only at h
    cases hb:Nat.beq r q'.1 with
    | true=>rw [hb] at h; simp at h
    | false=>rw [hb] at h; exact ih h i' h' q he
theorem aa0:∀{is:List bM} {j j':Nat} {i i':bM},yF is=true->is[j]?=some i->is[j']?=some i'->i.wb≠none->i'.wb≠none->j=j':=by
 intro is
 induction is with
 | nil=>intro j j' i i' _ h; simp at h
 | cons x is ih=>
  intro j j' i i' ho h1 h2 h3 h4
  cases j with
  | zero=>
   simp only [qO,au] at h1
   subst h1
   cases j' with
   | zero=>rfl
   | succ j'=>
    rcases JD ho with ⟨h,_⟩ | ⟨_,h⟩
    ·exact absurd h h3
    ·exact absurd (h i' (qo (by simpa using h2))) h4
  | succ j=>
   cases j' with
   | zero=>
    simp only [qO,au] at h2
    subst h2
    rcases JD ho with ⟨h,_⟩ | ⟨_,h⟩
    ·exact absurd h h4
    ·exact absurd (h i (qo (by simpa using h1))) h3
   | succ j'=>
    rcases JD ho with ⟨_,h⟩ | ⟨_,h⟩
    ·have:=ih h (by simpa using h1) (by simpa using h2) h3 h4; omega
    ·exact absurd (h i (qo (by simpa using h1))) h3
def Qo (is:List bM) (p:aV) (i:bM):Prop:=
 (∃(k:K) (bE:List Nat),p=.val k bE/\(∀m∈bE,∃q:bM,is[m]?=some q/\q.wb≠none)/\∀t∈i.ids,(∃(n:Nat) (j':bM),uU t.1 is 0=some n/\n∈bE/\is[n]?=some j'/\∀b∈j'.bt,b∉k.tys)\/(uU t.1 is 0=none/\t.1∉is.flatMap fun j=>j.ws.flatMap Wr.eT))\/
  ((∀k bE,p≠.val k bE)/\∀t∈i.ids,t.1∉is.flatMap bM.touched)
theorem an8 {is:List bM}:∀{ps:List aV} {l:List bM},Ay is ps l=true->∀(j:Nat) (p:aV) (i:bM),ps[j]?=some p->l[j]?=some i->Qo is p i:=by
 intro ps
 induction ps with
 | nil=>intro l _ j p i hp; simp at hp
 | cons p ps ih=>
  intro l h j q i hq hi
  cases l with
  | nil=>cases p <;> simp [Ay] at h
  | cons x l=>
   have hhead:(j=0->q=p/\i=x):=by
    intro e
    subst e
    simp only [qO,au] at hq hi
    exact ⟨hq.symm,hi.symm⟩
   have ZW:Ay is ps l=true->j≠0->Qo is q i:=by
    intro h hj
    obtain ⟨j',rfl⟩:∃j',j=j'+1:=⟨j - 1,by omega⟩
    exact ih h j' q i (by simpa using hq) (by simpa using hi)
   have hother:(∀(k:K) (bE:List Nat),p≠.val k bE)->(x.ids.all (fun t=>!aa t.1 (is.flatMap bM.touched)) && Ay is ps l)=true->Qo is q i:=by
    intro hp hx
    rw [bg] at hx
    by_cases hj:j=0
    ·obtain ⟨e1,e2⟩:=hhead hj
     rw [e1,e2]
     refine .inr ⟨hp,fun t ht=>?_⟩
     have:=eH.1 hx.1 t ht
     simpa [gT] using this
    ·exact ZW hx.2 hj
   cases p with
   | val k bE=>
    simp only [Ay,bg] at h
    by_cases hj:j=0
    ·obtain ⟨rfl,rfl⟩:=hhead hj
     refine .inl ⟨k,bE,rfl,fun m hm=>?_,fun t ht=>?_⟩
     ·have:=eH.1 h.1.1 m hm
      cases Zv:is[m]? with
      | none=>rw [Zv] at this; simp at this
      | some q=>
       rw [Zv] at this
       refine ⟨q,rfl,fun e=>?_⟩
       simp [e] at this
     ·have:=eH.1 h.1.2 t ht
      cases hpo:uU t.1 is 0 with
      | none=>
       rw [hpo] at this
       refine .inr ⟨rfl, ?_⟩
       simpa [gT] using this
      | some n=>
       rw [hpo] at this
       simp only [bg] at this
       cases hni:is[n]? with
       | none=>rw [hni] at this; simp at this
       | some j'=>
        rw [hni] at this
        refine .inl ⟨n,j',rfl,b_.1 this.1,hni,fun b hb=>?_⟩
        have h2:=eH.1 this.2 b hb
        simpa [gT] using h2
    ·exact ZW h.2 hj
   | ro k=>exact hother (by simp) h
   | rw k ow wt ht=>exact hother (by simp) h
   | bR k ow wt=>exact hother (by simp) h
   | own k ow=>exact hother (by simp) h
   | fn f ks=>exact hother (by simp) h
   | into j q=>exact hother (by simp) h
theorem acX {Z1:St}:∀{ps:List aV} {is:List bM} {c:Cont (gq ps)} {ws:List Wr},(∀i∈is,∀r q,i.wb=some (r,q)->Z1.roots r=Z.roots r)->qL Z ps is c ws->qL Z1 ps is c ws:=by
 intro ps
 induction ps with
 | nil=>
  intro is c ws _ h
  cases is with
  | nil=>exact h
  | cons _ _=>exact h.elim
 | cons p ps ih=>
  intro is c ws hr h
  cases is with
  | nil=>cases p <;> exact h.elim
  | cons i is=>
   have hr':∀i∈is,∀r q,i.wb=some (r,q)->Z1.roots r=Z.roots r:=fun i hi=>hr i (by simp [hi])
   cases p with
   | rw kk ow xD ht0=>obtain ⟨r,p,wt,ht,R,z,ws',h1,h2,h3,h4,h5⟩:=h; exact ⟨r,p,wt,ht,R,z,ws',h1,by rw [hr i (by simp) r _ h1]; exact h2,h3,h4,ih hr' h5⟩
   | bR kk ow xD=>obtain ⟨r,p,wt,ht,R,z,ws',h1,h2,h3,h4,h5⟩:=h; exact ⟨r,p,wt,ht,R,z,ws',h1,by rw [hr i (by simp) r _ h1]; exact h2,h3,h4,ih hr' h5⟩
   | val _ _=>exact ih hr' h
   | ro _=>exact ih hr' h
   | own _ _=>exact ih hr' h
   | fn _ _=>exact ih hr' h
   | into _ _=>exact ih hr' h
theorem ag_ {as:List AV} {us:List Value} (h:iN cx Z J F w as us):jv cx Z J F w (Qw as) (Ka us):=by
 cases as with
 | nil=>cases us with
  | nil=>exact ⟨[],rfl,trivial⟩
  | cons _ _=>exact h.elim
 | cons x as=>cases us with
  | nil=>exact h.elim
  | cons u us=>
   cases as with
   | nil=>cases us with
    | nil=>exact h.1
    | cons _ _=>exact h.2.elim
   | cons y as=>cases us with
    | nil=>exact h.2.elim
    | cons u' us=>exact ⟨u :: u' :: us,rfl,h⟩
theorem ag9 {as:List AV} (h:∀v∈as,dQ Z v):nu Z (Qw as):=by
 cases as with
 | nil=>exact fun a ha=>by simp at ha
 | cons x as=>cases as with
  | nil=>exact h x (by simp)
  | cons y as=>exact h
theorem amx {A:Type} {f g:A->List Nat}:∀{l:List A},(∀x∈l,(g x).Sublist (f x))->(l.flatMap f).Nodup->(l.flatMap g).Nodup:=by
 intro l hs h
 refine h.sublist ?_
 clear h
 induction l with
 | nil=>simp
 | cons x l ih=>
  simp only [kQ]
  exact (hs x (by simp)).append (ih (fun y hy=>hs y (by simp [hy])))
theorem aje {A:Type} {f:A->List Nat}:∀{l:List A} {x:A},x∈l->(l.flatMap f).Nodup->(f x).Nodup:=by
 intro l
 induction l with
 | nil=>intro x hx; simp at hx
 | cons y l ih=>
  intro x hx h
  simp only [kQ] at h
  have n:=cK.1 h
  rcases bT.1 hx with h1 | h1
  ·subst h1; exact n.1
  ·exact ih h1 n.2.1
theorem Dn.mono {f:FuncId} {args:Array Value} {R R':Value->World->Prop} (h:Dn P f args w R) (hr:∀v w',R v w'->R' v w'):Dn P f args w R':=by
 rcases h with ⟨h1,h2⟩ | ⟨v,w',h1,h2⟩
 ·exact .inl ⟨h1,h2.mono fun e w' ⟨v,he,h⟩=>⟨v,he,hr _ _ h⟩⟩
 ·exact .inr ⟨v,w',h1,hr _ _ h2⟩
theorem ahx {n:Nat} {E:Entry} (hE:aD P n E) (H:Rel cx Z J F a w) {dst:Option Nat} {nP:List AV} {vs:List Value} (hl:iN cx Z J F w nP vs) (Cw:∀v∈nP,dQ Z v) (hdn:∀d,dst=some d->d<cx.nt) {ws:List Wr}
  (h:(QM n E dst nP fun ws=>(.ret ws:Prog (List Wr))).ends Z ws):Dn P E.f vs.toArray w fun v w'=>∃J' F',Rel cx (aC ws Z) J' F' (a.put dst v) w':=by
 unfold QM at h
 obtain ⟨c,is,ts,hG,h⟩:=ajo H hl Cw h
 obtain ⟨gw,gt,gtt,gl1,gl2⟩:=ac1 hG
 rcases bD h with ⟨hc,h⟩ | ⟨_,h⟩
 ·rw [bg,bg] at hc
  obtain ⟨⟨hap,ho⟩,hvo⟩:=hc
  have hnd:=Il.1 hap
  obtain ⟨out,hout,h⟩:=h
  obtain ⟨AB,hB,h⟩:=aha h
  have hvs:=an8 hvo
  have EW:(fu ts).flatMap Wr.eT=is.flatMap fun i=>i.ws.flatMap Wr.eT:=by rw [<-gw,List.flatMap_assoc]
  have ak7:((fu ts).flatMap Wr.eT).Nodup:=by
   rw [EW]
   exact amx (fun i _=>by unfold bM.touched; exact List.sublist_append_right _ _) hnd
  have ak8:∀r,r∈(fu ts).flatMap Wr.eT->r∈is.flatMap bM.touched:=by
   intro r hr
   rw [EW] at hr
   obtain ⟨i,hi,h1⟩:=jZ.1 hr
   exact jZ.2 ⟨i,hi,by unfold bM.touched; exact bB _ h1⟩
  have ZZ:∀(m:Nat) (i:bM) r q,is[m]?=some i->i.wb=some (r,q)->r∉(fu ts).flatMap Wr.eT:=by
   intro m i r q hi hw hr
   rw [EW] at hr
   obtain ⟨i',hi',h1⟩:=jZ.1 hr
   obtain ⟨m',hm',he⟩:=sZ.1 hi'
   have hi2:is[m']?=some i':=by rw [jd hm',he]
   have ht1:r∈i.touched:=by unfold bM.touched; rw [hw]; simp
   by_cases e:m=m'
   ·subst e
    rw [hi] at hi2
    simp only [au] at hi2
    subst hi2
    have:=aje hi' hnd
    unfold bM.touched at this
    rw [hw] at this
    simp only [kX,rR] at this
    exact (jg.1 this).1 h1
   ·exact flatMap_apart hnd hi hi2 e r ht1 (by unfold bM.touched; exact bB _ h1)
  have Ni:∀(j:Nat) (i:bM),is[j]?=some i->∀t∈i.ids,t.1∉(fu ts).flatMap Wr.eT:=by
   intro j i hi t ht hr
   have hj:j<E.ps.length:=by have:=(qm.1 hi).1; omega
   rcases hvs j E.ps[j] i (jd hj) hi with ⟨k,bE,_,_,h1⟩ | ⟨_,h1⟩
   ·rcases h1 t ht with ⟨n,j',h2,_,_,_⟩ | ⟨_,h2⟩
    ·obtain ⟨i',q,_,h3,h4⟩:=aa8 h2
     simp only [Nat.sub_zero] at h3
     exact ZZ n i' t.1 q h3 h4 hr
    ·exact h2 (by rw [<-EW]; exact hr)
   ·exact h1 t ht (ak8 _ hr)
  obtain ⟨aI,F1,hs,H1,hA1,sH,hnF1,aou,hS1,_,hV1,ali,akQ⟩:=takes ts H gt ak7 (fun t ht=>by
   obtain ⟨j,i,k,ow,h1,h2,h3⟩:=gtt t ht
   exact Ni j i h2 t h3)
  have ajN:∀i∈is,∀t∈i.ids,Same Z J (aC (fu ts) Z) aI t.1:=by
   intro i hi t ht
   obtain ⟨j,hj,he⟩:=sZ.1 hi
   exact hS1 _ (Ni j i (by rw [jd hj,he]) t ht)
  have Y3:∀i∈is,∀r q,i.wb=some (r,q)->Same Z J (aC (fu ts) Z) aI r:=by
   intro i hi r q hw
   obtain ⟨j,hj,he⟩:=sZ.1 hi
   exact hS1 _ (ZZ j i r q (by rw [jd hj,he]) hw)
  obtain ⟨gs,hJ,hfl⟩:=ag7 H1 hV1 hG hA1 ajN Y3
  obtain ⟨lv,li,lg,hat⟩:=hJ.at (i0:=0)
  have hA:Apart cx (aC (fu ts) Z) aI F1 w E.ps is gs:=by
   refine ⟨fun j j' g g' hg hg' hw hw'=>?_,by rw [hfl]; exact sH,fun j p i r n hp hi hn m i' q hm hq=>?_,fun j p hp m hm=>?_⟩
   ·have hget:∀{j:Nat} {g:GA},gs[j]?=some g->g.wb=true->∃i,is[j]?=some i/\i.wb≠none:=by
     intro j g hg hw
     have hj:j<E.ps.length:=by have:=(qm.1 hg).1; omega
     obtain ⟨cj,v,i,g',e1,e2,e3,e4,_⟩:=hat j E.ps[j] (jd hj)
     rw [hg] at e3
     simp only [au] at e3
     subst e3
     exact ⟨i,e2,(sw H1 e4).2.2.2.1 hw⟩
    obtain ⟨i,h1,h2⟩:=hget hg hw
    obtain ⟨i',h3,h4⟩:=hget hg' hw'
    exact aa0 ho h1 h3 h2 h4
   ·rcases hvs j p i hp hi with ⟨k,bE,h0,_,h1⟩ | ⟨_,h1⟩
    ·rcases h1 (r,n) hn with ⟨n',j',h2,h3,h4,h5⟩ | ⟨h2,_⟩
     ·obtain ⟨CK,q',_,h6,h7⟩:=aa8 h2
      simp only [Nat.sub_zero] at h6
      have e:=aa0 ho h6 hm (by rw [h7]; simp) (by rw [hq]; simp)
      subst e
      rw [hm] at h4
      simp only [au] at h4
      subst h4
      subst h0
      exact ⟨h3,k,bE,rfl,h5⟩
     ·exact absurd hq (amN h2 i' (qo hm) q)
    ·refine absurd ?_ (h1 (r,n) hn)
     exact jZ.2 ⟨i',qo hm,by unfold bM.touched; rw [hq]; simp⟩
   ·have hj:j<is.length:=by have:=(qm.1 hp).1; omega
    rcases hvs j p is[j] hp (jd hj) with ⟨k,bE,h0,h1,_⟩ | ⟨h0,_⟩
    ·subst h0
     obtain ⟨q,h2,h3⟩:=h1 m hm
     cases hw:q.wb with
     | none=>exact absurd hw h3
     | some u=>exact ⟨q,u,h2,hw⟩
    ·cases p with
     | val k bE=>exact absurd rfl (h0 k bE)
     | _=>simp [CY] at hm
  have hinit:=alA H1 hJ hA
  have akX:D9 (kS cx (aC (fu ts) Z) aI F1 w E.ps c is gs) E.ps:=amP H1 hJ
  refine (hE c out hout _ _ vs.toArray w rfl rfl (by simpa using gl1) akX hinit).mono ?_
  rintro v w' ⟨kC,iM,Ff,af,us,ay,Hf,hv,hRL,hfn,qC,hOL⟩
  have hB1:qL (aC (fu ts) Z) E.ps is (Cont.snd (eO E.rs) (gq E.ps) out) AB:=acX (fun i hi r q hw=>(Y3 i hi r q hw).root) hB
  obtain ⟨ku,H2,hBS,hsl2,akR,alj,E9,akY⟩:=ahc H1 hJ ho Hf hB1 hOL qC hfn
  have akS:∀l tags,y_ Z AB l tags->gB (aC AB (aC (fu ts) Z)) tags:=by
   intro l tags hN t ht
   rcases hN.2 t ht with h | ⟨R,hf,hn⟩ | ⟨R,hr,hn⟩
   ·exact .inl h
   ·rcases E9 with rfl | ⟨r,R',rfl⟩
    ·simp at hf
    ·have hm:=List.mem_of_find?_eq_some hf
     simp only [gI,Wr.r.injEq,au] at hm
     obtain ⟨h1,h2⟩:=hm
     refine .inr ⟨R, ?_, .inr (by rw [hn]; exact bN _)⟩
     rw [h1,h2]
     exact fE ..
   ·exact alj t (ali t (.inr ⟨R,hr, .inr (by rw [hn]; exact bN _)⟩))
  cases dst with
  | none=>
   simp only at h
   rw [bz h,oD,gw]
   exact ⟨ku,_,H2⟩
  | some d=>
   simp only at h
   obtain ⟨as,ws3,hW,h⟩:=am7 h
   rw [bz h,oD,oD,oD,gw]
   obtain ⟨α3,k1,k2,k3,k4,_⟩:=agU H1 hJ Hf H2 hBS hRL hW akS (fun cj _ hn=>akR _ (akQ _ hn)) qC (fun _ j i r q wt ht R b n cp m g1 g2 g0 g3 g4 g5=>by
    obtain ⟨Rf,R',R0,p1,p2,p3,p4,p5,p6,p7,p8⟩:=akY j i r q wt ht g0 g1 g2
    have eR:R=R':=by
     rw [p4] at g3
     simp [Wr.loc,Loc.beq] at g3
     exact g3.symm
    subst eR
    have hroot:(aC AB (aC (fu ts) Z)).roots r=some R:=by
     rw [p4]; exact fE ..
    refine ⟨⟨b,cp,rfl,fun R2 hR2 hv2 _ dd hdd=>?_⟩,R,hroot, .inr (bN _)⟩
    rw [hroot] at hR2
    simp only [au] at hR2
    subst hR2
    obtain ⟨wh,pg⟩:=p8 hv2
    obtain ⟨hk,jU⟩:=g5 Rf ⟨p1,p2.1⟩ p3
    have hh:iM.hdr (ah j)=[.slice b n cp]:=by
     unfold VC at jU
     split at jU
     ·simp at jU
     ·exact jU.1
    exact ⟨p6,p7,n,wh,by rw [<-hh]; exact pg,g4⟩)
   refine ⟨α3,[], ?_⟩
   rw [hv]
   exact k1.put (hdn d rfl) (ag9 k3) (ag_ k2)
 ·exact h.elim
end
end
section
open Go
variable [Fr]
section
variable {P:Program} {T:bH} {cx:Cx} {Z:St} {J:aH} {F:List Nat} {a:Act} {w:World} {o:Oper} {ws:List Wr} {hi:Hint} {n:Nat}
def OI (P:Program) (cx:Cx) (o:Oper) (a:Act) (w:World) (Z':St):Prop:=
 ∀(K:Act->World->Prop) (Q:Exit->Act->World->Prop),(∀J' F' a' w',Rel cx Z' J' F' a' w'->K a' w')->o.wp P a w K Q
theorem dG.toW {Z':St} (h:dG P cx o a w Z'):OI P cx o a w Z':=fun K Q hK=>h.wp hK
def xG (P:Program) (n:Nat) (hi:Hint):Prop:=∀q∈hi.calls,aD P n q.2.2
theorem ai8 {f d:Nat}:∀{l:List (Nat×Option Nat×Entry)} {E:Entry},zS f d l=some E->∃q∈l,q.2.2=E:=by
 intro l
 induction l with
 | nil=>intro E h; simp [zS] at h
 | cons q l ih=>
  intro E h
  obtain ⟨g,od,E'⟩:=q
  cases od with
  | none=>
   unfold zS at h
   cases hb:Nat.beq f g with
   | true=>rw [hb] at h; simp only [gJ,au] at h; exact ⟨_,jE,h⟩
   | false=>
    rw [hb] at h
    obtain ⟨q,h1,h2⟩:=ih h
    exact ⟨q,jD _ h1,h2⟩
  | some e=>
   unfold zS at h
   cases hb:(Nat.beq f g && Nat.beq d e) with
   | true=>rw [hb] at h; simp only [gJ,au] at h; exact ⟨_,jE,h⟩
   | false=>
    rw [hb] at h
    obtain ⟨q,h1,h2⟩:=ih h
    exact ⟨q,jD _ h1,h2⟩
theorem al3 {l m:List AV} {vs us:List Value} (h1:iN cx Z J F w l vs) (h2:iN cx Z J F w m us):iN cx Z J F w (l++m) (vs++us):=by
 induction l generalizing vs with
 | nil=>cases vs with
  | nil=>exact h2
  | cons _ _=>exact h1.elim
 | cons x l ih=>cases vs with
  | nil=>exact h1.elim
  | cons v vs=>exact ⟨h1.1,ih h1.2⟩
theorem X5:∀{cs:List (TypeId×Dat×List Tag)} {vs:List Value},nA cx Z J F w cs vs->iN cx Z J F w (cs.map fun q=>.fQ q.1 q.2.1.1 q.2.1.2 q.2.2) vs
 | [],[],_=>trivial
 | _ :: _,_ :: _,h=>⟨h.1,X5 h.2⟩
 | [],_ :: _,h=>h.elim
 | _ :: _,[],h=>h.elim
theorem XZ (hC:xG P n hi) (H:Rel cx Z J F a w) {c:Call} (ho:o.op=.call c) (hdn:∀d,o.dst=some d->d<cx.nt) (h:(MN hi n o.dst c fun ws=>(.ret ws:Prog (List Wr))).ends Z ws):OI P cx o a w (aC ws Z):=by
 intro K Q hK
 unfold MN at h
 split at h
 ·rename_i f aj8
  obtain ⟨fv,h1,h2,h⟩:=jT H h
  cases fv with
  | fn f' caps=>
   simp only at h
   obtain ⟨us,e1,e2⟩:=h1
   obtain ⟨l,h3,h4,h⟩:=xe H h
   cases hf:zS f' (o.dst.getD 0) hi.calls with
   | none=>rw [hf] at h; exact h.elim
   | some E=>
    rw [hf] at h
    simp only at h
    rcases bD h with ⟨hb,h9⟩ | ⟨_,h⟩
    ·have hEf:E.f=f':=bC hb
     clear h
     subst hEf
     obtain ⟨q,hq,rfl⟩:=ai8 hf
     have hcall:=ahx (hC q hq) H (al3 h3 (X5 e2)) (fun v hv=>by
      rcases bW.1 hv with h | h
      ·exact h4 v h
      ·obtain ⟨cc,hcc,rfl⟩:=fI.1 h
       exact h2 cc hcc) hdn h9
     have hargs:(c.args.toList.map a.eval++us).toArray=c.args.map a.eval++us.toArray:=by
      apply u6
      simp
     rw [hargs] at hcall
     have hrun:(execOp a.eval o).run P w=(callFunc q.2.2.f (c.args.map a.eval++us.toArray)).run P w:=by
      simp only [execOp,ho,resolve,aj8,e1,Deferred.ofValue,dO,fA,fU,invoke,Array.empty_append]
     unfold Oper.wp
     rw [hrun]
     rcases hcall with ⟨g1,g2⟩ | ⟨v,w',g1,J',F',g2⟩
     ·rw [g1]
      refine g2.mono fun e w' he=>?_
      obtain ⟨v,rfl,J',F',hR⟩:=he
      exact hK _ _ _ _ hR
     ·rw [g1]
      exact hK _ _ _ _ g2
    ·exact h.elim
  | _=>exact h.elim
 ·exact h.elim
theorem acp (hT:fJ P T) (hSt:wT P T) (hC:xG P n hi) (H:Rel cx Z J F a w) (hnt:hi.nt=cx.nt) (h:(Am T hi n o fun ws=>(.ret ws:Prog (List Wr))).ends Z ws):OI P cx o a w (aC ws Z):=by
 unfold Am at h
 cases hd:o.dst with
 | none=>
  rw [hd] at h
  simp only at h
  unfold aco at h
  split at h
  ·rename_i t x v ho
   exact (aiz hT H hd ho h).toW
  ·rename_i c ho
   split at h
   ·rename_i hcb
    obtain ⟨vs,h1,h2,h⟩:=xe H h
    split at h
    ·split at h
     ·rename_i ht0
      obtain ⟨v,w',J',r1,r2⟩:=ah8 hT H ho hcb h1 ht0 h
      refine (show dG P cx o a w (aC ws Z) from ⟨v,w',J',[], .inl r1, ?_⟩).toW
      rw [hd]
      exact r2
     ·exact h.elim
    ·exact h.elim
   ·exact XZ hC H ho (by rw [hd]; simp) (by rw [hd]; exact h)
  ·exact h.elim
 | some d=>
  rw [hd] at h
  simp only at h
  rcases bD h with ⟨hb,h⟩ | ⟨_,h⟩
  ·have hdn:d<cx.nt:=by
    rw [<-hnt]
    unfold Nat.blt at hb
    exact Mk hb
   rcases bD h with ⟨_,h⟩ | ⟨_,h⟩
   ·exact (aiy hT H hd hdn h).toW
   rcases bD h with ⟨_,h⟩ | ⟨_,h⟩
   ·exact (aiw hT H hd hdn h).toW
   unfold acn at h
   cases ho:o.op with
   | move x=>rw [ho] at h; exact (aio H hd hdn ho h).toW
   | assign x=>rw [ho] at h; exact (ah2 (L:=NJ hi d) H hd hdn ho h).toW
   | pick c x y=>rw [ho] at h; exact (ais H hd hdn ho h).toW
   | alloc t=>rw [ho] at h; exact (ahY hT H hd hdn ho h).toW
   | box t x=>rw [ho] at h; exact (ah5 H hd hdn ho h).toW
   | build t ps=>rw [ho] at h; exact (Yn hT H hd hdn h ho).toW
   | buildSlice t l ps=>rw [ho] at h; exact (ah6 (L:=NJ hi d) hT H hd hdn h ho).toW
   | load t x=>rw [ho] at h; exact (aik hT H hd hdn ho h).toW
   | nilCheck x=>rw [ho] at h; exact (aip H hd hdn ho h).toW
   | binOp op t x y t2=>rw [ho] at h; exact (ah3 hT hSt H hd hdn ho h).toW
   | unOp op t x=>rw [ho] at h; exact (aiB H hd hdn ho h).toW
   | convert s t x=>rw [ho] at h; exact (ah_ hT H hd hdn ho h).toW
   | field t x n=>rw [ho] at h; exact (aid hT H hd hdn ho h).toW
   | fieldAddr t x n=>rw [ho] at h; exact (aie hT H hd hdn ho h).toW
   | indexAddr t x y=>rw [ho] at h; exact (aih hT H hd hdn ho h).toW
   | index t x y=>rw [ho] at h; exact (aif hT H hd hdn ho h).toW
   | extract x i=>rw [ho] at h; exact (aic H hd hdn ho h).toW
   | makeSlice t x y=>rw [ho] at h; exact (ain hT H hd hdn h ho).toW
   | makeFunc f first caps=>
    rw [ho] at h
    cases f with
    | func f=>exact (aim H hd hdn ho h).toW
    | _=>exact h.elim
   | slice t x lo hi2 mx=>rw [ho] at h; exact (aiv hT H hd hdn h ho).toW
   | call c=>
    rw [ho] at h
    simp only at h
    split at h
    ·rename_i hcb; exact (aii hT H hd hdn ho hcb h).toW
    ·rename_i hcb; exact (ah1 hT H hd hdn ho hcb h).toW
    ·rename_i hcb; exact (Yo (mx:=false) H hd hdn ho hcb h).toW
    ·rename_i hcb; exact (Yo (mx:=true) H hd hdn ho hcb h).toW
    ·exact XZ hC H ho (by rw [hd]; intro d2 e; simp only [au] at e; subst e; exact hdn) (by rw [hd]; exact h)
    ·exact h.elim
   | _=>rw [ho] at h; exact h.elim
  ·exact h.elim
end
end
section
open Go
variable [Fr]
def Prog.nQ {J:Type}:Prog J->St->List Loc->J->List Loc->Prop
 | .ret a,_,l,x,l'=>x=a/\l'=l
 | .fail,_,_,_,_=>False
 | .slot n k,Z,l,x,l'=>(k (Z.slots n)).nQ Z (.s n :: l) x l'
 | .root r k,Z,l,x,l'=>(k (Z.roots r)).nQ Z (.r r :: l) x l'
 | .eY c _ k,Z,l,x,l'=>c/\k.nQ Z l x l'
 | .br c t e,Z,l,x,l'=>(c=true/\t.nQ Z l x l')\/(c=false/\e.nQ Z l x l')
 | .opt _ o k,Z,l,x,l'=>∃b,o=some b/\(k b).nQ Z l x l'
theorem abX {J R:Type} (p:Prog J) {Z:St} {l:List Loc} {K:J->List Loc->Option R} {r:R} (h:p.uY Z l K=some r):∃x l',p.nQ Z l x l'/\K x l'=some r:=by
 induction p generalizing l with
 | ret a=>exact ⟨a,l,⟨rfl,rfl⟩,h⟩
 | fail=>simp [Prog.uY] at h
 | slot n k ih=>exact ih _ h
 | root n k ih=>exact ih _ h
 | eY c d k ih=>
  simp only [Prog.uY] at h
  split at h
  ·rename_i hc
   obtain ⟨x,l',h1,h2⟩:=ih h
   exact ⟨x,l',⟨hc,h1⟩,h2⟩
  ·simp at h
 | br c t e ru rq=>
  simp only [Prog.uY] at h
  cases c with
  | true=>
   simp only [a_] at h
   obtain ⟨x,l',h1,h2⟩:=ru h
   exact ⟨x,l', .inl ⟨rfl,h1⟩,h2⟩
  | false=>
   simp only [bJ,bF] at h
   obtain ⟨x,l',h1,h2⟩:=rq h
   exact ⟨x,l', .inr ⟨rfl,h1⟩,h2⟩
 | opt β o k ih=>
  simp only [Prog.uY] at h
  cases o with
  | none=>simp at h
  | some b=>
   simp only [aL] at h
   obtain ⟨x,l',h1,h2⟩:=ih b h
   exact ⟨x,l',⟨b,rfl,h1⟩,h2⟩
theorem Yv {J:Type} (p:Prog J) {Z:St} {l l':List Loc} {x:J} (h:p.nQ Z l x l'):p.ends Z x:=by
 induction p generalizing l with
 | ret a=>exact h.1
 | fail=>exact h.elim
 | slot n k ih=>exact ih _ h
 | root n k ih=>exact ih _ h
 | eY c d k ih=>exact ⟨h.1,ih h.2⟩
 | br c t e ru rq=>exact h.imp (fun h=>⟨h.1,ru h.2⟩) (fun h=>⟨h.1,rq h.2⟩)
 | opt β o k ih=>obtain ⟨b,h1,h2⟩:=h; exact ⟨b,h1,ih b h2⟩
theorem Yw {J:Type} (p:Prog J) {Z:St} {x:J} (h:p.ends Z x):∀l,∃l',p.nQ Z l x l':=by
 induction p with
 | ret a=>exact fun l=>⟨l,h,rfl⟩
 | fail=>exact h.elim
 | slot n k ih=>exact fun l=>ih _ h _
 | root n k ih=>exact fun l=>ih _ h _
 | eY c d k ih=>exact fun l=>(ih h.2 l).imp fun _ h'=>⟨h.1,h'⟩
 | br c t e ru rq=>
  intro l
  rcases h with h | h
  ·exact (ru h.2 l).imp fun _ h'=>.inl ⟨h.1,h'⟩
  ·exact (rq h.2 l).imp fun _ h'=>.inr ⟨h.1,h'⟩
 | opt β o k ih=>obtain ⟨b,h1,h2⟩:=h; exact fun l=>(ih b h2 l).imp fun _ h'=>⟨b,h1,h'⟩
theorem Q8 {J:Type} (p:Prog J) {Z:St} {l l':List Loc} {x:J} (h:p.nQ Z l x l'):∀y∈l,y∈l':=by
 induction p generalizing l with
 | ret a=>rw [h.2]; exact fun _ h=>h
 | fail=>exact h.elim
 | slot n k ih=>exact fun y hy=>ih _ h y (by simp [hy])
 | root n k ih=>exact fun y hy=>ih _ h y (by simp [hy])
 | eY c d k ih=>exact ih h.2
 | br c t e ru rq=>rcases h with h | h; exact ru h.2; exact rq h.2
 | opt β o k ih=>obtain ⟨b,h1,h2⟩:=h; exact ih b h2
def agree (Z τ:St):Loc->Prop
 | .s n=>τ.slots n=Z.slots n
 | .r n=>τ.roots n=Z.roots n
theorem Yu {J:Type} (p:Prog J) {Z τ:St} {l l':List Loc} {x:J} (h:p.nQ Z l x l') (ha:∀y∈l',agree Z τ y):p.nQ τ l x l':=by
 induction p generalizing l with
 | ret a=>exact h
 | fail=>exact h.elim
 | slot n k ih=>
  have h':(k (Z.slots n)).nQ Z (.s n :: l) x l':=h
  have:=ha (.s n) (Q8 _ h' _ jE)
  show (k (τ.slots n)).nQ τ _ _ _
  rw [show τ.slots n=Z.slots n from this]
  exact ih _ h
 | root n k ih=>
  have h':(k (Z.roots n)).nQ Z (.r n :: l) x l':=h
  have:=ha (.r n) (Q8 _ h' _ jE)
  show (k (τ.roots n)).nQ τ _ _ _
  rw [show τ.roots n=Z.roots n from this]
  exact ih _ h
 | eY c d k ih=>exact ⟨h.1,ih h.2⟩
 | br c t e ru rq=>exact h.imp (fun h=>⟨h.1,ru h.2⟩) (fun h=>⟨h.1,rq h.2⟩)
 | opt β o k ih=>obtain ⟨b,h1,h2⟩:=h; exact ⟨b,h1,ih b h2⟩
theorem aax {a b:Loc}:a.beq b=true↔a=b:=by
 cases a <;> cases b <;> simp [Loc.beq]
theorem aaG {x:Loc} {l:List Loc}:Fy x l=true↔x∈l:=by
 induction l with
 | nil=>simp [Fy]
 | cons y l ih=>
  simp only [Fy,bT]
  cases h:x.beq y with
  | true=>simp [aax.1 h]
  | false=>
   have:x≠y:=fun e=>by rw [e] at h; rw [(aax (a:=y) (b:=y)).2 rfl] at h; simp at h
   simp [this,ih]
theorem XD {a b:List Loc}:ME a b=true↔∀x∈a,x∉b:=by
 unfold ME
 rw [eH]
 refine ⟨fun h x hx hb=>?_,fun h x hx=>?_⟩
 ·have:=h x hx
  rw [aaG.2 hb] at this
  simp at this
 ·cases hm:Fy x b with
  | false=>rfl
  | true=>exact absurd (aaG.1 hm) (h x hx)
theorem Qv (wr:Wr) (Z:St) {y:Loc} (h:y≠wr.loc):agree Z (wr.app Z) y:=by
 cases wr with
 | s n a=>
  cases y with
  | s m=>exact upd_ne _ _ (fun e=>h (by rw [e]; rfl))
  | r m=>rfl
 | r n o=>
  cases o with
  | none=>
   cases y with
   | s m=>rfl
   | r m=>exact upd_ne _ _ (fun e=>h (by rw [e]; rfl))
  | some R=>
   cases y with
   | s m=>rfl
   | r m=>exact upd_ne _ _ (fun e=>h (by rw [e]; rfl))
theorem agX {Z τ ρ:St} {y:Loc} (h1:agree Z τ y) (h2:agree τ ρ y):agree Z ρ y:=by
 cases y with
 | s n=>exact h2.trans h1
 | r n=>exact h2.trans h1
theorem Ej:∀(ws:List Wr) (Z:St) {y:Loc},y∉ws.map Wr.loc->agree Z (aC ws Z) y
 | [],Z,y,_=>by cases y <;> rfl
 | w :: ws,Z,y,h=>by
  simp only [lD,bT,not_or] at h
  exact agX (Qv w Z h.1) (Ej ws _ h.2)
theorem St.ext' {Z τ:St} (h:∀y,agree Z τ y):τ=Z:=by
 obtain ⟨s,r⟩:=Z
 obtain ⟨s',r'⟩:=τ
 have h1:s'=s:=funext fun n=>h (.s n)
 have h2:r'=r:=funext fun n=>h (.r n)
 subst h1
 subst h2
 rfl
theorem XG (w:Wr) (Z τ:St):agree (w.app Z) (w.app τ) w.loc:=by
 cases w with
 | s n a=>show upd τ.slots n a n=upd Z.slots n a n; rw [upd_same,upd_same]
 | r n o=>cases o <;> (show upd _ n _ n=upd _ n _ n; rw [upd_same,upd_same])
theorem ag0 (w:Wr) {Z τ:St} {y:Loc} (h:agree Z τ y):agree (w.app Z) (w.app τ) y:=by
 by_cases e:y=w.loc
 ·subst e; exact XG w Z τ
 ·have h1:=Qv w Z e
  have h2:=Qv w τ e
  cases y with
  | s n=>exact h2.trans (h.trans h1.symm)
  | r n=>exact h2.trans (h.trans h1.symm)
theorem Qs:∀(ws:List Wr) {Z τ:St} {y:Loc},agree Z τ y->agree (aC ws Z) (aC ws τ) y
 | [],_,_,_,h=>h
 | w :: ws,_,_,_,h=>Qs ws (ag0 w h)
theorem XF:∀(ws:List Wr) {Z τ:St} {y:Loc},y∈ws.map Wr.loc->agree (aC ws Z) (aC ws τ) y
 | [],_,_,_,h=>by simp at h
 | w :: ws,Z,τ,y,h=>by
  simp only [lD,bT] at h
  by_cases e:y∈ws.map Wr.loc
  ·exact XF ws e
  ·have e2:y=w.loc:=h.resolve_right e
   subst e2
   exact Qs ws (XG w Z τ)
theorem agZ {u v:List Wr} (h:∀x∈u.map Wr.loc,x∉v.map Wr.loc) (Z:St):aC u (aC v Z)=aC v (aC u Z):=by
 refine St.ext' fun y=>?_
 by_cases hu:y∈u.map Wr.loc
 ·have h1:agree (aC u Z) (aC v (aC u Z)) y:=Ej v _ (h y hu)
  have h2:agree (aC u Z) (aC u (aC v Z)) y:=XF u hu
  cases y with
  | s n=>exact h2.trans h1.symm
  | r n=>exact h2.trans h1.symm
 ·have h1:agree (aC v Z) (aC u (aC v Z)) y:=Ej u _ hu
  have h2:agree (aC v Z) (aC v (aC u Z)) y:=by
   refine Qs v ?_
   have:=Ej u Z hu
   cases y with
   | s n=>exact this
   | r n=>exact this
  cases y with
  | s n=>exact h1.trans h2.symm
  | r n=>exact h1.trans h2.symm
section
variable {P:Program} {T:bH} {hi:Hint} {n:Nat} {ops:Array Oper}
inductive xS (T:bH) (hi:Hint) (n:Nat) (ops:Array Oper) (o:Oper) (Z:St):List Wr->List Loc->Prop
 | plain (ws:List Wr) (rd:List Loc) (hg:guardOf ops o=none) (h:(Am T hi n o fun ws=>(.ret ws:Prog (List Wr))).nQ Z [] ws rd):xS T hi n ops o Z ws rd
 | done (s:Nat) (want:Bool) (tg:List Tag) (ws:List Wr) (rd:List Loc) (hg:guardOf ops o=some (some s,want)) (hs:Z.slots s=.one (.val .bool want tg)) (h:(Am T hi n o fun ws=>(.ret ws:Prog (List Wr))).nQ Z [.s s] ws rd):xS T hi n ops o Z ws rd
 | skip (s:Nat) (want:Bool) (hg:guardOf ops o=some (some s,want)) (hs:(∃tg,Z.slots s=.one (.val .bool (!want) tg))\/Z.slots s=.mH []) (hd:BZ hi o=true):xS T hi n ops o Z (Al o) [.s s]
theorem xS.agree {o:Oper} {Z τ:St} {ws:List Wr} {rd:List Loc} (h:xS T hi n ops o Z ws rd) (ha:∀y∈rd,Ow.agree Z τ y):xS T hi n ops o τ ws rd:=by
 cases h with
 | plain _ _ hg h=>exact .plain ws rd hg (Yu _ h ha)
 | done s want tg _ _ hg hs h=>
  have:=ha (.s s) (Q8 _ h _ jE)
  exact .done s want tg ws rd hg (by rw [show τ.slots s=Z.slots s from this]; exact hs) (Yu _ h ha)
 | skip s want hg hs hd=>
  have:=ha (.s s) (by simp)
  exact .skip s want hg (by rw [show τ.slots s=Z.slots s from this]; exact hs) hd
theorem abQ {Z:St} {s:Nat} {b:Bool} {tg:List Tag} (h:Z.slots s=.one (.val .bool b tg)):refine Z s b tg=Z:=by
 unfold refine
 have:upd Z.slots s (.one (.val .bool b tg))=Z.slots:=by
  funext m
  by_cases e:m=s
  ·subst e; rw [upd_same,h]
  ·rw [upd_ne _ _ e]
 rw [this]
theorem YR {R:Type} {o:Oper} {Z:St} {go skip:List Loc->St->Option R} {r:R} (h:guarded Z ops o go skip=some r) :
  (guardOf ops o=none/\go [] Z=some r)\/(∃s want tg,guardOf ops o=some (some s,want)/\Z.slots s=.one (.val .bool want tg)/\go [.s s] Z=some r)\/
  (∃s want,guardOf ops o=some (some s,want)/\((∃tg,Z.slots s=.one (.val .bool (!want) tg))\/Z.slots s=.mH [])/\skip [.s s] Z=some r):=by
 unfold guarded at h
 cases hg:guardOf ops o with
 | none=>rw [hg] at h; exact .inl ⟨rfl,h⟩
 | some q=>
  obtain ⟨os,want⟩:=q
  rw [hg] at h
  cases os with
  | none=>simp at h
  | some s=>
   simp only at h
   refine .inr ?_
   split at h
   ·rename_i b tg hs
    cases b with
    | true=>
     simp only [a_] at h
     rw [abQ hs] at h
     cases want with
     | true=>exact .inl ⟨s,true,tg,rfl,hs,h⟩
     | false=>exact .inr ⟨s,false,rfl, .inl ⟨tg,hs⟩,h⟩
    | false=>
     simp only [bJ,bF] at h
     rw [abQ hs] at h
     cases want with
     | true=>exact .inr ⟨s,true,rfl, .inl ⟨tg,hs⟩,h⟩
     | false=>exact .inl ⟨s,false,tg,rfl,hs,h⟩
   ·rename_i hs
    exact .inr ⟨s,want,rfl, .inr hs,h⟩
   ·simp at h
variable {cx:Cx} {Z:St} {J:aH} {F:List Nat} {a:Act} {w:World}
theorem Rel.skipped (H:Rel cx Z J F a w) {o:Oper} (hnt:hi.nt=cx.nt) (hd:BZ hi o=true):Rel cx (aC (Al o) Z) J F (a.put o.dst undef) w:=by
 unfold Al BZ at *
 cases ho:o.dst with
 | none=>exact H
 | some d=>
  rw [ho] at hd
  have hdn:d<cx.nt:=by
   rw [<-hnt]
   have:Nat.blt d hi.nt=true:=hd
   unfold Nat.blt at this
   exact Mk this
  exact H.put hdn (fun a ha=>by simp at ha) ⟨[],rfl,trivial⟩
theorem NS (hT:fJ P T) (hSt:wT P T) (hC:xG P n hi) (H:Rel cx Z J F a w) (hnt:hi.nt=cx.nt) {i:Nat} {o:Oper} (ho:ops[i]?=some o) {ws:List Wr} {rd:List Loc} (h:xS T hi n ops o Z ws rd)
  {K:Act->World->Prop} {Q:Exit->Act->World->Prop} (hK:∀J' F' a' w',Rel cx (aC ws Z) J' F' a' w'->K a' w'):wpOp P ops Q i K a w:=by
 unfold wpOp
 simp only [ho]
 have Z5:∀{s:Nat} {want:Bool},guardOf ops o=some (some s,want)->∃g,o.guard=some (g,want)/\(ops[g]?).bind (·.dst)=some s:=by
  intro s want hg
  unfold guardOf at hg
  cases hgd:o.guard with
  | none=>rw [hgd] at hg; simp at hg
  | some q=>
   obtain ⟨g,wt⟩:=q
   rw [hgd] at hg
   simp only [au,bS] at hg
   exact ⟨g,by rw [hg.2],hg.1⟩
 have ZX:∀{s:Nat} {v:Value},a.tmps.getD s undef=v->(∃b,v=.bool b)->a.tmps[s]?=some v:=by
  rintro s v h ⟨b,rfl⟩
  rw [Gc] at h
  cases hs:a.tmps[s]? with
  | none=>rw [hs] at h; simp [undef] at h
  | some u=>rw [hs] at h; simpa using h
 cases h with
 | plain _ _ hg h=>
  have hw:Region.wanted o (yielded ops a.tmps)=true:=by
   unfold Region.wanted
   unfold guardOf at hg
   cases hgd:o.guard with
   | none=>rfl
   | some q=>rw [hgd] at hg; simp at hg
  rw [aj hw]
  exact .inl (acp hT hSt hC H hnt (Yv _ h) K Q hK)
 | done s want tg _ _ hg hs h=>
  have hw:Region.wanted o (yielded ops a.tmps)=true:=by
   obtain ⟨g,h1,h2⟩:=Z5 hg
   unfold Region.wanted
   rw [h1]
   have hb:=H.slots s
   rw [hs] at hb
   have:=F7 (show aW cx Z J F w (.val .bool want tg) _ from hb)
   have h3:=ZX this ⟨_,rfl⟩
   show (yielded ops a.tmps g == some want)=true
   unfold yielded
   rw [h2]
   simp only [aL,h3]
   simp
  rw [aj hw]
  exact .inl (acp hT hSt hC H hnt (Yv _ h) K Q hK)
 | skip s want hg hs hd=>
  have hw:Region.wanted o (yielded ops a.tmps)=false:=by
   obtain ⟨g,h1,h2⟩:=Z5 hg
   unfold Region.wanted
   rw [h1]
   have hb:=H.slots s
   show (yielded ops a.tmps g == some want)=false
   unfold yielded
   rw [h2]
   rcases hs with ⟨tg,hs⟩ | hs
   ·rw [hs] at hb
    have:=F7 (show aW cx Z J F w (.val .bool (!want) tg) _ from hb)
    have h3:=ZX this ⟨_,rfl⟩
    simp only [aL,h3]
    cases want <;> rfl
   ·rw [hs] at hb
    obtain ⟨vs,h3,h4⟩:=hb
    cases vs with
    | cons _ _=>exact h4.elim
    | nil=>
     rw [Gc] at h3
     simp only [aL]
     cases hs2:a.tmps[s]? with
     | none=>rfl
     | some u=>
      rw [hs2] at h3
      simp only [tq] at h3
      subst h3
      rfl
  rw [aA (by rw [hw]; simp)]
  exact hK _ _ _ _ (H.skipped hnt hd)
theorem ai0 (hT:fJ P T) (hSt:wT P T) (hC:xG P n hi) (hnt:hi.nt=cx.nt) {R:Type} {K:St->Option R} {r:R} {Q:Exit->Act->World->Prop} (hQ:∀Z' J' F' a' w',K Z'=some r->Rel cx Z' J' F' a' w'->Q .normal a' w') :
  ∀(l:List Oper) (i:Nat) {Z:St} {J:aH} {F:List Nat} {a:Act} {w:World},ops.toList.drop i=l->IA T hi n ops l Z K=some r->Rel cx Z J F a w->wpOps P ops Q (List.range' i l.length) a w:=by
 intro l
 induction l with
 | nil=>intro i Z J F a w _ h H; exact hQ _ _ _ _ _ h H
 | cons o l ih=>
  intro i Z J F a w hl h H
  have hoi:ops[i]?=some o:=by
   have:=congrArg (fun l=>l[0]?) hl
   simpa using this
  have hl':ops.toList.drop (i+1)=l:=by
   have:=congrArg List.tail hl
   simpa using this
  simp only [gY,List.range'_succ]
  rw [wpOps_cons]
  unfold IA at h
  rcases YR h with ⟨hg,h⟩ | ⟨s,want,tg,hg,hs,h⟩ | ⟨s,want,hg,hs,h⟩
  ·obtain ⟨ws,h1,h2⟩:=Dc _ h
   obtain ⟨rd,h3⟩:∃rd,(Am T hi n o fun ws=>(.ret ws:Prog (List Wr))).nQ Z [] ws rd:=Yw _ h1 []
   exact NS hT hSt hC H hnt hoi (.plain ws rd hg h3) (fun J' F' a' w' H'=>ih (i+1) hl' h2 H')
  ·obtain ⟨ws,h1,h2⟩:=Dc _ h
   obtain ⟨rd,h3⟩:∃rd,(Am T hi n o fun ws=>(.ret ws:Prog (List Wr))).nQ Z [.s s] ws rd:=Yw _ h1 _
   exact NS hT hSt hC H hnt hoi (.done s want tg ws rd hg hs h3) (fun J' F' a' w' H'=>ih (i+1) hl' h2 H')
  ·cases hd:BZ hi o with
   | false=>rw [hd] at h; simp at h
   | true=>
    rw [hd] at h
    exact NS hT hSt hC H hnt hoi (.skip s want hg hs hd) (fun J' F' a' w' H'=>ih (i+1) hl' h H')
end
end
section
open Go
variable [Fr]
section
variable {P:Program} {T:bH} {hi:Hint} {n:Nat} {ops:Array Oper} {cx:Cx} {Z:St} {J:aH} {F:List Nat} {a:Act} {w:World}
structure Ev where
 i:Nat
 ws:List Wr
 rd:List Loc
def Ev.wr (e:Ev):List Loc:=e.ws.map Wr.loc
def Dm (ops:Array Oper) (j i:Nat):Prop:=leads ops 7 j i=true
theorem aap {ops:Array Oper}:∀{f:Nat} {j i:Nat},leads ops f j i=true->leads ops (f+1) j i=true
 | 0,_,_,h=>by simp [leads] at h
 | f+1,j,i,h=>by
  unfold leads at h ⊢
  simp only [nZ,List.any_eq_true,bg] at h ⊢
  rcases h with h | ⟨b,hb,h1,h2⟩
  ·exact .inl h
  ·exact .inr ⟨b,hb,h1,aap h2⟩
theorem aaq {ops:Array Oper} {L:Nat->Prop} (hcl:∀b,L b->∀c∈binders ops b,L c):∀{f:Nat} {j i:Nat},leads ops f j i=true->(∀c∈binders ops i,L c)->L j
 | 0,_,_,h,_=>by simp [leads] at h
 | f+1,j,i,h,hi=>by
  unfold leads at h
  simp only [nZ,List.any_eq_true,bg] at h
  rcases h with h | ⟨b,hb,_,h2⟩
  ·exact hi j (b_.1 h)
  ·exact aaq hcl h2 (hcl b (hi b hb))
def Hr (e e':Ev):Prop:=(∀x∈e.wr,x∉e'.rd++e'.wr)/\∀x∈e.rd,x∉e'.wr
def yN (T:bH) (hi:Hint) (n:Nat) (ops:Array Oper):List Ev->St->St->Prop
 | [],Z,τ=>τ=Z
 | e :: l,Z,τ=>(∃o,ops[e.i]?=some o/\xS T hi n ops o Z e.ws e.rd)/\yN T hi n ops l (aC e.ws Z) τ
def D7 (ops:Array Oper):List Ev->Prop
 | []=>True
 | e :: l=>(∀e'∈l,Dm ops e.i e'.i\/Hr e e')/\D7 ops l
theorem ahJ {e e':Ev} {l:List Ev} {τ:St} (hi':Hr e e') (h:yN T hi n ops (e :: e' :: l) Z τ):yN T hi n ops (e' :: e :: l) Z τ:=by
 obtain ⟨⟨o,ho,h1⟩,⟨o',ho',h2⟩,h3⟩:=h
 have ha:∀y∈e'.rd,Ow.agree (aC e.ws Z) Z y:=by
  intro y hy
  have:=Ej e.ws Z (y:=y) (fun hm=>hi'.1 y hm (bK _ hy))
  cases y with
  | s n=>exact this.symm
  | r n=>exact this.symm
 have hb:∀y∈e.rd,Ow.agree Z (aC e'.ws Z) y:=fun y hy=>Ej e'.ws Z (hi'.2 y hy)
 refine ⟨⟨o',ho',h2.agree ha⟩,⟨o,ho,h1.agree hb⟩, ?_⟩
 rw [agZ (u:=e.ws) (v:=e'.ws) (fun x hx hx'=>hi'.1 x hx (bB _ hx'))]
 exact h3
theorem ahI {e:Ev} {l:List Ev}:∀{pre:List Ev} {Z τ:St},(∀x∈pre,Hr x e)->yN T hi n ops (pre++e :: l) Z τ->yN T hi n ops (e :: (pre++l)) Z τ:=by
 intro pre
 induction pre with
 | nil=>intro Z τ _ h; exact h
 | cons x pre ih=>
  intro Z τ hx h
  refine ahJ (hx x (by simp)) ?_
  obtain ⟨h1,h2⟩:=h
  exact ⟨h1,ih (fun y hy=>hx y (by simp [hy])) h2⟩
theorem amM {e:Ev} {l:List Ev}:∀{pre:List Ev},D7 ops (pre++e :: l)->D7 ops (pre++l)/\∀x∈pre,Dm ops x.i e.i\/Hr x e:=by
 intro pre
 induction pre with
 | nil=>intro h; exact ⟨h.2,by simp⟩
 | cons x pre ih=>
  intro h
  obtain ⟨g1,g2⟩:=ih h.2
  refine ⟨⟨fun e' he'=>h.1 e' ?_,g1⟩,fun y hy=>?_⟩
  ·rcases bW.1 he' with h | h
   ·exact bK _ h
   ·exact bB _ (jD _ h)
  ·rcases bT.1 hy with h' | h'
   ·subst h'; exact h.1 e (by simp)
   ·exact g2 y h'
theorem aiG {e:Eff} {l:List Eff} (h:zL ops e l=true):(∀b∈binders ops e.i,b<e.i)/\∀b∈l,Dm ops b.i e.i\/((∀x∈b.wr,x∉e.rd++e.wr)/\∀x∈b.rd,x∉e.wr):=by
 unfold zL at h
 simp only [bg,eH] at h
 refine ⟨fun b hb=>?_,fun b hb=>?_⟩
 ·have:=h.1 b hb
  unfold Nat.blt at this
  exact Mk this
 ·have:=h.2 b hb
  rw [nZ,nZ,bg] at this
  rcases this with h1 | ⟨h1,h2⟩ | h1
  ·exact .inl (by unfold Dm leads; rw [h1]; rfl)
  ·exact .inr ⟨XD.1 h1,XD.1 h2⟩
  ·exact .inl (aap h1)
theorem aiY {R:Type} {K:St->Option R} {r:R}:∀(l:List Oper) (i:Nat) (es:List Eff) {Z:St},ops.toList.drop i=l->Ce T hi n ops l i es Z K=some r->
  ∃(evs:List Ev) (τ:St),K τ=some r/\yN T hi n ops evs Z τ/\D7 ops evs/\evs.map (·.i)=List.range' i l.length/\(∀e∈evs,∀b∈binders ops e.i,b<e.i)/\
   ∀e∈evs,∀b∈es,Dm ops b.i e.i\/((∀x∈b.wr,x∉e.rd++e.wr)/\∀x∈b.rd,x∉e.wr):=by
 intro l
 induction l with
 | nil=>intro i es Z _ h; exact ⟨[],Z,h,rfl,trivial,rfl,by simp,by simp⟩
 | cons o l ih=>
  intro i es Z hl h
  have hoi:ops[i]?=some o:=by
   have:=congrArg (fun l=>l[0]?) hl
   simpa using this
  have hl':ops.toList.drop (i+1)=l:=by
   have:=congrArg List.tail hl
   simpa using this
  have step:∀{ws:List Wr} {rd:List Loc},xS T hi n ops o Z ws rd->zL ops ⟨i,rd,ws.map Wr.loc⟩ es=true->Ce T hi n ops l (i+1) (⟨i,rd,ws.map Wr.loc⟩ :: es) (aC ws Z) K=some r->
    ∃(evs:List Ev) (τ:St),K τ=some r/\yN T hi n ops evs Z τ/\D7 ops evs/\evs.map (·.i)=List.range' i (l.length+1)/\(∀e∈evs,∀b∈binders ops e.i,b<e.i)/\
     ∀e∈evs,∀b∈es,Dm ops b.i e.i\/((∀x∈b.wr,x∉e.rd++e.wr)/\∀x∈b.rd,x∉e.wr):=by
   intro ws rd hab hok h
   obtain ⟨evs,τ,g1,g2,g3,g4,g5,g6⟩:=ih (i+1) _ hl' h
   obtain ⟨k1,k2⟩:=aiG hok
   refine ⟨⟨i,ws,rd⟩ :: evs,τ,g1,⟨⟨o,hoi,hab⟩,g2⟩,⟨fun e' he'=>?_,g3⟩, ?_, ?_, ?_⟩
   ·exact g6 e' he' ⟨i,rd,ws.map Wr.loc⟩ (by simp)
   ·rw [List.range'_succ,lD,g4]
   ·intro e he
    rcases bT.1 he with h | h
    ·subst h; exact k1
    ·exact g5 e h
   ·intro e he b hb
    rcases bT.1 he with h | h
    ·subst h; exact k2 b hb
    ·exact g6 e h b (by simp [hb])
  simp only [gY]
  unfold Ce at h
  rcases YR h with ⟨hg,h⟩ | ⟨s,want,tg,hg,hs,h⟩ | ⟨s,want,hg,hs,h⟩
  ·obtain ⟨ws,rd,h1,h2⟩:=abX _ h
   cases hok:zL ops ⟨i,rd,ws.map Wr.loc⟩ es with
   | false=>rw [hok] at h2; simp at h2
   | true=>rw [hok] at h2; exact step (.plain ws rd hg h1) hok h2
  ·obtain ⟨ws,rd,h1,h2⟩:=abX _ h
   cases hok:zL ops ⟨i,rd,ws.map Wr.loc⟩ es with
   | false=>rw [hok] at h2; simp at h2
   | true=>rw [hok] at h2; exact step (.done s want tg ws rd hg hs h1) hok h2
  ·cases hok:(BZ hi o && zL ops ⟨i,[.s s],(Al o).map Wr.loc⟩ es) with
   | false=>rw [hok] at h; simp at h
   | true=>
    rw [hok] at h
    rw [bg] at hok
    exact step (.skip s want hg hs hok.1) hok.2 h
theorem ahH (hT:fJ P T) (hSt:wT P T) (hC:xG P n hi) (hnt:hi.nt=cx.nt) {Q:Exit->Act->World->Prop} {τ:St} (hQ:∀J' F' a' w',Rel cx τ J' F' a' w'->Q .normal a' w') :
  ∀(m:Nat) (evs:List Ev) (listed:Array Bool) {Z:St} {J:aH} {F:List Nat} {a:Act} {w:World},evs.length=m->yN T hi n ops evs Z τ->D7 ops evs->(evs.map (·.i)).Pairwise (· < ·)->(∀e∈evs,∀b∈binders ops e.i,b<e.i)->
   listed.size=ops.size->(∀j,j<ops.size->(listed.getD j false=false↔j∈evs.map (·.i)))->(∀e∈evs,e.i<ops.size)->(∀b,listed.getD b false=true->∀c∈binders ops b,listed.getD c false=true)->Rel cx Z J F a w->wpAny P .any ops Q m listed a w:=by
 intro m
 induction m with
 | zero=>
  intro evs listed Z J F a w hl hc _ _ _ hsz hlist _ _ H
  have:evs=[]:=sW hl
  subst this
  have hc':τ=Z:=hc
  subst hc'
  refine ⟨?_,hQ _ _ _ _ H⟩
  cases hr:Region.ready .any ops listed with
  | nil=>rfl
  | cons j l=>
   have hj:j∈Region.ready .any ops listed:=by rw [hr]; simp
   obtain ⟨h0,o,ho,_⟩:=mem_ready.1 hj
   have hlt:=(Array.getElem?_eq_some_iff.1 ho).1
   have:listed.getD j false=false:=by
    have hj2:j<listed.size:=by omega
    simp [hj2] at h0 ⊢
    exact h0
   exact absurd ((hlist j hlt).1 this) (by simp)
 | succ m ih=>
  intro evs listed Z J F a w hl hc hp hsort hbind hsz hlist hlt hcl H
  refine ⟨fun hr=>?_,fun j hj=>?_⟩
  ·
   exfalso
   cases evs with
   | nil=>simp at hl
   | cons e evs=>
    obtain ⟨⟨o,ho,_⟩,_⟩:=hc
    have he:e.i∈Region.ready .any ops listed:=by
     rw [mem_ready]
     have hei:=hlt e (by simp)
     have hun:=(hlist e.i hei).2 (by simp)
     refine ⟨?_,o,ho,fun q hq hb=>?_⟩
     ·have hj2:e.i<listed.size:=by omega
      simp [hj2] at hun ⊢
      exact hun
     ·have hm:q.on∈binders ops e.i:=by
       unfold binders
       rw [ho]
       simp only [tq,fI,eF]
       exact ⟨q,⟨Array.mem_toList_iff.2 hq,hb⟩,rfl⟩
      have hlt2:=hbind e (by simp) q.on hm
      cases hb2:listed.getD q.on false with
      | true=>rfl
      | false=>
       have:=(hlist q.on (by omega)).1 hb2
       simp only [lD,bT] at this
       rcases this with h | h
       ·omega
       ·have hlt3:e.i<q.on:=by simpa using (List.pairwise_cons.1 hsort).1 q.on h
        omega
    rw [hr] at he
    simp at he
  ·obtain ⟨h0,o,ho,hall⟩:=mem_ready.1 hj
   have hjlt:=(Array.getElem?_eq_some_iff.1 ho).1
   have hj2:j<listed.size:=by omega
   have hun:listed.getD j false=false:=by
    simp [hj2] at h0 ⊢
    exact h0
   have hjm:=(hlist j hjlt).1 hun
   obtain ⟨e,he,hej⟩:=fI.1 hjm
   obtain ⟨pre,post,hsplit⟩:=List.append_of_mem he
   subst hsplit
   subst hej
   obtain ⟨p1,p2⟩:=amM hp
   have hle:∀c∈binders ops e.i,listed.getD c false=true:=by
    intro c h
    unfold binders at h
    rw [ho] at h
    simp only [tq,fI,eF] at h
    obtain ⟨q,⟨hq,hb⟩,hon⟩:=h
    rw [<-hon]
    exact hall q (Array.mem_toList_iff.1 hq) hb
   have hpre:∀x∈pre,Hr x e:=by
    intro x hx
    rcases p2 x hx with h | h
    ·exfalso
     have hl2:=aaq (L:=fun b=>listed.getD b false=true) hcl h hle
     have hxi:=hlt x (by simp [hx])
     have:=(hlist x.i hxi).2 (by simp only [rQ,bW,fI]; exact .inl ⟨x,hx,rfl⟩)
     rw [hl2] at this
     simp at this
    ·exact h
   have hc2:=ahI hpre hc
   obtain ⟨⟨o',ho',hab⟩,hc3⟩:=hc2
   rw [ho] at ho'
   simp only [au] at ho'
   subst ho'
   have ZU:(pre.map (·.i)++e.i :: post.map (·.i)).Pairwise (· < ·):=by simpa using hsort
   have hsub:(pre++post).Sublist (pre++e :: post):=P6 (List.sublist_cons_self _ _) _
   refine NS hT hSt hC H hnt ho hab (fun J' F' a' w' H'=>?_)
   refine ih (pre++post) (listed.setIfInBounds e.i true) (by simp at hl ⊢; omega) hc3 p1 (hsort.sublist (hsub.map _)) (fun x hx=>hbind x (hsub.subset hx)) (by simpa using hsz) (fun k hk=>?_) (fun x hx=>hlt x (hsub.subset hx)) ?_ H'
   rotate_left
   ·intro b hb c hc4
    have hset:∀k,listed.getD k false=true->(listed.setIfInBounds e.i true).getD k false=true:=fun k hk=>by
     by_cases hke:k=e.i
     ·subst hke; simp [hj2]
     ·rw [getD_set_ne false (Ne.symm hke)]; exact hk
    by_cases hbe:b=e.i
    ·subst hbe; exact hset c (hle c hc4)
    ·rw [getD_set_ne false (Ne.symm hbe)] at hb
     exact hset c (hcl b hb c hc4)
   have hnot:e.i∉(pre++post).map (·.i):=by
    intro hm
    rw [rQ,bW] at hm
    rcases hm with h | h
    ·have:=(Qb.1 ZU).2.2 e.i h e.i (by simp)
     omega
    ·have:=(List.pairwise_cons.1 (Qb.1 ZU).2.1).1 e.i h
     omega
   by_cases hke:k=e.i
   ·subst hke
    constructor
    ·intro h
     exfalso
     simp [hj2] at h
    ·intro h; exact absurd h hnot
   ·rw [getD_set_ne false (Ne.symm hke),hlist k hk]
    simp only [rQ,lD,bW,bT]
    constructor
    ·rintro (h | h | h)
     ·exact .inl h
     ·exact absurd h hke
     ·exact .inr h
    ·rintro (h | h)
     ·exact .inl h
     ·exact .inr (.inr h)
theorem aiZ (hT:fJ P T) (hSt:wT P T) (hC:xG P n hi) (hnt:hi.nt=cx.nt) {R:Type} {K:St->Option R} {r:R} {Q:Exit->Act->World->Prop} (hQ:∀Z' J' F' a' w',K Z'=some r->Rel cx Z' J' F' a' w'->Q .normal a' w')
  (h:Ce T hi n ops ops.toList 0 [] Z K=some r) (H:Rel cx Z J F a w):wpAny P .any ops Q ops.size (Array.replicate ops.size false) a w:=by
 obtain ⟨evs,τ,h1,h2,h3,h4,h5,_⟩:=aiY ops.toList 0 [] (by simp) h
 rw [OC, <-List.range_eq_range'] at h4
 refine ahH hT hSt hC hnt (fun J' F' a' w' H'=>hQ _ _ _ _ _ h1 H') ops.size evs _ ?_ h2 h3 ?_ h5 (by simp) (fun j hj=>?_) (fun e he=>?_) (fun b hb=>?_) H
 rotate_left 4
 ·exfalso; by_cases hbs:b<ops.size <;> simp [hbs] at hb
 ·have:=congrArg List.length h4; simpa using this
 ·rw [h4]; exact List.pairwise_lt_range
 ·rw [h4]; simp [hj]
 ·have:e.i∈evs.map (·.i):=fI.2 ⟨e,he,rfl⟩
  rw [h4] at this
  exact List.mem_range.1 this
end
end
section
open Go
variable [Fr]
abbrev BG:=List (Nat×K×List TypeId×List TypeId)
structure Qf (cx:Cx) (fP:BG):Prop where
 par:∀j pi,cx.par j=some pi->(pi.kp=true\/∃q,pi.base=some q)->∃q,oF (ah j) fP=some q
 ptr:∀j p ts v,cx.ptrs j p ts v->∃k l,oF (ah j) fP=some (k,l)/\ts=iW p k
 ref:∀j v,cx.refs j v->∃q,oF (ah j) fP=some q
theorem zD {A:Type} {b:Bool} {x:Option A} {d:A} (h:(bif b then x else none)=some d):b=true/\x=some d:=by
 cases b with
 | true=>exact ⟨rfl,h⟩
 | false=>exact absurd h (by simp)
def oO.CL:oO->List Nat
 | .val _ ids=>ids
 | .fQ _ _ ids=>ids
 | .fn _ caps=>caps.flatMap fun c=>c.2.2
 | _=>[]
def qa (rs:List Nat) (i:Nat):Prop:=gZ i=true\/i∈rs
structure qR (Z:St) (fP:BG) (rs:List Nat) (r:Nat) (R R':Root):Prop where
 live:aU Z r R
 valid:cB Z R
 form:∃ow tg ew eh,R'={ R with own:=ow,tags:=tg,w:=[],h:=[],g:=0,ew:=ew,eh:=eh }/\(∀t∈R.k.tys,aa t ow=aa t R.own)
 tags:∀t∈R.tags,qa rs t.1->(t.1,0)∈R'.tags
 acz:∀t∈R'.tags,t.2=0/\qa rs t.1/\t.1≠r
 log:∀k wt ht,oF r fP=some (k,wt,ht)->R.k=k/\R'.ew=wt/\R'.eh=ht/\(∀t∈R.w,t∈wt)/\(∀t∈R.ew,t∈wt)/\(∀t∈R.h,t∈ht)/\(∀t∈R.eh,t∈ht)/\R.g=0
structure pM (Z:St) (fP:BG) (rs:List Nat) (Z':St):Prop where
 roots:∀r R',Z'.roots r=some R'->r∈rs/\gZ r=false/\∃R,qR Z fP rs r R R'
 made:∀r∈rs,∃R',Z'.roots r=some R'
 slots:∀s,Z'.slots s=.one .undef\/∃sh av d,Z.slots s=.one av/\tO Z rs sh av=some d/\Z'.slots s=.one (Jy sh d)/\∀i∈sh.CL,qa rs i
 fP:∀r q,oF r fP=some q->r∈rs
theorem SL:∀{p:List (Option Nat)} {q:List Stp} {c:Cont (aV.into 0 p).kin},idxOf p q=some c->pathOf p c=q
 | [],[],_,_=>rfl
 | [],_ :: _,_,h=>by simp [idxOf] at h
 | some n :: p,[],_,h=>by simp [idxOf] at h
 | some n :: p, .idx i :: q,_,h=>by simp [idxOf] at h
 | some n :: p, .aZ m :: q,c,h=>by
  have h':(bif Nat.beq n m then idxOf p q else none)=some c:=h
  cases hb:Nat.beq n m with
  | false=>rw [hb] at h'; simp at h'
  | true=>
   rw [hb] at h'
   have:=bC hb
   subst this
   show Stp.aZ n :: pathOf p c=_
   rw [SL (p:=p) (q:=q) (c:=c) h']
 | none :: p,[],_,h=>by simp [idxOf] at h
 | none :: p, .aZ i :: q,_,h=>by simp [idxOf] at h
 | none :: p, .idx i :: q,c,h=>by
  have h':(match idxOf p q with
   | some d=>some ((i,d):Cont (aV.into 0 (none :: p)).kin)
   | none=>none)=some c:=h
  cases hq:idxOf p q with
  | none=>rw [hq] at h'; simp at h'
  | some d=>
   rw [hq] at h'
   have h2:((i,d):Cont (aV.into 0 (none :: p)).kin)=c:=j4 h'
   rw [<-h2]
   show Stp.idx i :: pathOf p d=_
   rw [SL hq]
theorem Fq {rs:List Nat}:∀{l:List Tag} {r:Nat},r∈mh rs l↔(∃n,(r,n)∈l)/\qa rs r
 | [],r=>by simp [mh]
 | (q,m) :: l,r=>by
  have ih:=Fq (rs:=rs) (l:=l) (r:=r)
  unfold mh
  cases hb:(gZ q || aa q rs) && !aa q (mh rs l) with
  | true=>
   simp only [gJ,bT]
   simp only [bg,nZ,b_] at hb
   constructor
   ·rintro (h | h)
    ·subst h
     exact ⟨⟨m, .inl rfl⟩,hb.1⟩
    ·obtain ⟨⟨n,hn⟩,h2⟩:=ih.1 h
     exact ⟨⟨n, .inr hn⟩,h2⟩
   ·rintro ⟨⟨n,h | h⟩,h2⟩
    ·exact .inl (by simpa using congrArg Prod.fst h)
    ·exact .inr (ih.2 ⟨⟨n,h⟩,h2⟩)
  | false=>
   simp only [kg]
   constructor
   ·intro h
    obtain ⟨⟨n,hn⟩,h2⟩:=ih.1 h
    exact ⟨⟨n, .tail _ hn⟩,h2⟩
   ·rintro ⟨⟨n,h⟩,h2⟩
    rcases bT.1 h with h | h
    ·have e:r=q:=by simpa using congrArg Prod.fst h
     subst e
     cases hm:aa r (mh rs l) with
     | true=>exact b_.1 hm
     | false=>
      exfalso
      rw [hm] at hb
      simp only [mI,Bool.and_true,AL] at hb
      rcases h2 with h2 | h2
      ·rw [hb.1] at h2; simp at h2
      ·rw [b_.2 h2] at hb; simp at hb
    ·exact ih.2 ⟨⟨n,h⟩,h2⟩
section
variable {P:Program} {T:bH} {cx:Cx} {Z Z':St} {J:aH} {F:List Nat} {a:Act} {w:World} {fP:BG} {rs:List Nat}
theorem qR.kind {r:Nat} {R R':Root} (h:qR Z fP rs r R R'):R'.kind=R.kind/\R'.k=R.k/\R'.w=[]/\R'.h=[]/\R'.g=0/\R'.bY=R.bY:=by
 obtain ⟨ow,tg,ew,eh,rfl,_⟩:=h.form
 exact ⟨rfl,rfl,rfl,rfl,rfl,rfl⟩
theorem qR.blk {r:Nat} {R R':Root} (h:qR Z fP rs r R R'):blk J R' r=blk J R r/\aK J R' r=aK J R r:=by
 have hk:=h.kind.1
 unfold Ow.blk aK
 rw [hk]
 exact ⟨rfl,rfl⟩
theorem pM.bG (hB:pM Z fP rs Z') {U U':List Tag} (hU:∀t∈U,qa rs t.1->∃n,(t.1,n)∈U') {b:Nat} (h:bG cx Z J F w U b):bG cx Z' J F w U' b:=by
 obtain ⟨h1,h2,h3,h4,h5⟩:=h
 refine ⟨h1,h2,h3,fun r R' hr hb=>?_,fun hlt=>?_⟩
 ·obtain ⟨g1,g2,R,g3⟩:=hB.roots r R' hr.1
  rw [g3.blk.1] at hb
  obtain ⟨n,hn⟩:=h4 r R g3.live hb
  exact hU _ hn (.inr g1)
 ·rcases h5 hlt with ⟨j,n,g1,g2⟩ | h
  ·obtain ⟨n',hn'⟩:=hU _ g1 (.inl (uP j))
   exact .inl ⟨j,n',hn',g2⟩
  ·exact .inr h
theorem pM.mE (hB:pM Z fP rs Z') {U U':List Tag} (hU:∀t∈U,qa rs t.1->∃n,(t.1,n)∈U') {b:Nat} (h:mE Z J F w U b):mE Z' J F w U' b:=by
 obtain ⟨h1,h2,h4⟩:=h
 refine ⟨h1,h2,fun r R' hr hb=>?_⟩
 obtain ⟨g1,g2,R,g3⟩:=hB.roots r R' hr.1
 rw [g3.blk.1] at hb
 obtain ⟨n,hn⟩:=h4 r R g3.live hb
 exact hU _ hn (.inr g1)
theorem Oi {tags:List Tag} {ids:List Nat} (h:iK (mh rs tags) ids=true):∀t∈tags,qa rs t.1->∃n,(t.1,n)∈ids.map fun r=>((r,0):Tag):=by
 intro t ht hi
 refine ⟨0,fI.2 ⟨t.1,rG.1 h _ (Fq.2 ⟨⟨t.2,ht⟩,hi⟩),rfl⟩⟩
theorem pM.gB (hB:pM Z fP rs Z') {ids:List Nat} (h:∀i∈ids,qa rs i):gB Z' (ids.map fun r=>((r,0):Tag)):=by
 intro t ht
 obtain ⟨i,h1,rfl⟩:=fI.1 ht
 rcases h i h1 with h | h
 ·exact .inl h
 ·obtain ⟨R',hR⟩:=hB.made i h
  exact .inr ⟨R',hR, .inr (fT _)⟩
theorem pM.ro (hB:pM Z fP rs Z') {bt:TypeId} {k:K} {x:El k} {tags:List Tag} {ids:List Nat} {v:Value} (hs:iK (mh rs tags) ids=true) (hc:cO Z (bt :: k.tys) tags=true)(hE:EB bt ids=true)
  (h:wz cx Z J F w bt k x tags v):wz cx Z' J F w bt k x (ids.map fun r=>((r,0):Tag)) v:=by
 obtain ⟨h1,h2⟩:=h
 obtain ⟨b,o,cs,e1,e2,e3,e4,e5⟩:=h2 hc
 refine ⟨h1,fun _=>⟨b,o,cs,e1,e2,lN (fun _ _=>rfl) (fun b hb=>hB.bG (Oi hs) hb) e3,hB.mE (Oi hs) e4, ?_⟩⟩
 rcases e5 with ⟨g1,g2⟩ | h
 ·refine .inl ⟨g1,fun t ht=>?_⟩
  obtain ⟨i,h1,rfl⟩:=fI.1 ht
  unfold EB at hE
  rw [g1] at hE
  simp only [show Nat.beq SENT SENT=true from rfl,jc,Gd,eH] at hE
  exact hE i h1
 ·exact .inr h
theorem pM.caps (hB:pM Z fP rs Z'):∀{cs:List (TypeId×K×List Nat)} {l:List (TypeId×Dat×List Tag)} {d:Cont (BR cs)} {vs:List Value},yc Z rs cs l=some d->(∀i∈cs.flatMap (fun c=>c.2.2),qa rs i)->nA cx Z J F w l vs->
  nA cx Z' J F w (Jz cs d) vs/\∀c∈Jz cs d,Ow.gB Z' c.2.2
 | [],[],_,[],_,_,_=>⟨trivial,by intro c hc; exact absurd hc (by simp [Jz])⟩
 | [],_ :: _,_,_,h,_,_=>by simp [yc] at h
 | _ :: _,[],_,_,h,_,_=>by simp [yc] at h
 | [],[],_,_ :: _,_,_,h=>h.elim
 | _ :: _,_ :: _,_,[],_,_,h=>h.elim
 | (t,k,ids) :: cs,(t',d,tags) :: l,c,v :: vs,h,hi,hv=>by
  simp only [yc] at h
  cases hb:Nat.beq t t' && cO Z (t :: k.tys) tags && iK (mh rs tags) ids && EB t ids with
  | false=>rw [hb] at h; simp at h
  | true=>
   rw [hb] at h
   simp only [gJ] at h
   simp only [bg] at hb
   obtain ⟨⟨⟨b1,b2⟩,b3⟩,b4⟩:=hb
   have:=bC b1
   subst this
   cases hck:bU d.1 k d.2 with
   | none=>rw [hck] at h; simp at h
   | some x=>
    rw [hck] at h
    cases hcs:yc Z rs cs l with
    | none=>rw [hcs] at h; simp at h
    | some y=>
     rw [hcs] at h
     have h2:((x,y):Cont (BR ((t,k,ids) :: cs)))=c:=j4 h
     subst h2
     obtain ⟨dk,dx⟩:=d
     obtain ⟨e,ex⟩:=jl hck
     simp only at e
     subst e
     simp only at ex
     subst ex
     have Ni:∀i∈ids,qa rs i:=fun i h=>hi i (by simp [h])
     obtain ⟨g1,g2⟩:=hB.caps (vs:=vs) hcs (fun i h=>hi i (by
      rw [kQ]; exact bB _ h)) hv.2
     refine ⟨⟨hB.ro b3 b2 b4 hv.1,g1⟩,fun q hq=>?_⟩
     rcases bT.1 hq with h | h
     ·subst h; exact hB.gB Ni
     ·exact g2 q h
theorem pM.av (H:Rel cx Z J F a w) (hB:pM Z fP rs Z') {sh:oO} {av:AV} {d:Cont sh.ks} {v:Value} (hct:tO Z rs sh av=some d) (hi:∀i∈sh.CL,qa rs i) (hv:aW cx Z J F w av v) :
  aW cx Z' J F w (Jy sh d) v/\dQ Z' (Jy sh d):=by
 cases sh with
 | undef=>exact ⟨trivial,trivial⟩
 | val k ids=>
  cases av with
  | val k' x tags=>
   simp only [tO] at hct
   cases hb:cO Z k.tys tags && iK (mh rs tags) ids with
   | false=>rw [hb] at hct; simp at hct
   | true=>
    rw [hb] at hct
    simp only [gJ] at hct
    simp only [bg] at hb
    cases hck:bU k' k x with
    | none=>rw [hck] at hct; simp at hct
    | some y=>
     rw [hck] at hct
     have h2:((y,()):Cont (oO.val k ids).ks)=d:=j4 hct
     subst h2
     obtain ⟨e,ex⟩:=jl hck
     subst e
     simp only at ex
     subst ex
     refine ⟨fun _=>?_,hB.gB hi⟩
     obtain ⟨cs,g1,g2⟩:=hv (.inr hb.1)
     exact ⟨cs,g1,lN (fun _ _=>rfl) (fun b hb2=>hB.bG (Oi hb.2) hb2) g2⟩
  | _=>simp [tO] at hct
 | fG=>
  cases av with
  | fG=>
   exact ⟨hv,trivial⟩
  | _=>simp [tO] at hct
 | ref r=>
  cases av with
  | ref r' g=>
   obtain ⟨hb,_⟩:=zD (show (bif Nat.beq r r' && aa r rs && (match Z.roots r with | some R=>Nat.beq R.g g | none=>false) then some () else none)=some d from hct)
   simp only [bg] at hb
   obtain ⟨⟨b1,b2⟩,b3⟩:=hb
   have:=bC b1
   subst this
   obtain ⟨R',hR'⟩:=hB.made r (b_.1 b2)
   refine ⟨fun Q hQ _=>?_,R',hR', .inr (fT _)⟩
   obtain ⟨_,_,R,g3⟩:=hB.roots r Q hQ.1
   rw [g3.live.1] at b3
   obtain ⟨f1,f2⟩:=hv R g3.live (bC b3)
   obtain ⟨k1,k2,_⟩:=g3.kind
   exact ⟨k1.trans f1,by rw [k2]; exact f2⟩
  | _=>simp [tO] at hct
 | ptr r p=>
  cases av with
  | ptr r' q n=>
   obtain ⟨hb,RV⟩:=zD (A:=Cont (aV.into 0 p).kin) (x:=idxOf p q) (show (bif Nat.beq r r' && aa r rs && (match Z.roots r with | some R=>clean R.h n (iW q R.k) | none=>false) then idxOf p q else none)=some d from hct)
   simp only [bg] at hb
   obtain ⟨⟨b1,b2⟩,b3⟩:=hb
   have:=bC b1
   subst this
   have hpq:=SL RV
   obtain ⟨R',hR'⟩:=hB.made r (b_.1 b2)
   show aW cx Z' J F w (.ptr r (pathOf p d) 0) v/\dQ Z' (.ptr r (pathOf p d) 0)
   rw [hpq]
   refine ⟨⟨hv.1,fun Q hQ oL _ hpt hg=>?_⟩,R',hR', .inr (fT _)⟩
   obtain ⟨_,_,R,g3⟩:=hB.roots r Q hQ
   rw [g3.live.1] at b3
   have hw:=(qR.blk (J:=J) g3).2
   obtain ⟨ow,tg,ew,eh,rfl,hown⟩:=g3.form
   obtain ⟨f1,f2⟩:=hv.2 R g3.live.1 g3.valid b3 (fun t ht=>by rw [<-hown t (CX q t ht)]; exact hpt t ht) hg
   exact ⟨f1,by rw [hw]; exact f2⟩
  | _=>simp [tO] at hct
 | fQ bt k ids=>
  cases av with
  | fQ QH k' x tags=>
   simp only [tO] at hct
   cases hb:Nat.beq bt QH && cO Z (bt :: k.tys) tags && iK (mh rs tags) ids && EB bt ids with
   | false=>rw [hb] at hct; simp at hct
   | true=>
    rw [hb] at hct
    simp only [gJ] at hct
    simp only [bg] at hb
    obtain ⟨⟨⟨b1,b2⟩,b3⟩,b4⟩:=hb
    have:=bC b1
    subst this
    cases hck:bU k' k x with
    | none=>rw [hck] at hct; simp at hct
    | some y=>
     rw [hck] at hct
     have h2:((y,()):Cont (oO.fQ bt k ids).ks)=d:=j4 hct
     subst h2
     obtain ⟨e,ex⟩:=jl hck
     subst e
     simp only at ex
     subst ex
     exact ⟨hB.ro b3 b2 b4 hv,hB.gB hi⟩
  | _=>simp [tO] at hct
 | kG=>
  cases av with
  | kG=>
   exact ⟨hv,trivial⟩
  | _=>simp [tO] at hct
 | fn f cs=>
  cases av with
  | fn f' caps=>
   obtain ⟨hb,RV⟩:=zD (A:=Cont (BR cs)) (x:=yc Z rs cs caps) (show (bif Nat.beq f f' then yc Z rs cs caps else none)=some d from hct)
   have:=bC hb
   subst this
   obtain ⟨vs,e,hc⟩:=hv
   obtain ⟨g1,g2⟩:=hB.caps RV hi hc
   exact ⟨⟨vs,e,g1⟩,g2⟩
  | _=>simp [tO] at hct
end
end
section
open Go
variable [Fr]
section
variable {P:Program} {T:bH} {cx:Cx} {Z Z':St} {J:aH} {F:List Nat} {a:Act} {w:World} {fP:BG} {rs:List Nat}
theorem abO (H:Rel cx Z J F a w) (hP:Qf cx fP) (hB:pM Z fP rs Z'):Rel cx Z' J F a w:=by
 have EN:∀{r:Nat} {R':Root},aU Z' r R'->∃R,qR Z fP rs r R R':=fun h=>by
  obtain ⟨_,_,R,h⟩:=hB.roots _ _ h.1
  exact ⟨R,h⟩
 have nH:∀{j:Nat} {q},oF (ah j) fP=some q->∃R R',Z'.roots (ah j)=some R'/\qR Z fP rs (ah j) R R':=fun h=>by
  obtain ⟨R',hR'⟩:=hB.made _ (hB.fP _ _ h)
  obtain ⟨_,_,R,h⟩:=hB.roots _ _ hR'
  exact ⟨R,R',hR',h⟩
 have hsame:∀{τ:St} {r:Nat} {R Q:Root},τ.roots r=some R->τ.roots r=some Q->Q=R:=fun h1 h2=>by rw [h1] at h2; simpa using h2.symm
 refine ⟨H.defs,H.sz, ?_, ?_, ?_, ?_, ?_, ?_, ?_,H.fl,H.iq, ?_,H.frame, ?_,H.mF, ?_, ?_⟩
 ·intro j pi b o n hj hb
  obtain ⟨Q,hQ,hk,hl,hs⟩:=H.kM j pi b o n hj hb
  obtain ⟨q,hq⟩:=hP.par j pi hj (.inr ⟨_,hb⟩)
  obtain ⟨R,R',hR',h1⟩:=nH hq
  have:=hsame hQ.1 h1.live.1
  subst this
  obtain ⟨k1,k2,_,_,_,k6⟩:=h1.kind
  exact ⟨R',⟨hR',k6.trans hQ.2⟩,k1.trans hk,hl,by rw [k2]; exact hs⟩
 ·intro r R' hr hk
  obtain ⟨R,h1⟩:=EN hr
  exact H.sK r R h1.live (h1.kind.1.symm.trans hk)
 ·intro s
  rcases hB.slots s with h | ⟨sh,av,d,h1,h2,h3,h4⟩
  ·rw [h]; trivial
  ·rw [h3]
   have:=H.slots s
   rw [h1] at this
   exact (hB.av H h2 h4 this).1
 ·intro s
  rcases hB.slots s with h | ⟨sh,av,d,h1,h2,h3,h4⟩
  ·rw [h]; trivial
  ·rw [h3]
   have:=H.slots s
   rw [h1] at this
   exact (hB.av H h2 h4 this).2
 ·intro r R' hr
  obtain ⟨R,h1⟩:=EN hr
  have O:=H.roots r R h1.live
  have hb:=(qR.blk (J:=J) h1).1
  have hw:=(qR.blk (J:=J) h1).2
  have ht:=h1.tags
  have hv:=h1.valid
  obtain ⟨ow,tg,ew,eh,rfl,hown⟩:=h1.form
  refine ⟨fun _=>vv hown (dY (fun _ _=>rfl) (fun b hb2=>?_) (fun _ _=>rfl) (O.ow hv)),O.len, ?_, ?_, ?_⟩
  ·exact hB.bG (fun t h hi=>⟨0,ht t h hi⟩) hb2
  ·rw [hw]; exact O.mem
  ·rw [hb]; exact O.nd
  ·rw [hb]; exact O.mine
 ·intro r R' hr
  obtain ⟨g1,g2,R,h1⟩:=hB.roots r R' hr
  refine ⟨fun t ht=>?_,g2,fun n hn=>(h1.acz _ hn).2.2 rfl⟩
  obtain ⟨f1,f2,_⟩:=h1.acz t ht
  rcases f2 with h | h
  ·exact .inl h
  ·obtain ⟨Q,hQ⟩:=hB.made _ h
   exact .inr ⟨Q,hQ, .inr (by rw [f1]; exact fT _)⟩
 ·intro r R1 r' R2 h1 h2 hne b hb
  obtain ⟨Q1,g1⟩:=EN h1
  obtain ⟨Q2,g2⟩:=EN h2
  rw [(qR.blk (J:=J) g1).1] at hb
  rw [(qR.blk (J:=J) g2).1]
  exact H.lQ r Q1 r' Q2 g1.live g2.live hne b hb
 ·intro r R' hr b hb
  obtain ⟨R,h1⟩:=EN hr
  rw [(qR.blk (J:=J) h1).1] at hb
  exact H.fB r R h1.live b hb
 ·intro j pi hj hk
  obtain ⟨⟨k,wt,ht⟩,hq⟩:=hP.par j pi hj (.inl hk)
  obtain ⟨R,R',hR',h1⟩:=nH hq
  obtain ⟨l1,l2,l3,l4,l5,l6,l7,l8⟩:=h1.log k wt ht hq
  obtain ⟨Q,hQ,hk2⟩:=H.qc j pi hj hk
  have:=hsame h1.live.1 hQ
  subst this
  refine ⟨R',hR',fun _ b hb hnb=>?_⟩
  rcases hk2 h1.live.2 b hb hnb with ⟨e,e1,e2⟩ | ⟨g1,g2,g3⟩
  ·refine .inl ⟨e,e1, .inr ?_⟩
   rw [l2]
   rcases e2 with h | h
   ·exact l4 e h
   ·exact l5 e h
  ·refine .inr ⟨g1,g2,fun q Q hQ hbq=>?_⟩
   obtain ⟨Q0,h2⟩:=EN hQ
   rw [(qR.blk (J:=J) h2).1] at hbq
   exact g3 q Q0 h2.live hbq
 ·intro j p ts v hv
  obtain ⟨k,⟨wt,ht⟩,hq,hts⟩:=hP.ptr j p ts v hv
  obtain ⟨R,R',hR',h1⟩:=nH hq
  obtain ⟨l1,l2,l3,l4,l5,l6,l7,l8⟩:=h1.log k wt ht hq
  obtain ⟨f1,Q,hQ,f2⟩:=H.ry j p ts v hv
  have:=hsame h1.live.1 hQ
  subst this
  refine ⟨f1,R',hR',fun hno=>?_⟩
  rw [l3] at hno
  have vQ:=f2 (fun t h1 h2=>hno t h1 (l7 t h2))
  refine ⟨f1,fun Q2 vO _ _ hpt hg=>?_⟩
  have:=hsame hR' vO
  subst this
  have hw:=(qR.blk (J:=J) h1).2
  have hv1:=h1.valid
  have hr1:=h1.live.1
  obtain ⟨ow,tg,ew,eh,rfl,hown⟩:=h1.form
  obtain ⟨q1,q2⟩:=vQ.2 Q hr1 hv1 (by
    unfold clean
    rw [eH]
    intro t ht1
    have h3:t∈Q.h:=Mg ht1
    simp only [lC,gT]
    rw [l1, <-hts]
    exact fun h4=>hno t h4 (l6 t h3))
   (fun t ht=>by rw [<-hown t (CX p t ht)]; exact hpt t ht) hg
  exact ⟨q1,by rw [hw]; exact q2⟩
 ·intro j v hv
  obtain ⟨⟨k,wt,ht⟩,hq⟩:=hP.ref j v hv
  obtain ⟨R,R',hR',h1⟩:=nH hq
  obtain ⟨l1,l2,l3,l4,l5,l6,l7,l8⟩:=h1.log k wt ht hq
  obtain ⟨_,f2⟩:=H.rz j v hv
  refine ⟨⟨R',hR'⟩,fun Q2 vO _=>?_⟩
  have:=hsame hR' vO.1
  subst this
  obtain ⟨q1,q2⟩:=f2 R h1.live l8
  obtain ⟨k1,k2,_⟩:=h1.kind
  exact ⟨k1.trans q1,by rw [k2]; exact q2⟩
structure Xo (fP:BG) (rs:List Nat) (s:zf):Prop where
 slots:∀q∈s.ss,∀i∈q.2.CL,qa rs i
 roots:∀q∈s.rs,q.1∈rs/\gZ q.1=false/\(∀i∈q.2.ids,qa rs i/\i≠q.1)/\q.2.log=oF q.1 fP
 keys:∀r∈rs,∃q∈s.rs,q.1=r
 fP:∀r q,oF r fP=some q->r∈rs
theorem TC:∀{l:List (Nat×oO)} {c:Cont (uj l)},Iu Z rs l=some c->∀n,mkS l c n=.one .undef\/∃sh av d,(n,sh)∈l/\Z.slots n=.one av/\tO Z rs sh av=some d/\mkS l c n=.one (Jy sh d)
 | [],_,_,_=>.inl rfl
 | (s,sh) :: l,c,h,n=>by
  simp only [Iu] at h
  split at h
  ·rename_i av hs
   split at h
   ·rename_i x y hx hy
    have h2:Cont.app sh.ks (uj l) x y=c:=j4 h
    subst h2
    simp only [mkS]
    rw [II,J4]
    cases hb:Nat.beq n s with
    | true=>
     have:=bC hb
     subst this
     exact .inr ⟨sh,av,x,by simp,hs,hx,rfl⟩
    | false=>
     rcases TC hy n with h | ⟨sh',Qx,d,g1,g2,g3,g4⟩
     ·exact .inl h
     ·exact .inr ⟨sh',Qx,d, .tail _ g1,g2,g3,g4⟩
   ·simp at h
  ·split at h
   ·split at h
    ·rename_i d hd
     have h2:d=c:=j4 h
     subst h2
     simp only [mkS]
     cases hb:Nat.beq n s with
     | true=>exact .inl rfl
     | false=>
      rcases TC hd n with h | ⟨sh',Qx,d,g1,g2,g3,g4⟩
      ·exact .inl h
      ·exact .inr ⟨sh',Qx,d, .tail _ g1,g2,g3,g4⟩
    ·simp at h
   ·simp at h
theorem am9 {a b:zl} (h:Uc a b=true):a=b:=by
 cases a <;> cases b <;> simp_all [Uc]
theorem aaK:∀{l:List (Nat×zm)} {c:Cont (xu l)},MU Z rs l=some c->∀n R',Ah l c n=some R'->∃sh R,(n,sh)∈l/\Z.roots n=some R/\cB Z R/\iK (mh rs R.tags) sh.ids=true/\Tj R sh.log=true/\
   (∀t∈R.k.tys,aa t sh.own=aa t R.own)/\R'={ R with own:=sh.own,tags:=sh.ids.map fun r=>(r,0),w:=[],h:=[],g:=0,ew:=aaz sh.log,eh:=aay sh.log }
 | [],_,_,_,_,h=>by simp [Ah] at h
 | (r,sh) :: l,c,h,n,R',hm=>by
  simp only [MU] at h
  split at h
  ·rename_i R hR
   obtain ⟨hb,h⟩:=zD h
   split at h
   ·rename_i x y hx hy
    have h2:(x,y)=c:=j4 h
    subst h2
    simp only [Ah] at hm
    cases hn:Nat.beq n r with
    | false=>
     rw [hn] at hm
     obtain ⟨sh',R2,g1,g2⟩:=aaK hy n R' hm
     exact ⟨sh',R2, .tail _ g1,g2⟩
    | true=>
     rw [hn] at hm
     have:=bC hn
     subst this
     simp only [bg] at hb
     obtain ⟨⟨⟨⟨⟨⟨⟨b1,b2⟩,b3⟩,b4⟩,b5⟩,b6⟩,b7⟩,b8⟩:=hb
     obtain ⟨e,ex⟩:=jl hx
     refine ⟨sh,R,by simp,hR,⟨by simpa using b7,b1⟩,b2,b8,fun t ht=>?_, ?_⟩
     ·have:=eH.1 b3 t (e▸ht)
      simp only [beq_iff_eq] at this
      exact this.symm
     ·have Qy:=am9 b4
      have Qz:R.fixed=sh.fixed:=by simpa using b5
      have QA:R.keep=sh.keep:=by simpa using b6
      obtain ⟨k,ow,ids,kd,fx,kp,lg⟩:=sh
      simp only at e ex Qy Qz QA
      obtain ⟨Rk,Rx,Ql,Qm,Rw,Rh,Rg,Qk,aok,Qj,Qi,Qh⟩:=R
      simp only at e ex Qy Qz QA
      subst e Qy Qz QA
      simp only at ex
      subst ex
      simp only [gJ,au] at hm
      exact hm.symm
   ·simp at h
  ·simp at h
theorem aaL:∀{l:List (Nat×zm)} (c:Cont (xu l)) {r:Nat},(∃q∈l,q.1=r)->∃R',Ah l c r=some R'
 | [],_,_,h=>by obtain ⟨q,h,_⟩:=h; simp at h
 | (s,sh) :: l,c,r,h=>by
  simp only [Ah]
  cases hb:Nat.beq r s with
  | true=>exact ⟨_,rfl⟩
  | false=>
   refine aaL c.2 ?_
   obtain ⟨q,h1,h2⟩:=h
   rcases bT.1 h1 with h | h
   ·subst h; simp only at h2; subst h2; simp at hb
   ·exact ⟨q,h,h2⟩
theorem pM.of {s:zf} (hs:Xo fP rs s) {c:s.V} (h:Ew rs s Z=some c):pM Z fP rs (yD s c):=by
 unfold Ew at h
 split at h
 ·rename_i x y hx hy
  have h2:Cont.app (uj s.ss) (xu s.rs) x y=c:=j4 h
  subst h2
  have e1:(yD s (Cont.app (uj s.ss) (xu s.rs) x y)).slots=mkS s.ss x:=by unfold yD; rw [II]
  have e2:(yD s (Cont.app (uj s.ss) (xu s.rs) x y)).roots=Ah s.rs y:=by unfold yD; rw [J4]
  refine ⟨fun r R' hr=>?_,fun r hr=>?_,fun n=>?_,hs.fP⟩
  ·rw [e2] at hr
   obtain ⟨sh,R,g1,g2,g3,g4,g5,g6,g7⟩:=aaK hy r R' hr
   obtain ⟨f1,f2,f3,f4⟩:=hs.roots _ g1
   refine ⟨f1,f2,R,⟨g2,g3.1⟩,g3,⟨_,_,_,_,g7,g6⟩, ?_, ?_, ?_⟩
   ·intro t ht hi
    rw [g7]
    obtain ⟨n,hn⟩:=Oi g4 t ht hi
    obtain ⟨i,hi1,hi2⟩:=fI.1 hn
    simp only [bS] at hi2
    have h0:n=0:=hi2.2.symm
    subst h0
    exact hn
   ·intro t ht
    rw [g7] at ht
    obtain ⟨i,h1,rfl⟩:=fI.1 ht
    exact ⟨rfl,f3 i h1⟩
   ·intro k wt ht hq
    simp only at f4
    rw [f4,hq] at g5 g7
    simp only [Tj,xx,bg,rG] at g5
    obtain ⟨p1,⟨⟨⟨p2,p3⟩,p4⟩,p5⟩,p6⟩:=g5
    subst g7
    exact ⟨K.eq_of_beq p1,rfl,rfl,p2,p3,p4,p5,bC p6⟩
  ·rw [e2]
   exact aaL y (hs.keys r hr)
  ·rw [e1]
   rcases TC hx n with h | ⟨sh,av,d,g1,g2,g3,g4⟩
   ·exact .inl h
   ·exact .inr ⟨sh,av,d,g2,g3,g4,hs.slots _ g1⟩
 ·simp at h
theorem acf:∀{l:List (TypeId×Dat×List Tag)},∀i∈(JY rs l).flatMap (fun c=>c.2.2),qa rs i
 | [],i,h=>by simp [JY] at h
 | (t,d,tags) :: l,i,h=>by
  simp only [JY,kQ,bW] at h
  rcases h with h | h
  ·exact (Fq.1 h).2
  ·exact acf i h
theorem Yy {rs ex:List Nat}:∀i∈Iz rs ex,qa rs i:=by
 intro i hi
 unfold Iz at hi
 rw [eF,nZ,b_] at hi
 exact hi.2
theorem anF {ex:List Nat} {av:AV}:∀i∈(Uu rs ex av).CL,qa rs i:=by
 intro i hi
 cases av <;> simp only [Uu,oO.CL,wR] at hi
 ·rcases bW.1 hi with hi | hi
  ·exact (Fq.1 hi).2
  ·exact Yy i hi
 ·exact (Fq.1 hi).2
 ·exact acf i hi
theorem ach {wd:List (Nat×List Nat)}:∀{l:List Nat},∀q∈J2 wd rs Z l,∀i∈q.2.CL,qa rs i
 | [],q,h,_,_=>by simp [J2] at h
 | s :: l,q,h,i,hi=>by
  simp only [J2,bT] at h
  rcases h with h | h
  ·subst h
   split at hi
   ·exact anF i hi
   ·simp [oO.CL] at hi
  ·exact ach q h i hi
theorem acg {wd:List (Nat×List Nat)}:∀{l:List Nat} {q:List (Nat×zm)},JZ wd fP rs Z l=some q->(∀z∈q,z.1∈l/\∃R,Z.roots z.1=some R/\z.2.ids=mh rs R.tags++(Iz rs (Ch (2 * z.1+1) wd)).filter (fun q=>!Nat.beq q z.1)/\z.2.log=oF z.1 fP)/\∀r∈l,∃z∈q,z.1=r
 | [],q,h=>by simp [JZ] at h; subst h; simp
 | r :: l,q,h=>by
  simp only [JZ] at h
  split at h
  ·rename_i R q' hR hq
   obtain ⟨i1,i2⟩:=acg hq
   simp only [au] at h
   subst h
   refine ⟨fun z hz=>?_,fun r' hr=>?_⟩
   ·rcases bT.1 hz with h | h
    ·subst h; exact ⟨by simp,R,hR,rfl,rfl⟩
    ·obtain ⟨f1,f2⟩:=i1 z h
     exact ⟨.tail _ f1,f2⟩
   ·rcases bT.1 hr with h | h
    ·exact ⟨_,jE,h.symm⟩
    ·obtain ⟨z,z1,z2⟩:=i2 r' h
     exact ⟨z, .tail _ z1,z2⟩
  ·simp at h
theorem YD:∀{l:BG} {r:Nat} {q},oF r l=some q->∃p∈l,p.1=r
 | [],_,_,h=>by simp [oF] at h
 | (s,p) :: l,r,q,h=>by
  simp only [oF] at h
  cases hb:Nat.beq r s with
  | true=>exact ⟨_,jE,(bC hb).symm⟩
  | false=>
   rw [hb] at h
   obtain ⟨p',h1,h2⟩:=YD h
   exact ⟨p', .tail _ h1,h2⟩
theorem anG {wd:List (Nat×List Nat)} (H:Rel cx Z J F a w) {ss:List Nat} {s:zf} (h:Uw wd fP ss rs Z=some s):Xo fP rs s:=by
 unfold Uw at h
 split at h
 ·rename_i q hq
  obtain ⟨hb,h⟩:=zD h
  simp only [au] at h
  subst h
  obtain ⟨i1,i2⟩:=acg hq
  refine ⟨ach,fun z hz=>?_,i2,fun r q hf=>?_⟩
  ·obtain ⟨f1,R,f2,f3,f4⟩:=i1 z hz
   obtain ⟨_,g2,g3⟩:=H.gy _ R f2
   refine ⟨f1,g2,fun i hi=>?_,f4⟩
   rw [f3] at hi
   rcases bW.1 hi with hi | hi
   ·obtain ⟨⟨n,hn⟩,h2⟩:=Fq.1 hi
    exact ⟨h2,fun e=>g3 n (e▸hn)⟩
   ·rw [eF] at hi
    refine ⟨Yy i hi.1,fun e=>?_⟩
    subst e
    have:=hi.2
    simp at this
  ·obtain ⟨p,p1,p2⟩:=YD hf
   have:=eH.1 hb p p1
   rw [<-p2]
   exact b_.1 this
 ·simp at h
end
end
section
open Go
variable [Fr]
def Iy:Exit->Option Ex
 | .normal=>some .normal
 | .exit i=>some (.exit i)
 | .ret=>some .ret
 | _=>none
section
variable {P:Program} {T:bH} {hi:Hint} {n:Nat} {cx:Cx} {Z:St} {J:aH} {F:List Nat} {a:Act} {w:World} {R:Type} {r:R} {ag:Option R->Option R->Option R}
def QK (cx:Cx) (K:Ex->St->Option R) (r:R) (e:Exit) (a:Act) (w:World):Prop:=∃x Z J F,Iy e=some x/\K x Z=some r/\Rel cx Z J F a w
theorem least {p:Nat->Prop} (h:∃n,p n):∃m,p m/\∀k,p k->m<=k:=by
 obtain ⟨n,hn⟩:=h
 induction n using Nat.strongRecOn with
 | _ n ih=>
  by_cases hk:∃k,k<n/\p k
  ·obtain ⟨k,h1,h2⟩:=hk
   exact ih k h1 h2
  ·exact ⟨n,hn,fun k h=>Nat.le_of_not_lt fun hlt=>hk ⟨k,hlt,h⟩⟩
theorem ahX (hag:∀{a b z},ag a b=some z->a=some z/\b=some z) (hm:P.follows .mixedOrders=true) (hT:fJ P T) (hSt:wT P T) (hC:xG P n hi) (hnt:hi.nt=cx.nt) (hP:Qf cx hi.fP) :
  ∀(code:Code) (b:Nat) {Z:St} {J:aH} {F:List Nat} {a:Act} {w:World} {K:Ex->St->Option R},den T hi n ag b code Z K=some r->Rel cx Z J F a w->code.wp P (QK cx K r) a w:=by
 intro code
 induction code with
 | skip=>intro b Z J F a w K h H; exact wp_skip ⟨_,_,_,_,rfl,h,H⟩
 | exit id=>intro b Z J F a w K h H; exact wp_exit ⟨_,_,_,_,rfl,h,H⟩
 | ret=>intro b Z J F a w K h H; exact wp_ret ⟨_,_,_,_,rfl,h,H⟩
 | seq x y Ny Jg=>
  intro b Z J F a w K h H
  refine wp_seq (wp_mono (Ny b h H) ?_)
  rintro e a' w' ⟨ex,Z',J',F',h1,h2,h3⟩
  cases e <;> simp only [Iy,au,reduceCtorEq] at h1
  ·subst h1; exact Jg b h2 h3
  ·subst h1; exact ⟨_,_,_,_,rfl,h2,h3⟩
  ·subst h1; exact ⟨_,_,_,_,rfl,h2,h3⟩
 | cond c x y Ny Jg=>
  intro b Z J F a w K h H
  simp only [den] at h
  obtain ⟨v0,h1,h2⟩:=Dc _ h
  obtain ⟨v,g1,g2,g3⟩:=jT H h1
  have ev:v0=v:=g3
  subst ev
  have hplain:((asBool v0 .ret).run Z fun t=>if t=true then den T hi n ag b x Z K else den T hi n ag b y Z K)=some r->Code.wp P (.cond c x y) (QK cx K r) a w:=by
   intro h2
   obtain ⟨t,h3,h4⟩:=Dc _ h2
   obtain ⟨b',e1,e2⟩:=XK g1 h3
   have e2':t=b':=e2
   subst e2'
   refine wp_cond (t:=t) e1 ?_
   cases t with
   | true=>exact Ny b h4 H
   | false=>exact Jg b h4 H
  cases v0 with
  | pz e=>
   simp only at h2
   obtain ⟨b',e1,e2⟩:=g1
   refine wp_cond (t:=b') e1 ?_
   cases b' with
   | true=>
    rw [aj (e2 rfl)] at h2
    exact Ny b (hag h2).1 H
   | false=>
    split at h2
    ·exact Jg b (hag h2).2 H
    ·exact Jg b h2 H
  | _=>exact hplain h2
 | block id x ih=>
  intro b Z J F a w K h H
  simp only [den] at h
  refine wp_block (wp_mono (ih id h H) ?_)
  rintro e a' w' ⟨ex,Z',J',F',h1,h2,h3⟩
  cases e <;> simp only [Iy,au,reduceCtorEq] at h1
  ·subst h1; exact ⟨_,_,_,_,rfl,h2,h3⟩
  ·rename_i i
   subst h1
   simp only at h2
   unfold Exit.inBlock
   simp only
   cases hb:Nat.beq i id with
   | true=>
    rw [hb] at h2
    rw [aj (bC hb)]
    exact ⟨_,_,_,_,rfl,h2,h3⟩
   | false=>
    rw [hb] at h2
    rw [aA (Ml hb)]
    exact ⟨_,_,_,_,rfl,h2,h3⟩
  ·subst h1; exact ⟨_,_,_,_,rfl,h2,h3⟩
 | loop x ih=>
  intro b Z J F a w K h H
  simp only [den] at h
  split at h
  ·rename_i ss rs hf
   split at h
   ·rename_i s hs
    obtain ⟨αl,Hl⟩:=Tt hi rs H
    have hok:=anG Hl hs
    split at h
    ·rename_i c hc
     have H0:=abO Hl hP (pM.of hok hc)
     generalize hB:(fun (L:s.V->Option R) v=>den T hi n ag b x (yD s v) fun
      | .normal,Z'=>match Ew rs s (CU hi rs Z') with
       | some v'=>L v'
       | none=>none
      | e,Z'=>K e Z')=B at h
     have yj:∀(L:s.V->Option R) v,B L v=den T hi n ag b x (yD s v) fun
      | .normal,Z'=>match Ew rs s (CU hi rs Z') with
       | some v'=>L v'
       | none=>none
      | e,Z'=>K e Z':=fun L v=>by rw [<-hB]
     let I:Nat->Act->World->Prop:=fun m a w=>∃v J F,rounds B m v=some r/\Rel cx (yD s v) J F a w
     have hex:∀{m:Nat} {a:Act} {w:World},I m a w->∃m,I m a w:=fun h=>⟨_,h⟩
     classical
     refine wp_loop (fun a w=>∃m,I m a w) (fun a w=>if h:∃m,I m a w then Classical.choose (least h) else 0) ⟨_,_,_,_,h,H0⟩ ?_
     intro a w hI
     rw [dif_pos hI]
     have hI2:=(Classical.choose_spec (least hI)).1
     generalize Classical.choose (least hI)=m at hI2
     obtain ⟨v,J,F,h1,h2⟩:=hI2
     cases m with
     | zero=>simp [rounds] at h1
     | succ m=>
      have h1':B (rounds B m) v=some r:=h1
      rw [yj] at h1'
      refine wp_mono (ih b h1' h2) ?_
      rintro e a' w' ⟨ex,Z',J',F',g1,g2,g3⟩
      cases e <;> simp only [Iy,au,reduceCtorEq] at g1
      ·subst g1
       simp only at g2
       split at g2
       ·rename_i v' hv'
        obtain ⟨αm,Hm⟩:=Tt hi rs g3
        have hI':I m a' w':=⟨v',_,_,g2,abO Hm hP (pM.of hok hv')⟩
        refine ⟨⟨m,hI'⟩, ?_⟩
        rw [dif_pos ⟨m,hI'⟩]
        exact Nat.lt_succ_of_le ((Classical.choose_spec (least ⟨m,hI'⟩)).2 m hI')
       ·simp at g2
      ·subst g1; exact ⟨_,_,_,_,rfl,g2,g3⟩
      ·subst g1; exact ⟨_,_,_,_,rfl,g2,g3⟩
    ·simp at h
   ·simp at h
  ·simp at h
 | region id ops draw=>
  intro b Z J F a w K h H
  simp only [den] at h
  cases draw with
  | true=>
   have H':Rel cx Z J F a { w with drawn:=w.drawn+1 }:=H.drawn (w.drawn+1)
   exact wp_region_any hm (aiZ hT hSt hC hnt (fun Z' J' F' a' w' h1 h2=>⟨_,_,_,_,rfl,h1,h2⟩) h H')
  | false=>
   refine wp_region ?_
   have:=ai0 (P:=P) (Q:=QK cx K r) hT hSt hC hnt (fun Z' J' F' a' w' h1 h2=>⟨_,_,_,_,rfl,h1,h2⟩) ops.toList 0 (by simp) h H
   rw [OC, <-List.range_eq_range'] at this
   exact this
 | _=>intro b Z J F a w K h; simp [den] at h
end
end
end Go.Proofs.YtailcbngagacaaaGreat.Ow
