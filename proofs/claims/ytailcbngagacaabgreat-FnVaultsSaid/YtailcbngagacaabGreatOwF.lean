/- A verified reading of translated code, part F of 7. No condition. -/
import Derived.Test.YtailcbngagacaabGreatOwE
set_option linter.unusedSectionVars false
set_option linter.unusedVariables false
set_option linter.unusedSimpArgs false
namespace Go.Proofs.YtailcbngagacaabGreat.Ow
section
open Go
variable [Fr]
def iU (g:GA):List Nat:=(match g.base with
 | some q=>[q.1]
 | none=>[])++g.fo
def CP:aV->List Nat
 | .val _ bF=>bF
 | _=>[]
def rC:aV->Nat
 | .rw k _ _ _=>k.size
 | _=>0
def kT (cx:Cx) (Z:St) (J:aH) (F:List Nat) (w:World) (ps:List aV) (c:Cont (kin ps)) (is:List bM) (gs:List GA):Cx where
 nt:=0
 w0:=w
 ext:=fun j b=>(∃i,is[j]?=some i/\bH cx Z J F w i.ids b)/\∀(m:Nat) (g:GA) (q:Nat×Nat),gs[m]?=some g->g.base=some q->b≠q.1
 par:=fun j=>match gs[j]?,ps[j]? with
  | some g,some p=>bif g.ow || g.wb then some ⟨g.base.map fun q=>(q.1,q.2,rC p),iU g,g.wb⟩ else none
  | _,_=>none
 ptrs:=fun j q ts v=>∃g R0 c0 b o,gs[j]?=some g/\g.wb=true/\iK (iJ ps 0 c) (ah j)=some R0/\ts=iW q R0.k/\(∀t∈az q R0.k,aa t R0.own=true)/\bY q R0.k R0.x/\aT (hp w) q R0.k g.cs g.base=some (c0,some (b,o))/\v=.pointer (some ⟨b,o,none⟩)
 refs:=fun j v=>∃g,gs[j]?=some g/\g.v=v/\g.base=none/\g.wb=true
def tF (gs:List GA):aH where
 loc:=fun r=>((gs[r / 4]?).bind (·.base)).getD (0,0)
 hdr:=fun r=>((gs[r / 4]?).map (·.cs)).getD []
 fo:=fun r=>((gs[r / 4]?).map (·.fo)).getD []
theorem aa9 (j:Nat):ah j / 4=j:=by unfold ah; omega
theorem Ad (j:Nat):g_ (ah j)=false:=by
 unfold g_ ah
 have:4 * j % 4=0:=by omega
 rw [this]; rfl
section
variable {P:Program} {T:bI} {cx:Cx} {Z:St} {J:aH} {F:List Nat} {a:Act} {w:World} {ps:List aV} {c:Cont (kin ps)} {vs:List Value} {is:List bM} {gs:List GA}
structure Apart (cx:Cx) (Z:St) (J:aH) (F:List Nat) (w:World) (ps:List aV) (is:List bM) (gs:List GA):Prop where
 one:∀(j j':Nat) (g g':GA),gs[j]?=some g->gs[j']?=some g'->g.wb=true->g'.wb=true->j=j'
 own:(gs.flatMap fun g=>bif g.ow then g.fo else []).Nodup
 bF:∀(j:Nat) (p:aV) (i:bM) (r n:Nat),ps[j]?=some p->is[j]?=some i->(r,n)∈i.ids->∀(m:Nat) (i':bM) q,is[m]?=some i'->i'.wb=some (r,q)->m∈CP p/\∃k bF,p=.val k bF/\∀b∈i'.bt,b∉k.tys
 prw:∀(j:Nat) (p:aV),ps[j]?=some p->∀m∈CP p,∃(i':bM) (q:Nat×List Stp×List TypeId×List TypeId),is[m]?=some i'/\i'.wb=some q
theorem flatMap_apart {A:Type} {f:A->List Nat}:∀{l:List A} {i j:Nat} {x y:A},(l.flatMap f).Nodup->l[i]?=some x->l[j]?=some y->i≠j->∀b∈f x,b∉f y:=by
 intro l
 induction l with
 | nil=>intro i j x y _ h; simp at h
 | cons z l ih=>
  intro i j x y hnd hi hj hne b hb hb'
  simp only [kS] at hnd
  have n:=cK.1 hnd
  cases i with
  | zero=>
   simp only [qM,au] at hi
   subst hi
   cases j with
   | zero=>exact hne rfl
   | succ j=>exact n.2.2 b hb b (jY.2 ⟨y,qm (by simpa using hj),hb'⟩) rfl
  | succ i=>
   cases j with
   | zero=>
    simp only [qM,au] at hj
    subst hj
    exact n.2.2 b hb' b (jY.2 ⟨x,qm (by simpa using hi),hb⟩) rfl
   | succ j=>exact ih n.2.1 (by simpa using hi) (by simpa using hj) (by omega) b hb hb'
theorem aop {p:aV} {cj:Cont p.kin} {v:Value} {i:bM} {g:GA} (h:uw cx Z J F a w p cj v i g) (hw:g.wb=true) :
  ∃(k:K) (x:El k) (ow wt ht:List TypeId) (r:Nat) (R:Root) (q:List Stp) (wh:Option (Nat×Nat)),((p=.rw k ow wt ht/\i.bt=[iV R q]/\∃b o,wh=some (b,o)/\v=.pointer (some ⟨b,o,none⟩)/\g.base=some (b,o)/\b∉g.fo)\/(p=.bR k ow wt/\ht=k.tys/\i.bt=[]/\VC k v g.cs/\g.base=none))/\
   zn cx Z J w k x ow i wt ht r R q/\aT (hp w) q R.k (J.hdr r) (aM J R r)=some (g.cs,wh)/\Ow (hp w) R.own (bH cx Z J F w R.tags) k x g.cs g.fo/\(∀b∈g.fo,b∈J.fo r)/\g.fo.Nodup/\g.ow=false/\g.v=v:=by
 obtain ⟨hv,h⟩:=h
 cases p with
 | val k bF=>rw [h.2.1] at hw; simp at hw
 | ro k=>rw [h.2.1] at hw; simp at hw
 | rw k ow wt ht=>
  obtain ⟨h1,h2,r,R,q,b,o,h3,h4,h5,h6,h7,h8,h9,h10,h11,_⟩:=h
  exact ⟨k,cj.1,ow,wt,ht,r,R,q,some (b,o), .inl ⟨rfl,h4,b,o,rfl,h6,h7,h11⟩,h3,h5,h8,h9,h10,h1,hv⟩
 | bR k ow wt=>
  obtain ⟨h1,h2,r,R,q,wh,h3,h4,h5,h6,h7,h8,h9,h10,_⟩:=h
  exact ⟨k,cj.1,ow,wt,k.tys,r,R,q,wh, .inr ⟨rfl,rfl,h4,h6,h7⟩,h3,h5,h8,h9,h10,h1,hv⟩
 | own k ow=>rw [h.2.1] at hw; simp at hw
 | fn f ks=>rw [h.2.1] at hw; simp at hw
 | into j q=>rw [h.2.1] at hw; simp at hw
structure RD (cx:Cx) (Z:St) (J:aH) (F:List Nat) (w:World) (ps:List aV) (vs:List Value) (is:List bM) (gs:List GA) (j:Nat) (R:Root) (g:GA) (i:bM) (p:aV):Prop where
 hg:gs[j]?=some g
 hi:is[j]?=some i
 hq:ps[j]?=some p
 hv:vs[j]?=some g.v
 held:g.ow=true\/g.wb=true
 bF:CP p=[]
 amO:∀k bF,p≠.val k bF
 lw:R.w=[]
 lh:R.h=[]
 g0:R.g=0
 ew:R.ew=[]
 eh:R.eh=[]
 tags:R.tags=bif R.k.tys.all (fun t=>aa t R.own) then [] else [(jy j,0)]
 ow:Ow (hp w) R.own (bH cx Z J F w i.ids) R.k R.x g.cs g.fo
 nd:g.fo.Nodup
 kind:(R.kind=.par/\rC p=R.k.size/\g.wb=true/\∃b o,g.base=some (b,o)/\b∉g.fo)\/(R.kind=.anon/\g.base=none/\VC R.k g.v g.cs)
theorem Nz {p:aV} {cj:Cont p.kin} {v:Value} {i:bM} {g:GA} {j:Nat} {R:Root} (h:uw cx Z J F a w p cj v i g) (hg:gs[j]?=some g) (hi:is[j]?=some i) (hp:ps[j]?=some p) (hv:vs[j]?=some v) (hR:lM p j cj=some R):RD cx Z J F w ps vs is gs j R g i p:=by
 obtain ⟨h0,h⟩:=h
 subst h0
 have hall:∀{k:K} {ow own:List TypeId},v_ k own ow=true->∀t∈k.tys,aa t ow=aa t own:=fun hj t ht=>by
  have:=eO.1 hj t ht
  exact (by simpa using this:aa t _=aa t _).symm
 cases p with
 | rw k ow wt ht=>
  obtain ⟨h1,h2,r,R0,q,b,o,h3,h4,h5,h6,h7,h8,h9,h10,h11,_⟩:=h
  simp only [lM,au] at hR
  subst hR
  refine ⟨hg,hi,hp,hv, .inr h2,rfl,by simp,rfl,rfl,rfl,rfl,rfl,rfl, ?_,h10, .inl ⟨rfl,rfl,h2,b,o,h7,h11⟩⟩
  rw [h3.ids]
  exact vk (hall h3.just) h8
 | bR k ow wt=>
  obtain ⟨h1,h2,r,R0,q,wh,h3,h4,h5,h6,h7,h8,h9,h10,_⟩:=h
  simp only [lM,au] at hR
  subst hR
  refine ⟨hg,hi,hp,hv, .inr h2,rfl,by simp,rfl,rfl,rfl,rfl,rfl,rfl, ?_,h10, .inr ⟨rfl,h7,h6⟩⟩
  rw [h3.ids]
  exact vk (hall h3.just) h8
 | own k ow=>
  obtain ⟨h1,h2,h3,h4,h5,h6,h7,h8⟩:=h
  simp only [lM,au] at hR
  subst hR
  exact ⟨hg,hi,hp,hv, .inl h1,rfl,by simp,rfl,rfl,rfl,rfl,rfl,rfl,h6,h8, .inr ⟨rfl,h4,h5⟩⟩
 | val k bF=>simp [lM] at hR
 | ro k=>simp [lM] at hR
 | fn f ks=>simp [lM] at hR
 | into j q=>simp [lM] at hR
theorem M9 {p:aV} {cj:Cont p.kin} {v:Value} {i:bM} {g:GA} (j:Nat) (h:uw cx Z J F a w p cj v i g) (hh:g.ow=true\/g.wb=true):∃R,lM p j cj=some R:=by
 obtain ⟨h0,h⟩:=h
 cases p with
 | rw k ow wt ht=>exact ⟨_,rfl⟩
 | bR k ow wt=>exact ⟨_,rfl⟩
 | own k ow=>exact ⟨_,rfl⟩
 | val k bF=>rcases hh with hh | hh <;> simp [h.1,h.2.1] at hh
 | ro k=>rcases hh with hh | hh <;> simp [h.1,h.2.1] at hh
 | fn f ks=>rcases hh with hh | hh <;> simp [h.1,h.2.1] at hh
 | into j q=>rcases hh with hh | hh <;> simp [h.1,h.2.1] at hh
theorem sj (H:Rel cx Z J F a w) {p:aV} {cj:Cont p.kin} {v:Value} {i:bM} {g:GA} (h:uw cx Z J F a w p cj v i g):(∀b∈iU g,(g.ow=true/\b∈F)\/(g.wb=true/\∃r R q,i.wb=some (r,q)/\aU Z r R/\b∈blk J R r))/\
  (∀b o,g.base=some (b,o)->∃r R q arr e lo hi,i.wb=some (r,q)/\aU Z r R/\b∈blk J R r/\hp w b=some (.cells arr e (lo,hi))/\jo arr.size lo hi/\o+rC p<=arr.size/\Cells (hp w) b o g.cs/\((∀t∈i.bt,t=e)/\i.bt≠[]/\¬nV cx b\/nV cx b))/\
  (∀b∈g.fo,g.wb=true->∃r R q,i.wb=some (r,q)/\aU Z r R/\b∈J.fo r)/\(g.wb=true↔i.wb≠none):=by
 obtain ⟨hv,h⟩:=h
 cases p with
 | val k bF=>
  obtain ⟨h1,h2,h3,h4,h5,_⟩:=h
  exact ⟨fun b hb=>by simp [iU,h4,h5] at hb,fun b o hb=>by rw [h5] at hb; simp at hb,fun b hb=>by rw [h4] at hb; simp at hb,by simp [h2,h3]⟩
 | ro k=>
  obtain ⟨h1,h2,h3,h4,h5,_⟩:=h
  exact ⟨fun b hb=>by simp [iU,h4,h5] at hb,fun b o hb=>by rw [h5] at hb; simp at hb,fun b hb=>by rw [h4] at hb; simp at hb,by simp [h2,h3]⟩
 | fn f ks=>
  obtain ⟨h1,h2,h3,h4,h5,_⟩:=h
  exact ⟨fun b hb=>by simp [iU,h4,h5] at hb,fun b o hb=>by rw [h5] at hb; simp at hb,fun b hb=>by rw [h4] at hb; simp at hb,by simp [h2,h3]⟩
 | own k ow=>
  obtain ⟨h1,h2,h3,h4,h5,h6,h7,h8⟩:=h
  exact ⟨fun b hb=>.inl ⟨h1,h7 b (by simpa [iU,h4] using hb)⟩,fun b o hb=>by rw [h4] at hb; simp at hb,fun b hb hw=>by rw [h2] at hw; simp at hw,by simp [h2,h3]⟩
 | bR k ow wt=>
  obtain ⟨h1,h2,r,R,q,wh,h3,h4,h5,h6,h7,h8,h9,h10,_⟩:=h
  have hf:∀b∈g.fo,b∈blk J R r:=fun b hb=>bC _ (h9 b hb)
  exact ⟨fun b hb=>.inr ⟨h2,r,R,_,h3.wb,h3.lv,hf b (by simpa [iU,h7] using hb)⟩,fun b o hb=>by rw [h7] at hb; simp at hb,fun b hb _=>⟨r,R,_,h3.wb,h3.lv,h9 b hb⟩,by simp [h2,h3.wb]⟩
 | rw k ow wt ht=>
  obtain ⟨h1,h2,r,R,q,b,o,h3,h4,h5,h6,h7,h8,h9,h10,h11,_⟩:=h
  have hf:∀b∈g.fo,b∈blk J R r:=fun b hb=>bC _ (h9 b hb)
  obtain ⟨m1,_,m2,⟨arr,e,lo,hi,m3,m4,m5,m6⟩,_⟩:=xw H h3.lv h3.vl h3.get h3.pin h3.own h5
  refine ⟨fun b' hb=>?_,fun b' o' hb=>?_,fun b hb _=>⟨r,R,_,h3.wb,h3.lv,h9 b hb⟩,by simp [h2,h3.wb]⟩
  ·refine .inr ⟨h2,r,R,_,h3.wb,h3.lv, ?_⟩
   simp only [iU,h7,lF,rO,bT] at hb
   rcases hb with hb | hb
   ·subst hb; exact m2
   ·exact hf b' hb
  ·rw [h7] at hb
   simp only [au,bS] at hb
   obtain ⟨rfl,rfl⟩:=hb
   refine ⟨r,R,_,arr,e,lo,hi,h3.wb,h3.lv,m2,m3,m4,m5,m1, ?_⟩
   rcases m6 with ⟨m6,m7⟩ | ⟨m6,_⟩
   ·exact .inl ⟨fun t ht=>by rw [h4] at ht; simp only [fV] at ht; rw [ht,m6],by rw [h4]; simp,m7⟩
   ·exact .inr m6
 | into j q=>
  obtain ⟨h1,h2,h3,h4,h5,_⟩:=h
  exact ⟨fun b hb=>by simp [iU,h4,h5] at hb,fun b o hb=>by rw [h5] at hb; simp at hb,fun b hb=>by rw [h4] at hb; simp at hb,by simp [h2,h3]⟩
end
end
section
open Go
variable [Fr]
section
variable {P:Program} {T:bI} {cx:Cx} {Z:St} {J:aH} {F:List Nat} {a:Act} {w:World} {ps:List aV} {c:Cont (kin ps)} {vs:List Value} {is:List bM} {gs:List GA}
theorem xY {j:Nat} {g:GA} (h:gs[j]?=some g):(tF gs).loc (ah j)=g.base.getD (0,0)/\(tF gs).hdr (ah j)=g.cs/\(tF gs).fo (ah j)=g.fo:=by
 simp [tF,aa9,h]
theorem RD.blk {j:Nat} {R:Root} {g:GA} {i:bM} {p:aV} (D:RD cx Z J F w ps vs is gs j R g i p):blk (tF gs) R (ah j)=iU g:=by
 obtain ⟨h1,h2,h3⟩:=xY D.hg
 unfold Ow.blk iU aM
 rw [h1,h3]
 rcases D.kind with ⟨hk,_,_,b,o,hb,_⟩ | ⟨hk,hb,_⟩
 ·rw [hk,hb]; rfl
 ·rw [hk,hb]
theorem RD.wh {j:Nat} {R:Root} {g:GA} {i:bM} {p:aV} (D:RD cx Z J F w ps vs is gs j R g i p):aM (tF gs) R (ah j)=g.base:=by
 obtain ⟨h1,h2,h3⟩:=xY D.hg
 unfold aM
 rw [h1]
 rcases D.kind with ⟨hk,_,_,b,o,hb,_⟩ | ⟨hk,hb,_⟩
 ·rw [hk,hb]; rfl
 ·rw [hk,hb]
theorem RD.live {j:Nat} {R:Root} {g:GA} {i:bM} {p:aV} (D:RD cx Z J F w ps vs is gs j R g i p):R.bZ=false:=by
 unfold Root.bZ
 rcases D.kind with ⟨hk,_⟩ | ⟨hk,_⟩ <;> rw [hk]
theorem alL (H:Rel cx Z J F a w) (hJ:wL cx Z J F a w ps c vs is gs) (hA:Apart cx Z J F w ps is gs):Rel (kT cx Z J F w ps c is gs) (fE ps c) (tF gs) [] ⟨vs.toArray,[]⟩ w:=by
 obtain ⟨lv,li,lg,hat⟩:=hJ.at (i0:=0)
 simp only [og] at hat
 have hroot:∀{r:Nat} {R:Root},(fE ps c).roots r=some R->∃j g i p,r=ah j/\RD cx Z J F w ps vs is gs j R g i p:=by
  intro r R h
  obtain ⟨j,p,h1,h2⟩:=amn (show iK (iJ ps 0 c) r=some R from h)
  simp only [og] at h1
  subst h1
  obtain ⟨cj,v,i,g,e1,e2,e3,e4,e5,e6⟩:=hat j p h2
  have hR:lM p j cj=some R:=by rw [<-e6]; exact h
  exact ⟨j,g,i,p,rfl,Nz e4 e3 e2 h2 e1 hR⟩
 have alm:∀{j:Nat} {R:Root},(fE ps c).roots (ah j)=some R->∃g i p,RD cx Z J F w ps vs is gs j R g i p:=by
  intro j R h
  obtain ⟨j',g,i,p,h1,h2⟩:=hroot h
  have:=aa_ h1
  subst this
  exact ⟨g,i,p,h2⟩
 have hmk:∀{j:Nat} {g:GA},gs[j]?=some g->(g.ow=true\/g.wb=true)->∃R i p,(fE ps c).roots (ah j)=some R/\RD cx Z J F w ps vs is gs j R g i p:=by
  intro j g hg hh
  have hj:j<ps.length:=by have:=(ql.1 hg).1; omega
  obtain ⟨cj,v,i,g',e1,e2,e3,e4,e5,e6⟩:=hat j ps[j] (jc hj)
  rw [hg] at e3
  simp only [au] at e3
  subst e3
  obtain ⟨R,hR⟩:=M9 j e4 hh
  have hr:(fE ps c).roots (ah j)=some R:=by show iK (iJ ps 0 c) (ah j)=some R; rw [e6,hR]
  exact ⟨R,i,ps[j],hr,Nz e4 hg e2 (jc hj) e1 hR⟩
 have hgj:∀{j:Nat} {g:GA},gs[j]?=some g->∃p cj v i,ps[j]?=some p/\vs[j]?=some v/\is[j]?=some i/\uw cx Z J F a w p cj v i g:=by
  intro j g hg
  have hj:j<ps.length:=by have:=(ql.1 hg).1; omega
  obtain ⟨cj,v,i,g',e1,e2,e3,e4,_⟩:=hat j ps[j] (jc hj)
  rw [hg] at e3
  simp only [au] at e3
  subst e3
  exact ⟨ps[j],cj,v,i,jc hj,e1,e2,e4⟩
 have Cj:∀{j:Nat} {g:GA} {b:Nat},gs[j]?=some g->b∈iU g->(g.ow=true/\b∈F)\/(g.wb=true/\∃i r R q,is[j]?=some i/\i.wb=some (r,q)/\aU Z r R/\b∈blk J R r):=by
  intro j g b hg hb
  obtain ⟨p,cj,v,i,e1,e2,e3,e4⟩:=hgj hg
  rcases (sj H e4).1 b hb with h | ⟨h,r,R,q,h1⟩
  ·exact .inl h
  ·exact .inr ⟨h,i,r,R,q,e3,h1⟩
 have hmn:∀{j:Nat} {g:GA} {b:Nat},gs[j]?=some g->b∈iU g->mine cx w b:=by
  intro j g b hg hb
  rcases Cj hg hb with ⟨_,h⟩ | ⟨_,i,r,R,q,_,_,h1,h2⟩
  ·exact H.fl b h
  ·exact (H.roots r R h1).mine b h2
 have hlt:∀{j:Nat} {g:GA} {b:Nat},gs[j]?=some g->b∈iU g->b<w.heap.size:=fun hg hb=>(hmn hg hb).1
 have ZP:∀{j:Nat} {g:GA} {b:Nat},gs[j]?=some g->g.ow=true->b∈iU g->b∈g.fo:=by
  intro j g b hg ho hb
  obtain ⟨p,cj,v,i,e1,e2,e3,e4⟩:=hgj hg
  unfold iU at hb
  cases hbase:g.base with
  | none=>rw [hbase] at hb; simpa using hb
  | some q=>
   exfalso
   obtain ⟨q1,q2⟩:=q
   obtain ⟨r,R,q,_,_,_,_,h1,_⟩:=(sj H e4).2.1 q1 q2 hbase
   have hw:g.wb=true:=(sj H e4).2.2.2.2 (by rw [h1]; simp)
   obtain ⟨_,h⟩:=e4
   cases p <;> first | (obtain ⟨g1,g2,_⟩:=h; rw [ho] at g1; simp at g1; done) | (obtain ⟨g1,g2,_⟩:=h; rw [hw] at g2; simp at g2; done) | exact h.elim
 have Zn:∀{j j':Nat} {g g':GA} {b:Nat},gs[j]?=some g->gs[j']?=some g'->j≠j'->b∈iU g->b∉iU g':=by
  intro j j' g g' b hg hg' hne hb hb'
  rcases Cj hg hb with ⟨ho,h⟩ | ⟨hw,i,r,R,q,_,_,h1,h2⟩
  ·rcases Cj hg' hb' with ⟨ho',h'⟩ | ⟨_,i',r',R',q',_,_,h1',h2'⟩
   ·refine flatMap_apart hA.own hg hg' hne b ?_ ?_
    ·rw [ho]; exact ZP hg ho hb
    ·rw [ho']; exact ZP hg' ho' hb'
   ·exact H.fC r' R' h1' b h2' h
  ·rcases Cj hg' hb' with ⟨_,h'⟩ | ⟨hw',_⟩
   ·exact H.fC r R h1 b h2 h'
   ·exact hne (hA.one j j' g g' hg hg' hw hw')
 have hnd:∀{j:Nat} {R:Root} {g:GA} {i:bM} {p:aV},RD cx Z J F w ps vs is gs j R g i p->(iU g).Nodup:=by
  intro j R g i p D
  unfold iU
  rcases D.kind with ⟨_,_,_,b,o,hb,hno⟩ | ⟨_,hb,_⟩
  ·rw [hb]; exact jg.2 ⟨hno,D.nd⟩
  ·rw [hb]; exact D.nd
 have SL:∀{j m:Nat} {i:bM} {p:aV} {g:GA} {b:Nat},is[j]?=some i->ps[j]?=some p->mH Z J F w i.ids b->gs[m]?=some g->b∈iU g->m∈CP p/\(∃k bF,p=.val k bF/\∀i',is[m]?=some i'->∀t∈i'.bt,t∉k.tys):=by
  intro j m i p g b hi hp hb hg hbf
  rcases Cj hg hbf with ⟨_,h⟩ | ⟨_,i',r,R,q,h0,h1,h2,h3⟩
  ·exact absurd h hb.2.1
  ·obtain ⟨n,hn⟩:=hb.2.2 r R h2 h3
   obtain ⟨g1,k,bF,g2,g3⟩:=hA.bF j p i r n hp hi hn m i' q h0 h1
   refine ⟨g1,k,bF,g2,fun Cv h=>?_⟩
   rw [h0] at h
   simp only [au] at h
   subst h
   exact g3
 have R5:∀{j:Nat} {i:bM} {p:aV} {b:Nat},is[j]?=some i->ps[j]?=some p->bH cx Z J F w i.ids b->(∀k bF,p=.val k bF->∃t∈k.tys,mg (hp w) b t)->(kT cx Z J F w ps c is gs).ext j b:=by
  intro j i p b hi hp hb ht
  refine ⟨⟨i,hi,hb⟩,fun m g q hg hbase e=>?_⟩
  have hbf:b∈iU g:=by unfold iU; rw [hbase,e]; simp
  obtain ⟨_,k,bF,h1,h2⟩:=SL hi hp hb.q hg hbf
  obtain ⟨p',cj,v,i',e1,e2,e3,e4⟩:=hgj hg
  obtain ⟨r,R,q',arr,e',lo,hi',f1,f2,f3,f4,f5,f6,f7,f8⟩:=(sj H e4).2.1 q.1 q.2 (by rw [hbase])
  rcases f8 with ⟨f8,f9,f10⟩ | f8
  ·obtain ⟨t,ht1,ht2⟩:=ht k bF h1
   have ht2:=H.C9 (hmn hg hbf) ht2
   rw [e] at ht2
   unfold jR at ht2
   rw [f4] at ht2
   simp only [au] at ht2
   cases hbt:i'.bt with
   | nil=>exact f9 hbt
   | cons t0 l=>
    have hm:t0∈i'.bt:=by rw [hbt]; simp
    exact h2 i' e3 t0 hm (by rw [f8 t0 hm,ht2]; exact ht1)
  ·exact hb.2.2.1 (e▸f8)
 have Sw:∀{j:Nat} {i:bM} {p:aV} {b:Nat} {T:List Tag},is[j]?=some i->ps[j]?=some p->(kT cx Z J F w ps c is gs).ext j b->(jy j,0)∈T->(∀n∈CP p,(ah n,0)∈T)->bH (kT cx Z J F w ps c is gs) (fE ps c) (tF gs) [] w T b:=by
  intro j i p b T hi hp hb ht hpr
  obtain ⟨⟨i',hi',hok⟩,hno⟩:=hb
  rw [hi] at hi'
  simp only [au] at hi'
  subst hi'
  refine ⟨hok.1,by simp, ?_,fun r R hr hbr=>?_,fun _=>.inl ⟨j,0,ht,⟨i,hi,hok⟩,hno⟩⟩
  ·rintro ⟨m,pi,o,n,h1,h2⟩
   simp only [kT] at h1
   cases hgm:gs[m]? with
   | none=>rw [hgm] at h1; simp at h1
   | some g=>
    cases hpm:ps[m]? with
    | none=>rw [hgm,hpm] at h1; simp at h1
    | some pm=>
     rw [hgm,hpm] at h1
     simp only at h1
     cases hh:(g.ow || g.wb) with
     | false=>rw [hh] at h1; simp at h1
     | true=>
      rw [hh] at h1
      simp only [gM,au] at h1
      subst h1
      simp only at h2
      cases hbase:g.base with
      | none=>rw [hbase] at h2; simp at h2
      | some q=>
       rw [hbase] at h2
       simp only [oP,au,bS] at h2
       exact hno m g q hgm hbase h2.1.symm
  ·obtain ⟨m,g,im,pm,h1,D⟩:=hroot hr.1
   subst h1
   rw [D.blk] at hbr
   exact ⟨0,hpr m (SL hi hp hok.q D.hg hbr).1⟩
 have ak6:∀{j:Nat} {i:bM} {p:aV} {b:Nat},is[j]?=some i->ps[j]?=some p->(∀k bF,p≠.val k bF)->mH Z J F w i.ids b->mH (fE ps c) (tF gs) [] w [(jy j,0)] b:=by
  intro j i p b hi hp EW hb
  refine ⟨hb.1,by simp,fun r R hr hbr=>?_⟩
  obtain ⟨m,g,im,pm,h1,D⟩:=hroot hr.1
  subst h1
  rw [D.blk] at hbr
  obtain ⟨_,k,bF,h2,_⟩:=SL hi hp hb D.hg hbr
  exact absurd h2 (EW k bF)
 have hpar:∀{j:Nat} {pi:Eb},(kT cx Z J F w ps c is gs).par j=some pi->∃g p,gs[j]?=some g/\ps[j]?=some p/\(g.ow=true\/g.wb=true)/\pi=⟨g.base.map fun q=>(q.1,q.2,rC p),iU g,g.wb⟩:=by
  intro j pi h1
  simp only [kT] at h1
  cases hgm:gs[j]? with
  | none=>rw [hgm] at h1; simp at h1
  | some g=>
   cases hpm:ps[j]? with
   | none=>rw [hgm,hpm] at h1; simp at h1
   | some pm=>
    rw [hgm,hpm] at h1
    simp only at h1
    cases hh:(g.ow || g.wb) with
    | false=>rw [hh] at h1; simp at h1
    | true=>
     rw [hh] at h1
     simp only [gM,au] at h1
     exact ⟨g,pm,rfl,rfl,by simpa using hh,h1.symm⟩
 have ZR:∀{j:Nat} {R:Root} {g:GA} {i:bM} {p:aV},RD cx Z J F w ps vs is gs j R g i p->(kT cx Z J F w ps c is gs).par j=some ⟨g.base.map fun q=>(q.1,q.2,rC p),iU g,g.wb⟩:=by
  intro j R g i p D
  simp only [kT]
  rw [D.hg,D.hq]
  have:(g.ow || g.wb)=true:=by simpa using D.held
  simp only [this,gM]
 have hsame:∀{j:Nat} {R R':Root},(fE ps c).roots (ah j)=some R->(fE ps c).roots (ah j)=some R'->R'=R:=fun h1 h2=>by rw [h1] at h2; simpa using h2.symm
 have vQ:∀{j:Nat} {g:GA} {p:aV} {b o:Nat},gs[j]?=some g->ps[j]?=some p->g.base=some (b,o)->∃arr e lo hi,hp w b=some (.cells arr e (lo,hi))/\jo arr.size lo hi/\o+rC p<=arr.size/\Cells (hp w) b o g.cs:=by
  intro j g p b o hg hp hb
  obtain ⟨p',cj,v,i,e1,e2,e3,e4⟩:=hgj hg
  rw [hp] at e1
  simp only [au] at e1
  subst e1
  obtain ⟨r,R,q',arr,e',lo,hi',f1,f2,f3,f4,f5,f6,f7,f8⟩:=(sj H e4).2.1 b o hb
  exact ⟨arr,e',lo,hi',f4,f5,f6,f7⟩
 have ZY:∀s,jr (kT cx Z J F w ps c is gs) (fE ps c) (tF gs) [] w ((fE ps c).slots s) (vs.toArray.getD s undef)/\ny (fE ps c) ((fE ps c).slots s):=by
  intro s
  rcases aaD ps 0 c s with h | ⟨j,p,cj0,hj,hps,hs0⟩
  ·have:(fE ps c).slots s=.one .undef:=h
   rw [this]
   exact ⟨trivial,trivial⟩
  ·simp only [og] at hj
   subst hj
   obtain ⟨cj,v,i,g,e1,e2,e3,e4,e5,e6⟩:=hat s p hps
   have hsl:(fE ps c).slots s=.one (Ac p s cj):=e5
   have hvs:vs.toArray.getD s undef=v:=by
    rw [Gd]
    simp [e1]
   rw [hsl,hvs]
   have hro:∀{k:K} {x:El k} {v:Value} {b o:Nat} {cs:List Value},(∀k bF,p≠.val k bF)->v=.pointer (some ⟨b,o,none⟩)->Cells (hp w) b o cs->Vw (hp w) (bH cx Z J F w i.ids) k x cs->mH Z J F w i.ids b->CP p=[]->
     wu (kT cx Z J F w ps c is gs) (fE ps c) (tF gs) [] w SENT k x [(jy s,0)] v:=by
    intro k x v b o cs EW hv hC hV hq hpr
    refine ⟨⟨b,o,hv⟩,fun _=>⟨b,o,cs,hv,hC,lS (fun _ _=>rfl) (fun b hb=>?_) hV,ak6 e2 hps EW hq, .inl ⟨rfl,fun t ht=>by simp only [fV] at ht; subst ht; exact uJ s⟩⟩⟩
    exact Sw e2 hps (R5 e2 hps hb (fun k bF h=>absurd h (EW k bF))) (by simp) (by rw [hpr]; simp)
   have SF:∀{R:Root},lM p s cj=some R->dQ (fE ps c) (.ref (ah s) 0)/\dQ (fE ps c) (.ptr (ah s) [] 0):=by
    intro R hR
    have hr:(fE ps c).roots (ah s)=some R:=by show iK (iJ ps 0 c) (ah s)=some R; rw [e6,hR]
    exact ⟨⟨R,hr, .inr (gq _)⟩,⟨R,hr, .inr (gq _)⟩⟩
   have Zq:gG (fE ps c) [(jy s,0)]:=fun t ht=>by simp only [fV] at ht; subst ht; exact .inl (uJ s)
   have qC:∀{R:Root},lM p s cj=some R->R.kind=.anon->aW (kT cx Z J F w ps c is gs) (fE ps c) (tF gs) [] w (.ref (ah s) 0) v:=by
    intro R hR hk Q hQ _
    have hr:(fE ps c).roots (ah s)=some R:=by show iK (iJ ps 0 c) (ah s)=some R; rw [e6,hR]
    have D:=Nz e4 e3 e2 hps e1 hR
    have hQR:=hsame hr hQ.1
    subst hQR
    rcases D.kind with ⟨hk',_⟩ | ⟨_,_,hV⟩
    ·rw [hk] at hk'; simp at hk'
    ·refine ⟨hk, ?_⟩
     rw [(xY D.hg).2.1, <-e4.1]
     exact hV
   cases p with
   | val k bF=>
    obtain ⟨h0,h1,h2,h3,h4,h5,h6,h7⟩:=e4
    refine ⟨fun hc=>⟨g.cs,h6, ?_⟩, ?_⟩
    ·cases hf:k.flat with
     | true=>exact nk hf h7
     | false=>
      rw [show (Ac (.val k bF) s cj)=.val k cj.1 ((jy s,0) :: bF.map fun j=>(ah j,0)) by simp [Ac,hf]] at *
      refine lS (fun _ _=>rfl) (fun b hb=>?_) (Ib k.tys (fun _ h=>h) h7)
      refine Sw e2 hps (R5 e2 hps hb.1 (fun k' aoX h=>by simp only [aV.val.injEq] at h; obtain ⟨rfl,_⟩:=h; exact hb.2)) (by simp) (fun n hn=>by exact jD _ (fK.2 ⟨n,hn,rfl⟩))
    ·intro t ht
     cases hf:k.flat with
     | true=>simp [Ac,hf] at ht
     | false=>
      simp only [Ac,hf,j6,bT,fK] at ht
      rcases ht with ht | ⟨m,hm,ht⟩
      ·subst ht; exact .inl (uJ s)
      ·subst ht
       obtain ⟨i',q,f1,f2⟩:=hA.prw s _ hps m hm
       have hm':m<gs.length:=by have:=(ql.1 f1).1; omega
       obtain ⟨p',cj',v',Cv,k1,k2,k3,k4⟩:=hgj (jc hm')
       rw [f1] at k3
       simp only [au] at k3
       subst k3
       obtain ⟨R,_,_,hR,_⟩:=hmk (jc hm') (.inr ((sj H k4).2.2.2.2 (by rw [f2]; simp)))
       exact .inr ⟨R,hR, .inr (gq _)⟩
   | ro k=>
    obtain ⟨h0,h1,h2,h3,h4,h5,b,o,h6,h7,h8,h9⟩:=e4
    exact ⟨hro (by simp) h6 h7 h8 h9 rfl,Zq⟩
   | rw k ow wt ht=>
    obtain ⟨R,hR⟩:=M9 s e4 (.inr e4.2.2.1)
    have hr:(fE ps c).roots (ah s)=some R:=by show iK (iJ ps 0 c) (ah s)=some R; rw [e6,hR]
    have D:=Nz e4 e3 e2 hps e1 hR
    obtain ⟨h0,h1,h2,r,R0,q,b,o,h3,h4,h5,h6,h7,_⟩:=e4
    refine ⟨⟨⟨b,o,h6⟩,fun Q hQ _ _ _ _=>⟨trivial,g.cs,b,o, ?_,h6⟩⟩,(SF hR).2⟩
    have hQR:=hsame hr hQ
    subst hQR
    simp only [aT]
    rw [D.wh,h7,(xY D.hg).2.1]
   | bR k ow wt=>
    obtain ⟨R,hR⟩:=M9 s e4 (.inr e4.2.2.1)
    exact ⟨qC hR (by simp only [lM,au] at hR; subst hR; rfl),(SF hR).1⟩
   | own k ow=>
    obtain ⟨R,hR⟩:=M9 s e4 (.inl e4.2.1)
    exact ⟨qC hR (by simp only [lM,au] at hR; subst hR; rfl),(SF hR).1⟩
   | fn f ks=>
    obtain ⟨h0,h1,h2,h3,h4,h5,us,h6,h7⟩:=e4
    have akl:∀(ks:List K) (c0:Cont ks) (us:List Value),uw.Kk cx Z J F w ks c0 us i.ids->nC (kT cx Z J F w ps c is gs) (fE ps c) (tF gs) [] w (gu.xZ s ks c0) us:=by
     intro ks
     induction ks with
     | nil=>intro c0 us h; cases us with
      | nil=>exact trivial
      | cons _ _=>exact h.elim
     | cons k ks ih=>intro c0 us h; cases us with
      | nil=>exact h.elim
      | cons u us=>
       obtain ⟨⟨b,o,cs,g1,g2,g3,g4⟩,g5⟩:=h
       exact ⟨hro (by simp) g1 g2 g3 g4 rfl,ih c0.2 us g5⟩
    have akm:∀(ks:List K) (c0:Cont ks),∀q∈gu.xZ s ks c0,gG (fE ps c) q.2.2:=by
     intro ks
     induction ks with
     | nil=>intro c0 q hq; simp [gu.xZ] at hq
     | cons k ks ih=>
      intro c0 q hq
      rcases bT.1 hq with h | h
      ·subst h; exact Zq
      ·exact ih c0.2 q h
    exact ⟨⟨us,h6,akl ks cj us h7⟩,akm ks cj⟩
   | into j q=>
    obtain ⟨h0,h1,h2,h3,h4,h5,b,h6⟩:=e4
    exact ⟨⟨b,h6⟩,trivial⟩
 constructor
 ·rfl
 ·exact gq _
 ·intro j pi b o n hj hb
  obtain ⟨g,p,hg,hp,hh,rfl⟩:=hpar hj
  obtain ⟨R,i,p',hr,D⟩:=hmk hg hh
  have:p'=p:=by have:=D.hq; rw [hp] at this; simpa using this.symm
  subst this
  simp only at hb
  cases hbase:g.base with
  | none=>rw [hbase] at hb; simp at hb
  | some q=>
   rw [hbase] at hb
   simp only [oP,au,bS] at hb
   obtain ⟨rfl,rfl,rfl⟩:=hb
   rcases D.kind with ⟨hk,hs,_⟩ | ⟨_,hn,_⟩
   ·refine ⟨R,⟨hr,D.live⟩,hk, ?_,hs.symm⟩
    rw [(xY hg).1,hbase]
    rfl
   ·rw [hbase] at hn; simp at hn
 ·intro r R hr hk
  obtain ⟨j,g,i,p,rfl,D⟩:=hroot hr.1
  rcases D.kind with ⟨_,hs,_,b,o,hb,_⟩ | ⟨hk',_⟩
  ·refine ⟨j,_,rC p,rfl,ZR D, ?_⟩
   rw [(xY D.hg).1,hb]
   rfl
  ·rw [hk] at hk'; simp at hk'
 ·exact fun s=>(ZY s).1
 ·exact fun s=>(ZY s).2
 ·intro r R hr
  obtain ⟨j,g,i,p,rfl,D⟩:=hroot hr.1
  obtain ⟨a1,a2,a3⟩:=xY D.hg
  refine ⟨fun _=>?_,by rw [a2]; exact fP D.ow,fun b o hb=>?_,by rw [D.blk]; exact hnd D,fun b hb=>?_⟩
  ·rw [a2,a3]
   have fq:=D.tags
   cases hall:(R.k.tys.all fun t=>aa t R.own) with
   | true=>exact j4 (lu (qF hall)) D.ow
   | false=>
    rw [hall] at fq
    refine dZ (fun _ _=>rfl) (fun b hb=>?_) (fun _ _=>rfl) D.ow
    exact Sw D.hi D.hq (R5 D.hi D.hq hb (fun k bF h=>absurd h (D.amO k bF))) (by rw [fq]; simp) (by rw [D.bF]; simp)
  ·rw [D.wh] at hb
   obtain ⟨arr,e,lo,hi,m1,m2,m3,m4⟩:=vQ D.hg D.hq hb
   rw [a2]
   rcases D.kind with ⟨hk,hs,_⟩ | ⟨_,hn,_⟩
   ·exact ⟨m4,arr,e,lo,hi,m1,m2,by rw [<-hs]; exact m3,fun t ht=>by rw [hk] at ht; simp at ht⟩
   ·rw [hb] at hn; simp at hn
  ·rw [D.blk] at hb
   exact ⟨hlt D.hg hb, .inr ⟨j,_,ZR D,hb⟩⟩
 ·intro r R hr
  obtain ⟨j,g,i,p,rfl,D⟩:=hroot hr
  have fq:=D.tags
  refine ⟨fun t ht=>?_,Ad j,fun n hn=>?_⟩
  ·rw [fq] at ht
   cases hall:(R.k.tys.all fun t=>aa t R.own) with
   | true=>rw [hall] at ht; simp at ht
   | false=>rw [hall] at ht; simp only [j6,fV] at ht; subst ht; exact .inl (uJ j)
  ·rw [fq] at hn
   cases hall:(R.k.tys.all fun t=>aa t R.own) with
   | true=>rw [hall] at hn; simp at hn
   | false=>rw [hall] at hn; simp only [j6,fV,bS] at hn; unfold ah jy at hn; omega
 ·intro r R r' R' hr hr' hne b hb
  obtain ⟨j,g,i,p,rfl,D⟩:=hroot hr.1
  obtain ⟨j',g',i',p',rfl,D'⟩:=hroot hr'.1
  rw [D.blk] at hb
  rw [D'.blk]
  exact Zn D.hg D'.hg (fun e=>hne (by rw [e])) hb
 ·intro b hb; simp at hb
 ·exact mM
 ·intro r R _ b _ h; simp at h
 ·refine ⟨rfl,rfl,rfl,bP _,fun _ _ _=>rfl,fun j pi b o n hj hb=>?_⟩
  obtain ⟨g,p,hg,hp,hh,rfl⟩:=hpar hj
  simp only at hb
  cases hbase:g.base with
  | none=>rw [hbase] at hb; simp at hb
  | some q=>
   rw [hbase] at hb
   simp only [oP,au,bS] at hb
   obtain ⟨rfl,rfl,rfl⟩:=hb
   obtain ⟨arr,e,lo,hi,m1,_⟩:=vQ hg hp (b:=q.1) (o:=q.2) (by rw [hbase])
   exact mQ.of_same _ _ m1 rfl
 ·intro j pi hj hk
  obtain ⟨g,p,hg,hp,hh,rfl⟩:=hpar hj
  obtain ⟨R,i,p',hr,D⟩:=hmk hg hh
  refine ⟨R,hr,fun _ b hb _=>.inr ⟨rfl,by simp,fun q Q hq hbq=>?_⟩⟩
  obtain ⟨j',g',i',p'',rfl,D'⟩:=hroot hq.1
  rw [D'.blk] at hbq
  by_cases e:j'=j
  ·rw [e]
  ·exact absurd hb (Zn D'.hg hg e hbq)
 ·refine ⟨fun j pi hj b hb=>?_,fun b hb=>⟨?_,fun j pi hj hbl=>?_⟩,fun b hb=>H.fixed hb⟩
  ·obtain ⟨g,p,hg,hp,hh,rfl⟩:=hpar hj
   exact hlt hg hb
  ·exact xQ (H.mI.2.1 b hb).1 H.frame.2.2.2.1
  ·obtain ⟨g,p,hg,hp,hh,rfl⟩:=hpar hj
   exact H.aaT (hmn hg hbl) hb
 ·intro j q ts v hv
  obtain ⟨g,R0,c0,b,o,h1,h2,h3,h4,h5,h6,h7,h8⟩:=hv
  refine ⟨⟨b,o,h8⟩,R0,h3,fun _=>⟨⟨b,o,h8⟩,fun Q hQ _ _ _ _=>?_⟩⟩
  have hQR:=hsame (show (fE ps c).roots (ah j)=some R0 from h3) hQ
  subst hQR
  obtain ⟨g',i',p',D⟩:=alm hQ
  have:g'=g:=by have:=D.hg; rw [h1] at this; simpa using this.symm
  subst this
  refine ⟨h6,c0,b,o, ?_,h8⟩
  rw [D.wh,(xY D.hg).2.1]
  exact h7
 ·intro j v hv
  obtain ⟨g,h1,h2,h3,h4⟩:=hv
  obtain ⟨R,i,p,hr,D⟩:=hmk h1 (.inr h4)
  refine ⟨⟨R,hr⟩,fun Q hQ _=>?_⟩
  have hQR:=hsame hr hQ.1
  subst hQR
  rcases D.kind with ⟨_,_,_,b,o,hb,_⟩ | ⟨hk,_,hV⟩
  ·rw [h3] at hb; simp at hb
  ·refine ⟨hk, ?_⟩
   rw [(xY D.hg).2.1, <-h2]
   exact hV
end
end
section
open Go
variable [Fr]
def vv (cx:Cx) (Z:St) (J:aH) (F:List Nat) (w:World):(rs:List gK)->Cont (eP rs)->List Value->List (List Nat)->Prop
 | [],_,[],[]=>True
 | .val k exts bF :: rs,c,v :: vs,fo :: ay=>(fo=[]/\∃T cs,(k.flat=true\/rE exts bF T=true)/\VC k v cs/\Vw (hp w) (bH cx Z J F w T) k c.1 cs)/\vv cx Z J F w rs c.2 vs ay
 | .own k ow exts bF :: rs,c,v :: vs,fo :: ay=>(∃T cs own,((k.tys.all fun t=>aa t ow)=true\/rE exts bF T=true)/\(∀t∈k.tys,aa t ow=true->aa t own=true)/\VC k v cs/\Ow (hp w) own (bH cx Z J F w T) k c.1 cs fo)/\vv cx Z J F w rs c.2 vs ay
 | .ptr t k ow exts :: rs,c,v :: vs,fo :: ay=>(∃b o T cs own aF,v=.pointer (some ⟨b,o,none⟩)/\fo=b :: aF/\((k.tys.all fun t=>aa t ow)=true\/rE exts [] T=true)/\(∀t∈k.tys,aa t ow=true->aa t own=true)/\
   (Cells (hp w) b o cs/\∃arr e lo hi,hp w b=some (.cells arr e (lo,hi))/\jo arr.size lo hi/\o+k.size<=arr.size/\e=t)/\Ow (hp w) own (bH cx Z J F w T) k c.1 cs aF)/\vv cx Z J F w rs c.2 vs ay
 | .into j p :: rs,c,v :: vs,fo :: ay=>(fo=[]/\p=[]/\∃b n cp,v=.slice b (show Int from c.1).toNat cp/\(show Int from c.1).toNat<=n/\aW cx Z J F w (.ref (ah j) 0) (.slice b n cp))/\vv cx Z J F w rs c.2 vs ay
 | _,_,_,_=>False
def Mm (Z:St) (k:K) (x:El k) (ow wt ht:List TypeId) (j:Nat):Prop:=
 ∃R,Z.roots (ah j)=some R/\cB Z R/\(∃e:R.k=k,x=e▸R.x)/\v_ k R.own ow=true/\xu R (some (wt,ht))=true/\((k.tys.all fun t=>aa t ow)=true\/rE [j] [] R.tags=true)
def rQ (Z:St):(ps:List aV)->Nat->Cont (gy ps)->Prop
 | [],_,_=>True
 | .rw k ow wt ht :: ps,j,c=>Mm Z k c.1 ow wt ht j/\rQ Z ps (j+1) c.2
 | .bR k ow wt :: ps,j,c=>Mm Z k c.1 ow wt k.tys j/\rQ Z ps (j+1) c.2
 | .val _ _ :: ps,j,c=>rQ Z ps (j+1) c
 | .ro _ :: ps,j,c=>rQ Z ps (j+1) c
 | .own _ _ :: ps,j,c=>rQ Z ps (j+1) c
 | .fn _ _ :: ps,j,c=>rQ Z ps (j+1) c
 | .into _ _ :: ps,j,c=>rQ Z ps (j+1) c
def Kb:List Value->Value
 | [v]=>v
 | vs=>.tuple vs.toArray
def Post (cx:Cx) (ps:List aV) (rs:List gK) (out:Cont (eP rs++gy ps)) (v:Value) (w':World):Prop:=
 ∃Z J F a vs ay,Rel cx Z J F a w'/\v=Kb vs/\vv cx Z J F w' rs (Cont.fst _ _ out) vs ay/\ay.flatten.Nodup/\(∀b∈ay.flatten,b∈F)/\rQ Z ps 0 (Cont.snd _ _ out)
def Df (P:Program) (f:FuncId) (args:Array Value) (w:World) (R:Value->World->Prop):Prop:=
 ((callFunc f args).run P w=.ok (.enter f args) w/\Calls P f args w fun e w'=>∃v,e=.returned v/\R v w')\/∃v w',(callFunc f args).run P w=.ok (.value v) w'/\R v w'
def wN (ps:List aV) (j:Nat) (k:K):Prop:=∃ow wt ht,ps[j]?=some (.rw k ow wt ht)\/ps[j]?=some (.bR k ow wt)
structure Ec (cx:Cx) (ps:List aV):Prop where
 par:∀j pi,cx.par j=some pi->pi.kp=true->∃k,wN ps j k
 ptr:∀j p ts v,cx.ptrs j p ts v->∃k,wN ps j k/\ts=iW p k
 ref:∀j v,cx.refs j v->∃k,wN ps j k
def aC (P:Program) (n:Nat) (E:Entry):Prop:=
 ∀(c:Cont (kin E.ps)) (out:Cont (eP E.rs++gy E.ps)),E.F n c=some out->∀(cx:Cx) (J:aH) (args:Array Value) (w:World),cx.nt=0->cx.w0=w->args.size=E.ps.length->Ec cx E.ps->
  Rel cx (fE E.ps c) J [] ⟨args,[]⟩ w->Df P E.f args w (Post cx E.ps E.rs out)
section
variable {P:Program} {T:bI} {cx:Cx} {Z:St} {J:aH} {F:List Nat} {a:Act} {w w':World} {ps:List aV} {c:Cont (kin ps)} {vs:List Value} {is:List bM} {gs:List GA}
structure AB (Z:St) (J:aH) (is:List bM) (gs:List GA) (kr:St) (iN:aH) (Ff:List Nat) (Z':St) (J':aH) (F':List Nat):Prop where
 blk:∀q Q b,aU Z' q Q->b∈blk J' Q q->b∈Ff\/(∃Q0,aU Z q Q0/\b∈Ow.blk J Q0 q/\∀(m:Nat) (g:GA),gs[m]?=some g->b∉g.fo)\/
  ∃(m:Nat) (i:bM) (R:Root) (u:List Stp×List TypeId×List TypeId),is[m]?=some i/\i.wb=some (q,u)/\aU kr (ah m) R/\b∈Ow.blk iN R (ah m)
 F:∀b∈F',b∈Ff
theorem Eu (H:Rel cx Z J F a w) (hJ:wL cx Z J F a w ps c vs is gs) {j:Nat} {pi:Eb} (h:(kT cx Z J F w ps c is gs).par j=some pi):∃g p cj v i,gs[j]?=some g/\ps[j]?=some p/\is[j]?=some i/\uw cx Z J F a w p cj v i g/\(g.ow=true\/g.wb=true)/\pi=⟨g.base.map fun q=>(q.1,q.2,rC p),iU g,g.wb⟩:=by
 obtain ⟨lv,li,lg,hat⟩:=hJ.at (i0:=0)
 simp only [kT] at h
 cases hgm:gs[j]? with
 | none=>rw [hgm] at h; simp at h
 | some g=>
  cases hpm:ps[j]? with
  | none=>rw [hgm,hpm] at h; simp at h
  | some pm=>
   rw [hgm,hpm] at h
   simp only at h
   cases hh:(g.ow || g.wb) with
   | false=>rw [hh] at h; simp at h
   | true=>
    rw [hh] at h
    simp only [gM,au] at h
    obtain ⟨cj,v,i,g',e1,e2,e3,e4,_⟩:=hat j pm hpm
    rw [hgm] at e3
    simp only [au] at e3
    subst e3
    exact ⟨g,pm,cj,v,i,rfl,rfl,e2,e4,by simpa using hh,h.symm⟩
theorem am3 (H:Rel cx Z J F a w) (hJ:wL cx Z J F a w ps c vs is gs):Ec (kT cx Z J F w ps c is gs) ps:=by
 obtain ⟨lv,li,lg,hat⟩:=hJ.at (i0:=0)
 simp only [og] at hat
 have Ni:∀{j:Nat} {g:GA},gs[j]?=some g->g.wb=true->∃p cj,ps[j]?=some p/\iK (iJ ps 0 c) (ah j)=lM p j cj/\((∃k ow wt ht,p=.rw k ow wt ht)\/∃k ow wt,p=.bR k ow wt):=by
  intro j g hg hw
  have hj:j<ps.length:=by have:=(ql.1 hg).1; omega
  obtain ⟨cj,v,i,g',e1,e2,e3,e4,e5,e6⟩:=hat j ps[j] (jc hj)
  rw [hg] at e3
  simp only [au] at e3
  subst e3
  refine ⟨ps[j],cj,jc hj,e6, ?_⟩
  obtain ⟨k,x,ow,wt,ht,r,R,q,wh,h,_⟩:=aop e4 hw
  rcases h with ⟨h,_⟩ | ⟨h,_⟩
  ·exact .inl ⟨k,ow,wt,ht,h⟩
  ·exact .inr ⟨k,ow,wt,h⟩
 have hk:∀{j:Nat} {g:GA},gs[j]?=some g->g.wb=true->∃k,wN ps j k/\∃R0,iK (iJ ps 0 c) (ah j)=some R0/\R0.k=k:=by
  intro j g hg hw
  obtain ⟨p,cj,h1,h2,h3⟩:=Ni hg hw
  rcases h3 with ⟨k,ow,wt,ht,rfl⟩ | ⟨k,ow,wt,rfl⟩
  ·exact ⟨k,⟨ow,wt,ht, .inl h1⟩,_,h2,rfl⟩
  ·exact ⟨k,⟨ow,wt,[], .inr h1⟩,_,h2,rfl⟩
 refine ⟨fun j pi hj hkp=>?_,fun j q ts v hv=>?_,fun j v hv=>?_⟩
 ·obtain ⟨g,p,cj,v,i,e1,e2,e3,e4,e5,rfl⟩:=Eu H hJ hj
  obtain ⟨k,h,_⟩:=hk e1 hkp
  exact ⟨k,h⟩
 ·obtain ⟨g,R0,c0,b,o,h1,h2,h3,h4,_⟩:=hv
  obtain ⟨k,h,R1,h5,h6⟩:=hk h1 h2
  rw [h3] at h5
  simp only [au] at h5
  subst h5
  exact ⟨k,h,by rw [h4,h6]⟩
 ·obtain ⟨g,h1,_,_,h2⟩:=hv
  obtain ⟨k,h,_⟩:=hk h1 h2
  exact ⟨k,h⟩
theorem NK (H:Rel cx Z J F a w) (hJ:wL cx Z J F a w ps c vs is gs) {kr:St} {iN:aH} {Ff:List Nat} {af:Act} (Hf:Rel (kT cx Z J F w ps c is gs) kr iN Ff af w') {Z':St} {J':aH} {F':List Nat}
  (B:AB Z J is gs kr iN Ff Z' J' F') {Tg U:List Tag} (Za:∀j n,(jy j,n)∈Tg->∀i,is[j]?=some i->∀t∈i.ids,∃n',(t.1,n')∈U) (hU2:∀m n,(ah m,n)∈Tg->∀i q,is[m]?=some i->i.wb=some q->∃n',(q.1,n')∈U)
  {b:Nat} (hb:bH (kT cx Z J F w ps c is gs) kr iN Ff w' Tg b):bH cx Z' J' F' w' U b:=by
 obtain ⟨hb1,hb2,hb3,hb4,hb5⟩:=hb
 have hcl:w.heap.size<=b\/(b<w.heap.size/\∃j n i,(jy j,n)∈Tg/\is[j]?=some i/\bH cx Z J F w i.ids b)\/(b<w.heap.size/\∃(j:Nat) (g:GA),gs[j]?=some g/\b∈g.fo/\((g.ow=true/\b∈F)\/(g.wb=true/\∃r R,aU Z r R/\b∈J.fo r))):=by
  by_cases hlt:b<w.heap.size
  ·refine .inr ?_
   rcases hb5 hlt with ⟨j,n,h1,⟨i,h2,h3⟩,_⟩ | ⟨j,pi,h1,h2⟩
   ·exact .inl ⟨hlt,j,n,i,h1,h2,h3⟩
   ·refine .inr ⟨hlt, ?_⟩
    obtain ⟨g,p,cj,v,i,e1,e2,e3,e4,e5,rfl⟩:=Eu H hJ h1
    simp only at h2
    have hfo:b∈g.fo:=by
     unfold iU at h2
     cases hbase:g.base with
     | none=>rw [hbase] at h2; simpa using h2
     | some q=>
      rw [hbase] at h2
      simp only [lF,rO,bT] at h2
      rcases h2 with h2 | h2
      ·exact absurd ⟨j,_,q.2,rC p,h1,by rw [hbase,h2]; rfl⟩ hb3
      ·exact h2
    refine ⟨j,g,e1,hfo, ?_⟩
    rcases (sj H e4).1 b (by unfold iU; exact bC _ hfo) with h | ⟨h,_⟩
    ·exact .inl h
    ·obtain ⟨r,R,q,_,f2,f3⟩:=(sj H e4).2.2.1 b hfo h
     exact .inr ⟨h,r,R,f2,f3⟩
  ·exact .inl (Nat.le_of_not_lt hlt)
 refine ⟨hb1,fun h=>hb2 (B.F b h), ?_, ?_, ?_⟩
 ·intro hbase
  have hlt:b<w.heap.size:=by
   obtain ⟨j,pi,o,n,h1,h2⟩:=hbase
   obtain ⟨Q,hQ,hk,hl,_⟩:=H.kP j pi b o n h1 h2
   exact ((H.roots _ _ hQ).mine b (by simp [Ow.blk,aM,hk,hl])).1
  rcases hcl with h | ⟨_,j,n,i,_,_,h⟩ | ⟨_,j,g,h1,h2,h⟩
  ·omega
  ·exact h.2.2.1 hbase
  ·rcases h with ⟨_,h⟩ | ⟨_,r,R,h3,h4⟩
   ·exact A7 H h hbase
   ·exact zV H h3 h4 hbase
 ·intro q Q hq hbq
  rcases B.blk q Q b hq hbq with h | ⟨Q0,h1,h2,h3⟩ | ⟨m,i,R,u,h1,h2,h3,h4⟩
  ·exact absurd h hb2
  ·have hlt:=((H.roots q Q0 h1).mine b h2).1
   rcases hcl with h | ⟨_,j,n,i,g1,g2,g3⟩ | ⟨_,j,g,g1,g2,_⟩
   ·omega
   ·obtain ⟨n',hn'⟩:=g3.2.2.2.1 q Q0 h1 h2
    exact Za j n g1 i g2 _ hn'
   ·exact absurd g2 (h3 j g g1)
  ·obtain ⟨n,hn⟩:=hb4 (ah m) R h3 h4
   exact hU2 m n hn i _ h1 h2
 ·intro h0
  have hlt:b<w.heap.size:=xQ h0 H.frame.2.2.2.1
  have jU:Ow.mine cx w b->(∃j n,(jy j,n)∈U/\cx.ext j b)\/∃j pi,cx.par j=some pi/\b∈pi.bl:=fun hm=>by
   rcases hm.2 with h | ⟨j,pi,h1,h2⟩
   ·omega
   ·exact .inr ⟨j,pi,h1,h2⟩
  rcases hcl with h | ⟨_,j,n,i,g1,g2,g3⟩ | ⟨_,j,g,g1,g2,g3⟩
  ·omega
  ·rcases g3.2.2.2.2 h0 with ⟨j',n',f1,f2⟩ | h
   ·obtain ⟨n2,hn2⟩:=Za j n g1 i g2 _ f1
    exact .inl ⟨j',n2,hn2,f2⟩
   ·exact .inr h
  ·rcases g3 with ⟨_,h⟩ | ⟨_,r,R,h3,h4⟩
   ·exact jU (H.fl b h)
   ·exact jU ((H.roots r R h3).mine b (bC _ h4))
end
end
section
open Go
variable [Fr]
def qJ (Z:St):(ps:List aV)->List bM->Cont (gy ps)->List Wr->Prop
 | [],[],_,ws=>ws=[]
 | .rw k _ _ _ :: ps,i :: is,c,ws=>∃r p wt ht R z ws',i.wb=some (r,p,wt,ht)/\Z.roots r=some R/\cz p R.k R.x ⟨k,c.1⟩=some z/\ws=.r r (some { R with k:=z.1,x:=z.2,w:=(iV R p :: wt)++R.w,h:=ht++R.h }) :: ws'/\qJ Z ps is c.2 ws'
 | .bR k _ _ :: ps,i :: is,c,ws=>∃r p wt ht R z ws',i.wb=some (r,p,wt,ht)/\Z.roots r=some R/\cz p R.k R.x ⟨k,c.1⟩=some z/\ws=.r r (some { R with k:=z.1,x:=z.2,w:=(SENT :: (k.tys++wt))++R.w,h:=ht++R.h }) :: ws'/\qJ Z ps is c.2 ws'
 | .val _ _ :: ps,_ :: is,c,ws=>qJ Z ps is c ws
 | .ro _ :: ps,_ :: is,c,ws=>qJ Z ps is c ws
 | .own _ _ :: ps,_ :: is,c,ws=>qJ Z ps is c ws
 | .fn _ _ :: ps,_ :: is,c,ws=>qJ Z ps is c ws
 | .into _ _ :: ps,_ :: is,c,ws=>qJ Z ps is c ws
 | _,_,_,_=>False
theorem ahl {A:Type} {z:A} {Z:St}:∀{ps:List aV} {is:List bM} {c:Cont (gy ps)} {k:List Wr->Prog A},(BH ps is c k).ends Z z->∃ws,qJ Z ps is c ws/\(k ws).ends Z z:=by
 intro ps
 induction ps with
 | nil=>
  intro is c k h
  cases is with
  | nil=>exact ⟨[],rfl,h⟩
  | cons _ _=>exact h.elim
 | cons p ps ih=>
  intro is c k h
  cases is with
  | nil=>cases p <;> exact h.elim
  | cons i is=>
   cases p with
   | rw kk ow xC ht0=>
    obtain ⟨ids,wb,ws0,bt⟩:=i
    cases wb with
    | none=>exact h.elim
    | some q=>
     obtain ⟨r,p,wt,ht⟩:=q
     simp only [BH,Prog.ends] at h
     cases hr:Z.roots r with
     | none=>rw [hr] at h; exact h.elim
     | some R=>
      rw [hr] at h
      simp only at h
      cases hz:cz p R.k R.x ⟨kk,c.1⟩ with
      | none=>rw [hz] at h; exact h.elim
      | some z=>
       rw [hz] at h
       obtain ⟨ws,g1,g2⟩:=ih h
       exact ⟨_,⟨r,p,wt,ht,R,z,ws,rfl,hr,hz,rfl,g1⟩,g2⟩
   | bR kk ow xC=>
    obtain ⟨ids,wb,ws0,bt⟩:=i
    cases wb with
    | none=>exact h.elim
    | some q=>
     obtain ⟨r,p,wt,ht⟩:=q
     simp only [BH,Prog.ends] at h
     cases hr:Z.roots r with
     | none=>rw [hr] at h; exact h.elim
     | some R=>
      rw [hr] at h
      simp only at h
      cases hz:cz p R.k R.x ⟨kk,c.1⟩ with
      | none=>rw [hz] at h; exact h.elim
      | some z=>
       rw [hz] at h
       obtain ⟨ws,g1,g2⟩:=ih h
       exact ⟨_,⟨r,p,wt,ht,R,z,ws,rfl,hr,hz,rfl,g1⟩,g2⟩
   | val _ _=>exact ih h
   | ro _=>exact ih h
   | own _ _=>exact ih h
   | fn _ _=>exact ih h
   | into _ _=>exact ih h
theorem XV {Z:St}:∀{ps:List aV} {is:List bM} {c:Cont (gy ps)} {ws:List Wr},(∀i∈is,i.wb=none)->qJ Z ps is c ws->ws=[]:=by
 intro ps
 induction ps with
 | nil=>
  intro is c ws _ h
  cases is with
  | nil=>exact h
  | cons _ _=>exact h.elim
 | cons p ps ih=>
  intro is c ws hn h
  cases is with
  | nil=>cases p <;> exact h.elim
  | cons i is=>
   have hn':∀i∈is,i.wb=none:=fun i hi=>hn i (by simp [hi])
   have h0:=hn i (by simp)
   cases p with
   | rw kk ow xC ht0=>obtain ⟨r,p,wt,ht,R,z,ws',h1,_⟩:=h; rw [h0] at h1; simp at h1
   | bR kk ow xC=>obtain ⟨r,p,wt,ht,R,z,ws',h1,_⟩:=h; rw [h0] at h1; simp at h1
   | val _ _=>exact ih hn' h
   | ro _=>exact ih hn' h
   | own _ _=>exact ih hn' h
   | fn _ _=>exact ih hn' h
   | into _ _=>exact ih hn' h
theorem JB {i:bM} {is:List bM} (h:yE (i :: is)=true):(i.wb=none/\yE is=true)\/(i.wb≠none/\∀i'∈is,i'.wb=none):=by
 unfold yE at h
 cases hw:i.wb with
 | none=>rw [hw] at h; exact .inl ⟨rfl,h⟩
 | some q=>
  rw [hw] at h
  refine .inr ⟨by simp,fun i' hi=>?_⟩
  have:=eO.1 h i' hi
  cases hw':i'.wb with
  | none=>rfl
  | some _=>rw [hw'] at this; simp at this
theorem ahm {Z kr:St}:∀{ps:List aV} {is:List bM} {c:Cont (gy ps)} {ws:List Wr} {j0:Nat},yE is=true->(∀(m:Nat) (p:aV) (i:bM),ps[m]?=some p->is[m]?=some i->(∀k ow wt ht,p≠.rw k ow wt ht)->(∀k ow wt,p≠.bR k ow wt)->i.wb=none)->
  qJ Z ps is c ws->rQ kr ps j0 c->(ws=[]/\∀i∈is,i.wb=none)\/
  ∃(j:Nat) (i:bM) (k:K) (x:El k) (ow wt ht:List TypeId) (r:Nat) (p:List Stp) (R:Root) (z:Dat) (dY ht':List TypeId),is[j]?=some i/\i.wb=some (r,p,dY,ht')/\Z.roots r=some R/\cz p R.k R.x ⟨k,x⟩=some z/\Mm kr k x ow wt ht (j0+j)/\(∀(m:Nat) (i':bM),m≠j->is[m]?=some i'->i'.wb=none)/\
   ((ps[j]?=some (.rw k ow wt ht)/\ws=[.r r (some { R with k:=z.1,x:=z.2,w:=(iV R p :: dY)++R.w,h:=ht'++R.h })])\/(ps[j]?=some (.bR k ow wt)/\ht=k.tys/\ws=[.r r (some { R with k:=z.1,x:=z.2,w:=(SENT :: (k.tys++dY))++R.w,h:=ht'++R.h })])):=by
 intro ps
 induction ps with
 | nil=>
  intro is c ws j0 _ _ hB _
  cases is with
  | nil=>exact .inl ⟨hB,by simp⟩
  | cons _ _=>exact hB.elim
 | cons p ps ih=>
  intro is c ws j0 h1 hal hB hO
  cases is with
  | nil=>cases p <;> exact hB.elim
  | cons i is=>
   have aj9:∀(m:Nat) (p:aV) (i:bM),ps[m]?=some p->is[m]?=some i->(∀k ow wt ht,p≠.rw k ow wt ht)->(∀k ow wt,p≠.bR k ow wt)->i.wb=none:=fun m p i hp hi=>hal (m+1) p i (by simpa using hp) (by simpa using hi)
   have hrest:∀{c':Cont (gy ps)} {ws':List Wr},i.wb=none->qJ Z ps is c' ws'->rQ kr ps (j0+1) c'->(ws'=[]/\∀i'∈i :: is,i'.wb=none)\/
     ∃(j:Nat) (i':bM) (k:K) (x:El k) (ow wt ht:List TypeId) (r:Nat) (q:List Stp) (R:Root) (z:Dat) (dY ht':List TypeId),(i :: is)[j]?=some i'/\i'.wb=some (r,q,dY,ht')/\Z.roots r=some R/\cz q R.k R.x ⟨k,x⟩=some z/\Mm kr k x ow wt ht (j0+j)/\(∀(m:Nat) (Cv:bM),m≠j->(i :: is)[m]?=some Cv->Cv.wb=none)/\
      (((p :: ps)[j]?=some (.rw k ow wt ht)/\ws'=[.r r (some { R with k:=z.1,x:=z.2,w:=(iV R q :: dY)++R.w,h:=ht'++R.h })])\/((p :: ps)[j]?=some (.bR k ow wt)/\ht=k.tys/\ws'=[.r r (some { R with k:=z.1,x:=z.2,w:=(SENT :: (k.tys++dY))++R.w,h:=ht'++R.h })])):=by
    intro c' ws' hw hB hO
    have ho:yE is=true:=by
     rcases JB h1 with ⟨_,h⟩ | ⟨h,_⟩
     ·exact h
     ·exact absurd hw h
    rcases ih ho aj9 hB hO with ⟨e,h⟩ | ⟨j,i',k,x,ow,wt,ht,r,q,R,z,dY,ht',e1,e2,e3,e4,e5,e6,e7⟩
    ·refine .inl ⟨e,fun i' hi=>?_⟩
     rcases bT.1 hi with h' | h'
     ·subst h'; exact hw
     ·exact h i' h'
    ·refine .inr ⟨j+1,i',k,x,ow,wt,ht,r,q,R,z,dY,ht',by simpa using e1,e2,e3,e4,by rw [show j0+(j+1)=j0+1+j by omega]; exact e5,fun m Cv hm hi=>?_,by simpa using e7⟩
     cases m with
     | zero=>simp only [qM,au] at hi; subst hi; exact hw
     | succ m=>exact e6 m Cv (by omega) (by simpa using hi)
   have hnw:∀{dY:Option (Nat×List Stp×List TypeId×List TypeId)},i.wb=dY->dY≠none->∀i'∈is,i'.wb=none:=by
    intro dY he hne
    rcases JB h1 with ⟨h,_⟩ | ⟨_,h⟩
    ·rw [he] at h; exact absurd h hne
    ·exact h
   cases p with
   | rw kk ow xC ht0=>
    obtain ⟨r,q,wt,ht,R,z,ws',g1,g2,g3,g4,g5⟩:=hB
    have hn:=hnw g1 (by simp)
    have:=XV hn g5
    subst this
    refine .inr ⟨0,i,kk,c.1,ow,xC,ht0,r,q,R,z,wt,ht,rfl,g1,g2,g3,hO.1,fun m i' hm hi=>?_, .inl ⟨rfl,g4⟩⟩
    cases m with
    | zero=>exact absurd rfl hm
    | succ m=>exact hn i' (qm (by simpa using hi))
   | bR kk ow xC=>
    obtain ⟨r,q,wt,ht,R,z,ws',g1,g2,g3,g4,g5⟩:=hB
    have hn:=hnw g1 (by simp)
    have:=XV hn g5
    subst this
    refine .inr ⟨0,i,kk,c.1,ow,xC,kk.tys,r,q,R,z,wt,ht,rfl,g1,g2,g3,hO.1,fun m i' hm hi=>?_, .inr ⟨rfl,rfl,g4⟩⟩
    cases m with
    | zero=>exact absurd rfl hm
    | succ m=>exact hn i' (qm (by simpa using hi))
   | val k bF=>exact hrest (hal 0 _ i rfl rfl (by simp) (by simp)) hB hO
   | ro k=>exact hrest (hal 0 _ i rfl rfl (by simp) (by simp)) hB hO
   | own k ow=>exact hrest (hal 0 _ i rfl rfl (by simp) (by simp)) hB hO
   | fn f ks=>exact hrest (hal 0 _ i rfl rfl (by simp) (by simp)) hB hO
   | into j q=>exact hrest (hal 0 _ i rfl rfl (by simp) (by simp)) hB hO
end
section
open Go
variable [Fr]
section
variable {P:Program} {T:bI} {cx:Cx} {Z:St} {J:aH} {F:List Nat} {a:Act} {w w':World} {ps:List aV} {c:Cont (kin ps)} {vs:List Value} {is:List bM} {gs:List GA}
theorem rD {l m:List Nat}:iL l m=true↔∀t∈l,t∈m:=by
 unfold iL
 rw [eO]
 simp [b_]
theorem aaP (h:Heap):∀(q:List Stp) {k:K} {cs:List Value} {wh:Option (Nat×Nat)} {c0:List Value} {w0:Option (Nat×Nat)},az q k≠[]->aT h q k cs wh=some (c0,w0)->(∀cu,aT h q k cs cu=some (c0,w0))/\∃b o,w0=some (b,o):=by
 intro q
 induction q with
 | nil=>intro k cs wh c0 w0 h1; simp [az] at h1
 | cons s q ih=>
  intro k cs wh c0 w0 h1 h2
  cases s with
  | aZ n=>
   cases k with
   | st c=>
    simp only [aT] at h2 ⊢
    cases ho:bO n c with
    | none=>rw [ho] at h2; simp at h2
    | some p=>
     obtain ⟨off,k'⟩:=p
     rw [ho] at h2
     simp only at h2 ⊢
     have hk:az.lI n c=some k':=by
      have:∀(n:Nat) {c:K} {off:Nat} {k':K},bO n c=some (off,k')->az.lI n c=some k':=by
       intro n
       induction n with
       | zero=>intro c off k' h; cases c <;> simp_all [bO,az.lI]
       | succ n ih=>
        intro c off k' h
        cases c with
        | pair a b=>
         simp only [bO] at h
         cases h5:bO n b with
         | none=>rw [h5] at h; simp at h
         | some q=>
          rw [h5] at h
          simp only [au,bS] at h
          simp only [az.lI]
          exact ih (by rw [h5, <-h.2])
        | _=>simp [bO] at h
      exact this n ho
     have hpt:az (.aZ n :: q) (.st c)=az q k':=by simp [az,hk]
     rw [hpt] at h1
     obtain ⟨g1,g2⟩:=ih h1 h2
     exact ⟨fun cu=>g1 _,g2⟩
   | _=>simp [aT] at h2
  | idx i=>
   cases k with
   | sl e k=>
    simp only [aT] at h2 ⊢
    split at h2
    ·rename_i ad _ _
     refine ⟨fun cu=>h2, ?_⟩
     have key:∀(q:List Stp) {k:K} {cs:List Value} {p:Nat×Nat} {c0:List Value} {w0:Option (Nat×Nat)},aT h q k cs (some p)=some (c0,w0)->∃b o,w0=some (b,o):=by
      intro q
      induction q with
      | nil=>intro k cs p c0 w0 h; simp only [aT,au,bS] at h; exact ⟨p.1,p.2,h.2.symm⟩
      | cons s q ih=>
       intro k cs p c0 w0 h
       cases s with
       | aZ n=>
        cases k with
        | st c=>
         simp only [aT] at h
         cases ho:bO n c with
         | none=>rw [ho] at h; simp at h
         | some q2=>rw [ho] at h; exact ih h
        | _=>simp [aT] at h
       | idx i=>
        cases k with
        | sl e k=>
         simp only [aT] at h
         split at h
         ·exact ih h
         ·simp at h
        | _=>simp [aT] at h
     exact key q h2
    ·simp at h2
   | _=>simp [aT] at h2
theorem XW (H:Rel cx Z J F a w) {kr:St} {iN:aH} {Ff G:List Nat} {r j:Nat} {R Rf R':Root} {i:bM} {u:List Stp×List TypeId×List TypeId} {g:GA} {rest:List Nat} {ko:aH} {lw lh:List Nat} (hr:aU Z r R) (hi:is[j]?=some i) (hw:i.wb=some (r,u)) (hlf:aU kr (ah j) Rf)
  (hg:gs[j]?=some g) (hpr:(J.fo r).Perm (g.fo++rest)) (hoth:∀(m:Nat) (gm:GA),m≠j->gs[m]?=some gm->∀b∈gm.fo,b∈F)
  (T:iE cx Z J F w (aK Z r R') ko G w' (kV r lw) (kV r lh)) (hblk:∀b∈Ow.blk ko R' r,(∃o,aM J R r=some (b,o))\/b∈iN.fo (ah j)\/b∈rest) (hG:∀b∈G,b∈Ff):AB Z J is gs kr iN Ff (aK Z r R') ko G:=by
 have hK:=H.roots r R hr
 have EU:=hK.nd
 rw [jG,uM] at EU
 have z8:=cK.1 (hpr.nodup EU.2)
 have Sr:∀{q:Nat} {Q:Root} {b:Nat},aU Z q Q->b∈Ow.blk J Q q->b∉g.fo->∀(m:Nat) (gm:GA),gs[m]?=some gm->b∉gm.fo:=by
  intro q Q b hq hb hno m gm hm vQ
  by_cases e:m=j
  ·subst e
   rw [hg] at hm
   simp only [au] at hm
   subst hm
   exact hno vQ
  ·exact H.fC q Q hq b hb (hoth m gm e hm b vQ)
 refine ⟨fun q Q b hq hb=>?_,hG⟩
 by_cases e:q=r
 ·subst e
  obtain ⟨rfl,_⟩:=pq hq
  rcases hblk b hb with ⟨o,h⟩ | h | h
  ·have hbb:b∈Ow.blk J R q:=by rw [jG,mW]; exact .inl ⟨o,h⟩
   exact .inr (.inl ⟨R,hr,hbb,Sr hr hbb (fun h'=>EU.1 b o h (hpr.mem_iff.2 (bN _ h')))⟩)
  ·exact .inr (.inr ⟨j,i,Rf,u,hi,hw,hlf,bC _ h⟩)
  ·have hbb:b∈Ow.blk J R q:=bC _ (hpr.mem_iff.2 (bC _ h))
   exact .inr (.inl ⟨R,hr,hbb,Sr hr hbb (fun h'=>z8.2.2 b h' b h rfl)⟩)
 ·have hq':=(Tv e).1 hq
  obtain ⟨Q2,g1,g2⟩:=T.old q Q hq'.1
  have hS:Same Z J (aK Z r R') ko q:=by
   refine kQ fun hns=>?_
   rw [jV Z R' e,hq'.1] at g1
   simp only [au] at g1
   subst g1
   rcases g2 with ⟨h1,_⟩ | ⟨_,h2⟩
   ·rw [hq'.2] at h1; simp at h1
   ·rcases h2.2.2.2.2.2.2 with h3 | ⟨_,_,h3⟩
    ·rw [uN _ e,uN _ e] at h3; simp at h3
    ·exact hns h3
  rw [hS.blk] at hb
  refine .inr (.inl ⟨Q,hq',hb,Sr hq' hb (fun h'=>?_)⟩)
  exact H.lT r R q Q hr hq' (Ne.symm e) b (bC _ (hpr.mem_iff.2 (bN _ h'))) hb
theorem anS:∀(p:List Stp) {k:K} {x:El k} {t z:Dat},bY p k x->cz p k x t=some z->aB p z.1 z.2=some t/\bY p z.1 z.2/\az p z.1=az p k:=by
 intro p
 induction p with
 | nil=>
  intro k x t z _ hz
  simp only [cz,au] at hz
  subst hz
  exact ⟨rfl,trivial,rfl⟩
 | cons s p ih=>
  intro k x t z hp hz
  cases s with
  | aZ n=>
   cases k with
   | st c=>
    simp only [cz] at hz
    simp only [bY] at hp
    cases hg:aS n c x with
    | none=>rw [hg] at hz; simp at hz
    | some s=>
     rw [hg] at hz hp
     simp only at hz hp
     cases hs:cz p s.1 s.2 t with
     | none=>rw [hs] at hz; simp at hz
     | some u=>
      rw [hs] at hz
      simp only at hz
      cases hcp:dG n c x u with
      | none=>rw [hcp] at hz; simp at hz
      | some y=>
       rw [hcp] at hz
       simp only [au] at hz
       subst hz
       obtain ⟨h1,h2,h3⟩:=ih hp hs
       have hg2:=Ik n hcp
       refine ⟨?_, ?_, ?_⟩
       ·show aB (.aZ n :: p) (.st y.1) y.2=some t
        simp only [aB,hg2]
        exact h1
       ·show bY (.aZ n :: p) (.st y.1) y.2
        simp only [bY,hg2]
        exact h2
       ·show az (.aZ n :: p) (.st y.1)=_
        simp only [az,lJ n hg2,lJ n hg]
        exact h3
   | _=>exact hp.elim
  | idx i=>
   cases k with
   | sl e k=>
    simp only [cz] at hz
    obtain ⟨hp0,hp1,hp2⟩:=hp
    cases hs:cz p k ((show List (El k) from x).getD i.toNat k.zero) t with
    | none=>rw [hs] at hz; simp at hz
    | some u=>
     rw [hs] at hz
     simp only at hz
     cases hc:bV u.1 k u.2 with
     | none=>rw [hc] at hz; simp at hz
     | some y=>
      rw [hc] at hz
      simp only [au] at hz
      subst hz
      obtain ⟨ek,ey⟩:=ji hc
      obtain ⟨uk,ux⟩:=u
      simp only at ek
      subst ek
      simp only at ey
      subst ey
      obtain ⟨h1,h2,h3⟩:=ih hp2 hs
      have hlt:i.toNat < @List.length (El uk) x:=by
       have:i<((@List.length (El uk) x:Nat):Int):=hp1
       omega
      have hgd:(show List (El uk) from (show List (El uk) from x).set i.toNat y).getD i.toNat uk.zero=y:=by
       have hl2:i.toNat<(@List.set (El uk) x i.toNat y).length:=by rw [List.length_set]; exact hlt
       exact (oF hl2).trans (List.getElem_set_self hl2)
      refine ⟨?_,⟨hp0, ?_, ?_⟩, ?_⟩
      ·simp only [aB]
       rw [hgd]
       exact h1
      ·have:i<((@List.length (El uk) x:Nat):Int):=hp1
       simpa using this
      ·rw [hgd]
       exact h2
      ·rfl
   | _=>exact hp.elim
theorem ahn (H:Rel cx Z J F a w) (hJ:wL cx Z J F a w ps c vs is gs) (ho:yE is=true) {kr:St} {iN:aH} {Ff:List Nat} {af:Act} (Hf:Rel (kT cx Z J F w ps c is gs) kr iN Ff af w')
  {c':Cont (gy ps)} {ws:List Wr} (hB:qJ Z ps is c' ws) (hO:rQ kr ps 0 c') {G:List Nat} (hG:∀b∈G,b∈Ff) (hGn:G.Nodup) :
  ∃ko,Rel cx (aD ws Z) ko G a w'/\AB Z J is gs kr iN Ff (aD ws Z) ko G/\(aD ws Z).slots=Z.slots/\(∀q,Z.roots q=none->(aD ws Z).roots q=none)/\(∀t,yI Z t->yI (aD ws Z) t)/\(ws=[]\/∃r R,ws=[.r r (some R)])/\
   ∀(j:Nat) (i:bM) (r:Nat) (q:List Stp) (wt ht:List TypeId),jM∉ht->is[j]?=some i->i.wb=some (r,q,wt,ht)->∃Rf R' R,kr.roots (ah j)=some Rf/\cB kr Rf/\Rf.g=0/\ws=[.r r (some R')]/\Z.roots r=some R/\bY q R'.k R'.x/\(∀t∈az q R'.k,aa t R'.own=true)/\
    (cB (aD ws Z) R'->∃wh,aT (hp w') q R'.k (ko.hdr r) (aM ko R' r)=some (iN.hdr (ah j),wh)):=by
 obtain ⟨lv,li,lg,hat⟩:=hJ.at (i0:=0)
 simp only [og] at hat
 obtain ⟨f1,f2,f3,f4,f5,f6⟩:=Hf.frame
 have hgj:∀{j:Nat} {g:GA},gs[j]?=some g->∃p cj v i,ps[j]?=some p/\vs[j]?=some v/\is[j]?=some i/\uw cx Z J F a w p cj v i g:=by
  intro j g hg
  have hj:j<ps.length:=by have:=(ql.1 hg).1; omega
  obtain ⟨cj,v,i,g',e1,e2,e3,e4,_⟩:=hat j ps[j] (jc hj)
  rw [hg] at e3
  simp only [au] at e3
  subst e3
  exact ⟨ps[j],cj,v,i,jc hj,e1,e2,e4⟩
 have sw:∀b,b<w.heap.size->hp w' b≠hp w b->∃(j:Nat) (g:GA),gs[j]?=some g/\b∈iU g/\(g.ow=true\/g.wb=true):=by
  intro b hb hne
  refine kQ fun hno=>hne (f5 b hb fun j pi hj hbl=>?_)
  obtain ⟨g,p,cj,v,i,e1,e2,e3,e4,e5,rfl⟩:=Eu H hJ hj
  exact hno ⟨j,g,e1,hbl,e5⟩
 have jU:∀b∈Ff,b<w'.heap.size/\(w.heap.size<=b\/∃(j:Nat) (g:GA),gs[j]?=some g/\b∈iU g/\(g.ow=true\/g.wb=true)):=by
  intro b hb
  obtain ⟨h1,h2⟩:=Hf.fl b hb
  refine ⟨h1,h2.imp id ?_⟩
  rintro ⟨j,pi,h3,h4⟩
  obtain ⟨g,p,cj,v,i,e1,e2,e3,e4,e5,rfl⟩:=Eu H hJ h3
  exact ⟨j,g,e1,h4,e5⟩
 have hal:∀(m:Nat) (p:aV) (i:bM),ps[m]?=some p->is[m]?=some i->(∀k ow wt ht,p≠.rw k ow wt ht)->(∀k ow wt,p≠.bR k ow wt)->i.wb=none:=by
  intro m p i hp hi h1 h2
  obtain ⟨cj,v,i',g,e1,e2,e3,e4,_⟩:=hat m p hp
  rw [hi] at e2
  simp only [au] at e2
  subst e2
  obtain ⟨_,e4⟩:=e4
  cases p with
  | val k bF=>exact e4.2.2.1
  | ro k=>exact e4.2.2.1
  | own k ow=>exact e4.2.2.1
  | fn f ks=>exact e4.2.2.1
  | rw k ow wt ht=>exact absurd rfl (h1 k ow wt ht)
  | bR k ow wt=>exact absurd rfl (h2 k ow wt)
  | into j q=>exact e4.2.2.1
 have Fa:∀{m:Nat} {g:GA} {i:bM},gs[m]?=some g->is[m]?=some i->i.wb=none->g.wb=false:=by
  intro m g i hg hi hn
  obtain ⟨p,cj,v,i',e1,e2,e3,e4⟩:=hgj hg
  rw [hi] at e3
  simp only [au] at e3
  subst e3
  cases hw:g.wb with
  | false=>rfl
  | true=>exact absurd hn ((sj H e4).2.2.2.1 hw)
 have Cq:∀{m:Nat} {g:GA} {b:Nat},gs[m]?=some g->g.wb=false->b∈iU g->b∈F:=by
  intro m g b hg hw hb
  obtain ⟨p,cj,v,i,e1,e2,e3,e4⟩:=hgj hg
  rcases (sj H e4).1 b hb with ⟨_,h⟩ | ⟨h,_⟩
  ·exact h
  ·rw [hw] at h; simp at h
 rcases ahm (j0:=0) ho hal hB hO with ⟨rfl,hnone⟩ | ⟨j,i,k,x,ow,wt,ht,r,p,R,z,dY,ht',e1,e2,e3,e4,e5,e6,e7⟩
 ·
  have hnw:∀{m:Nat} {g:GA},gs[m]?=some g->g.wb=false:=by
   intro m g hg
   obtain ⟨p,cj,v,i,g1,g2,g3,g4⟩:=hgj hg
   exact Fa hg g3 (hnone i (qm g3))
  have T:=FC (w':=w') (F':=G) H ⟨f1,f2,f3⟩ f4 (fun b hb hne=>by obtain ⟨j,g,h1,h2,_⟩:=sw b hb hne; exact Cq h1 (hnw h1) h2)
   (fun b hb=>by
    obtain ⟨h1,h2⟩:=jU b (hG b hb)
    rcases h2 with h2 | ⟨j,g,h3,h4,_⟩
    ·exact .inr ⟨h2,h1⟩
    ·exact .inl (Cq h3 (hnw h3) h4)) hGn
  refine ⟨J,H.mem T,⟨fun q Q b hq hb=>.inr (.inl ⟨Q,hq,hb,fun m g hg hbg=>?_⟩),hG⟩,rfl,fun q h=>h,fun t h=>h, .inl rfl,fun j i r q wt ht _ hi hw=>by rw [hnone i (qm hi)] at hw; simp at hw⟩
  exact H.fC q Q hq b hb (Cq hg (hnw hg) (bC _ hbg))
 ·
  have hj:j<ps.length:=by rcases e7 with ⟨h,_⟩ | ⟨h,_⟩ <;> exact (ql.1 h).1
  obtain ⟨g,hg⟩:∃g,gs[j]?=some g:=⟨gs[j]'(by omega),jc _⟩
  obtain ⟨p0,cj,v,i',g1,g2,g3,g4⟩:=hgj hg
  rw [e1] at g3
  simp only [au] at g3
  subst g3
  obtain ⟨cj2,v2,i2,gg2,a1,a2,a3,a4,a5,a6⟩:=hat j p0 g1
  obtain ⟨x0,wh,rest,hP,pg,hOw,hfo,hgn,hpr,iI,hwf,hgo,hbase,hps,hwt,hht,hR0⟩:∃(x0:El k) (wh:Option (Nat×Nat)) (rest:List Nat),zn cx Z J w k x0 ow i dY ht' r R p/\aT (hp w) p R.k (J.hdr r) (aM J R r)=some (g.cs,wh)/\Ow (hp w) R.own (bH cx Z J F w R.tags) k x0 g.cs g.fo/\(∀b∈g.fo,b∈J.fo r)/\g.fo.Nodup/\
    (J.fo r).Perm (g.fo++rest)/\(∀b o,wh=some (b,o)->b∈rest\/∃o0,aM J R r=some (b,o0)/\o0<=o/\o+k.size<=o0+R.k.size)/\(∀b o,wh=some (b,o)->b∉g.fo)/\
    (∀{t z:Dat} {tags':List Tag} {lw lh:List TypeId} {kp:Bool} {ft F':List Nat} {cs':List Value} {w':World},Bz cx Z J F w r R p ⟨k,x0⟩ R.own g.cs wh g.fo rest t z tags' lw lh kp ft F' cs' w'->
     ∃J',Rel cx (aK Z r (je R z R.own tags' lw lh kp)) J' F' a w'/\iE cx Z J F w (aK Z r (je R z R.own tags' lw lh kp)) J' F' w' (kV r lw) (kV r lh)/\(∀b∈Ow.blk J' (je R z R.own tags' lw lh kp) r,(∃o,aM J R r=some (b,o))\/b∈ft\/b∈rest)/\
      (jM∉lh->cB (aK Z r (je R z R.own tags' lw lh kp)) (je R z R.own tags' lw lh kp)->aT (hp w') p z.1 (J'.hdr r) (aM J' (je R z R.own tags' lw lh kp) r)=some (cs',wh))/\∀b∈ft,b∈J'.fo r)/\
    ((∃b o,wh=some (b,o)/\g.base=some (b,o))\/(g.base=none/\VC k g.v g.cs))/\(rC p0=k.size\/g.base=none)/\(dY=wt)/\(ht'=ht)/\
    (∃R0,iK (iJ ps 0 c) (ah j)=some R0/\R0.k=k/\HEq R0.x x0/\R0.own=ow):=by
   have h4:uw cx Z J F a w p0 cj2 v2 i2 gg2:=a4
   rw [hg] at a3
   simp only [au] at a3
   subst a3
   rw [e1] at a2
   simp only [au] at a2
   subst a2
   rcases e7 with ⟨h,_⟩ | ⟨h,akJ,_⟩
   ·rw [g1] at h
    simp only [au] at h
    subst h
    obtain ⟨hv0,h1,h2,r1,R1,q1,b,o,h3,h4',h5,h6,h7,h8,h9,h10,h11,rest,h12,Rz,RA,RB⟩:=h4
    have hwb:=h3.wb
    rw [e2] at hwb
    simp only [au,bS] at hwb
    obtain ⟨rfl,rfl,rfl,rfl⟩:=hwb
    have hRR:R1=R:=by have:=h3.lv.1; rw [e3] at this; simpa using this.symm
    subst hRR
    refine ⟨cj2.1,some (b,o),rest,h3,h5,h8,h9,h10,h12,Rz,RA,RB, .inl ⟨b,o,rfl,h7⟩, .inl rfl,rfl,rfl, ?_⟩
    rw [a6]
    exact ⟨_,rfl,rfl,HEq.rfl,rfl⟩
   ·rw [g1] at h
    simp only [au] at h
    subst h
    obtain ⟨hv0,h1,h2,r1,R1,q1,wh,h3,h4',h5,h6,h7,h8,h9,h10,rest,h12,Rz,RA,RB⟩:=h4
    have hwb:=h3.wb
    rw [e2] at hwb
    simp only [au,bS] at hwb
    obtain ⟨rfl,rfl,rfl,rfl⟩:=hwb
    have hRR:R1=R:=by have:=h3.lv.1; rw [e3] at this; simpa using this.symm
    subst hRR
    refine ⟨cj2.1,wh,rest,h3,h5,h8,h9,h10,h12,Rz,RA,RB, .inr ⟨h7,hv0▸h6⟩, .inr h7,rfl,akJ.symm, ?_⟩
    rw [a6]
    exact ⟨_,rfl,rfl,HEq.rfl,rfl⟩
  subst hwt
  subst hht
  rw [og] at e5
  obtain ⟨lw,akX,akY,akZ,hws⟩:∃lw:List TypeId,(∀e∈dY,e∈lw)/\lw≠[]/\(g.base≠none->iV R p∈lw)/\ws=[.r r (some (je R z R.own R.tags lw ht' R.keep))]:=by
   rcases e7 with ⟨h,hw⟩ | ⟨h,hh,hw⟩
   ·exact ⟨iV R p :: dY,fun e he=>by simp [he],by simp,fun _=>by simp,hw⟩
   ·refine ⟨SENT :: (k.tys++dY),fun e he=>by simp [he],by simp,fun hb=>?_,by rw [hw,hh]; rfl⟩
    rw [g1] at h
    simp only [au] at h
    subst h
    exact absurd (g4.2.2.2 |> fun ⟨_,_,_,_,_,_,_,_,hb,_⟩=>hb) hb
  subst hws
  obtain ⟨Rf,EM,Ja,⟨ek,ex⟩,Sj,nI,oI⟩:=e5
  have hlf:aU kr (ah j) Rf:=⟨EM,Ja.1⟩
  subst ek
  simp only at ex
  subst ex
  have Kf:=Hf.roots (ah j) Rf hlf
  have hgw:g.wb=true:=(sj H g4).2.2.2.2 (by rw [e2]; simp)
  have Np:(kT cx Z J F w ps c is gs).par j=some ⟨g.base.map fun q=>(q.1,q.2,rC p0),iU g,g.wb⟩:=by
   simp only [kT]
   rw [hg,g1]
   simp [hgw]
  unfold xu at nI
  simp only [bg,rD] at nI
  obtain ⟨⟨⟨⟨l1,l2⟩,l3⟩,l4⟩,l5⟩:=nI
  have hg0:Rf.g=0:=bB l5
  have hkind:aM iN Rf (ah j)=g.base/\(g.base=none->iN.hdr (ah j)=g.cs):=by
   rcases hbase with ⟨b,o,_,hb⟩ | ⟨hb,hV⟩
   ·obtain ⟨Q,hQ,hk,hl,_⟩:=Hf.kP j _ b o (rC p0) Np (by simp [hb])
    have hQR:Q=Rf:=by have:=hQ.1; rw [EM] at this; simpa using this.symm
    subst hQR
    refine ⟨?_,fun h=>by rw [hb] at h; simp at h⟩
    unfold aM
    rw [hk,hl,hb]
   ·have hrf:=(Hf.rq j g.v ⟨g,hg,rfl,hb,hgw⟩).2 Rf hlf hg0
    refine ⟨by unfold aM; rw [hrf.1,hb],fun _=>?_⟩
    have h1:=hrf.2.cells
    have h2:=hV.cells
    rw [<-h1,h2]
  obtain ⟨Z8,Zk⟩:=hkind
  have Zh:Ow.blk iN Rf (ah j)=(match g.base with | some q=>[q.1] | none=>[])++iN.fo (ah j):=by
   unfold Ow.blk
   rw [Z8]
   cases g.base <;> rfl
  have I7:(iN.fo (ah j)).Nodup:=(cK.1 (Zh▸Kf.nd)).2.1
  have akU:(iN.hdr (ah j)).length=Rf.k.size:=Kf.len
  have hK:=H.roots r R hP.lv
  have EU:=hK.nd
  rw [jG,uM] at EU
  have Zw:∀b,b∈J.fo r↔b∈g.fo\/b∈rest:=fun b=>by rw [hpr.mem_iff,bW]
  have z8:=cK.1 (hpr.nodup EU.2)
  have hcells:∀b o,wh=some (b,o)->Cells (hp w') b o (iN.hdr (ah j))/\mQ (hp w) (hp w') b o Rf.k.size:=by
   intro b o hw
   obtain ⟨m1,_,m2,⟨arr,e,lo,hi,m3,m4,m5,m6⟩,_⟩:=xw H hP.lv hP.vl hP.get hP.pin hP.own (by rw [pg,hw])
   rcases hbase with ⟨b',o',hw',hb⟩ | ⟨hb,_⟩
   ·rw [hw] at hw'
    simp only [au,bS] at hw'
    obtain ⟨rfl,rfl⟩:=hw'
    have hm:=Kf.mem b o (by rw [Z8,hb])
    have hsz:rC p0=Rf.k.size:=by
     rcases hps with h | h
     ·exact h
     ·rw [hb] at h; simp at h
    have:=f6 j _ b o (rC p0) Np (by simp [hb])
    rw [hsz] at this
    exact ⟨hm.1,this⟩
   ·have hlt:=(hK.mine b m2).1
    have hsame:hp w' b=hp w b:=by
     refine kQ fun hne=>?_
     obtain ⟨m,gm,h1,h2,h3⟩:=sw b hlt hne
     by_cases e:m=j
     ·subst e
      rw [hg] at h1
      simp only [au] at h1
      subst h1
      unfold iU at h2
      rw [hb] at h2
      exact hwf b o hw (by simpa using h2)
     ·have hgm:gm.wb=false:=by
       obtain ⟨pm,cm,vm,im,k1,k2,k3,k4⟩:=hgj h1
       exact Fa h1 k3 (e6 m im e k3)
      exact H.fC r R hP.lv b m2 (Cq h1 hgm h2)
    rw [Zk hb]
    exact ⟨m1.congr hsame,mQ.of_same _ _ m3 hsame⟩
  have hwho:∀b,(w.heap.size<=b\/∃(j:Nat) (g:GA),gs[j]?=some g/\b∈iU g/\(g.ow=true\/g.wb=true))->(∀o,g.base≠some (b,o))->b<w'.heap.size->b∈g.fo\/b∈F\/(w.heap.size<=b/\b<w'.heap.size):=by
   intro b hb hnb hlt
   rcases hb with hb | ⟨m,gm,h1,h2,h3⟩
   ·exact .inr (.inr ⟨hb,hlt⟩)
   ·by_cases e:m=j
    ·subst e
     rw [hg] at h1
     simp only [au] at h1
     subst h1
     unfold iU at h2
     cases hbb:g.base with
     | none=>rw [hbb] at h2; exact .inl (by simpa using h2)
     | some q=>
      rw [hbb] at h2
      simp only [lF,rO,bT] at h2
      rcases h2 with h2 | h2
      ·exact absurd (by rw [hbb,h2]) (hnb q.2)
      ·exact .inl h2
    ·have hgm:gm.wb=false:=by
      obtain ⟨pm,cm,vm,im,k1,k2,k3,k4⟩:=hgj h1
      exact Fa h1 k3 (e6 m im e k3)
     exact .inr (.inl (Cq h1 hgm h2))
  have Cj:∀b∈g.fo,b∈iU g:=fun b hb=>bC _ hb
  have ak0:∀b∈g.fo,¬nV (kT cx Z J F w ps c is gs) b:=by
   rintro b hb ⟨m,pi,o,n,h1,h2⟩
   obtain ⟨gm,pm,cm,vm,im,k1,k2,k3,k4,k5,rfl⟩:=Eu H hJ h1
   simp only at h2
   cases vQ:gm.base with
   | none=>rw [vQ] at h2; simp at h2
   | some q=>
    rw [vQ] at h2
    simp only [oP,au,bS] at h2
    have Zy:gm.wb=true:=by
     obtain ⟨_,_,_,_,_,_,_,hw,_⟩:=(sj H k4).2.1 q.1 q.2 (by rw [vQ])
     exact (sj H k4).2.2.2.2 (by rw [hw]; simp)
    by_cases e:m=j
    ·subst e
     rw [hg] at k1
     simp only [au] at k1
     subst k1
     rcases hbase with ⟨b',o',hw',hb'⟩ | ⟨hb',_⟩
     ·rw [vQ] at hb'
      simp only [au] at hb'
      subst hb'
      exact hwf b' o' hw' (by have:=h2.1; simp only at this; rw [this]; exact hb)
     ·rw [vQ] at hb'; simp at hb'
    ·have:=Fa k1 k3 (e6 m im e k3)
     rw [this] at Zy
     simp at Zy
  have hkb:∀b∈g.fo,(∃e∈lw,jR (hp w) b=some e)\/(hp w' b=hp w b/\b∉Ff/\∀q Q,aU kr q Q->b∈Ow.blk iN Q q->q=ah j):=by
   intro b hb
   obtain ⟨R2,h1,h2⟩:=Hf.qb j _ Np (by simp [hgw])
   rw [EM] at h1
   simp only [au] at h1
   subst h1
   rcases h2 Ja.1 b (Cj b hb) (ak0 b hb) with ⟨e,h3,h4⟩ | h
   ·refine .inl ⟨e,akX e ?_,h3⟩
    rcases h4 with h4 | h4
    ·exact l1 e h4
    ·exact l2 e h4
   ·exact .inr h
  have akf:∀b∈iN.fo (ah j),∀o,g.base≠some (b,o):=by
   intro b hb o hbb
   have:=Zh▸Kf.nd
   rw [hbb] at this
   simp only [lF,rO] at this
   exact (jg.1 this).1 hb
  have ajN:∀b∈Ff,∀o,g.base≠some (b,o):=fun b hb o hbb=>A7 Hf hb ⟨j,_,o,rC p0,Np,by simp [hbb]⟩
  have hoth:∀(m:Nat) (gm:GA),m≠j->gs[m]?=some gm->∀b∈gm.fo,b∈F:=by
   intro m gm e hm b hb
   obtain ⟨pm,cm,vm,im,k1,k2,k3,k4⟩:=hgj hm
   exact Cq hm (Fa hm k3 (e6 m im e k3)) (bC _ hb)
  have hPT:Bz cx Z J F w r R p ⟨Rf.k,x0⟩ R.own g.cs wh g.fo rest ⟨Rf.k,Rf.x⟩ z R.tags lw ht' R.keep (iN.fo (ah j)) G (iN.hdr (ah j)) w':=by
   refine ⟨e4,rfl,fun _ h=>h,⟨f1,f2,f3⟩,f4, ?_,hcells, ?_,akU, .inl akY,⟨fun _ h=>h,(H.gz r R e3).1,(H.gz r R e3).2.2⟩, ?_,I7, ?_,hGn, ?_, .inl rfl, .inl rfl, ?_, ?_⟩
   ·intro b hb hne
    obtain ⟨m,gm,h1,h2,h3⟩:=sw b hb hne
    by_cases e:m=j
    ·subst e
     rw [hg] at h1
     simp only [au] at h1
     subst h1
     unfold iU at h2
     rcases bW.1 h2 with h2 | h2
     ·cases hbb:g.base with
      | none=>rw [hbb] at h2; simp at h2
      | some q=>
       rw [hbb] at h2
       simp only [fV] at h2
       rcases hbase with ⟨b',o',hw',hb'⟩ | ⟨hb',_⟩
       ·rw [hbb] at hb'
        simp only [au] at hb'
        subst hb'
        simp only at h2
        exact .inr (.inr ⟨o',by rw [h2]; exact hw',akZ (by rw [hbb]; simp)⟩)
       ·rw [hbb] at hb'; simp at hb'
     ·rcases hkb b h2 with h | h
      ·exact .inr (.inl ⟨h2,h⟩)
      ·exact absurd h.1 hne
    ·have hgm:gm.wb=false:=by
      obtain ⟨pm,cm,vm,im,k1,k2,k3,k4⟩:=hgj h1
      exact Fa h1 k3 (e6 m im e k3)
     exact .inl (Cq h1 hgm h2)
   ·intro hw
    rcases hbase with ⟨b',o',hw',_⟩ | ⟨hb',_⟩
    ·rw [hw] at hw'; simp at hw'
    ·exact Zk hb'
   ·intro b hb
    have hbl:b∈Ow.blk iN Rf (ah j):=bC _ hb
    obtain ⟨m1,m2⟩:=Kf.mine b hbl
    refine hwho b (m2.imp id ?_) (akf b hb) m1
    rintro ⟨m,pi,h3,h4⟩
    obtain ⟨gm,pm,cm,vm,im,k1,k2,k3,k4,k5,rfl⟩:=Eu H hJ h3
    exact ⟨m,gm,k1,h4,k5⟩
   ·intro b hb
    obtain ⟨m1,m2⟩:=jU b (hG b hb)
    rcases hwho b m2 (ajN b (hG b hb)) m1 with h | h | h
    ·rcases hkb b h with h' | h'
     ·exact .inr (.inr ⟨h,h'⟩)
     ·exact absurd (hG b hb) h'.2.1
    ·exact .inl h
    ·exact .inr (.inl h)
   ·intro b hb hbG
    exact Hf.fC (ah j) Rf hlf b (bC _ hb) (hG b hbG)
   ·intro IY q c0 w0 dh tY hnq _
    by_cases hpt:az q Rf.k=[]
    ·exact NI (own:=R.own) q dh (fun t ht=>by rw [hpt] at ht; simp at ht) hnq
    ·obtain ⟨hany,b,o,hw0⟩:=aaP _ q hpt hnq
     subst hw0
     have hq:q≠[]:=fun e=>hpt (by rw [e]; simp [az])
     have alb:iW q Rf.k=jM :: az q Rf.k:=by
      cases q with
      | nil=>exact absurd rfl hq
      | cons s q=>rfl
     have hto:∀t∈az q Rf.k,aa t ow=true:=fun t ht=>by
      have h1:=eO.1 hP.just t (CO q t ht)
      have h2:=(tY t ht).1
      have h1':aa t R.own=aa t ow:=by simpa using h1
      rw [<-h1',h2]
     obtain ⟨R0,r1,r2,r3,r4⟩:=hR0
     have tX:(kT cx Z J F w ps c is gs).ptrs j q (iW q Rf.k) (.pointer (some ⟨b,o,none⟩)):=by
      refine ⟨g,R0,c0,b,o,hg,hgw,r1,by rw [r2],fun t ht=>by rw [r4]; exact hto t (r2▸ht), ?_, ?_,rfl⟩
      ·obtain ⟨R0k,R0x,_,_,_,_,_,_,_,_,_,_⟩:=R0
       simp only at r2 r3
       subst r2
       rw [eq_of_heq r3]
       exact dh
      ·rw [r2]; exact hany _
     obtain ⟨_,R2,h1,h2⟩:=Hf.q9 j q _ _ tX
     rw [EM] at h1
     simp only [au] at h1
     subst h1
     have hno:∀t∈ht',t∉iW q Rf.k:=by
      intro t ht hm
      rw [alb] at hm
      rcases bT.1 hm with h | h
      ·exact IY (h▸ht)
      ·exact (tY t h).2 ht
     obtain ⟨q1,cs,b',o',q2,q3⟩:=(h2 (fun t ht hm=>hno t (l4 t hm) ht)).2 Rf EM Ja (by
       unfold clean
       rw [eO]
       intro t ht
       have:t∈Rf.h:=Mg ht
       simp only [lC,gV]
       exact hno t (l3 t this))
      (fun t ht=>by
       have h1:=eO.1 Sj t (CO q t ht)
       have h1':aa t Rf.own=aa t ow:=by simpa using h1
       rw [h1']
       exact hto t ht)
      (by rw [EK q (y:=x0)]; exact Xv q dh)
     simp only [Value.pointer.injEq,au,qI,eY] at q3
     obtain ⟨rfl,rfl⟩:=q3
     exact ⟨q1,cs,(aaP _ q hpt q2).1 _⟩
   ·intro J' Tn hblk _
    have Y0:=Kf.ow Ja
    have hsame:∀t∈Rf.k.tys,aa t R.own=aa t Rf.own:=fun t ht=>by
     have h1:=eO.1 hP.just t ht
     have h2:=eO.1 Sj t ht
     have h1':aa t R.own=aa t ow:=by simpa using h1
     have h2':aa t Rf.own=aa t ow:=by simpa using h2
     rw [h1',h2']
    refine vk hsame ?_
    rcases oI with hall | oI
    ·refine j4 (lu (fun t ht=>?_)) Y0
     have h2:=eO.1 Sj t ht
     have h2':aa t Rf.own=aa t ow:=by simpa using h2
     rw [h2']
     exact qF hall t ht
    ·refine dZ (fun _ _=>rfl) (fun b hb=>?_) (fun _ _=>rfl) Y0
     refine NK H hJ Hf (XW H hP.lv e1 e2 hlf hg hpr hoth Tn hblk hG) (fun j' n hn i' hi' t ht=>?_) (fun m n hn=>?_) hb
     ·have h1:=eO.1 oI _ hn
      simp only [uJ,gM] at h1
      have h2:jy j' / 4=j':=by unfold jy; omega
      rw [h2,b_,fV] at h1
      subst h1
      rw [e1] at hi'
      simp only [au] at hi'
      subst hi'
      rw [hP.ids] at ht
      exact ⟨t.2,ht⟩
     ·have h1:=eO.1 oI _ hn
      have h2:Nat.beq (ah m % 4) 0=true:=by unfold ah; simp
      simp only [Ad,j6,h2,gM] at h1
      simp [aa] at h1
  obtain ⟨ko,hR2,RV,hb2,Su,_⟩:=hgo hPT
  refine ⟨ko,hR2,XW H hP.lv e1 e2 hlf hg hpr hoth RV hb2 hG,rfl,fun q hq=>?_,fun t ht=>RV.tag ht, .inr ⟨_,_,rfl⟩,fun j' i' r' q' xC ht0 akI hi' hw'=>?_⟩
  rotate_left
  ·have ej:j'=j:=by
    refine kQ fun hne=>?_
    rw [e6 j' i' hne hi'] at hw'
    simp at hw'
   subst ej
   rw [e1] at hi'
   simp only [au] at hi'
   subst hi'
   rw [e2] at hw'
   simp only [au,bS] at hw'
   obtain ⟨rfl,rfl,rfl,rfl⟩:=hw'
   obtain ⟨s1,s2,s3⟩:=anS p hP.pin e4
   exact ⟨Rf,_,R,EM,Ja,hg0,rfl,e3,s2,fun t ht=>hP.own t (by rw [<-s3]; exact ht),fun hv'=>⟨wh,Su akI hv'⟩⟩
  have hne:q≠r:=fun e=>by rw [e,e3] at hq; simp at hq
  show (aK Z r _).roots q=none
  rw [jV Z _ hne]
  exact hq
end
end
section
open Go
variable [Fr]
def ze (Z:St) (ws:List Wr) (l:List Nat) (tags:List Tag):Prop:=
 (∀r∈l,∃n,(r,n)∈tags)/\∀t∈tags,g_ t.1=true\/(∃R,ws.find? (fun w=>w.loc.beq (.r t.1))=some (.r t.1 (some R))/\t.2=dU R.w)\/(∃R,Z.roots t.1=some R/\t.2=dU R.w)
theorem amm {w:Wr} {r:Nat} (h:w.loc.beq (.r r)=true):∃o,w=.r r o:=by
 cases w with
 | s n a=>simp [Wr.loc,Loc.beq] at h
 | r n o=>
  simp only [Wr.loc,Loc.beq] at h
  exact ⟨o,by rw [bB h]⟩
theorem TR {A:Type} {z:A} {Z:St} {ws:List Wr}:∀{l:List Nat} {k:List Tag->Prog A},(Ai ws l k).ends Z z->∃tags,ze Z ws l tags/\(k tags).ends Z z:=by
 intro l
 induction l with
 | nil=>intro k h; exact ⟨[],⟨by simp,by simp⟩,h⟩
 | cons r l ih=>
  intro k h
  unfold Ai at h
  have hadd:∀{n:Nat} {tags:List Tag},ze Z ws l tags->(g_ r=true\/(∃R,ws.find? (fun w=>w.loc.beq (.r r))=some (.r r (some R))/\n=dU R.w)\/(∃R,Z.roots r=some R/\n=dU R.w))->ze Z ws (r :: l) ((r,n) :: tags):=by
   intro n tags h1 h2
   refine ⟨fun q hq=>?_,fun t ht=>?_⟩
   ·rcases bT.1 hq with h | h
    ·subst h; exact ⟨n,by simp⟩
    ·obtain ⟨m,hm⟩:=h1.1 q h; exact ⟨m,by simp [hm]⟩
   ·rcases bT.1 ht with h | h
    ·subst h; exact h2
    ·exact h1.2 t h
  cases he:g_ r with
  | true=>
   rw [he] at h
   obtain ⟨tags,g1,g2⟩:=ih h
   exact ⟨_,hadd g1 (.inl he),g2⟩
  | false=>
   rw [he] at h
   simp only [j6] at h
   split at h
   ·rename_i q R hf
    have hq:q=r:=by
     have:=List.find?_some hf
     obtain ⟨o,ho⟩:=amm this
     simp only [Wr.r.injEq] at ho
     exact ho.1
    subst hq
    obtain ⟨tags,g1,g2⟩:=ih h
    exact ⟨_,hadd g1 (.inr (.inl ⟨R,hf,rfl⟩)),g2⟩
   ·exact h.elim
   ·simp only [Prog.ends] at h
    cases hr:Z.roots r with
    | none=>rw [hr] at h; exact h.elim
    | some R=>
     rw [hr] at h
     obtain ⟨tags,g1,g2⟩:=ih h
     exact ⟨_,hadd g1 (.inr (.inr ⟨R,hr,rfl⟩)),g2⟩
def H8 (Z:St) (d:Nat) (is:List bM) (ws:List Wr):(rs:List gK)->Nat->Cont (eP rs)->List AV->List Wr->Prop
 | [],_,_,as,ws'=>as=[]/\ws'=[]
 | .val k exts bF :: rs,c,x,as,ws'=>∃tags as',ze Z ws (bif k.flat then [] else wZ (yw is exts bF)) tags/\as=.val k x.1 tags :: as'/\H8 Z d is ws rs (c+1) x.2 as' ws'
 | .own k ow exts bF :: rs,c,x,as,ws'=>∃tags as' Db,ze Z ws (bif k.tys.all (fun t=>aa t ow) then [] else wZ (yw is exts bF)) tags/\Z.roots (aG d c)=none/\as=.ref (aG d c) 0 :: as'/\ws'=.r (aG d c) (some (bK k x.1 ow tags .anon)) :: Db/\H8 Z d is ws rs (c+1) x.2 as' Db
 | .ptr t k ow exts :: rs,c,x,as,ws'=>∃tags as' Db,ze Z ws (bif k.tys.all (fun t=>aa t ow) then [] else wZ (yw is exts [])) tags/\Z.roots (aG d c)=none/\as=.ptr (aG d c) [] 0 :: as'/\ws'=.r (aG d c) (some (bK k x.1 ow tags (.var t))) :: Db/\H8 Z d is ws rs (c+1) x.2 as' Db
 | .into j p :: rs,c,x,as,ws'=>c=0/\p=[]/\rs=[]/\ws'=[]/\∃i r q wt ht R,is[j]?=some i/\i.wb=some (r,q,wt,ht)/\jM∉ht/\ws.find? (fun w=>w.loc.beq (.r r))=some (.r r (some R))/\as=[.nJ r q (dU R.w+dU R.h) (show Int from x.1).toNat]
theorem anm {A:Type} {z:A} {Z:St} {d:Nat} {is:List bM} {ws:List Wr}:∀{rs:List gK} {c:Nat} {x:Cont (eP rs)} {k:List AV->List Wr->Prog A},(mX d is ws rs c x k).ends Z z->∃as ws',H8 Z d is ws rs c x as ws'/\(k as ws').ends Z z:=by
 intro rs
 induction rs with
 | nil=>intro c x k h; exact ⟨[],[],⟨rfl,rfl⟩,h⟩
 | cons p rs ih=>
  intro c x k h
  cases p with
  | val kk exts bF=>
   simp only [mX] at h
   obtain ⟨tags,h1,h⟩:=TR h
   obtain ⟨as,ws',h2,h⟩:=ih h
   exact ⟨_,ws',⟨tags,as,h1,rfl,h2⟩,h⟩
  | own kk ow exts bF=>
   simp only [mX] at h
   obtain ⟨tags,h1,h⟩:=TR h
   obtain ⟨hn,h⟩:=pY h
   obtain ⟨as,ws',h2,h⟩:=ih h
   exact ⟨_,_,⟨tags,as,ws',h1,hn,rfl,rfl,h2⟩,h⟩
  | ptr t kk ow exts=>
   simp only [mX] at h
   obtain ⟨tags,h1,h⟩:=TR h
   obtain ⟨hn,h⟩:=pY h
   obtain ⟨as,ws',h2,h⟩:=ih h
   exact ⟨_,_,⟨tags,as,ws',h1,hn,rfl,rfl,h2⟩,h⟩
  | into j q=>
   simp only [mX] at h
   rcases bD h with ⟨hc,h⟩ | ⟨_,h⟩
   ·simp only [bg,List.isEmpty_iff] at hc
    split at h
    ·rename_i i hi
     split at h
     ·rename_i r q' wt ht hw
      split at h
      ·rename_i r' R hf
       rcases bD h with ⟨_,h⟩ | ⟨fD,h⟩
       ·exact h.elim
       have hb:=List.find?_some hf
       simp only [Wr.loc,Loc.beq] at hb
       have hb:=bB hb
       subst hb
       exact ⟨_,_,⟨bB hc.1.1,hc.1.2,hc.2,rfl,i,r',q',wt,ht,R,hi,hw,gV.1 fD,hf,rfl⟩,h⟩
      ·exact h.elim
     ·exact h.elim
    ·exact h.elim
   ·exact h.elim
theorem TF {n:Nat} {l:List Nat}:n∈l->n∈wZ l:=by
 induction l with
 | nil=>simp
 | cons m l ih=>
  intro h
  unfold wZ
  cases hm:aa m l with
  | true=>
   simp only [gM]
   rcases bT.1 h with h | h
   ·subst h; exact ih (b_.1 hm)
   ·exact ih h
  | false=>
   simp only [j6]
   rcases bT.1 h with h | h
   ·subst h; simp
   ·simp [ih h]
section
variable {P:Program} {T:bI} {cx:Cx} {Z:St} {J:aH} {F:List Nat} {a:Act} {w w':World} {ps:List aV} {c:Cont (kin ps)} {vs:List Value} {is:List bM} {gs:List GA}
theorem UO {exts bF:List Nat} {Tg U:List Tag} {l:List Nat} (ht:rE exts bF Tg=true) (hU:∀r∈l,∃n,(r,n)∈U) (hl:∀r∈yw is exts bF,r∈l) :
  (∀j n,(jy j,n)∈Tg->∀i,is[j]?=some i->∀t∈i.ids,∃n',(t.1,n')∈U)/\(∀m n,(ah m,n)∈Tg->∀i q,is[m]?=some i->i.wb=some q->∃n',(q.1,n')∈U):=by
 refine ⟨fun j n hn i hi t ht'=>?_,fun m n hn i q hi hq=>?_⟩
 ·have h1:=eO.1 ht _ hn
  simp only [uJ,gM] at h1
  have h2:jy j / 4=j:=by unfold jy; omega
  rw [h2,b_] at h1
  refine hU _ (hl _ ?_)
  unfold yw
  refine bN _ (jY.2 ⟨j,h1, ?_⟩)
  rw [hi]
  exact fK.2 ⟨t,ht',rfl⟩
 ·have h1:=eO.1 ht _ hn
  have h2:Nat.beq (ah m % 4) 0=true:=by unfold ah; simp
  simp only [Ad,j6,h2,gM] at h1
  rw [aa9,b_] at h1
  refine hU _ (hl _ ?_)
  unfold yw
  refine bC _ (jY.2 ⟨m,h1, ?_⟩)
  simp [hi,hq]
theorem aax {d c c':Nat} (h:aG d c=aG d c'):c=c':=by unfold aG at h; omega
theorem ag5 (H:Rel cx Z J F a w) (hJ:wL cx Z J F a w ps c vs is gs) {kr:St} {iN:aH} {Ff:List Nat} {af:Act} (Hf:Rel (kT cx Z J F w ps c is gs) kr iN Ff af w') {Gc:St} {d:Nat} {ws:List Wr} :
  ∀{rs:List gK} {ci:Nat} {x:Cont (eP rs)} {as:List AV} {ws':List Wr} {us:List Value} {ay:List (List Nat)} {Z':St} {J':aH},Rel cx Z' J' ay.flatten a w'->AB Z J is gs kr iN Ff Z' J' ay.flatten->
   vv (kT cx Z J F w ps c is gs) kr iN Ff w' rs x us ay->H8 Gc d is ws rs ci x as ws'->(∀l tags,ze Gc ws l tags->gG Z' tags)->(∀cj,ci<=cj->Gc.roots (aG d cj)=none->Z'.roots (aG d cj)=none)->(∀b∈ay.flatten,b∈Ff)->
   (ci=0->∀(j:Nat) (i:bM) (r:Nat) (q:List Stp) (wt ht:List TypeId) (R:Root) (b:Option Addr) (n cp m:Nat),is[j]?=some i->i.wb=some (r,q,wt,ht)->jM∉ht->ws.find? (fun w=>w.loc.beq (.r r))=some (.r r (some R))->m<=n->aW (kT cx Z J F w ps c is gs) kr iN Ff w' (.ref (ah j) 0) (.slice b n cp)->
    aW cx Z' J' ay.flatten w' (.nJ r q (dU R.w+dU R.h) m) (.slice b m cp)/\dQ Z' (.nJ r q (dU R.w+dU R.h) m))->
   ∃J'',Rel cx (aD ws' Z') J'' [] a w'/\iP cx (aD ws' Z') J'' [] w' as us/\(∀v∈as,dQ (aD ws' Z') v)/\(aD ws' Z').slots=Z'.slots/\AB Z J is gs kr iN Ff (aD ws' Z') J'' []/\
    (∀u v,dQ Z' u->aW cx Z' J' ay.flatten w' u v->aW cx (aD ws' Z') J'' [] w' u v)/\(∀t,yI Z' t->yI (aD ws' Z') t)/\(∀u,dQ Z' u->dQ (aD ws' Z') u):=by
 intro rs
 induction rs with
 | nil=>
  intro ci x as ws' us ay Z' J' H' B hL hW _ _ _ _
  obtain ⟨rfl,rfl⟩:=hW
  cases us with
  | cons _ _=>exact hL.elim
  | nil=>cases ay with
   | cons _ _=>exact hL.elim
   | nil=>exact ⟨J',H',trivial,by simp,rfl,B,fun _ _ _ h=>h,fun _ h=>h,fun _ h=>h⟩
 | cons p rs ih=>
  intro ci x as ws' us ay Z' J' H' B hL hW fq hfr hFf hcut
  cases us with
  | nil=>cases p <;> exact hL.elim
  | cons u us=>
   cases ay with
   | nil=>cases p <;> exact hL.elim
   | cons fo ay=>
    cases p with
    | val k exts bF=>
     obtain ⟨⟨rfl,Tg,cs,h1,h2,h3⟩,h4⟩:=hL
     obtain ⟨tags,as',hN,rfl,hW⟩:=hW
     simp only [lX,rO] at H' B hFf
     obtain ⟨J'',k1,k2,k3,k4,k5,k6,k7,k8⟩:=ih H' B h4 hW fq (fun cj hc=>hfr cj (by omega)) hFf (fun h=>absurd h (Nat.succ_ne_zero _))
     refine ⟨J'',k1,⟨fun _=>⟨cs,h2, ?_⟩,k2⟩, ?_,k4,k5,by simpa using k6,k7,k8⟩
     ·cases hf:k.flat with
      | true=>exact nk hf h3
      | false=>
       rw [hf] at hN h1
       obtain ⟨b1,b2⟩:=UO (is:=is) (h1.resolve_left (by simp)) hN.1 (fun r hr=>TF hr)
       exact lS (fun _ _=>rfl) (fun b hb=>NK H hJ Hf k5 b1 b2 hb) h3
     ·intro v hv
      rcases bT.1 hv with h | h
      ·subst h; exact fun t ht=>k7 t (fq _ _ hN t ht)
      ·exact k3 v h
    | own k ow exts bF=>
     obtain ⟨⟨Tg,cs,own,h1,h2,h3,h5⟩,h4⟩:=hL
     obtain ⟨tags,as',Db,hN,hn,rfl,rfl,hW⟩:=hW
     simp only [lX] at H' B hFf
     obtain ⟨aF,fd,hpm,hO⟩:=xS (own':=ow) (fun t ht hm=>h2 t ht hm) h5
     have hnd:=cK.1 H'.iw
     have z8:=cK.1 (hpm.nodup hnd.1)
     have hk:(bK k x.1 ow tags .anon false).kind=.anon:=rfl
     have hn':=hfr ci (bP _) hn
     have Ci:∀b∈aF,b∈fo:=fun b hb=>hpm.mem_iff.2 (bN _ hb)
     obtain ⟨q1,q2⟩:=Ei (R':=bK k x.1 ow tags .anon false) H' hn' (qa d ci) rfl (by simp [bK]) (fq _ _ hN) (0,0) cs aF ay.flatten
      (fun b hb=>by rw [qQ hk] at hb; exact ⟨bN _ (Ci b hb),fun h=>hnd.2.2 b (Ci b hb) b h rfl⟩) (by rw [qQ hk]; exact z8.1) (fun b hb=>bC _ hb) hnd.2.1
      (fun _=>by
       rw [qQ hk]
       show Ow (hp w') ow _ k x.1 cs aF
       cases hall:(k.tys.all fun t=>aa t ow) with
       | true=>exact j4 (lu (qF hall)) hO
       | false=>
        rw [hall] at hN h1
        obtain ⟨b1,b2⟩:=UO (is:=is) (h1.resolve_left (by simp)) hN.1 (fun r hr=>TF hr)
        refine dZ (fun _ _=>rfl) (fun b hb=>?_) (fun _ _=>rfl) hO
        rcases hb with hb | hb
        ·exact .inl (NK H hJ Hf B b1 b2 hb)
        ·have hbf:b∈fo:=hpm.mem_iff.2 (bC _ hb)
         exact .inr ⟨bN _ hbf,fun h=>hnd.2.2 b hbf b h rfl,fun h=>z8.2.2 b h b hb rfl⟩) (fP h5) (fun b o hb=>by rw [F9 hk] at hb; simp at hb)
     have hB2:AB Z J is gs kr iN Ff (aK Z' (aG d ci) (bK k x.1 ow tags .anon false)) (aR J' (aG d ci) (0,0) cs aF) ay.flatten:=by
      refine ⟨fun q Q b hq hb=>?_,fun b hb=>hFf b (bC _ hb)⟩
      rcases ug hq with ⟨rfl,rfl,_⟩ | ⟨e,hq'⟩
      ·rw [pU,qQ hk] at hb
       exact .inl (hFf b (bN _ (Ci b hb)))
      ·rw [(lZ (Z:=Z') (J:=J') (R:=bK k x.1 ow tags .anon false) e).blk] at hb
       exact B.blk q Q b hq' hb
     have vP:∀u v,dQ Z' u->aW cx Z' J' (fo++ay.flatten) w' u v->aW cx (aK Z' (aG d ci) (bK k x.1 ow tags .anon false)) (aR J' (aG d ci) (0,0) cs aF) ay.flatten w' u v:=fun u v hu hv=>
      q2.av H' (fun r R hr hs=>absurd (lZ (fun e=>by have:=hr.1; rw [e,hn'] at this; simp at this)) hs) (fun r R hr hs=>absurd (lZ (fun e=>by have:=hr.1; rw [e,hn'] at this; simp at this)) hs) hu hv
     obtain ⟨J'',k1,k2,k3,k4,k5,k6,k7,k8⟩:=ih (ci:=ci+1) q1 hB2 h4 hW (fun l tags hN t ht=>q2.tag (fq l tags hN t ht)) (fun cj hc h=>by
      rw [jV]
      ·exact hfr cj (by omega) h
      ·intro e; have:=aax e; omega) (fun b hb=>hFf b (bC _ hb)) (fun h=>absurd h (Nat.succ_ne_zero _))
     have hroot:(aK Z' (aG d ci) (bK k x.1 ow tags .anon false)).roots (aG d ci)=some (bK k x.1 ow tags .anon false):=fF ..
     have I9:dQ (aK Z' (aG d ci) (bK k x.1 ow tags .anon false)) (.ref (aG d ci) 0):=⟨_,hroot, .inr (gq _)⟩
     refine ⟨J'',k1,⟨k6 _ _ I9 (aaN h3),k2⟩, ?_,k4,k5,fun u v hu hv=>?_,fun t ht=>k7 t (q2.tag ht),fun u hu=>k8 u (q2.dQ hu)⟩
     ·intro v hv
      rcases bT.1 hv with h | h
      ·subst h
       exact k8 _ I9
      ·exact k3 v h
     ·exact k6 u v (q2.dQ hu) (vP u v hu hv)
    | ptr t k ow exts=>
     obtain ⟨⟨b0,o0,Tg,cs,own,gU,h3,rfl,h1,h2,hmem,h5⟩,h4⟩:=hL
     obtain ⟨tags,as',Db,hN,hn,rfl,rfl,hW⟩:=hW
     simp only [lX] at H' B hFf
     obtain ⟨aF,fd,hpm,hO⟩:=xS (own':=ow) (fun t ht hm=>h2 t ht hm) h5
     have hnd:=cK.1 H'.iw
     have kM:=jg.1 hnd.1
     have z8:=cK.1 (hpm.nodup kM.2)
     have hk:(bK k x.1 ow tags (.var t) false).kind=.var t:=rfl
     have hn':=hfr ci (bP _) hn
     have Ci:∀b∈b0 :: aF,b∈b0 :: gU:=fun b hb=>by
      rcases bT.1 hb with h | h
      ·rw [h]; exact jE
      ·exact jD _ (hpm.mem_iff.2 (bN _ h))
     obtain ⟨q1,q2⟩:=Ei (R':=bK k x.1 ow tags (.var t) false) H' hn' (qa d ci) rfl (by simp [bK]) (fq _ _ hN) (b0,o0) cs aF ay.flatten
      (fun b hb=>by rw [Er hk] at hb; exact ⟨bN _ (Ci b hb),fun h=>hnd.2.2 b (Ci b hb) b h rfl⟩) (by rw [Er hk]; exact jg.2 ⟨fun h=>kM.1 (hpm.mem_iff.2 (bN _ h)),z8.1⟩) (fun b hb=>bC _ hb) hnd.2.1
      (fun _=>by
       rw [Er hk]
       show Ow (hp w') ow _ k x.1 cs aF
       cases hall:(k.tys.all fun t=>aa t ow) with
       | true=>exact j4 (lu (qF hall)) hO
       | false=>
        rw [hall] at hN h1
        obtain ⟨b1,b2⟩:=UO (is:=is) (h1.resolve_left (by simp)) hN.1 (fun r hr=>TF hr)
        refine dZ (fun _ _=>rfl) (fun b hb=>?_) (fun _ _=>rfl) hO
        rcases hb with hb | hb
        ·exact .inl (NK H hJ Hf B b1 b2 hb)
        ·have hbf:b∈b0 :: gU:=jD _ (hpm.mem_iff.2 (bC _ hb))
         exact .inr ⟨bN _ hbf,fun h=>hnd.2.2 b hbf b h rfl,fun h=>by
          rcases bT.1 h with h | h
          ·subst h; exact kM.1 (hpm.mem_iff.2 (bC _ hb))
          ·exact z8.2.2 b h b hb rfl⟩) (fP h5) (fun b o hb=>by
       rw [acL hk] at hb
       simp only [au,bS] at hb
       obtain ⟨rfl,rfl⟩:=hb
       obtain ⟨m1,arr,e,lo,hi,m2,m3,m4,m5⟩:=hmem
       exact ⟨m1,arr,e,lo,hi,m2,m3,m4,fun u hu=>by rw [m5]; rw [hk] at hu; simpa using hu⟩)
     have hB2:AB Z J is gs kr iN Ff (aK Z' (aG d ci) (bK k x.1 ow tags (.var t) false)) (aR J' (aG d ci) (b0,o0) cs aF) ay.flatten:=by
      refine ⟨fun q Q b hq hb=>?_,fun b hb=>hFf b (bC _ hb)⟩
      rcases ug hq with ⟨rfl,rfl,_⟩ | ⟨e,hq'⟩
      ·rw [pU,Er hk] at hb
       exact .inl (hFf b (bN _ (Ci b hb)))
      ·rw [(lZ (Z:=Z') (J:=J') (R:=bK k x.1 ow tags (.var t) false) e).blk] at hb
       exact B.blk q Q b hq' hb
     have vP:∀u v,dQ Z' u->aW cx Z' J' ((b0 :: gU)++ay.flatten) w' u v->aW cx (aK Z' (aG d ci) (bK k x.1 ow tags (.var t) false)) (aR J' (aG d ci) (b0,o0) cs aF) ay.flatten w' u v:=fun u v hu hv=>
      q2.av H' (fun r R hr hs=>absurd (lZ (fun e=>by have:=hr.1; rw [e,hn'] at this; simp at this)) hs) (fun r R hr hs=>absurd (lZ (fun e=>by have:=hr.1; rw [e,hn'] at this; simp at this)) hs) hu hv
     obtain ⟨J'',k1,k2,k3,k4,k5,k6,k7,k8⟩:=ih (ci:=ci+1) q1 hB2 h4 hW (fun l tags hN t ht=>q2.tag (fq l tags hN t ht)) (fun cj hc h=>by
      rw [jV]
      ·exact hfr cj (by omega) h
      ·intro e; have:=aax e; omega) (fun b hb=>hFf b (bC _ hb)) (fun h=>absurd h (Nat.succ_ne_zero _))
     have hroot:(aK Z' (aG d ci) (bK k x.1 ow tags (.var t) false)).roots (aG d ci)=some (bK k x.1 ow tags (.var t) false):=fF ..
     have I9:dQ (aK Z' (aG d ci) (bK k x.1 ow tags (.var t) false)) (.ptr (aG d ci) [] 0):=⟨_,hroot, .inr (gq _)⟩
     refine ⟨J'',k1,⟨k6 _ _ I9 (by rw [h3]; exact amC),k2⟩, ?_,k4,k5,fun u v hu hv=>?_,fun t ht=>k7 t (q2.tag ht),fun u hu=>k8 u (q2.dQ hu)⟩
     ·intro v hv
      rcases bT.1 hv with h | h
      ·subst h
       exact k8 _ I9
      ·exact k3 v h
     ·exact k6 u v (q2.dQ hu) (vP u v hu hv)
    | into j q=>
     obtain ⟨⟨rfl,_,b,n,cp,e1,e2,e3⟩,h4⟩:=hL
     obtain ⟨hci,_,rfl,rfl,i,r,q',wt,ht,R,g1,g2,g0,g3,rfl⟩:=hW
     cases us with
     | cons _ _=>exact h4.elim
     | nil=>
      cases ay with
      | cons _ _=>exact h4.elim
      | nil=>
       obtain ⟨k1,k2⟩:=hcut hci j i r q' wt ht R b n cp _ g1 g2 g0 g3 e2 e3
       simp only [lX,Bp,gT] at H' k1
       simp only [lX,Bp,gT] at B
       refine ⟨J',H',⟨by rw [e1]; exact k1,trivial⟩,fun v hv=>?_,rfl,B,fun _ _ _ h=>?_,fun _ h=>h,fun _ h=>h⟩
       ·simp only [fV] at hv
        subst hv
        exact k2
       ·simp only [lX,Bp,gT] at h
        exact h
end
end
section
open Go
variable [Fr]
section
variable {P:Program} {T:bI} {cx:Cx} {Z:St} {J:aH} {F:List Nat} {a:Act} {w w':World}
theorem ac2:∀{ps:List aV} {c:Cont (kin ps)} {vs:List Value} {is:List bM} {ts:List (Value×eX)},rJ cx Z J F a w ps c vs is ts->
  is.flatMap bM.ws=fA ts/\(∀q∈ts,rU cx Z J F w q.1 q.2)/\(∀t∈nX ts,∃(j:Nat) (i:bM) (k:K) (ow:List TypeId),ps[j]?=some (.own k ow)/\is[j]?=some i/\t∈i.ids)/\vs.length=ps.length/\is.length=ps.length:=by
 intro ps
 induction ps with
 | nil=>
  intro c vs is ts h
  cases vs with
  | cons _ _=>exact h.elim
  | nil=>cases is with
   | cons _ _=>exact h.elim
   | nil=>cases ts with
    | cons _ _=>exact h.elim
    | nil=>exact ⟨rfl,by simp,by simp [nX],rfl,rfl⟩
 | cons p ps ih=>
  intro c vs is ts h
  cases vs with
  | nil=>cases p <;> exact h.elim
  | cons v vs=>
   cases is with
   | nil=>cases p <;> exact h.elim
   | cons i is=>
    have hshift:∀{ts:List (Value×eX)},(∀t∈nX ts,∃(j:Nat) (i:bM) (k:K) (ow:List TypeId),ps[j]?=some (.own k ow)/\is[j]?=some i/\t∈i.ids)->∀t∈nX ts,∃(j:Nat) (i':bM) (k:K) (ow:List TypeId),(p :: ps)[j]?=some (.own k ow)/\(i :: is)[j]?=some i'/\t∈i'.ids:=by
     intro ts h t ht
     obtain ⟨j,i',k,ow,h1,h2,h3⟩:=h t ht
     exact ⟨j+1,i',k,ow,by simpa using h1,by simpa using h2,h3⟩
    cases p with
    | val k bF=>obtain ⟨⟨_,h1,_⟩,h6⟩:=h; obtain ⟨g1,g2,g3,g4,g5⟩:=ih h6; exact ⟨by simp [h1,g1],g2,hshift g3,by simp [g4],by simp [g5]⟩
    | ro k=>obtain ⟨⟨_,h1,_⟩,h6⟩:=h; obtain ⟨g1,g2,g3,g4,g5⟩:=ih h6; exact ⟨by simp [h1,g1],g2,hshift g3,by simp [g4],by simp [g5]⟩
    | rw k ow wt ht=>obtain ⟨⟨r,R,p,hP,_⟩,h6⟩:=h; obtain ⟨g1,g2,g3,g4,g5⟩:=ih h6; exact ⟨by simp [hP.ws,g1],g2,hshift g3,by simp [g4],by simp [g5]⟩
    | bR k ow wt=>obtain ⟨⟨r,R,p,hP,_⟩,h6⟩:=h; obtain ⟨g1,g2,g3,g4,g5⟩:=ih h6; exact ⟨by simp [hP.ws,g1],g2,hshift g3,by simp [g4],by simp [g5]⟩
    | fn f ks=>obtain ⟨⟨_,h1,_⟩,h6⟩:=h; obtain ⟨g1,g2,g3,g4,g5⟩:=ih h6; exact ⟨by simp [h1,g1],g2,hshift g3,by simp [g4],by simp [g5]⟩
    | own k ow=>
     cases ts with
     | nil=>exact h.elim
     | cons q ts=>
      obtain ⟨⟨h1,h2,h3,h4,h5⟩,h6⟩:=h
      obtain ⟨g1,g2,g3,g4,g5⟩:=ih h6
      refine ⟨?_, ?_, ?_,by simp [g4],by simp [g5]⟩
      ·rw [h3]; simp [g1,fA]
      ·intro q' hq
       rcases bT.1 hq with h | h
       ·subst h; rw [h1]; exact h2
       ·exact g2 q' h
      ·intro t ht
       simp only [nX,kS,bW] at ht
       rcases ht with ht | ht
       ·exact ⟨0,i,k,ow,rfl,rfl,by rw [h3]; exact ht⟩
       ·exact hshift g3 t ht
    | into j q=>obtain ⟨⟨_,h1,_⟩,h6⟩:=h; obtain ⟨g1,g2,g3,g4,g5⟩:=ih h6; exact ⟨by simp [h1,g1],g2,hshift g3,by simp [g4],by simp [g5]⟩
theorem aa8 {r:Nat}:∀{is:List bM} {n m:Nat},uP r is n=some m->∃i q,n<=m/\is[m - n]?=some i/\i.wb=some (r,q):=by
 intro is
 induction is with
 | nil=>intro n m h; simp [uP] at h
 | cons i is ih=>
  intro n m h
  unfold uP at h
  have hrec:uP r is (n+1)=some m->∃i' q,n<=m/\(i :: is)[m - n]?=some i'/\i'.wb=some (r,q):=by
   intro h
   obtain ⟨i',q,h1,h2,h3⟩:=ih h
   refine ⟨i',q,by omega, ?_,h3⟩
   have:m - n=(m - (n+1))+1:=by omega
   rw [this]
   simpa using h2
  cases hw:i.wb with
  | none=>rw [hw] at h; exact hrec h
  | some q=>
   rw [hw] at h
   simp only at h
   cases hb:Nat.beq r q.1 with
   | true=>
    rw [hb] at h
    simp only [gM,au] at h
    subst h
    exact ⟨i,q.2,bP _,by simp,by rw [hw,bB hb]⟩
   | false=>rw [hb] at h; exact hrec h
theorem am1 {r:Nat}:∀{is:List bM} {n:Nat},uP r is n=none->∀i∈is,∀q,i.wb≠some (r,q):=by
 intro is
 induction is with
 | nil=>intro n _ i hi; simp at hi
 | cons i is ih=>
  intro n h i' hi q he
  unfold uP at h
  rcases bT.1 hi with h' | h'
  ·subst h'
   rw [he] at h
   simp at h
  ·cases hw:i.wb with
   | none=>rw [hw] at h; exact ih h i' h' q he
   | some q'=>
    rw [hw] at h
    simp only at h
    cases hb:Nat.beq r q'.1 with
    | true=>rw [hb] at h; simp at h
    | false=>rw [hb] at h; exact ih h i' h' q he
theorem aa1:∀{is:List bM} {j j':Nat} {i i':bM},yE is=true->is[j]?=some i->is[j']?=some i'->i.wb≠none->i'.wb≠none->j=j':=by
 intro is
 induction is with
 | nil=>intro j j' i i' _ h; simp at h
 | cons x is ih=>
  intro j j' i i' ho h1 h2 h3 h4
  cases j with
  | zero=>
   simp only [qM,au] at h1
   subst h1
   cases j' with
   | zero=>rfl
   | succ j'=>
    rcases JB ho with ⟨h,_⟩ | ⟨_,h⟩
    ·exact absurd h h3
    ·exact absurd (h i' (qm (by simpa using h2))) h4
  | succ j=>
   cases j' with
   | zero=>
    simp only [qM,au] at h2
    subst h2
    rcases JB ho with ⟨h,_⟩ | ⟨_,h⟩
    ·exact absurd h h4
    ·exact absurd (h i (qm (by simpa using h1))) h3
   | succ j'=>
    rcases JB ho with ⟨_,h⟩ | ⟨_,h⟩
    ·have:=ih h (by simpa using h1) (by simpa using h2) h3 h4; omega
    ·exact absurd (h i (qm (by simpa using h1))) h3
def Qr (is:List bM) (p:aV) (i:bM):Prop:=
 (∃(k:K) (bF:List Nat),p=.val k bF/\(∀m∈bF,∃q:bM,is[m]?=some q/\q.wb≠none)/\∀t∈i.ids,(∃(n:Nat) (j':bM),uP t.1 is 0=some n/\n∈bF/\is[n]?=some j'/\∀b∈j'.bt,b∉k.tys)\/(uP t.1 is 0=none/\t.1∉is.flatMap fun j=>j.ws.flatMap Wr.eU))\/
  ((∀k bF,p≠.val k bF)/\∀t∈i.ids,t.1∉is.flatMap bM.touched)
theorem aol {is:List bM}:∀{ps:List aV} {l:List bM},Ay is ps l=true->∀(j:Nat) (p:aV) (i:bM),ps[j]?=some p->l[j]?=some i->Qr is p i:=by
 intro ps
 induction ps with
 | nil=>intro l _ j p i hp; simp at hp
 | cons p ps ih=>
  intro l h j q i hq hi
  cases l with
  | nil=>cases p <;> simp [Ay] at h
  | cons x l=>
   have hhead:(j=0->q=p/\i=x):=by
    intro e
    subst e
    simp only [qM,au] at hq hi
    exact ⟨hq.symm,hi.symm⟩
   have Z4:Ay is ps l=true->j≠0->Qr is q i:=by
    intro h hj
    obtain ⟨j',rfl⟩:∃j',j=j'+1:=⟨j - 1,by omega⟩
    exact ih h j' q i (by simpa using hq) (by simpa using hi)
   have hother:(∀(k:K) (bF:List Nat),p≠.val k bF)->(x.ids.all (fun t=>!aa t.1 (is.flatMap bM.touched)) && Ay is ps l)=true->Qr is q i:=by
    intro hp hx
    rw [bg] at hx
    by_cases hj:j=0
    ·obtain ⟨e1,e2⟩:=hhead hj
     rw [e1,e2]
     refine .inr ⟨hp,fun t ht=>?_⟩
     have:=eO.1 hx.1 t ht
     simpa [gV] using this
    ·exact Z4 hx.2 hj
   cases p with
   | val k bF=>
    simp only [Ay,bg] at h
    by_cases hj:j=0
    ·obtain ⟨rfl,rfl⟩:=hhead hj
     refine .inl ⟨k,bF,rfl,fun m hm=>?_,fun t ht=>?_⟩
     ·have:=eO.1 h.1.1 m hm
      cases ZB:is[m]? with
      | none=>rw [ZB] at this; simp at this
      | some q=>
       rw [ZB] at this
       refine ⟨q,rfl,fun e=>?_⟩
       simp [e] at this
     ·have:=eO.1 h.1.2 t ht
      cases hpo:uP t.1 is 0 with
      | none=>
       rw [hpo] at this
       refine .inr ⟨rfl, ?_⟩
       simpa [gV] using this
      | some n=>
       rw [hpo] at this
       simp only [bg] at this
       cases hni:is[n]? with
       | none=>rw [hni] at this; simp at this
       | some j'=>
        rw [hni] at this
        refine .inl ⟨n,j',rfl,b_.1 this.1,hni,fun b hb=>?_⟩
        have h2:=eO.1 this.2 b hb
        simpa [gV] using h2
    ·exact Z4 h.2 hj
   | ro k=>exact hother (by simp) h
   | rw k ow wt ht=>exact hother (by simp) h
   | bR k ow wt=>exact hother (by simp) h
   | own k ow=>exact hother (by simp) h
   | fn f ks=>exact hother (by simp) h
   | into j q=>exact hother (by simp) h
theorem acY {Z1:St}:∀{ps:List aV} {is:List bM} {c:Cont (gy ps)} {ws:List Wr},(∀i∈is,∀r q,i.wb=some (r,q)->Z1.roots r=Z.roots r)->qJ Z ps is c ws->qJ Z1 ps is c ws:=by
 intro ps
 induction ps with
 | nil=>
  intro is c ws _ h
  cases is with
  | nil=>exact h
  | cons _ _=>exact h.elim
 | cons p ps ih=>
  intro is c ws hr h
  cases is with
  | nil=>cases p <;> exact h.elim
  | cons i is=>
   have hr':∀i∈is,∀r q,i.wb=some (r,q)->Z1.roots r=Z.roots r:=fun i hi=>hr i (by simp [hi])
   cases p with
   | rw kk ow xC ht0=>obtain ⟨r,p,wt,ht,R,z,ws',h1,h2,h3,h4,h5⟩:=h; exact ⟨r,p,wt,ht,R,z,ws',h1,by rw [hr i (by simp) r _ h1]; exact h2,h3,h4,ih hr' h5⟩
   | bR kk ow xC=>obtain ⟨r,p,wt,ht,R,z,ws',h1,h2,h3,h4,h5⟩:=h; exact ⟨r,p,wt,ht,R,z,ws',h1,by rw [hr i (by simp) r _ h1]; exact h2,h3,h4,ih hr' h5⟩
   | val _ _=>exact ih hr' h
   | ro _=>exact ih hr' h
   | own _ _=>exact ih hr' h
   | fn _ _=>exact ih hr' h
   | into _ _=>exact ih hr' h
theorem ahk {as:List AV} {us:List Value} (h:iP cx Z J F w as us):jr cx Z J F w (QB as) (Kb us):=by
 cases as with
 | nil=>cases us with
  | nil=>exact ⟨[],rfl,trivial⟩
  | cons _ _=>exact h.elim
 | cons x as=>cases us with
  | nil=>exact h.elim
  | cons u us=>
   cases as with
   | nil=>cases us with
    | nil=>exact h.1
    | cons _ _=>exact h.2.elim
   | cons y as=>cases us with
    | nil=>exact h.2.elim
    | cons u' us=>exact ⟨u :: u' :: us,rfl,h⟩
theorem ahj {as:List AV} (h:∀v∈as,dQ Z v):ny Z (QB as):=by
 cases as with
 | nil=>exact fun a ha=>by simp at ha
 | cons x as=>cases as with
  | nil=>exact h x (by simp)
  | cons y as=>exact h
theorem amM {A:Type} {f g:A->List Nat}:∀{l:List A},(∀x∈l,(g x).Sublist (f x))->(l.flatMap f).Nodup->(l.flatMap g).Nodup:=by
 intro l hs h
 refine h.sublist ?_
 clear h
 induction l with
 | nil=>simp
 | cons x l ih=>
  simp only [kS]
  exact (hs x (by simp)).append (ih (fun y hy=>hs y (by simp [hy])))
theorem ajp {A:Type} {f:A->List Nat}:∀{l:List A} {x:A},x∈l->(l.flatMap f).Nodup->(f x).Nodup:=by
 intro l
 induction l with
 | nil=>intro x hx; simp at hx
 | cons y l ih=>
  intro x hx h
  simp only [kS] at h
  have n:=cK.1 h
  rcases bT.1 hx with h1 | h1
  ·subst h1; exact n.1
  ·exact ih h1 n.2.1
theorem Df.mono {f:FuncId} {args:Array Value} {R R':Value->World->Prop} (h:Df P f args w R) (hr:∀v w',R v w'->R' v w'):Df P f args w R':=by
 rcases h with ⟨h1,h2⟩ | ⟨v,w',h1,h2⟩
 ·exact .inl ⟨h1,h2.mono fun e w' ⟨v,he,h⟩=>⟨v,he,hr _ _ h⟩⟩
 ·exact .inr ⟨v,w',h1,hr _ _ h2⟩
theorem ahI {n:Nat} {E:Entry} (hE:aC P n E) (H:Rel cx Z J F a w) {dst:Option Nat} {nQ:List AV} {vs:List Value} (hl:iP cx Z J F w nQ vs) (IZ:∀v∈nQ,dQ Z v) (hdn:∀d,dst=some d->d<cx.nt) {ws:List Wr}
  (h:(QU n E dst nQ fun ws=>(.ret ws:Prog (List Wr))).ends Z ws):Df P E.f vs.toArray w fun v w'=>∃J' F',Rel cx (aD ws Z) J' F' (a.put dst v) w':=by
 unfold QU at h
 obtain ⟨c,is,ts,hG,h⟩:=ajA H hl IZ h
 obtain ⟨gw,gt,gtt,gl1,gl2⟩:=ac2 hG
 rcases bD h with ⟨hc,h⟩ | ⟨_,h⟩
 ·rw [bg,bg] at hc
  obtain ⟨⟨hap,ho⟩,hvo⟩:=hc
  have hnd:=Ih.1 hap
  obtain ⟨out,hout,h⟩:=h
  obtain ⟨AA,hB,h⟩:=ahl h
  have hvs:=aol hvo
  have EZ:(fA ts).flatMap Wr.eU=is.flatMap fun i=>i.ws.flatMap Wr.eU:=by rw [<-gw,List.flatMap_assoc]
  have ali:((fA ts).flatMap Wr.eU).Nodup:=by
   rw [EZ]
   exact amM (fun i _=>by unfold bM.touched; exact List.sublist_append_right _ _) hnd
  have alj:∀r,r∈(fA ts).flatMap Wr.eU->r∈is.flatMap bM.touched:=by
   intro r hr
   rw [EZ] at hr
   obtain ⟨i,hi,h1⟩:=jY.1 hr
   exact jY.2 ⟨i,hi,by unfold bM.touched; exact bC _ h1⟩
  have Z7:∀(m:Nat) (i:bM) r q,is[m]?=some i->i.wb=some (r,q)->r∉(fA ts).flatMap Wr.eU:=by
   intro m i r q hi hw hr
   rw [EZ] at hr
   obtain ⟨i',hi',h1⟩:=jY.1 hr
   obtain ⟨m',hm',he⟩:=sU.1 hi'
   have hi2:is[m']?=some i':=by rw [jc hm',he]
   have ht1:r∈i.touched:=by unfold bM.touched; rw [hw]; simp
   by_cases e:m=m'
   ·subst e
    rw [hi] at hi2
    simp only [au] at hi2
    subst hi2
    have:=ajp hi' hnd
    unfold bM.touched at this
    rw [hw] at this
    simp only [lF,rO] at this
    exact (jg.1 this).1 h1
   ·exact flatMap_apart hnd hi hi2 e r ht1 (by unfold bM.touched; exact bC _ h1)
  have Ng:∀(j:Nat) (i:bM),is[j]?=some i->∀t∈i.ids,t.1∉(fA ts).flatMap Wr.eU:=by
   intro j i hi t ht hr
   have hj:j<E.ps.length:=by have:=(ql.1 hi).1; omega
   rcases hvs j E.ps[j] i (jc hj) hi with ⟨k,bF,_,_,h1⟩ | ⟨_,h1⟩
   ·rcases h1 t ht with ⟨n,j',h2,_,_,_⟩ | ⟨_,h2⟩
    ·obtain ⟨i',q,_,h3,h4⟩:=aa8 h2
     simp only [Nat.sub_zero] at h3
     exact Z7 n i' t.1 q h3 h4 hr
    ·exact h2 (by rw [<-EZ]; exact hr)
   ·exact h1 t ht (alj _ hr)
  obtain ⟨aI,F1,hs,H1,hA1,sF,hnF1,aoI,hS1,_,hV1,alv,ak2⟩:=takes ts H gt ali (fun t ht=>by
   obtain ⟨j,i,k,ow,h1,h2,h3⟩:=gtt t ht
   exact Ng j i h2 t h3)
  have ajZ:∀i∈is,∀t∈i.ids,Same Z J (aD (fA ts) Z) aI t.1:=by
   intro i hi t ht
   obtain ⟨j,hj,he⟩:=sU.1 hi
   exact hS1 _ (Ng j i (by rw [jc hj,he]) t ht)
  have Y9:∀i∈is,∀r q,i.wb=some (r,q)->Same Z J (aD (fA ts) Z) aI r:=by
   intro i hi r q hw
   obtain ⟨j,hj,he⟩:=sU.1 hi
   exact hS1 _ (Z7 j i r q (by rw [jc hj,he]) hw)
  obtain ⟨gs,hJ,hfl⟩:=ahh H1 hV1 hG hA1 ajZ Y9
  obtain ⟨lv,li,lg,hat⟩:=hJ.at (i0:=0)
  have hA:Apart cx (aD (fA ts) Z) aI F1 w E.ps is gs:=by
   refine ⟨fun j j' g g' hg hg' hw hw'=>?_,by rw [hfl]; exact sF,fun j p i r n hp hi hn m i' q hm hq=>?_,fun j p hp m hm=>?_⟩
   ·have hget:∀{j:Nat} {g:GA},gs[j]?=some g->g.wb=true->∃i,is[j]?=some i/\i.wb≠none:=by
     intro j g hg hw
     have hj:j<E.ps.length:=by have:=(ql.1 hg).1; omega
     obtain ⟨cj,v,i,g',e1,e2,e3,e4,_⟩:=hat j E.ps[j] (jc hj)
     rw [hg] at e3
     simp only [au] at e3
     subst e3
     exact ⟨i,e2,(sj H1 e4).2.2.2.1 hw⟩
    obtain ⟨i,h1,h2⟩:=hget hg hw
    obtain ⟨i',h3,h4⟩:=hget hg' hw'
    exact aa1 ho h1 h3 h2 h4
   ·rcases hvs j p i hp hi with ⟨k,bF,h0,_,h1⟩ | ⟨_,h1⟩
    ·rcases h1 (r,n) hn with ⟨n',j',h2,h3,h4,h5⟩ | ⟨h2,_⟩
     ·obtain ⟨Cv,q',_,h6,h7⟩:=aa8 h2
      simp only [Nat.sub_zero] at h6
      have e:=aa1 ho h6 hm (by rw [h7]; simp) (by rw [hq]; simp)
      subst e
      rw [hm] at h4
      simp only [au] at h4
      subst h4
      subst h0
      exact ⟨h3,k,bF,rfl,h5⟩
     ·exact absurd hq (am1 h2 i' (qm hm) q)
    ·refine absurd ?_ (h1 (r,n) hn)
     exact jY.2 ⟨i',qm hm,by unfold bM.touched; rw [hq]; simp⟩
   ·have hj:j<is.length:=by have:=(ql.1 hp).1; omega
    rcases hvs j p is[j] hp (jc hj) with ⟨k,bF,h0,h1,_⟩ | ⟨h0,_⟩
    ·subst h0
     obtain ⟨q,h2,h3⟩:=h1 m hm
     cases hw:q.wb with
     | none=>exact absurd hw h3
     | some u=>exact ⟨q,u,h2,hw⟩
    ·cases p with
     | val k bF=>exact absurd rfl (h0 k bF)
     | _=>simp [CP] at hm
  have hinit:=alL H1 hJ hA
  have ak9:Ec (kT cx (aD (fA ts) Z) aI F1 w E.ps c is gs) E.ps:=am3 H1 hJ
  refine (hE c out hout _ _ vs.toArray w rfl rfl (by simpa using gl1) ak9 hinit).mono ?_
  rintro v w' ⟨kr,iN,Ff,af,us,ay,Hf,hv,hRL,hfn,qA,hOL⟩
  have hB1:qJ (aD (fA ts) Z) E.ps is (Cont.snd (eP E.rs) (gy E.ps) out) AA:=acY (fun i hi r q hw=>(Y9 i hi r q hw).root) hB
  obtain ⟨ko,H2,hBS,hsl2,ak3,alx,Fb,ak_⟩:=ahn H1 hJ ho Hf hB1 hOL qA hfn
  have ak4:∀l tags,ze Z AA l tags->gG (aD AA (aD (fA ts) Z)) tags:=by
   intro l tags hN t ht
   rcases hN.2 t ht with h | ⟨R,hf,hn⟩ | ⟨R,hr,hn⟩
   ·exact .inl h
   ·rcases Fb with rfl | ⟨r,R',rfl⟩
    ·simp at hf
    ·have hm:=List.mem_of_find?_eq_some hf
     simp only [fV,Wr.r.injEq,au] at hm
     obtain ⟨h1,h2⟩:=hm
     refine .inr ⟨R, ?_, .inr (by rw [hn]; exact bP _)⟩
     rw [h1,h2]
     exact fF ..
   ·exact alx t (alv t (.inr ⟨R,hr, .inr (by rw [hn]; exact bP _)⟩))
  cases dst with
  | none=>
   simp only at h
   rw [bz h,ou,gw]
   exact ⟨ko,_,H2⟩
  | some d=>
   simp only at h
   obtain ⟨as,ws3,hW,h⟩:=anm h
   rw [bz h,ou,ou,ou,gw]
   obtain ⟨α3,k1,k2,k3,k4,_⟩:=ag5 H1 hJ Hf H2 hBS hRL hW ak4 (fun cj _ hn=>ak3 _ (ak2 _ hn)) qA (fun _ j i r q wt ht R b n cp m g1 g2 g0 g3 g4 g5=>by
    obtain ⟨Rf,R',R0,p1,p2,p3,p4,p5,p6,p7,p8⟩:=ak_ j i r q wt ht g0 g1 g2
    have eR:R=R':=by
     rw [p4] at g3
     simp [Wr.loc,Loc.beq] at g3
     exact g3.symm
    subst eR
    have hroot:(aD AA (aD (fA ts) Z)).roots r=some R:=by
     rw [p4]; exact fF ..
    refine ⟨⟨b,cp,rfl,fun R2 hR2 hv2 _ dd hdd=>?_⟩,R,hroot, .inr (bP _)⟩
    rw [hroot] at hR2
    simp only [au] at hR2
    subst hR2
    obtain ⟨wh,pg⟩:=p8 hv2
    obtain ⟨hk,jT⟩:=g5 Rf ⟨p1,p2.1⟩ p3
    have hh:iN.hdr (ah j)=[.slice b n cp]:=by
     unfold VC at jT
     split at jT
     ·simp at jT
     ·exact jT.1
    exact ⟨p6,p7,n,wh,by rw [<-hh]; exact pg,g4⟩)
   refine ⟨α3,[], ?_⟩
   rw [hv]
   exact k1.put (hdn d rfl) (ahj k3) (ahk k2)
 ·exact h.elim
end
end
section
open Go
variable [Fr]
section
variable {P:Program} {T:bI} {cx:Cx} {Z:St} {J:aH} {F:List Nat} {a:Act} {w:World} {o:Oper} {ws:List Wr} {hi:Hint} {n:Nat}
def OB (P:Program) (cx:Cx) (o:Oper) (a:Act) (w:World) (Z':St):Prop:=
 ∀(K:Act->World->Prop) (Q:Exit->Act->World->Prop),(∀J' F' a' w',Rel cx Z' J' F' a' w'->K a' w')->o.wp P a w K Q
theorem dH.toW {Z':St} (h:dH P cx o a w Z'):OB P cx o a w Z':=fun K Q hK=>h.wp hK
def xE (P:Program) (n:Nat) (hi:Hint):Prop:=∀q∈hi.calls,aC P n q.2.2
theorem aji {f d:Nat}:∀{l:List (Nat×Option Nat×Entry)} {E:Entry},zT f d l=some E->∃q∈l,q.2.2=E:=by
 intro l
 induction l with
 | nil=>intro E h; simp [zT] at h
 | cons q l ih=>
  intro E h
  obtain ⟨g,od,E'⟩:=q
  cases od with
  | none=>
   unfold zT at h
   cases hb:Nat.beq f g with
   | true=>rw [hb] at h; simp only [gM,au] at h; exact ⟨_,jE,h⟩
   | false=>
    rw [hb] at h
    obtain ⟨q,h1,h2⟩:=ih h
    exact ⟨q,jD _ h1,h2⟩
  | some e=>
   unfold zT at h
   cases hb:(Nat.beq f g && Nat.beq d e) with
   | true=>rw [hb] at h; simp only [gM,au] at h; exact ⟨_,jE,h⟩
   | false=>
    rw [hb] at h
    obtain ⟨q,h1,h2⟩:=ih h
    exact ⟨q,jD _ h1,h2⟩
theorem amg {l m:List AV} {vs us:List Value} (h1:iP cx Z J F w l vs) (h2:iP cx Z J F w m us):iP cx Z J F w (l++m) (vs++us):=by
 induction l generalizing vs with
 | nil=>cases vs with
  | nil=>exact h2
  | cons _ _=>exact h1.elim
 | cons x l ih=>cases vs with
  | nil=>exact h1.elim
  | cons v vs=>exact ⟨h1.1,ih h1.2⟩
theorem Yb:∀{cs:List (TypeId×Dat×List Tag)} {vs:List Value},nC cx Z J F w cs vs->iP cx Z J F w (cs.map fun q=>.fU q.1 q.2.1.1 q.2.1.2 q.2.2) vs
 | [],[],_=>trivial
 | _ :: _,_ :: _,h=>⟨h.1,Yb h.2⟩
 | [],_ :: _,h=>h.elim
 | _ :: _,[],h=>h.elim
theorem X8 (hC:xE P n hi) (H:Rel cx Z J F a w) {c:Call} (ho:o.op=.call c) (hdn:∀d,o.dst=some d->d<cx.nt) (h:(ML hi n o.dst c fun ws=>(.ret ws:Prog (List Wr))).ends Z ws):OB P cx o a w (aD ws Z):=by
 intro K Q hK
 unfold ML at h
 split at h
 ·rename_i f akk
  obtain ⟨fv,h1,h2,h⟩:=jS H h
  cases fv with
  | fn f' caps=>
   simp only at h
   obtain ⟨us,e1,e2⟩:=h1
   obtain ⟨l,h3,h4,h⟩:=w_ H h
   cases hf:zT f' (o.dst.getD 0) hi.calls with
   | none=>rw [hf] at h; exact h.elim
   | some E=>
    rw [hf] at h
    simp only at h
    rcases bD h with ⟨hb,h9⟩ | ⟨_,h⟩
    ·have hEf:E.f=f':=bB hb
     clear h
     subst hEf
     obtain ⟨q,hq,rfl⟩:=aji hf
     have hcall:=ahI (hC q hq) H (amg h3 (Yb e2)) (fun v hv=>by
      rcases bW.1 hv with h | h
      ·exact h4 v h
      ·obtain ⟨cc,hcc,rfl⟩:=fK.1 h
       exact h2 cc hcc) hdn h9
     have hargs:(c.args.toList.map a.eval++us).toArray=c.args.map a.eval++us.toArray:=by
      apply uV
      simp
     rw [hargs] at hcall
     have hrun:(execOp a.eval o).run P w=(callFunc q.2.2.f (c.args.map a.eval++us.toArray)).run P w:=by
      simp only [execOp,ho,resolve,akk,e1,Deferred.ofValue,dP,fB,fZ,invoke,Array.empty_append]
     unfold Oper.wp
     rw [hrun]
     rcases hcall with ⟨g1,g2⟩ | ⟨v,w',g1,J',F',g2⟩
     ·rw [g1]
      refine g2.mono fun e w' he=>?_
      obtain ⟨v,rfl,J',F',hR⟩:=he
      exact hK _ _ _ _ hR
     ·rw [g1]
      exact hK _ _ _ _ g2
    ·exact h.elim
  | _=>exact h.elim
 ·exact h.elim
theorem acr (hT:fM P T) (hSt:wR P T) (hC:xE P n hi) (H:Rel cx Z J F a w) (hnt:hi.nt=cx.nt) (h:(Am T hi n o fun ws=>(.ret ws:Prog (List Wr))).ends Z ws):OB P cx o a w (aD ws Z):=by
 unfold Am at h
 cases hd:o.dst with
 | none=>
  rw [hd] at h
  simp only at h
  unfold acp at h
  split at h
  ·rename_i t x v ho
   exact (aiK hT H hd ho h).toW
  ·rename_i c ho
   split at h
   ·rename_i hcb
    obtain ⟨vs,h1,h2,h⟩:=w_ H h
    split at h
    ·split at h
     ·rename_i ht0
      obtain ⟨v,w',J',r1,r2⟩:=aij hT H ho hcb h1 ht0 h
      refine (show dH P cx o a w (aD ws Z) from ⟨v,w',J',[], .inl r1, ?_⟩).toW
      rw [hd]
      exact r2
     ·exact h.elim
    ·exact h.elim
   ·exact X8 hC H ho (by rw [hd]; simp) (by rw [hd]; exact h)
  ·exact h.elim
 | some d=>
  rw [hd] at h
  simp only at h
  rcases bD h with ⟨hb,h⟩ | ⟨_,h⟩
  ·have hdn:d<cx.nt:=by
    rw [<-hnt]
    unfold Nat.blt at hb
    exact Mj hb
   rcases bD h with ⟨_,h⟩ | ⟨_,h⟩
   ·exact (aiJ hT H hd hdn h).toW
   rcases bD h with ⟨_,h⟩ | ⟨_,h⟩
   ·exact (aiH hT H hd hdn h).toW
   unfold aco at h
   cases ho:o.op with
   | move x=>rw [ho] at h; exact (aiz H hd hdn ho h).toW
   | assign x=>rw [ho] at h; exact (aic (L:=NF hi d) H hd hdn ho h).toW
   | pick c x y=>rw [ho] at h; exact (aiD H hd hdn ho h).toW
   | alloc t=>rw [ho] at h; exact (ah9 hT H hd hdn ho h).toW
   | box t x=>rw [ho] at h; exact (aif H hd hdn ho h).toW
   | build t ps=>rw [ho] at h; exact (Yu hT H hd hdn h ho).toW
   | buildSlice t l ps=>rw [ho] at h; exact (aih (L:=NF hi d) hT H hd hdn h ho).toW
   | load t x=>rw [ho] at h; exact (aiv hT H hd hdn ho h).toW
   | nilCheck x=>rw [ho] at h; exact (aiA H hd hdn ho h).toW
   | binOp op t x y t2=>rw [ho] at h; exact (aid hT hSt H hd hdn ho h).toW
   | unOp op t x=>rw [ho] at h; exact (aiM H hd hdn ho h).toW
   | convert s t x=>rw [ho] at h; exact (ail hT H hd hdn ho h).toW
   | field t x n=>rw [ho] at h; exact (aip hT H hd hdn ho h).toW
   | fieldAddr t x n=>rw [ho] at h; exact (aiq hT H hd hdn ho h).toW
   | indexAddr t x y=>rw [ho] at h; exact (ais hT H hd hdn ho h).toW
   | index t x y=>rw [ho] at h; exact (air hT H hd hdn ho h).toW
   | extract x i=>rw [ho] at h; exact (aio H hd hdn ho h).toW
   | makeSlice t x y=>rw [ho] at h; exact (aiy hT H hd hdn h ho).toW
   | makeFunc f first caps=>
    rw [ho] at h
    cases f with
    | func f=>exact (aix H hd hdn ho h).toW
    | _=>exact h.elim
   | slice t x lo hi2 mx=>rw [ho] at h; exact (aiG hT H hd hdn h ho).toW
   | call c=>
    rw [ho] at h
    simp only at h
    split at h
    ·rename_i hcb; exact (ait hT H hd hdn ho hcb h).toW
    ·rename_i hcb; exact (aib hT H hd hdn ho hcb h).toW
    ·rename_i hcb; exact (Yv (mx:=false) H hd hdn ho hcb h).toW
    ·rename_i hcb; exact (Yv (mx:=true) H hd hdn ho hcb h).toW
    ·exact X8 hC H ho (by rw [hd]; intro d2 e; simp only [au] at e; subst e; exact hdn) (by rw [hd]; exact h)
    ·exact h.elim
   | _=>rw [ho] at h; exact h.elim
  ·exact h.elim
end
end
section
open Go
variable [Fr]
def Prog.nR {J:Type}:Prog J->St->List Loc->J->List Loc->Prop
 | .ret a,_,l,x,l'=>x=a/\l'=l
 | .fail,_,_,_,_=>False
 | .slot n k,Z,l,x,l'=>(k (Z.slots n)).nR Z (.s n :: l) x l'
 | .root r k,Z,l,x,l'=>(k (Z.roots r)).nR Z (.r r :: l) x l'
 | .eZ c _ k,Z,l,x,l'=>c/\k.nR Z l x l'
 | .br c t e,Z,l,x,l'=>(c=true/\t.nR Z l x l')\/(c=false/\e.nR Z l x l')
 | .opt _ o k,Z,l,x,l'=>∃b,o=some b/\(k b).nR Z l x l'
theorem abW {J R:Type} (p:Prog J) {Z:St} {l:List Loc} {K:J->List Loc->Option R} {r:R} (h:p.uT Z l K=some r):∃x l',p.nR Z l x l'/\K x l'=some r:=by
 induction p generalizing l with
 | ret a=>exact ⟨a,l,⟨rfl,rfl⟩,h⟩
 | fail=>simp [Prog.uT] at h
 | slot n k ih=>exact ih _ h
 | root n k ih=>exact ih _ h
 | eZ c d k ih=>
  simp only [Prog.uT] at h
  split at h
  ·rename_i hc
   obtain ⟨x,l',h1,h2⟩:=ih h
   exact ⟨x,l',⟨hc,h1⟩,h2⟩
  ·simp at h
 | br c t e q8 qZ=>
  simp only [Prog.uT] at h
  cases c with
  | true=>
   simp only [a_] at h
   obtain ⟨x,l',h1,h2⟩:=q8 h
   exact ⟨x,l', .inl ⟨rfl,h1⟩,h2⟩
  | false=>
   simp only [bG,bE] at h
   obtain ⟨x,l',h1,h2⟩:=qZ h
   exact ⟨x,l', .inr ⟨rfl,h1⟩,h2⟩
 | opt β o k ih=>
  simp only [Prog.uT] at h
  cases o with
  | none=>simp at h
  | some b=>
   simp only [aJ] at h
   obtain ⟨x,l',h1,h2⟩:=ih b h
   exact ⟨x,l',⟨b,rfl,h1⟩,h2⟩
theorem YB {J:Type} (p:Prog J) {Z:St} {l l':List Loc} {x:J} (h:p.nR Z l x l'):p.ends Z x:=by
 induction p generalizing l with
 | ret a=>exact h.1
 | fail=>exact h.elim
 | slot n k ih=>exact ih _ h
 | root n k ih=>exact ih _ h
 | eZ c d k ih=>exact ⟨h.1,ih h.2⟩
 | br c t e q8 qZ=>exact h.imp (fun h=>⟨h.1,q8 h.2⟩) (fun h=>⟨h.1,qZ h.2⟩)
 | opt β o k ih=>obtain ⟨b,h1,h2⟩:=h; exact ⟨b,h1,ih b h2⟩
theorem YC {J:Type} (p:Prog J) {Z:St} {x:J} (h:p.ends Z x):∀l,∃l',p.nR Z l x l':=by
 induction p with
 | ret a=>exact fun l=>⟨l,h,rfl⟩
 | fail=>exact h.elim
 | slot n k ih=>exact fun l=>ih _ h _
 | root n k ih=>exact fun l=>ih _ h _
 | eZ c d k ih=>exact fun l=>(ih h.2 l).imp fun _ h'=>⟨h.1,h'⟩
 | br c t e q8 qZ=>
  intro l
  rcases h with h | h
  ·exact (q8 h.2 l).imp fun _ h'=>.inl ⟨h.1,h'⟩
  ·exact (qZ h.2 l).imp fun _ h'=>.inr ⟨h.1,h'⟩
 | opt β o k ih=>obtain ⟨b,h1,h2⟩:=h; exact fun l=>(ih b h2 l).imp fun _ h'=>⟨b,h1,h'⟩
theorem Rb {J:Type} (p:Prog J) {Z:St} {l l':List Loc} {x:J} (h:p.nR Z l x l'):∀y∈l,y∈l':=by
 induction p generalizing l with
 | ret a=>rw [h.2]; exact fun _ h=>h
 | fail=>exact h.elim
 | slot n k ih=>exact fun y hy=>ih _ h y (by simp [hy])
 | root n k ih=>exact fun y hy=>ih _ h y (by simp [hy])
 | eZ c d k ih=>exact ih h.2
 | br c t e q8 qZ=>rcases h with h | h; exact q8 h.2; exact qZ h.2
 | opt β o k ih=>obtain ⟨b,h1,h2⟩:=h; exact ih b h2
def agree (Z τ:St):Loc->Prop
 | .s n=>τ.slots n=Z.slots n
 | .r n=>τ.roots n=Z.roots n
theorem YA {J:Type} (p:Prog J) {Z τ:St} {l l':List Loc} {x:J} (h:p.nR Z l x l') (ha:∀y∈l',agree Z τ y):p.nR τ l x l':=by
 induction p generalizing l with
 | ret a=>exact h
 | fail=>exact h.elim
 | slot n k ih=>
  have h':(k (Z.slots n)).nR Z (.s n :: l) x l':=h
  have:=ha (.s n) (Rb _ h' _ jE)
  show (k (τ.slots n)).nR τ _ _ _
  rw [show τ.slots n=Z.slots n from this]
  exact ih _ h
 | root n k ih=>
  have h':(k (Z.roots n)).nR Z (.r n :: l) x l':=h
  have:=ha (.r n) (Rb _ h' _ jE)
  show (k (τ.roots n)).nR τ _ _ _
  rw [show τ.roots n=Z.roots n from this]
  exact ih _ h
 | eZ c d k ih=>exact ⟨h.1,ih h.2⟩
 | br c t e q8 qZ=>exact h.imp (fun h=>⟨h.1,q8 h.2⟩) (fun h=>⟨h.1,qZ h.2⟩)
 | opt β o k ih=>obtain ⟨b,h1,h2⟩:=h; exact ⟨b,h1,ih b h2⟩
theorem aay {a b:Loc}:a.beq b=true↔a=b:=by
 cases a <;> cases b <;> simp [Loc.beq]
theorem aaH {x:Loc} {l:List Loc}:FB x l=true↔x∈l:=by
 induction l with
 | nil=>simp [FB]
 | cons y l ih=>
  simp only [FB,bT]
  cases h:x.beq y with
  | true=>simp [aay.1 h]
  | false=>
   have:x≠y:=fun e=>by rw [e] at h; rw [(aay (a:=y) (b:=y)).2 rfl] at h; simp at h
   simp [this,ih]
theorem XK {a b:List Loc}:MC a b=true↔∀x∈a,x∉b:=by
 unfold MC
 rw [eO]
 refine ⟨fun h x hx hb=>?_,fun h x hx=>?_⟩
 ·have:=h x hx
  rw [aaH.2 hb] at this
  simp at this
 ·cases hm:FB x b with
  | false=>rfl
  | true=>exact absurd (aaH.1 hm) (h x hx)
theorem Qz (wr:Wr) (Z:St) {y:Loc} (h:y≠wr.loc):agree Z (wr.app Z) y:=by
 cases wr with
 | s n a=>
  cases y with
  | s m=>exact upd_ne _ _ (fun e=>h (by rw [e]; rfl))
  | r m=>rfl
 | r n o=>
  cases o with
  | none=>
   cases y with
   | s m=>rfl
   | r m=>exact upd_ne _ _ (fun e=>h (by rw [e]; rfl))
  | some R=>
   cases y with
   | s m=>rfl
   | r m=>exact upd_ne _ _ (fun e=>h (by rw [e]; rfl))
theorem ag8 {Z τ ρ:St} {y:Loc} (h1:agree Z τ y) (h2:agree τ ρ y):agree Z ρ y:=by
 cases y with
 | s n=>exact h2.trans h1
 | r n=>exact h2.trans h1
theorem En:∀(ws:List Wr) (Z:St) {y:Loc},y∉ws.map Wr.loc->agree Z (aD ws Z) y
 | [],Z,y,_=>by cases y <;> rfl
 | w :: ws,Z,y,h=>by
  simp only [lG,bT,not_or] at h
  exact ag8 (Qz w Z h.1) (En ws _ h.2)
theorem St.ext' {Z τ:St} (h:∀y,agree Z τ y):τ=Z:=by
 obtain ⟨s,r⟩:=Z
 obtain ⟨s',r'⟩:=τ
 have h1:s'=s:=funext fun n=>h (.s n)
 have h2:r'=r:=funext fun n=>h (.r n)
 subst h1
 subst h2
 rfl
theorem XN (w:Wr) (Z τ:St):agree (w.app Z) (w.app τ) w.loc:=by
 cases w with
 | s n a=>show upd τ.slots n a n=upd Z.slots n a n; rw [upd_same,upd_same]
 | r n o=>cases o <;> (show upd _ n _ n=upd _ n _ n; rw [upd_same,upd_same])
theorem aha (w:Wr) {Z τ:St} {y:Loc} (h:agree Z τ y):agree (w.app Z) (w.app τ) y:=by
 by_cases e:y=w.loc
 ·subst e; exact XN w Z τ
 ·have h1:=Qz w Z e
  have h2:=Qz w τ e
  cases y with
  | s n=>exact h2.trans (h.trans h1.symm)
  | r n=>exact h2.trans (h.trans h1.symm)
theorem Qw:∀(ws:List Wr) {Z τ:St} {y:Loc},agree Z τ y->agree (aD ws Z) (aD ws τ) y
 | [],_,_,_,h=>h
 | w :: ws,_,_,_,h=>Qw ws (aha w h)
theorem XM:∀(ws:List Wr) {Z τ:St} {y:Loc},y∈ws.map Wr.loc->agree (aD ws Z) (aD ws τ) y
 | [],_,_,_,h=>by simp at h
 | w :: ws,Z,τ,y,h=>by
  simp only [lG,bT] at h
  by_cases e:y∈ws.map Wr.loc
  ·exact XM ws e
  ·have e2:y=w.loc:=h.resolve_right e
   subst e2
   exact Qw ws (XN w Z τ)
theorem ag_ {u v:List Wr} (h:∀x∈u.map Wr.loc,x∉v.map Wr.loc) (Z:St):aD u (aD v Z)=aD v (aD u Z):=by
 refine St.ext' fun y=>?_
 by_cases hu:y∈u.map Wr.loc
 ·have h1:agree (aD u Z) (aD v (aD u Z)) y:=En v _ (h y hu)
  have h2:agree (aD u Z) (aD u (aD v Z)) y:=XM u hu
  cases y with
  | s n=>exact h2.trans h1.symm
  | r n=>exact h2.trans h1.symm
 ·have h1:agree (aD v Z) (aD u (aD v Z)) y:=En u _ hu
  have h2:agree (aD v Z) (aD v (aD u Z)) y:=by
   refine Qw v ?_
   have:=En u Z hu
   cases y with
   | s n=>exact this
   | r n=>exact this
  cases y with
  | s n=>exact h1.trans h2.symm
  | r n=>exact h1.trans h2.symm
section
variable {P:Program} {T:bI} {hi:Hint} {n:Nat} {ops:Array Oper}
inductive xR (T:bI) (hi:Hint) (n:Nat) (ops:Array Oper) (o:Oper) (Z:St):List Wr->List Loc->Prop
 | plain (ws:List Wr) (rd:List Loc) (hg:guardOf ops o=none) (h:(Am T hi n o fun ws=>(.ret ws:Prog (List Wr))).nR Z [] ws rd):xR T hi n ops o Z ws rd
 | done (s:Nat) (want:Bool) (tg:List Tag) (ws:List Wr) (rd:List Loc) (hg:guardOf ops o=some (some s,want)) (hs:Z.slots s=.one (.val .bool want tg)) (h:(Am T hi n o fun ws=>(.ret ws:Prog (List Wr))).nR Z [.s s] ws rd):xR T hi n ops o Z ws rd
 | skip (s:Nat) (want:Bool) (hg:guardOf ops o=some (some s,want)) (hs:(∃tg,Z.slots s=.one (.val .bool (!want) tg))\/Z.slots s=.mK []) (hd:BO hi o=true):xR T hi n ops o Z (Al o) [.s s]
theorem xR.agree {o:Oper} {Z τ:St} {ws:List Wr} {rd:List Loc} (h:xR T hi n ops o Z ws rd) (ha:∀y∈rd,Ow.agree Z τ y):xR T hi n ops o τ ws rd:=by
 cases h with
 | plain _ _ hg h=>exact .plain ws rd hg (YA _ h ha)
 | done s want tg _ _ hg hs h=>
  have:=ha (.s s) (Rb _ h _ jE)
  exact .done s want tg ws rd hg (by rw [show τ.slots s=Z.slots s from this]; exact hs) (YA _ h ha)
 | skip s want hg hs hd=>
  have:=ha (.s s) (by simp)
  exact .skip s want hg (by rw [show τ.slots s=Z.slots s from this]; exact hs) hd
theorem abP {Z:St} {s:Nat} {b:Bool} {tg:List Tag} (h:Z.slots s=.one (.val .bool b tg)):refine Z s b tg=Z:=by
 unfold refine
 have:upd Z.slots s (.one (.val .bool b tg))=Z.slots:=by
  funext m
  by_cases e:m=s
  ·subst e; rw [upd_same,h]
  ·rw [upd_ne _ _ e]
 rw [this]
theorem YX {R:Type} {o:Oper} {Z:St} {go skip:List Loc->St->Option R} {r:R} (h:guarded Z ops o go skip=some r) :
  (guardOf ops o=none/\go [] Z=some r)\/(∃s want tg,guardOf ops o=some (some s,want)/\Z.slots s=.one (.val .bool want tg)/\go [.s s] Z=some r)\/
  (∃s want,guardOf ops o=some (some s,want)/\((∃tg,Z.slots s=.one (.val .bool (!want) tg))\/Z.slots s=.mK [])/\skip [.s s] Z=some r):=by
 unfold guarded at h
 cases hg:guardOf ops o with
 | none=>rw [hg] at h; exact .inl ⟨rfl,h⟩
 | some q=>
  obtain ⟨os,want⟩:=q
  rw [hg] at h
  cases os with
  | none=>simp at h
  | some s=>
   simp only at h
   refine .inr ?_
   split at h
   ·rename_i b tg hs
    cases b with
    | true=>
     simp only [a_] at h
     rw [abP hs] at h
     cases want with
     | true=>exact .inl ⟨s,true,tg,rfl,hs,h⟩
     | false=>exact .inr ⟨s,false,rfl, .inl ⟨tg,hs⟩,h⟩
    | false=>
     simp only [bG,bE] at h
     rw [abP hs] at h
     cases want with
     | true=>exact .inr ⟨s,true,rfl, .inl ⟨tg,hs⟩,h⟩
     | false=>exact .inl ⟨s,false,tg,rfl,hs,h⟩
   ·rename_i hs
    exact .inr ⟨s,want,rfl, .inr hs,h⟩
   ·simp at h
variable {cx:Cx} {Z:St} {J:aH} {F:List Nat} {a:Act} {w:World}
theorem Rel.skipped (H:Rel cx Z J F a w) {o:Oper} (hnt:hi.nt=cx.nt) (hd:BO hi o=true):Rel cx (aD (Al o) Z) J F (a.put o.dst undef) w:=by
 unfold Al BO at *
 cases ho:o.dst with
 | none=>exact H
 | some d=>
  rw [ho] at hd
  have hdn:d<cx.nt:=by
   rw [<-hnt]
   have:Nat.blt d hi.nt=true:=hd
   unfold Nat.blt at this
   exact Mj this
  exact H.put hdn (fun a ha=>by simp at ha) ⟨[],rfl,trivial⟩
theorem NN (hT:fM P T) (hSt:wR P T) (hC:xE P n hi) (H:Rel cx Z J F a w) (hnt:hi.nt=cx.nt) {i:Nat} {o:Oper} (ho:ops[i]?=some o) {ws:List Wr} {rd:List Loc} (h:xR T hi n ops o Z ws rd)
  {K:Act->World->Prop} {Q:Exit->Act->World->Prop} (hK:∀J' F' a' w',Rel cx (aD ws Z) J' F' a' w'->K a' w'):wpOp P ops Q i K a w:=by
 unfold wpOp
 simp only [ho]
 have Z_:∀{s:Nat} {want:Bool},guardOf ops o=some (some s,want)->∃g,o.guard=some (g,want)/\(ops[g]?).bind (·.dst)=some s:=by
  intro s want hg
  unfold guardOf at hg
  cases hgd:o.guard with
  | none=>rw [hgd] at hg; simp at hg
  | some q=>
   obtain ⟨g,wt⟩:=q
   rw [hgd] at hg
   simp only [au,bS] at hg
   exact ⟨g,by rw [hg.2],hg.1⟩
 have Z5:∀{s:Nat} {v:Value},a.tmps.getD s undef=v->(∃b,v=.bool b)->a.tmps[s]?=some v:=by
  rintro s v h ⟨b,rfl⟩
  rw [Gd] at h
  cases hs:a.tmps[s]? with
  | none=>rw [hs] at h; simp [undef] at h
  | some u=>rw [hs] at h; simpa using h
 cases h with
 | plain _ _ hg h=>
  have hw:Region.wanted o (yielded ops a.tmps)=true:=by
   unfold Region.wanted
   unfold guardOf at hg
   cases hgd:o.guard with
   | none=>rfl
   | some q=>rw [hgd] at hg; simp at hg
  rw [ak hw]
  exact .inl (acr hT hSt hC H hnt (YB _ h) K Q hK)
 | done s want tg _ _ hg hs h=>
  have hw:Region.wanted o (yielded ops a.tmps)=true:=by
   obtain ⟨g,h1,h2⟩:=Z_ hg
   unfold Region.wanted
   rw [h1]
   have hb:=H.slots s
   rw [hs] at hb
   have:=F8 (show aW cx Z J F w (.val .bool want tg) _ from hb)
   have h3:=Z5 this ⟨_,rfl⟩
   show (yielded ops a.tmps g == some want)=true
   unfold yielded
   rw [h2]
   simp only [aJ,h3]
   simp
  rw [ak hw]
  exact .inl (acr hT hSt hC H hnt (YB _ h) K Q hK)
 | skip s want hg hs hd=>
  have hw:Region.wanted o (yielded ops a.tmps)=false:=by
   obtain ⟨g,h1,h2⟩:=Z_ hg
   unfold Region.wanted
   rw [h1]
   have hb:=H.slots s
   show (yielded ops a.tmps g == some want)=false
   unfold yielded
   rw [h2]
   rcases hs with ⟨tg,hs⟩ | hs
   ·rw [hs] at hb
    have:=F8 (show aW cx Z J F w (.val .bool (!want) tg) _ from hb)
    have h3:=Z5 this ⟨_,rfl⟩
    simp only [aJ,h3]
    cases want <;> rfl
   ·rw [hs] at hb
    obtain ⟨vs,h3,h4⟩:=hb
    cases vs with
    | cons _ _=>exact h4.elim
    | nil=>
     rw [Gd] at h3
     simp only [aJ]
     cases hs2:a.tmps[s]? with
     | none=>rfl
     | some u=>
      rw [hs2] at h3
      simp only [sV] at h3
      subst h3
      rfl
  rw [aA (by rw [hw]; simp)]
  exact hK _ _ _ _ (H.skipped hnt hd)
theorem aja (hT:fM P T) (hSt:wR P T) (hC:xE P n hi) (hnt:hi.nt=cx.nt) {R:Type} {K:St->Option R} {r:R} {Q:Exit->Act->World->Prop} (hQ:∀Z' J' F' a' w',K Z'=some r->Rel cx Z' J' F' a' w'->Q .normal a' w') :
  ∀(l:List Oper) (i:Nat) {Z:St} {J:aH} {F:List Nat} {a:Act} {w:World},ops.toList.drop i=l->Iu T hi n ops l Z K=some r->Rel cx Z J F a w->wpOps P ops Q (List.range' i l.length) a w:=by
 intro l
 induction l with
 | nil=>intro i Z J F a w _ h H; exact hQ _ _ _ _ _ h H
 | cons o l ih=>
  intro i Z J F a w hl h H
  have hoi:ops[i]?=some o:=by
   have:=congrArg (fun l=>l[0]?) hl
   simpa using this
  have hl':ops.toList.drop (i+1)=l:=by
   have:=congrArg List.tail hl
   simpa using this
  simp only [ig,List.range'_succ]
  rw [wpOps_cons]
  unfold Iu at h
  rcases YX h with ⟨hg,h⟩ | ⟨s,want,tg,hg,hs,h⟩ | ⟨s,want,hg,hs,h⟩
  ·obtain ⟨ws,h1,h2⟩:=CW _ h
   obtain ⟨rd,h3⟩:∃rd,(Am T hi n o fun ws=>(.ret ws:Prog (List Wr))).nR Z [] ws rd:=YC _ h1 []
   exact NN hT hSt hC H hnt hoi (.plain ws rd hg h3) (fun J' F' a' w' H'=>ih (i+1) hl' h2 H')
  ·obtain ⟨ws,h1,h2⟩:=CW _ h
   obtain ⟨rd,h3⟩:∃rd,(Am T hi n o fun ws=>(.ret ws:Prog (List Wr))).nR Z [.s s] ws rd:=YC _ h1 _
   exact NN hT hSt hC H hnt hoi (.done s want tg ws rd hg hs h3) (fun J' F' a' w' H'=>ih (i+1) hl' h2 H')
  ·cases hd:BO hi o with
   | false=>rw [hd] at h; simp at h
   | true=>
    rw [hd] at h
    exact NN hT hSt hC H hnt hoi (.skip s want hg hs hd) (fun J' F' a' w' H'=>ih (i+1) hl' h H')
end
end
section
open Go
variable [Fr]
section
variable {P:Program} {T:bI} {hi:Hint} {n:Nat} {ops:Array Oper} {cx:Cx} {Z:St} {J:aH} {F:List Nat} {a:Act} {w:World}
structure Ev where
 i:Nat
 ws:List Wr
 rd:List Loc
def Ev.wr (e:Ev):List Loc:=e.ws.map Wr.loc
def De (ops:Array Oper) (j i:Nat):Prop:=leads ops 7 j i=true
theorem aaq {ops:Array Oper}:∀{f:Nat} {j i:Nat},leads ops f j i=true->leads ops (f+1) j i=true
 | 0,_,_,h=>by simp [leads] at h
 | f+1,j,i,h=>by
  unfold leads at h ⊢
  simp only [nZ,List.any_eq_true,bg] at h ⊢
  rcases h with h | ⟨b,hb,h1,h2⟩
  ·exact .inl h
  ·exact .inr ⟨b,hb,h1,aaq h2⟩
theorem aar {ops:Array Oper} {L:Nat->Prop} (hcl:∀b,L b->∀c∈binders ops b,L c):∀{f:Nat} {j i:Nat},leads ops f j i=true->(∀c∈binders ops i,L c)->L j
 | 0,_,_,h,_=>by simp [leads] at h
 | f+1,j,i,h,hi=>by
  unfold leads at h
  simp only [nZ,List.any_eq_true,bg] at h
  rcases h with h | ⟨b,hb,_,h2⟩
  ·exact hi j (b_.1 h)
  ·exact aar hcl h2 (hcl b (hi b hb))
def G8 (e e':Ev):Prop:=(∀x∈e.wr,x∉e'.rd++e'.wr)/\∀x∈e.rd,x∉e'.wr
def yM (T:bI) (hi:Hint) (n:Nat) (ops:Array Oper):List Ev->St->St->Prop
 | [],Z,τ=>τ=Z
 | e :: l,Z,τ=>(∃o,ops[e.i]?=some o/\xR T hi n ops o Z e.ws e.rd)/\yM T hi n ops l (aD e.ws Z) τ
def Ea (ops:Array Oper):List Ev->Prop
 | []=>True
 | e :: l=>(∀e'∈l,De ops e.i e'.i\/G8 e e')/\Ea ops l
theorem ahU {e e':Ev} {l:List Ev} {τ:St} (hi':G8 e e') (h:yM T hi n ops (e :: e' :: l) Z τ):yM T hi n ops (e' :: e :: l) Z τ:=by
 obtain ⟨⟨o,ho,h1⟩,⟨o',ho',h2⟩,h3⟩:=h
 have ha:∀y∈e'.rd,Ow.agree (aD e.ws Z) Z y:=by
  intro y hy
  have:=En e.ws Z (y:=y) (fun hm=>hi'.1 y hm (bN _ hy))
  cases y with
  | s n=>exact this.symm
  | r n=>exact this.symm
 have hb:∀y∈e.rd,Ow.agree Z (aD e'.ws Z) y:=fun y hy=>En e'.ws Z (hi'.2 y hy)
 refine ⟨⟨o',ho',h2.agree ha⟩,⟨o,ho,h1.agree hb⟩, ?_⟩
 rw [ag_ (u:=e.ws) (v:=e'.ws) (fun x hx hx'=>hi'.1 x hx (bC _ hx'))]
 exact h3
theorem ahT {e:Ev} {l:List Ev}:∀{pre:List Ev} {Z τ:St},(∀x∈pre,G8 x e)->yM T hi n ops (pre++e :: l) Z τ->yM T hi n ops (e :: (pre++l)) Z τ:=by
 intro pre
 induction pre with
 | nil=>intro Z τ _ h; exact h
 | cons x pre ih=>
  intro Z τ hx h
  refine ahU (hx x (by simp)) ?_
  obtain ⟨h1,h2⟩:=h
  exact ⟨h1,ih (fun y hy=>hx y (by simp [hy])) h2⟩
theorem am0 {e:Ev} {l:List Ev}:∀{pre:List Ev},Ea ops (pre++e :: l)->Ea ops (pre++l)/\∀x∈pre,De ops x.i e.i\/G8 x e:=by
 intro pre
 induction pre with
 | nil=>intro h; exact ⟨h.2,by simp⟩
 | cons x pre ih=>
  intro h
  obtain ⟨g1,g2⟩:=ih h.2
  refine ⟨⟨fun e' he'=>h.1 e' ?_,g1⟩,fun y hy=>?_⟩
  ·rcases bW.1 he' with h | h
   ·exact bN _ h
   ·exact bC _ (jD _ h)
  ·rcases bT.1 hy with h' | h'
   ·subst h'; exact h.1 e (by simp)
   ·exact g2 y h'
theorem aiR {e:Eff} {l:List Eff} (h:zM ops e l=true):(∀b∈binders ops e.i,b<e.i)/\∀b∈l,De ops b.i e.i\/((∀x∈b.wr,x∉e.rd++e.wr)/\∀x∈b.rd,x∉e.wr):=by
 unfold zM at h
 simp only [bg,eO] at h
 refine ⟨fun b hb=>?_,fun b hb=>?_⟩
 ·have:=h.1 b hb
  unfold Nat.blt at this
  exact Mj this
 ·have:=h.2 b hb
  rw [nZ,nZ,bg] at this
  rcases this with h1 | ⟨h1,h2⟩ | h1
  ·exact .inl (by unfold De leads; rw [h1]; rfl)
  ·exact .inr ⟨XK.1 h1,XK.1 h2⟩
  ·exact .inl (aaq h1)
theorem ai9 {R:Type} {K:St->Option R} {r:R}:∀(l:List Oper) (i:Nat) (es:List Eff) {Z:St},ops.toList.drop i=l->BU T hi n ops l i es Z K=some r->
  ∃(evs:List Ev) (τ:St),K τ=some r/\yM T hi n ops evs Z τ/\Ea ops evs/\evs.map (·.i)=List.range' i l.length/\(∀e∈evs,∀b∈binders ops e.i,b<e.i)/\
   ∀e∈evs,∀b∈es,De ops b.i e.i\/((∀x∈b.wr,x∉e.rd++e.wr)/\∀x∈b.rd,x∉e.wr):=by
 intro l
 induction l with
 | nil=>intro i es Z _ h; exact ⟨[],Z,h,rfl,trivial,rfl,by simp,by simp⟩
 | cons o l ih=>
  intro i es Z hl h
  have hoi:ops[i]?=some o:=by
   have:=congrArg (fun l=>l[0]?) hl
   simpa using this
  have hl':ops.toList.drop (i+1)=l:=by
   have:=congrArg List.tail hl
   simpa using this
  have step:∀{ws:List Wr} {rd:List Loc},xR T hi n ops o Z ws rd->zM ops ⟨i,rd,ws.map Wr.loc⟩ es=true->BU T hi n ops l (i+1) (⟨i,rd,ws.map Wr.loc⟩ :: es) (aD ws Z) K=some r->
    ∃(evs:List Ev) (τ:St),K τ=some r/\yM T hi n ops evs Z τ/\Ea ops evs/\evs.map (·.i)=List.range' i (l.length+1)/\(∀e∈evs,∀b∈binders ops e.i,b<e.i)/\
     ∀e∈evs,∀b∈es,De ops b.i e.i\/((∀x∈b.wr,x∉e.rd++e.wr)/\∀x∈b.rd,x∉e.wr):=by
   intro ws rd hab hok h
   obtain ⟨evs,τ,g1,g2,g3,g4,g5,g6⟩:=ih (i+1) _ hl' h
   obtain ⟨k1,k2⟩:=aiR hok
   refine ⟨⟨i,ws,rd⟩ :: evs,τ,g1,⟨⟨o,hoi,hab⟩,g2⟩,⟨fun e' he'=>?_,g3⟩, ?_, ?_, ?_⟩
   ·exact g6 e' he' ⟨i,rd,ws.map Wr.loc⟩ (by simp)
   ·rw [List.range'_succ,lG,g4]
   ·intro e he
    rcases bT.1 he with h | h
    ·subst h; exact k1
    ·exact g5 e h
   ·intro e he b hb
    rcases bT.1 he with h | h
    ·subst h; exact k2 b hb
    ·exact g6 e h b (by simp [hb])
  simp only [ig]
  unfold BU at h
  rcases YX h with ⟨hg,h⟩ | ⟨s,want,tg,hg,hs,h⟩ | ⟨s,want,hg,hs,h⟩
  ·obtain ⟨ws,rd,h1,h2⟩:=abW _ h
   cases hok:zM ops ⟨i,rd,ws.map Wr.loc⟩ es with
   | false=>rw [hok] at h2; simp at h2
   | true=>rw [hok] at h2; exact step (.plain ws rd hg h1) hok h2
  ·obtain ⟨ws,rd,h1,h2⟩:=abW _ h
   cases hok:zM ops ⟨i,rd,ws.map Wr.loc⟩ es with
   | false=>rw [hok] at h2; simp at h2
   | true=>rw [hok] at h2; exact step (.done s want tg ws rd hg hs h1) hok h2
  ·cases hok:(BO hi o && zM ops ⟨i,[.s s],(Al o).map Wr.loc⟩ es) with
   | false=>rw [hok] at h; simp at h
   | true=>
    rw [hok] at h
    rw [bg] at hok
    exact step (.skip s want hg hs hok.1) hok.2 h
theorem ahS (hT:fM P T) (hSt:wR P T) (hC:xE P n hi) (hnt:hi.nt=cx.nt) {Q:Exit->Act->World->Prop} {τ:St} (hQ:∀J' F' a' w',Rel cx τ J' F' a' w'->Q .normal a' w') :
  ∀(m:Nat) (evs:List Ev) (listed:Array Bool) {Z:St} {J:aH} {F:List Nat} {a:Act} {w:World},evs.length=m->yM T hi n ops evs Z τ->Ea ops evs->(evs.map (·.i)).Pairwise (· < ·)->(∀e∈evs,∀b∈binders ops e.i,b<e.i)->
   listed.size=ops.size->(∀j,j<ops.size->(listed.getD j false=false↔j∈evs.map (·.i)))->(∀e∈evs,e.i<ops.size)->(∀b,listed.getD b false=true->∀c∈binders ops b,listed.getD c false=true)->Rel cx Z J F a w->wpAny P .any ops Q m listed a w:=by
 intro m
 induction m with
 | zero=>
  intro evs listed Z J F a w hl hc _ _ _ hsz hlist _ _ H
  have:evs=[]:=sS hl
  subst this
  have hc':τ=Z:=hc
  subst hc'
  refine ⟨?_,hQ _ _ _ _ H⟩
  cases hr:Region.ready .any ops listed with
  | nil=>rfl
  | cons j l=>
   have hj:j∈Region.ready .any ops listed:=by rw [hr]; simp
   obtain ⟨h0,o,ho,_⟩:=mem_ready.1 hj
   have hlt:=(Array.getElem?_eq_some_iff.1 ho).1
   have:listed.getD j false=false:=by
    have hj2:j<listed.size:=by omega
    simp [hj2] at h0 ⊢
    exact h0
   exact absurd ((hlist j hlt).1 this) (by simp)
 | succ m ih=>
  intro evs listed Z J F a w hl hc hp hsort hbind hsz hlist hlt hcl H
  refine ⟨fun hr=>?_,fun j hj=>?_⟩
  ·
   exfalso
   cases evs with
   | nil=>simp at hl
   | cons e evs=>
    obtain ⟨⟨o,ho,_⟩,_⟩:=hc
    have he:e.i∈Region.ready .any ops listed:=by
     rw [mem_ready]
     have hei:=hlt e (by simp)
     have hun:=(hlist e.i hei).2 (by simp)
     refine ⟨?_,o,ho,fun q hq hb=>?_⟩
     ·have hj2:e.i<listed.size:=by omega
      simp [hj2] at hun ⊢
      exact hun
     ·have hm:q.on∈binders ops e.i:=by
       unfold binders
       rw [ho]
       simp only [sV,fK,eG]
       exact ⟨q,⟨Array.mem_toList_iff.2 hq,hb⟩,rfl⟩
      have hlt2:=hbind e (by simp) q.on hm
      cases hb2:listed.getD q.on false with
      | true=>rfl
      | false=>
       have:=(hlist q.on (by omega)).1 hb2
       simp only [lG,bT] at this
       rcases this with h | h
       ·omega
       ·have hlt3:e.i<q.on:=by simpa using (List.pairwise_cons.1 hsort).1 q.on h
        omega
    rw [hr] at he
    simp at he
  ·obtain ⟨h0,o,ho,hall⟩:=mem_ready.1 hj
   have hjlt:=(Array.getElem?_eq_some_iff.1 ho).1
   have hj2:j<listed.size:=by omega
   have hun:listed.getD j false=false:=by
    simp [hj2] at h0 ⊢
    exact h0
   have hjm:=(hlist j hjlt).1 hun
   obtain ⟨e,he,hej⟩:=fK.1 hjm
   obtain ⟨pre,post,hsplit⟩:=List.append_of_mem he
   subst hsplit
   subst hej
   obtain ⟨p1,p2⟩:=am0 hp
   have hle:∀c∈binders ops e.i,listed.getD c false=true:=by
    intro c h
    unfold binders at h
    rw [ho] at h
    simp only [sV,fK,eG] at h
    obtain ⟨q,⟨hq,hb⟩,hon⟩:=h
    rw [<-hon]
    exact hall q (Array.mem_toList_iff.1 hq) hb
   have hpre:∀x∈pre,G8 x e:=by
    intro x hx
    rcases p2 x hx with h | h
    ·exfalso
     have hl2:=aar (L:=fun b=>listed.getD b false=true) hcl h hle
     have hxi:=hlt x (by simp [hx])
     have:=(hlist x.i hxi).2 (by simp only [rM,bW,fK]; exact .inl ⟨x,hx,rfl⟩)
     rw [hl2] at this
     simp at this
    ·exact h
   have hc2:=ahT hpre hc
   obtain ⟨⟨o',ho',hab⟩,hc3⟩:=hc2
   rw [ho] at ho'
   simp only [au] at ho'
   subst ho'
   have ZZ:(pre.map (·.i)++e.i :: post.map (·.i)).Pairwise (· < ·):=by simpa using hsort
   have hsub:(pre++post).Sublist (pre++e :: post):=P7 (List.sublist_cons_self _ _) _
   refine NN hT hSt hC H hnt ho hab (fun J' F' a' w' H'=>?_)
   refine ih (pre++post) (listed.setIfInBounds e.i true) (by simp at hl ⊢; omega) hc3 p1 (hsort.sublist (hsub.map _)) (fun x hx=>hbind x (hsub.subset hx)) (by simpa using hsz) (fun k hk=>?_) (fun x hx=>hlt x (hsub.subset hx)) ?_ H'
   rotate_left
   ·intro b hb c hc4
    have hset:∀k,listed.getD k false=true->(listed.setIfInBounds e.i true).getD k false=true:=fun k hk=>by
     by_cases hke:k=e.i
     ·subst hke; simp [hj2]
     ·rw [getD_set_ne false (Ne.symm hke)]; exact hk
    by_cases hbe:b=e.i
    ·subst hbe; exact hset c (hle c hc4)
    ·rw [getD_set_ne false (Ne.symm hbe)] at hb
     exact hset c (hcl b hb c hc4)
   have hnot:e.i∉(pre++post).map (·.i):=by
    intro hm
    rw [rM,bW] at hm
    rcases hm with h | h
    ·have:=(Qc.1 ZZ).2.2 e.i h e.i (by simp)
     omega
    ·have:=(List.pairwise_cons.1 (Qc.1 ZZ).2.1).1 e.i h
     omega
   by_cases hke:k=e.i
   ·subst hke
    constructor
    ·intro h
     exfalso
     simp [hj2] at h
    ·intro h; exact absurd h hnot
   ·rw [getD_set_ne false (Ne.symm hke),hlist k hk]
    simp only [rM,lG,bW,bT]
    constructor
    ·rintro (h | h | h)
     ·exact .inl h
     ·exact absurd h hke
     ·exact .inr h
    ·rintro (h | h)
     ·exact .inl h
     ·exact .inr (.inr h)
theorem ai_ (hT:fM P T) (hSt:wR P T) (hC:xE P n hi) (hnt:hi.nt=cx.nt) {R:Type} {K:St->Option R} {r:R} {Q:Exit->Act->World->Prop} (hQ:∀Z' J' F' a' w',K Z'=some r->Rel cx Z' J' F' a' w'->Q .normal a' w')
  (h:BU T hi n ops ops.toList 0 [] Z K=some r) (H:Rel cx Z J F a w):wpAny P .any ops Q ops.size (Array.replicate ops.size false) a w:=by
 obtain ⟨evs,τ,h1,h2,h3,h4,h5,_⟩:=ai9 ops.toList 0 [] (by simp) h
 rw [Ov, <-List.range_eq_range'] at h4
 refine ahS hT hSt hC hnt (fun J' F' a' w' H'=>hQ _ _ _ _ _ h1 H') ops.size evs _ ?_ h2 h3 ?_ h5 (by simp) (fun j hj=>?_) (fun e he=>?_) (fun b hb=>?_) H
 rotate_left 4
 ·exfalso; by_cases hbs:b<ops.size <;> simp [hbs] at hb
 ·have:=congrArg List.length h4; simpa using this
 ·rw [h4]; exact List.pairwise_lt_range
 ·rw [h4]; simp [hj]
 ·have:e.i∈evs.map (·.i):=fK.2 ⟨e,he,rfl⟩
  rw [h4] at this
  exact List.mem_range.1 this
end
end
section
open Go
variable [Fr]
abbrev Bw:=List (Nat×K×List TypeId×List TypeId)
structure Qh (cx:Cx) (fT:Bw):Prop where
 par:∀j pi,cx.par j=some pi->(pi.kp=true\/∃q,pi.base=some q)->∃q,oz (ah j) fT=some q
 ptr:∀j p ts v,cx.ptrs j p ts v->∃k l,oz (ah j) fT=some (k,l)/\ts=iW p k
 ref:∀j v,cx.refs j v->∃q,oz (ah j) fT=some q
theorem zF {A:Type} {b:Bool} {x:Option A} {d:A} (h:(bif b then x else none)=some d):b=true/\x=some d:=by
 cases b with
 | true=>exact ⟨rfl,h⟩
 | false=>exact absurd h (by simp)
def oM.Cw:oM->List Nat
 | .val _ ids=>ids
 | .fU _ _ ids=>ids
 | .fn _ caps=>caps.flatMap fun c=>c.2.2
 | _=>[]
def p_ (rs:List Nat) (i:Nat):Prop:=g_ i=true\/i∈rs
structure qO (Z:St) (fT:Bw) (rs:List Nat) (r:Nat) (R R':Root):Prop where
 live:aU Z r R
 valid:cB Z R
 form:∃ow tg ew eh,R'={ R with own:=ow,tags:=tg,w:=[],h:=[],g:=0,ew:=ew,eh:=eh }/\(∀t∈R.k.tys,aa t ow=aa t R.own)
 tags:∀t∈R.tags,p_ rs t.1->(t.1,0)∈R'.tags
 acA:∀t∈R'.tags,t.2=0/\p_ rs t.1/\t.1≠r
 log:∀k wt ht,oz r fT=some (k,wt,ht)->R.k=k/\R'.ew=wt/\R'.eh=ht/\(∀t∈R.w,t∈wt)/\(∀t∈R.ew,t∈wt)/\(∀t∈R.h,t∈ht)/\(∀t∈R.eh,t∈ht)/\R.g=0
structure pR (Z:St) (fT:Bw) (rs:List Nat) (Z':St):Prop where
 roots:∀r R',Z'.roots r=some R'->r∈rs/\g_ r=false/\∃R,qO Z fT rs r R R'
 made:∀r∈rs,∃R',Z'.roots r=some R'
 slots:∀s,Z'.slots s=.one .undef\/∃sh av d,Z.slots s=.one av/\tJ Z rs sh av=some d/\Z'.slots s=.one (Jv sh d)/\∀i∈sh.Cw,p_ rs i
 fT:∀r q,oz r fT=some q->r∈rs
theorem SX:∀{p:List (Option Nat)} {q:List Stp} {c:Cont (aV.into 0 p).kin},idxOf p q=some c->pathOf p c=q
 | [],[],_,_=>rfl
 | [],_ :: _,_,h=>by simp [idxOf] at h
 | some n :: p,[],_,h=>by simp [idxOf] at h
 | some n :: p, .idx i :: q,_,h=>by simp [idxOf] at h
 | some n :: p, .aZ m :: q,c,h=>by
  have h':(bif Nat.beq n m then idxOf p q else none)=some c:=h
  cases hb:Nat.beq n m with
  | false=>rw [hb] at h'; simp at h'
  | true=>
   rw [hb] at h'
   have:=bB hb
   subst this
   show Stp.aZ n :: pathOf p c=_
   rw [SX (p:=p) (q:=q) (c:=c) h']
 | none :: p,[],_,h=>by simp [idxOf] at h
 | none :: p, .aZ i :: q,_,h=>by simp [idxOf] at h
 | none :: p, .idx i :: q,c,h=>by
  have h':(match idxOf p q with
   | some d=>some ((i,d):Cont (aV.into 0 (none :: p)).kin)
   | none=>none)=some c:=h
  cases hq:idxOf p q with
  | none=>rw [hq] at h'; simp at h'
  | some d=>
   rw [hq] at h'
   have h2:((i,d):Cont (aV.into 0 (none :: p)).kin)=c:=jZ h'
   rw [<-h2]
   show Stp.idx i :: pathOf p d=_
   rw [SX hq]
theorem Fw {rs:List Nat}:∀{l:List Tag} {r:Nat},r∈mD rs l↔(∃n,(r,n)∈l)/\p_ rs r
 | [],r=>by simp [mD]
 | (q,m) :: l,r=>by
  have ih:=Fw (rs:=rs) (l:=l) (r:=r)
  unfold mD
  cases hb:(g_ q || aa q rs) && !aa q (mD rs l) with
  | true=>
   simp only [gM,bT]
   simp only [bg,nZ,b_] at hb
   constructor
   ·rintro (h | h)
    ·subst h
     exact ⟨⟨m, .inl rfl⟩,hb.1⟩
    ·obtain ⟨⟨n,hn⟩,h2⟩:=ih.1 h
     exact ⟨⟨n, .inr hn⟩,h2⟩
   ·rintro ⟨⟨n,h | h⟩,h2⟩
    ·exact .inl (by simpa using congrArg Prod.fst h)
    ·exact .inr (ih.2 ⟨⟨n,h⟩,h2⟩)
  | false=>
   simp only [j6]
   constructor
   ·intro h
    obtain ⟨⟨n,hn⟩,h2⟩:=ih.1 h
    exact ⟨⟨n, .tail _ hn⟩,h2⟩
   ·rintro ⟨⟨n,h⟩,h2⟩
    rcases bT.1 h with h | h
    ·have e:r=q:=by simpa using congrArg Prod.fst h
     subst e
     cases hm:aa r (mD rs l) with
     | true=>exact b_.1 hm
     | false=>
      exfalso
      rw [hm] at hb
      simp only [lD,Bool.and_true,AJ] at hb
      rcases h2 with h2 | h2
      ·rw [hb.1] at h2; simp at h2
      ·rw [b_.2 h2] at hb; simp at hb
    ·exact ih.2 ⟨⟨n,h⟩,h2⟩
section
variable {P:Program} {T:bI} {cx:Cx} {Z Z':St} {J:aH} {F:List Nat} {a:Act} {w:World} {fT:Bw} {rs:List Nat}
theorem qO.kind {r:Nat} {R R':Root} (h:qO Z fT rs r R R'):R'.kind=R.kind/\R'.k=R.k/\R'.w=[]/\R'.h=[]/\R'.g=0/\R'.bZ=R.bZ:=by
 obtain ⟨ow,tg,ew,eh,rfl,_⟩:=h.form
 exact ⟨rfl,rfl,rfl,rfl,rfl,rfl⟩
theorem qO.blk {r:Nat} {R R':Root} (h:qO Z fT rs r R R'):blk J R' r=blk J R r/\aM J R' r=aM J R r:=by
 have hk:=h.kind.1
 unfold Ow.blk aM
 rw [hk]
 exact ⟨rfl,rfl⟩
theorem pR.bH (hB:pR Z fT rs Z') {U U':List Tag} (hU:∀t∈U,p_ rs t.1->∃n,(t.1,n)∈U') {b:Nat} (h:bH cx Z J F w U b):bH cx Z' J F w U' b:=by
 obtain ⟨h1,h2,h3,h4,h5⟩:=h
 refine ⟨h1,h2,h3,fun r R' hr hb=>?_,fun hlt=>?_⟩
 ·obtain ⟨g1,g2,R,g3⟩:=hB.roots r R' hr.1
  rw [g3.blk.1] at hb
  obtain ⟨n,hn⟩:=h4 r R g3.live hb
  exact hU _ hn (.inr g1)
 ·rcases h5 hlt with ⟨j,n,g1,g2⟩ | h
  ·obtain ⟨n',hn'⟩:=hU _ g1 (.inl (uJ j))
   exact .inl ⟨j,n',hn',g2⟩
  ·exact .inr h
theorem pR.mH (hB:pR Z fT rs Z') {U U':List Tag} (hU:∀t∈U,p_ rs t.1->∃n,(t.1,n)∈U') {b:Nat} (h:mH Z J F w U b):mH Z' J F w U' b:=by
 obtain ⟨h1,h2,h4⟩:=h
 refine ⟨h1,h2,fun r R' hr hb=>?_⟩
 obtain ⟨g1,g2,R,g3⟩:=hB.roots r R' hr.1
 rw [g3.blk.1] at hb
 obtain ⟨n,hn⟩:=h4 r R g3.live hb
 exact hU _ hn (.inr g1)
theorem Ob {tags:List Tag} {ids:List Nat} (h:iL (mD rs tags) ids=true):∀t∈tags,p_ rs t.1->∃n,(t.1,n)∈ids.map fun r=>((r,0):Tag):=by
 intro t ht hi
 refine ⟨0,fK.2 ⟨t.1,rD.1 h _ (Fw.2 ⟨⟨t.2,ht⟩,hi⟩),rfl⟩⟩
theorem pR.gG (hB:pR Z fT rs Z') {ids:List Nat} (h:∀i∈ids,p_ rs i):gG Z' (ids.map fun r=>((r,0):Tag)):=by
 intro t ht
 obtain ⟨i,h1,rfl⟩:=fK.1 ht
 rcases h i h1 with h | h
 ·exact .inl h
 ·obtain ⟨R',hR⟩:=hB.made i h
  exact .inr ⟨R',hR, .inr (gq _)⟩
theorem pR.ro (hB:pR Z fT rs Z') {bt:TypeId} {k:K} {x:El k} {tags:List Tag} {ids:List Nat} {v:Value} (hs:iL (mD rs tags) ids=true) (hc:cO Z (bt :: k.tys) tags=true)(hE:EE bt ids=true)
  (h:wu cx Z J F w bt k x tags v):wu cx Z' J F w bt k x (ids.map fun r=>((r,0):Tag)) v:=by
 obtain ⟨h1,h2⟩:=h
 obtain ⟨b,o,cs,e1,e2,e3,e4,e5⟩:=h2 hc
 refine ⟨h1,fun _=>⟨b,o,cs,e1,e2,lS (fun _ _=>rfl) (fun b hb=>hB.bH (Ob hs) hb) e3,hB.mH (Ob hs) e4, ?_⟩⟩
 rcases e5 with ⟨g1,g2⟩ | h
 ·refine .inl ⟨g1,fun t ht=>?_⟩
  obtain ⟨i,h1,rfl⟩:=fK.1 ht
  unfold EE at hE
  rw [g1] at hE
  simp only [show Nat.beq SENT SENT=true from rfl,iB,Gf,eO] at hE
  exact hE i h1
 ·exact .inr h
theorem pR.caps (hB:pR Z fT rs Z'):∀{cs:List (TypeId×K×List Nat)} {l:List (TypeId×Dat×List Tag)} {d:Cont (BJ cs)} {vs:List Value},x_ Z rs cs l=some d->(∀i∈cs.flatMap (fun c=>c.2.2),p_ rs i)->nC cx Z J F w l vs->
  nC cx Z' J F w (Jw cs d) vs/\∀c∈Jw cs d,Ow.gG Z' c.2.2
 | [],[],_,[],_,_,_=>⟨trivial,by intro c hc; exact absurd hc (by simp [Jw])⟩
 | [],_ :: _,_,_,h,_,_=>by simp [x_] at h
 | _ :: _,[],_,_,h,_,_=>by simp [x_] at h
 | [],[],_,_ :: _,_,_,h=>h.elim
 | _ :: _,_ :: _,_,[],_,_,h=>h.elim
 | (t,k,ids) :: cs,(t',d,tags) :: l,c,v :: vs,h,hi,hv=>by
  simp only [x_] at h
  cases hb:Nat.beq t t' && cO Z (t :: k.tys) tags && iL (mD rs tags) ids && EE t ids with
  | false=>rw [hb] at h; simp at h
  | true=>
   rw [hb] at h
   simp only [gM] at h
   simp only [bg] at hb
   obtain ⟨⟨⟨b1,b2⟩,b3⟩,b4⟩:=hb
   have:=bB b1
   subst this
   cases hck:bV d.1 k d.2 with
   | none=>rw [hck] at h; simp at h
   | some x=>
    rw [hck] at h
    cases hcs:x_ Z rs cs l with
    | none=>rw [hcs] at h; simp at h
    | some y=>
     rw [hcs] at h
     have h2:((x,y):Cont (BJ ((t,k,ids) :: cs)))=c:=jZ h
     subst h2
     obtain ⟨dk,dx⟩:=d
     obtain ⟨e,ex⟩:=ji hck
     simp only at e
     subst e
     simp only at ex
     subst ex
     have Ng:∀i∈ids,p_ rs i:=fun i h=>hi i (by simp [h])
     obtain ⟨g1,g2⟩:=hB.caps (vs:=vs) hcs (fun i h=>hi i (by
      rw [kS]; exact bC _ h)) hv.2
     refine ⟨⟨hB.ro b3 b2 b4 hv.1,g1⟩,fun q hq=>?_⟩
     rcases bT.1 hq with h | h
     ·subst h; exact hB.gG Ng
     ·exact g2 q h
theorem pR.av (H:Rel cx Z J F a w) (hB:pR Z fT rs Z') {sh:oM} {av:AV} {d:Cont sh.ks} {v:Value} (hct:tJ Z rs sh av=some d) (hi:∀i∈sh.Cw,p_ rs i) (hv:aW cx Z J F w av v) :
  aW cx Z' J F w (Jv sh d) v/\dQ Z' (Jv sh d):=by
 cases sh with
 | undef=>exact ⟨trivial,trivial⟩
 | val k ids=>
  cases av with
  | val k' x tags=>
   simp only [tJ] at hct
   cases hb:cO Z k.tys tags && iL (mD rs tags) ids with
   | false=>rw [hb] at hct; simp at hct
   | true=>
    rw [hb] at hct
    simp only [gM] at hct
    simp only [bg] at hb
    cases hck:bV k' k x with
    | none=>rw [hck] at hct; simp at hct
    | some y=>
     rw [hck] at hct
     have h2:((y,()):Cont (oM.val k ids).ks)=d:=jZ hct
     subst h2
     obtain ⟨e,ex⟩:=ji hck
     subst e
     simp only at ex
     subst ex
     refine ⟨fun _=>?_,hB.gG hi⟩
     obtain ⟨cs,g1,g2⟩:=hv (.inr hb.1)
     exact ⟨cs,g1,lS (fun _ _=>rfl) (fun b hb2=>hB.bH (Ob hb.2) hb2) g2⟩
  | _=>simp [tJ] at hct
 | fI=>
  cases av with
  | fI=>
   exact ⟨hv,trivial⟩
  | _=>simp [tJ] at hct
 | ref r=>
  cases av with
  | ref r' g=>
   obtain ⟨hb,_⟩:=zF (show (bif Nat.beq r r' && aa r rs && (match Z.roots r with | some R=>Nat.beq R.g g | none=>false) then some () else none)=some d from hct)
   simp only [bg] at hb
   obtain ⟨⟨b1,b2⟩,b3⟩:=hb
   have:=bB b1
   subst this
   obtain ⟨R',hR'⟩:=hB.made r (b_.1 b2)
   refine ⟨fun Q hQ _=>?_,R',hR', .inr (gq _)⟩
   obtain ⟨_,_,R,g3⟩:=hB.roots r Q hQ.1
   rw [g3.live.1] at b3
   obtain ⟨f1,f2⟩:=hv R g3.live (bB b3)
   obtain ⟨k1,k2,_⟩:=g3.kind
   exact ⟨k1.trans f1,by rw [k2]; exact f2⟩
  | _=>simp [tJ] at hct
 | ptr r p=>
  cases av with
  | ptr r' q n=>
   obtain ⟨hb,R4⟩:=zF (A:=Cont (aV.into 0 p).kin) (x:=idxOf p q) (show (bif Nat.beq r r' && aa r rs && (match Z.roots r with | some R=>clean R.h n (iW q R.k) | none=>false) then idxOf p q else none)=some d from hct)
   simp only [bg] at hb
   obtain ⟨⟨b1,b2⟩,b3⟩:=hb
   have:=bB b1
   subst this
   have hpq:=SX R4
   obtain ⟨R',hR'⟩:=hB.made r (b_.1 b2)
   show aW cx Z' J F w (.ptr r (pathOf p d) 0) v/\dQ Z' (.ptr r (pathOf p d) 0)
   rw [hpq]
   refine ⟨⟨hv.1,fun Q hQ oJ _ hpt hg=>?_⟩,R',hR', .inr (gq _)⟩
   obtain ⟨_,_,R,g3⟩:=hB.roots r Q hQ
   rw [g3.live.1] at b3
   have hw:=(qO.blk (J:=J) g3).2
   obtain ⟨ow,tg,ew,eh,rfl,hown⟩:=g3.form
   obtain ⟨f1,f2⟩:=hv.2 R g3.live.1 g3.valid b3 (fun t ht=>by rw [<-hown t (CO q t ht)]; exact hpt t ht) hg
   exact ⟨f1,by rw [hw]; exact f2⟩
  | _=>simp [tJ] at hct
 | fU bt k ids=>
  cases av with
  | fU QN k' x tags=>
   simp only [tJ] at hct
   cases hb:Nat.beq bt QN && cO Z (bt :: k.tys) tags && iL (mD rs tags) ids && EE bt ids with
   | false=>rw [hb] at hct; simp at hct
   | true=>
    rw [hb] at hct
    simp only [gM] at hct
    simp only [bg] at hb
    obtain ⟨⟨⟨b1,b2⟩,b3⟩,b4⟩:=hb
    have:=bB b1
    subst this
    cases hck:bV k' k x with
    | none=>rw [hck] at hct; simp at hct
    | some y=>
     rw [hck] at hct
     have h2:((y,()):Cont (oM.fU bt k ids).ks)=d:=jZ hct
     subst h2
     obtain ⟨e,ex⟩:=ji hck
     subst e
     simp only at ex
     subst ex
     exact ⟨hB.ro b3 b2 b4 hv,hB.gG hi⟩
  | _=>simp [tJ] at hct
 | kF=>
  cases av with
  | kF=>
   exact ⟨hv,trivial⟩
  | _=>simp [tJ] at hct
 | fn f cs=>
  cases av with
  | fn f' caps=>
   obtain ⟨hb,R4⟩:=zF (A:=Cont (BJ cs)) (x:=x_ Z rs cs caps) (show (bif Nat.beq f f' then x_ Z rs cs caps else none)=some d from hct)
   have:=bB hb
   subst this
   obtain ⟨vs,e,hc⟩:=hv
   obtain ⟨g1,g2⟩:=hB.caps R4 hi hc
   exact ⟨⟨vs,e,g1⟩,g2⟩
  | _=>simp [tJ] at hct
end
end
section
open Go
variable [Fr]
section
variable {P:Program} {T:bI} {cx:Cx} {Z Z':St} {J:aH} {F:List Nat} {a:Act} {w:World} {fT:Bw} {rs:List Nat}
theorem abO (H:Rel cx Z J F a w) (hP:Qh cx fT) (hB:pR Z fT rs Z'):Rel cx Z' J F a w:=by
 have ER:∀{r:Nat} {R':Root},aU Z' r R'->∃R,qO Z fT rs r R R':=fun h=>by
  obtain ⟨_,_,R,h⟩:=hB.roots _ _ h.1
  exact ⟨R,h⟩
 have nI:∀{j:Nat} {q},oz (ah j) fT=some q->∃R R',Z'.roots (ah j)=some R'/\qO Z fT rs (ah j) R R':=fun h=>by
  obtain ⟨R',hR'⟩:=hB.made _ (hB.fT _ _ h)
  obtain ⟨_,_,R,h⟩:=hB.roots _ _ hR'
  exact ⟨R,R',hR',h⟩
 have hsame:∀{τ:St} {r:Nat} {R Q:Root},τ.roots r=some R->τ.roots r=some Q->Q=R:=fun h1 h2=>by rw [h1] at h2; simpa using h2.symm
 refine ⟨H.defs,H.sz, ?_, ?_, ?_, ?_, ?_, ?_, ?_,H.fl,H.iw, ?_,H.frame, ?_,H.mI, ?_, ?_⟩
 ·intro j pi b o n hj hb
  obtain ⟨Q,hQ,hk,hl,hs⟩:=H.kP j pi b o n hj hb
  obtain ⟨q,hq⟩:=hP.par j pi hj (.inr ⟨_,hb⟩)
  obtain ⟨R,R',hR',h1⟩:=nI hq
  have:=hsame hQ.1 h1.live.1
  subst this
  obtain ⟨k1,k2,_,_,_,k6⟩:=h1.kind
  exact ⟨R',⟨hR',k6.trans hQ.2⟩,k1.trans hk,hl,by rw [k2]; exact hs⟩
 ·intro r R' hr hk
  obtain ⟨R,h1⟩:=ER hr
  exact H.sI r R h1.live (h1.kind.1.symm.trans hk)
 ·intro s
  rcases hB.slots s with h | ⟨sh,av,d,h1,h2,h3,h4⟩
  ·rw [h]; trivial
  ·rw [h3]
   have:=H.slots s
   rw [h1] at this
   exact (hB.av H h2 h4 this).1
 ·intro s
  rcases hB.slots s with h | ⟨sh,av,d,h1,h2,h3,h4⟩
  ·rw [h]; trivial
  ·rw [h3]
   have:=H.slots s
   rw [h1] at this
   exact (hB.av H h2 h4 this).2
 ·intro r R' hr
  obtain ⟨R,h1⟩:=ER hr
  have O:=H.roots r R h1.live
  have hb:=(qO.blk (J:=J) h1).1
  have hw:=(qO.blk (J:=J) h1).2
  have ht:=h1.tags
  have hv:=h1.valid
  obtain ⟨ow,tg,ew,eh,rfl,hown⟩:=h1.form
  refine ⟨fun _=>vk hown (dZ (fun _ _=>rfl) (fun b hb2=>?_) (fun _ _=>rfl) (O.ow hv)),O.len, ?_, ?_, ?_⟩
  ·exact hB.bH (fun t h hi=>⟨0,ht t h hi⟩) hb2
  ·rw [hw]; exact O.mem
  ·rw [hb]; exact O.nd
  ·rw [hb]; exact O.mine
 ·intro r R' hr
  obtain ⟨g1,g2,R,h1⟩:=hB.roots r R' hr
  refine ⟨fun t ht=>?_,g2,fun n hn=>(h1.acA _ hn).2.2 rfl⟩
  obtain ⟨f1,f2,_⟩:=h1.acA t ht
  rcases f2 with h | h
  ·exact .inl h
  ·obtain ⟨Q,hQ⟩:=hB.made _ h
   exact .inr ⟨Q,hQ, .inr (by rw [f1]; exact gq _)⟩
 ·intro r R1 r' R2 h1 h2 hne b hb
  obtain ⟨Q1,g1⟩:=ER h1
  obtain ⟨Q2,g2⟩:=ER h2
  rw [(qO.blk (J:=J) g1).1] at hb
  rw [(qO.blk (J:=J) g2).1]
  exact H.lT r Q1 r' Q2 g1.live g2.live hne b hb
 ·intro r R' hr b hb
  obtain ⟨R,h1⟩:=ER hr
  rw [(qO.blk (J:=J) h1).1] at hb
  exact H.fC r R h1.live b hb
 ·intro j pi hj hk
  obtain ⟨⟨k,wt,ht⟩,hq⟩:=hP.par j pi hj (.inl hk)
  obtain ⟨R,R',hR',h1⟩:=nI hq
  obtain ⟨l1,l2,l3,l4,l5,l6,l7,l8⟩:=h1.log k wt ht hq
  obtain ⟨Q,hQ,hk2⟩:=H.qb j pi hj hk
  have:=hsame h1.live.1 hQ
  subst this
  refine ⟨R',hR',fun _ b hb hnb=>?_⟩
  rcases hk2 h1.live.2 b hb hnb with ⟨e,e1,e2⟩ | ⟨g1,g2,g3⟩
  ·refine .inl ⟨e,e1, .inr ?_⟩
   rw [l2]
   rcases e2 with h | h
   ·exact l4 e h
   ·exact l5 e h
  ·refine .inr ⟨g1,g2,fun q Q hQ hbq=>?_⟩
   obtain ⟨Q0,h2⟩:=ER hQ
   rw [(qO.blk (J:=J) h2).1] at hbq
   exact g3 q Q0 h2.live hbq
 ·intro j p ts v hv
  obtain ⟨k,⟨wt,ht⟩,hq,hts⟩:=hP.ptr j p ts v hv
  obtain ⟨R,R',hR',h1⟩:=nI hq
  obtain ⟨l1,l2,l3,l4,l5,l6,l7,l8⟩:=h1.log k wt ht hq
  obtain ⟨f1,Q,hQ,f2⟩:=H.q9 j p ts v hv
  have:=hsame h1.live.1 hQ
  subst this
  refine ⟨f1,R',hR',fun hno=>?_⟩
  rw [l3] at hno
  have vP:=f2 (fun t h1 h2=>hno t h1 (l7 t h2))
  refine ⟨f1,fun Q2 vO _ _ hpt hg=>?_⟩
  have:=hsame hR' vO
  subst this
  have hw:=(qO.blk (J:=J) h1).2
  have hv1:=h1.valid
  have hr1:=h1.live.1
  obtain ⟨ow,tg,ew,eh,rfl,hown⟩:=h1.form
  obtain ⟨q1,q2⟩:=vP.2 Q hr1 hv1 (by
    unfold clean
    rw [eO]
    intro t ht1
    have h3:t∈Q.h:=Mg ht1
    simp only [lC,gV]
    rw [l1, <-hts]
    exact fun h4=>hno t h4 (l6 t h3))
   (fun t ht=>by rw [<-hown t (CO p t ht)]; exact hpt t ht) hg
  exact ⟨q1,by rw [hw]; exact q2⟩
 ·intro j v hv
  obtain ⟨⟨k,wt,ht⟩,hq⟩:=hP.ref j v hv
  obtain ⟨R,R',hR',h1⟩:=nI hq
  obtain ⟨l1,l2,l3,l4,l5,l6,l7,l8⟩:=h1.log k wt ht hq
  obtain ⟨_,f2⟩:=H.rq j v hv
  refine ⟨⟨R',hR'⟩,fun Q2 vO _=>?_⟩
  have:=hsame hR' vO.1
  subst this
  obtain ⟨q1,q2⟩:=f2 R h1.live l8
  obtain ⟨k1,k2,_⟩:=h1.kind
  exact ⟨k1.trans q1,by rw [k2]; exact q2⟩
structure Xz (fT:Bw) (rs:List Nat) (s:zl):Prop where
 slots:∀q∈s.ss,∀i∈q.2.Cw,p_ rs i
 roots:∀q∈s.rs,q.1∈rs/\g_ q.1=false/\(∀i∈q.2.ids,p_ rs i/\i≠q.1)/\q.2.log=oz q.1 fT
 keys:∀r∈rs,∃q∈s.rs,q.1=r
 fT:∀r q,oz r fT=some q->r∈rs
theorem TK:∀{l:List (Nat×oM)} {c:Cont (uf l)},Im Z rs l=some c->∀n,mkS l c n=.one .undef\/∃sh av d,(n,sh)∈l/\Z.slots n=.one av/\tJ Z rs sh av=some d/\mkS l c n=.one (Jv sh d)
 | [],_,_,_=>.inl rfl
 | (s,sh) :: l,c,h,n=>by
  simp only [Im] at h
  split at h
  ·rename_i av hs
   split at h
   ·rename_i x y hx hy
    have h2:Cont.app sh.ks (uf l) x y=c:=jZ h
    subst h2
    simp only [mkS]
    rw [IB,J5]
    cases hb:Nat.beq n s with
    | true=>
     have:=bB hb
     subst this
     exact .inr ⟨sh,av,x,by simp,hs,hx,rfl⟩
    | false=>
     rcases TK hy n with h | ⟨sh',QC,d,g1,g2,g3,g4⟩
     ·exact .inl h
     ·exact .inr ⟨sh',QC,d, .tail _ g1,g2,g3,g4⟩
   ·simp at h
  ·split at h
   ·split at h
    ·rename_i d hd
     have h2:d=c:=jZ h
     subst h2
     simp only [mkS]
     cases hb:Nat.beq n s with
     | true=>exact .inl rfl
     | false=>
      rcases TK hd n with h | ⟨sh',QC,d,g1,g2,g3,g4⟩
      ·exact .inl h
      ·exact .inr ⟨sh',QC,d, .tail _ g1,g2,g3,g4⟩
    ·simp at h
   ·simp at h
theorem ano {a b:zo} (h:Uk a b=true):a=b:=by
 cases a <;> cases b <;> simp_all [Uk]
theorem aaL:∀{l:List (Nat×zq)} {c:Cont (xq l)},MR Z rs l=some c->∀n R',Ah l c n=some R'->∃sh R,(n,sh)∈l/\Z.roots n=some R/\cB Z R/\iL (mD rs R.tags) sh.ids=true/\Tw R sh.log=true/\
   (∀t∈R.k.tys,aa t sh.own=aa t R.own)/\R'={ R with own:=sh.own,tags:=sh.ids.map fun r=>(r,0),w:=[],h:=[],g:=0,ew:=aaA sh.log,eh:=aaz sh.log }
 | [],_,_,_,_,h=>by simp [Ah] at h
 | (r,sh) :: l,c,h,n,R',hm=>by
  simp only [MR] at h
  split at h
  ·rename_i R hR
   obtain ⟨hb,h⟩:=zF h
   split at h
   ·rename_i x y hx hy
    have h2:(x,y)=c:=jZ h
    subst h2
    simp only [Ah] at hm
    cases hn:Nat.beq n r with
    | false=>
     rw [hn] at hm
     obtain ⟨sh',R2,g1,g2⟩:=aaL hy n R' hm
     exact ⟨sh',R2, .tail _ g1,g2⟩
    | true=>
     rw [hn] at hm
     have:=bB hn
     subst this
     simp only [bg] at hb
     obtain ⟨⟨⟨⟨⟨⟨⟨b1,b2⟩,b3⟩,b4⟩,b5⟩,b6⟩,b7⟩,b8⟩:=hb
     obtain ⟨e,ex⟩:=ji hx
     refine ⟨sh,R,by simp,hR,⟨by simpa using b7,b1⟩,b2,b8,fun t ht=>?_, ?_⟩
     ·have:=eO.1 b3 t (e▸ht)
      simp only [beq_iff_eq] at this
      exact this.symm
     ·have QD:=ano b4
      have QE:R.fixed=sh.fixed:=by simpa using b5
      have QF:R.keep=sh.keep:=by simpa using b6
      obtain ⟨k,ow,ids,kd,fx,kp,lg⟩:=sh
      simp only at e ex QD QE QF
      obtain ⟨Rk,Rx,Qn,Qo,Rw,Rh,Rg,Qm,aoy,Ql,Qk,Qj⟩:=R
      simp only at e ex QD QE QF
      subst e QD QE QF
      simp only at ex
      subst ex
      simp only [gM,au] at hm
      exact hm.symm
   ·simp at h
  ·simp at h
theorem aaM:∀{l:List (Nat×zq)} (c:Cont (xq l)) {r:Nat},(∃q∈l,q.1=r)->∃R',Ah l c r=some R'
 | [],_,_,h=>by obtain ⟨q,h,_⟩:=h; simp at h
 | (s,sh) :: l,c,r,h=>by
  simp only [Ah]
  cases hb:Nat.beq r s with
  | true=>exact ⟨_,rfl⟩
  | false=>
   refine aaM c.2 ?_
   obtain ⟨q,h1,h2⟩:=h
   rcases bT.1 h1 with h | h
   ·subst h; simp only at h2; subst h2; simp at hb
   ·exact ⟨q,h,h2⟩
theorem pR.of {s:zl} (hs:Xz fT rs s) {c:s.V} (h:EB rs s Z=some c):pR Z fT rs (yC s c):=by
 unfold EB at h
 split at h
 ·rename_i x y hx hy
  have h2:Cont.app (uf s.ss) (xq s.rs) x y=c:=jZ h
  subst h2
  have e1:(yC s (Cont.app (uf s.ss) (xq s.rs) x y)).slots=mkS s.ss x:=by unfold yC; rw [IB]
  have e2:(yC s (Cont.app (uf s.ss) (xq s.rs) x y)).roots=Ah s.rs y:=by unfold yC; rw [J5]
  refine ⟨fun r R' hr=>?_,fun r hr=>?_,fun n=>?_,hs.fT⟩
  ·rw [e2] at hr
   obtain ⟨sh,R,g1,g2,g3,g4,g5,g6,g7⟩:=aaL hy r R' hr
   obtain ⟨f1,f2,f3,f4⟩:=hs.roots _ g1
   refine ⟨f1,f2,R,⟨g2,g3.1⟩,g3,⟨_,_,_,_,g7,g6⟩, ?_, ?_, ?_⟩
   ·intro t ht hi
    rw [g7]
    obtain ⟨n,hn⟩:=Ob g4 t ht hi
    obtain ⟨i,hi1,hi2⟩:=fK.1 hn
    simp only [bS] at hi2
    have h0:n=0:=hi2.2.symm
    subst h0
    exact hn
   ·intro t ht
    rw [g7] at ht
    obtain ⟨i,h1,rfl⟩:=fK.1 ht
    exact ⟨rfl,f3 i h1⟩
   ·intro k wt ht hq
    simp only at f4
    rw [f4,hq] at g5 g7
    simp only [Tw,xu,bg,rD] at g5
    obtain ⟨p1,⟨⟨⟨p2,p3⟩,p4⟩,p5⟩,p6⟩:=g5
    subst g7
    exact ⟨K.eq_of_beq p1,rfl,rfl,p2,p3,p4,p5,bB p6⟩
  ·rw [e2]
   exact aaM y (hs.keys r hr)
  ·rw [e1]
   rcases TK hx n with h | ⟨sh,av,d,g1,g2,g3,g4⟩
   ·exact .inl h
   ·exact .inr ⟨sh,av,d,g2,g3,g4,hs.slots _ g1⟩
 ·simp at h
theorem acg:∀{l:List (TypeId×Dat×List Tag)},∀i∈(JZ rs l).flatMap (fun c=>c.2.2),p_ rs i
 | [],i,h=>by simp [JZ] at h
 | (t,d,tags) :: l,i,h=>by
  simp only [JZ,kS,bW] at h
  rcases h with h | h
  ·exact (Fw.1 h).2
  ·exact acg i h
theorem YE {rs ex:List Nat}:∀i∈Ir rs ex,p_ rs i:=by
 intro i hi
 unfold Ir at hi
 rw [eG,nZ,b_] at hi
 exact hi.2
theorem anU {ex:List Nat} {av:AV}:∀i∈(UB rs ex av).Cw,p_ rs i:=by
 intro i hi
 cases av <;> simp only [UB,oM.Cw,zb] at hi
 ·rcases bW.1 hi with hi | hi
  ·exact (Fw.1 hi).2
  ·exact YE i hi
 ·exact (Fw.1 hi).2
 ·exact acg i hi
theorem aci {wd:List (Nat×List Nat)}:∀{l:List Nat},∀q∈J3 wd rs Z l,∀i∈q.2.Cw,p_ rs i
 | [],q,h,_,_=>by simp [J3] at h
 | s :: l,q,h,i,hi=>by
  simp only [J3,bT] at h
  rcases h with h | h
  ·subst h
   split at hi
   ·exact anU i hi
   ·simp [oM.Cw] at hi
  ·exact aci q h i hi
theorem ach {wd:List (Nat×List Nat)}:∀{l:List Nat} {q:List (Nat×zq)},J2 wd fT rs Z l=some q->(∀z∈q,z.1∈l/\∃R,Z.roots z.1=some R/\z.2.ids=mD rs R.tags++(Ir rs (BZ (2 * z.1+1) wd)).filter (fun q=>!Nat.beq q z.1)/\z.2.log=oz z.1 fT)/\∀r∈l,∃z∈q,z.1=r
 | [],q,h=>by simp [J2] at h; subst h; simp
 | r :: l,q,h=>by
  simp only [J2] at h
  split at h
  ·rename_i R q' hR hq
   obtain ⟨i1,i2⟩:=ach hq
   simp only [au] at h
   subst h
   refine ⟨fun z hz=>?_,fun r' hr=>?_⟩
   ·rcases bT.1 hz with h | h
    ·subst h; exact ⟨by simp,R,hR,rfl,rfl⟩
    ·obtain ⟨f1,f2⟩:=i1 z h
     exact ⟨.tail _ f1,f2⟩
   ·rcases bT.1 hr with h | h
    ·exact ⟨_,jE,h.symm⟩
    ·obtain ⟨z,z1,z2⟩:=i2 r' h
     exact ⟨z, .tail _ z1,z2⟩
  ·simp at h
theorem YJ:∀{l:Bw} {r:Nat} {q},oz r l=some q->∃p∈l,p.1=r
 | [],_,_,h=>by simp [oz] at h
 | (s,p) :: l,r,q,h=>by
  simp only [oz] at h
  cases hb:Nat.beq r s with
  | true=>exact ⟨_,jE,(bB hb).symm⟩
  | false=>
   rw [hb] at h
   obtain ⟨p',h1,h2⟩:=YJ h
   exact ⟨p', .tail _ h1,h2⟩
theorem anV {wd:List (Nat×List Nat)} (H:Rel cx Z J F a w) {ss:List Nat} {s:zl} (h:UD wd fT ss rs Z=some s):Xz fT rs s:=by
 unfold UD at h
 split at h
 ·rename_i q hq
  obtain ⟨hb,h⟩:=zF h
  simp only [au] at h
  subst h
  obtain ⟨i1,i2⟩:=ach hq
  refine ⟨aci,fun z hz=>?_,i2,fun r q hf=>?_⟩
  ·obtain ⟨f1,R,f2,f3,f4⟩:=i1 z hz
   obtain ⟨_,g2,g3⟩:=H.gz _ R f2
   refine ⟨f1,g2,fun i hi=>?_,f4⟩
   rw [f3] at hi
   rcases bW.1 hi with hi | hi
   ·obtain ⟨⟨n,hn⟩,h2⟩:=Fw.1 hi
    exact ⟨h2,fun e=>g3 n (e▸hn)⟩
   ·rw [eG] at hi
    refine ⟨YE i hi.1,fun e=>?_⟩
    subst e
    have:=hi.2
    simp at this
  ·obtain ⟨p,p1,p2⟩:=YJ hf
   have:=eO.1 hb p p1
   rw [<-p2]
   exact b_.1 this
 ·simp at h
end
end
section
open Go
variable [Fr]
def Iq:Exit->Option Ex
 | .normal=>some .normal
 | .exit i=>some (.exit i)
 | .ret=>some .ret
 | _=>none
section
variable {P:Program} {T:bI} {hi:Hint} {n:Nat} {cx:Cx} {Z:St} {J:aH} {F:List Nat} {a:Act} {w:World} {R:Type} {r:R} {ag:Option R->Option R->Option R}
def QK (cx:Cx) (K:Ex->St->Option R) (r:R) (e:Exit) (a:Act) (w:World):Prop:=∃x Z J F,Iq e=some x/\K x Z=some r/\Rel cx Z J F a w
theorem least {p:Nat->Prop} (h:∃n,p n):∃m,p m/\∀k,p k->m<=k:=by
 obtain ⟨n,hn⟩:=h
 induction n using Nat.strongRecOn with
 | _ n ih=>
  by_cases hk:∃k,k<n/\p k
  ·obtain ⟨k,h1,h2⟩:=hk
   exact ih k h1 h2
  ·exact ⟨n,hn,fun k h=>Nat.le_of_not_lt fun hlt=>hk ⟨k,hlt,h⟩⟩
theorem ah8 (hag:∀{a b z},ag a b=some z->a=some z/\b=some z) (hm:P.follows .mixedOrders=true) (hT:fM P T) (hSt:wR P T) (hC:xE P n hi) (hnt:hi.nt=cx.nt) (hP:Qh cx hi.fT) :
  ∀(code:Code) (b:Nat) {Z:St} {J:aH} {F:List Nat} {a:Act} {w:World} {K:Ex->St->Option R},den T hi n ag b code Z K=some r->Rel cx Z J F a w->code.wp P (QK cx K r) a w:=by
 intro code
 induction code with
 | skip=>intro b Z J F a w K h H; exact wp_skip ⟨_,_,_,_,rfl,h,H⟩
 | exit id=>intro b Z J F a w K h H; exact wp_exit ⟨_,_,_,_,rfl,h,H⟩
 | ret=>intro b Z J F a w K h H; exact wp_ret ⟨_,_,_,_,rfl,h,H⟩
 | seq x y Nv Jd=>
  intro b Z J F a w K h H
  refine wp_seq (wp_mono (Nv b h H) ?_)
  rintro e a' w' ⟨ex,Z',J',F',h1,h2,h3⟩
  cases e <;> simp only [Iq,au,reduceCtorEq] at h1
  ·subst h1; exact Jd b h2 h3
  ·subst h1; exact ⟨_,_,_,_,rfl,h2,h3⟩
  ·subst h1; exact ⟨_,_,_,_,rfl,h2,h3⟩
 | cond c x y Nv Jd=>
  intro b Z J F a w K h H
  simp only [den] at h
  obtain ⟨v0,h1,h2⟩:=CW _ h
  obtain ⟨v,g1,g2,g3⟩:=jS H h1
  have ev:v0=v:=g3
  subst ev
  have hplain:((asBool v0 .ret).run Z fun t=>if t=true then den T hi n ag b x Z K else den T hi n ag b y Z K)=some r->Code.wp P (.cond c x y) (QK cx K r) a w:=by
   intro h2
   obtain ⟨t,h3,h4⟩:=CW _ h2
   obtain ⟨b',e1,e2⟩:=XR g1 h3
   have e2':t=b':=e2
   subst e2'
   refine wp_cond (t:=t) e1 ?_
   cases t with
   | true=>exact Nv b h4 H
   | false=>exact Jd b h4 H
  cases v0 with
  | pz e=>
   simp only at h2
   obtain ⟨b',e1,e2⟩:=g1
   refine wp_cond (t:=b') e1 ?_
   cases b' with
   | true=>
    rw [ak (e2 rfl)] at h2
    exact Nv b (hag h2).1 H
   | false=>
    split at h2
    ·exact Jd b (hag h2).2 H
    ·exact Jd b h2 H
  | _=>exact hplain h2
 | block id x ih=>
  intro b Z J F a w K h H
  simp only [den] at h
  refine wp_block (wp_mono (ih id h H) ?_)
  rintro e a' w' ⟨ex,Z',J',F',h1,h2,h3⟩
  cases e <;> simp only [Iq,au,reduceCtorEq] at h1
  ·subst h1; exact ⟨_,_,_,_,rfl,h2,h3⟩
  ·rename_i i
   subst h1
   simp only at h2
   unfold Exit.inBlock
   simp only
   cases hb:Nat.beq i id with
   | true=>
    rw [hb] at h2
    rw [ak (bB hb)]
    exact ⟨_,_,_,_,rfl,h2,h3⟩
   | false=>
    rw [hb] at h2
    rw [aA (Mk hb)]
    exact ⟨_,_,_,_,rfl,h2,h3⟩
  ·subst h1; exact ⟨_,_,_,_,rfl,h2,h3⟩
 | loop x ih=>
  intro b Z J F a w K h H
  simp only [den] at h
  split at h
  ·rename_i ss rs hf
   split at h
   ·rename_i s hs
    obtain ⟨αl,Hl⟩:=TA hi rs H
    have hok:=anV Hl hs
    split at h
    ·rename_i c hc
     have H0:=abO Hl hP (pR.of hok hc)
     generalize hB:(fun (L:s.V->Option R) v=>den T hi n ag b x (yC s v) fun
      | .normal,Z'=>match EB rs s (CJ hi rs Z') with
       | some v'=>L v'
       | none=>none
      | e,Z'=>K e Z')=B at h
     have yh:∀(L:s.V->Option R) v,B L v=den T hi n ag b x (yC s v) fun
      | .normal,Z'=>match EB rs s (CJ hi rs Z') with
       | some v'=>L v'
       | none=>none
      | e,Z'=>K e Z':=fun L v=>by rw [<-hB]
     let I:Nat->Act->World->Prop:=fun m a w=>∃v J F,rounds B m v=some r/\Rel cx (yC s v) J F a w
     have hex:∀{m:Nat} {a:Act} {w:World},I m a w->∃m,I m a w:=fun h=>⟨_,h⟩
     classical
     refine wp_loop (fun a w=>∃m,I m a w) (fun a w=>if h:∃m,I m a w then Classical.choose (least h) else 0) ⟨_,_,_,_,h,H0⟩ ?_
     intro a w hI
     rw [dif_pos hI]
     have hI2:=(Classical.choose_spec (least hI)).1
     generalize Classical.choose (least hI)=m at hI2
     obtain ⟨v,J,F,h1,h2⟩:=hI2
     cases m with
     | zero=>simp [rounds] at h1
     | succ m=>
      have h1':B (rounds B m) v=some r:=h1
      rw [yh] at h1'
      refine wp_mono (ih b h1' h2) ?_
      rintro e a' w' ⟨ex,Z',J',F',g1,g2,g3⟩
      cases e <;> simp only [Iq,au,reduceCtorEq] at g1
      ·subst g1
       simp only at g2
       split at g2
       ·rename_i v' hv'
        obtain ⟨αm,Hm⟩:=TA hi rs g3
        have hI':I m a' w':=⟨v',_,_,g2,abO Hm hP (pR.of hok hv')⟩
        refine ⟨⟨m,hI'⟩, ?_⟩
        rw [dif_pos ⟨m,hI'⟩]
        exact Nat.lt_succ_of_le ((Classical.choose_spec (least ⟨m,hI'⟩)).2 m hI')
       ·simp at g2
      ·subst g1; exact ⟨_,_,_,_,rfl,g2,g3⟩
      ·subst g1; exact ⟨_,_,_,_,rfl,g2,g3⟩
    ·simp at h
   ·simp at h
  ·simp at h
 | region id ops draw=>
  intro b Z J F a w K h H
  simp only [den] at h
  cases draw with
  | true=>
   have H':Rel cx Z J F a { w with drawn:=w.drawn+1 }:=H.drawn (w.drawn+1)
   exact wp_region_any hm (ai_ hT hSt hC hnt (fun Z' J' F' a' w' h1 h2=>⟨_,_,_,_,rfl,h1,h2⟩) h H')
  | false=>
   refine wp_region ?_
   have:=aja (P:=P) (Q:=QK cx K r) hT hSt hC hnt (fun Z' J' F' a' w' h1 h2=>⟨_,_,_,_,rfl,h1,h2⟩) ops.toList 0 (by simp) h H
   rw [Ov, <-List.range_eq_range'] at this
   exact this
 | _=>intro b Z J F a w K h; simp [den] at h
end
end
end Go.Proofs.YtailcbngagacaabGreat.Ow
