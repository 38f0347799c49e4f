/- A verified reading of translated code, part F of 7. No condition. -/
import Derived.Test.YtailcbngagacaaaGreatOwE
set_option linter.unusedSectionVars false
set_option linter.unusedVariables false
set_option linter.unusedSimpArgs false
namespace Go.Proofs.YtailcbngagacaaaGreat.Ow
section
open Go
variable [Fr]
def iG (g:GA):List Nat:=(match g.base with
 | some q=>[q.1]
 | none=>[])++g.fo
def GM:gq->List Nat
 | .val _ iQ=>iQ
 | _=>[]
def vS:gq->Nat
 | .rw k _ _ _=>k.size
 | _=>0
def dQ (cx:Cx) (Z:St) (J:dP) (F:List Nat) (w:World) (ps:List gq) (c:Cont (kin ps)) (is:List dz) (gs:List GA):Cx where
 nt:=0
 w0:=w
 ext:=fun j b=>(∃i,is[j]?=some i/\jc cx Z J F w i.ids b)/\∀(m:Nat) (g:GA) (q:Nat×Nat),gs[m]?=some g->g.base=some q->b≠q.1
 par:=fun j=>match gs[j]?,ps[j]? with
  | some g,some p=>bif g.ow || g.wb then some ⟨g.base.map fun q=>(q.1,q.2,vS p),iG g,g.wb⟩ else none
  | _,_=>none
 ptrs:=fun j q ts v=>∃g R0 c0 b o,gs[j]?=some g/\g.wb=true/\gZ (gX ps 0 c) (aA j)=some R0/\ts=eT q R0.k/\(∀t∈ah q R0.k,az t R0.own=true)/\mG q R0.k R0.x/\bH (hp w) q R0.k g.cs g.base=some (c0,some (b,o))/\v=.pointer (some ⟨b,o,none⟩)
 refs:=fun j v=>∃g,gs[j]?=some g/\g.v=v/\g.base=none/\g.wb=true
def jR (gs:List GA):dP where
 loc:=fun r=>((gs[r / 4]?).bind (·.base)).getD (0,0)
 hdr:=fun r=>((gs[r / 4]?).map (·.cs)).getD []
 fo:=fun r=>((gs[r / 4]?).map (·.fo)).getD []
theorem MN (j:Nat):aA j / 4=j:=by unfold aA; omega
theorem oz (j:Nat):gy (aA j)=false:=by
 unfold gy aA
 have:4 * j % 4=0:=by omega
 rw [this]; rfl
section
variable {P:Program} {T:jh} {cx:Cx} {Z:St} {J:dP} {F:List Nat} {a:Act} {w:World} {ps:List gq} {c:Cont (kin ps)} {vs:List Value} {is:List dz} {gs:List GA}
structure Apart (cx:Cx) (Z:St) (J:dP) (F:List Nat) (w:World) (ps:List gq) (is:List dz) (gs:List GA):Prop where
 one:∀(j j':Nat) (g g':GA),gs[j]?=some g->gs[j']?=some g'->g.wb=true->g'.wb=true->j=j'
 own:(gs.flatMap fun g=>bif g.ow then g.fo else []).Nodup
 iQ:∀(j:Nat) (p:gq) (i:dz) (r n:Nat),ps[j]?=some p->is[j]?=some i->(r,n)∈i.ids->∀(m:Nat) (i':dz) q,is[m]?=some i'->i'.wb=some (r,q)->m∈GM p/\∃k iQ,p=.val k iQ/\∀b∈i'.bt,b∉k.tys
 prw:∀(j:Nat) (p:gq),ps[j]?=some p->∀m∈GM p,∃(i':dz) (q:Nat×List Stp×List TypeId×List TypeId),is[m]?=some i'/\i'.wb=some q
theorem flatMap_apart {A:Type} {f:A->List Nat}:∀{l:List A} {i j:Nat} {x y:A},(l.flatMap f).Nodup->l[i]?=some x->l[j]?=some y->i≠j->∀b∈f x,b∉f y:=by
 intro l
 induction l with
 | nil=>intro i j x y _ h; simp at h
 | cons z l ih=>
  intro i j x y hnd hi hj hne b hb hb'
  simp only [anT] at hnd
  have n:=anl.1 hnd
  cases i with
  | zero=>
   simp only [anU,ane] at hi
   subst hi
   cases j with
   | zero=>exact hne rfl
   | succ j=>exact n.2.2 b hb b (anR.2 ⟨y,anV (by simpa using hj),hb'⟩) rfl
  | succ i=>
   cases j with
   | zero=>
    simp only [anU,ane] at hj
    subst hj
    exact n.2.2 b hb' b (anR.2 ⟨x,anV (by simpa using hi),hb⟩) rfl
   | succ j=>exact ih n.2.1 (by simpa using hi) (by simpa using hj) (by omega) b hb hb'
theorem WQ {p:gq} {cj:Cont p.kin} {v:Value} {i:dz} {g:GA} (h:Tt cx Z J F a w p cj v i g) (hw:g.wb=true) :
  ∃(k:K) (x:El k) (ow wt ht:List TypeId) (r:Nat) (R:Root) (q:List Stp) (wh:Option (Nat×Nat)),((p=.rw k ow wt ht/\i.bt=[eO R q]/\∃b o,wh=some (b,o)/\v=.pointer (some ⟨b,o,none⟩)/\g.base=some (b,o)/\b∉g.fo)\/(p=.lI k ow wt/\ht=k.tys/\i.bt=[]/\VC k v g.cs/\g.base=none))/\
   Y7 cx Z J w k x ow i wt ht r R q/\bH (hp w) q R.k (J.hdr r) (dY J R r)=some (g.cs,wh)/\Ow (hp w) R.own (jc cx Z J F w R.tags) k x g.cs g.fo/\(∀b∈g.fo,b∈J.fo r)/\g.fo.Nodup/\g.ow=false/\g.v=v:=by
 obtain ⟨hv,h⟩:=h
 cases p with
 | val k iQ=>rw [h.2.1] at hw; simp at hw
 | ro k=>rw [h.2.1] at hw; simp at hw
 | rw k ow wt ht=>
  obtain ⟨h1,h2,r,R,q,b,o,h3,h4,h5,h6,h7,h8,h9,h10,h11,_⟩:=h
  exact ⟨k,cj.1,ow,wt,ht,r,R,q,some (b,o), .inl ⟨rfl,h4,b,o,rfl,h6,h7,h11⟩,h3,h5,h8,h9,h10,h1,hv⟩
 | lI k ow wt=>
  obtain ⟨h1,h2,r,R,q,wh,h3,h4,h5,h6,h7,h8,h9,h10,_⟩:=h
  exact ⟨k,cj.1,ow,wt,k.tys,r,R,q,wh, .inr ⟨rfl,rfl,h4,h6,h7⟩,h3,h5,h8,h9,h10,h1,hv⟩
 | own k ow=>rw [h.2.1] at hw; simp at hw
 | fn f ks=>rw [h.2.1] at hw; simp at hw
 | into j q=>rw [h.2.1] at hw; simp at hw
structure RD (cx:Cx) (Z:St) (J:dP) (F:List Nat) (w:World) (ps:List gq) (vs:List Value) (is:List dz) (gs:List GA) (j:Nat) (R:Root) (g:GA) (i:dz) (p:gq):Prop where
 hg:gs[j]?=some g
 hi:is[j]?=some i
 hq:ps[j]?=some p
 hv:vs[j]?=some g.v
 held:g.ow=true\/g.wb=true
 iQ:GM p=[]
 akj:∀k iQ,p≠.val k iQ
 lw:R.w=[]
 lh:R.h=[]
 g0:R.g=0
 ew:R.ew=[]
 eh:R.eh=[]
 tags:R.tags=bif R.k.tys.all (fun t=>az t R.own) then [] else [(pO j,0)]
 ow:Ow (hp w) R.own (jc cx Z J F w i.ids) R.k R.x g.cs g.fo
 nd:g.fo.Nodup
 kind:(R.kind=.par/\vS p=R.k.size/\g.wb=true/\∃b o,g.base=some (b,o)/\b∉g.fo)\/(R.kind=.anon/\g.base=none/\VC R.k g.v g.cs)
theorem zL {p:gq} {cj:Cont p.kin} {v:Value} {i:dz} {g:GA} {j:Nat} {R:Root} (h:Tt cx Z J F a w p cj v i g) (hg:gs[j]?=some g) (hi:is[j]?=some i) (hp:ps[j]?=some p) (hv:vs[j]?=some v) (hR:eB p j cj=some R):RD cx Z J F w ps vs is gs j R g i p:=by
 obtain ⟨h0,h⟩:=h
 subst h0
 have hall:∀{k:K} {ow own:List TypeId},oH k own ow=true->∀t∈k.tys,az t ow=az t own:=fun hj t ht=>by
  have:=anu.1 hj t ht
  exact (by simpa using this:az t _=az t _).symm
 cases p with
 | rw k ow wt ht=>
  obtain ⟨h1,h2,r,R0,q,b,o,h3,h4,h5,h6,h7,h8,h9,h10,h11,_⟩:=h
  simp only [eB,ane] at hR
  subst hR
  refine ⟨hg,hi,hp,hv, .inr h2,rfl,by simp,rfl,rfl,rfl,rfl,rfl,rfl, ?_,h10, .inl ⟨rfl,rfl,h2,b,o,h7,h11⟩⟩
  rw [h3.ids]
  exact qY (hall h3.just) h8
 | lI k ow wt=>
  obtain ⟨h1,h2,r,R0,q,wh,h3,h4,h5,h6,h7,h8,h9,h10,_⟩:=h
  simp only [eB,ane] at hR
  subst hR
  refine ⟨hg,hi,hp,hv, .inr h2,rfl,by simp,rfl,rfl,rfl,rfl,rfl,rfl, ?_,h10, .inr ⟨rfl,h7,h6⟩⟩
  rw [h3.ids]
  exact qY (hall h3.just) h8
 | own k ow=>
  obtain ⟨h1,h2,h3,h4,h5,h6,h7,h8⟩:=h
  simp only [eB,ane] at hR
  subst hR
  exact ⟨hg,hi,hp,hv, .inl h1,rfl,by simp,rfl,rfl,rfl,rfl,rfl,rfl,h6,h8, .inr ⟨rfl,h4,h5⟩⟩
 | val k iQ=>simp [eB] at hR
 | ro k=>simp [eB] at hR
 | fn f ks=>simp [eB] at hR
 | into j q=>simp [eB] at hR
theorem zK {p:gq} {cj:Cont p.kin} {v:Value} {i:dz} {g:GA} (j:Nat) (h:Tt cx Z J F a w p cj v i g) (hh:g.ow=true\/g.wb=true):∃R,eB p j cj=some R:=by
 obtain ⟨h0,h⟩:=h
 cases p with
 | rw k ow wt ht=>exact ⟨_,rfl⟩
 | lI k ow wt=>exact ⟨_,rfl⟩
 | own k ow=>exact ⟨_,rfl⟩
 | val k iQ=>rcases hh with hh | hh <;> simp [h.1,h.2.1] at hh
 | ro k=>rcases hh with hh | hh <;> simp [h.1,h.2.1] at hh
 | fn f ks=>rcases hh with hh | hh <;> simp [h.1,h.2.1] at hh
 | into j q=>rcases hh with hh | hh <;> simp [h.1,h.2.1] at hh
theorem nS (H:Rel cx Z J F a w) {p:gq} {cj:Cont p.kin} {v:Value} {i:dz} {g:GA} (h:Tt cx Z J F a w p cj v i g):(∀b∈iG g,(g.ow=true/\b∈F)\/(g.wb=true/\∃r R q,i.wb=some (r,q)/\aQ Z r R/\b∈blk J R r))/\
  (∀b o,g.base=some (b,o)->∃r R q arr e lo hi,i.wb=some (r,q)/\aQ Z r R/\b∈blk J R r/\hp w b=some (.cells arr e (lo,hi))/\zY arr.size lo hi/\o+vS p<=arr.size/\Cells (hp w) b o g.cs/\((∀t∈i.bt,t=e)/\i.bt≠[]/\¬mD cx b\/mD cx b))/\
  (∀b∈g.fo,g.wb=true->∃r R q,i.wb=some (r,q)/\aQ Z r R/\b∈J.fo r)/\(g.wb=true↔i.wb≠none):=by
 obtain ⟨hv,h⟩:=h
 cases p with
 | val k iQ=>
  obtain ⟨h1,h2,h3,h4,h5,_⟩:=h
  exact ⟨fun b hb=>by simp [iG,h4,h5] at hb,fun b o hb=>by rw [h5] at hb; simp at hb,fun b hb=>by rw [h4] at hb; simp at hb,by simp [h2,h3]⟩
 | ro k=>
  obtain ⟨h1,h2,h3,h4,h5,_⟩:=h
  exact ⟨fun b hb=>by simp [iG,h4,h5] at hb,fun b o hb=>by rw [h5] at hb; simp at hb,fun b hb=>by rw [h4] at hb; simp at hb,by simp [h2,h3]⟩
 | fn f ks=>
  obtain ⟨h1,h2,h3,h4,h5,_⟩:=h
  exact ⟨fun b hb=>by simp [iG,h4,h5] at hb,fun b o hb=>by rw [h5] at hb; simp at hb,fun b hb=>by rw [h4] at hb; simp at hb,by simp [h2,h3]⟩
 | own k ow=>
  obtain ⟨h1,h2,h3,h4,h5,h6,h7,h8⟩:=h
  exact ⟨fun b hb=>.inl ⟨h1,h7 b (by simpa [iG,h4] using hb)⟩,fun b o hb=>by rw [h4] at hb; simp at hb,fun b hb hw=>by rw [h2] at hw; simp at hw,by simp [h2,h3]⟩
 | lI k ow wt=>
  obtain ⟨h1,h2,r,R,q,wh,h3,h4,h5,h6,h7,h8,h9,h10,_⟩:=h
  have hf:∀b∈g.fo,b∈blk J R r:=fun b hb=>ang _ (h9 b hb)
  exact ⟨fun b hb=>.inr ⟨h2,r,R,_,h3.wb,h3.lv,hf b (by simpa [iG,h7] using hb)⟩,fun b o hb=>by rw [h7] at hb; simp at hb,fun b hb _=>⟨r,R,_,h3.wb,h3.lv,h9 b hb⟩,by simp [h2,h3.wb]⟩
 | rw k ow wt ht=>
  obtain ⟨h1,h2,r,R,q,b,o,h3,h4,h5,h6,h7,h8,h9,h10,h11,_⟩:=h
  have hf:∀b∈g.fo,b∈blk J R r:=fun b hb=>ang _ (h9 b hb)
  obtain ⟨m1,_,m2,⟨arr,e,lo,hi,m3,m4,m5,m6⟩,_⟩:=pV H h3.lv h3.vl h3.get h3.pin h3.own h5
  refine ⟨fun b' hb=>?_,fun b' o' hb=>?_,fun b hb _=>⟨r,R,_,h3.wb,h3.lv,h9 b hb⟩,by simp [h2,h3.wb]⟩
  ·refine .inr ⟨h2,r,R,_,h3.wb,h3.lv, ?_⟩
   simp only [iG,h7,anW,anX,anq] at hb
   rcases hb with hb | hb
   ·subst hb; exact m2
   ·exact hf b' hb
  ·rw [h7] at hb
   simp only [ane,anp] at hb
   obtain ⟨rfl,rfl⟩:=hb
   refine ⟨r,R,_,arr,e,lo,hi,h3.wb,h3.lv,m2,m3,m4,m5,m1, ?_⟩
   rcases m6 with ⟨m6,m7⟩ | ⟨m6,_⟩
   ·exact .inl ⟨fun t ht=>by rw [h4] at ht; simp only [anz] at ht; rw [ht,m6],by rw [h4]; simp,m7⟩
   ·exact .inr m6
 | into j q=>
  obtain ⟨h1,h2,h3,h4,h5,_⟩:=h
  exact ⟨fun b hb=>by simp [iG,h4,h5] at hb,fun b o hb=>by rw [h5] at hb; simp at hb,fun b hb=>by rw [h4] at hb; simp at hb,by simp [h2,h3]⟩
end
end
section
open Go
variable [Fr]
section
variable {P:Program} {T:jh} {cx:Cx} {Z:St} {J:dP} {F:List Nat} {a:Act} {w:World} {ps:List gq} {c:Cont (kin ps)} {vs:List Value} {is:List dz} {gs:List GA}
theorem jB {j:Nat} {g:GA} (h:gs[j]?=some g):(jR gs).loc (aA j)=g.base.getD (0,0)/\(jR gs).hdr (aA j)=g.cs/\(jR gs).fo (aA j)=g.fo:=by
 simp [jR,MN,h]
theorem RD.blk {j:Nat} {R:Root} {g:GA} {i:dz} {p:gq} (D:RD cx Z J F w ps vs is gs j R g i p):blk (jR gs) R (aA j)=iG g:=by
 obtain ⟨h1,h2,h3⟩:=jB D.hg
 unfold Ow.blk iG dY
 rw [h1,h3]
 rcases D.kind with ⟨hk,_,_,b,o,hb,_⟩ | ⟨hk,hb,_⟩
 ·rw [hk,hb]; rfl
 ·rw [hk,hb]
theorem RD.wh {j:Nat} {R:Root} {g:GA} {i:dz} {p:gq} (D:RD cx Z J F w ps vs is gs j R g i p):dY (jR gs) R (aA j)=g.base:=by
 obtain ⟨h1,h2,h3⟩:=jB D.hg
 unfold dY
 rw [h1]
 rcases D.kind with ⟨hk,_,_,b,o,hb,_⟩ | ⟨hk,hb,_⟩
 ·rw [hk,hb]; rfl
 ·rw [hk,hb]
theorem RD.live {j:Nat} {R:Root} {g:GA} {i:dz} {p:gq} (D:RD cx Z J F w ps vs is gs j R g i p):R.bg=false:=by
 unfold Root.bg
 rcases D.kind with ⟨hk,_⟩ | ⟨hk,_⟩ <;> rw [hk]
theorem X6 (H:Rel cx Z J F a w) (hJ:WR cx Z J F a w ps c vs is gs) (hA:Apart cx Z J F w ps is gs):Rel (dQ cx Z J F w ps c is gs) (cK ps c) (jR gs) [] ⟨vs.toArray,[]⟩ w:=by
 obtain ⟨lv,li,lg,hat⟩:=hJ.at (i0:=0)
 simp only [anY] at hat
 have hroot:∀{r:Nat} {R:Root},(cK ps c).roots r=some R->∃j g i p,r=aA j/\RD cx Z J F w ps vs is gs j R g i p:=by
  intro r R h
  obtain ⟨j,p,h1,h2⟩:=SC (show gZ (gX ps 0 c) r=some R from h)
  simp only [anY] at h1
  subst h1
  obtain ⟨cj,v,i,g,e1,e2,e3,e4,e5,e6⟩:=hat j p h2
  have hR:eB p j cj=some R:=by rw [<-e6]; exact h
  exact ⟨j,g,i,p,rfl,zL e4 e3 e2 h2 e1 hR⟩
 have abh:∀{j:Nat} {R:Root},(cK ps c).roots (aA j)=some R->∃g i p,RD cx Z J F w ps vs is gs j R g i p:=by
  intro j R h
  obtain ⟨j',g,i,p,h1,h2⟩:=hroot h
  have:=MO h1
  subst this
  exact ⟨g,i,p,h2⟩
 have hmk:∀{j:Nat} {g:GA},gs[j]?=some g->(g.ow=true\/g.wb=true)->∃R i p,(cK ps c).roots (aA j)=some R/\RD cx Z J F w ps vs is gs j R g i p:=by
  intro j g hg hh
  have hj:j<ps.length:=by have:=(anZ.1 hg).1; omega
  obtain ⟨cj,v,i,g',e1,e2,e3,e4,e5,e6⟩:=hat j ps[j] (ant hj)
  rw [hg] at e3
  simp only [ane] at e3
  subst e3
  obtain ⟨R,hR⟩:=zK j e4 hh
  have hr:(cK ps c).roots (aA j)=some R:=by show gZ (gX ps 0 c) (aA j)=some R; rw [e6,hR]
  exact ⟨R,i,ps[j],hr,zL e4 hg e2 (ant hj) e1 hR⟩
 have hgj:∀{j:Nat} {g:GA},gs[j]?=some g->∃p cj v i,ps[j]?=some p/\vs[j]?=some v/\is[j]?=some i/\Tt cx Z J F a w p cj v i g:=by
  intro j g hg
  have hj:j<ps.length:=by have:=(anZ.1 hg).1; omega
  obtain ⟨cj,v,i,g',e1,e2,e3,e4,_⟩:=hat j ps[j] (ant hj)
  rw [hg] at e3
  simp only [ane] at e3
  subst e3
  exact ⟨ps[j],cj,v,i,ant hj,e1,e2,e4⟩
 have Gh:∀{j:Nat} {g:GA} {b:Nat},gs[j]?=some g->b∈iG g->(g.ow=true/\b∈F)\/(g.wb=true/\∃i r R q,is[j]?=some i/\i.wb=some (r,q)/\aQ Z r R/\b∈blk J R r):=by
  intro j g b hg hb
  obtain ⟨p,cj,v,i,e1,e2,e3,e4⟩:=hgj hg
  rcases (nS H e4).1 b hb with h | ⟨h,r,R,q,h1⟩
  ·exact .inl h
  ·exact .inr ⟨h,i,r,R,q,e3,h1⟩
 have hmn:∀{j:Nat} {g:GA} {b:Nat},gs[j]?=some g->b∈iG g->mine cx w b:=by
  intro j g b hg hb
  rcases Gh hg hb with ⟨_,h⟩ | ⟨_,i,r,R,q,_,_,h1,h2⟩
  ·exact H.fl b h
  ·exact (H.roots r R h1).mine b h2
 have hlt:∀{j:Nat} {g:GA} {b:Nat},gs[j]?=some g->b∈iG g->b<w.heap.size:=fun hg hb=>(hmn hg hb).1
 have Vm:∀{j:Nat} {g:GA} {b:Nat},gs[j]?=some g->g.ow=true->b∈iG g->b∈g.fo:=by
  intro j g b hg ho hb
  obtain ⟨p,cj,v,i,e1,e2,e3,e4⟩:=hgj hg
  unfold iG at hb
  cases hbase:g.base with
  | none=>rw [hbase] at hb; simpa using hb
  | some q=>
   exfalso
   obtain ⟨q1,q2⟩:=q
   obtain ⟨r,R,q,_,_,_,_,h1,_⟩:=(nS H e4).2.1 q1 q2 hbase
   have hw:g.wb=true:=(nS H e4).2.2.2.2 (by rw [h1]; simp)
   obtain ⟨_,h⟩:=e4
   cases p <;> first | (obtain ⟨g1,g2,_⟩:=h; rw [ho] at g1; simp at g1; done) | (obtain ⟨g1,g2,_⟩:=h; rw [hw] at g2; simp at g2; done) | exact h.elim
 have aff:∀{j j':Nat} {g g':GA} {b:Nat},gs[j]?=some g->gs[j']?=some g'->j≠j'->b∈iG g->b∉iG g':=by
  intro j j' g g' b hg hg' hne hb hb'
  rcases Gh hg hb with ⟨ho,h⟩ | ⟨hw,i,r,R,q,_,_,h1,h2⟩
  ·rcases Gh hg' hb' with ⟨ho',h'⟩ | ⟨_,i',r',R',q',_,_,h1',h2'⟩
   ·refine flatMap_apart hA.own hg hg' hne b ?_ ?_
    ·rw [ho]; exact Vm hg ho hb
    ·rw [ho']; exact Vm hg' ho' hb'
   ·exact H.iY r' R' h1' b h2' h
  ·rcases Gh hg' hb' with ⟨_,h'⟩ | ⟨hw',_⟩
   ·exact H.iY r R h1 b h2 h'
   ·exact hne (hA.one j j' g g' hg hg' hw hw')
 have hnd:∀{j:Nat} {R:Root} {g:GA} {i:dz} {p:gq},RD cx Z J F w ps vs is gs j R g i p->(iG g).Nodup:=by
  intro j R g i p D
  unfold iG
  rcases D.kind with ⟨_,_,_,b,o,hb,hno⟩ | ⟨_,hb,_⟩
  ·rw [hb]; exact anN.2 ⟨hno,D.nd⟩
  ·rw [hb]; exact D.nd
 have Kt:∀{j m:Nat} {i:dz} {p:gq} {g:GA} {b:Nat},is[j]?=some i->ps[j]?=some p->GH Z J F w i.ids b->gs[m]?=some g->b∈iG g->m∈GM p/\(∃k iQ,p=.val k iQ/\∀i',is[m]?=some i'->∀t∈i'.bt,t∉k.tys):=by
  intro j m i p g b hi hp hb hg hbf
  rcases Gh hg hbf with ⟨_,h⟩ | ⟨_,i',r,R,q,h0,h1,h2,h3⟩
  ·exact absurd h hb.2.1
  ·obtain ⟨n,hn⟩:=hb.2.2 r R h2 h3
   obtain ⟨g1,k,iQ,g2,g3⟩:=hA.iQ j p i r n hp hi hn m i' q h0 h1
   refine ⟨g1,k,iQ,g2,fun i'' h=>?_⟩
   rw [h0] at h
   simp only [ane] at h
   subst h
   exact g3
 have aaT:∀{j:Nat} {i:dz} {p:gq} {b:Nat},is[j]?=some i->ps[j]?=some p->jc cx Z J F w i.ids b->(∀k iQ,p=.val k iQ->∃t∈k.tys,vo (hp w) b t)->(dQ cx Z J F w ps c is gs).ext j b:=by
  intro j i p b hi hp hb ht
  refine ⟨⟨i,hi,hb⟩,fun m g q hg hbase e=>?_⟩
  have hbf:b∈iG g:=by unfold iG; rw [hbase,e]; simp
  obtain ⟨_,k,iQ,h1,h2⟩:=Kt hi hp hb.q hg hbf
  obtain ⟨p',cj,v,i',e1,e2,e3,e4⟩:=hgj hg
  obtain ⟨r,R,q',arr,e',lo,hi',f1,f2,f3,f4,f5,f6,f7,f8⟩:=(nS H e4).2.1 q.1 q.2 (by rw [hbase])
  rcases f8 with ⟨f8,f9,f10⟩ | f8
  ·obtain ⟨t,ht1,ht2⟩:=ht k iQ h1
   have ht2:=H.Po (hmn hg hbf) ht2
   rw [e] at ht2
   unfold qm at ht2
   rw [f4] at ht2
   simp only [ane] at ht2
   cases hbt:i'.bt with
   | nil=>exact f9 hbt
   | cons t0 l=>
    have hm:t0∈i'.bt:=by rw [hbt]; simp
    exact h2 i' e3 t0 hm (by rw [f8 t0 hm,ht2]; exact ht1)
  ·exact hb.2.2.1 (e▸f8)
 have abf:∀{j:Nat} {i:dz} {p:gq} {b:Nat} {T:List Tag},is[j]?=some i->ps[j]?=some p->(dQ cx Z J F w ps c is gs).ext j b->(pO j,0)∈T->(∀n∈GM p,(aA n,0)∈T)->jc (dQ cx Z J F w ps c is gs) (cK ps c) (jR gs) [] w T b:=by
  intro j i p b T hi hp hb ht hpr
  obtain ⟨⟨i',hi',hok⟩,hno⟩:=hb
  rw [hi] at hi'
  simp only [ane] at hi'
  subst hi'
  refine ⟨hok.1,by simp, ?_,fun r R hr hbr=>?_,fun _=>.inl ⟨j,0,ht,⟨i,hi,hok⟩,hno⟩⟩
  ·rintro ⟨m,pi,o,n,h1,h2⟩
   simp only [dQ] at h1
   cases hgm:gs[m]? with
   | none=>rw [hgm] at h1; simp at h1
   | some g=>
    cases hpm:ps[m]? with
    | none=>rw [hgm,hpm] at h1; simp at h1
    | some pm=>
     rw [hgm,hpm] at h1
     simp only at h1
     cases hh:(g.ow || g.wb) with
     | false=>rw [hh] at h1; simp at h1
     | true=>
      rw [hh] at h1
      simp only [an0,ane] at h1
      subst h1
      simp only at h2
      cases hbase:g.base with
      | none=>rw [hbase] at h2; simp at h2
      | some q=>
       rw [hbase] at h2
       simp only [an1,ane,anp] at h2
       exact hno m g q hgm hbase h2.1.symm
  ·obtain ⟨m,g,im,pm,h1,D⟩:=hroot hr.1
   subst h1
   rw [D.blk] at hbr
   exact ⟨0,hpr m (Kt hi hp hok.q D.hg hbr).1⟩
 have aj0:∀{j:Nat} {i:dz} {p:gq} {b:Nat},is[j]?=some i->ps[j]?=some p->(∀k iQ,p≠.val k iQ)->GH Z J F w i.ids b->GH (cK ps c) (jR gs) [] w [(pO j,0)] b:=by
  intro j i p b hi hp hnv hb
  refine ⟨hb.1,by simp,fun r R hr hbr=>?_⟩
  obtain ⟨m,g,im,pm,h1,D⟩:=hroot hr.1
  subst h1
  rw [D.blk] at hbr
  obtain ⟨_,k,iQ,h2,_⟩:=Kt hi hp hb D.hg hbr
  exact absurd h2 (hnv k iQ)
 have hpar:∀{j:Nat} {pi:Q6},(dQ cx Z J F w ps c is gs).par j=some pi->∃g p,gs[j]?=some g/\ps[j]?=some p/\(g.ow=true\/g.wb=true)/\pi=⟨g.base.map fun q=>(q.1,q.2,vS p),iG g,g.wb⟩:=by
  intro j pi h1
  simp only [dQ] at h1
  cases hgm:gs[j]? with
  | none=>rw [hgm] at h1; simp at h1
  | some g=>
   cases hpm:ps[j]? with
   | none=>rw [hgm,hpm] at h1; simp at h1
   | some pm=>
    rw [hgm,hpm] at h1
    simp only at h1
    cases hh:(g.ow || g.wb) with
    | false=>rw [hh] at h1; simp at h1
    | true=>
     rw [hh] at h1
     simp only [an0,ane] at h1
     exact ⟨g,pm,rfl,rfl,by simpa using hh,h1.symm⟩
 have Zq:∀{j:Nat} {R:Root} {g:GA} {i:dz} {p:gq},RD cx Z J F w ps vs is gs j R g i p->(dQ cx Z J F w ps c is gs).par j=some ⟨g.base.map fun q=>(q.1,q.2,vS p),iG g,g.wb⟩:=by
  intro j R g i p D
  simp only [dQ]
  rw [D.hg,D.hq]
  have:(g.ow || g.wb)=true:=by simpa using D.held
  simp only [this,an0]
 have hsame:∀{j:Nat} {R R':Root},(cK ps c).roots (aA j)=some R->(cK ps c).roots (aA j)=some R'->R'=R:=fun h1 h2=>by rw [h1] at h2; simpa using h2.symm
 have U7:∀{j:Nat} {g:GA} {p:gq} {b o:Nat},gs[j]?=some g->ps[j]?=some p->g.base=some (b,o)->∃arr e lo hi,hp w b=some (.cells arr e (lo,hi))/\zY arr.size lo hi/\o+vS p<=arr.size/\Cells (hp w) b o g.cs:=by
  intro j g p b o hg hp hb
  obtain ⟨p',cj,v,i,e1,e2,e3,e4⟩:=hgj hg
  rw [hp] at e1
  simp only [ane] at e1
  subst e1
  obtain ⟨r,R,q',arr,e',lo,hi',f1,f2,f3,f4,f5,f6,f7,f8⟩:=(nS H e4).2.1 b o hb
  exact ⟨arr,e',lo,hi',f4,f5,f6,f7⟩
 have Zu:∀s,jG (dQ cx Z J F w ps c is gs) (cK ps c) (jR gs) [] w ((cK ps c).slots s) (vs.toArray.getD s undef)/\wO (cK ps c) ((cK ps c).slots s):=by
  intro s
  rcases D9 ps 0 c s with h | ⟨j,p,cj0,hj,hps,hs0⟩
  ·have:(cK ps c).slots s=.one .undef:=h
   rw [this]
   exact ⟨trivial,trivial⟩
  ·simp only [anY] at hj
   subst hj
   obtain ⟨cj,v,i,g,e1,e2,e3,e4,e5,e6⟩:=hat s p hps
   have hsl:(cK ps c).slots s=.one (y7 p s cj):=e5
   have hvs:vs.toArray.getD s undef=v:=by
    rw [an2]
    simp [e1]
   rw [hsl,hvs]
   have hro:∀{k:K} {x:El k} {v:Value} {b o:Nat} {cs:List Value},(∀k iQ,p≠.val k iQ)->v=.pointer (some ⟨b,o,none⟩)->Cells (hp w) b o cs->Vw (hp w) (jc cx Z J F w i.ids) k x cs->GH Z J F w i.ids b->GM p=[]->
     GX (dQ cx Z J F w ps c is gs) (cK ps c) (jR gs) [] w SENT k x [(pO s,0)] v:=by
    intro k x v b o cs hnv hv hC hV hq hpr
    refine ⟨⟨b,o,hv⟩,fun _=>⟨b,o,cs,hv,hC,gH (fun _ _=>rfl) (fun b hb=>?_) hV,aj0 e2 hps hnv hq, .inl ⟨rfl,fun t ht=>by simp only [anz] at ht; subst ht; exact jo s⟩⟩⟩
    exact abf e2 hps (aaT e2 hps hb (fun k iQ h=>absurd h (hnv k iQ))) (by simp) (by rw [hpr]; simp)
   have Vp:∀{R:Root},eB p s cj=some R->qM (cK ps c) (.ref (aA s) 0)/\qM (cK ps c) (.ptr (aA s) [] 0):=by
    intro R hR
    have hr:(cK ps c).roots (aA s)=some R:=by show gZ (gX ps 0 c) (aA s)=some R; rw [e6,hR]
    exact ⟨⟨R,hr, .inr (anO _)⟩,⟨R,hr, .inr (anO _)⟩⟩
   have Zi:fG (cK ps c) [(pO s,0)]:=fun t ht=>by simp only [anz] at ht; subst ht; exact .inl (jo s)
   have zZ:∀{R:Root},eB p s cj=some R->R.kind=.anon->bN (dQ cx Z J F w ps c is gs) (cK ps c) (jR gs) [] w (.ref (aA s) 0) v:=by
    intro R hR hk Q hQ _
    have hr:(cK ps c).roots (aA s)=some R:=by show gZ (gX ps 0 c) (aA s)=some R; rw [e6,hR]
    have D:=zL e4 e3 e2 hps e1 hR
    have hQR:=hsame hr hQ.1
    subst hQR
    rcases D.kind with ⟨hk',_⟩ | ⟨_,_,hV⟩
    ·rw [hk] at hk'; simp at hk'
    ·refine ⟨hk, ?_⟩
     rw [(jB D.hg).2.1, <-e4.1]
     exact hV
   cases p with
   | val k iQ=>
    obtain ⟨h0,h1,h2,h3,h4,h5,h6,h7⟩:=e4
    refine ⟨fun hc=>⟨g.cs,h6, ?_⟩, ?_⟩
    ·cases hf:k.flat with
     | true=>exact jA hf h7
     | false=>
      rw [show (y7 (.val k iQ) s cj)=.val k cj.1 ((pO s,0) :: iQ.map fun j=>(aA j,0)) by simp [y7,hf]] at *
      refine gH (fun _ _=>rfl) (fun b hb=>?_) (E8 k.tys (fun _ h=>h) h7)
      refine abf e2 hps (aaT e2 hps hb.1 (fun k' amM h=>by simp only [gq.val.injEq] at h; obtain ⟨rfl,_⟩:=h; exact hb.2)) (by simp) (fun n hn=>by exact anE _ (anQ.2 ⟨n,hn,rfl⟩))
    ·intro t ht
     cases hf:k.flat with
     | true=>simp [y7,hf] at ht
     | false=>
      simp only [y7,hf,an3,anq,anQ] at ht
      rcases ht with ht | ⟨m,hm,ht⟩
      ·subst ht; exact .inl (jo s)
      ·subst ht
       obtain ⟨i',q,f1,f2⟩:=hA.prw s _ hps m hm
       have hm':m<gs.length:=by have:=(anZ.1 f1).1; omega
       obtain ⟨p',cj',v',i'',k1,k2,k3,k4⟩:=hgj (ant hm')
       rw [f1] at k3
       simp only [ane] at k3
       subst k3
       obtain ⟨R,_,_,hR,_⟩:=hmk (ant hm') (.inr ((nS H k4).2.2.2.2 (by rw [f2]; simp)))
       exact .inr ⟨R,hR, .inr (anO _)⟩
   | ro k=>
    obtain ⟨h0,h1,h2,h3,h4,h5,b,o,h6,h7,h8,h9⟩:=e4
    exact ⟨hro (by simp) h6 h7 h8 h9 rfl,Zi⟩
   | rw k ow wt ht=>
    obtain ⟨R,hR⟩:=zK s e4 (.inr e4.2.2.1)
    have hr:(cK ps c).roots (aA s)=some R:=by show gZ (gX ps 0 c) (aA s)=some R; rw [e6,hR]
    have D:=zL e4 e3 e2 hps e1 hR
    obtain ⟨h0,h1,h2,r,R0,q,b,o,h3,h4,h5,h6,h7,_⟩:=e4
    refine ⟨⟨⟨b,o,h6⟩,fun Q hQ _ _ _ _=>⟨trivial,g.cs,b,o, ?_,h6⟩⟩,(Vp hR).2⟩
    have hQR:=hsame hr hQ
    subst hQR
    simp only [bH]
    rw [D.wh,h7,(jB D.hg).2.1]
   | lI k ow wt=>
    obtain ⟨R,hR⟩:=zK s e4 (.inr e4.2.2.1)
    exact ⟨zZ hR (by simp only [eB,ane] at hR; subst hR; rfl),(Vp hR).1⟩
   | own k ow=>
    obtain ⟨R,hR⟩:=zK s e4 (.inl e4.2.1)
    exact ⟨zZ hR (by simp only [eB,ane] at hR; subst hR; rfl),(Vp hR).1⟩
   | fn f ks=>
    obtain ⟨h0,h1,h2,h3,h4,h5,us,h6,h7⟩:=e4
    have afa:∀(ks:List K) (c0:Cont ks) (us:List Value),Tt.Py cx Z J F w ks c0 us i.ids->lD (dQ cx Z J F w ps c is gs) (cK ps c) (jR gs) [] w (kr.xR s ks c0) us:=by
     intro ks
     induction ks with
     | nil=>intro c0 us h; cases us with
      | nil=>exact trivial
      | cons _ _=>exact h.elim
     | cons k ks ih=>intro c0 us h; cases us with
      | nil=>exact h.elim
      | cons u us=>
       obtain ⟨⟨b,o,cs,g1,g2,g3,g4⟩,g5⟩:=h
       exact ⟨hro (by simp) g1 g2 g3 g4 rfl,ih c0.2 us g5⟩
    have aaR:∀(ks:List K) (c0:Cont ks),∀q∈kr.xR s ks c0,fG (cK ps c) q.2.2:=by
     intro ks
     induction ks with
     | nil=>intro c0 q hq; simp [kr.xR] at hq
     | cons k ks ih=>
      intro c0 q hq
      rcases anq.1 hq with h | h
      ·subst h; exact Zi
      ·exact ih c0.2 q h
    exact ⟨⟨us,h6,afa ks cj us h7⟩,aaR ks cj⟩
   | into j q=>
    obtain ⟨h0,h1,h2,h3,h4,h5,b,h6⟩:=e4
    exact ⟨⟨b,h6⟩,trivial⟩
 constructor
 ·rfl
 ·exact anO _
 ·intro j pi b o n hj hb
  obtain ⟨g,p,hg,hp,hh,rfl⟩:=hpar hj
  obtain ⟨R,i,p',hr,D⟩:=hmk hg hh
  have:p'=p:=by have:=D.hq; rw [hp] at this; simpa using this.symm
  subst this
  simp only at hb
  cases hbase:g.base with
  | none=>rw [hbase] at hb; simp at hb
  | some q=>
   rw [hbase] at hb
   simp only [an1,ane,anp] at hb
   obtain ⟨rfl,rfl,rfl⟩:=hb
   rcases D.kind with ⟨hk,hs,_⟩ | ⟨_,hn,_⟩
   ·refine ⟨R,⟨hr,D.live⟩,hk, ?_,hs.symm⟩
    rw [(jB hg).1,hbase]
    rfl
   ·rw [hbase] at hn; simp at hn
 ·intro r R hr hk
  obtain ⟨j,g,i,p,rfl,D⟩:=hroot hr.1
  rcases D.kind with ⟨_,hs,_,b,o,hb,_⟩ | ⟨hk',_⟩
  ·refine ⟨j,_,vS p,rfl,Zq D, ?_⟩
   rw [(jB D.hg).1,hb]
   rfl
  ·rw [hk] at hk'; simp at hk'
 ·exact fun s=>(Zu s).1
 ·exact fun s=>(Zu s).2
 ·intro r R hr
  obtain ⟨j,g,i,p,rfl,D⟩:=hroot hr.1
  obtain ⟨a1,a2,a3⟩:=jB D.hg
  refine ⟨fun _=>?_,by rw [a2]; exact cZ D.ow,fun b o hb=>?_,by rw [D.blk]; exact hnd D,fun b hb=>?_⟩
  ·rw [a2,a3]
   have tY:=D.tags
   cases hall:(R.k.tys.all fun t=>az t R.own) with
   | true=>exact gI (dH (jw hall)) D.ow
   | false=>
    rw [hall] at tY
    refine bE (fun _ _=>rfl) (fun b hb=>?_) (fun _ _=>rfl) D.ow
    exact abf D.hi D.hq (aaT D.hi D.hq hb (fun k iQ h=>absurd h (D.akj k iQ))) (by rw [tY]; simp) (by rw [D.iQ]; simp)
  ·rw [D.wh] at hb
   obtain ⟨arr,e,lo,hi,m1,m2,m3,m4⟩:=U7 D.hg D.hq hb
   rw [a2]
   rcases D.kind with ⟨hk,hs,_⟩ | ⟨_,hn,_⟩
   ·exact ⟨m4,arr,e,lo,hi,m1,m2,by rw [<-hs]; exact m3,fun t ht=>by rw [hk] at ht; simp at ht⟩
   ·rw [hb] at hn; simp at hn
  ·rw [D.blk] at hb
   exact ⟨hlt D.hg hb, .inr ⟨j,_,Zq D,hb⟩⟩
 ·intro r R hr
  obtain ⟨j,g,i,p,rfl,D⟩:=hroot hr
  have tY:=D.tags
  refine ⟨fun t ht=>?_,oz j,fun n hn=>?_⟩
  ·rw [tY] at ht
   cases hall:(R.k.tys.all fun t=>az t R.own) with
   | true=>rw [hall] at ht; simp at ht
   | false=>rw [hall] at ht; simp only [an3,anz] at ht; subst ht; exact .inl (jo j)
  ·rw [tY] at hn
   cases hall:(R.k.tys.all fun t=>az t R.own) with
   | true=>rw [hall] at hn; simp at hn
   | false=>rw [hall] at hn; simp only [an3,anz,anp] at hn; unfold aA pO at hn; omega
 ·intro r R r' R' hr hr' hne b hb
  obtain ⟨j,g,i,p,rfl,D⟩:=hroot hr.1
  obtain ⟨j',g',i',p',rfl,D'⟩:=hroot hr'.1
  rw [D.blk] at hb
  rw [D'.blk]
  exact aff D.hg D'.hg (fun e=>hne (by rw [e])) hb
 ·intro b hb; simp at hb
 ·exact an4
 ·intro r R _ b _ h; simp at h
 ·refine ⟨rfl,rfl,rfl,anv _,fun _ _ _=>rfl,fun j pi b o n hj hb=>?_⟩
  obtain ⟨g,p,hg,hp,hh,rfl⟩:=hpar hj
  simp only at hb
  cases hbase:g.base with
  | none=>rw [hbase] at hb; simp at hb
  | some q=>
   rw [hbase] at hb
   simp only [an1,ane,anp] at hb
   obtain ⟨rfl,rfl,rfl⟩:=hb
   obtain ⟨arr,e,lo,hi,m1,_⟩:=U7 hg hp (b:=q.1) (o:=q.2) (by rw [hbase])
   exact iE.of_same _ _ m1 rfl
 ·intro j pi hj hk
  obtain ⟨g,p,hg,hp,hh,rfl⟩:=hpar hj
  obtain ⟨R,i,p',hr,D⟩:=hmk hg hh
  refine ⟨R,hr,fun _ b hb _=>.inr ⟨rfl,by simp,fun q Q hq hbq=>?_⟩⟩
  obtain ⟨j',g',i',p'',rfl,D'⟩:=hroot hq.1
  rw [D'.blk] at hbq
  by_cases e:j'=j
  ·rw [e]
  ·exact absurd hb (aff D'.hg hg e hbq)
 ·refine ⟨fun j pi hj b hb=>?_,fun b hb=>⟨?_,fun j pi hj hbl=>?_⟩,fun b hb=>H.fixed hb⟩
  ·obtain ⟨g,p,hg,hp,hh,rfl⟩:=hpar hj
   exact hlt hg hb
  ·exact an5 (H.oI.2.1 b hb).1 H.frame.2.2.2.1
  ·obtain ⟨g,p,hg,hp,hh,rfl⟩:=hpar hj
   exact H.Qz (hmn hg hbl) hb
 ·intro j q ts v hv
  obtain ⟨g,R0,c0,b,o,h1,h2,h3,h4,h5,h6,h7,h8⟩:=hv
  refine ⟨⟨b,o,h8⟩,R0,h3,fun _=>⟨⟨b,o,h8⟩,fun Q hQ _ _ _ _=>?_⟩⟩
  have hQR:=hsame (show (cK ps c).roots (aA j)=some R0 from h3) hQ
  subst hQR
  obtain ⟨g',i',p',D⟩:=abh hQ
  have:g'=g:=by have:=D.hg; rw [h1] at this; simpa using this.symm
  subst this
  refine ⟨h6,c0,b,o, ?_,h8⟩
  rw [D.wh,(jB D.hg).2.1]
  exact h7
 ·intro j v hv
  obtain ⟨g,h1,h2,h3,h4⟩:=hv
  obtain ⟨R,i,p,hr,D⟩:=hmk h1 (.inr h4)
  refine ⟨⟨R,hr⟩,fun Q hQ _=>?_⟩
  have hQR:=hsame hr hQ.1
  subst hQR
  rcases D.kind with ⟨_,_,_,b,o,hb,_⟩ | ⟨hk,_,hV⟩
  ·rw [h3] at hb; simp at hb
  ·refine ⟨hk, ?_⟩
   rw [(jB D.hg).2.1, <-h2]
   exact hV
end
end
section
open Go
variable [Fr]
def EX (cx:Cx) (Z:St) (J:dP) (F:List Nat) (w:World):(rs:List xJ)->Cont (iZ rs)->List Value->List (List Nat)->Prop
 | [],_,[],[]=>True
 | .val k exts iQ :: rs,c,v :: vs,fo :: bC=>(fo=[]/\∃T cs,(k.flat=true\/qp exts iQ T=true)/\VC k v cs/\Vw (hp w) (jc cx Z J F w T) k c.1 cs)/\EX cx Z J F w rs c.2 vs bC
 | .own k ow exts iQ :: rs,c,v :: vs,fo :: bC=>(∃T cs own,((k.tys.all fun t=>az t ow)=true\/qp exts iQ T=true)/\(∀t∈k.tys,az t ow=true->az t own=true)/\VC k v cs/\Ow (hp w) own (jc cx Z J F w T) k c.1 cs fo)/\EX cx Z J F w rs c.2 vs bC
 | .ptr t k ow exts :: rs,c,v :: vs,fo :: bC=>(∃b o T cs own dO,v=.pointer (some ⟨b,o,none⟩)/\fo=b :: dO/\((k.tys.all fun t=>az t ow)=true\/qp exts [] T=true)/\(∀t∈k.tys,az t ow=true->az t own=true)/\
   (Cells (hp w) b o cs/\∃arr e lo hi,hp w b=some (.cells arr e (lo,hi))/\zY arr.size lo hi/\o+k.size<=arr.size/\e=t)/\Ow (hp w) own (jc cx Z J F w T) k c.1 cs dO)/\EX cx Z J F w rs c.2 vs bC
 | .into j p :: rs,c,v :: vs,fo :: bC=>(fo=[]/\p=[]/\∃b n cp,v=.slice b (show Int from c.1).toNat cp/\(show Int from c.1).toNat<=n/\bN cx Z J F w (.ref (aA j) 0) (.slice b n cp))/\EX cx Z J F w rs c.2 vs bC
 | _,_,_,_=>False
def PR (Z:St) (k:K) (x:El k) (ow wt ht:List TypeId) (j:Nat):Prop:=
 ∃R,Z.roots (aA j)=some R/\bB Z R/\(∃e:R.k=k,x=e▸R.x)/\oH k R.own ow=true/\Ah R (some (wt,ht))=true/\((k.tys.all fun t=>az t ow)=true\/qp [j] [] R.tags=true)
def Cv (Z:St):(ps:List gq)->Nat->Cont (lH ps)->Prop
 | [],_,_=>True
 | .rw k ow wt ht :: ps,j,c=>PR Z k c.1 ow wt ht j/\Cv Z ps (j+1) c.2
 | .lI k ow wt :: ps,j,c=>PR Z k c.1 ow wt k.tys j/\Cv Z ps (j+1) c.2
 | .val _ _ :: ps,j,c=>Cv Z ps (j+1) c
 | .ro _ :: ps,j,c=>Cv Z ps (j+1) c
 | .own _ _ :: ps,j,c=>Cv Z ps (j+1) c
 | .fn _ _ :: ps,j,c=>Cv Z ps (j+1) c
 | .into _ _ :: ps,j,c=>Cv Z ps (j+1) c
def WJ:List Value->Value
 | [v]=>v
 | vs=>.tuple vs.toArray
def Post (cx:Cx) (ps:List gq) (rs:List xJ) (out:Cont (iZ rs++lH ps)) (v:Value) (w':World):Prop:=
 ∃Z J F a vs bC,Rel cx Z J F a w'/\v=WJ vs/\EX cx Z J F w' rs (Cont.fst _ _ out) vs bC/\bC.flatten.Nodup/\(∀b∈bC.flatten,b∈F)/\Cv Z ps 0 (Cont.snd _ _ out)
def EO (P:Program) (f:FuncId) (args:Array Value) (w:World) (R:Value->World->Prop):Prop:=
 ((callFunc f args).run P w=.ok (.enter f args) w/\Calls P f args w fun e w'=>∃v,e=.returned v/\R v w')\/∃v w',(callFunc f args).run P w=.ok (.value v) w'/\R v w'
def wN (ps:List gq) (j:Nat) (k:K):Prop:=∃ow wt ht,ps[j]?=some (.rw k ow wt ht)\/ps[j]?=some (.lI k ow wt)
structure Cw (cx:Cx) (ps:List gq):Prop where
 par:∀j pi,cx.par j=some pi->pi.kp=true->∃k,wN ps j k
 ptr:∀j p ts v,cx.ptrs j p ts v->∃k,wN ps j k/\ts=eT p k
 ref:∀j v,cx.refs j v->∃k,wN ps j k
def ak (P:Program) (n:Nat) (E:Entry):Prop:=
 ∀(c:Cont (kin E.ps)) (out:Cont (iZ E.rs++lH E.ps)),E.F n c=some out->∀(cx:Cx) (J:dP) (args:Array Value) (w:World),cx.nt=0->cx.w0=w->args.size=E.ps.length->Cw cx E.ps->
  Rel cx (cK E.ps c) J [] ⟨args,[]⟩ w->EO P E.f args w (Post cx E.ps E.rs out)
section
variable {P:Program} {T:jh} {cx:Cx} {Z:St} {J:dP} {F:List Nat} {a:Act} {w w':World} {ps:List gq} {c:Cont (kin ps)} {vs:List Value} {is:List dz} {gs:List GA}
structure Ak (Z:St) (J:dP) (is:List dz) (gs:List GA) (Bl:St) (yA:dP) (Ff:List Nat) (Z':St) (J':dP) (F':List Nat):Prop where
 blk:∀q Q b,aQ Z' q Q->b∈blk J' Q q->b∈Ff\/(∃Q0,aQ Z q Q0/\b∈Ow.blk J Q0 q/\∀(m:Nat) (g:GA),gs[m]?=some g->b∉g.fo)\/
  ∃(m:Nat) (i:dz) (R:Root) (u:List Stp×List TypeId×List TypeId),is[m]?=some i/\i.wb=some (q,u)/\aQ Bl (aA m) R/\b∈Ow.blk yA R (aA m)
 F:∀b∈F',b∈Ff
theorem rU (H:Rel cx Z J F a w) (hJ:WR cx Z J F a w ps c vs is gs) {j:Nat} {pi:Q6} (h:(dQ cx Z J F w ps c is gs).par j=some pi):∃g p cj v i,gs[j]?=some g/\ps[j]?=some p/\is[j]?=some i/\Tt cx Z J F a w p cj v i g/\(g.ow=true\/g.wb=true)/\pi=⟨g.base.map fun q=>(q.1,q.2,vS p),iG g,g.wb⟩:=by
 obtain ⟨lv,li,lg,hat⟩:=hJ.at (i0:=0)
 simp only [dQ] at h
 cases hgm:gs[j]? with
 | none=>rw [hgm] at h; simp at h
 | some g=>
  cases hpm:ps[j]? with
  | none=>rw [hgm,hpm] at h; simp at h
  | some pm=>
   rw [hgm,hpm] at h
   simp only at h
   cases hh:(g.ow || g.wb) with
   | false=>rw [hh] at h; simp at h
   | true=>
    rw [hh] at h
    simp only [an0,ane] at h
    obtain ⟨cj,v,i,g',e1,e2,e3,e4,_⟩:=hat j pm hpm
    rw [hgm] at e3
    simp only [ane] at e3
    subst e3
    exact ⟨g,pm,cj,v,i,rfl,rfl,e2,e4,by simpa using hh,h.symm⟩
theorem Iq (H:Rel cx Z J F a w) (hJ:WR cx Z J F a w ps c vs is gs):Cw (dQ cx Z J F w ps c is gs) ps:=by
 obtain ⟨lv,li,lg,hat⟩:=hJ.at (i0:=0)
 simp only [anY] at hat
 have Qf:∀{j:Nat} {g:GA},gs[j]?=some g->g.wb=true->∃p cj,ps[j]?=some p/\gZ (gX ps 0 c) (aA j)=eB p j cj/\((∃k ow wt ht,p=.rw k ow wt ht)\/∃k ow wt,p=.lI k ow wt):=by
  intro j g hg hw
  have hj:j<ps.length:=by have:=(anZ.1 hg).1; omega
  obtain ⟨cj,v,i,g',e1,e2,e3,e4,e5,e6⟩:=hat j ps[j] (ant hj)
  rw [hg] at e3
  simp only [ane] at e3
  subst e3
  refine ⟨ps[j],cj,ant hj,e6, ?_⟩
  obtain ⟨k,x,ow,wt,ht,r,R,q,wh,h,_⟩:=WQ e4 hw
  rcases h with ⟨h,_⟩ | ⟨h,_⟩
  ·exact .inl ⟨k,ow,wt,ht,h⟩
  ·exact .inr ⟨k,ow,wt,h⟩
 have hk:∀{j:Nat} {g:GA},gs[j]?=some g->g.wb=true->∃k,wN ps j k/\∃R0,gZ (gX ps 0 c) (aA j)=some R0/\R0.k=k:=by
  intro j g hg hw
  obtain ⟨p,cj,h1,h2,h3⟩:=Qf hg hw
  rcases h3 with ⟨k,ow,wt,ht,rfl⟩ | ⟨k,ow,wt,rfl⟩
  ·exact ⟨k,⟨ow,wt,ht, .inl h1⟩,_,h2,rfl⟩
  ·exact ⟨k,⟨ow,wt,[], .inr h1⟩,_,h2,rfl⟩
 refine ⟨fun j pi hj hkp=>?_,fun j q ts v hv=>?_,fun j v hv=>?_⟩
 ·obtain ⟨g,p,cj,v,i,e1,e2,e3,e4,e5,rfl⟩:=rU H hJ hj
  obtain ⟨k,h,_⟩:=hk e1 hkp
  exact ⟨k,h⟩
 ·obtain ⟨g,R0,c0,b,o,h1,h2,h3,h4,_⟩:=hv
  obtain ⟨k,h,R1,h5,h6⟩:=hk h1 h2
  rw [h3] at h5
  simp only [ane] at h5
  subst h5
  exact ⟨k,h,by rw [h4,h6]⟩
 ·obtain ⟨g,h1,_,_,h2⟩:=hv
  obtain ⟨k,h,_⟩:=hk h1 h2
  exact ⟨k,h⟩
theorem KG (H:Rel cx Z J F a w) (hJ:WR cx Z J F a w ps c vs is gs) {Bl:St} {yA:dP} {Ff:List Nat} {af:Act} (Hf:Rel (dQ cx Z J F w ps c is gs) Bl yA Ff af w') {Z':St} {J':dP} {F':List Nat}
  (B:Ak Z J is gs Bl yA Ff Z' J' F') {Tg U:List Tag} (hU1:∀j n,(pO j,n)∈Tg->∀i,is[j]?=some i->∀t∈i.ids,∃n',(t.1,n')∈U) (hU2:∀m n,(aA m,n)∈Tg->∀i q,is[m]?=some i->i.wb=some q->∃n',(q.1,n')∈U)
  {b:Nat} (hb:jc (dQ cx Z J F w ps c is gs) Bl yA Ff w' Tg b):jc cx Z' J' F' w' U b:=by
 obtain ⟨hb1,hb2,hb3,hb4,hb5⟩:=hb
 have hcl:w.heap.size<=b\/(b<w.heap.size/\∃j n i,(pO j,n)∈Tg/\is[j]?=some i/\jc cx Z J F w i.ids b)\/(b<w.heap.size/\∃(j:Nat) (g:GA),gs[j]?=some g/\b∈g.fo/\((g.ow=true/\b∈F)\/(g.wb=true/\∃r R,aQ Z r R/\b∈J.fo r))):=by
  by_cases hlt:b<w.heap.size
  ·refine .inr ?_
   rcases hb5 hlt with ⟨j,n,h1,⟨i,h2,h3⟩,_⟩ | ⟨j,pi,h1,h2⟩
   ·exact .inl ⟨hlt,j,n,i,h1,h2,h3⟩
   ·refine .inr ⟨hlt, ?_⟩
    obtain ⟨g,p,cj,v,i,e1,e2,e3,e4,e5,rfl⟩:=rU H hJ h1
    simp only at h2
    have hfo:b∈g.fo:=by
     unfold iG at h2
     cases hbase:g.base with
     | none=>rw [hbase] at h2; simpa using h2
     | some q=>
      rw [hbase] at h2
      simp only [anW,anX,anq] at h2
      rcases h2 with h2 | h2
      ·exact absurd ⟨j,_,q.2,vS p,h1,by rw [hbase,h2]; rfl⟩ hb3
      ·exact h2
    refine ⟨j,g,e1,hfo, ?_⟩
    rcases (nS H e4).1 b (by unfold iG; exact ang _ hfo) with h | ⟨h,_⟩
    ·exact .inl h
    ·obtain ⟨r,R,q,_,f2,f3⟩:=(nS H e4).2.2.1 b hfo h
     exact .inr ⟨h,r,R,f2,f3⟩
  ·exact .inl (Nat.le_of_not_lt hlt)
 refine ⟨hb1,fun h=>hb2 (B.F b h), ?_, ?_, ?_⟩
 ·intro hbase
  have hlt:b<w.heap.size:=by
   obtain ⟨j,pi,o,n,h1,h2⟩:=hbase
   obtain ⟨Q,hQ,hk,hl,_⟩:=H.mE j pi b o n h1 h2
   exact ((H.roots _ _ hQ).mine b (by simp [Ow.blk,dY,hk,hl])).1
  rcases hcl with h | ⟨_,j,n,i,_,_,h⟩ | ⟨_,j,g,h1,h2,h⟩
  ·omega
  ·exact h.2.2.1 hbase
  ·rcases h with ⟨_,h⟩ | ⟨_,r,R,h3,h4⟩
   ·exact rO H h hbase
   ·exact oq H h3 h4 hbase
 ·intro q Q hq hbq
  rcases B.blk q Q b hq hbq with h | ⟨Q0,h1,h2,h3⟩ | ⟨m,i,R,u,h1,h2,h3,h4⟩
  ·exact absurd h hb2
  ·have hlt:=((H.roots q Q0 h1).mine b h2).1
   rcases hcl with h | ⟨_,j,n,i,g1,g2,g3⟩ | ⟨_,j,g,g1,g2,_⟩
   ·omega
   ·obtain ⟨n',hn'⟩:=g3.2.2.2.1 q Q0 h1 h2
    exact hU1 j n g1 i g2 _ hn'
   ·exact absurd g2 (h3 j g g1)
  ·obtain ⟨n,hn⟩:=hb4 (aA m) R h3 h4
   exact hU2 m n hn i _ h1 h2
 ·intro h0
  have hlt:b<w.heap.size:=an5 h0 H.frame.2.2.2.1
  have ko:Ow.mine cx w b->(∃j n,(pO j,n)∈U/\cx.ext j b)\/∃j pi,cx.par j=some pi/\b∈pi.bl:=fun hm=>by
   rcases hm.2 with h | ⟨j,pi,h1,h2⟩
   ·omega
   ·exact .inr ⟨j,pi,h1,h2⟩
  rcases hcl with h | ⟨_,j,n,i,g1,g2,g3⟩ | ⟨_,j,g,g1,g2,g3⟩
  ·omega
  ·rcases g3.2.2.2.2 h0 with ⟨j',n',f1,f2⟩ | h
   ·obtain ⟨n2,hn2⟩:=hU1 j n g1 i g2 _ f1
    exact .inl ⟨j',n2,hn2,f2⟩
   ·exact .inr h
  ·rcases g3 with ⟨_,h⟩ | ⟨_,r,R,h3,h4⟩
   ·exact ko (H.fl b h)
   ·exact ko ((H.roots r R h3).mine b (ang _ h4))
end
end
section
open Go
variable [Fr]
def u6 (Z:St):(ps:List gq)->List dz->Cont (lH ps)->List Wr->Prop
 | [],[],_,ws=>ws=[]
 | .rw k _ _ _ :: ps,i :: is,c,ws=>∃r p wt ht R z ws',i.wb=some (r,p,wt,ht)/\Z.roots r=some R/\eF p R.k R.x ⟨k,c.1⟩=some z/\ws=.r r (some { R with k:=z.1,x:=z.2,w:=(eO R p :: wt)++R.w,h:=ht++R.h }) :: ws'/\u6 Z ps is c.2 ws'
 | .lI k _ _ :: ps,i :: is,c,ws=>∃r p wt ht R z ws',i.wb=some (r,p,wt,ht)/\Z.roots r=some R/\eF p R.k R.x ⟨k,c.1⟩=some z/\ws=.r r (some { R with k:=z.1,x:=z.2,w:=(SENT :: (k.tys++wt))++R.w,h:=ht++R.h }) :: ws'/\u6 Z ps is c.2 ws'
 | .val _ _ :: ps,_ :: is,c,ws=>u6 Z ps is c ws
 | .ro _ :: ps,_ :: is,c,ws=>u6 Z ps is c ws
 | .own _ _ :: ps,_ :: is,c,ws=>u6 Z ps is c ws
 | .fn _ _ :: ps,_ :: is,c,ws=>u6 Z ps is c ws
 | .into _ _ :: ps,_ :: is,c,ws=>u6 Z ps is c ws
 | _,_,_,_=>False
theorem Rm {A:Type} {z:A} {Z:St}:∀{ps:List gq} {is:List dz} {c:Cont (lH ps)} {k:List Wr->Prog A},(Fp ps is c k).ends Z z->∃ws,u6 Z ps is c ws/\(k ws).ends Z z:=by
 intro ps
 induction ps with
 | nil=>
  intro is c k h
  cases is with
  | nil=>exact ⟨[],rfl,h⟩
  | cons _ _=>exact h.elim
 | cons p ps ih=>
  intro is c k h
  cases is with
  | nil=>cases p <;> exact h.elim
  | cons i is=>
   cases p with
   | rw kk ow WZ ht0=>
    obtain ⟨ids,wb,ws0,bt⟩:=i
    cases wb with
    | none=>exact h.elim
    | some q=>
     obtain ⟨r,p,wt,ht⟩:=q
     simp only [Fp,Prog.ends] at h
     cases hr:Z.roots r with
     | none=>rw [hr] at h; exact h.elim
     | some R=>
      rw [hr] at h
      simp only at h
      cases hz:eF p R.k R.x ⟨kk,c.1⟩ with
      | none=>rw [hz] at h; exact h.elim
      | some z=>
       rw [hz] at h
       obtain ⟨ws,g1,g2⟩:=ih h
       exact ⟨_,⟨r,p,wt,ht,R,z,ws,rfl,hr,hz,rfl,g1⟩,g2⟩
   | lI kk ow WZ=>
    obtain ⟨ids,wb,ws0,bt⟩:=i
    cases wb with
    | none=>exact h.elim
    | some q=>
     obtain ⟨r,p,wt,ht⟩:=q
     simp only [Fp,Prog.ends] at h
     cases hr:Z.roots r with
     | none=>rw [hr] at h; exact h.elim
     | some R=>
      rw [hr] at h
      simp only at h
      cases hz:eF p R.k R.x ⟨kk,c.1⟩ with
      | none=>rw [hz] at h; exact h.elim
      | some z=>
       rw [hz] at h
       obtain ⟨ws,g1,g2⟩:=ih h
       exact ⟨_,⟨r,p,wt,ht,R,z,ws,rfl,hr,hz,rfl,g1⟩,g2⟩
   | val _ _=>exact ih h
   | ro _=>exact ih h
   | own _ _=>exact ih h
   | fn _ _=>exact ih h
   | into _ _=>exact ih h
theorem IP {Z:St}:∀{ps:List gq} {is:List dz} {c:Cont (lH ps)} {ws:List Wr},(∀i∈is,i.wb=none)->u6 Z ps is c ws->ws=[]:=by
 intro ps
 induction ps with
 | nil=>
  intro is c ws _ h
  cases is with
  | nil=>exact h
  | cons _ _=>exact h.elim
 | cons p ps ih=>
  intro is c ws hn h
  cases is with
  | nil=>cases p <;> exact h.elim
  | cons i is=>
   have hn':∀i∈is,i.wb=none:=fun i hi=>hn i (by simp [hi])
   have h0:=hn i (by simp)
   cases p with
   | rw kk ow WZ ht0=>obtain ⟨r,p,wt,ht,R,z,ws',h1,_⟩:=h; rw [h0] at h1; simp at h1
   | lI kk ow WZ=>obtain ⟨r,p,wt,ht,R,z,ws',h1,_⟩:=h; rw [h0] at h1; simp at h1
   | val _ _=>exact ih hn' h
   | ro _=>exact ih hn' h
   | own _ _=>exact ih hn' h
   | fn _ _=>exact ih hn' h
   | into _ _=>exact ih hn' h
theorem vO {i:dz} {is:List dz} (h:BU (i :: is)=true):(i.wb=none/\BU is=true)\/(i.wb≠none/\∀i'∈is,i'.wb=none):=by
 unfold BU at h
 cases hw:i.wb with
 | none=>rw [hw] at h; exact .inl ⟨rfl,h⟩
 | some q=>
  rw [hw] at h
  refine .inr ⟨by simp,fun i' hi=>?_⟩
  have:=anu.1 h i' hi
  cases hw':i'.wb with
  | none=>rfl
  | some _=>rw [hw'] at this; simp at this
theorem NP {Z Bl:St}:∀{ps:List gq} {is:List dz} {c:Cont (lH ps)} {ws:List Wr} {j0:Nat},BU is=true->(∀(m:Nat) (p:gq) (i:dz),ps[m]?=some p->is[m]?=some i->(∀k ow wt ht,p≠.rw k ow wt ht)->(∀k ow wt,p≠.lI k ow wt)->i.wb=none)->
  u6 Z ps is c ws->Cv Bl ps j0 c->(ws=[]/\∀i∈is,i.wb=none)\/
  ∃(j:Nat) (i:dz) (k:K) (x:El k) (ow wt ht:List TypeId) (r:Nat) (p:List Stp) (R:Root) (z:Dat) (rE ht':List TypeId),is[j]?=some i/\i.wb=some (r,p,rE,ht')/\Z.roots r=some R/\eF p R.k R.x ⟨k,x⟩=some z/\PR Bl k x ow wt ht (j0+j)/\(∀(m:Nat) (i':dz),m≠j->is[m]?=some i'->i'.wb=none)/\
   ((ps[j]?=some (.rw k ow wt ht)/\ws=[.r r (some { R with k:=z.1,x:=z.2,w:=(eO R p :: rE)++R.w,h:=ht'++R.h })])\/(ps[j]?=some (.lI k ow wt)/\ht=k.tys/\ws=[.r r (some { R with k:=z.1,x:=z.2,w:=(SENT :: (k.tys++rE))++R.w,h:=ht'++R.h })])):=by
 intro ps
 induction ps with
 | nil=>
  intro is c ws j0 _ _ hB _
  cases is with
  | nil=>exact .inl ⟨hB,by simp⟩
  | cons _ _=>exact hB.elim
 | cons p ps ih=>
  intro is c ws j0 h1 hal hB hO
  cases is with
  | nil=>cases p <;> exact hB.elim
  | cons i is=>
   have aju:∀(m:Nat) (p:gq) (i:dz),ps[m]?=some p->is[m]?=some i->(∀k ow wt ht,p≠.rw k ow wt ht)->(∀k ow wt,p≠.lI k ow wt)->i.wb=none:=fun m p i hp hi=>hal (m+1) p i (by simpa using hp) (by simpa using hi)
   have hrest:∀{c':Cont (lH ps)} {ws':List Wr},i.wb=none->u6 Z ps is c' ws'->Cv Bl ps (j0+1) c'->(ws'=[]/\∀i'∈i :: is,i'.wb=none)\/
     ∃(j:Nat) (i':dz) (k:K) (x:El k) (ow wt ht:List TypeId) (r:Nat) (q:List Stp) (R:Root) (z:Dat) (rE ht':List TypeId),(i :: is)[j]?=some i'/\i'.wb=some (r,q,rE,ht')/\Z.roots r=some R/\eF q R.k R.x ⟨k,x⟩=some z/\PR Bl k x ow wt ht (j0+j)/\(∀(m:Nat) (i'':dz),m≠j->(i :: is)[m]?=some i''->i''.wb=none)/\
      (((p :: ps)[j]?=some (.rw k ow wt ht)/\ws'=[.r r (some { R with k:=z.1,x:=z.2,w:=(eO R q :: rE)++R.w,h:=ht'++R.h })])\/((p :: ps)[j]?=some (.lI k ow wt)/\ht=k.tys/\ws'=[.r r (some { R with k:=z.1,x:=z.2,w:=(SENT :: (k.tys++rE))++R.w,h:=ht'++R.h })])):=by
    intro c' ws' hw hB hO
    have ho:BU is=true:=by
     rcases vO h1 with ⟨_,h⟩ | ⟨h,_⟩
     ·exact h
     ·exact absurd hw h
    rcases ih ho aju hB hO with ⟨e,h⟩ | ⟨j,i',k,x,ow,wt,ht,r,q,R,z,rE,ht',e1,e2,e3,e4,e5,e6,e7⟩
    ·refine .inl ⟨e,fun i' hi=>?_⟩
     rcases anq.1 hi with h' | h'
     ·subst h'; exact hw
     ·exact h i' h'
    ·refine .inr ⟨j+1,i',k,x,ow,wt,ht,r,q,R,z,rE,ht',by simpa using e1,e2,e3,e4,by rw [show j0+(j+1)=j0+1+j by omega]; exact e5,fun m i'' hm hi=>?_,by simpa using e7⟩
     cases m with
     | zero=>simp only [anU,ane] at hi; subst hi; exact hw
     | succ m=>exact e6 m i'' (by omega) (by simpa using hi)
   have hnw:∀{rE:Option (Nat×List Stp×List TypeId×List TypeId)},i.wb=rE->rE≠none->∀i'∈is,i'.wb=none:=by
    intro rE he hne
    rcases vO h1 with ⟨h,_⟩ | ⟨_,h⟩
    ·rw [he] at h; exact absurd h hne
    ·exact h
   cases p with
   | rw kk ow WZ ht0=>
    obtain ⟨r,q,wt,ht,R,z,ws',g1,g2,g3,g4,g5⟩:=hB
    have hn:=hnw g1 (by simp)
    have:=IP hn g5
    subst this
    refine .inr ⟨0,i,kk,c.1,ow,WZ,ht0,r,q,R,z,wt,ht,rfl,g1,g2,g3,hO.1,fun m i' hm hi=>?_, .inl ⟨rfl,g4⟩⟩
    cases m with
    | zero=>exact absurd rfl hm
    | succ m=>exact hn i' (anV (by simpa using hi))
   | lI kk ow WZ=>
    obtain ⟨r,q,wt,ht,R,z,ws',g1,g2,g3,g4,g5⟩:=hB
    have hn:=hnw g1 (by simp)
    have:=IP hn g5
    subst this
    refine .inr ⟨0,i,kk,c.1,ow,WZ,kk.tys,r,q,R,z,wt,ht,rfl,g1,g2,g3,hO.1,fun m i' hm hi=>?_, .inr ⟨rfl,rfl,g4⟩⟩
    cases m with
    | zero=>exact absurd rfl hm
    | succ m=>exact hn i' (anV (by simpa using hi))
   | val k iQ=>exact hrest (hal 0 _ i rfl rfl (by simp) (by simp)) hB hO
   | ro k=>exact hrest (hal 0 _ i rfl rfl (by simp) (by simp)) hB hO
   | own k ow=>exact hrest (hal 0 _ i rfl rfl (by simp) (by simp)) hB hO
   | fn f ks=>exact hrest (hal 0 _ i rfl rfl (by simp) (by simp)) hB hO
   | into j q=>exact hrest (hal 0 _ i rfl rfl (by simp) (by simp)) hB hO
end
section
open Go
variable [Fr]
section
variable {P:Program} {T:jh} {cx:Cx} {Z:St} {J:dP} {F:List Nat} {a:Act} {w w':World} {ps:List gq} {c:Cont (kin ps)} {vs:List Value} {is:List dz} {gs:List GA}
theorem kD {l m:List Nat}:mY l m=true↔∀t∈l,t∈m:=by
 unfold mY
 rw [anu]
 simp [aM]
theorem Qx (h:Heap):∀(q:List Stp) {k:K} {cs:List Value} {wh:Option (Nat×Nat)} {c0:List Value} {w0:Option (Nat×Nat)},ah q k≠[]->bH h q k cs wh=some (c0,w0)->(∀nG,bH h q k cs nG=some (c0,w0))/\∃b o,w0=some (b,o):=by
 intro q
 induction q with
 | nil=>intro k cs wh c0 w0 h1; simp [ah] at h1
 | cons s q ih=>
  intro k cs wh c0 w0 h1 h2
  cases s with
  | gu n=>
   cases k with
   | st c=>
    simp only [bH] at h2 ⊢
    cases ho:bG n c with
    | none=>rw [ho] at h2; simp at h2
    | some p=>
     obtain ⟨off,k'⟩:=p
     rw [ho] at h2
     simp only at h2 ⊢
     have hk:ah.Eo n c=some k':=by
      have:∀(n:Nat) {c:K} {off:Nat} {k':K},bG n c=some (off,k')->ah.Eo n c=some k':=by
       intro n
       induction n with
       | zero=>intro c off k' h; cases c <;> simp_all [bG,ah.Eo]
       | succ n ih=>
        intro c off k' h
        cases c with
        | pair a b=>
         simp only [bG] at h
         cases h5:bG n b with
         | none=>rw [h5] at h; simp at h
         | some q=>
          rw [h5] at h
          simp only [ane,anp] at h
          simp only [ah.Eo]
          exact ih (by rw [h5, <-h.2])
        | _=>simp [bG] at h
      exact this n ho
     have hpt:ah (.gu n :: q) (.st c)=ah q k':=by simp [ah,hk]
     rw [hpt] at h1
     obtain ⟨g1,g2⟩:=ih h1 h2
     exact ⟨fun nG=>g1 _,g2⟩
   | _=>simp [bH] at h2
  | idx i=>
   cases k with
   | sl e k=>
    simp only [bH] at h2 ⊢
    split at h2
    ·rename_i ad _ _
     refine ⟨fun nG=>h2, ?_⟩
     have key:∀(q:List Stp) {k:K} {cs:List Value} {p:Nat×Nat} {c0:List Value} {w0:Option (Nat×Nat)},bH h q k cs (some p)=some (c0,w0)->∃b o,w0=some (b,o):=by
      intro q
      induction q with
      | nil=>intro k cs p c0 w0 h; simp only [bH,ane,anp] at h; exact ⟨p.1,p.2,h.2.symm⟩
      | cons s q ih=>
       intro k cs p c0 w0 h
       cases s with
       | gu n=>
        cases k with
        | st c=>
         simp only [bH] at h
         cases ho:bG n c with
         | none=>rw [ho] at h; simp at h
         | some q2=>rw [ho] at h; exact ih h
        | _=>simp [bH] at h
       | idx i=>
        cases k with
        | sl e k=>
         simp only [bH] at h
         split at h
         ·exact ih h
         ·simp at h
        | _=>simp [bH] at h
     exact key q h2
    ·simp at h2
   | _=>simp [bH] at h2
theorem Bt (H:Rel cx Z J F a w) {Bl:St} {yA:dP} {Ff G:List Nat} {r j:Nat} {R Rf R':Root} {i:dz} {u:List Stp×List TypeId×List TypeId} {g:GA} {rest:List Nat} {Bj:dP} {lw lh:List Nat} (hr:aQ Z r R) (hi:is[j]?=some i) (hw:i.wb=some (r,u)) (hlf:aQ Bl (aA j) Rf)
  (hg:gs[j]?=some g) (hpr:(J.fo r).Perm (g.fo++rest)) (hoth:∀(m:Nat) (gm:GA),m≠j->gs[m]?=some gm->∀b∈gm.fo,b∈F)
  (T:nA cx Z J F w (au Z r R') Bj G w' (sj r lw) (sj r lh)) (hblk:∀b∈Ow.blk Bj R' r,(∃o,dY J R r=some (b,o))\/b∈yA.fo (aA j)\/b∈rest) (hG:∀b∈G,b∈Ff):Ak Z J is gs Bl yA Ff (au Z r R') Bj G:=by
 have hK:=H.roots r R hr
 have R9:=hK.nd
 rw [bX,nD] at R9
 have Mj:=anl.1 (hpr.nodup R9.2)
 have aba:∀{q:Nat} {Q:Root} {b:Nat},aQ Z q Q->b∈Ow.blk J Q q->b∉g.fo->∀(m:Nat) (gm:GA),gs[m]?=some gm->b∉gm.fo:=by
  intro q Q b hq hb hno m gm hm U7
  by_cases e:m=j
  ·subst e
   rw [hg] at hm
   simp only [ane] at hm
   subst hm
   exact hno U7
  ·exact H.iY q Q hq b hb (hoth m gm e hm b U7)
 refine ⟨fun q Q b hq hb=>?_,hG⟩
 by_cases e:q=r
 ·subst e
  obtain ⟨rfl,_⟩:=eP hq
  rcases hblk b hb with ⟨o,h⟩ | h | h
  ·have hbb:b∈Ow.blk J R q:=by rw [bX,dX]; exact .inl ⟨o,h⟩
   exact .inr (.inl ⟨R,hr,hbb,aba hr hbb (fun h'=>R9.1 b o h (hpr.mem_iff.2 (anj _ h')))⟩)
  ·exact .inr (.inr ⟨j,i,Rf,u,hi,hw,hlf,ang _ h⟩)
  ·have hbb:b∈Ow.blk J R q:=ang _ (hpr.mem_iff.2 (ang _ h))
   exact .inr (.inl ⟨R,hr,hbb,aba hr hbb (fun h'=>Mj.2.2 b h' b h rfl)⟩)
 ·have hq':=(Gt e).1 hq
  obtain ⟨Q2,g1,g2⟩:=T.old q Q hq'.1
  have hS:Same Z J (au Z r R') Bj q:=by
   refine anC fun hns=>?_
   rw [bP Z R' e,hq'.1] at g1
   simp only [ane] at g1
   subst g1
   rcases g2 with ⟨h1,_⟩ | ⟨_,h2⟩
   ·rw [hq'.2] at h1; simp at h1
   ·rcases h2.2.2.2.2.2.2 with h3 | ⟨_,_,h3⟩
    ·rw [qd _ e,qd _ e] at h3; simp at h3
    ·exact hns h3
  rw [hS.blk] at hb
  refine .inr (.inl ⟨Q,hq',hb,aba hq' hb (fun h'=>?_)⟩)
  exact H.EK r R q Q hr hq' (Ne.symm e) b (ang _ (hpr.mem_iff.2 (anj _ h'))) hb
theorem Yo:∀(p:List Stp) {k:K} {x:El k} {t z:Dat},mG p k x->eF p k x t=some z->aR p z.1 z.2=some t/\mG p z.1 z.2/\ah p z.1=ah p k:=by
 intro p
 induction p with
 | nil=>
  intro k x t z _ hz
  simp only [eF,ane] at hz
  subst hz
  exact ⟨rfl,trivial,rfl⟩
 | cons s p ih=>
  intro k x t z hp hz
  cases s with
  | gu n=>
   cases k with
   | st c=>
    simp only [eF] at hz
    simp only [mG] at hp
    cases hg:aP n c x with
    | none=>rw [hg] at hz; simp at hz
    | some s=>
     rw [hg] at hz hp
     simp only at hz hp
     cases hs:eF p s.1 s.2 t with
     | none=>rw [hs] at hz; simp at hz
     | some u=>
      rw [hs] at hz
      simp only at hz
      cases hcp:dm n c x u with
      | none=>rw [hcp] at hz; simp at hz
      | some y=>
       rw [hcp] at hz
       simp only [ane] at hz
       subst hz
       obtain ⟨h1,h2,h3⟩:=ih hp hs
       have hg2:=xk n hcp
       refine ⟨?_, ?_, ?_⟩
       ·show aR (.gu n :: p) (.st y.1) y.2=some t
        simp only [aR,hg2]
        exact h1
       ·show mG (.gu n :: p) (.st y.1) y.2
        simp only [mG,hg2]
        exact h2
       ·show ah (.gu n :: p) (.st y.1)=_
        simp only [ah,cB n hg2,cB n hg]
        exact h3
   | _=>exact hp.elim
  | idx i=>
   cases k with
   | sl e k=>
    simp only [eF] at hz
    obtain ⟨hp0,hp1,hp2⟩:=hp
    cases hs:eF p k ((show List (El k) from x).getD i.toNat k.zero) t with
    | none=>rw [hs] at hz; simp at hz
    | some u=>
     rw [hs] at hz
     simp only at hz
     cases hc:bQ u.1 k u.2 with
     | none=>rw [hc] at hz; simp at hz
     | some y=>
      rw [hc] at hz
      simp only [ane] at hz
      subst hz
      obtain ⟨ek,ey⟩:=bF hc
      obtain ⟨uk,ux⟩:=u
      simp only at ek
      subst ek
      simp only at ey
      subst ey
      obtain ⟨h1,h2,h3⟩:=ih hp2 hs
      have hlt:i.toNat < @List.length (El uk) x:=by
       have:i<((@List.length (El uk) x:Nat):Int):=hp1
       omega
      have hgd:(show List (El uk) from (show List (El uk) from x).set i.toNat y).getD i.toNat uk.zero=y:=by
       have hl2:i.toNat<(@List.set (El uk) x i.toNat y).length:=by rw [List.length_set]; exact hlt
       exact (dh hl2).trans (List.getElem_set_self hl2)
      refine ⟨?_,⟨hp0, ?_, ?_⟩, ?_⟩
      ·simp only [aR]
       rw [hgd]
       exact h1
      ·have:i<((@List.length (El uk) x:Nat):Int):=hp1
       simpa using this
      ·rw [hgd]
       exact h2
      ·rfl
   | _=>exact hp.elim
theorem NQ (H:Rel cx Z J F a w) (hJ:WR cx Z J F a w ps c vs is gs) (ho:BU is=true) {Bl:St} {yA:dP} {Ff:List Nat} {af:Act} (Hf:Rel (dQ cx Z J F w ps c is gs) Bl yA Ff af w')
  {c':Cont (lH ps)} {ws:List Wr} (hB:u6 Z ps is c' ws) (hO:Cv Bl ps 0 c') {G:List Nat} (hG:∀b∈G,b∈Ff) (hGn:G.Nodup) :
  ∃Bj,Rel cx (aB ws Z) Bj G a w'/\Ak Z J is gs Bl yA Ff (aB ws Z) Bj G/\(aB ws Z).slots=Z.slots/\(∀q,Z.roots q=none->(aB ws Z).roots q=none)/\(∀t,Cj Z t->Cj (aB ws Z) t)/\(ws=[]\/∃r R,ws=[.r r (some R)])/\
   ∀(j:Nat) (i:dz) (r:Nat) (q:List Stp) (wt ht:List TypeId),qh∉ht->is[j]?=some i->i.wb=some (r,q,wt,ht)->∃Rf R' R,Bl.roots (aA j)=some Rf/\bB Bl Rf/\Rf.g=0/\ws=[.r r (some R')]/\Z.roots r=some R/\mG q R'.k R'.x/\(∀t∈ah q R'.k,az t R'.own=true)/\
    (bB (aB ws Z) R'->∃wh,bH (hp w') q R'.k (Bj.hdr r) (dY Bj R' r)=some (yA.hdr (aA j),wh)):=by
 obtain ⟨lv,li,lg,hat⟩:=hJ.at (i0:=0)
 simp only [anY] at hat
 obtain ⟨f1,f2,f3,f4,f5,f6⟩:=Hf.frame
 have hgj:∀{j:Nat} {g:GA},gs[j]?=some g->∃p cj v i,ps[j]?=some p/\vs[j]?=some v/\is[j]?=some i/\Tt cx Z J F a w p cj v i g:=by
  intro j g hg
  have hj:j<ps.length:=by have:=(anZ.1 hg).1; omega
  obtain ⟨cj,v,i,g',e1,e2,e3,e4,_⟩:=hat j ps[j] (ant hj)
  rw [hg] at e3
  simp only [ane] at e3
  subst e3
  exact ⟨ps[j],cj,v,i,ant hj,e1,e2,e4⟩
 have BH:∀b,b<w.heap.size->hp w' b≠hp w b->∃(j:Nat) (g:GA),gs[j]?=some g/\b∈iG g/\(g.ow=true\/g.wb=true):=by
  intro b hb hne
  refine anC fun hno=>hne (f5 b hb fun j pi hj hbl=>?_)
  obtain ⟨g,p,cj,v,i,e1,e2,e3,e4,e5,rfl⟩:=rU H hJ hj
  exact hno ⟨j,g,e1,hbl,e5⟩
 have ko:∀b∈Ff,b<w'.heap.size/\(w.heap.size<=b\/∃(j:Nat) (g:GA),gs[j]?=some g/\b∈iG g/\(g.ow=true\/g.wb=true)):=by
  intro b hb
  obtain ⟨h1,h2⟩:=Hf.fl b hb
  refine ⟨h1,h2.imp id ?_⟩
  rintro ⟨j,pi,h3,h4⟩
  obtain ⟨g,p,cj,v,i,e1,e2,e3,e4,e5,rfl⟩:=rU H hJ h3
  exact ⟨j,g,e1,h4,e5⟩
 have hal:∀(m:Nat) (p:gq) (i:dz),ps[m]?=some p->is[m]?=some i->(∀k ow wt ht,p≠.rw k ow wt ht)->(∀k ow wt,p≠.lI k ow wt)->i.wb=none:=by
  intro m p i hp hi h1 h2
  obtain ⟨cj,v,i',g,e1,e2,e3,e4,_⟩:=hat m p hp
  rw [hi] at e2
  simp only [ane] at e2
  subst e2
  obtain ⟨_,e4⟩:=e4
  cases p with
  | val k iQ=>exact e4.2.2.1
  | ro k=>exact e4.2.2.1
  | own k ow=>exact e4.2.2.1
  | fn f ks=>exact e4.2.2.1
  | rw k ow wt ht=>exact absurd rfl (h1 k ow wt ht)
  | lI k ow wt=>exact absurd rfl (h2 k ow wt)
  | into j q=>exact e4.2.2.1
 have Si:∀{m:Nat} {g:GA} {i:dz},gs[m]?=some g->is[m]?=some i->i.wb=none->g.wb=false:=by
  intro m g i hg hi hn
  obtain ⟨p,cj,v,i',e1,e2,e3,e4⟩:=hgj hg
  rw [hi] at e3
  simp only [ane] at e3
  subst e3
  cases hw:g.wb with
  | false=>rfl
  | true=>exact absurd hn ((nS H e4).2.2.2.1 hw)
 have Gl:∀{m:Nat} {g:GA} {b:Nat},gs[m]?=some g->g.wb=false->b∈iG g->b∈F:=by
  intro m g b hg hw hb
  obtain ⟨p,cj,v,i,e1,e2,e3,e4⟩:=hgj hg
  rcases (nS H e4).1 b hb with ⟨_,h⟩ | ⟨h,_⟩
  ·exact h
  ·rw [hw] at h; simp at h
 rcases NP (j0:=0) ho hal hB hO with ⟨rfl,hnone⟩ | ⟨j,i,k,x,ow,wt,ht,r,p,R,z,rE,ht',e1,e2,e3,e4,e5,e6,e7⟩
 ·
  have hnw:∀{m:Nat} {g:GA},gs[m]?=some g->g.wb=false:=by
   intro m g hg
   obtain ⟨p,cj,v,i,g1,g2,g3,g4⟩:=hgj hg
   exact Si hg g3 (hnone i (anV g3))
  have T:=zM (w':=w') (F':=G) H ⟨f1,f2,f3⟩ f4 (fun b hb hne=>by obtain ⟨j,g,h1,h2,_⟩:=BH b hb hne; exact Gl h1 (hnw h1) h2)
   (fun b hb=>by
    obtain ⟨h1,h2⟩:=ko b (hG b hb)
    rcases h2 with h2 | ⟨j,g,h3,h4,_⟩
    ·exact .inr ⟨h2,h1⟩
    ·exact .inl (Gl h3 (hnw h3) h4)) hGn
  refine ⟨J,H.mem T,⟨fun q Q b hq hb=>.inr (.inl ⟨Q,hq,hb,fun m g hg hbg=>?_⟩),hG⟩,rfl,fun q h=>h,fun t h=>h, .inl rfl,fun j i r q wt ht _ hi hw=>by rw [hnone i (anV hi)] at hw; simp at hw⟩
  exact H.iY q Q hq b hb (Gl hg (hnw hg) (ang _ hbg))
 ·
  have hj:j<ps.length:=by rcases e7 with ⟨h,_⟩ | ⟨h,_⟩ <;> exact (anZ.1 h).1
  obtain ⟨g,hg⟩:∃g,gs[j]?=some g:=⟨gs[j]'(by omega),ant _⟩
  obtain ⟨p0,cj,v,i',g1,g2,g3,g4⟩:=hgj hg
  rw [e1] at g3
  simp only [ane] at g3
  subst g3
  obtain ⟨cj2,v2,i2,gg2,a1,a2,a3,a4,a5,a6⟩:=hat j p0 g1
  obtain ⟨x0,wh,rest,hP,yH,hOw,hfo,hgn,hpr,yf,hwf,hgo,hbase,hps,hwt,hht,hR0⟩:∃(x0:El k) (wh:Option (Nat×Nat)) (rest:List Nat),Y7 cx Z J w k x0 ow i rE ht' r R p/\bH (hp w) p R.k (J.hdr r) (dY J R r)=some (g.cs,wh)/\Ow (hp w) R.own (jc cx Z J F w R.tags) k x0 g.cs g.fo/\(∀b∈g.fo,b∈J.fo r)/\g.fo.Nodup/\
    (J.fo r).Perm (g.fo++rest)/\(∀b o,wh=some (b,o)->b∈rest\/∃o0,dY J R r=some (b,o0)/\o0<=o/\o+k.size<=o0+R.k.size)/\(∀b o,wh=some (b,o)->b∉g.fo)/\
    (∀{t z:Dat} {tags':List Tag} {lw lh:List TypeId} {kp:Bool} {ft F':List Nat} {cs':List Value} {w':World},rR cx Z J F w r R p ⟨k,x0⟩ R.own g.cs wh g.fo rest t z tags' lw lh kp ft F' cs' w'->
     ∃J',Rel cx (au Z r (bO R z R.own tags' lw lh kp)) J' F' a w'/\nA cx Z J F w (au Z r (bO R z R.own tags' lw lh kp)) J' F' w' (sj r lw) (sj r lh)/\(∀b∈Ow.blk J' (bO R z R.own tags' lw lh kp) r,(∃o,dY J R r=some (b,o))\/b∈ft\/b∈rest)/\
      (qh∉lh->bB (au Z r (bO R z R.own tags' lw lh kp)) (bO R z R.own tags' lw lh kp)->bH (hp w') p z.1 (J'.hdr r) (dY J' (bO R z R.own tags' lw lh kp) r)=some (cs',wh))/\∀b∈ft,b∈J'.fo r)/\
    ((∃b o,wh=some (b,o)/\g.base=some (b,o))\/(g.base=none/\VC k g.v g.cs))/\(vS p0=k.size\/g.base=none)/\(rE=wt)/\(ht'=ht)/\
    (∃R0,gZ (gX ps 0 c) (aA j)=some R0/\R0.k=k/\HEq R0.x x0/\R0.own=ow):=by
   have h4:Tt cx Z J F a w p0 cj2 v2 i2 gg2:=a4
   rw [hg] at a3
   simp only [ane] at a3
   subst a3
   rw [e1] at a2
   simp only [ane] at a2
   subst a2
   rcases e7 with ⟨h,_⟩ | ⟨h,ajM,_⟩
   ·rw [g1] at h
    simp only [ane] at h
    subst h
    obtain ⟨hv0,h1,h2,r1,R1,q1,b,o,h3,h4',h5,h6,h7,h8,h9,h10,h11,rest,h12,h13,h14,h15⟩:=h4
    have hwb:=h3.wb
    rw [e2] at hwb
    simp only [ane,anp] at hwb
    obtain ⟨rfl,rfl,rfl,rfl⟩:=hwb
    have hRR:R1=R:=by have:=h3.lv.1; rw [e3] at this; simpa using this.symm
    subst hRR
    refine ⟨cj2.1,some (b,o),rest,h3,h5,h8,h9,h10,h12,h13,h14,h15, .inl ⟨b,o,rfl,h7⟩, .inl rfl,rfl,rfl, ?_⟩
    rw [a6]
    exact ⟨_,rfl,rfl,HEq.rfl,rfl⟩
   ·rw [g1] at h
    simp only [ane] at h
    subst h
    obtain ⟨hv0,h1,h2,r1,R1,q1,wh,h3,h4',h5,h6,h7,h8,h9,h10,rest,h12,h13,h14,h15⟩:=h4
    have hwb:=h3.wb
    rw [e2] at hwb
    simp only [ane,anp] at hwb
    obtain ⟨rfl,rfl,rfl,rfl⟩:=hwb
    have hRR:R1=R:=by have:=h3.lv.1; rw [e3] at this; simpa using this.symm
    subst hRR
    refine ⟨cj2.1,wh,rest,h3,h5,h8,h9,h10,h12,h13,h14,h15, .inr ⟨h7,hv0▸h6⟩, .inr h7,rfl,ajM.symm, ?_⟩
    rw [a6]
    exact ⟨_,rfl,rfl,HEq.rfl,rfl⟩
  subst hwt
  subst hht
  rw [anY] at e5
  obtain ⟨lw,ajU,ajV,ajW,hws⟩:∃lw:List TypeId,(∀e∈rE,e∈lw)/\lw≠[]/\(g.base≠none->eO R p∈lw)/\ws=[.r r (some (bO R z R.own R.tags lw ht' R.keep))]:=by
   rcases e7 with ⟨h,hw⟩ | ⟨h,hh,hw⟩
   ·exact ⟨eO R p :: rE,fun e he=>by simp [he],by simp,fun _=>by simp,hw⟩
   ·refine ⟨SENT :: (k.tys++rE),fun e he=>by simp [he],by simp,fun hb=>?_,by rw [hw,hh]; rfl⟩
    rw [g1] at h
    simp only [ane] at h
    subst h
    exact absurd (g4.2.2.2 |> fun ⟨_,_,_,_,_,_,_,_,hb,_⟩=>hb) hb
  subst hws
  obtain ⟨Rf,hRf,hvf,⟨ek,ex⟩,Ve,wR,q9⟩:=e5
  have hlf:aQ Bl (aA j) Rf:=⟨hRf,hvf.1⟩
  subst ek
  simp only at ex
  subst ex
  have Kf:=Hf.roots (aA j) Rf hlf
  have hgw:g.wb=true:=(nS H g4).2.2.2.2 (by rw [e2]; simp)
  have Qj:(dQ cx Z J F w ps c is gs).par j=some ⟨g.base.map fun q=>(q.1,q.2,vS p0),iG g,g.wb⟩:=by
   simp only [dQ]
   rw [hg,g1]
   simp [hgw]
  unfold Ah at wR
  simp only [ank,kD] at wR
  obtain ⟨⟨⟨⟨l1,l2⟩,l3⟩,l4⟩,l5⟩:=wR
  have hg0:Rf.g=0:=ani l5
  have hkind:dY yA Rf (aA j)=g.base/\(g.base=none->yA.hdr (aA j)=g.cs):=by
   rcases hbase with ⟨b,o,_,hb⟩ | ⟨hb,hV⟩
   ·obtain ⟨Q,hQ,hk,hl,_⟩:=Hf.mE j _ b o (vS p0) Qj (by simp [hb])
    have hQR:Q=Rf:=by have:=hQ.1; rw [hRf] at this; simpa using this.symm
    subst hQR
    refine ⟨?_,fun h=>by rw [hb] at h; simp at h⟩
    unfold dY
    rw [hk,hl,hb]
   ·have hrf:=(Hf.vK j g.v ⟨g,hg,rfl,hb,hgw⟩).2 Rf hlf hg0
    refine ⟨by unfold dY; rw [hrf.1,hb],fun _=>?_⟩
    have h1:=hrf.2.cells
    have h2:=hV.cells
    rw [<-h1,h2]
  obtain ⟨afO,afc⟩:=hkind
  have Zg:Ow.blk yA Rf (aA j)=(match g.base with | some q=>[q.1] | none=>[])++yA.fo (aA j):=by
   unfold Ow.blk
   rw [afO]
   cases g.base <;> rfl
  have Vk:(yA.fo (aA j)).Nodup:=(anl.1 (Zg▸Kf.nd)).2.1
  have afp:(yA.hdr (aA j)).length=Rf.k.size:=Kf.len
  have hK:=H.roots r R hP.lv
  have R9:=hK.nd
  rw [bX,nD] at R9
  have afj:∀b,b∈J.fo r↔b∈g.fo\/b∈rest:=fun b=>by rw [hpr.mem_iff,ann]
  have Mj:=anl.1 (hpr.nodup R9.2)
  have hcells:∀b o,wh=some (b,o)->Cells (hp w') b o (yA.hdr (aA j))/\iE (hp w) (hp w') b o Rf.k.size:=by
   intro b o hw
   obtain ⟨m1,_,m2,⟨arr,e,lo,hi,m3,m4,m5,m6⟩,_⟩:=pV H hP.lv hP.vl hP.get hP.pin hP.own (by rw [yH,hw])
   rcases hbase with ⟨b',o',hw',hb⟩ | ⟨hb,_⟩
   ·rw [hw] at hw'
    simp only [ane,anp] at hw'
    obtain ⟨rfl,rfl⟩:=hw'
    have hm:=Kf.mem b o (by rw [afO,hb])
    have hsz:vS p0=Rf.k.size:=by
     rcases hps with h | h
     ·exact h
     ·rw [hb] at h; simp at h
    have:=f6 j _ b o (vS p0) Qj (by simp [hb])
    rw [hsz] at this
    exact ⟨hm.1,this⟩
   ·have hlt:=(hK.mine b m2).1
    have hsame:hp w' b=hp w b:=by
     refine anC fun hne=>?_
     obtain ⟨m,gm,h1,h2,h3⟩:=BH b hlt hne
     by_cases e:m=j
     ·subst e
      rw [hg] at h1
      simp only [ane] at h1
      subst h1
      unfold iG at h2
      rw [hb] at h2
      exact hwf b o hw (by simpa using h2)
     ·have hgm:gm.wb=false:=by
       obtain ⟨pm,cm,vm,im,k1,k2,k3,k4⟩:=hgj h1
       exact Si h1 k3 (e6 m im e k3)
      exact H.iY r R hP.lv b m2 (Gl h1 hgm h2)
    rw [afc hb]
    exact ⟨m1.congr hsame,iE.of_same _ _ m3 hsame⟩
  have hwho:∀b,(w.heap.size<=b\/∃(j:Nat) (g:GA),gs[j]?=some g/\b∈iG g/\(g.ow=true\/g.wb=true))->(∀o,g.base≠some (b,o))->b<w'.heap.size->b∈g.fo\/b∈F\/(w.heap.size<=b/\b<w'.heap.size):=by
   intro b hb hnb hlt
   rcases hb with hb | ⟨m,gm,h1,h2,h3⟩
   ·exact .inr (.inr ⟨hb,hlt⟩)
   ·by_cases e:m=j
    ·subst e
     rw [hg] at h1
     simp only [ane] at h1
     subst h1
     unfold iG at h2
     cases hbb:g.base with
     | none=>rw [hbb] at h2; exact .inl (by simpa using h2)
     | some q=>
      rw [hbb] at h2
      simp only [anW,anX,anq] at h2
      rcases h2 with h2 | h2
      ·exact absurd (by rw [hbb,h2]) (hnb q.2)
      ·exact .inl h2
    ·have hgm:gm.wb=false:=by
      obtain ⟨pm,cm,vm,im,k1,k2,k3,k4⟩:=hgj h1
      exact Si h1 k3 (e6 m im e k3)
     exact .inr (.inl (Gl h1 hgm h2))
  have Gh:∀b∈g.fo,b∈iG g:=fun b hb=>ang _ hb
  have aa7:∀b∈g.fo,¬mD (dQ cx Z J F w ps c is gs) b:=by
   rintro b hb ⟨m,pi,o,n,h1,h2⟩
   obtain ⟨gm,pm,cm,vm,im,k1,k2,k3,k4,k5,rfl⟩:=rU H hJ h1
   simp only at h2
   cases U7:gm.base with
   | none=>rw [U7] at h2; simp at h2
   | some q=>
    rw [U7] at h2
    simp only [an1,ane,anp] at h2
    have afn:gm.wb=true:=by
     obtain ⟨_,_,_,_,_,_,_,hw,_⟩:=(nS H k4).2.1 q.1 q.2 (by rw [U7])
     exact (nS H k4).2.2.2.2 (by rw [hw]; simp)
    by_cases e:m=j
    ·subst e
     rw [hg] at k1
     simp only [ane] at k1
     subst k1
     rcases hbase with ⟨b',o',hw',hb'⟩ | ⟨hb',_⟩
     ·rw [U7] at hb'
      simp only [ane] at hb'
      subst hb'
      exact hwf b' o' hw' (by have:=h2.1; simp only at this; rw [this]; exact hb)
     ·rw [U7] at hb'; simp at hb'
    ·have:=Si k1 k3 (e6 m im e k3)
     rw [this] at afn
     simp at afn
  have hkb:∀b∈g.fo,(∃e∈lw,qm (hp w) b=some e)\/(hp w' b=hp w b/\b∉Ff/\∀q Q,aQ Bl q Q->b∈Ow.blk yA Q q->q=aA j):=by
   intro b hb
   obtain ⟨R2,h1,h2⟩:=Hf.uf j _ Qj (by simp [hgw])
   rw [hRf] at h1
   simp only [ane] at h1
   subst h1
   rcases h2 hvf.1 b (Gh b hb) (aa7 b hb) with ⟨e,h3,h4⟩ | h
   ·refine .inl ⟨e,ajU e ?_,h3⟩
    rcases h4 with h4 | h4
    ·exact l1 e h4
    ·exact l2 e h4
   ·exact .inr h
  have XU:∀b∈yA.fo (aA j),∀o,g.base≠some (b,o):=by
   intro b hb o hbb
   have:=Zg▸Kf.nd
   rw [hbb] at this
   simp only [anW,anX] at this
   exact (anN.1 this).1 hb
  have XQ:∀b∈Ff,∀o,g.base≠some (b,o):=fun b hb o hbb=>rO Hf hb ⟨j,_,o,vS p0,Qj,by simp [hbb]⟩
  have hoth:∀(m:Nat) (gm:GA),m≠j->gs[m]?=some gm->∀b∈gm.fo,b∈F:=by
   intro m gm e hm b hb
   obtain ⟨pm,cm,vm,im,k1,k2,k3,k4⟩:=hgj hm
   exact Gl hm (Si hm k3 (e6 m im e k3)) (ang _ hb)
  have hPT:rR cx Z J F w r R p ⟨Rf.k,x0⟩ R.own g.cs wh g.fo rest ⟨Rf.k,Rf.x⟩ z R.tags lw ht' R.keep (yA.fo (aA j)) G (yA.hdr (aA j)) w':=by
   refine ⟨e4,rfl,fun _ h=>h,⟨f1,f2,f3⟩,f4, ?_,hcells, ?_,afp, .inl ajV,⟨fun _ h=>h,(H.dG r R e3).1,(H.dG r R e3).2.2⟩, ?_,Vk, ?_,hGn, ?_, .inl rfl, .inl rfl, ?_, ?_⟩
   ·intro b hb hne
    obtain ⟨m,gm,h1,h2,h3⟩:=BH b hb hne
    by_cases e:m=j
    ·subst e
     rw [hg] at h1
     simp only [ane] at h1
     subst h1
     unfold iG at h2
     rcases ann.1 h2 with h2 | h2
     ·cases hbb:g.base with
      | none=>rw [hbb] at h2; simp at h2
      | some q=>
       rw [hbb] at h2
       simp only [anz] at h2
       rcases hbase with ⟨b',o',hw',hb'⟩ | ⟨hb',_⟩
       ·rw [hbb] at hb'
        simp only [ane] at hb'
        subst hb'
        simp only at h2
        exact .inr (.inr ⟨o',by rw [h2]; exact hw',ajW (by rw [hbb]; simp)⟩)
       ·rw [hbb] at hb'; simp at hb'
     ·rcases hkb b h2 with h | h
      ·exact .inr (.inl ⟨h2,h⟩)
      ·exact absurd h.1 hne
    ·have hgm:gm.wb=false:=by
      obtain ⟨pm,cm,vm,im,k1,k2,k3,k4⟩:=hgj h1
      exact Si h1 k3 (e6 m im e k3)
     exact .inl (Gl h1 hgm h2)
   ·intro hw
    rcases hbase with ⟨b',o',hw',_⟩ | ⟨hb',_⟩
    ·rw [hw] at hw'; simp at hw'
    ·exact afc hb'
   ·intro b hb
    have hbl:b∈Ow.blk yA Rf (aA j):=ang _ hb
    obtain ⟨m1,m2⟩:=Kf.mine b hbl
    refine hwho b (m2.imp id ?_) (XU b hb) m1
    rintro ⟨m,pi,h3,h4⟩
    obtain ⟨gm,pm,cm,vm,im,k1,k2,k3,k4,k5,rfl⟩:=rU H hJ h3
    exact ⟨m,gm,k1,h4,k5⟩
   ·intro b hb
    obtain ⟨m1,m2⟩:=ko b (hG b hb)
    rcases hwho b m2 (XQ b (hG b hb)) m1 with h | h | h
    ·rcases hkb b h with h' | h'
     ·exact .inr (.inr ⟨h,h'⟩)
     ·exact absurd (hG b hb) h'.2.1
    ·exact .inl h
    ·exact .inr (.inl h)
   ·intro b hb hbG
    exact Hf.iY (aA j) Rf hlf b (ang _ hb) (hG b hbG)
   ·intro Vd q c0 w0 eZ Sd hnq _
    by_cases hpt:ah q Rf.k=[]
    ·exact uO (own:=R.own) q eZ (fun t ht=>by rw [hpt] at ht; simp at ht) hnq
    ·obtain ⟨hany,b,o,hw0⟩:=Qx _ q hpt hnq
     subst hw0
     have hq:q≠[]:=fun e=>hpt (by rw [e]; simp [ah])
     have aj3:eT q Rf.k=qh :: ah q Rf.k:=by
      cases q with
      | nil=>exact absurd rfl hq
      | cons s q=>rfl
     have hto:∀t∈ah q Rf.k,az t ow=true:=fun t ht=>by
      have h1:=anu.1 hP.just t (oJ q t ht)
      have h2:=(Sd t ht).1
      have h1':az t R.own=az t ow:=by simpa using h1
      rw [<-h1',h2]
     obtain ⟨R0,r1,r2,r3,r4⟩:=hR0
     have CW:(dQ cx Z J F w ps c is gs).ptrs j q (eT q Rf.k) (.pointer (some ⟨b,o,none⟩)):=by
      refine ⟨g,R0,c0,b,o,hg,hgw,r1,by rw [r2],fun t ht=>by rw [r4]; exact hto t (r2▸ht), ?_, ?_,rfl⟩
      ·obtain ⟨R0k,R0x,_,_,_,_,_,_,_,_,_,_⟩:=R0
       simp only at r2 r3
       subst r2
       rw [eq_of_heq r3]
       exact eZ
      ·rw [r2]; exact hany _
     obtain ⟨_,R2,h1,h2⟩:=Hf.vJ j q _ _ CW
     rw [hRf] at h1
     simp only [ane] at h1
     subst h1
     have hno:∀t∈ht',t∉eT q Rf.k:=by
      intro t ht hm
      rw [aj3] at hm
      rcases anq.1 hm with h | h
      ·exact Vd (h▸ht)
      ·exact (Sd t h).2 ht
     obtain ⟨q1,cs,b',o',q2,q3⟩:=(h2 (fun t ht hm=>hno t (l4 t hm) ht)).2 Rf hRf hvf (by
       unfold clean
       rw [anu]
       intro t ht
       have:t∈Rf.h:=an6 ht
       simp only [an7,aW]
       exact hno t (l3 t this))
      (fun t ht=>by
       have h1:=anu.1 Ve t (oJ q t ht)
       have h1':az t Rf.own=az t ow:=by simpa using h1
       rw [h1']
       exact hto t ht)
      (by rw [qC q (y:=x0)]; exact PS q eZ)
     simp only [Value.pointer.injEq,ane,an8,an9] at q3
     obtain ⟨rfl,rfl⟩:=q3
     exact ⟨q1,cs,(Qx _ q hpt q2).1 _⟩
   ·intro J' Tn hblk _
    have hOf:=Kf.ow hvf
    have hsame:∀t∈Rf.k.tys,az t R.own=az t Rf.own:=fun t ht=>by
     have h1:=anu.1 hP.just t ht
     have h2:=anu.1 Ve t ht
     have h1':az t R.own=az t ow:=by simpa using h1
     have h2':az t Rf.own=az t ow:=by simpa using h2
     rw [h1',h2']
    refine qY hsame ?_
    rcases q9 with hall | q9
    ·refine gI (dH (fun t ht=>?_)) hOf
     have h2:=anu.1 Ve t ht
     have h2':az t Rf.own=az t ow:=by simpa using h2
     rw [h2']
     exact jw hall t ht
    ·refine bE (fun _ _=>rfl) (fun b hb=>?_) (fun _ _=>rfl) hOf
     refine KG H hJ Hf (Bt H hP.lv e1 e2 hlf hg hpr hoth Tn hblk hG) (fun j' n hn i' hi' t ht=>?_) (fun m n hn=>?_) hb
     ·have h1:=anu.1 q9 _ hn
      simp only [jo,an0] at h1
      have h2:pO j' / 4=j':=by unfold pO; omega
      rw [h2,aM,anz] at h1
      subst h1
      rw [e1] at hi'
      simp only [ane] at hi'
      subst hi'
      rw [hP.ids] at ht
      exact ⟨t.2,ht⟩
     ·have h1:=anu.1 q9 _ hn
      have h2:Nat.beq (aA m % 4) 0=true:=by unfold aA; simp
      simp only [oz,an3,h2,an0] at h1
      simp [az] at h1
  obtain ⟨Bj,hR2,hT2,hb2,abe,_⟩:=hgo hPT
  refine ⟨Bj,hR2,Bt H hP.lv e1 e2 hlf hg hpr hoth hT2 hb2 hG,rfl,fun q hq=>?_,fun t ht=>hT2.tag ht, .inr ⟨_,_,rfl⟩,fun j' i' r' q' WZ ht0 ajK hi' hw'=>?_⟩
  rotate_left
  ·have ej:j'=j:=by
    refine anC fun hne=>?_
    rw [e6 j' i' hne hi'] at hw'
    simp at hw'
   subst ej
   rw [e1] at hi'
   simp only [ane] at hi'
   subst hi'
   rw [e2] at hw'
   simp only [ane,anp] at hw'
   obtain ⟨rfl,rfl,rfl,rfl⟩:=hw'
   obtain ⟨s1,s2,s3⟩:=Yo p hP.pin e4
   exact ⟨Rf,_,R,hRf,hvf,hg0,rfl,e3,s2,fun t ht=>hP.own t (by rw [<-s3]; exact ht),fun hv'=>⟨wh,abe ajK hv'⟩⟩
  have hne:q≠r:=fun e=>by rw [e,e3] at hq; simp at hq
  show (au Z r _).roots q=none
  rw [bP Z _ hne]
  exact hq
end
end
section
open Go
variable [Fr]
def Ld (Z:St) (ws:List Wr) (l:List Nat) (tags:List Tag):Prop:=
 (∀r∈l,∃n,(r,n)∈tags)/\∀t∈tags,gy t.1=true\/(∃R,ws.find? (fun w=>w.loc.beq (.r t.1))=some (.r t.1 (some R))/\t.2=gY R.w)\/(∃R,Z.roots t.1=some R/\t.2=gY R.w)
theorem SB {w:Wr} {r:Nat} (h:w.loc.beq (.r r)=true):∃o,w=.r r o:=by
 cases w with
 | s n a=>simp [Wr.loc,Loc.beq] at h
 | r n o=>
  simp only [Wr.loc,Loc.beq] at h
  exact ⟨o,by rw [ani h]⟩
theorem Gz {A:Type} {z:A} {Z:St} {ws:List Wr}:∀{l:List Nat} {k:List Tag->Prog A},(MK ws l k).ends Z z->∃tags,Ld Z ws l tags/\(k tags).ends Z z:=by
 intro l
 induction l with
 | nil=>intro k h; exact ⟨[],⟨by simp,by simp⟩,h⟩
 | cons r l ih=>
  intro k h
  unfold MK at h
  have hadd:∀{n:Nat} {tags:List Tag},Ld Z ws l tags->(gy r=true\/(∃R,ws.find? (fun w=>w.loc.beq (.r r))=some (.r r (some R))/\n=gY R.w)\/(∃R,Z.roots r=some R/\n=gY R.w))->Ld Z ws (r :: l) ((r,n) :: tags):=by
   intro n tags h1 h2
   refine ⟨fun q hq=>?_,fun t ht=>?_⟩
   ·rcases anq.1 hq with h | h
    ·subst h; exact ⟨n,by simp⟩
    ·obtain ⟨m,hm⟩:=h1.1 q h; exact ⟨m,by simp [hm]⟩
   ·rcases anq.1 ht with h | h
    ·subst h; exact h2
    ·exact h1.2 t h
  cases he:gy r with
  | true=>
   rw [he] at h
   obtain ⟨tags,g1,g2⟩:=ih h
   exact ⟨_,hadd g1 (.inl he),g2⟩
  | false=>
   rw [he] at h
   simp only [an3] at h
   split at h
   ·rename_i q R hf
    have hq:q=r:=by
     have:=List.find?_some hf
     obtain ⟨o,ho⟩:=SB this
     simp only [Wr.r.injEq] at ho
     exact ho.1
    subst hq
    obtain ⟨tags,g1,g2⟩:=ih h
    exact ⟨_,hadd g1 (.inr (.inl ⟨R,hf,rfl⟩)),g2⟩
   ·exact h.elim
   ·simp only [Prog.ends] at h
    cases hr:Z.roots r with
    | none=>rw [hr] at h; exact h.elim
    | some R=>
     rw [hr] at h
     obtain ⟨tags,g1,g2⟩:=ih h
     exact ⟨_,hadd g1 (.inr (.inr ⟨R,hr,rfl⟩)),g2⟩
def Ue (Z:St) (d:Nat) (is:List dz) (ws:List Wr):(rs:List xJ)->Nat->Cont (iZ rs)->List AV->List Wr->Prop
 | [],_,_,as,ws'=>as=[]/\ws'=[]
 | .val k exts iQ :: rs,c,x,as,ws'=>∃tags as',Ld Z ws (bif k.flat then [] else wP (BK is exts iQ)) tags/\as=.val k x.1 tags :: as'/\Ue Z d is ws rs (c+1) x.2 as' ws'
 | .own k ow exts iQ :: rs,c,x,as,ws'=>∃tags as' Pv,Ld Z ws (bif k.tys.all (fun t=>az t ow) then [] else wP (BK is exts iQ)) tags/\Z.roots (aY d c)=none/\as=.ref (aY d c) 0 :: as'/\ws'=.r (aY d c) (some (aK k x.1 ow tags .anon)) :: Pv/\Ue Z d is ws rs (c+1) x.2 as' Pv
 | .ptr t k ow exts :: rs,c,x,as,ws'=>∃tags as' Pv,Ld Z ws (bif k.tys.all (fun t=>az t ow) then [] else wP (BK is exts [])) tags/\Z.roots (aY d c)=none/\as=.ptr (aY d c) [] 0 :: as'/\ws'=.r (aY d c) (some (aK k x.1 ow tags (.var t))) :: Pv/\Ue Z d is ws rs (c+1) x.2 as' Pv
 | .into j p :: rs,c,x,as,ws'=>c=0/\p=[]/\rs=[]/\ws'=[]/\∃i r q wt ht R,is[j]?=some i/\i.wb=some (r,q,wt,ht)/\qh∉ht/\ws.find? (fun w=>w.loc.beq (.r r))=some (.r r (some R))/\as=[.wT r q (gY R.w+gY R.h) (show Int from x.1).toNat]
theorem Wp {A:Type} {z:A} {Z:St} {d:Nat} {is:List dz} {ws:List Wr}:∀{rs:List xJ} {c:Nat} {x:Cont (iZ rs)} {k:List AV->List Wr->Prog A},(uQ d is ws rs c x k).ends Z z->∃as ws',Ue Z d is ws rs c x as ws'/\(k as ws').ends Z z:=by
 intro rs
 induction rs with
 | nil=>intro c x k h; exact ⟨[],[],⟨rfl,rfl⟩,h⟩
 | cons p rs ih=>
  intro c x k h
  cases p with
  | val kk exts iQ=>
   simp only [uQ] at h
   obtain ⟨tags,h1,h⟩:=Gz h
   obtain ⟨as,ws',h2,h⟩:=ih h
   exact ⟨_,ws',⟨tags,as,h1,rfl,h2⟩,h⟩
  | own kk ow exts iQ=>
   simp only [uQ] at h
   obtain ⟨tags,h1,h⟩:=Gz h
   obtain ⟨hn,h⟩:=fC h
   obtain ⟨as,ws',h2,h⟩:=ih h
   exact ⟨_,_,⟨tags,as,ws',h1,hn,rfl,rfl,h2⟩,h⟩
  | ptr t kk ow exts=>
   simp only [uQ] at h
   obtain ⟨tags,h1,h⟩:=Gz h
   obtain ⟨hn,h⟩:=fC h
   obtain ⟨as,ws',h2,h⟩:=ih h
   exact ⟨_,_,⟨tags,as,ws',h1,hn,rfl,rfl,h2⟩,h⟩
  | into j q=>
   simp only [uQ] at h
   rcases ay h with ⟨hc,h⟩ | ⟨_,h⟩
   ·simp only [ank,List.isEmpty_iff] at hc
    split at h
    ·rename_i i hi
     split at h
     ·rename_i r q' wt ht hw
      split at h
      ·rename_i r' R hf
       rcases ay h with ⟨_,h⟩ | ⟨uu,h⟩
       ·exact h.elim
       have hb:=List.find?_some hf
       simp only [Wr.loc,Loc.beq] at hb
       have hb:=ani hb
       subst hb
       exact ⟨_,_,⟨ani hc.1.1,hc.1.2,hc.2,rfl,i,r',q',wt,ht,R,hi,hw,aW.1 uu,hf,rfl⟩,h⟩
      ·exact h.elim
     ·exact h.elim
    ·exact h.elim
   ·exact h.elim
theorem AU {n:Nat} {l:List Nat}:n∈l->n∈wP l:=by
 induction l with
 | nil=>simp
 | cons m l ih=>
  intro h
  unfold wP
  cases hm:az m l with
  | true=>
   simp only [an0]
   rcases anq.1 h with h | h
   ·subst h; exact ih (aM.1 hm)
   ·exact ih h
  | false=>
   simp only [an3]
   rcases anq.1 h with h | h
   ·subst h; simp
   ·simp [ih h]
section
variable {P:Program} {T:jh} {cx:Cx} {Z:St} {J:dP} {F:List Nat} {a:Act} {w w':World} {ps:List gq} {c:Cont (kin ps)} {vs:List Value} {is:List dz} {gs:List GA}
theorem zB {exts iQ:List Nat} {Tg U:List Tag} {l:List Nat} (ht:qp exts iQ Tg=true) (hU:∀r∈l,∃n,(r,n)∈U) (hl:∀r∈BK is exts iQ,r∈l) :
  (∀j n,(pO j,n)∈Tg->∀i,is[j]?=some i->∀t∈i.ids,∃n',(t.1,n')∈U)/\(∀m n,(aA m,n)∈Tg->∀i q,is[m]?=some i->i.wb=some q->∃n',(q.1,n')∈U):=by
 refine ⟨fun j n hn i hi t ht'=>?_,fun m n hn i q hi hq=>?_⟩
 ·have h1:=anu.1 ht _ hn
  simp only [jo,an0] at h1
  have h2:pO j / 4=j:=by unfold pO; omega
  rw [h2,aM] at h1
  refine hU _ (hl _ ?_)
  unfold BK
  refine anj _ (anR.2 ⟨j,h1, ?_⟩)
  rw [hi]
  exact anQ.2 ⟨t,ht',rfl⟩
 ·have h1:=anu.1 ht _ hn
  have h2:Nat.beq (aA m % 4) 0=true:=by unfold aA; simp
  simp only [oz,an3,h2,an0] at h1
  rw [MN,aM] at h1
  refine hU _ (hl _ ?_)
  unfold BK
  refine ang _ (anR.2 ⟨m,h1, ?_⟩)
  simp [hi,hq]
theorem MB {d c c':Nat} (h:aY d c=aY d c'):c=c':=by unfold aY at h; omega
theorem Ri (H:Rel cx Z J F a w) (hJ:WR cx Z J F a w ps c vs is gs) {Bl:St} {yA:dP} {Ff:List Nat} {af:Act} (Hf:Rel (dQ cx Z J F w ps c is gs) Bl yA Ff af w') {σ0:St} {d:Nat} {ws:List Wr} :
  ∀{rs:List xJ} {ci:Nat} {x:Cont (iZ rs)} {as:List AV} {ws':List Wr} {us:List Value} {bC:List (List Nat)} {Z':St} {J':dP},Rel cx Z' J' bC.flatten a w'->Ak Z J is gs Bl yA Ff Z' J' bC.flatten->
   EX (dQ cx Z J F w ps c is gs) Bl yA Ff w' rs x us bC->Ue σ0 d is ws rs ci x as ws'->(∀l tags,Ld σ0 ws l tags->fG Z' tags)->(∀cj,ci<=cj->σ0.roots (aY d cj)=none->Z'.roots (aY d cj)=none)->(∀b∈bC.flatten,b∈Ff)->
   (ci=0->∀(j:Nat) (i:dz) (r:Nat) (q:List Stp) (wt ht:List TypeId) (R:Root) (b:Option Addr) (n cp m:Nat),is[j]?=some i->i.wb=some (r,q,wt,ht)->qh∉ht->ws.find? (fun w=>w.loc.beq (.r r))=some (.r r (some R))->m<=n->bN (dQ cx Z J F w ps c is gs) Bl yA Ff w' (.ref (aA j) 0) (.slice b n cp)->
    bN cx Z' J' bC.flatten w' (.wT r q (gY R.w+gY R.h) m) (.slice b m cp)/\qM Z' (.wT r q (gY R.w+gY R.h) m))->
   ∃J'',Rel cx (aB ws' Z') J'' [] a w'/\eD cx (aB ws' Z') J'' [] w' as us/\(∀v∈as,qM (aB ws' Z') v)/\(aB ws' Z').slots=Z'.slots/\Ak Z J is gs Bl yA Ff (aB ws' Z') J'' []/\
    (∀u v,qM Z' u->bN cx Z' J' bC.flatten w' u v->bN cx (aB ws' Z') J'' [] w' u v)/\(∀t,Cj Z' t->Cj (aB ws' Z') t)/\(∀u,qM Z' u->qM (aB ws' Z') u):=by
 intro rs
 induction rs with
 | nil=>
  intro ci x as ws' us bC Z' J' H' B hL hW _ _ _ _
  obtain ⟨rfl,rfl⟩:=hW
  cases us with
  | cons _ _=>exact hL.elim
  | nil=>cases bC with
   | cons _ _=>exact hL.elim
   | nil=>exact ⟨J',H',trivial,by simp,rfl,B,fun _ _ _ h=>h,fun _ h=>h,fun _ h=>h⟩
 | cons p rs ih=>
  intro ci x as ws' us bC Z' J' H' B hL hW tY hfr hFf hcut
  cases us with
  | nil=>cases p <;> exact hL.elim
  | cons u us=>
   cases bC with
   | nil=>cases p <;> exact hL.elim
   | cons fo bC=>
    cases p with
    | val k exts iQ=>
     obtain ⟨⟨rfl,Tg,cs,h1,h2,h3⟩,h4⟩:=hL
     obtain ⟨tags,as',hN,rfl,hW⟩:=hW
     simp only [aoa,anX] at H' B hFf
     obtain ⟨J'',k1,k2,k3,k4,k5,k6,k7,k8⟩:=ih H' B h4 hW tY (fun cj hc=>hfr cj (by omega)) hFf (fun h=>absurd h (Nat.succ_ne_zero _))
     refine ⟨J'',k1,⟨fun _=>⟨cs,h2, ?_⟩,k2⟩, ?_,k4,k5,by simpa using k6,k7,k8⟩
     ·cases hf:k.flat with
      | true=>exact jA hf h3
      | false=>
       rw [hf] at hN h1
       obtain ⟨b1,b2⟩:=zB (is:=is) (h1.resolve_left (by simp)) hN.1 (fun r hr=>AU hr)
       exact gH (fun _ _=>rfl) (fun b hb=>KG H hJ Hf k5 b1 b2 hb) h3
     ·intro v hv
      rcases anq.1 hv with h | h
      ·subst h; exact fun t ht=>k7 t (tY _ _ hN t ht)
      ·exact k3 v h
    | own k ow exts iQ=>
     obtain ⟨⟨Tg,cs,own,h1,h2,h3,h5⟩,h4⟩:=hL
     obtain ⟨tags,as',Pv,hN,hn,rfl,rfl,hW⟩:=hW
     simp only [aoa] at H' B hFf
     obtain ⟨dO,fd,hpm,hO⟩:=uK (own':=ow) (fun t ht hm=>h2 t ht hm) h5
     have hnd:=anl.1 H'.xK
     have Mj:=anl.1 (hpm.nodup hnd.1)
     have hk:(aK k x.1 ow tags .anon false).kind=.anon:=rfl
     have hn':=hfr ci (anv _) hn
     have OD:∀b∈dO,b∈fo:=fun b hb=>hpm.mem_iff.2 (anj _ hb)
     obtain ⟨q1,q2⟩:=IG (R':=aK k x.1 ow tags .anon false) H' hn' (fE d ci) rfl (by simp [aK]) (tY _ _ hN) (0,0) cs dO bC.flatten
      (fun b hb=>by rw [gD hk] at hb; exact ⟨anj _ (OD b hb),fun h=>hnd.2.2 b (OD b hb) b h rfl⟩) (by rw [gD hk]; exact Mj.1) (fun b hb=>ang _ hb) hnd.2.1
      (fun _=>by
       rw [gD hk]
       show Ow (hp w') ow _ k x.1 cs dO
       cases hall:(k.tys.all fun t=>az t ow) with
       | true=>exact gI (dH (jw hall)) hO
       | false=>
        rw [hall] at hN h1
        obtain ⟨b1,b2⟩:=zB (is:=is) (h1.resolve_left (by simp)) hN.1 (fun r hr=>AU hr)
        refine bE (fun _ _=>rfl) (fun b hb=>?_) (fun _ _=>rfl) hO
        rcases hb with hb | hb
        ·exact .inl (KG H hJ Hf B b1 b2 hb)
        ·have hbf:b∈fo:=hpm.mem_iff.2 (ang _ hb)
         exact .inr ⟨anj _ hbf,fun h=>hnd.2.2 b hbf b h rfl,fun h=>Mj.2.2 b h b hb rfl⟩) (cZ h5) (fun b o hb=>by rw [uY hk] at hb; simp at hb)
     have hB2:Ak Z J is gs Bl yA Ff (au Z' (aY d ci) (aK k x.1 ow tags .anon false)) (aG J' (aY d ci) (0,0) cs dO) bC.flatten:=by
      refine ⟨fun q Q b hq hb=>?_,fun b hb=>hFf b (ang _ hb)⟩
      rcases jS hq with ⟨rfl,rfl,_⟩ | ⟨e,hq'⟩
      ·rw [fB,gD hk] at hb
       exact .inl (hFf b (anj _ (OD b hb)))
      ·rw [(gV (Z:=Z') (J:=J') (R:=aK k x.1 ow tags .anon false) e).blk] at hb
       exact B.blk q Q b hq' hb
     have U5:∀u v,qM Z' u->bN cx Z' J' (fo++bC.flatten) w' u v->bN cx (au Z' (aY d ci) (aK k x.1 ow tags .anon false)) (aG J' (aY d ci) (0,0) cs dO) bC.flatten w' u v:=fun u v hu hv=>
      q2.av H' (fun r R hr hs=>absurd (gV (fun e=>by have:=hr.1; rw [e,hn'] at this; simp at this)) hs) (fun r R hr hs=>absurd (gV (fun e=>by have:=hr.1; rw [e,hn'] at this; simp at this)) hs) hu hv
     obtain ⟨J'',k1,k2,k3,k4,k5,k6,k7,k8⟩:=ih (ci:=ci+1) q1 hB2 h4 hW (fun l tags hN t ht=>q2.tag (tY l tags hN t ht)) (fun cj hc h=>by
      rw [bP]
      ·exact hfr cj (by omega) h
      ·intro e; have:=MB e; omega) (fun b hb=>hFf b (ang _ hb)) (fun h=>absurd h (Nat.succ_ne_zero _))
     have hroot:(au Z' (aY d ci) (aK k x.1 ow tags .anon false)).roots (aY d ci)=some (aK k x.1 ow tags .anon false):=aI ..
     have Ml:qM (au Z' (aY d ci) (aK k x.1 ow tags .anon false)) (.ref (aY d ci) 0):=⟨_,hroot, .inr (anO _)⟩
     refine ⟨J'',k1,⟨k6 _ _ Ml (VZ h3),k2⟩, ?_,k4,k5,fun u v hu hv=>?_,fun t ht=>k7 t (q2.tag ht),fun u hu=>k8 u (q2.qM hu)⟩
     ·intro v hv
      rcases anq.1 hv with h | h
      ·subst h
       exact k8 _ Ml
      ·exact k3 v h
     ·exact k6 u v (q2.qM hu) (U5 u v hu hv)
    | ptr t k ow exts=>
     obtain ⟨⟨b0,o0,Tg,cs,own,wQ,h3,rfl,h1,h2,hmem,h5⟩,h4⟩:=hL
     obtain ⟨tags,as',Pv,hN,hn,rfl,rfl,hW⟩:=hW
     simp only [aoa] at H' B hFf
     obtain ⟨dO,fd,hpm,hO⟩:=uK (own':=ow) (fun t ht hm=>h2 t ht hm) h5
     have hnd:=anl.1 H'.xK
     have rJ:=anN.1 hnd.1
     have Mj:=anl.1 (hpm.nodup rJ.2)
     have hk:(aK k x.1 ow tags (.var t) false).kind=.var t:=rfl
     have hn':=hfr ci (anv _) hn
     have OD:∀b∈b0 :: dO,b∈b0 :: wQ:=fun b hb=>by
      rcases anq.1 hb with h | h
      ·rw [h]; exact anM
      ·exact anE _ (hpm.mem_iff.2 (anj _ h))
     obtain ⟨q1,q2⟩:=IG (R':=aK k x.1 ow tags (.var t) false) H' hn' (fE d ci) rfl (by simp [aK]) (tY _ _ hN) (b0,o0) cs dO bC.flatten
      (fun b hb=>by rw [uU hk] at hb; exact ⟨anj _ (OD b hb),fun h=>hnd.2.2 b (OD b hb) b h rfl⟩) (by rw [uU hk]; exact anN.2 ⟨fun h=>rJ.1 (hpm.mem_iff.2 (anj _ h)),Mj.1⟩) (fun b hb=>ang _ hb) hnd.2.1
      (fun _=>by
       rw [uU hk]
       show Ow (hp w') ow _ k x.1 cs dO
       cases hall:(k.tys.all fun t=>az t ow) with
       | true=>exact gI (dH (jw hall)) hO
       | false=>
        rw [hall] at hN h1
        obtain ⟨b1,b2⟩:=zB (is:=is) (h1.resolve_left (by simp)) hN.1 (fun r hr=>AU hr)
        refine bE (fun _ _=>rfl) (fun b hb=>?_) (fun _ _=>rfl) hO
        rcases hb with hb | hb
        ·exact .inl (KG H hJ Hf B b1 b2 hb)
        ·have hbf:b∈b0 :: wQ:=anE _ (hpm.mem_iff.2 (ang _ hb))
         exact .inr ⟨anj _ hbf,fun h=>hnd.2.2 b hbf b h rfl,fun h=>by
          rcases anq.1 h with h | h
          ·subst h; exact rJ.1 (hpm.mem_iff.2 (ang _ hb))
          ·exact Mj.2.2 b h b hb rfl⟩) (cZ h5) (fun b o hb=>by
       rw [Nf hk] at hb
       simp only [ane,anp] at hb
       obtain ⟨rfl,rfl⟩:=hb
       obtain ⟨m1,arr,e,lo,hi,m2,m3,m4,m5⟩:=hmem
       exact ⟨m1,arr,e,lo,hi,m2,m3,m4,fun u hu=>by rw [m5]; rw [hk] at hu; simpa using hu⟩)
     have hB2:Ak Z J is gs Bl yA Ff (au Z' (aY d ci) (aK k x.1 ow tags (.var t) false)) (aG J' (aY d ci) (b0,o0) cs dO) bC.flatten:=by
      refine ⟨fun q Q b hq hb=>?_,fun b hb=>hFf b (ang _ hb)⟩
      rcases jS hq with ⟨rfl,rfl,_⟩ | ⟨e,hq'⟩
      ·rw [fB,uU hk] at hb
       exact .inl (hFf b (anj _ (OD b hb)))
      ·rw [(gV (Z:=Z') (J:=J') (R:=aK k x.1 ow tags (.var t) false) e).blk] at hb
       exact B.blk q Q b hq' hb
     have U5:∀u v,qM Z' u->bN cx Z' J' ((b0 :: wQ)++bC.flatten) w' u v->bN cx (au Z' (aY d ci) (aK k x.1 ow tags (.var t) false)) (aG J' (aY d ci) (b0,o0) cs dO) bC.flatten w' u v:=fun u v hu hv=>
      q2.av H' (fun r R hr hs=>absurd (gV (fun e=>by have:=hr.1; rw [e,hn'] at this; simp at this)) hs) (fun r R hr hs=>absurd (gV (fun e=>by have:=hr.1; rw [e,hn'] at this; simp at this)) hs) hu hv
     obtain ⟨J'',k1,k2,k3,k4,k5,k6,k7,k8⟩:=ih (ci:=ci+1) q1 hB2 h4 hW (fun l tags hN t ht=>q2.tag (tY l tags hN t ht)) (fun cj hc h=>by
      rw [bP]
      ·exact hfr cj (by omega) h
      ·intro e; have:=MB e; omega) (fun b hb=>hFf b (ang _ hb)) (fun h=>absurd h (Nat.succ_ne_zero _))
     have hroot:(au Z' (aY d ci) (aK k x.1 ow tags (.var t) false)).roots (aY d ci)=some (aK k x.1 ow tags (.var t) false):=aI ..
     have Ml:qM (au Z' (aY d ci) (aK k x.1 ow tags (.var t) false)) (.ptr (aY d ci) [] 0):=⟨_,hroot, .inr (anO _)⟩
     refine ⟨J'',k1,⟨k6 _ _ Ml (by rw [h3]; exact Yf),k2⟩, ?_,k4,k5,fun u v hu hv=>?_,fun t ht=>k7 t (q2.tag ht),fun u hu=>k8 u (q2.qM hu)⟩
     ·intro v hv
      rcases anq.1 hv with h | h
      ·subst h
       exact k8 _ Ml
      ·exact k3 v h
     ·exact k6 u v (q2.qM hu) (U5 u v hu hv)
    | into j q=>
     obtain ⟨⟨rfl,_,b,n,cp,e1,e2,e3⟩,h4⟩:=hL
     obtain ⟨hci,_,rfl,rfl,i,r,q',wt,ht,R,g1,g2,g0,g3,rfl⟩:=hW
     cases us with
     | cons _ _=>exact h4.elim
     | nil=>
      cases bC with
      | cons _ _=>exact h4.elim
      | nil=>
       obtain ⟨k1,k2⟩:=hcut hci j i r q' wt ht R b n cp _ g1 g2 g0 g3 e2 e3
       simp only [aoa,aob,anJ] at H' k1
       simp only [aoa,aob,anJ] at B
       refine ⟨J',H',⟨by rw [e1]; exact k1,trivial⟩,fun v hv=>?_,rfl,B,fun _ _ _ h=>?_,fun _ h=>h,fun _ h=>h⟩
       ·simp only [anz] at hv
        subst hv
        exact k2
       ·simp only [aoa,aob,anJ] at h
        exact h
end
end
section
open Go
variable [Fr]
section
variable {P:Program} {T:jh} {cx:Cx} {Z:St} {J:dP} {F:List Nat} {a:Act} {w w':World}
theorem aaf:∀{ps:List gq} {c:Cont (kin ps)} {vs:List Value} {is:List dz} {ts:List (Value×iW)},PM cx Z J F a w ps c vs is ts->
  is.flatMap dz.ws=um ts/\(∀q∈ts,wo cx Z J F w q.1 q.2)/\(∀t∈qH ts,∃(j:Nat) (i:dz) (k:K) (ow:List TypeId),ps[j]?=some (.own k ow)/\is[j]?=some i/\t∈i.ids)/\vs.length=ps.length/\is.length=ps.length:=by
 intro ps
 induction ps with
 | nil=>
  intro c vs is ts h
  cases vs with
  | cons _ _=>exact h.elim
  | nil=>cases is with
   | cons _ _=>exact h.elim
   | nil=>cases ts with
    | cons _ _=>exact h.elim
    | nil=>exact ⟨rfl,by simp,by simp [qH],rfl,rfl⟩
 | cons p ps ih=>
  intro c vs is ts h
  cases vs with
  | nil=>cases p <;> exact h.elim
  | cons v vs=>
   cases is with
   | nil=>cases p <;> exact h.elim
   | cons i is=>
    have hshift:∀{ts:List (Value×iW)},(∀t∈qH ts,∃(j:Nat) (i:dz) (k:K) (ow:List TypeId),ps[j]?=some (.own k ow)/\is[j]?=some i/\t∈i.ids)->∀t∈qH ts,∃(j:Nat) (i':dz) (k:K) (ow:List TypeId),(p :: ps)[j]?=some (.own k ow)/\(i :: is)[j]?=some i'/\t∈i'.ids:=by
     intro ts h t ht
     obtain ⟨j,i',k,ow,h1,h2,h3⟩:=h t ht
     exact ⟨j+1,i',k,ow,by simpa using h1,by simpa using h2,h3⟩
    cases p with
    | val k iQ=>obtain ⟨⟨_,h1,_⟩,h6⟩:=h; obtain ⟨g1,g2,g3,g4,g5⟩:=ih h6; exact ⟨by simp [h1,g1],g2,hshift g3,by simp [g4],by simp [g5]⟩
    | ro k=>obtain ⟨⟨_,h1,_⟩,h6⟩:=h; obtain ⟨g1,g2,g3,g4,g5⟩:=ih h6; exact ⟨by simp [h1,g1],g2,hshift g3,by simp [g4],by simp [g5]⟩
    | rw k ow wt ht=>obtain ⟨⟨r,R,p,hP,_⟩,h6⟩:=h; obtain ⟨g1,g2,g3,g4,g5⟩:=ih h6; exact ⟨by simp [hP.ws,g1],g2,hshift g3,by simp [g4],by simp [g5]⟩
    | lI k ow wt=>obtain ⟨⟨r,R,p,hP,_⟩,h6⟩:=h; obtain ⟨g1,g2,g3,g4,g5⟩:=ih h6; exact ⟨by simp [hP.ws,g1],g2,hshift g3,by simp [g4],by simp [g5]⟩
    | fn f ks=>obtain ⟨⟨_,h1,_⟩,h6⟩:=h; obtain ⟨g1,g2,g3,g4,g5⟩:=ih h6; exact ⟨by simp [h1,g1],g2,hshift g3,by simp [g4],by simp [g5]⟩
    | own k ow=>
     cases ts with
     | nil=>exact h.elim
     | cons q ts=>
      obtain ⟨⟨h1,h2,h3,h4,h5⟩,h6⟩:=h
      obtain ⟨g1,g2,g3,g4,g5⟩:=ih h6
      refine ⟨?_, ?_, ?_,by simp [g4],by simp [g5]⟩
      ·rw [h3]; simp [g1,um]
      ·intro q' hq
       rcases anq.1 hq with h | h
       ·subst h; rw [h1]; exact h2
       ·exact g2 q' h
      ·intro t ht
       simp only [qH,anT,ann] at ht
       rcases ht with ht | ht
       ·exact ⟨0,i,k,ow,rfl,rfl,by rw [h3]; exact ht⟩
       ·exact hshift g3 t ht
    | into j q=>obtain ⟨⟨_,h1,_⟩,h6⟩:=h; obtain ⟨g1,g2,g3,g4,g5⟩:=ih h6; exact ⟨by simp [h1,g1],g2,hshift g3,by simp [g4],by simp [g5]⟩
theorem GL {r:Nat}:∀{is:List dz} {n m:Nat},yF r is n=some m->∃i q,n<=m/\is[m - n]?=some i/\i.wb=some (r,q):=by
 intro is
 induction is with
 | nil=>intro n m h; simp [yF] at h
 | cons i is ih=>
  intro n m h
  unfold yF at h
  have hrec:yF r is (n+1)=some m->∃i' q,n<=m/\(i :: is)[m - n]?=some i'/\i'.wb=some (r,q):=by
   intro h
   obtain ⟨i',q,h1,h2,h3⟩:=ih h
   refine ⟨i',q,by omega, ?_,h3⟩
   have:m - n=(m - (n+1))+1:=by omega
   rw [this]
   simpa using h2
  cases hw:i.wb with
  | none=>rw [hw] at h; exact hrec h
  | some q=>
   rw [hw] at h
   simp only at h
   cases hb:Nat.beq r q.1 with
   | true=>
    rw [hb] at h
    simp only [an0,ane] at h
    subst h
    exact ⟨i,q.2,anv _,by simp,by rw [hw,ani hb]⟩
   | false=>rw [hb] at h; exact hrec h
theorem O1 {r:Nat}:∀{is:List dz} {n:Nat},yF r is n=none->∀i∈is,∀q,i.wb≠some (r,q):=by
 intro is
 induction is with
 | nil=>intro n _ i hi; simp at hi
 | cons i is ih=>
  intro n h i' hi q he
  unfold yF at h
  rcases anq.1 hi with h' | h'
  ·subst h'
   rw [he] at h
   simp at h
  ·cases hw:i.wb with
   | none=>rw [hw] at h; exact ih h i' h' q he
   | some q'=>
    rw [hw] at h
    simp only at h
    cases hb:Nat.beq r q'.1 with
    | true=>rw [hb] at h; simp at h
    | false=>rw [hb] at h; exact ih h i' h' q he
theorem GI:∀{is:List dz} {j j':Nat} {i i':dz},BU is=true->is[j]?=some i->is[j']?=some i'->i.wb≠none->i'.wb≠none->j=j':=by
 intro is
 induction is with
 | nil=>intro j j' i i' _ h; simp at h
 | cons x is ih=>
  intro j j' i i' ho h1 h2 h3 h4
  cases j with
  | zero=>
   simp only [anU,ane] at h1
   subst h1
   cases j' with
   | zero=>rfl
   | succ j'=>
    rcases vO ho with ⟨h,_⟩ | ⟨_,h⟩
    ·exact absurd h h3
    ·exact absurd (h i' (anV (by simpa using h2))) h4
  | succ j=>
   cases j' with
   | zero=>
    simp only [anU,ane] at h2
    subst h2
    rcases vO ho with ⟨h,_⟩ | ⟨_,h⟩
    ·exact absurd h h4
    ·exact absurd (h i (anV (by simpa using h1))) h3
   | succ j'=>
    rcases vO ho with ⟨_,h⟩ | ⟨_,h⟩
    ·have:=ih h (by simpa using h1) (by simpa using h2) h3 h4; omega
    ·exact absurd (h i (anV (by simpa using h1))) h3
def Uk (is:List dz) (p:gq) (i:dz):Prop:=
 (∃(k:K) (iQ:List Nat),p=.val k iQ/\(∀m∈iQ,∃q:dz,is[m]?=some q/\q.wb≠none)/\∀t∈i.ids,(∃(n:Nat) (j':dz),yF t.1 is 0=some n/\n∈iQ/\is[n]?=some j'/\∀b∈j'.bt,b∉k.tys)\/(yF t.1 is 0=none/\t.1∉is.flatMap fun j=>j.ws.flatMap Wr.tF))\/
  ((∀k iQ,p≠.val k iQ)/\∀t∈i.ids,t.1∉is.flatMap dz.touched)
theorem KW {is:List dz}:∀{ps:List gq} {l:List dz},wJ is ps l=true->∀(j:Nat) (p:gq) (i:dz),ps[j]?=some p->l[j]?=some i->Uk is p i:=by
 intro ps
 induction ps with
 | nil=>intro l _ j p i hp; simp at hp
 | cons p ps ih=>
  intro l h j q i hq hi
  cases l with
  | nil=>cases p <;> simp [wJ] at h
  | cons x l=>
   have hhead:(j=0->q=p/\i=x):=by
    intro e
    subst e
    simp only [anU,ane] at hq hi
    exact ⟨hq.symm,hi.symm⟩
   have Zv:wJ is ps l=true->j≠0->Uk is q i:=by
    intro h hj
    obtain ⟨j',rfl⟩:∃j',j=j'+1:=⟨j - 1,by omega⟩
    exact ih h j' q i (by simpa using hq) (by simpa using hi)
   have hother:(∀(k:K) (iQ:List Nat),p≠.val k iQ)->(x.ids.all (fun t=>!az t.1 (is.flatMap dz.touched)) && wJ is ps l)=true->Uk is q i:=by
    intro hp hx
    rw [ank] at hx
    by_cases hj:j=0
    ·obtain ⟨e1,e2⟩:=hhead hj
     rw [e1,e2]
     refine .inr ⟨hp,fun t ht=>?_⟩
     have:=anu.1 hx.1 t ht
     simpa [aW] using this
    ·exact Zv hx.2 hj
   cases p with
   | val k iQ=>
    simp only [wJ,ank] at h
    by_cases hj:j=0
    ·obtain ⟨rfl,rfl⟩:=hhead hj
     refine .inl ⟨k,iQ,rfl,fun m hm=>?_,fun t ht=>?_⟩
     ·have:=anu.1 h.1.1 m hm
      cases hmi:is[m]? with
      | none=>rw [hmi] at this; simp at this
      | some q=>
       rw [hmi] at this
       refine ⟨q,rfl,fun e=>?_⟩
       simp [e] at this
     ·have:=anu.1 h.1.2 t ht
      cases hpo:yF t.1 is 0 with
      | none=>
       rw [hpo] at this
       refine .inr ⟨rfl, ?_⟩
       simpa [aW] using this
      | some n=>
       rw [hpo] at this
       simp only [ank] at this
       cases hni:is[n]? with
       | none=>rw [hni] at this; simp at this
       | some j'=>
        rw [hni] at this
        refine .inl ⟨n,j',rfl,aM.1 this.1,hni,fun b hb=>?_⟩
        have h2:=anu.1 this.2 b hb
        simpa [aW] using h2
    ·exact Zv h.2 hj
   | ro k=>exact hother (by simp) h
   | rw k ow wt ht=>exact hother (by simp) h
   | lI k ow wt=>exact hother (by simp) h
   | own k ow=>exact hother (by simp) h
   | fn f ks=>exact hother (by simp) h
   | into j q=>exact hother (by simp) h
theorem K5 {Z1:St}:∀{ps:List gq} {is:List dz} {c:Cont (lH ps)} {ws:List Wr},(∀i∈is,∀r q,i.wb=some (r,q)->Z1.roots r=Z.roots r)->u6 Z ps is c ws->u6 Z1 ps is c ws:=by
 intro ps
 induction ps with
 | nil=>
  intro is c ws _ h
  cases is with
  | nil=>exact h
  | cons _ _=>exact h.elim
 | cons p ps ih=>
  intro is c ws hr h
  cases is with
  | nil=>cases p <;> exact h.elim
  | cons i is=>
   have hr':∀i∈is,∀r q,i.wb=some (r,q)->Z1.roots r=Z.roots r:=fun i hi=>hr i (by simp [hi])
   cases p with
   | rw kk ow WZ ht0=>obtain ⟨r,p,wt,ht,R,z,ws',h1,h2,h3,h4,h5⟩:=h; exact ⟨r,p,wt,ht,R,z,ws',h1,by rw [hr i (by simp) r _ h1]; exact h2,h3,h4,ih hr' h5⟩
   | lI kk ow WZ=>obtain ⟨r,p,wt,ht,R,z,ws',h1,h2,h3,h4,h5⟩:=h; exact ⟨r,p,wt,ht,R,z,ws',h1,by rw [hr i (by simp) r _ h1]; exact h2,h3,h4,ih hr' h5⟩
   | val _ _=>exact ih hr' h
   | ro _=>exact ih hr' h
   | own _ _=>exact ih hr' h
   | fn _ _=>exact ih hr' h
   | into _ _=>exact ih hr' h
theorem Ux {as:List AV} {us:List Value} (h:eD cx Z J F w as us):jG cx Z J F w (Uw as) (WJ us):=by
 cases as with
 | nil=>cases us with
  | nil=>exact ⟨[],rfl,trivial⟩
  | cons _ _=>exact h.elim
 | cons x as=>cases us with
  | nil=>exact h.elim
  | cons u us=>
   cases as with
   | nil=>cases us with
    | nil=>exact h.1
    | cons _ _=>exact h.2.elim
   | cons y as=>cases us with
    | nil=>exact h.2.elim
    | cons u' us=>exact ⟨u :: u' :: us,rfl,h⟩
theorem Xz {as:List AV} (h:∀v∈as,qM Z v):wO Z (Uw as):=by
 cases as with
 | nil=>exact fun a ha=>by simp at ha
 | cons x as=>cases as with
  | nil=>exact h x (by simp)
  | cons y as=>exact h
theorem Df {A:Type} {f g:A->List Nat}:∀{l:List A},(∀x∈l,(g x).Sublist (f x))->(l.flatMap f).Nodup->(l.flatMap g).Nodup:=by
 intro l hs h
 refine h.sublist ?_
 clear h
 induction l with
 | nil=>simp
 | cons x l ih=>
  simp only [anT]
  exact (hs x (by simp)).append (ih (fun y hy=>hs y (by simp [hy])))
theorem F5 {A:Type} {f:A->List Nat}:∀{l:List A} {x:A},x∈l->(l.flatMap f).Nodup->(f x).Nodup:=by
 intro l
 induction l with
 | nil=>intro x hx; simp at hx
 | cons y l ih=>
  intro x hx h
  simp only [anT] at h
  have n:=anl.1 h
  rcases anq.1 hx with h1 | h1
  ·subst h1; exact n.1
  ·exact ih h1 n.2.1
theorem EO.mono {f:FuncId} {args:Array Value} {R R':Value->World->Prop} (h:EO P f args w R) (hr:∀v w',R v w'->R' v w'):EO P f args w R':=by
 rcases h with ⟨h1,h2⟩ | ⟨v,w',h1,h2⟩
 ·exact .inl ⟨h1,h2.mono fun e w' ⟨v,he,h⟩=>⟨v,he,hr _ _ h⟩⟩
 ·exact .inr ⟨v,w',h1,hr _ _ h2⟩
theorem Rp {n:Nat} {E:Entry} (hE:ak P n E) (H:Rel cx Z J F a w) {dst:Option Nat} {IM:List AV} {vs:List Value} (hl:eD cx Z J F w IM vs) (hlw:∀v∈IM,qM Z v) (hdn:∀d,dst=some d->d<cx.nt) {ws:List Wr}
  (h:(UA n E dst IM fun ws=>(.ret ws:Prog (List Wr))).ends Z ws):EO P E.f vs.toArray w fun v w'=>∃J' F',Rel cx (aB ws Z) J' F' (a.put dst v) w':=by
 unfold UA at h
 obtain ⟨c,is,ts,hG,h⟩:=OB H hl hlw h
 obtain ⟨gw,gt,gtt,gl1,gl2⟩:=aaf hG
 rcases ay h with ⟨hc,h⟩ | ⟨_,h⟩
 ·rw [ank,ank] at hc
  obtain ⟨⟨hap,ho⟩,hvo⟩:=hc
  have hnd:=vk.1 hap
  obtain ⟨out,hout,h⟩:=h
  obtain ⟨ZL,hB,h⟩:=Rm h
  have hvs:=KW hvo
  have Sc:(um ts).flatMap Wr.tF=is.flatMap fun i=>i.ws.flatMap Wr.tF:=by rw [<-gw,List.flatMap_assoc]
  have afC:((um ts).flatMap Wr.tF).Nodup:=by
   rw [Sc]
   exact Df (fun i _=>by unfold dz.touched; exact List.sublist_append_right _ _) hnd
  have afD:∀r,r∈(um ts).flatMap Wr.tF->r∈is.flatMap dz.touched:=by
   intro r hr
   rw [Sc] at hr
   obtain ⟨i,hi,h1⟩:=anR.1 hr
   exact anR.2 ⟨i,hi,by unfold dz.touched; exact ang _ h1⟩
  have afN:∀(m:Nat) (i:dz) r q,is[m]?=some i->i.wb=some (r,q)->r∉(um ts).flatMap Wr.tF:=by
   intro m i r q hi hw hr
   rw [Sc] at hr
   obtain ⟨i',hi',h1⟩:=anR.1 hr
   obtain ⟨m',hm',he⟩:=aoc.1 hi'
   have hi2:is[m']?=some i':=by rw [ant hm',he]
   have ht1:r∈i.touched:=by unfold dz.touched; rw [hw]; simp
   by_cases e:m=m'
   ·subst e
    rw [hi] at hi2
    simp only [ane] at hi2
    subst hi2
    have:=F5 hi' hnd
    unfold dz.touched at this
    rw [hw] at this
    simp only [anW,anX] at this
    exact (anN.1 this).1 h1
   ·exact flatMap_apart hnd hi hi2 e r ht1 (by unfold dz.touched; exact ang _ h1)
  have XY:∀(j:Nat) (i:dz),is[j]?=some i->∀t∈i.ids,t.1∉(um ts).flatMap Wr.tF:=by
   intro j i hi t ht hr
   have hj:j<E.ps.length:=by have:=(anZ.1 hi).1; omega
   rcases hvs j E.ps[j] i (ant hj) hi with ⟨k,iQ,_,_,h1⟩ | ⟨_,h1⟩
   ·rcases h1 t ht with ⟨n,j',h2,_,_,_⟩ | ⟨_,h2⟩
    ·obtain ⟨i',q,_,h3,h4⟩:=GL h2
     simp only [Nat.sub_zero] at h3
     exact afN n i' t.1 q h3 h4 hr
    ·exact h2 (by rw [<-Sc]; exact hr)
   ·exact h1 t ht (afD _ hr)
  obtain ⟨dR,F1,hs,H1,hA1,BI,hnF1,ama,hS1,_,hV1,afI,abb⟩:=takes ts H gt afC (fun t ht=>by
   obtain ⟨j,i,k,ow,h1,h2,h3⟩:=gtt t ht
   exact XY j i h2 t h3)
  have aeY:∀i∈is,∀t∈i.ids,Same Z J (aB (um ts) Z) dR t.1:=by
   intro i hi t ht
   obtain ⟨j,hj,he⟩:=aoc.1 hi
   exact hS1 _ (XY j i (by rw [ant hj,he]) t ht)
  have aeZ:∀i∈is,∀r q,i.wb=some (r,q)->Same Z J (aB (um ts) Z) dR r:=by
   intro i hi r q hw
   obtain ⟨j,hj,he⟩:=aoc.1 hi
   exact hS1 _ (afN j i r q (by rw [ant hj,he]) hw)
  obtain ⟨gs,hJ,hfl⟩:=NN H1 hV1 hG hA1 aeY aeZ
  obtain ⟨lv,li,lg,hat⟩:=hJ.at (i0:=0)
  have hA:Apart cx (aB (um ts) Z) dR F1 w E.ps is gs:=by
   refine ⟨fun j j' g g' hg hg' hw hw'=>?_,by rw [hfl]; exact BI,fun j p i r n hp hi hn m i' q hm hq=>?_,fun j p hp m hm=>?_⟩
   ·have hget:∀{j:Nat} {g:GA},gs[j]?=some g->g.wb=true->∃i,is[j]?=some i/\i.wb≠none:=by
     intro j g hg hw
     have hj:j<E.ps.length:=by have:=(anZ.1 hg).1; omega
     obtain ⟨cj,v,i,g',e1,e2,e3,e4,_⟩:=hat j E.ps[j] (ant hj)
     rw [hg] at e3
     simp only [ane] at e3
     subst e3
     exact ⟨i,e2,(nS H1 e4).2.2.2.1 hw⟩
    obtain ⟨i,h1,h2⟩:=hget hg hw
    obtain ⟨i',h3,h4⟩:=hget hg' hw'
    exact GI ho h1 h3 h2 h4
   ·rcases hvs j p i hp hi with ⟨k,iQ,h0,_,h1⟩ | ⟨_,h1⟩
    ·rcases h1 (r,n) hn with ⟨n',j',h2,h3,h4,h5⟩ | ⟨h2,_⟩
     ·obtain ⟨i'',q',_,h6,h7⟩:=GL h2
      simp only [Nat.sub_zero] at h6
      have e:=GI ho h6 hm (by rw [h7]; simp) (by rw [hq]; simp)
      subst e
      rw [hm] at h4
      simp only [ane] at h4
      subst h4
      subst h0
      exact ⟨h3,k,iQ,rfl,h5⟩
     ·exact absurd hq (O1 h2 i' (anV hm) q)
    ·refine absurd ?_ (h1 (r,n) hn)
     exact anR.2 ⟨i',anV hm,by unfold dz.touched; rw [hq]; simp⟩
   ·have hj:j<is.length:=by have:=(anZ.1 hp).1; omega
    rcases hvs j p is[j] hp (ant hj) with ⟨k,iQ,h0,h1,_⟩ | ⟨h0,_⟩
    ·subst h0
     obtain ⟨q,h2,h3⟩:=h1 m hm
     cases hw:q.wb with
     | none=>exact absurd hw h3
     | some u=>exact ⟨q,u,h2,hw⟩
    ·cases p with
     | val k iQ=>exact absurd rfl (h0 k iQ)
     | _=>simp [GM] at hm
  have hinit:=X6 H1 hJ hA
  have afy:Cw (dQ cx (aB (um ts) Z) dR F1 w E.ps c is gs) E.ps:=Iq H1 hJ
  refine (hE c out hout _ _ vs.toArray w rfl rfl (by simpa using gl1) afy hinit).mono ?_
  rintro v w' ⟨Bl,yA,Ff,af,us,bC,Hf,hv,hRL,hfn,Nl,hOL⟩
  have hB1:u6 (aB (um ts) Z) E.ps is (Cont.snd (iZ E.rs) (lH E.ps) out) ZL:=K5 (fun i hi r q hw=>(aeZ i hi r q hw).root) hB
  obtain ⟨Bj,H2,hBS,hsl2,abd,afJ,Sj,abg⟩:=NQ H1 hJ ho Hf hB1 hOL Nl hfn
  have ajY:∀l tags,Ld Z ZL l tags->fG (aB ZL (aB (um ts) Z)) tags:=by
   intro l tags hN t ht
   rcases hN.2 t ht with h | ⟨R,hf,hn⟩ | ⟨R,hr,hn⟩
   ·exact .inl h
   ·rcases Sj with rfl | ⟨r,R',rfl⟩
    ·simp at hf
    ·have hm:=List.mem_of_find?_eq_some hf
     simp only [anz,Wr.r.injEq,ane] at hm
     obtain ⟨h1,h2⟩:=hm
     refine .inr ⟨R, ?_, .inr (by rw [hn]; exact anv _)⟩
     rw [h1,h2]
     exact aI ..
   ·exact afJ t (afI t (.inr ⟨R,hr, .inr (by rw [hn]; exact anv _)⟩))
  cases dst with
  | none=>
   simp only at h
   rw [aD h,bZ,gw]
   exact ⟨Bj,_,H2⟩
  | some d=>
   simp only at h
   obtain ⟨as,ws3,hW,h⟩:=Wp h
   rw [aD h,bZ,bZ,bZ,gw]
   obtain ⟨α3,k1,k2,k3,k4,_⟩:=Ri H1 hJ Hf H2 hBS hRL hW ajY (fun cj _ hn=>abd _ (abb _ hn)) Nl (fun _ j i r q wt ht R b n cp m g1 g2 g0 g3 g4 g5=>by
    obtain ⟨Rf,R',R0,p1,p2,p3,p4,p5,p6,p7,p8⟩:=abg j i r q wt ht g0 g1 g2
    have eR:R=R':=by
     rw [p4] at g3
     simp [Wr.loc,Loc.beq] at g3
     exact g3.symm
    subst eR
    have hroot:(aB ZL (aB (um ts) Z)).roots r=some R:=by
     rw [p4]; exact aI ..
    refine ⟨⟨b,cp,rfl,fun R2 hR2 hv2 _ dd hdd=>?_⟩,R,hroot, .inr (anv _)⟩
    rw [hroot] at hR2
    simp only [ane] at hR2
    subst hR2
    obtain ⟨wh,yH⟩:=p8 hv2
    obtain ⟨hk,Au⟩:=g5 Rf ⟨p1,p2.1⟩ p3
    have hh:yA.hdr (aA j)=[.slice b n cp]:=by
     unfold VC at Au
     split at Au
     ·simp at Au
     ·exact Au.1
    exact ⟨p6,p7,n,wh,by rw [<-hh]; exact yH,g4⟩)
   refine ⟨α3,[], ?_⟩
   rw [hv]
   exact k1.put (hdn d rfl) (Xz k3) (Ux k2)
 ·exact h.elim
end
end
section
open Go
variable [Fr]
section
variable {P:Program} {T:jh} {cx:Cx} {Z:St} {J:dP} {F:List Nat} {a:Act} {w:World} {o:Oper} {ws:List Wr} {hi:Hint} {n:Nat}
def ZO (P:Program) (cx:Cx) (o:Oper) (a:Act) (w:World) (Z':St):Prop:=
 ∀(K:Act->World->Prop) (Q:Exit->Act->World->Prop),(∀J' F' a' w',Rel cx Z' J' F' a' w'->K a' w')->o.wp P a w K Q
theorem pY.toW {Z':St} (h:pY P cx o a w Z'):ZO P cx o a w Z':=fun K Q hK=>h.wp hK
def uE (P:Program) (n:Nat) (hi:Hint):Prop:=∀q∈hi.calls,ak P n q.2.2
theorem Ki {f d:Nat}:∀{l:List (Nat×Option Nat×Entry)} {E:Entry},tV f d l=some E->∃q∈l,q.2.2=E:=by
 intro l
 induction l with
 | nil=>intro E h; simp [tV] at h
 | cons q l ih=>
  intro E h
  obtain ⟨g,od,E'⟩:=q
  cases od with
  | none=>
   unfold tV at h
   cases hb:Nat.beq f g with
   | true=>rw [hb] at h; simp only [an0,ane] at h; exact ⟨_,anM,h⟩
   | false=>
    rw [hb] at h
    obtain ⟨q,h1,h2⟩:=ih h
    exact ⟨q,anE _ h1,h2⟩
  | some e=>
   unfold tV at h
   cases hb:(Nat.beq f g && Nat.beq d e) with
   | true=>rw [hb] at h; simp only [an0,ane] at h; exact ⟨_,anM,h⟩
   | false=>
    rw [hb] at h
    obtain ⟨q,h1,h2⟩:=ih h
    exact ⟨q,anE _ h1,h2⟩
theorem OQ {l m:List AV} {vs us:List Value} (h1:eD cx Z J F w l vs) (h2:eD cx Z J F w m us):eD cx Z J F w (l++m) (vs++us):=by
 induction l generalizing vs with
 | nil=>cases vs with
  | nil=>exact h2
  | cons _ _=>exact h1.elim
 | cons x l ih=>cases vs with
  | nil=>exact h1.elim
  | cons v vs=>exact ⟨h1.1,ih h1.2⟩
theorem IX:∀{cs:List (TypeId×Dat×List Tag)} {vs:List Value},lD cx Z J F w cs vs->eD cx Z J F w (cs.map fun q=>.jE q.1 q.2.1.1 q.2.1.2 q.2.2) vs
 | [],[],_=>trivial
 | _ :: _,_ :: _,h=>⟨h.1,IX h.2⟩
 | [],_ :: _,h=>h.elim
 | _ :: _,[],h=>h.elim
theorem LA (hC:uE P n hi) (H:Rel cx Z J F a w) {c:Call} (ho:o.op=.call c) (hdn:∀d,o.dst=some d->d<cx.nt) (h:(P5 hi n o.dst c fun ws=>(.ret ws:Prog (List Wr))).ends Z ws):ZO P cx o a w (aB ws Z):=by
 intro K Q hK
 unfold P5 at h
 split at h
 ·rename_i f ajy
  obtain ⟨fv,h1,h2,h⟩:=bY H h
  cases fv with
  | fn f' caps=>
   simp only at h
   obtain ⟨us,e1,e2⟩:=h1
   obtain ⟨l,h3,h4,h⟩:=jJ H h
   cases hf:tV f' (o.dst.getD 0) hi.calls with
   | none=>rw [hf] at h; exact h.elim
   | some E=>
    rw [hf] at h
    simp only at h
    rcases ay h with ⟨hb,h9⟩ | ⟨_,h⟩
    ·have hEf:E.f=f':=ani hb
     clear h
     subst hEf
     obtain ⟨q,hq,rfl⟩:=Ki hf
     have hcall:=Rp (hC q hq) H (OQ h3 (IX e2)) (fun v hv=>by
      rcases ann.1 hv with h | h
      ·exact h4 v h
      ·obtain ⟨cc,hcc,rfl⟩:=anQ.1 h
       exact h2 cc hcc) hdn h9
     have hargs:(c.args.toList.map a.eval++us).toArray=c.args.map a.eval++us.toArray:=by
      apply aod
      simp
     rw [hargs] at hcall
     have hrun:(execOp a.eval o).run P w=(callFunc q.2.2.f (c.args.map a.eval++us.toArray)).run P w:=by
      simp only [execOp,ho,resolve,ajy,e1,Deferred.ofValue,anF,anK,anx,invoke,Array.empty_append]
     unfold Oper.wp
     rw [hrun]
     rcases hcall with ⟨g1,g2⟩ | ⟨v,w',g1,J',F',g2⟩
     ·rw [g1]
      refine g2.mono fun e w' he=>?_
      obtain ⟨v,rfl,J',F',hR⟩:=he
      exact hK _ _ _ _ hR
     ·rw [g1]
      exact hK _ _ _ _ g2
    ·exact h.elim
  | _=>exact h.elim
 ·exact h.elim
theorem M9 (hT:eG P T) (hSt:HZ P T) (hC:uE P n hi) (H:Rel cx Z J F a w) (hnt:hi.nt=cx.nt) (h:(Eg T hi n o fun ws=>(.ret ws:Prog (List Wr))).ends Z ws):ZO P cx o a w (aB ws Z):=by
 unfold Eg at h
 cases hd:o.dst with
 | none=>
  rw [hd] at h
  simp only at h
  unfold ZI at h
  split at h
  ·rename_i t x v ho
   exact (Oh hT H hd ho h).toW
  ·rename_i c ho
   split at h
   ·rename_i hcb
    obtain ⟨vs,h1,h2,h⟩:=jJ H h
    split at h
    ·split at h
     ·rename_i ht0
      obtain ⟨v,w',J',r1,r2⟩:=RI hT H ho hcb h1 ht0 h
      refine (show pY P cx o a w (aB ws Z) from ⟨v,w',J',[], .inl r1, ?_⟩).toW
      rw [hd]
      exact r2
     ·exact h.elim
    ·exact h.elim
   ·exact LA hC H ho (by rw [hd]; simp) (by rw [hd]; exact h)
  ·exact h.elim
 | some d=>
  rw [hd] at h
  simp only at h
  rcases ay h with ⟨hb,h⟩ | ⟨_,h⟩
  ·have hdn:d<cx.nt:=by
    rw [<-hnt]
    unfold Nat.blt at hb
    exact aoe hb
   rcases ay h with ⟨_,h⟩ | ⟨_,h⟩
   ·exact (Kg hT H hd hdn h).toW
   rcases ay h with ⟨_,h⟩ | ⟨_,h⟩
   ·exact (LQ hT H hd hdn h).toW
   unfold ZH at h
   cases ho:o.op with
   | move x=>rw [ho] at h; exact (UI H hd hdn ho h).toW
   | assign x=>rw [ho] at h; exact (Oe (L:=Qt hi d) H hd hdn ho h).toW
   | pick c x y=>rw [ho] at h; exact (UJ H hd hdn ho h).toW
   | alloc t=>rw [ho] at h; exact (RF hT H hd hdn ho h).toW
   | box t x=>rw [ho] at h; exact (XH H hd hdn ho h).toW
   | build t ps=>rw [ho] at h; exact (IY hT H hd hdn h ho).toW
   | buildSlice t l ps=>rw [ho] at h; exact (FP (L:=Qt hi d) hT H hd hdn h ho).toW
   | load t x=>rw [ho] at h; exact (UH hT H hd hdn ho h).toW
   | nilCheck x=>rw [ho] at h; exact (Kc H hd hdn ho h).toW
   | binOp op t x y t2=>rw [ho] at h; exact (RG hT hSt H hd hdn ho h).toW
   | unOp op t x=>rw [ho] at h; exact (UK H hd hdn ho h).toW
   | convert s t x=>rw [ho] at h; exact (LJ hT H hd hdn ho h).toW
   | field t x n=>rw [ho] at h; exact (RL hT H hd hdn ho h).toW
   | fieldAddr t x n=>rw [ho] at h; exact (Ie hT H hd hdn ho h).toW
   | indexAddr t x y=>rw [ho] at h; exact (Ig hT H hd hdn ho h).toW
   | index t x y=>rw [ho] at h; exact (RN hT H hd hdn ho h).toW
   | extract x i=>rw [ho] at h; exact (LK H hd hdn ho h).toW
   | makeSlice t x y=>rw [ho] at h; exact (Ih hT H hd hdn h ho).toW
   | makeFunc f first caps=>
    rw [ho] at h
    cases f with
    | func f=>exact (Kb H hd hdn ho h).toW
    | _=>exact h.elim
   | slice t x lo hi2 mx=>rw [ho] at h; exact (RP hT H hd hdn h ho).toW
   | call c=>
    rw [ho] at h
    simp only at h
    split at h
    ·rename_i hcb; exact (XI hT H hd hdn ho hcb h).toW
    ·rename_i hcb; exact (Od hT H hd hdn ho hcb h).toW
    ·rename_i hcb; exact (FQ (mx:=false) H hd hdn ho hcb h).toW
    ·rename_i hcb; exact (FQ (mx:=true) H hd hdn ho hcb h).toW
    ·exact LA hC H ho (by rw [hd]; intro d2 e; simp only [ane] at e; subst e; exact hdn) (by rw [hd]; exact h)
    ·exact h.elim
   | _=>rw [ho] at h; exact h.elim
  ·exact h.elim
end
end
section
open Go
variable [Fr]
def Prog.qB {J:Type}:Prog J->St->List Loc->J->List Loc->Prop
 | .ret a,_,l,x,l'=>x=a/\l'=l
 | .fail,_,_,_,_=>False
 | .slot n k,Z,l,x,l'=>(k (Z.slots n)).qB Z (.s n :: l) x l'
 | .root r k,Z,l,x,l'=>(k (Z.roots r)).qB Z (.r r :: l) x l'
 | .tQ c _ k,Z,l,x,l'=>c/\k.qB Z l x l'
 | .br c t e,Z,l,x,l'=>(c=true/\t.qB Z l x l')\/(c=false/\e.qB Z l x l')
 | .opt _ o k,Z,l,x,l'=>∃b,o=some b/\(k b).qB Z l x l'
theorem Jp {J R:Type} (p:Prog J) {Z:St} {l:List Loc} {K:J->List Loc->Option R} {r:R} (h:p.EC Z l K=some r):∃x l',p.qB Z l x l'/\K x l'=some r:=by
 induction p generalizing l with
 | ret a=>exact ⟨a,l,⟨rfl,rfl⟩,h⟩
 | fail=>simp [Prog.EC] at h
 | slot n k ih=>exact ih _ h
 | root n k ih=>exact ih _ h
 | tQ c d k ih=>
  simp only [Prog.EC] at h
  split at h
  ·rename_i hc
   obtain ⟨x,l',h1,h2⟩:=ih h
   exact ⟨x,l',⟨hc,h1⟩,h2⟩
  ·simp at h
 | br c t e OL OJ=>
  simp only [Prog.EC] at h
  cases c with
  | true=>
   simp only [aof] at h
   obtain ⟨x,l',h1,h2⟩:=OL h
   exact ⟨x,l', .inl ⟨rfl,h1⟩,h2⟩
  | false=>
   simp only [anh,aog] at h
   obtain ⟨x,l',h1,h2⟩:=OJ h
   exact ⟨x,l', .inr ⟨rfl,h1⟩,h2⟩
 | opt β o k ih=>
  simp only [Prog.EC] at h
  cases o with
  | none=>simp at h
  | some b=>
   simp only [anf] at h
   obtain ⟨x,l',h1,h2⟩:=ih b h
   exact ⟨x,l',⟨b,rfl,h1⟩,h2⟩
theorem FW {J:Type} (p:Prog J) {Z:St} {l l':List Loc} {x:J} (h:p.qB Z l x l'):p.ends Z x:=by
 induction p generalizing l with
 | ret a=>exact h.1
 | fail=>exact h.elim
 | slot n k ih=>exact ih _ h
 | root n k ih=>exact ih _ h
 | tQ c d k ih=>exact ⟨h.1,ih h.2⟩
 | br c t e OL OJ=>exact h.imp (fun h=>⟨h.1,OL h.2⟩) (fun h=>⟨h.1,OJ h.2⟩)
 | opt β o k ih=>obtain ⟨b,h1,h2⟩:=h; exact ⟨b,h1,ih b h2⟩
theorem FX {J:Type} (p:Prog J) {Z:St} {x:J} (h:p.ends Z x):∀l,∃l',p.qB Z l x l':=by
 induction p with
 | ret a=>exact fun l=>⟨l,h,rfl⟩
 | fail=>exact h.elim
 | slot n k ih=>exact fun l=>ih _ h _
 | root n k ih=>exact fun l=>ih _ h _
 | tQ c d k ih=>exact fun l=>(ih h.2 l).imp fun _ h'=>⟨h.1,h'⟩
 | br c t e OL OJ=>
  intro l
  rcases h with h | h
  ·exact (OL h.2 l).imp fun _ h'=>.inl ⟨h.1,h'⟩
  ·exact (OJ h.2 l).imp fun _ h'=>.inr ⟨h.1,h'⟩
 | opt β o k ih=>obtain ⟨b,h1,h2⟩:=h; exact fun l=>(ih b h2 l).imp fun _ h'=>⟨b,h1,h'⟩
theorem CP {J:Type} (p:Prog J) {Z:St} {l l':List Loc} {x:J} (h:p.qB Z l x l'):∀y∈l,y∈l':=by
 induction p generalizing l with
 | ret a=>rw [h.2]; exact fun _ h=>h
 | fail=>exact h.elim
 | slot n k ih=>exact fun y hy=>ih _ h y (by simp [hy])
 | root n k ih=>exact fun y hy=>ih _ h y (by simp [hy])
 | tQ c d k ih=>exact ih h.2
 | br c t e OL OJ=>rcases h with h | h; exact OL h.2; exact OJ h.2
 | opt β o k ih=>obtain ⟨b,h1,h2⟩:=h; exact ih b h2
def agree (Z τ:St):Loc->Prop
 | .s n=>τ.slots n=Z.slots n
 | .r n=>τ.roots n=Z.roots n
theorem DU {J:Type} (p:Prog J) {Z τ:St} {l l':List Loc} {x:J} (h:p.qB Z l x l') (ha:∀y∈l',agree Z τ y):p.qB τ l x l':=by
 induction p generalizing l with
 | ret a=>exact h
 | fail=>exact h.elim
 | slot n k ih=>
  have h':(k (Z.slots n)).qB Z (.s n :: l) x l':=h
  have:=ha (.s n) (CP _ h' _ anM)
  show (k (τ.slots n)).qB τ _ _ _
  rw [show τ.slots n=Z.slots n from this]
  exact ih _ h
 | root n k ih=>
  have h':(k (Z.roots n)).qB Z (.r n :: l) x l':=h
  have:=ha (.r n) (CP _ h' _ anM)
  show (k (τ.roots n)).qB τ _ _ _
  rw [show τ.roots n=Z.roots n from this]
  exact ih _ h
 | tQ c d k ih=>exact ⟨h.1,ih h.2⟩
 | br c t e OL OJ=>exact h.imp (fun h=>⟨h.1,OL h.2⟩) (fun h=>⟨h.1,OJ h.2⟩)
 | opt β o k ih=>obtain ⟨b,h1,h2⟩:=h; exact ⟨b,h1,ih b h2⟩
theorem D8 {a b:Loc}:a.beq b=true↔a=b:=by
 cases a <;> cases b <;> simp [Loc.beq]
theorem MG {x:Loc} {l:List Loc}:SE x l=true↔x∈l:=by
 induction l with
 | nil=>simp [SE]
 | cons y l ih=>
  simp only [SE,anq]
  cases h:x.beq y with
  | true=>simp [D8.1 h]
  | false=>
   have:x≠y:=fun e=>by rw [e] at h; rw [(D8 (a:=y) (b:=y)).2 rfl] at h; simp at h
   simp [this,ih]
theorem Fb {a b:List Loc}:JX a b=true↔∀x∈a,x∉b:=by
 unfold JX
 rw [anu]
 refine ⟨fun h x hx hb=>?_,fun h x hx=>?_⟩
 ·have:=h x hx
  rw [MG.2 hb] at this
  simp at this
 ·cases hm:SE x b with
  | false=>rfl
  | true=>exact absurd (MG.1 hm) (h x hx)
theorem CG (wr:Wr) (Z:St) {y:Loc} (h:y≠wr.loc):agree Z (wr.app Z) y:=by
 cases wr with
 | s n a=>
  cases y with
  | s m=>exact upd_ne _ _ (fun e=>h (by rw [e]; rfl))
  | r m=>rfl
 | r n o=>
  cases o with
  | none=>
   cases y with
   | s m=>rfl
   | r m=>exact upd_ne _ _ (fun e=>h (by rw [e]; rfl))
  | some R=>
   cases y with
   | s m=>rfl
   | r m=>exact upd_ne _ _ (fun e=>h (by rw [e]; rfl))
theorem Lm {Z τ ρ:St} {y:Loc} (h1:agree Z τ y) (h2:agree τ ρ y):agree Z ρ y:=by
 cases y with
 | s n=>exact h2.trans h1
 | r n=>exact h2.trans h1
theorem oW:∀(ws:List Wr) (Z:St) {y:Loc},y∉ws.map Wr.loc->agree Z (aB ws Z) y
 | [],Z,y,_=>by cases y <;> rfl
 | w :: ws,Z,y,h=>by
  simp only [aoh,anq,not_or] at h
  exact Lm (CG w Z h.1) (oW ws _ h.2)
theorem St.ext' {Z τ:St} (h:∀y,agree Z τ y):τ=Z:=by
 obtain ⟨s,r⟩:=Z
 obtain ⟨s',r'⟩:=τ
 have h1:s'=s:=funext fun n=>h (.s n)
 have h2:r'=r:=funext fun n=>h (.r n)
 subst h1
 subst h2
 rfl
theorem Ls (w:Wr) (Z τ:St):agree (w.app Z) (w.app τ) w.loc:=by
 cases w with
 | s n a=>show upd τ.slots n a n=upd Z.slots n a n; rw [upd_same,upd_same]
 | r n o=>cases o <;> (show upd _ n _ n=upd _ n _ n; rw [upd_same,upd_same])
theorem Uv (w:Wr) {Z τ:St} {y:Loc} (h:agree Z τ y):agree (w.app Z) (w.app τ) y:=by
 by_cases e:y=w.loc
 ·subst e; exact Ls w Z τ
 ·have h1:=CG w Z e
  have h2:=CG w τ e
  cases y with
  | s n=>exact h2.trans (h.trans h1.symm)
  | r n=>exact h2.trans (h.trans h1.symm)
theorem yP:∀(ws:List Wr) {Z τ:St} {y:Loc},agree Z τ y->agree (aB ws Z) (aB ws τ) y
 | [],_,_,_,h=>h
 | w :: ws,_,_,_,h=>yP ws (Uv w h)
theorem IJ:∀(ws:List Wr) {Z τ:St} {y:Loc},y∈ws.map Wr.loc->agree (aB ws Z) (aB ws τ) y
 | [],_,_,_,h=>by simp at h
 | w :: ws,Z,τ,y,h=>by
  simp only [aoh,anq] at h
  by_cases e:y∈ws.map Wr.loc
  ·exact IJ ws e
  ·have e2:y=w.loc:=h.resolve_right e
   subst e2
   exact yP ws (Ls w Z τ)
theorem Lp {u v:List Wr} (h:∀x∈u.map Wr.loc,x∉v.map Wr.loc) (Z:St):aB u (aB v Z)=aB v (aB u Z):=by
 refine St.ext' fun y=>?_
 by_cases hu:y∈u.map Wr.loc
 ·have h1:agree (aB u Z) (aB v (aB u Z)) y:=oW v _ (h y hu)
  have h2:agree (aB u Z) (aB u (aB v Z)) y:=IJ u hu
  cases y with
  | s n=>exact h2.trans h1.symm
  | r n=>exact h2.trans h1.symm
 ·have h1:agree (aB v Z) (aB u (aB v Z)) y:=oW u _ hu
  have h2:agree (aB v Z) (aB v (aB u Z)) y:=by
   refine yP v ?_
   have:=oW u Z hu
   cases y with
   | s n=>exact this
   | r n=>exact this
  cases y with
  | s n=>exact h1.trans h2.symm
  | r n=>exact h1.trans h2.symm
section
variable {P:Program} {T:jh} {hi:Hint} {n:Nat} {ops:Array Oper}
inductive JK (T:jh) (hi:Hint) (n:Nat) (ops:Array Oper) (o:Oper) (Z:St):List Wr->List Loc->Prop
 | plain (ws:List Wr) (rd:List Loc) (hg:guardOf ops o=none) (h:(Eg T hi n o fun ws=>(.ret ws:Prog (List Wr))).qB Z [] ws rd):JK T hi n ops o Z ws rd
 | done (s:Nat) (want:Bool) (tg:List Tag) (ws:List Wr) (rd:List Loc) (hg:guardOf ops o=some (some s,want)) (hs:Z.slots s=.one (.val .bool want tg)) (h:(Eg T hi n o fun ws=>(.ret ws:Prog (List Wr))).qB Z [.s s] ws rd):JK T hi n ops o Z ws rd
 | skip (s:Nat) (want:Bool) (hg:guardOf ops o=some (some s,want)) (hs:(∃tg,Z.slots s=.one (.val .bool (!want) tg))\/Z.slots s=.Hq []) (hd:FR hi o=true):JK T hi n ops o Z (Ef o) [.s s]
theorem JK.agree {o:Oper} {Z τ:St} {ws:List Wr} {rd:List Loc} (h:JK T hi n ops o Z ws rd) (ha:∀y∈rd,Ow.agree Z τ y):JK T hi n ops o τ ws rd:=by
 cases h with
 | plain _ _ hg h=>exact .plain ws rd hg (DU _ h ha)
 | done s want tg _ _ hg hs h=>
  have:=ha (.s s) (CP _ h _ anM)
  exact .done s want tg ws rd hg (by rw [show τ.slots s=Z.slots s from this]; exact hs) (DU _ h ha)
 | skip s want hg hs hd=>
  have:=ha (.s s) (by simp)
  exact .skip s want hg (by rw [show τ.slots s=Z.slots s from this]; exact hs) hd
theorem Jo {Z:St} {s:Nat} {b:Bool} {tg:List Tag} (h:Z.slots s=.one (.val .bool b tg)):refine Z s b tg=Z:=by
 unfold refine
 have:upd Z.slots s (.one (.val .bool b tg))=Z.slots:=by
  funext m
  by_cases e:m=s
  ·subst e; rw [upd_same,h]
  ·rw [upd_ne _ _ e]
 rw [this]
theorem Gb {R:Type} {o:Oper} {Z:St} {go skip:List Loc->St->Option R} {r:R} (h:guarded Z ops o go skip=some r) :
  (guardOf ops o=none/\go [] Z=some r)\/(∃s want tg,guardOf ops o=some (some s,want)/\Z.slots s=.one (.val .bool want tg)/\go [.s s] Z=some r)\/
  (∃s want,guardOf ops o=some (some s,want)/\((∃tg,Z.slots s=.one (.val .bool (!want) tg))\/Z.slots s=.Hq [])/\skip [.s s] Z=some r):=by
 unfold guarded at h
 cases hg:guardOf ops o with
 | none=>rw [hg] at h; exact .inl ⟨rfl,h⟩
 | some q=>
  obtain ⟨os,want⟩:=q
  rw [hg] at h
  cases os with
  | none=>simp at h
  | some s=>
   simp only at h
   refine .inr ?_
   split at h
   ·rename_i b tg hs
    cases b with
    | true=>
     simp only [aof] at h
     rw [Jo hs] at h
     cases want with
     | true=>exact .inl ⟨s,true,tg,rfl,hs,h⟩
     | false=>exact .inr ⟨s,false,rfl, .inl ⟨tg,hs⟩,h⟩
    | false=>
     simp only [anh,aog] at h
     rw [Jo hs] at h
     cases want with
     | true=>exact .inr ⟨s,true,rfl, .inl ⟨tg,hs⟩,h⟩
     | false=>exact .inl ⟨s,false,tg,rfl,hs,h⟩
   ·rename_i hs
    exact .inr ⟨s,want,rfl, .inr hs,h⟩
   ·simp at h
variable {cx:Cx} {Z:St} {J:dP} {F:List Nat} {a:Act} {w:World}
theorem Rel.skipped (H:Rel cx Z J F a w) {o:Oper} (hnt:hi.nt=cx.nt) (hd:FR hi o=true):Rel cx (aB (Ef o) Z) J F (a.put o.dst undef) w:=by
 unfold Ef FR at *
 cases ho:o.dst with
 | none=>exact H
 | some d=>
  rw [ho] at hd
  have hdn:d<cx.nt:=by
   rw [<-hnt]
   have:Nat.blt d hi.nt=true:=hd
   unfold Nat.blt at this
   exact aoe this
  exact H.put hdn (fun a ha=>by simp at ha) ⟨[],rfl,trivial⟩
theorem EM (hT:eG P T) (hSt:HZ P T) (hC:uE P n hi) (H:Rel cx Z J F a w) (hnt:hi.nt=cx.nt) {i:Nat} {o:Oper} (ho:ops[i]?=some o) {ws:List Wr} {rd:List Loc} (h:JK T hi n ops o Z ws rd)
  {K:Act->World->Prop} {Q:Exit->Act->World->Prop} (hK:∀J' F' a' w',Rel cx (aB ws Z) J' F' a' w'->K a' w'):wpOp P ops Q i K a w:=by
 unfold wpOp
 simp only [ho]
 have Vv:∀{s:Nat} {want:Bool},guardOf ops o=some (some s,want)->∃g,o.guard=some (g,want)/\(ops[g]?).bind (·.dst)=some s:=by
  intro s want hg
  unfold guardOf at hg
  cases hgd:o.guard with
  | none=>rw [hgd] at hg; simp at hg
  | some q=>
   obtain ⟨g,wt⟩:=q
   rw [hgd] at hg
   simp only [ane,anp] at hg
   exact ⟨g,by rw [hg.2],hg.1⟩
 have afK:∀{s:Nat} {v:Value},a.tmps.getD s undef=v->(∃b,v=.bool b)->a.tmps[s]?=some v:=by
  rintro s v h ⟨b,rfl⟩
  rw [an2] at h
  cases hs:a.tmps[s]? with
  | none=>rw [hs] at h; simp [undef] at h
  | some u=>rw [hs] at h; simpa using h
 cases h with
 | plain _ _ hg h=>
  have hw:Region.wanted o (yielded ops a.tmps)=true:=by
   unfold Region.wanted
   unfold guardOf at hg
   cases hgd:o.guard with
   | none=>rfl
   | some q=>rw [hgd] at hg; simp at hg
  rw [aoi hw]
  exact .inl (M9 hT hSt hC H hnt (FW _ h) K Q hK)
 | done s want tg _ _ hg hs h=>
  have hw:Region.wanted o (yielded ops a.tmps)=true:=by
   obtain ⟨g,h1,h2⟩:=Vv hg
   unfold Region.wanted
   rw [h1]
   have hb:=H.slots s
   rw [hs] at hb
   have:=xH (show bN cx Z J F w (.val .bool want tg) _ from hb)
   have h3:=afK this ⟨_,rfl⟩
   show (yielded ops a.tmps g == some want)=true
   unfold yielded
   rw [h2]
   simp only [anf,h3]
   simp
  rw [aoi hw]
  exact .inl (M9 hT hSt hC H hnt (FW _ h) K Q hK)
 | skip s want hg hs hd=>
  have hw:Region.wanted o (yielded ops a.tmps)=false:=by
   obtain ⟨g,h1,h2⟩:=Vv hg
   unfold Region.wanted
   rw [h1]
   have hb:=H.slots s
   show (yielded ops a.tmps g == some want)=false
   unfold yielded
   rw [h2]
   rcases hs with ⟨tg,hs⟩ | hs
   ·rw [hs] at hb
    have:=xH (show bN cx Z J F w (.val .bool (!want) tg) _ from hb)
    have h3:=afK this ⟨_,rfl⟩
    simp only [anf,h3]
    cases want <;> rfl
   ·rw [hs] at hb
    obtain ⟨vs,h3,h4⟩:=hb
    cases vs with
    | cons _ _=>exact h4.elim
    | nil=>
     rw [an2] at h3
     simp only [anf]
     cases hs2:a.tmps[s]? with
     | none=>rfl
     | some u=>
      rw [hs2] at h3
      simp only [aoj] at h3
      subst h3
      rfl
  rw [aok (by rw [hw]; simp)]
  exact hK _ _ _ _ (H.skipped hnt hd)
theorem Ot (hT:eG P T) (hSt:HZ P T) (hC:uE P n hi) (hnt:hi.nt=cx.nt) {R:Type} {K:St->Option R} {r:R} {Q:Exit->Act->World->Prop} (hQ:∀Z' J' F' a' w',K Z'=some r->Rel cx Z' J' F' a' w'->Q .normal a' w') :
  ∀(l:List Oper) (i:Nat) {Z:St} {J:dP} {F:List Nat} {a:Act} {w:World},ops.toList.drop i=l->BB T hi n ops l Z K=some r->Rel cx Z J F a w->wpOps P ops Q (List.range' i l.length) a w:=by
 intro l
 induction l with
 | nil=>intro i Z J F a w _ h H; exact hQ _ _ _ _ _ h H
 | cons o l ih=>
  intro i Z J F a w hl h H
  have hoi:ops[i]?=some o:=by
   have:=congrArg (fun l=>l[0]?) hl
   simpa using this
  have hl':ops.toList.drop (i+1)=l:=by
   have:=congrArg List.tail hl
   simpa using this
  simp only [anD,List.range'_succ]
  rw [wpOps_cons]
  unfold BB at h
  rcases Gb h with ⟨hg,h⟩ | ⟨s,want,tg,hg,hs,h⟩ | ⟨s,want,hg,hs,h⟩
  ·obtain ⟨ws,h1,h2⟩:=vR _ h
   obtain ⟨rd,h3⟩:∃rd,(Eg T hi n o fun ws=>(.ret ws:Prog (List Wr))).qB Z [] ws rd:=FX _ h1 []
   exact EM hT hSt hC H hnt hoi (.plain ws rd hg h3) (fun J' F' a' w' H'=>ih (i+1) hl' h2 H')
  ·obtain ⟨ws,h1,h2⟩:=vR _ h
   obtain ⟨rd,h3⟩:∃rd,(Eg T hi n o fun ws=>(.ret ws:Prog (List Wr))).qB Z [.s s] ws rd:=FX _ h1 _
   exact EM hT hSt hC H hnt hoi (.done s want tg ws rd hg hs h3) (fun J' F' a' w' H'=>ih (i+1) hl' h2 H')
  ·cases hd:FR hi o with
   | false=>rw [hd] at h; simp at h
   | true=>
    rw [hd] at h
    exact EM hT hSt hC H hnt hoi (.skip s want hg hs hd) (fun J' F' a' w' H'=>ih (i+1) hl' h H')
end
end
section
open Go
variable [Fr]
section
variable {P:Program} {T:jh} {hi:Hint} {n:Nat} {ops:Array Oper} {cx:Cx} {Z:St} {J:dP} {F:List Nat} {a:Act} {w:World}
structure Ev where
 i:Nat
 ws:List Wr
 rd:List Loc
def Ev.wr (e:Ev):List Loc:=e.ws.map Wr.loc
def Bef (ops:Array Oper) (j i:Nat):Prop:=leads ops 7 j i=true
theorem Mv {ops:Array Oper}:∀{f:Nat} {j i:Nat},leads ops f j i=true->leads ops (f+1) j i=true
 | 0,_,_,h=>by simp [leads] at h
 | f+1,j,i,h=>by
  unfold leads at h ⊢
  simp only [aol,List.any_eq_true,ank] at h ⊢
  rcases h with h | ⟨b,hb,h1,h2⟩
  ·exact .inl h
  ·exact .inr ⟨b,hb,h1,Mv h2⟩
theorem BM {ops:Array Oper} {L:Nat->Prop} (hcl:∀b,L b->∀c∈binders ops b,L c):∀{f:Nat} {j i:Nat},leads ops f j i=true->(∀c∈binders ops i,L c)->L j
 | 0,_,_,h,_=>by simp [leads] at h
 | f+1,j,i,h,hi=>by
  unfold leads at h
  simp only [aol,List.any_eq_true,ank] at h
  rcases h with h | ⟨b,hb,_,h2⟩
  ·exact hi j (aM.1 h)
  ·exact BM hcl h2 (hcl b (hi b hb))
def La (e e':Ev):Prop:=(∀x∈e.wr,x∉e'.rd++e'.wr)/\∀x∈e.rd,x∉e'.wr
def DI (T:jh) (hi:Hint) (n:Nat) (ops:Array Oper):List Ev->St->St->Prop
 | [],Z,τ=>τ=Z
 | e :: l,Z,τ=>(∃o,ops[e.i]?=some o/\JK T hi n ops o Z e.ws e.rd)/\DI T hi n ops l (aB e.ws Z) τ
def Q5 (ops:Array Oper):List Ev->Prop
 | []=>True
 | e :: l=>(∀e'∈l,Bef ops e.i e'.i\/La e e')/\Q5 ops l
theorem N8 {e e':Ev} {l:List Ev} {τ:St} (hi':La e e') (h:DI T hi n ops (e :: e' :: l) Z τ):DI T hi n ops (e' :: e :: l) Z τ:=by
 obtain ⟨⟨o,ho,h1⟩,⟨o',ho',h2⟩,h3⟩:=h
 have ha:∀y∈e'.rd,Ow.agree (aB e.ws Z) Z y:=by
  intro y hy
  have:=oW e.ws Z (y:=y) (fun hm=>hi'.1 y hm (anj _ hy))
  cases y with
  | s n=>exact this.symm
  | r n=>exact this.symm
 have hb:∀y∈e.rd,Ow.agree Z (aB e'.ws Z) y:=fun y hy=>oW e'.ws Z (hi'.2 y hy)
 refine ⟨⟨o',ho',h2.agree ha⟩,⟨o,ho,h1.agree hb⟩, ?_⟩
 rw [Lp (u:=e.ws) (v:=e'.ws) (fun x hx hx'=>hi'.1 x hx (ang _ hx'))]
 exact h3
theorem LF {e:Ev} {l:List Ev}:∀{pre:List Ev} {Z τ:St},(∀x∈pre,La x e)->DI T hi n ops (pre++e :: l) Z τ->DI T hi n ops (e :: (pre++l)) Z τ:=by
 intro pre
 induction pre with
 | nil=>intro Z τ _ h; exact h
 | cons x pre ih=>
  intro Z τ hx h
  refine N8 (hx x (by simp)) ?_
  obtain ⟨h1,h2⟩:=h
  exact ⟨h1,ih (fun y hy=>hx y (by simp [hy])) h2⟩
theorem SN {e:Ev} {l:List Ev}:∀{pre:List Ev},Q5 ops (pre++e :: l)->Q5 ops (pre++l)/\∀x∈pre,Bef ops x.i e.i\/La x e:=by
 intro pre
 induction pre with
 | nil=>intro h; exact ⟨h.2,by simp⟩
 | cons x pre ih=>
  intro h
  obtain ⟨g1,g2⟩:=ih h.2
  refine ⟨⟨fun e' he'=>h.1 e' ?_,g1⟩,fun y hy=>?_⟩
  ·rcases ann.1 he' with h | h
   ·exact anj _ h
   ·exact ang _ (anE _ h)
  ·rcases anq.1 hy with h' | h'
   ·subst h'; exact h.1 e (by simp)
   ·exact g2 y h'
theorem Oj {e:Eff} {l:List Eff} (h:DT ops e l=true):(∀b∈binders ops e.i,b<e.i)/\∀b∈l,Bef ops b.i e.i\/((∀x∈b.wr,x∉e.rd++e.wr)/\∀x∈b.rd,x∉e.wr):=by
 unfold DT at h
 simp only [ank,anu] at h
 refine ⟨fun b hb=>?_,fun b hb=>?_⟩
 ·have:=h.1 b hb
  unfold Nat.blt at this
  exact aoe this
 ·have:=h.2 b hb
  rw [aol,aol,ank] at this
  rcases this with h1 | ⟨h1,h2⟩ | h1
  ·exact .inl (by unfold Bef leads; rw [h1]; rfl)
  ·exact .inr ⟨Fb.1 h1,Fb.1 h2⟩
  ·exact .inl (Mv h1)
theorem LW {R:Type} {K:St->Option R} {r:R}:∀(l:List Oper) (i:Nat) (es:List Eff) {Z:St},ops.toList.drop i=l->FY T hi n ops l i es Z K=some r->
  ∃(evs:List Ev) (τ:St),K τ=some r/\DI T hi n ops evs Z τ/\Q5 ops evs/\evs.map (·.i)=List.range' i l.length/\(∀e∈evs,∀b∈binders ops e.i,b<e.i)/\
   ∀e∈evs,∀b∈es,Bef ops b.i e.i\/((∀x∈b.wr,x∉e.rd++e.wr)/\∀x∈b.rd,x∉e.wr):=by
 intro l
 induction l with
 | nil=>intro i es Z _ h; exact ⟨[],Z,h,rfl,trivial,rfl,by simp,by simp⟩
 | cons o l ih=>
  intro i es Z hl h
  have hoi:ops[i]?=some o:=by
   have:=congrArg (fun l=>l[0]?) hl
   simpa using this
  have hl':ops.toList.drop (i+1)=l:=by
   have:=congrArg List.tail hl
   simpa using this
  have step:∀{ws:List Wr} {rd:List Loc},JK T hi n ops o Z ws rd->DT ops ⟨i,rd,ws.map Wr.loc⟩ es=true->FY T hi n ops l (i+1) (⟨i,rd,ws.map Wr.loc⟩ :: es) (aB ws Z) K=some r->
    ∃(evs:List Ev) (τ:St),K τ=some r/\DI T hi n ops evs Z τ/\Q5 ops evs/\evs.map (·.i)=List.range' i (l.length+1)/\(∀e∈evs,∀b∈binders ops e.i,b<e.i)/\
     ∀e∈evs,∀b∈es,Bef ops b.i e.i\/((∀x∈b.wr,x∉e.rd++e.wr)/\∀x∈b.rd,x∉e.wr):=by
   intro ws rd hab hok h
   obtain ⟨evs,τ,g1,g2,g3,g4,g5,g6⟩:=ih (i+1) _ hl' h
   obtain ⟨k1,k2⟩:=Oj hok
   refine ⟨⟨i,ws,rd⟩ :: evs,τ,g1,⟨⟨o,hoi,hab⟩,g2⟩,⟨fun e' he'=>?_,g3⟩, ?_, ?_, ?_⟩
   ·exact g6 e' he' ⟨i,rd,ws.map Wr.loc⟩ (by simp)
   ·rw [List.range'_succ,aoh,g4]
   ·intro e he
    rcases anq.1 he with h | h
    ·subst h; exact k1
    ·exact g5 e h
   ·intro e he b hb
    rcases anq.1 he with h | h
    ·subst h; exact k2 b hb
    ·exact g6 e h b (by simp [hb])
  simp only [anD]
  unfold FY at h
  rcases Gb h with ⟨hg,h⟩ | ⟨s,want,tg,hg,hs,h⟩ | ⟨s,want,hg,hs,h⟩
  ·obtain ⟨ws,rd,h1,h2⟩:=Jp _ h
   cases hok:DT ops ⟨i,rd,ws.map Wr.loc⟩ es with
   | false=>rw [hok] at h2; simp at h2
   | true=>rw [hok] at h2; exact step (.plain ws rd hg h1) hok h2
  ·obtain ⟨ws,rd,h1,h2⟩:=Jp _ h
   cases hok:DT ops ⟨i,rd,ws.map Wr.loc⟩ es with
   | false=>rw [hok] at h2; simp at h2
   | true=>rw [hok] at h2; exact step (.done s want tg ws rd hg hs h1) hok h2
  ·cases hok:(FR hi o && DT ops ⟨i,[.s s],(Ef o).map Wr.loc⟩ es) with
   | false=>rw [hok] at h; simp at h
   | true=>
    rw [hok] at h
    rw [ank] at hok
    exact step (.skip s want hg hs hok.1) hok.2 h
theorem Rv (hT:eG P T) (hSt:HZ P T) (hC:uE P n hi) (hnt:hi.nt=cx.nt) {Q:Exit->Act->World->Prop} {τ:St} (hQ:∀J' F' a' w',Rel cx τ J' F' a' w'->Q .normal a' w') :
  ∀(m:Nat) (evs:List Ev) (listed:Array Bool) {Z:St} {J:dP} {F:List Nat} {a:Act} {w:World},evs.length=m->DI T hi n ops evs Z τ->Q5 ops evs->(evs.map (·.i)).Pairwise (· < ·)->(∀e∈evs,∀b∈binders ops e.i,b<e.i)->
   listed.size=ops.size->(∀j,j<ops.size->(listed.getD j false=false↔j∈evs.map (·.i)))->(∀e∈evs,e.i<ops.size)->(∀b,listed.getD b false=true->∀c∈binders ops b,listed.getD c false=true)->Rel cx Z J F a w->wpAny P .any ops Q m listed a w:=by
 intro m
 induction m with
 | zero=>
  intro evs listed Z J F a w hl hc _ _ _ hsz hlist _ _ H
  have:evs=[]:=aom hl
  subst this
  have hc':τ=Z:=hc
  subst hc'
  refine ⟨?_,hQ _ _ _ _ H⟩
  cases hr:Region.ready .any ops listed with
  | nil=>rfl
  | cons j l=>
   have hj:j∈Region.ready .any ops listed:=by rw [hr]; simp
   obtain ⟨h0,o,ho,_⟩:=mem_ready.1 hj
   have hlt:=(Array.getElem?_eq_some_iff.1 ho).1
   have:listed.getD j false=false:=by
    have hj2:j<listed.size:=by omega
    simp [hj2] at h0 ⊢
    exact h0
   exact absurd ((hlist j hlt).1 this) (by simp)
 | succ m ih=>
  intro evs listed Z J F a w hl hc hp hsort hbind hsz hlist hlt hcl H
  refine ⟨fun hr=>?_,fun j hj=>?_⟩
  ·
   exfalso
   cases evs with
   | nil=>simp at hl
   | cons e evs=>
    obtain ⟨⟨o,ho,_⟩,_⟩:=hc
    have he:e.i∈Region.ready .any ops listed:=by
     rw [mem_ready]
     have hei:=hlt e (by simp)
     have hun:=(hlist e.i hei).2 (by simp)
     refine ⟨?_,o,ho,fun q hq hb=>?_⟩
     ·have hj2:e.i<listed.size:=by omega
      simp [hj2] at hun ⊢
      exact hun
     ·have hm:q.on∈binders ops e.i:=by
       unfold binders
       rw [ho]
       simp only [aoj,anQ,anw]
       exact ⟨q,⟨Array.mem_toList_iff.2 hq,hb⟩,rfl⟩
      have hlt2:=hbind e (by simp) q.on hm
      cases hb2:listed.getD q.on false with
      | true=>rfl
      | false=>
       have:=(hlist q.on (by omega)).1 hb2
       simp only [aoh,anq] at this
       rcases this with h | h
       ·omega
       ·have hlt3:e.i<q.on:=by simpa using (List.pairwise_cons.1 hsort).1 q.on h
        omega
    rw [hr] at he
    simp at he
  ·obtain ⟨h0,o,ho,hall⟩:=mem_ready.1 hj
   have hjlt:=(Array.getElem?_eq_some_iff.1 ho).1
   have hj2:j<listed.size:=by omega
   have hun:listed.getD j false=false:=by
    simp [hj2] at h0 ⊢
    exact h0
   have hjm:=(hlist j hjlt).1 hun
   obtain ⟨e,he,hej⟩:=anQ.1 hjm
   obtain ⟨pre,post,hsplit⟩:=List.append_of_mem he
   subst hsplit
   subst hej
   obtain ⟨p1,p2⟩:=SN hp
   have hle:∀c∈binders ops e.i,listed.getD c false=true:=by
    intro c h
    unfold binders at h
    rw [ho] at h
    simp only [aoj,anQ,anw] at h
    obtain ⟨q,⟨hq,hb⟩,hon⟩:=h
    rw [<-hon]
    exact hall q (Array.mem_toList_iff.1 hq) hb
   have hpre:∀x∈pre,La x e:=by
    intro x hx
    rcases p2 x hx with h | h
    ·exfalso
     have hl2:=BM (L:=fun b=>listed.getD b false=true) hcl h hle
     have hxi:=hlt x (by simp [hx])
     have:=(hlist x.i hxi).2 (by simp only [aon,ann,anQ]; exact .inl ⟨x,hx,rfl⟩)
     rw [hl2] at this
     simp at this
    ·exact h
   have hc2:=LF hpre hc
   obtain ⟨⟨o',ho',hab⟩,hc3⟩:=hc2
   rw [ho] at ho'
   simp only [ane] at ho'
   subst ho'
   have Vr:(pre.map (·.i)++e.i :: post.map (·.i)).Pairwise (· < ·):=by simpa using hsort
   have hsub:(pre++post).Sublist (pre++e :: post):=aoo (List.sublist_cons_self _ _) _
   refine EM hT hSt hC H hnt ho hab (fun J' F' a' w' H'=>?_)
   refine ih (pre++post) (listed.setIfInBounds e.i true) (by simp at hl ⊢; omega) hc3 p1 (hsort.sublist (hsub.map _)) (fun x hx=>hbind x (hsub.subset hx)) (by simpa using hsz) (fun k hk=>?_) (fun x hx=>hlt x (hsub.subset hx)) ?_ H'
   rotate_left
   ·intro b hb c hc4
    have hset:∀k,listed.getD k false=true->(listed.setIfInBounds e.i true).getD k false=true:=fun k hk=>by
     by_cases hke:k=e.i
     ·subst hke; simp [hj2]
     ·rw [getD_set_ne false (Ne.symm hke)]; exact hk
    by_cases hbe:b=e.i
    ·subst hbe; exact hset c (hle c hc4)
    ·rw [getD_set_ne false (Ne.symm hbe)] at hb
     exact hset c (hcl b hb c hc4)
   have hnot:e.i∉(pre++post).map (·.i):=by
    intro hm
    rw [aon,ann] at hm
    rcases hm with h | h
    ·have:=(aop.1 Vr).2.2 e.i h e.i (by simp)
     omega
    ·have:=(List.pairwise_cons.1 (aop.1 Vr).2.1).1 e.i h
     omega
   by_cases hke:k=e.i
   ·subst hke
    constructor
    ·intro h
     exfalso
     simp [hj2] at h
    ·intro h; exact absurd h hnot
   ·rw [getD_set_ne false (Ne.symm hke),hlist k hk]
    simp only [aon,aoh,ann,anq]
    constructor
    ·rintro (h | h | h)
     ·exact .inl h
     ·exact absurd h hke
     ·exact .inr h
    ·rintro (h | h)
     ·exact .inl h
     ·exact .inr (.inr h)
theorem UQ (hT:eG P T) (hSt:HZ P T) (hC:uE P n hi) (hnt:hi.nt=cx.nt) {R:Type} {K:St->Option R} {r:R} {Q:Exit->Act->World->Prop} (hQ:∀Z' J' F' a' w',K Z'=some r->Rel cx Z' J' F' a' w'->Q .normal a' w')
  (h:FY T hi n ops ops.toList 0 [] Z K=some r) (H:Rel cx Z J F a w):wpAny P .any ops Q ops.size (Array.replicate ops.size false) a w:=by
 obtain ⟨evs,τ,h1,h2,h3,h4,h5,_⟩:=LW ops.toList 0 [] (by simp) h
 rw [aoq, <-List.range_eq_range'] at h4
 refine Rv hT hSt hC hnt (fun J' F' a' w' H'=>hQ _ _ _ _ _ h1 H') ops.size evs _ ?_ h2 h3 ?_ h5 (by simp) (fun j hj=>?_) (fun e he=>?_) (fun b hb=>?_) H
 rotate_left 4
 ·exfalso; by_cases hbs:b<ops.size <;> simp [hbs] at hb
 ·have:=congrArg List.length h4; simpa using this
 ·rw [h4]; exact List.pairwise_lt_range
 ·rw [h4]; simp [hj]
 ·have:e.i∈evs.map (·.i):=anQ.2 ⟨e,he,rfl⟩
  rw [h4] at this
  exact List.mem_range.1 this
end
end
section
open Go
variable [Fr]
abbrev NA:=List (Nat×K×List TypeId×List TypeId)
structure NB (cx:Cx) (jD:NA):Prop where
 par:∀j pi,cx.par j=some pi->(pi.kp=true\/∃q,pi.base=some q)->∃q,jC (aA j) jD=some q
 ptr:∀j p ts v,cx.ptrs j p ts v->∃k l,jC (aA j) jD=some (k,l)/\ts=eT p k
 ref:∀j v,cx.refs j v->∃q,jC (aA j) jD=some q
theorem tO {A:Type} {b:Bool} {x:Option A} {d:A} (h:(bif b then x else none)=some d):b=true/\x=some d:=by
 cases b with
 | true=>exact ⟨rfl,h⟩
 | false=>exact absurd h (by simp)
def KY.idl:KY->List Nat
 | .val _ ids=>ids
 | .jE _ _ ids=>ids
 | .fn _ caps=>caps.flatMap fun c=>c.2.2
 | _=>[]
def yY (rs:List Nat) (i:Nat):Prop:=gy i=true\/i∈rs
structure Am (Z:St) (jD:NA) (rs:List Nat) (r:Nat) (R R':Root):Prop where
 live:aQ Z r R
 valid:bB Z R
 form:∃ow tg ew eh,R'={ R with own:=ow,tags:=tg,w:=[],h:=[],g:=0,ew:=ew,eh:=eh }/\(∀t∈R.k.tys,az t ow=az t R.own)
 tags:∀t∈R.tags,yY rs t.1->(t.1,0)∈R'.tags
 ZJ:∀t∈R'.tags,t.2=0/\yY rs t.1/\t.1≠r
 log:∀k wt ht,jC r jD=some (k,wt,ht)->R.k=k/\R'.ew=wt/\R'.eh=ht/\(∀t∈R.w,t∈wt)/\(∀t∈R.ew,t∈wt)/\(∀t∈R.h,t∈ht)/\(∀t∈R.eh,t∈ht)/\R.g=0
structure Lf (Z:St) (jD:NA) (rs:List Nat) (Z':St):Prop where
 roots:∀r R',Z'.roots r=some R'->r∈rs/\gy r=false/\∃R,Am Z jD rs r R R'
 made:∀r∈rs,∃R',Z'.roots r=some R'
 slots:∀s,Z'.slots s=.one .undef\/∃sh av d,Z.slots s=.one av/\Ry Z rs sh av=some d/\Z'.slots s=.one (mkA sh d)/\∀i∈sh.idl,yY rs i
 jD:∀r q,jC r jD=some q->r∈rs
theorem Az:∀{p:List (Option Nat)} {q:List Stp} {c:Cont (gq.into 0 p).kin},idxOf p q=some c->pathOf p c=q
 | [],[],_,_=>rfl
 | [],_ :: _,_,h=>by simp [idxOf] at h
 | some n :: p,[],_,h=>by simp [idxOf] at h
 | some n :: p, .idx i :: q,_,h=>by simp [idxOf] at h
 | some n :: p, .gu m :: q,c,h=>by
  have h':(bif Nat.beq n m then idxOf p q else none)=some c:=h
  cases hb:Nat.beq n m with
  | false=>rw [hb] at h'; simp at h'
  | true=>
   rw [hb] at h'
   have:=ani hb
   subst this
   show Stp.gu n :: pathOf p c=_
   rw [Az (p:=p) (q:=q) (c:=c) h']
 | none :: p,[],_,h=>by simp [idxOf] at h
 | none :: p, .gu i :: q,_,h=>by simp [idxOf] at h
 | none :: p, .idx i :: q,c,h=>by
  have h':(match idxOf p q with
   | some d=>some ((i,d):Cont (gq.into 0 (none :: p)).kin)
   | none=>none)=some c:=h
  cases hq:idxOf p q with
  | none=>rw [hq] at h'; simp at h'
  | some d=>
   rw [hq] at h'
   have h2:((i,d):Cont (gq.into 0 (none :: p)).kin)=c:=anP h'
   rw [<-h2]
   show Stp.idx i :: pathOf p d=_
   rw [Az hq]
theorem uW {rs:List Nat}:∀{l:List Tag} {r:Nat},r∈oC rs l↔(∃n,(r,n)∈l)/\yY rs r
 | [],r=>by simp [oC]
 | (q,m) :: l,r=>by
  have ih:=uW (rs:=rs) (l:=l) (r:=r)
  unfold oC
  cases hb:(gy q || az q rs) && !az q (oC rs l) with
  | true=>
   simp only [an0,anq]
   simp only [ank,aol,aM] at hb
   constructor
   ·rintro (h | h)
    ·subst h
     exact ⟨⟨m, .inl rfl⟩,hb.1⟩
    ·obtain ⟨⟨n,hn⟩,h2⟩:=ih.1 h
     exact ⟨⟨n, .inr hn⟩,h2⟩
   ·rintro ⟨⟨n,h | h⟩,h2⟩
    ·exact .inl (by simpa using congrArg Prod.fst h)
    ·exact .inr (ih.2 ⟨⟨n,h⟩,h2⟩)
  | false=>
   simp only [an3]
   constructor
   ·intro h
    obtain ⟨⟨n,hn⟩,h2⟩:=ih.1 h
    exact ⟨⟨n, .tail _ hn⟩,h2⟩
   ·rintro ⟨⟨n,h⟩,h2⟩
    rcases anq.1 h with h | h
    ·have e:r=q:=by simpa using congrArg Prod.fst h
     subst e
     cases hm:az r (oC rs l) with
     | true=>exact aM.1 hm
     | false=>
      exfalso
      rw [hm] at hb
      simp only [anS,Bool.and_true,aor] at hb
      rcases h2 with h2 | h2
      ·rw [hb.1] at h2; simp at h2
      ·rw [aM.2 h2] at hb; simp at hb
    ·exact ih.2 ⟨⟨n,h⟩,h2⟩
section
variable {P:Program} {T:jh} {cx:Cx} {Z Z':St} {J:dP} {F:List Nat} {a:Act} {w:World} {jD:NA} {rs:List Nat}
theorem Am.kind {r:Nat} {R R':Root} (h:Am Z jD rs r R R'):R'.kind=R.kind/\R'.k=R.k/\R'.w=[]/\R'.h=[]/\R'.g=0/\R'.bg=R.bg:=by
 obtain ⟨ow,tg,ew,eh,rfl,_⟩:=h.form
 exact ⟨rfl,rfl,rfl,rfl,rfl,rfl⟩
theorem Am.blk {r:Nat} {R R':Root} (h:Am Z jD rs r R R'):blk J R' r=blk J R r/\dY J R' r=dY J R r:=by
 have hk:=h.kind.1
 unfold Ow.blk dY
 rw [hk]
 exact ⟨rfl,rfl⟩
theorem Lf.jc (hB:Lf Z jD rs Z') {U U':List Tag} (hU:∀t∈U,yY rs t.1->∃n,(t.1,n)∈U') {b:Nat} (h:jc cx Z J F w U b):jc cx Z' J F w U' b:=by
 obtain ⟨h1,h2,h3,h4,h5⟩:=h
 refine ⟨h1,h2,h3,fun r R' hr hb=>?_,fun hlt=>?_⟩
 ·obtain ⟨g1,g2,R,g3⟩:=hB.roots r R' hr.1
  rw [g3.blk.1] at hb
  obtain ⟨n,hn⟩:=h4 r R g3.live hb
  exact hU _ hn (.inr g1)
 ·rcases h5 hlt with ⟨j,n,g1,g2⟩ | h
  ·obtain ⟨n',hn'⟩:=hU _ g1 (.inl (jo j))
   exact .inl ⟨j,n',hn',g2⟩
  ·exact .inr h
theorem Lf.GH (hB:Lf Z jD rs Z') {U U':List Tag} (hU:∀t∈U,yY rs t.1->∃n,(t.1,n)∈U') {b:Nat} (h:GH Z J F w U b):GH Z' J F w U' b:=by
 obtain ⟨h1,h2,h4⟩:=h
 refine ⟨h1,h2,fun r R' hr hb=>?_⟩
 obtain ⟨g1,g2,R,g3⟩:=hB.roots r R' hr.1
 rw [g3.blk.1] at hb
 obtain ⟨n,hn⟩:=h4 r R g3.live hb
 exact hU _ hn (.inr g1)
theorem Yt {tags:List Tag} {ids:List Nat} (h:mY (oC rs tags) ids=true):∀t∈tags,yY rs t.1->∃n,(t.1,n)∈ids.map fun r=>((r,0):Tag):=by
 intro t ht hi
 refine ⟨0,anQ.2 ⟨t.1,kD.1 h _ (uW.2 ⟨⟨t.2,ht⟩,hi⟩),rfl⟩⟩
theorem Lf.fG (hB:Lf Z jD rs Z') {ids:List Nat} (h:∀i∈ids,yY rs i):fG Z' (ids.map fun r=>((r,0):Tag)):=by
 intro t ht
 obtain ⟨i,h1,rfl⟩:=anQ.1 ht
 rcases h i h1 with h | h
 ·exact .inl h
 ·obtain ⟨R',hR⟩:=hB.made i h
  exact .inr ⟨R',hR, .inr (anO _)⟩
theorem Lf.ro (hB:Lf Z jD rs Z') {bt:TypeId} {k:K} {x:El k} {tags:List Tag} {ids:List Nat} {v:Value} (hs:mY (oC rs tags) ids=true) (hc:bD Z (bt :: k.tys) tags=true)(hE:IZ bt ids=true)
  (h:GX cx Z J F w bt k x tags v):GX cx Z' J F w bt k x (ids.map fun r=>((r,0):Tag)) v:=by
 obtain ⟨h1,h2⟩:=h
 obtain ⟨b,o,cs,e1,e2,e3,e4,e5⟩:=h2 hc
 refine ⟨h1,fun _=>⟨b,o,cs,e1,e2,gH (fun _ _=>rfl) (fun b hb=>hB.jc (Yt hs) hb) e3,hB.GH (Yt hs) e4, ?_⟩⟩
 rcases e5 with ⟨g1,g2⟩ | h
 ·refine .inl ⟨g1,fun t ht=>?_⟩
  obtain ⟨i,h1,rfl⟩:=anQ.1 ht
  unfold IZ at hE
  rw [g1] at hE
  simp only [show Nat.beq SENT SENT=true from rfl,anH,aos,anu] at hE
  exact hE i h1
 ·exact .inr h
theorem Lf.caps (hB:Lf Z jD rs Z'):∀{cs:List (TypeId×K×List Nat)} {l:List (TypeId×Dat×List Tag)} {d:Cont (NV cs)} {vs:List Value},xX Z rs cs l=some d->(∀i∈cs.flatMap (fun c=>c.2.2),yY rs i)->lD cx Z J F w l vs->
  lD cx Z' J F w (Gx cs d) vs/\∀c∈Gx cs d,Ow.fG Z' c.2.2
 | [],[],_,[],_,_,_=>⟨trivial,by intro c hc; exact absurd hc (by simp [Gx])⟩
 | [],_ :: _,_,_,h,_,_=>by simp [xX] at h
 | _ :: _,[],_,_,h,_,_=>by simp [xX] at h
 | [],[],_,_ :: _,_,_,h=>h.elim
 | _ :: _,_ :: _,_,[],_,_,h=>h.elim
 | (t,k,ids) :: cs,(t',d,tags) :: l,c,v :: vs,h,hi,hv=>by
  simp only [xX] at h
  cases hb:Nat.beq t t' && bD Z (t :: k.tys) tags && mY (oC rs tags) ids && IZ t ids with
  | false=>rw [hb] at h; simp at h
  | true=>
   rw [hb] at h
   simp only [an0] at h
   simp only [ank] at hb
   obtain ⟨⟨⟨b1,b2⟩,b3⟩,b4⟩:=hb
   have:=ani b1
   subst this
   cases hck:bQ d.1 k d.2 with
   | none=>rw [hck] at h; simp at h
   | some x=>
    rw [hck] at h
    cases hcs:xX Z rs cs l with
    | none=>rw [hcs] at h; simp at h
    | some y=>
     rw [hcs] at h
     have h2:((x,y):Cont (NV ((t,k,ids) :: cs)))=c:=anP h
     subst h2
     obtain ⟨dk,dx⟩:=d
     obtain ⟨e,ex⟩:=bF hck
     simp only at e
     subst e
     simp only at ex
     subst ex
     have XY:∀i∈ids,yY rs i:=fun i h=>hi i (by simp [h])
     obtain ⟨g1,g2⟩:=hB.caps (vs:=vs) hcs (fun i h=>hi i (by
      rw [anT]; exact ang _ h)) hv.2
     refine ⟨⟨hB.ro b3 b2 b4 hv.1,g1⟩,fun q hq=>?_⟩
     rcases anq.1 hq with h | h
     ·subst h; exact hB.fG XY
     ·exact g2 q h
theorem Lf.av (H:Rel cx Z J F a w) (hB:Lf Z jD rs Z') {sh:KY} {av:AV} {d:Cont sh.ks} {v:Value} (hct:Ry Z rs sh av=some d) (hi:∀i∈sh.idl,yY rs i) (hv:bN cx Z J F w av v) :
  bN cx Z' J F w (mkA sh d) v/\qM Z' (mkA sh d):=by
 cases sh with
 | undef=>exact ⟨trivial,trivial⟩
 | val k ids=>
  cases av with
  | val k' x tags=>
   simp only [Ry] at hct
   cases hb:bD Z k.tys tags && mY (oC rs tags) ids with
   | false=>rw [hb] at hct; simp at hct
   | true=>
    rw [hb] at hct
    simp only [an0] at hct
    simp only [ank] at hb
    cases hck:bQ k' k x with
    | none=>rw [hck] at hct; simp at hct
    | some y=>
     rw [hck] at hct
     have h2:((y,()):Cont (KY.val k ids).ks)=d:=anP hct
     subst h2
     obtain ⟨e,ex⟩:=bF hck
     subst e
     simp only at ex
     subst ex
     refine ⟨fun _=>?_,hB.fG hi⟩
     obtain ⟨cs,g1,g2⟩:=hv (.inr hb.1)
     exact ⟨cs,g1,gH (fun _ _=>rfl) (fun b hb2=>hB.jc (Yt hb.2) hb2) g2⟩
  | _=>simp [Ry] at hct
 | jy=>
  cases av with
  | jy=>
   exact ⟨hv,trivial⟩
  | _=>simp [Ry] at hct
 | ref r=>
  cases av with
  | ref r' g=>
   obtain ⟨hb,_⟩:=tO (show (bif Nat.beq r r' && az r rs && (match Z.roots r with | some R=>Nat.beq R.g g | none=>false) then some () else none)=some d from hct)
   simp only [ank] at hb
   obtain ⟨⟨b1,b2⟩,b3⟩:=hb
   have:=ani b1
   subst this
   obtain ⟨R',hR'⟩:=hB.made r (aM.1 b2)
   refine ⟨fun Q hQ _=>?_,R',hR', .inr (anO _)⟩
   obtain ⟨_,_,R,g3⟩:=hB.roots r Q hQ.1
   rw [g3.live.1] at b3
   obtain ⟨f1,f2⟩:=hv R g3.live (ani b3)
   obtain ⟨k1,k2,_⟩:=g3.kind
   exact ⟨k1.trans f1,by rw [k2]; exact f2⟩
  | _=>simp [Ry] at hct
 | ptr r p=>
  cases av with
  | ptr r' q n=>
   obtain ⟨hb,aaS⟩:=tO (A:=Cont (gq.into 0 p).kin) (x:=idxOf p q) (show (bif Nat.beq r r' && az r rs && (match Z.roots r with | some R=>clean R.h n (eT q R.k) | none=>false) then idxOf p q else none)=some d from hct)
   simp only [ank] at hb
   obtain ⟨⟨b1,b2⟩,b3⟩:=hb
   have:=ani b1
   subst this
   have hpq:=Az aaS
   obtain ⟨R',hR'⟩:=hB.made r (aM.1 b2)
   show bN cx Z' J F w (.ptr r (pathOf p d) 0) v/\qM Z' (.ptr r (pathOf p d) 0)
   rw [hpq]
   refine ⟨⟨hv.1,fun Q hQ Kr _ hpt hg=>?_⟩,R',hR', .inr (anO _)⟩
   obtain ⟨_,_,R,g3⟩:=hB.roots r Q hQ
   rw [g3.live.1] at b3
   have hw:=(Am.blk (J:=J) g3).2
   obtain ⟨ow,tg,ew,eh,rfl,hown⟩:=g3.form
   obtain ⟨f1,f2⟩:=hv.2 R g3.live.1 g3.valid b3 (fun t ht=>by rw [<-hown t (oJ q t ht)]; exact hpt t ht) hg
   exact ⟨f1,by rw [hw]; exact f2⟩
  | _=>simp [Ry] at hct
 | jE bt k ids=>
  cases av with
  | jE bt' k' x tags=>
   simp only [Ry] at hct
   cases hb:Nat.beq bt bt' && bD Z (bt :: k.tys) tags && mY (oC rs tags) ids && IZ bt ids with
   | false=>rw [hb] at hct; simp at hct
   | true=>
    rw [hb] at hct
    simp only [an0] at hct
    simp only [ank] at hb
    obtain ⟨⟨⟨b1,b2⟩,b3⟩,b4⟩:=hb
    have:=ani b1
    subst this
    cases hck:bQ k' k x with
    | none=>rw [hck] at hct; simp at hct
    | some y=>
     rw [hck] at hct
     have h2:((y,()):Cont (KY.jE bt k ids).ks)=d:=anP hct
     subst h2
     obtain ⟨e,ex⟩:=bF hck
     subst e
     simp only at ex
     subst ex
     exact ⟨hB.ro b3 b2 b4 hv,hB.fG hi⟩
  | _=>simp [Ry] at hct
 | rA=>
  cases av with
  | rA=>
   exact ⟨hv,trivial⟩
  | _=>simp [Ry] at hct
 | fn f cs=>
  cases av with
  | fn f' caps=>
   obtain ⟨hb,aaS⟩:=tO (A:=Cont (NV cs)) (x:=xX Z rs cs caps) (show (bif Nat.beq f f' then xX Z rs cs caps else none)=some d from hct)
   have:=ani hb
   subst this
   obtain ⟨vs,e,hc⟩:=hv
   obtain ⟨g1,g2⟩:=hB.caps aaS hi hc
   exact ⟨⟨vs,e,g1⟩,g2⟩
  | _=>simp [Ry] at hct
end
end
section
open Go
variable [Fr]
section
variable {P:Program} {T:jh} {cx:Cx} {Z Z':St} {J:dP} {F:List Nat} {a:Act} {w:World} {jD:NA} {rs:List Nat}
theorem Wo (H:Rel cx Z J F a w) (hP:NB cx jD) (hB:Lf Z jD rs Z'):Rel cx Z' J F a w:=by
 have R6:∀{r:Nat} {R':Root},aQ Z' r R'->∃R,Am Z jD rs r R R':=fun h=>by
  obtain ⟨_,_,R,h⟩:=hB.roots _ _ h.1
  exact ⟨R,h⟩
 have wR:∀{j:Nat} {q},jC (aA j) jD=some q->∃R R',Z'.roots (aA j)=some R'/\Am Z jD rs (aA j) R R':=fun h=>by
  obtain ⟨R',hR'⟩:=hB.made _ (hB.jD _ _ h)
  obtain ⟨_,_,R,h⟩:=hB.roots _ _ hR'
  exact ⟨R,R',hR',h⟩
 have hsame:∀{τ:St} {r:Nat} {R Q:Root},τ.roots r=some R->τ.roots r=some Q->Q=R:=fun h1 h2=>by rw [h1] at h2; simpa using h2.symm
 refine ⟨H.defs,H.sz, ?_, ?_, ?_, ?_, ?_, ?_, ?_,H.fl,H.xK, ?_,H.frame, ?_,H.oI, ?_, ?_⟩
 ·intro j pi b o n hj hb
  obtain ⟨Q,hQ,hk,hl,hs⟩:=H.mE j pi b o n hj hb
  obtain ⟨q,hq⟩:=hP.par j pi hj (.inr ⟨_,hb⟩)
  obtain ⟨R,R',hR',h1⟩:=wR hq
  have:=hsame hQ.1 h1.live.1
  subst this
  obtain ⟨k1,k2,_,_,_,k6⟩:=h1.kind
  exact ⟨R',⟨hR',k6.trans hQ.2⟩,k1.trans hk,hl,by rw [k2]; exact hs⟩
 ·intro r R' hr hk
  obtain ⟨R,h1⟩:=R6 hr
  exact H.BX r R h1.live (h1.kind.1.symm.trans hk)
 ·intro s
  rcases hB.slots s with h | ⟨sh,av,d,h1,h2,h3,h4⟩
  ·rw [h]; trivial
  ·rw [h3]
   have:=H.slots s
   rw [h1] at this
   exact (hB.av H h2 h4 this).1
 ·intro s
  rcases hB.slots s with h | ⟨sh,av,d,h1,h2,h3,h4⟩
  ·rw [h]; trivial
  ·rw [h3]
   have:=H.slots s
   rw [h1] at this
   exact (hB.av H h2 h4 this).2
 ·intro r R' hr
  obtain ⟨R,h1⟩:=R6 hr
  have O:=H.roots r R h1.live
  have hb:=(Am.blk (J:=J) h1).1
  have hw:=(Am.blk (J:=J) h1).2
  have ht:=h1.tags
  have hv:=h1.valid
  obtain ⟨ow,tg,ew,eh,rfl,hown⟩:=h1.form
  refine ⟨fun _=>qY hown (bE (fun _ _=>rfl) (fun b hb2=>?_) (fun _ _=>rfl) (O.ow hv)),O.len, ?_, ?_, ?_⟩
  ·exact hB.jc (fun t h hi=>⟨0,ht t h hi⟩) hb2
  ·rw [hw]; exact O.mem
  ·rw [hb]; exact O.nd
  ·rw [hb]; exact O.mine
 ·intro r R' hr
  obtain ⟨g1,g2,R,h1⟩:=hB.roots r R' hr
  refine ⟨fun t ht=>?_,g2,fun n hn=>(h1.ZJ _ hn).2.2 rfl⟩
  obtain ⟨f1,f2,_⟩:=h1.ZJ t ht
  rcases f2 with h | h
  ·exact .inl h
  ·obtain ⟨Q,hQ⟩:=hB.made _ h
   exact .inr ⟨Q,hQ, .inr (by rw [f1]; exact anO _)⟩
 ·intro r R1 r' R2 h1 h2 hne b hb
  obtain ⟨Q1,g1⟩:=R6 h1
  obtain ⟨Q2,g2⟩:=R6 h2
  rw [(Am.blk (J:=J) g1).1] at hb
  rw [(Am.blk (J:=J) g2).1]
  exact H.EK r Q1 r' Q2 g1.live g2.live hne b hb
 ·intro r R' hr b hb
  obtain ⟨R,h1⟩:=R6 hr
  rw [(Am.blk (J:=J) h1).1] at hb
  exact H.iY r R h1.live b hb
 ·intro j pi hj hk
  obtain ⟨⟨k,wt,ht⟩,hq⟩:=hP.par j pi hj (.inl hk)
  obtain ⟨R,R',hR',h1⟩:=wR hq
  obtain ⟨l1,l2,l3,l4,l5,l6,l7,l8⟩:=h1.log k wt ht hq
  obtain ⟨Q,hQ,hk2⟩:=H.uf j pi hj hk
  have:=hsame h1.live.1 hQ
  subst this
  refine ⟨R',hR',fun _ b hb hnb=>?_⟩
  rcases hk2 h1.live.2 b hb hnb with ⟨e,e1,e2⟩ | ⟨g1,g2,g3⟩
  ·refine .inl ⟨e,e1, .inr ?_⟩
   rw [l2]
   rcases e2 with h | h
   ·exact l4 e h
   ·exact l5 e h
  ·refine .inr ⟨g1,g2,fun q Q hQ hbq=>?_⟩
   obtain ⟨Q0,h2⟩:=R6 hQ
   rw [(Am.blk (J:=J) h2).1] at hbq
   exact g3 q Q0 h2.live hbq
 ·intro j p ts v hv
  obtain ⟨k,⟨wt,ht⟩,hq,hts⟩:=hP.ptr j p ts v hv
  obtain ⟨R,R',hR',h1⟩:=wR hq
  obtain ⟨l1,l2,l3,l4,l5,l6,l7,l8⟩:=h1.log k wt ht hq
  obtain ⟨f1,Q,hQ,f2⟩:=H.vJ j p ts v hv
  have:=hsame h1.live.1 hQ
  subst this
  refine ⟨f1,R',hR',fun hno=>?_⟩
  rw [l3] at hno
  have U5:=f2 (fun t h1 h2=>hno t h1 (l7 t h2))
  refine ⟨f1,fun Q2 U0 _ _ hpt hg=>?_⟩
  have:=hsame hR' U0
  subst this
  have hw:=(Am.blk (J:=J) h1).2
  have hv1:=h1.valid
  have hr1:=h1.live.1
  obtain ⟨ow,tg,ew,eh,rfl,hown⟩:=h1.form
  obtain ⟨q1,q2⟩:=U5.2 Q hr1 hv1 (by
    unfold clean
    rw [anu]
    intro t ht1
    have h3:t∈Q.h:=an6 ht1
    simp only [an7,aW]
    rw [l1, <-hts]
    exact fun h4=>hno t h4 (l6 t h3))
   (fun t ht=>by rw [<-hown t (oJ p t ht)]; exact hpt t ht) hg
  exact ⟨q1,by rw [hw]; exact q2⟩
 ·intro j v hv
  obtain ⟨⟨k,wt,ht⟩,hq⟩:=hP.ref j v hv
  obtain ⟨R,R',hR',h1⟩:=wR hq
  obtain ⟨l1,l2,l3,l4,l5,l6,l7,l8⟩:=h1.log k wt ht hq
  obtain ⟨_,f2⟩:=H.vK j v hv
  refine ⟨⟨R',hR'⟩,fun Q2 U0 _=>?_⟩
  have:=hsame hR' U0.1
  subst this
  obtain ⟨q1,q2⟩:=f2 R h1.live l8
  obtain ⟨k1,k2,_⟩:=h1.kind
  exact ⟨k1.trans q1,by rw [k2]; exact q2⟩
structure aeB (jD:NA) (rs:List Nat) (s:Y6):Prop where
 slots:∀q∈s.ss,∀i∈q.2.idl,yY rs i
 roots:∀q∈s.rs,q.1∈rs/\gy q.1=false/\(∀i∈q.2.ids,yY rs i/\i≠q.1)/\q.2.log=jC q.1 jD
 keys:∀r∈rs,∃q∈s.rs,q.1=r
 jD:∀r q,jC r jD=some q->r∈rs
theorem OU:∀{l:List (Nat×KY)} {c:Cont (Su l)},ctS Z rs l=some c->∀n,mkS l c n=.one .undef\/∃sh av d,(n,sh)∈l/\Z.slots n=.one av/\Ry Z rs sh av=some d/\mkS l c n=.one (mkA sh d)
 | [],_,_,_=>.inl rfl
 | (s,sh) :: l,c,h,n=>by
  simp only [ctS] at h
  split at h
  ·rename_i av hs
   split at h
   ·rename_i x y hx hy
    have h2:Cont.app sh.ks (Su l) x y=c:=anP h
    subst h2
    simp only [mkS]
    rw [BG,Ci]
    cases hb:Nat.beq n s with
    | true=>
     have:=ani hb
     subst this
     exact .inr ⟨sh,av,x,by simp,hs,hx,rfl⟩
    | false=>
     rcases OU hy n with h | ⟨sh',av',d,g1,g2,g3,g4⟩
     ·exact .inl h
     ·exact .inr ⟨sh',av',d, .tail _ g1,g2,g3,g4⟩
   ·simp at h
  ·split at h
   ·split at h
    ·rename_i d hd
     have h2:d=c:=anP h
     subst h2
     simp only [mkS]
     cases hb:Nat.beq n s with
     | true=>exact .inl rfl
     | false=>
      rcases OU hd n with h | ⟨sh',av',d,g1,g2,g3,g4⟩
      ·exact .inl h
      ·exact .inr ⟨sh',av',d, .tail _ g1,g2,g3,g4⟩
    ·simp at h
   ·simp at h
theorem Ws {a b:DK} (h:Wq a b=true):a=b:=by
 cases a <;> cases b <;> simp_all [Wq]
theorem VY:∀{l:List (Nat×Lg)} {c:Cont (WX l)},ctR Z rs l=some c->∀n R',Zy l c n=some R'->∃sh R,(n,sh)∈l/\Z.roots n=some R/\bB Z R/\mY (oC rs R.tags) sh.ids=true/\aby R sh.log=true/\
   (∀t∈R.k.tys,az t sh.own=az t R.own)/\R'={ R with own:=sh.own,tags:=sh.ids.map fun r=>(r,0),w:=[],h:=[],g:=0,ew:=afV sh.log,eh:=afU sh.log }
 | [],_,_,_,_,h=>by simp [Zy] at h
 | (r,sh) :: l,c,h,n,R',hm=>by
  simp only [ctR] at h
  split at h
  ·rename_i R hR
   obtain ⟨hb,h⟩:=tO h
   split at h
   ·rename_i x y hx hy
    have h2:(x,y)=c:=anP h
    subst h2
    simp only [Zy] at hm
    cases hn:Nat.beq n r with
    | false=>
     rw [hn] at hm
     obtain ⟨sh',R2,g1,g2⟩:=VY hy n R' hm
     exact ⟨sh',R2, .tail _ g1,g2⟩
    | true=>
     rw [hn] at hm
     have:=ani hn
     subst this
     simp only [ank] at hb
     obtain ⟨⟨⟨⟨⟨⟨⟨b1,b2⟩,b3⟩,b4⟩,b5⟩,b6⟩,b7⟩,b8⟩:=hb
     obtain ⟨e,ex⟩:=bF hx
     refine ⟨sh,R,by simp,hR,⟨by simpa using b7,b1⟩,b2,b8,fun t ht=>?_, ?_⟩
     ·have:=anu.1 b3 t (e▸ht)
      simp only [beq_iff_eq] at this
      exact this.symm
     ·have b4':=Ws b4
      have b5':R.fixed=sh.fixed:=by simpa using b5
      have b6':R.keep=sh.keep:=by simpa using b6
      obtain ⟨k,ow,ids,kd,fx,kp,lg⟩:=sh
      simp only at e ex b4' b5' b6'
      obtain ⟨Rk,Rx,aav,Uh,Rw,Rh,Rg,Ug,aiU,Uf,Rew,Reh⟩:=R
      simp only at e ex b4' b5' b6'
      subst e b4' b5' b6'
      simp only at ex
      subst ex
      simp only [an0,ane] at hm
      exact hm.symm
   ·simp at h
  ·simp at h
theorem MH:∀{l:List (Nat×Lg)} (c:Cont (WX l)) {r:Nat},(∃q∈l,q.1=r)->∃R',Zy l c r=some R'
 | [],_,_,h=>by obtain ⟨q,h,_⟩:=h; simp at h
 | (s,sh) :: l,c,r,h=>by
  simp only [Zy]
  cases hb:Nat.beq r s with
  | true=>exact ⟨_,rfl⟩
  | false=>
   refine MH c.2 ?_
   obtain ⟨q,h1,h2⟩:=h
   rcases anq.1 h1 with h | h
   ·subst h; simp only at h2; subst h2; simp at hb
   ·exact ⟨q,h,h2⟩
theorem Lf.of {s:Y6} (hs:aeB jD rs s) {c:s.V} (h:Rz rs s Z=some c):Lf Z jD rs (KE s c):=by
 unfold Rz at h
 split at h
 ·rename_i x y hx hy
  have h2:Cont.app (Su s.ss) (WX s.rs) x y=c:=anP h
  subst h2
  have e1:(KE s (Cont.app (Su s.ss) (WX s.rs) x y)).slots=mkS s.ss x:=by unfold KE; rw [BG]
  have e2:(KE s (Cont.app (Su s.ss) (WX s.rs) x y)).roots=Zy s.rs y:=by unfold KE; rw [Ci]
  refine ⟨fun r R' hr=>?_,fun r hr=>?_,fun n=>?_,hs.jD⟩
  ·rw [e2] at hr
   obtain ⟨sh,R,g1,g2,g3,g4,g5,g6,g7⟩:=VY hy r R' hr
   obtain ⟨f1,f2,f3,f4⟩:=hs.roots _ g1
   refine ⟨f1,f2,R,⟨g2,g3.1⟩,g3,⟨_,_,_,_,g7,g6⟩, ?_, ?_, ?_⟩
   ·intro t ht hi
    rw [g7]
    obtain ⟨n,hn⟩:=Yt g4 t ht hi
    obtain ⟨i,hi1,hi2⟩:=anQ.1 hn
    simp only [anp] at hi2
    have h0:n=0:=hi2.2.symm
    subst h0
    exact hn
   ·intro t ht
    rw [g7] at ht
    obtain ⟨i,h1,rfl⟩:=anQ.1 ht
    exact ⟨rfl,f3 i h1⟩
   ·intro k wt ht hq
    simp only at f4
    rw [f4,hq] at g5 g7
    simp only [aby,Ah,ank,kD] at g5
    obtain ⟨p1,⟨⟨⟨p2,p3⟩,p4⟩,p5⟩,p6⟩:=g5
    subst g7
    exact ⟨K.eq_of_beq p1,rfl,rfl,p2,p3,p4,p5,ani p6⟩
  ·rw [e2]
   exact MH y (hs.keys r hr)
  ·rw [e1]
   rcases OU hx n with h | ⟨sh,av,d,g1,g2,g3,g4⟩
   ·exact .inl h
   ·exact .inr ⟨sh,av,d,g2,g3,g4,hs.slots _ g1⟩
 ·simp at h
theorem G9:∀{l:List (TypeId×Dat×List Tag)},∀i∈(G8 rs l).flatMap (fun c=>c.2.2),yY rs i
 | [],i,h=>by simp [G8] at h
 | (t,d,tags) :: l,i,h=>by
  simp only [G8,anT,ann] at h
  rcases h with h | h
  ·exact (uW.1 h).2
  ·exact G9 i h
theorem LU {rs ex:List Nat}:∀i∈UO rs ex,yY rs i:=by
 intro i hi
 unfold UO at hi
 rw [anw,aol,aM] at hi
 exact hi.2
theorem Yp {ex:List Nat} {av:AV}:∀i∈(shA rs ex av).idl,yY rs i:=by
 intro i hi
 cases av <;> simp only [shA,KY.idl,aot] at hi
 ·rcases ann.1 hi with hi | hi
  ·exact (uW.1 hi).2
  ·exact LU i hi
 ·exact (uW.1 hi).2
 ·exact G9 i hi
theorem QH {wd:List (Nat×List Nat)}:∀{l:List Nat},∀q∈shS wd rs Z l,∀i∈q.2.idl,yY rs i
 | [],q,h,_,_=>by simp [shS] at h
 | s :: l,q,h,i,hi=>by
  simp only [shS,anq] at h
  rcases h with h | h
  ·subst h
   split at hi
   ·exact Yp i hi
   ·simp [KY.idl] at hi
  ·exact QH q h i hi
theorem Wy {wd:List (Nat×List Nat)}:∀{l:List Nat} {q:List (Nat×Lg)},shR wd jD rs Z l=some q->(∀z∈q,z.1∈l/\∃R,Z.roots z.1=some R/\z.2.ids=oC rs R.tags++(UO rs (vC (2 * z.1+1) wd)).filter (fun q=>!Nat.beq q z.1)/\z.2.log=jC z.1 jD)/\∀r∈l,∃z∈q,z.1=r
 | [],q,h=>by simp [shR] at h; subst h; simp
 | r :: l,q,h=>by
  simp only [shR] at h
  split at h
  ·rename_i R q' hR hq
   obtain ⟨i1,i2⟩:=Wy hq
   simp only [ane] at h
   subst h
   refine ⟨fun z hz=>?_,fun r' hr=>?_⟩
   ·rcases anq.1 hz with h | h
    ·subst h; exact ⟨by simp,R,hR,rfl,rfl⟩
    ·obtain ⟨f1,f2⟩:=i1 z h
     exact ⟨.tail _ f1,f2⟩
   ·rcases anq.1 hr with h | h
    ·exact ⟨_,anM,h.symm⟩
    ·obtain ⟨z,z1,z2⟩:=i2 r' h
     exact ⟨z, .tail _ z1,z2⟩
  ·simp at h
theorem DX:∀{l:NA} {r:Nat} {q},jC r l=some q->∃p∈l,p.1=r
 | [],_,_,h=>by simp [jC] at h
 | (s,p) :: l,r,q,h=>by
  simp only [jC] at h
  cases hb:Nat.beq r s with
  | true=>exact ⟨_,anM,(ani hb).symm⟩
  | false=>
   rw [hb] at h
   obtain ⟨p',h1,h2⟩:=DX h
   exact ⟨p', .tail _ h1,h2⟩
theorem Yq {wd:List (Nat×List Nat)} (H:Rel cx Z J F a w) {ss:List Nat} {s:Y6} (h:abP wd jD ss rs Z=some s):aeB jD rs s:=by
 unfold abP at h
 split at h
 ·rename_i q hq
  obtain ⟨hb,h⟩:=tO h
  simp only [ane] at h
  subst h
  obtain ⟨i1,i2⟩:=Wy hq
  refine ⟨QH,fun z hz=>?_,i2,fun r q hf=>?_⟩
  ·obtain ⟨f1,R,f2,f3,f4⟩:=i1 z hz
   obtain ⟨_,g2,g3⟩:=H.dG _ R f2
   refine ⟨f1,g2,fun i hi=>?_,f4⟩
   rw [f3] at hi
   rcases ann.1 hi with hi | hi
   ·obtain ⟨⟨n,hn⟩,h2⟩:=uW.1 hi
    exact ⟨h2,fun e=>g3 n (e▸hn)⟩
   ·rw [anw] at hi
    refine ⟨LU i hi.1,fun e=>?_⟩
    subst e
    have:=hi.2
    simp at this
  ·obtain ⟨p,p1,p2⟩:=DX hf
   have:=anu.1 hb p p1
   rw [<-p2]
   exact aM.1 this
 ·simp at h
end
end
section
open Go
variable [Fr]
def exC:Exit->Option Ex
 | .normal=>some .normal
 | .exit i=>some (.exit i)
 | .ret=>some .ret
 | _=>none
section
variable {P:Program} {T:jh} {hi:Hint} {n:Nat} {cx:Cx} {Z:St} {J:dP} {F:List Nat} {a:Act} {w:World} {R:Type} {r:R} {ag:Option R->Option R->Option R}
def QK (cx:Cx) (K:Ex->St->Option R) (r:R) (e:Exit) (a:Act) (w:World):Prop:=∃x Z J F,exC e=some x/\K x Z=some r/\Rel cx Z J F a w
theorem least {p:Nat->Prop} (h:∃n,p n):∃m,p m/\∀k,p k->m<=k:=by
 obtain ⟨n,hn⟩:=h
 induction n using Nat.strongRecOn with
 | _ n ih=>
  by_cases hk:∃k,k<n/\p k
  ·obtain ⟨k,h1,h2⟩:=hk
   exact ih k h1 h2
  ·exact ⟨n,hn,fun k h=>Nat.le_of_not_lt fun hlt=>hk ⟨k,hlt,h⟩⟩
theorem aaD (hag:∀{a b z},ag a b=some z->a=some z/\b=some z) (hm:P.follows .mixedOrders=true) (hT:eG P T) (hSt:HZ P T) (hC:uE P n hi) (hnt:hi.nt=cx.nt) (hP:NB cx hi.jD) :
  ∀(code:Code) (b:Nat) {Z:St} {J:dP} {F:List Nat} {a:Act} {w:World} {K:Ex->St->Option R},den T hi n ag b code Z K=some r->Rel cx Z J F a w->code.wp P (QK cx K r) a w:=by
 intro code
 induction code with
 | skip=>intro b Z J F a w K h H; exact wp_skip ⟨_,_,_,_,rfl,h,H⟩
 | exit id=>intro b Z J F a w K h H; exact wp_exit ⟨_,_,_,_,rfl,h,H⟩
 | ret=>intro b Z J F a w K h H; exact wp_ret ⟨_,_,_,_,rfl,h,H⟩
 | seq x y ihx ihy=>
  intro b Z J F a w K h H
  refine wp_seq (wp_mono (ihx b h H) ?_)
  rintro e a' w' ⟨ex,Z',J',F',h1,h2,h3⟩
  cases e <;> simp only [exC,ane,reduceCtorEq] at h1
  ·subst h1; exact ihy b h2 h3
  ·subst h1; exact ⟨_,_,_,_,rfl,h2,h3⟩
  ·subst h1; exact ⟨_,_,_,_,rfl,h2,h3⟩
 | cond c x y ihx ihy=>
  intro b Z J F a w K h H
  simp only [den] at h
  obtain ⟨v0,h1,h2⟩:=vR _ h
  obtain ⟨v,g1,g2,g3⟩:=bY H h1
  have ev:v0=v:=g3
  subst ev
  have hplain:((asBool v0 .ret).run Z fun t=>if t=true then den T hi n ag b x Z K else den T hi n ag b y Z K)=some r->Code.wp P (.cond c x y) (QK cx K r) a w:=by
   intro h2
   obtain ⟨t,h3,h4⟩:=vR _ h2
   obtain ⟨b',e1,e2⟩:=Fg g1 h3
   have e2':t=b':=e2
   subst e2'
   refine wp_cond (t:=t) e1 ?_
   cases t with
   | true=>exact ihx b h4 H
   | false=>exact ihy b h4 H
  cases v0 with
  | yI e=>
   simp only at h2
   obtain ⟨b',e1,e2⟩:=g1
   refine wp_cond (t:=b') e1 ?_
   cases b' with
   | true=>
    rw [aoi (e2 rfl)] at h2
    exact ihx b (hag h2).1 H
   | false=>
    split at h2
    ·exact ihy b (hag h2).2 H
    ·exact ihy b h2 H
  | _=>exact hplain h2
 | block id x ih=>
  intro b Z J F a w K h H
  simp only [den] at h
  refine wp_block (wp_mono (ih id h H) ?_)
  rintro e a' w' ⟨ex,Z',J',F',h1,h2,h3⟩
  cases e <;> simp only [exC,ane,reduceCtorEq] at h1
  ·subst h1; exact ⟨_,_,_,_,rfl,h2,h3⟩
  ·rename_i i
   subst h1
   simp only at h2
   unfold Exit.inBlock
   simp only
   cases hb:Nat.beq i id with
   | true=>
    rw [hb] at h2
    rw [aoi (ani hb)]
    exact ⟨_,_,_,_,rfl,h2,h3⟩
   | false=>
    rw [hb] at h2
    rw [aok (aou hb)]
    exact ⟨_,_,_,_,rfl,h2,h3⟩
  ·subst h1; exact ⟨_,_,_,_,rfl,h2,h3⟩
 | loop x ih=>
  intro b Z J F a w K h H
  simp only [den] at h
  split at h
  ·rename_i ss rs hf
   split at h
   ·rename_i s hs
    obtain ⟨αl,Hl⟩:=Kw hi rs H
    have hok:=Yq Hl hs
    split at h
    ·rename_i c hc
     have H0:=Wo Hl hP (Lf.of hok hc)
     generalize hB:(fun (L:s.V->Option R) v=>den T hi n ag b x (KE s v) fun
      | .normal,Z'=>match Rz rs s (AP hi rs Z') with
       | some v'=>L v'
       | none=>none
      | e,Z'=>K e Z')=B at h
     have XP:∀(L:s.V->Option R) v,B L v=den T hi n ag b x (KE s v) fun
      | .normal,Z'=>match Rz rs s (AP hi rs Z') with
       | some v'=>L v'
       | none=>none
      | e,Z'=>K e Z':=fun L v=>by rw [<-hB]
     let I:Nat->Act->World->Prop:=fun m a w=>∃v J F,rounds B m v=some r/\Rel cx (KE s v) J F a w
     have hex:∀{m:Nat} {a:Act} {w:World},I m a w->∃m,I m a w:=fun h=>⟨_,h⟩
     classical
     refine wp_loop (fun a w=>∃m,I m a w) (fun a w=>if h:∃m,I m a w then Classical.choose (least h) else 0) ⟨_,_,_,_,h,H0⟩ ?_
     intro a w hI
     rw [dif_pos hI]
     have hI2:=(Classical.choose_spec (least hI)).1
     generalize Classical.choose (least hI)=m at hI2
     obtain ⟨v,J,F,h1,h2⟩:=hI2
     cases m with
     | zero=>simp [rounds] at h1
     | succ m=>
      have h1':B (rounds B m) v=some r:=h1
      rw [XP] at h1'
      refine wp_mono (ih b h1' h2) ?_
      rintro e a' w' ⟨ex,Z',J',F',g1,g2,g3⟩
      cases e <;> simp only [exC,ane,reduceCtorEq] at g1
      ·subst g1
       simp only at g2
       split at g2
       ·rename_i v' hv'
        obtain ⟨αm,Hm⟩:=Kw hi rs g3
        have hI':I m a' w':=⟨v',_,_,g2,Wo Hm hP (Lf.of hok hv')⟩
        refine ⟨⟨m,hI'⟩, ?_⟩
        rw [dif_pos ⟨m,hI'⟩]
        exact Nat.lt_succ_of_le ((Classical.choose_spec (least ⟨m,hI'⟩)).2 m hI')
       ·simp at g2
      ·subst g1; exact ⟨_,_,_,_,rfl,g2,g3⟩
      ·subst g1; exact ⟨_,_,_,_,rfl,g2,g3⟩
    ·simp at h
   ·simp at h
  ·simp at h
 | region id ops draw=>
  intro b Z J F a w K h H
  simp only [den] at h
  cases draw with
  | true=>
   have H':Rel cx Z J F a { w with drawn:=w.drawn+1 }:=H.drawn (w.drawn+1)
   exact wp_region_any hm (UQ hT hSt hC hnt (fun Z' J' F' a' w' h1 h2=>⟨_,_,_,_,rfl,h1,h2⟩) h H')
  | false=>
   refine wp_region ?_
   have:=Ot (P:=P) (Q:=QK cx K r) hT hSt hC hnt (fun Z' J' F' a' w' h1 h2=>⟨_,_,_,_,rfl,h1,h2⟩) ops.toList 0 (by simp) h H
   rw [aoq, <-List.range_eq_range'] at this
   exact this
 | _=>intro b Z J F a w K h; simp [den] at h
end
end
end Go.Proofs.YtailcbngagacaaaGreat.Ow
