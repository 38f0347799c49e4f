/- A verified reading of translated code: values in place of memory; part F of 6, spaces and remarks taken out. No condition. Own work of this seat. -/
import Derived.Test.YtabnmpabdhmkoaaOwE
import Derived.Test.YtabnmpabdhmkoaaOwC
import Derived.Conc.MuLone
import Derived.ChangeArms
import Derived.ChangeReads
import Derived.ChangeOld
import Derived.ChangeSame
import Derived.DataShut
set_option linter.unusedSectionVars false
set_option linter.unusedVariables false
set_option linter.unusedSimpArgs false
namespace Go.Proofs.Ytabnmpabdhmkoaa.Ow
section
open Go
variable [Fr]
abbrev IK:=List (Nat×K×List TypeId×List TypeId)
structure IL (cx:Cx) (iJ:IK):Prop where
 par:∀j pi,cx.par j=some pi→(pi.kp=true∨∃q,pi.base=some q)→∃q,iI (ak j) iJ=some q
 ptr:∀j p ts v,cx.ptrs j p ts v→∃k l,iI (ak j) iJ=some (k,l)∧ts=dS p k
 ref:∀j v,cx.refs j v→∃q,iI (ak j) iJ=some q
theorem pV {A:Type} {b:Bool} {x:Option A} {d:A} (h:(bif b then x else none)=some d):b=true∧x=some d:=by
 cases b with
 | true=>exact ⟨rfl,h⟩
 | false=>exact absurd h (by simp)
def FQ.UK:FQ→List Nat
 | .val _ ids=>ids
 | .iK _ _ ids=>ids
 | .fn _ caps=>caps.flatMap fun c=>c.2.2
 | _=>[]
def vE (rs:List Nat) (i:Nat):Prop:=fC i=true∨i∈rs
structure wS (σ:St) (iJ:IK) (rs:List Nat) (r:Nat) (R R':Root):Prop where
 live:aN σ r R
 valid:bn σ R
 form:∃ow tg ew eh,R'={ R with own:=ow,tags:=tg,w:=[],h:=[],g:=0,ew:=ew,eh:=eh }∧(∀t∈R.k.tys,au t ow=au t R.own)
 tags:∀t∈R.tags,vE rs t.1→(t.1,0)∈R'.tags
 SF:∀t∈R'.tags,t.2=0∧vE rs t.1∧t.1≠r
 log:∀k wt ht,iI r iJ=some (k,wt,ht)→R.k=k∧R'.ew=wt∧R'.eh=ht∧(∀t∈R.w,t∈wt)∧(∀t∈R.ew,t∈wt)∧(∀t∈R.h,t∈ht)∧(∀t∈R.eh,t∈ht)∧R.g=0
structure F7 (σ:St) (iJ:IK) (rs:List Nat) (σ':St):Prop where
 roots:∀r R',σ'.roots r=some R'→r∈rs∧fC r=false∧∃R,wS σ iJ rs r R R'
 made:∀r∈rs,∃R',σ'.roots r=some R'
 slots:∀s,σ'.slots s=.one .undef∨∃sh av d,σ.slots s=.one av∧LF σ rs sh av=some d∧σ'.slots s=.one (Yc sh d)∧∀i∈sh.UK,vE rs i
 iJ:∀r q,iI r iJ=some q→r∈rs
theorem wX:∀{p:List (Option Nat)} {q:List Stp} {c:Cont (fA.into 0 p).kin},idxOf p q=some c→pathOf p c=q
 | [],[],_,_=>rfl
 | [],_ :: _,_,h=>by simp [idxOf] at h
 | some n :: p,[],_,h=>by simp [idxOf] at h
 | some n :: p, .idx i :: q,_,h=>by simp [idxOf] at h
 | some n :: p, .fD m :: q,c,h=>by
  have h':(bif Nat.beq n m then idxOf p q else none)=some c:=h
  cases hb:Nat.beq n m with
  | false=>rw [hb] at h'; simp at h'
  | true=>
   rw [hb] at h'
   have:=afU hb
   subst this
   show Stp.fD n :: pathOf p c=_
   rw [wX (p:=p) (q:=q) (c:=c) h']
 | none :: p,[],_,h=>by simp [idxOf] at h
 | none :: p, .fD i :: q,_,h=>by simp [idxOf] at h
 | none :: p, .idx i :: q,c,h=>by
  have h':(match idxOf p q with
   | some d=>some ((i,d):Cont (fA.into 0 (none :: p)).kin)
   | none=>none)=some c:=h
  cases hq:idxOf p q with
  | none=>rw [hq] at h'; simp at h'
  | some d=>
   rw [hq] at h'
   have h2:((i,d):Cont (fA.into 0 (none :: p)).kin)=c:=agr h'
   rw [←h2]
   show Stp.idx i :: pathOf p d=_
   rw [wX hq]
theorem qQ {rs:List Nat}:∀{l:List Tag} {r:Nat},r∈lH rs l↔(∃n,(r,n)∈l)∧vE rs r
 | [],r=>by simp [lH]
 | (q,m) :: l,r=>by
  have ih:=qQ (rs:=rs) (l:=l) (r:=r)
  unfold lH
  cases hb:(fC q || au q rs) && !au q (lH rs l) with
  | true=>
   simp only [cond_true,af2]
   simp only [afW,Bool.or_eq_true,aJ] at hb
   constructor
   ·rintro (h | h)
    ·subst h
     exact ⟨⟨m, .inl rfl⟩,hb.1⟩
    ·obtain ⟨⟨n,hn⟩,h2⟩:=ih.1 h
     exact ⟨⟨n, .inr hn⟩,h2⟩
   ·rintro ⟨⟨n,h | h⟩,h2⟩
    ·exact .inl (by simpa using congrArg Prod.fst h)
    ·exact .inr (ih.2 ⟨⟨n,h⟩,h2⟩)
  | false=>
   simp only [cond_false]
   constructor
   ·intro h
    obtain ⟨⟨n,hn⟩,h2⟩:=ih.1 h
    exact ⟨⟨n, .tail _ hn⟩,h2⟩
   ·rintro ⟨⟨n,h⟩,h2⟩
    rcases af2.1 h with h | h
    ·have e:r=q:=by simpa using congrArg Prod.fst h
     subst e
     cases hm:au r (lH rs l) with
     | true=>exact aJ.1 hm
     | false=>
      exfalso
      rw [hm] at hb
      simp only [agu,Bool.and_true,Bool.or_eq_false_iff] at hb
      rcases h2 with h2 | h2
      ·rw [hb.1] at h2; simp at h2
      ·rw [aJ.2 h2] at hb; simp at hb
    ·exact ih.2 ⟨⟨n,h⟩,h2⟩
section
variable {P:Program} {T:iD} {cx:Cx} {σ σ':St} {α:dI} {F:List Nat} {a:Act} {w:World} {iJ:IK} {rs:List Nat}
theorem wS.kind {r:Nat} {R R':Root} (h:wS σ iJ rs r R R'):R'.kind=R.kind∧R'.k=R.k∧R'.w=[]∧R'.h=[]∧R'.g=0∧R'.aZ=R.aZ:=by
 obtain ⟨ow,tg,ew,eh,rfl,_⟩:=h.form
 exact ⟨rfl,rfl,rfl,rfl,rfl,rfl⟩
theorem wS.blk {r:Nat} {R R':Root} (h:wS σ iJ rs r R R'):blk α R' r=blk α R r∧dQ α R' r=dQ α R r:=by
 have hk:=h.kind.1
 unfold Ow.blk dQ
 rw [hk]
 exact ⟨rfl,rfl⟩
theorem F7.gV (hB:F7 σ iJ rs σ') {U U':List Tag} (hU:∀t∈U,vE rs t.1→∃n,(t.1,n)∈U') {b:Nat} (h:gV cx σ α F w U b):gV cx σ' α F w U' b:=by
 obtain ⟨h1,h2,h3,h4,h5⟩:=h
 refine ⟨h1,h2,h3,fun r R' hr hb=>?_,fun hlt=>?_⟩
 ·obtain ⟨g1,g2,R,g3⟩:=hB.roots r R' hr.1
  rw [g3.blk.1] at hb
  obtain ⟨n,hn⟩:=h4 r R g3.live hb
  exact hU _ hn (.inr g1)
 ·rcases h5 hlt with ⟨j,n,g1,g2⟩ | h
  ·obtain ⟨n',hn'⟩:=hU _ g1 (.inl (iw j))
   exact .inl ⟨j,n',hn',g2⟩
  ·exact .inr h
theorem F7.Cv (hB:F7 σ iJ rs σ') {U U':List Tag} (hU:∀t∈U,vE rs t.1→∃n,(t.1,n)∈U') {b:Nat} (h:Cv σ α F w U b):Cv σ' α F w U' b:=by
 obtain ⟨h1,h2,h4⟩:=h
 refine ⟨h1,h2,fun r R' hr hb=>?_⟩
 obtain ⟨g1,g2,R,g3⟩:=hB.roots r R' hr.1
 rw [g3.blk.1] at hb
 obtain ⟨n,hn⟩:=h4 r R g3.live hb
 exact hU _ hn (.inr g1)
theorem RJ {tags:List Tag} {ids:List Nat} (h:kD (lH rs tags) ids=true):∀t∈tags,vE rs t.1→∃n,(t.1,n)∈ids.map fun r=>((r,0):Tag):=by
 intro t ht hi
 refine ⟨0,ags.2 ⟨t.1,je.1 h _ (qQ.2 ⟨⟨t.2,ht⟩,hi⟩),rfl⟩⟩
theorem F7.eG (hB:F7 σ iJ rs σ') {ids:List Nat} (h:∀i∈ids,vE rs i):eG σ' (ids.map fun r=>((r,0):Tag)):=by
 intro t ht
 obtain ⟨i,h1,rfl⟩:=ags.1 ht
 rcases h i h1 with h | h
 ·exact .inl h
 ·obtain ⟨R',hR⟩:=hB.made i h
  exact .inr ⟨R',hR, .inr (agq _)⟩
theorem F7.ro (hB:F7 σ iJ rs σ') {bt:TypeId} {k:K} {x:El k} {tags:List Tag} {ids:List Nat} {v:Value} (hs:kD (lH rs tags) ids=true) (hc:bg σ (bt :: k.tys) tags=true)(hE:DT bt ids=true)
  (h:CJ cx σ α F w bt k x tags v):CJ cx σ' α F w bt k x (ids.map fun r=>((r,0):Tag)) v:=by
 obtain ⟨h1,h2⟩:=h
 obtain ⟨b,o,cs,e1,e2,e3,e4,e5⟩:=h2 hc
 refine ⟨h1,fun _=>⟨b,o,cs,e1,e2,fI (fun _ _=>rfl) (fun b hb=>hB.gV (RJ hs) hb) e3,hB.Cv (RJ hs) e4, ?_⟩⟩
 rcases e5 with ⟨g1,g2⟩ | h
 ·refine .inl ⟨g1,fun t ht=>?_⟩
  obtain ⟨i,h1,rfl⟩:=ags.1 ht
  unfold DT at hE
  rw [g1] at hE
  simp only [show Nat.beq SENT SENT=true from rfl,agi,Bool.false_or,af5] at hE
  exact hE i h1
 ·exact .inr h
theorem F7.caps (hB:F7 σ iJ rs σ'):∀{cs:List (TypeId×K×List Nat)} {l:List (TypeId×Dat×List Tag)} {d:Cont (I4 cs)} {vs:List Value},uF σ rs cs l=some d→(∀i∈cs.flatMap (fun c=>c.2.2),vE rs i)→jB cx σ α F w l vs→
  jB cx σ' α F w (Cq cs d) vs∧∀c∈Cq cs d,Ow.eG σ' c.2.2
 | [],[],_,[],_,_,_=>⟨trivial,by intro c hc; exact absurd hc (by simp [Cq])⟩
 | [],_ :: _,_,_,h,_,_=>by simp [uF] at h
 | _ :: _,[],_,_,h,_,_=>by simp [uF] at h
 | [],[],_,_ :: _,_,_,h=>h.elim
 | _ :: _,_ :: _,_,[],_,_,h=>h.elim
 | (t,k,ids) :: cs,(t',d,tags) :: l,c,v :: vs,h,hi,hv=>by
  simp only [uF] at h
  cases hb:Nat.beq t t' && bg σ (t :: k.tys) tags && kD (lH rs tags) ids && DT t ids with
  | false=>rw [hb] at h; simp at h
  | true=>
   rw [hb] at h
   simp only [cond_true] at h
   simp only [afW] at hb
   obtain ⟨⟨⟨b1,b2⟩,b3⟩,b4⟩:=hb
   have:=afU b1
   subst this
   cases hck:bR d.1 k d.2 with
   | none=>rw [hck] at h; simp at h
   | some x=>
    rw [hck] at h
    cases hcs:uF σ rs cs l with
    | none=>rw [hcs] at h; simp at h
    | some y=>
     rw [hcs] at h
     have h2:((x,y):Cont (I4 ((t,k,ids) :: cs)))=c:=agr h
     subst h2
     obtain ⟨dk,dx⟩:=d
     obtain ⟨e,ex⟩:=bL hck
     simp only at e
     subst e
     simp only at ex
     subst ex
     have Ra:∀i∈ids,vE rs i:=fun i h=>hi i (by simp [h])
     obtain ⟨g1,g2⟩:=hB.caps (vs:=vs) hcs (fun i h=>hi i (by
      rw [List.flatMap_cons]; exact afS _ h)) hv.2
     refine ⟨⟨hB.ro b3 b2 b4 hv.1,g1⟩,fun q hq=>?_⟩
     rcases af2.1 hq with h | h
     ·subst h; exact hB.eG Ra
     ·exact g2 q h
theorem F7.av (H:Rel cx σ α F a w) (hB:F7 σ iJ rs σ') {sh:FQ} {av:AV} {d:Cont sh.ks} {v:Value} (hct:LF σ rs sh av=some d) (hi:∀i∈sh.UK,vE rs i) (hv:bH cx σ α F w av v) :
  bH cx σ' α F w (Yc sh d) v∧nW σ' (Yc sh d):=by
 cases sh with
 | undef=>exact ⟨trivial,trivial⟩
 | val k ids=>
  cases av with
  | val k' x tags=>
   simp only [LF] at hct
   cases hb:bg σ k.tys tags && kD (lH rs tags) ids with
   | false=>rw [hb] at hct; simp at hct
   | true=>
    rw [hb] at hct
    simp only [cond_true] at hct
    simp only [afW] at hb
    cases hck:bR k' k x with
    | none=>rw [hck] at hct; simp at hct
    | some y=>
     rw [hck] at hct
     have h2:((y,()):Cont (FQ.val k ids).ks)=d:=agr hct
     subst h2
     obtain ⟨e,ex⟩:=bL hck
     subst e
     simp only at ex
     subst ex
     refine ⟨fun _=>?_,hB.eG hi⟩
     obtain ⟨cs,g1,g2⟩:=hv (.inr hb.1)
     exact ⟨cs,g1,fI (fun _ _=>rfl) (fun b hb2=>hB.gV (RJ hb.2) hb2) g2⟩
  | _=>simp [LF] at hct
 | iC=>
  cases av with
  | iC=>
   exact ⟨hv,trivial⟩
  | _=>simp [LF] at hct
 | ref r=>
  cases av with
  | ref r' g=>
   obtain ⟨hb,_⟩:=pV (show (bif Nat.beq r r' && au r rs && (match σ.roots r with | some R=>Nat.beq R.g g | none=>false) then some () else none)=some d from hct)
   simp only [afW] at hb
   obtain ⟨⟨b1,b2⟩,b3⟩:=hb
   have:=afU b1
   subst this
   obtain ⟨R',hR'⟩:=hB.made r (aJ.1 b2)
   refine ⟨fun Q hQ _=>?_,R',hR', .inr (agq _)⟩
   obtain ⟨_,_,R,g3⟩:=hB.roots r Q hQ.1
   rw [g3.live.1] at b3
   obtain ⟨f1,f2⟩:=hv R g3.live (afU b3)
   obtain ⟨k1,k2,_⟩:=g3.kind
   exact ⟨k1.trans f1,by rw [k2]; exact f2⟩
  | _=>simp [LF] at hct
 | ptr r p=>
  cases av with
  | ptr r' q n=>
   obtain ⟨hb,Uj⟩:=pV (A:=Cont (fA.into 0 p).kin) (x:=idxOf p q) (show (bif Nat.beq r r' && au r rs && (match σ.roots r with | some R=>clean R.h n (dS q R.k) | none=>false) then idxOf p q else none)=some d from hct)
   simp only [afW] at hb
   obtain ⟨⟨b1,b2⟩,b3⟩:=hb
   have:=afU b1
   subst this
   have hpq:=wX Uj
   obtain ⟨R',hR'⟩:=hB.made r (aJ.1 b2)
   show bH cx σ' α F w (.ptr r (pathOf p d) 0) v∧nW σ' (.ptr r (pathOf p d) 0)
   rw [hpq]
   refine ⟨⟨hv.1,fun Q hQ Rl _ hpt hg=>?_⟩,R',hR', .inr (agq _)⟩
   obtain ⟨_,_,R,g3⟩:=hB.roots r Q hQ
   rw [g3.live.1] at b3
   have hw:=(wS.blk (α:=α) g3).2
   obtain ⟨ow,tg,ew,eh,rfl,hown⟩:=g3.form
   obtain ⟨f1,f2⟩:=hv.2 R g3.live.1 g3.valid b3 (fun t ht=>by rw [←hown t (lM q t ht)]; exact hpt t ht) hg
   exact ⟨f1,by rw [hw]; exact f2⟩
  | _=>simp [LF] at hct
 | iK bt k ids=>
  cases av with
  | iK bt' k' x tags=>
   simp only [LF] at hct
   cases hb:Nat.beq bt bt' && bg σ (bt :: k.tys) tags && kD (lH rs tags) ids && DT bt ids with
   | false=>rw [hb] at hct; simp at hct
   | true=>
    rw [hb] at hct
    simp only [cond_true] at hct
    simp only [afW] at hb
    obtain ⟨⟨⟨b1,b2⟩,b3⟩,b4⟩:=hb
    have:=afU b1
    subst this
    cases hck:bR k' k x with
    | none=>rw [hck] at hct; simp at hct
    | some y=>
     rw [hck] at hct
     have h2:((y,()):Cont (FQ.iK bt k ids).ks)=d:=agr hct
     subst h2
     obtain ⟨e,ex⟩:=bL hck
     subst e
     simp only at ex
     subst ex
     exact ⟨hB.ro b3 b2 b4 hv,hB.eG hi⟩
  | _=>simp [LF] at hct
 | oz=>
  cases av with
  | oz=>
   exact ⟨hv,trivial⟩
  | _=>simp [LF] at hct
 | fn f cs=>
  cases av with
  | fn f' caps=>
   obtain ⟨hb,Uj⟩:=pV (A:=Cont (I4 cs)) (x:=uF σ rs cs caps) (show (bif Nat.beq f f' then uF σ rs cs caps else none)=some d from hct)
   have:=afU hb
   subst this
   obtain ⟨vs,e,hc⟩:=hv
   obtain ⟨g1,g2⟩:=hB.caps Uj hi hc
   exact ⟨⟨vs,e,g1⟩,g2⟩
  | _=>simp [LF] at hct
end
end
section
open Go
variable [Fr]
section
variable {P:Program} {T:iD} {cx:Cx} {σ σ':St} {α:dI} {F:List Nat} {a:Act} {w:World} {iJ:IK} {rs:List Nat}
theorem PI (H:Rel cx σ α F a w) (hP:IL cx iJ) (hB:F7 σ iJ rs σ'):Rel cx σ' α F a w:=by
 have Mf:∀{r:Nat} {R':Root},aN σ' r R'→∃R,wS σ iJ rs r R R':=fun h=>by
  obtain ⟨_,_,R,h⟩:=hB.roots _ _ h.1
  exact ⟨R,h⟩
 have sU:∀{j:Nat} {q},iI (ak j) iJ=some q→∃R R',σ'.roots (ak j)=some R'∧wS σ iJ rs (ak j) R R':=fun h=>by
  obtain ⟨R',hR'⟩:=hB.made _ (hB.iJ _ _ h)
  obtain ⟨_,_,R,h⟩:=hB.roots _ _ hR'
  exact ⟨R,R',hR',h⟩
 have hsame:∀{τ:St} {r:Nat} {R Q:Root},τ.roots r=some R→τ.roots r=some Q→Q=R:=fun h1 h2=>by rw [h1] at h2; simpa using h2.symm
 refine ⟨H.defs,H.sz, ?_, ?_, ?_, ?_, ?_, ?_, ?_,H.fl,H.uU, ?_,H.frame, ?_,H.lK, ?_, ?_⟩
 ·intro j pi b o n hj hb
  obtain ⟨Q,hQ,hk,hl,hs⟩:=H.jT j pi b o n hj hb
  obtain ⟨q,hq⟩:=hP.par j pi hj (.inr ⟨_,hb⟩)
  obtain ⟨R,R',hR',h1⟩:=sU hq
  have:=hsame hQ.1 h1.live.1
  subst this
  obtain ⟨k1,k2,_,_,_,k6⟩:=h1.kind
  exact ⟨R',⟨hR',k6.trans hQ.2⟩,k1.trans hk,hl,by rw [k2]; exact hs⟩
 ·intro r R' hr hk
  obtain ⟨R,h1⟩:=Mf hr
  exact H.yu r R h1.live (h1.kind.1.symm.trans hk)
 ·intro s
  rcases hB.slots s with h | ⟨sh,av,d,h1,h2,h3,h4⟩
  ·rw [h]; trivial
  ·rw [h3]
   have:=H.slots s
   rw [h1] at this
   exact (hB.av H h2 h4 this).1
 ·intro s
  rcases hB.slots s with h | ⟨sh,av,d,h1,h2,h3,h4⟩
  ·rw [h]; trivial
  ·rw [h3]
   have:=H.slots s
   rw [h1] at this
   exact (hB.av H h2 h4 this).2
 ·intro r R' hr
  obtain ⟨R,h1⟩:=Mf hr
  have O:=H.roots r R h1.live
  have hb:=(wS.blk (α:=α) h1).1
  have hw:=(wS.blk (α:=α) h1).2
  have ht:=h1.tags
  have hv:=h1.valid
  obtain ⟨ow,tg,ew,eh,rfl,hown⟩:=h1.form
  refine ⟨fun _=>nV hown (bq (fun _ _=>rfl) (fun b hb2=>?_) (fun _ _=>rfl) (O.ow hv)),O.len, ?_, ?_, ?_⟩
  ·exact hB.gV (fun t h hi=>⟨0,ht t h hi⟩) hb2
  ·rw [hw]; exact O.mem
  ·rw [hb]; exact O.nd
  ·rw [hb]; exact O.mine
 ·intro r R' hr
  obtain ⟨g1,g2,R,h1⟩:=hB.roots r R' hr
  refine ⟨fun t ht=>?_,g2,fun n hn=>(h1.SF _ hn).2.2 rfl⟩
  obtain ⟨f1,f2,_⟩:=h1.SF t ht
  rcases f2 with h | h
  ·exact .inl h
  ·obtain ⟨Q,hQ⟩:=hB.made _ h
   exact .inr ⟨Q,hQ, .inr (by rw [f1]; exact agq _)⟩
 ·intro r R1 r' R2 h1 h2 hne b hb
  obtain ⟨Q1,g1⟩:=Mf h1
  obtain ⟨Q2,g2⟩:=Mf h2
  rw [(wS.blk (α:=α) g1).1] at hb
  rw [(wS.blk (α:=α) g2).1]
  exact H.AB r Q1 r' Q2 g1.live g2.live hne b hb
 ·intro r R' hr b hb
  obtain ⟨R,h1⟩:=Mf hr
  rw [(wS.blk (α:=α) h1).1] at hb
  exact H.iB r R h1.live b hb
 ·intro j pi hj hk
  obtain ⟨⟨k,wt,ht⟩,hq⟩:=hP.par j pi hj (.inl hk)
  obtain ⟨R,R',hR',h1⟩:=sU hq
  obtain ⟨l1,l2,l3,l4,l5,l6,l7,l8⟩:=h1.log k wt ht hq
  obtain ⟨Q,hQ,hk2⟩:=H.qb j pi hj hk
  have:=hsame h1.live.1 hQ
  subst this
  refine ⟨R',hR',fun _ b hb hnb=>?_⟩
  rcases hk2 h1.live.2 b hb hnb with ⟨e,e1,e2⟩ | ⟨g1,g2,g3⟩
  ·refine .inl ⟨e,e1, .inr ?_⟩
   rw [l2]
   rcases e2 with h | h
   ·exact l4 e h
   ·exact l5 e h
  ·refine .inr ⟨g1,g2,fun q Q hQ hbq=>?_⟩
   obtain ⟨Q0,h2⟩:=Mf hQ
   rw [(wS.blk (α:=α) h2).1] at hbq
   exact g3 q Q0 h2.live hbq
 ·intro j p ts v hv
  obtain ⟨k,⟨wt,ht⟩,hq,hts⟩:=hP.ptr j p ts v hv
  obtain ⟨R,R',hR',h1⟩:=sU hq
  obtain ⟨l1,l2,l3,l4,l5,l6,l7,l8⟩:=h1.log k wt ht hq
  obtain ⟨f1,Q,hQ,f2⟩:=H.rA j p ts v hv
  have:=hsame h1.live.1 hQ
  subst this
  refine ⟨f1,R',hR',fun hno=>?_⟩
  rw [l3] at hno
  have Ol:=f2 (fun t h1 h2=>hno t h1 (l7 t h2))
  refine ⟨f1,fun Q2 Ub _ _ hpt hg=>?_⟩
  have:=hsame hR' Ub
  subst this
  have hw:=(wS.blk (α:=α) h1).2
  have hv1:=h1.valid
  have hr1:=h1.live.1
  obtain ⟨ow,tg,ew,eh,rfl,hown⟩:=h1.form
  obtain ⟨q1,q2⟩:=Ol.2 Q hr1 hv1 (by
    unfold clean
    rw [af5]
    intro t ht1
    have h3:t∈Q.h:=List.mem_of_mem_take ht1
    simp only [Bool.not_eq_true',aS]
    rw [l1, ←hts]
    exact fun h4=>hno t h4 (l6 t h3))
   (fun t ht=>by rw [←hown t (lM p t ht)]; exact hpt t ht) hg
  exact ⟨q1,by rw [hw]; exact q2⟩
 ·intro j v hv
  obtain ⟨⟨k,wt,ht⟩,hq⟩:=hP.ref j v hv
  obtain ⟨R,R',hR',h1⟩:=sU hq
  obtain ⟨l1,l2,l3,l4,l5,l6,l7,l8⟩:=h1.log k wt ht hq
  obtain ⟨_,f2⟩:=H.rC j v hv
  refine ⟨⟨R',hR'⟩,fun Q2 Ub _=>?_⟩
  have:=hsame hR' Ub.1
  subst this
  obtain ⟨q1,q2⟩:=f2 R h1.live l8
  obtain ⟨k1,k2,_⟩:=h1.kind
  exact ⟨k1.trans q1,by rw [k2]; exact q2⟩
structure WR (iJ:IK) (rs:List Nat) (s:RS):Prop where
 slots:∀q∈s.ss,∀i∈q.2.UK,vE rs i
 roots:∀q∈s.rs,q.1∈rs∧fC q.1=false∧(∀i∈q.2.ids,vE rs i∧i≠q.1)∧q.2.log=iI q.1 iJ
 keys:∀r∈rs,∃q∈s.rs,q.1=r
 iJ:∀r q,iI r iJ=some q→r∈rs
theorem JI:∀{l:List (Nat×FQ)} {c:Cont (Mv l)},WY σ rs l=some c→∀n,mkS l c n=.one .undef∨∃sh av d,(n,sh)∈l∧σ.slots n=.one av∧LF σ rs sh av=some d∧mkS l c n=.one (Yc sh d)
 | [],_,_,_=>.inl rfl
 | (s,sh) :: l,c,h,n=>by
  simp only [WY] at h
  split at h
  ·rename_i av hs
   split at h
   ·rename_i x y hx hy
    have h2:Cont.app sh.ks (Mv l) x y=c:=agr h
    subst h2
    simp only [mkS]
    rw [xX,yD]
    cases hb:Nat.beq n s with
    | true=>
     have:=afU hb
     subst this
     exact .inr ⟨sh,av,x,by simp,hs,hx,rfl⟩
    | false=>
     rcases JI hy n with h | ⟨sh',av',d,g1,g2,g3,g4⟩
     ·exact .inl h
     ·exact .inr ⟨sh',av',d, .tail _ g1,g2,g3,g4⟩
   ·simp at h
  ·split at h
   ·split at h
    ·rename_i d hd
     have h2:d=c:=agr h
     subst h2
     simp only [mkS]
     cases hb:Nat.beq n s with
     | true=>exact .inl rfl
     | false=>
      rcases JI hd n with h | ⟨sh',av',d,g1,g2,g3,g4⟩
      ·exact .inl h
      ·exact .inr ⟨sh',av',d, .tail _ g1,g2,g3,g4⟩
    ·simp at h
   ·simp at h
theorem PM {a b:zD} (h:PL a b=true):a=b:=by
 cases a <;> cases b <;> simp_all [PL]
theorem Pp:∀{l:List (Nat×F8)} {c:Cont (Qg l)},YK σ rs l=some c→∀n R',Su l c n=some R'→∃sh R,(n,sh)∈l∧σ.roots n=some R∧bn σ R∧kD (lH rs R.tags) sh.ids=true∧UR R sh.log=true∧
   (∀t∈R.k.tys,au t sh.own=au t R.own)∧R'={ R with own:=sh.own,tags:=sh.ids.map fun r=>(r,0),w:=[],h:=[],g:=0,ew:=Yb sh.log,eh:=Ya sh.log }
 | [],_,_,_,_,h=>by simp [Su] at h
 | (r,sh) :: l,c,h,n,R',hm=>by
  simp only [YK] at h
  split at h
  ·rename_i R hR
   obtain ⟨hb,h⟩:=pV h
   split at h
   ·rename_i x y hx hy
    have h2:(x,y)=c:=agr h
    subst h2
    simp only [Su] at hm
    cases hn:Nat.beq n r with
    | false=>
     rw [hn] at hm
     obtain ⟨sh',R2,g1,g2⟩:=Pp hy n R' hm
     exact ⟨sh',R2, .tail _ g1,g2⟩
    | true=>
     rw [hn] at hm
     have:=afU hn
     subst this
     simp only [afW] at hb
     obtain ⟨⟨⟨⟨⟨⟨⟨b1,b2⟩,b3⟩,b4⟩,b5⟩,b6⟩,b7⟩,b8⟩:=hb
     obtain ⟨e,ex⟩:=bL hx
     refine ⟨sh,R,by simp,hR,⟨by simpa using b7,b1⟩,b2,b8,fun t ht=>?_, ?_⟩
     ·have:=af5.1 b3 t (e▸ht)
      simp only [beq_iff_eq] at this
      exact this.symm
     ·have b4':=PM b4
      have b5':R.fixed=sh.fixed:=by simpa using b5
      have b6':R.keep=sh.keep:=by simpa using b6
      obtain ⟨k,ow,ids,kd,fx,kp,lg⟩:=sh
      simp only at e ex b4' b5' b6'
      obtain ⟨Rk,Rx,TM,Nz,Rw,Rh,Rg,Ny,abj,Nw,Rew,Reh⟩:=R
      simp only at e ex b4' b5' b6'
      subst e b4' b5' b6'
      simp only at ex
      subst ex
      simp only [cond_true,afQ] at hm
      exact hm.symm
   ·simp at h
  ·simp at h
theorem Hu:∀{l:List (Nat×F8)} (c:Cont (Qg l)) {r:Nat},(∃q∈l,q.1=r)→∃R',Su l c r=some R'
 | [],_,_,h=>by obtain ⟨q,h,_⟩:=h; simp at h
 | (s,sh) :: l,c,r,h=>by
  simp only [Su]
  cases hb:Nat.beq r s with
  | true=>exact ⟨_,rfl⟩
  | false=>
   refine Hu c.2 ?_
   obtain ⟨q,h1,h2⟩:=h
   rcases af2.1 h1 with h | h
   ·subst h; simp only at h2; subst h2; simp at hb
   ·exact ⟨q,h,h2⟩
theorem F7.of {s:RS} (hs:WR iJ rs s) {c:s.V} (h:LG rs s σ=some c):F7 σ iJ rs (Fw s c):=by
 unfold LG at h
 split at h
 ·rename_i x y hx hy
  have h2:Cont.app (Mv s.ss) (Qg s.rs) x y=c:=agr h
  subst h2
  have e1:(Fw s (Cont.app (Mv s.ss) (Qg s.rs) x y)).slots=mkS s.ss x:=by unfold Fw; rw [xX]
  have e2:(Fw s (Cont.app (Mv s.ss) (Qg s.rs) x y)).roots=Su s.rs y:=by unfold Fw; rw [yD]
  refine ⟨fun r R' hr=>?_,fun r hr=>?_,fun n=>?_,hs.iJ⟩
  ·rw [e2] at hr
   obtain ⟨sh,R,g1,g2,g3,g4,g5,g6,g7⟩:=Pp hy r R' hr
   obtain ⟨f1,f2,f3,f4⟩:=hs.roots _ g1
   refine ⟨f1,f2,R,⟨g2,g3.1⟩,g3,⟨_,_,_,_,g7,g6⟩, ?_, ?_, ?_⟩
   ·intro t ht hi
    rw [g7]
    obtain ⟨n,hn⟩:=RJ g4 t ht hi
    obtain ⟨i,hi1,hi2⟩:=ags.1 hn
    simp only [af1] at hi2
    have h0:n=0:=hi2.2.symm
    subst h0
    exact hn
   ·intro t ht
    rw [g7] at ht
    obtain ⟨i,h1,rfl⟩:=ags.1 ht
    exact ⟨rfl,f3 i h1⟩
   ·intro k wt ht hq
    simp only at f4
    rw [f4,hq] at g5 g7
    simp only [UR,wM,afW,je] at g5
    obtain ⟨p1,⟨⟨⟨p2,p3⟩,p4⟩,p5⟩,p6⟩:=g5
    subst g7
    exact ⟨K.eq_of_beq p1,rfl,rfl,p2,p3,p4,p5,afU p6⟩
  ·rw [e2]
   exact Hu y (hs.keys r hr)
  ·rw [e1]
   rcases JI hx n with h | ⟨sh,av,d,g1,g2,g3,g4⟩
   ·exact .inl h
   ·exact .inr ⟨sh,av,d,g2,g3,g4,hs.slots _ g1⟩
 ·simp at h
theorem CR:∀{l:List (TypeId×Dat×List Tag)},∀i∈(CQ rs l).flatMap (fun c=>c.2.2),vE rs i
 | [],i,h=>by simp [CQ] at h
 | (t,d,tags) :: l,i,h=>by
  simp only [CQ,List.flatMap_cons,afZ] at h
  rcases h with h | h
  ·exact (qQ.1 h).2
  ·exact CR i h
theorem Gz {rs ex:List Nat}:∀i∈NZ rs ex,vE rs i:=by
 intro i hi
 unfold NZ at hi
 rw [af7,Bool.or_eq_true,aJ] at hi
 exact hi.2
theorem RH {ex:List Nat} {av:AV}:∀i∈(shA rs ex av).UK,vE rs i:=by
 intro i hi
 cases av <;> simp only [shA,FQ.UK,List.not_mem_nil] at hi
 ·rcases afZ.1 hi with hi | hi
  ·exact (qQ.1 hi).2
  ·exact Gz i hi
 ·exact (qQ.1 hi).2
 ·exact CR i hi
theorem K9 {wd:List (Nat×List Nat)}:∀{l:List Nat},∀q∈YB wd rs σ l,∀i∈q.2.UK,vE rs i
 | [],q,h,_,_=>by simp [YB] at h
 | s :: l,q,h,i,hi=>by
  simp only [YB,af2] at h
  rcases h with h | h
  ·subst h
   split at hi
   ·exact RH i hi
   ·simp [FQ.UK] at hi
  ·exact K9 q h i hi
theorem PT {wd:List (Nat×List Nat)}:∀{l:List Nat} {q:List (Nat×F8)},YA wd iJ rs σ l=some q→(∀z∈q,z.1∈l∧∃R,σ.roots z.1=some R∧z.2.ids=lH rs R.tags++(NZ rs (ru (2 * z.1+1) wd)).filter (fun q=>!Nat.beq q z.1)∧z.2.log=iI z.1 iJ)∧∀r∈l,∃z∈q,z.1=r
 | [],q,h=>by simp [YA] at h; subst h; simp
 | r :: l,q,h=>by
  simp only [YA] at h
  split at h
  ·rename_i R q' hR hq
   obtain ⟨i1,i2⟩:=PT hq
   simp only [afQ] at h
   subst h
   refine ⟨fun z hz=>?_,fun r' hr=>?_⟩
   ·rcases af2.1 hz with h | h
    ·subst h; exact ⟨by simp,R,hR,rfl,rfl⟩
    ·obtain ⟨f1,f2⟩:=i1 z h
     exact ⟨.tail _ f1,f2⟩
   ·rcases af2.1 hr with h | h
    ·exact ⟨_,agn,h.symm⟩
    ·obtain ⟨z,z1,z2⟩:=i2 r' h
     exact ⟨z, .tail _ z1,z2⟩
  ·simp at h
theorem zN:∀{l:IK} {r:Nat} {q},iI r l=some q→∃p∈l,p.1=r
 | [],_,_,h=>by simp [iI] at h
 | (s,p) :: l,r,q,h=>by
  simp only [iI] at h
  cases hb:Nat.beq r s with
  | true=>exact ⟨_,agn,(afU hb).symm⟩
  | false=>
   rw [hb] at h
   obtain ⟨p',h1,h2⟩:=zN h
   exact ⟨p', .tail _ h1,h2⟩
theorem RI {wd:List (Nat×List Nat)} (H:Rel cx σ α F a w) {ss:List Nat} {s:RS} (h:U5 wd iJ ss rs σ=some s):WR iJ rs s:=by
 unfold U5 at h
 split at h
 ·rename_i q hq
  obtain ⟨hb,h⟩:=pV h
  simp only [afQ] at h
  subst h
  obtain ⟨i1,i2⟩:=PT hq
  refine ⟨K9,fun z hz=>?_,i2,fun r q hf=>?_⟩
  ·obtain ⟨f1,R,f2,f3,f4⟩:=i1 z hz
   obtain ⟨_,g2,g3⟩:=H.dh _ R f2
   refine ⟨f1,g2,fun i hi=>?_,f4⟩
   rw [f3] at hi
   rcases afZ.1 hi with hi | hi
   ·obtain ⟨⟨n,hn⟩,h2⟩:=qQ.1 hi
    exact ⟨h2,fun e=>g3 n (e▸hn)⟩
   ·rw [af7] at hi
    refine ⟨Gz i hi.1,fun e=>?_⟩
    subst e
    have:=hi.2
    simp at this
  ·obtain ⟨p,p1,p2⟩:=zN hf
   have:=af5.1 hb p p1
   rw [←p2]
   exact aJ.1 this
 ·simp at h
end
end
section
open Go
variable [Fr]
def W9:Exit→Option Ex
 | .normal=>some .normal
 | .exit i=>some (.exit i)
 | .ret=>some .ret
 | _=>none
section
variable {P:Program} {T:iD} {hi:Hint} {n:Nat} {cx:Cx} {σ:St} {α:dI} {F:List Nat} {a:Act} {w:World} {R:Type} {r:R} {ag:Option R→Option R→Option R}
def QK (cx:Cx) (K:Ex→St→Option R) (r:R) (e:Exit) (a:Act) (w:World):Prop:=∃x σ α F,W9 e=some x∧K x σ=some r∧Rel cx σ α F a w
theorem least {p:Nat→Prop} (h:∃n,p n):∃m,p m∧∀k,p k→m≤k:=by
 obtain ⟨n,hn⟩:=h
 induction n using Nat.strongRecOn with
 | _ n ih=>
  by_cases hk:∃k,k<n∧p k
  ·obtain ⟨k,h1,h2⟩:=hk
   exact ih k h1 h2
  ·exact ⟨n,hn,fun k h=>Nat.le_of_not_lt fun hlt=>hk ⟨k,hlt,h⟩⟩
theorem TV (hag:∀{a b z},ag a b=some z→a=some z∧b=some z) (hm:P.follows .mixedOrders=true) (hT:dU P T) (hSt:CZ P T) (hC:qC P n hi) (hnt:hi.nt=cx.nt) (hP:IL cx hi.iJ) :
  ∀(code:Code) (b:Nat) {σ:St} {α:dI} {F:List Nat} {a:Act} {w:World} {K:Ex→St→Option R},den T hi n ag b code σ K=some r→Rel cx σ α F a w→code.wp P (QK cx K r) a w:=by
 intro code
 induction code with
 | skip=>intro b σ α F a w K h H; exact wp_skip ⟨_,_,_,_,rfl,h,H⟩
 | exit id=>intro b σ α F a w K h H; exact wp_exit ⟨_,_,_,_,rfl,h,H⟩
 | ret=>intro b σ α F a w K h H; exact wp_ret ⟨_,_,_,_,rfl,h,H⟩
 | seq x y YS X8=>
  intro b σ α F a w K h H
  refine wp_seq (wp_mono (YS b h H) ?_)
  rintro e a' w' ⟨ex,σ',α',F',h1,h2,h3⟩
  cases e <;> simp only [W9,afQ,reduceCtorEq] at h1
  ·subst h1; exact X8 b h2 h3
  ·subst h1; exact ⟨_,_,_,_,rfl,h2,h3⟩
  ·subst h1; exact ⟨_,_,_,_,rfl,h2,h3⟩
 | cond c x y YS X8=>
  intro b σ α F a w K h H
  simp only [den] at h
  obtain ⟨v0,h1,h2⟩:=rM _ h
  obtain ⟨v,g1,g2,g3⟩:=bP H h1
  have ev:v0=v:=g3
  subst ev
  have hplain:((asBool v0 .ret).run σ fun t=>if t=true then den T hi n ag b x σ K else den T hi n ag b y σ K)=some r→Code.wp P (.cond c x y) (QK cx K r) a w:=by
   intro h2
   obtain ⟨t,h3,h4⟩:=rM _ h2
   obtain ⟨b',e1,e2⟩:=Bb g1 h3
   have e2':t=b':=e2
   subst e2'
   refine wp_cond (t:=t) e1 ?_
   cases t with
   | true=>exact YS b h4 H
   | false=>exact X8 b h4 H
  cases v0 with
  | u6 e=>
   simp only at h2
   obtain ⟨b',e1,e2⟩:=g1
   refine wp_cond (t:=b') e1 ?_
   cases b' with
   | true=>
    rw [if_pos (e2 rfl)] at h2
    exact YS b (hag h2).1 H
   | false=>
    split at h2
    ·exact X8 b (hag h2).2 H
    ·exact X8 b h2 H
  | _=>exact hplain h2
 | block id x ih=>
  intro b σ α F a w K h H
  simp only [den] at h
  refine wp_block (wp_mono (ih id h H) ?_)
  rintro e a' w' ⟨ex,σ',α',F',h1,h2,h3⟩
  cases e <;> simp only [W9,afQ,reduceCtorEq] at h1
  ·subst h1; exact ⟨_,_,_,_,rfl,h2,h3⟩
  ·rename_i i
   subst h1
   simp only at h2
   unfold Exit.inBlock
   simp only
   cases hb:Nat.beq i id with
   | true=>
    rw [hb] at h2
    rw [if_pos (afU hb)]
    exact ⟨_,_,_,_,rfl,h2,h3⟩
   | false=>
    rw [hb] at h2
    rw [if_neg (Nat.ne_of_beq_eq_false hb)]
    exact ⟨_,_,_,_,rfl,h2,h3⟩
  ·subst h1; exact ⟨_,_,_,_,rfl,h2,h3⟩
 | loop x ih=>
  intro b σ α F a w K h H
  simp only [den] at h
  split at h
  ·rename_i ss rs hf
   split at h
   ·rename_i s hs
    obtain ⟨αl,Hl⟩:=Fp hi rs H
    have hok:=RI Hl hs
    split at h
    ·rename_i c hc
     have H0:=PI Hl hP (F7.of hok hc)
     generalize hB:(fun (L:s.V→Option R) v=>den T hi n ag b x (Fw s v) fun
      | .normal,σ'=>match LG rs s (xh hi rs σ') with
       | some v'=>L v'
       | none=>none
      | e,σ'=>K e σ')=B at h
     have hBi:∀(L:s.V→Option R) v,B L v=den T hi n ag b x (Fw s v) fun
      | .normal,σ'=>match LG rs s (xh hi rs σ') with
       | some v'=>L v'
       | none=>none
      | e,σ'=>K e σ':=fun L v=>by rw [←hB]
     let I:Nat→Act→World→Prop:=fun m a w=>∃v α F,rounds B m v=some r∧Rel cx (Fw s v) α F a w
     have hex:∀{m:Nat} {a:Act} {w:World},I m a w→∃m,I m a w:=fun h=>⟨_,h⟩
     classical
     refine wp_loop (fun a w=>∃m,I m a w) (fun a w=>if h:∃m,I m a w then Classical.choose (least h) else 0) ⟨_,_,_,_,h,H0⟩ ?_
     intro a w hI
     rw [dif_pos hI]
     have hI2:=(Classical.choose_spec (least hI)).1
     generalize Classical.choose (least hI)=m at hI2
     obtain ⟨v,α,F,h1,h2⟩:=hI2
     cases m with
     | zero=>simp [rounds] at h1
     | succ m=>
      have h1':B (rounds B m) v=some r:=h1
      rw [hBi] at h1'
      refine wp_mono (ih b h1' h2) ?_
      rintro e a' w' ⟨ex,σ',α',F',g1,g2,g3⟩
      cases e <;> simp only [W9,afQ,reduceCtorEq] at g1
      ·subst g1
       simp only at g2
       split at g2
       ·rename_i v' hv'
        obtain ⟨αm,Hm⟩:=Fp hi rs g3
        have hI':I m a' w':=⟨v',_,_,g2,PI Hm hP (F7.of hok hv')⟩
        refine ⟨⟨m,hI'⟩, ?_⟩
        rw [dif_pos ⟨m,hI'⟩]
        exact Nat.lt_succ_of_le ((Classical.choose_spec (least ⟨m,hI'⟩)).2 m hI')
       ·simp at g2
      ·subst g1; exact ⟨_,_,_,_,rfl,g2,g3⟩
      ·subst g1; exact ⟨_,_,_,_,rfl,g2,g3⟩
    ·simp at h
   ·simp at h
  ·simp at h
 | region id ops draw=>
  intro b σ α F a w K h H
  simp only [den] at h
  cases draw with
  | true=>
   have H':Rel cx σ α F a { w with drawn:=w.drawn+1 }:=H.drawn (w.drawn+1)
   exact wp_region_any hm (N7 hT hSt hC hnt (fun σ' α' F' a' w' h1 h2=>⟨_,_,_,_,rfl,h1,h2⟩) h H')
  | false=>
   refine wp_region ?_
   have:=Jn (P:=P) (Q:=QK cx K r) hT hSt hC hnt (fun σ' α' F' a' w' h1 h2=>⟨_,_,_,_,rfl,h1,h2⟩) ops.toList 0 (by simp) h H
   rw [Array.length_toList, ←List.range_eq_range'] at this
   exact this
 | _=>intro b σ α F a w K h; simp [den] at h
end
end
section
open Go
variable [Fr]
def MV (a:Act):ResultVar→Sem Value
 | .tmp t=>pure (a.tmps.getD t undef)
 | .cell x t=>do loadVar t (←asAddr (a.tmps.getD x undef))
section
variable {P:Program} {T:iD} {cx:Cx} {σ:St} {α:dI} {F:List Nat} {a:Act} {w:World} {A:Type} {z:A}
theorem MG (hT:dU P T) (H:Rel cx σ α F a w) {t:TypeId} {x:AV} {v:Value} {oQ:Bool} {k:AV→Prog A} (h1:bH cx σ α F w x v) (h2:nW σ x) (h:(yf T oQ t x k).ends σ z) :
  ∃y u,(do loadVar t (←asAddr v):Sem Value).run P w=.ok u w∧bH cx σ α F w y u∧nW σ y∧(k y).ends σ z:=by
 have G5:∀{b o:Nat} {u:Value},(Instr.loadAt t (.pointer (some ⟨b,o,none⟩))).run P w=.ok u w→v=.pointer (some ⟨b,o,none⟩)→(do loadVar t (←asAddr v):Sem Value).run P w=.ok u w:=by
  intro b o u h e
  subst e
  exact h
 unfold yf at h
 split at h
 ·exact h.elim
 ·rename_i kk hty
  have ht:=hT.ty t kk hty
  obtain ⟨s1,s2,s3⟩:=ht.shape
  split at h
  ·rename_i r g k0 p
   obtain ⟨u,b,off,k1,e,hq,hC,ho1,hR⟩:=h1
   obtain ⟨R,hr,hv,h⟩:=cz h
   rcases ay h with ⟨hc,h⟩ | ⟨_,h⟩
   ·simp only [afW] at hc
    cases hg:aO p R.k R.x with
    | none=>rw [hg] at h; exact h.elim
    | some dd=>
     rw [hg] at h
     simp only at h
     obtain ⟨dk,dx⟩:=dd
     rcases beq_true h with ⟨ek,h5⟩ | ⟨_,h⟩
     ·simp only at ek
      subst ek
      have hk0:=K.eq_of_beq hc.1.2
      subst hk0
      obtain ⟨hka,x8⟩:=hR R hr (afU hc.1.1)
      rw [x8.cells] at hC
      have hwn:dQ α R r=none:=by unfold dQ; rw [hka]
      obtain ⟨g1,g2,g3,g4,g5⟩:=BN (h:=hp w) p hg ho1 (H.roots r R hr).len
      simp only at g1
      subst g1
      have hown:∀t∈aa p R.k,au t R.own=true:=fun t ht=>by rw [g5] at ht; simp at ht
      have hn:bE (hp w) p R.k (α.hdr r) (dQ α R r)=some (((α.hdr r).drop off).take k1.size,none):=by rw [hwn]; exact g3
      obtain ⟨fE,hO,hf⟩:=qM H hr hv hg g4 hown hn
      have hV:=lI H hr hO hf
      have hcs:Cells (hp w) b off (((α.hdr r).drop off).take k1.size):=by
       intro i hi
       have hi':i<k1.size:=by rw [wB g2] at hi; exact hi
       have:=hC (off+i) (by omega)
       rw [Nat.zero_add] at this
       rw [this,List.getElem?_take_of_lt hi',List.getElem?_drop]
      obtain ⟨u',hu⟩:=VC.mk s1 s2 s3 hV
      have hrun:=pq (P:=P) ht hcs (jP hV) hu
      rcases ay h5 with ⟨hf,h6⟩ | ⟨_,h6⟩
      ·exact ⟨.val k1 dx [],u',G5 hrun e,fun _=>⟨_,hu,iF hf hV⟩,(fun t ht=>by simp at ht),h6⟩
      ·exact ⟨.oQ r p R.rR,u',G5 hrun e,vv (cx:=cx) (F:=F) hr hg g4 hown hn hu,⟨R,hr.1, .inr (af6 _)⟩,h6⟩
     ·exact h.elim
   ·exact h.elim
  rcases uw H h1 h2 h with ⟨r,R,p,dd,cs,b,q,hr,hv,hg,fG,hown,hn,e,h⟩ | ⟨bt,dd,Tg,b,q,cs,hw,e,hcs,hV,hok,hb,h⟩
  ·obtain ⟨hC,⟨fE,hO,hf⟩,_⟩:=mO H hr hv hg fG hown hn
   obtain ⟨dk,dx⟩:=dd
   rcases beq_true h with ⟨ek,h5⟩ | ⟨_,h⟩
   ·simp only at ek
    subst ek
    clear h
    have h:=h5
    clear h5
    have hV:=lI H hr hO hf
    obtain ⟨u,hu⟩:=VC.mk s1 s2 s3 hV
    have hrun:=pq (P:=P) ht hC (jP hV) hu
    rcases ay h with ⟨_,h⟩ | ⟨_,h⟩
    ·exact ⟨.oQ r p R.rR,u,G5 hrun e,vv (cx:=cx) (F:=F) hr hg fG hown hn hu,⟨R,hr.1, .inr (af6 _)⟩,h⟩
    ·exact ⟨_,u,G5 hrun e,(show bH cx σ α F w (.val dk dx _) u from fun _=>⟨cs,hu,hV⟩),Ec H hr _,h⟩
   ·exact h.elim
  ·obtain ⟨dk,dx⟩:=dd
   rcases beq_true h with ⟨ek,h5⟩ | ⟨_,h⟩
   ·simp only at ek
    subst ek
    clear h
    have h:=h5
    clear h5
    obtain ⟨u,hu⟩:=VC.mk s1 s2 s3 hV
    have hrun:=pq (P:=P) ht hcs (jP hV) hu
    refine ⟨_,u,G5 hrun e,(show bH cx σ α F w (.val dk dx _) u from fun _=>⟨cs,hu, ?_⟩), ?_,h⟩
    ·cases hf:dk.flat with
     | true=>exact iF hf hV
     | false=>exact hV
    ·cases hf:dk.flat with
     | true=>intro t ht; simp at ht
     | false=>exact hw
   ·exact h.elim
theorem yz (hT:dU P T) (H:Rel cx σ α F a w) {own:Bool} {rv:ResultVar} {k:AV→Prog A} (h:(JR T own rv k).ends σ z):∃y u,(MV a rv).run P w=.ok u w∧bH cx σ α F w y u∧nW σ y∧(k y).ends σ z:=by
 cases rv with
 | tmp t=>
  obtain ⟨v,h1,h2,h3⟩:=bP H h
  exact ⟨v,_,rfl,h1,h2,h3⟩
 | cell t ty=>
  obtain ⟨v,h1,h2,h3⟩:=bP H h
  exact MG hT H h1 h2 h3
def IB (P:Program) (cx:Cx) (σ:St) (α:dI) (F:List Nat) (a:Act) (w:World):(rs:List ug)→List ResultVar→Cont (gU rs)→List Value→List (Value×gP)→List (List Tag)→Prop
 | [],[],_,[],[],[]=>True
 | .val k exts gL :: rs,rv :: sD,c,v :: vs,its,tg :: xD=>((MV a rv).run P w=.ok v w∧(k.flat=true∨nu exts gL tg=true)∧QD cx σ α F a w k c.1 tg v)∧IB P cx σ α F a w rs sD c.2 vs its xD
 | .own k ow exts gL :: rs,rv :: sD,c,v :: vs,it :: its,xD=>((MV a rv).run P w=.ok v w∧it.1=v∧rZ cx σ α F w v it.2∧(∃e:it.2.k=k,c.1=e▸it.2.x)∧kD (k.tys.filter fun t=>au t ow) it.2.own=true∧
   ((k.tys.all fun t=>au t ow)=true∨nu exts gL it.2.tags=true))∧IB P cx σ α F a w rs sD c.2 vs its xD
 | _,_,_,_,_,_=>False
theorem N9 (hT:dU P T) (H:Rel cx σ α F a w):∀{rs:List ug} {sD:List ResultVar} {k:Cont (gU rs)→List gP→List (List Tag)→Prog A},(GI T rs sD k).ends σ z→
  ∃c vs its xD,IB P cx σ α F a w rs sD c vs its xD∧(k c (its.map (·.2)) xD).ends σ z:=by
 intro rs
 induction rs with
 | nil=>
  intro sD k h
  cases sD with
  | nil=>exact ⟨(),[],[],[],trivial,h⟩
  | cons _ _=>exact h.elim
 | cons r rs ih=>
  intro sD k h
  cases sD with
  | nil=>cases r <;> exact h.elim
  | cons rv sD=>
   cases r with
   | into _ _=>exact h.elim
   | ptr _ _ _ _=>exact h.elim
   | val kk exts gL=>
    simp only [GI] at h
    obtain ⟨y,u,g1,g2,g3,h⟩:=yz hT H h
    have hgo:∀(x:El kk) (tags:List Tag),QD cx σ α F a w kk x tags u→(bif kk.flat || nu exts gL tags then GI T rs sD fun c ts tg=>k (x,c) ts (tags :: tg) else .fail).ends σ z→
      ∃c vs its xD,IB P cx σ α F a w (.val kk exts gL :: rs) (rv :: sD) c vs its xD∧(k c (its.map (·.2)) xD).ends σ z:=by
     intro x tags hv h
     rcases ay h with ⟨hb,h⟩ | ⟨_,h⟩
     ·obtain ⟨c,vs,its,xD,f1,f2⟩:=ih h
      exact ⟨(x,c),u :: vs,its,tags :: xD,⟨⟨g1,by simpa using hb,hv⟩,f1⟩,f2⟩
     ·exact h.elim
    have hval:(qz y fun k' x tags=>match bR k' kk x with
      | some y=>(bif kk.flat || nu exts gL (bif kk.flat then [] else tags) then GI T rs sD fun c ts tg=>k (y,c) ts ((bif kk.flat then [] else tags) :: tg) else .fail)
      | none=>.fail).ends σ z→∃c vs its xD,IB P cx σ α F a w (.val kk exts gL :: rs) (rv :: sD) c vs its xD∧(k c (its.map (·.2)) xD).ends σ z:=by
     intro h
     obtain ⟨k',x,Tg,f1,f5⟩:=Bc H g2 g3 h
     cases hc:bR k' kk x with
     | none=>rw [hc] at f5; exact f5.elim
     | some y'=>
      rw [hc] at f5
      obtain ⟨ek,ey⟩:=bL hc
      subst ek
      simp only at ey
      subst ey
      cases hf:k'.flat with
      | true=>
       rw [hf] at f5
       exact hgo _ _ (f1.flat hf H) (by rw [hf]; exact f5)
      | false=>
       rw [hf] at f5
       exact hgo _ _ f1 (by rw [hf]; exact f5)
    cases y with
    | iC=>
     cases kk with
     | sl e kk=>
      obtain ⟨b,rfl⟩:=g2
      exact hgo [] [] ⟨[.slice b 0 0],yC,fun _ _ _ _=>⟨b,0,0,rfl,rfl,af6 _,fun h=>by omega⟩⟩ h
     | _=>exact h.elim
    | undef=>exact hval h
    | val _ _ _=>exact hval h
    | ref _ _=>exact hval h
    | oQ _ _ _=>exact hval h
    | ptr _ _ _=>exact hval h
    | iK _ _ _ _=>exact hval h
    | Bu _ _ _ _=>exact hval h
    | u6 _=>exact hval h
    | part _ _ _ _ _=>exact hval h
    | sW _ _ _ _=>exact hval h
    | app _ _ _ _=>exact hval h
    | oz=>exact hval h
    | fn _ _=>exact hval h
   | own kk ow exts gL=>
    simp only [GI] at h
    obtain ⟨y,u,g1,g2,g3,h⟩:=yz hT H h
    obtain ⟨tk,htk,h⟩:=nH H g2 g3 h
    cases hc:bR tk.k kk tk.x with
    | none=>rw [hc] at h; exact h.elim
    | some y'=>
     rw [hc] at h
     rcases ay h with ⟨hb,h⟩ | ⟨_,h⟩
     ·simp only [afW,Bool.or_eq_true] at hb
      obtain ⟨c,vs,its,xD,f1,f2⟩:=ih h
      exact ⟨(y',c),u :: vs,(u,tk) :: its,xD,⟨⟨g1,rfl,htk,bL hc,hb.1,hb.2⟩,f1⟩,f2⟩
     ·exact h.elim
theorem LX {σ1:St} {dH:dI} {F1:List Nat} (H1:Rel cx σ1 dH F1 a w) (hV:Views cx σ α F w σ1 dH F1 w):∀{rs:List ug} {sD:List ResultVar} {c:Cont (gU rs)} {vs:List Value} {its:List (Value×gP)} {xD:List (List Tag)} {hs:List (List Value×List Nat)},
  IB P cx σ α F a w rs sD c vs its xD→nU cx σ1 dH F1 w its hs→(∀t∈xD.flatten,Same σ α σ1 dH t.1)→
  ∃bz,AY cx σ1 dH F1 w rs c vs bz∧bz.flatten=hs.flatMap (·.2)∧(∀b∈bz.flatten,b∈F1)∧(sD.mapM (MV a)).run P w=.ok vs w:=by
 intro rs
 induction rs with
 | nil=>
  intro sD c vs its xD hs h hh _
  cases sD <;> cases vs <;> cases its <;> cases xD <;> first | exact h.elim | skip
  cases hs with
  | nil=>exact ⟨[],trivial,rfl,by simp,by simp⟩
  | cons _ _=>exact hh.elim
 | cons r rs ih=>
  intro sD c vs its xD hs h hh hS
  cases r with
  | into _ _=>cases sD <;> cases vs <;> exact h.elim
  | ptr _ _ _ _=>cases sD <;> cases vs <;> exact h.elim
  | val kk exts gL=>
   cases sD <;> cases vs <;> cases xD <;> first | exact h.elim | skip
   rename_i rv sD v vs tg xD
   obtain ⟨⟨h1,h2,cs,h3,h4⟩,h5⟩:=h
   obtain ⟨bz,f1,f2,f3,f4⟩:=ih h5 hh (fun t ht=>hS t (by simp only [List.flatten_cons,afZ]; exact .inr ht))
   refine ⟨[] :: bz,⟨⟨rfl,tg,cs,h2,h3,h4 σ1 dH F1 ⟨H1,hV,fun t ht=>hS t (by simp only [List.flatten_cons,afZ]; exact .inl ht)⟩⟩,f1⟩,by simpa using f2,by simpa using f3, ?_⟩
   simp [List.mapM_cons,h1,f4,Result.andThen]
  | own kk ow exts gL=>
   cases sD <;> cases vs <;> cases its <;> first | exact h.elim | skip
   rename_i rv sD v vs it its
   obtain ⟨⟨h1,h2,h3,⟨e,ex⟩,h4,h5⟩,h6⟩:=h
   cases hs with
   | nil=>exact hh.elim
   | cons q hs=>
    obtain ⟨⟨q1,q2,q3⟩,hh⟩:=hh
    obtain ⟨bz,f1,f2,f3,f4⟩:=ih h6 hh hS
    refine ⟨q.2 :: bz,⟨⟨it.2.tags,q.1,it.2.own,h5, ?_, ?_, ?_⟩,f1⟩,by simp [f2], ?_, ?_⟩
    ·intro t ht hm
     exact aJ.2 (je.1 h4 t (af7.2 ⟨ht,hm⟩))
    ·rw [←h2]; subst e; exact q1
    ·subst e
     rw [ex]
     exact q2.ow q3
    ·intro b hb
     rw [List.flatten_cons] at hb
     rcases afZ.1 hb with h | h
     ·exact q2.sub b h
     ·exact f3 b h
    ·simp [List.mapM_cons,h1,f4,Result.andThen]
end
end
section
open Go
variable [Fr]
section
variable {P:Program} {T:iD} {hi:Hint} {n:Nat} {cx:Cx} {σ:St} {α:dI} {F:List Nat} {a:Act} {w:World}
theorem zM {i:Nat} {R:Root} (h:AJ σ i=some R):σ.roots (ak i)=some R∧bn σ R:=by
 unfold AJ at h
 split at h
 ·rename_i Q hQ
  cases hb:Q.aZ || !bg σ Q.wF Q.tags with
  | true=>rw [hb] at h; simp at h
  | false=>
   rw [hb] at h
   simp only [cond_false,afQ] at h
   subst h
   simp only [Bool.or_eq_false_iff,Bool.not_eq_false'] at hb
   exact ⟨hQ,hb⟩
 ·simp at h
theorem y7:∀{ps:List fA} {i:Nat} {d:Cont (jD ps)},jR σ ps i=some d→yO σ ps i d:=by
 intro ps
 induction ps with
 | nil=>intro i d _; trivial
 | cons p ps ih=>
  intro i d h
  cases p with
  | val k gL=>exact ih (show jR σ ps (i+1)=some d from h)
  | ro k=>exact ih (show jR σ ps (i+1)=some d from h)
  | own k ow=>exact ih (show jR σ ps (i+1)=some d from h)
  | fn f ks=>exact ih (show jR σ ps (i+1)=some d from h)
  | into j q=>exact ih (show jR σ ps (i+1)=some d from h)
  | rw k ow wt ht=>
   simp only [jR] at h
   split at h
   ·rename_i R d' hR hd
    obtain ⟨hb,h⟩:=pV h
    simp only [afW,Bool.or_eq_true] at hb
    obtain ⟨⟨b1,b2⟩,b3⟩:=hb
    obtain ⟨r1,r2⟩:=zM hR
    split at h
    ·rename_i x hx
     have h2:(x,d')=d:=agr h
     subst h2
     exact ⟨⟨R,r1,r2,bL hx,b1,b2,b3⟩,ih hd⟩
    ·simp at h
   ·simp at h
  | jF k ow wt=>
   simp only [jR] at h
   split at h
   ·rename_i R d' hR hd
    obtain ⟨hb,h⟩:=pV h
    simp only [afW,Bool.or_eq_true] at hb
    obtain ⟨⟨b1,b2⟩,b3⟩:=hb
    obtain ⟨r1,r2⟩:=zM hR
    split at h
    ·rename_i x hx
     have h2:(x,d')=d:=agr h
     subst h2
     exact ⟨⟨R,r1,r2,bL hx,b1,b2,b3⟩,ih hd⟩
    ·simp at h
   ·simp at h
theorem vR {fn:Func} {vs:List Value} (h:(fn.results.toList.mapM (MV a)).run P w=.ok vs w):(results fn a.tmps).run P w=.ok (PZ vs) w:=by
 have h2:results fn a.tmps=(do
   let vs ←fn.results.mapM (MV a)
   pure (if h:vs.size=1 then vs[0] else .tuple vs)):=by
  unfold results
  congr 1
 rw [h2,Array.mapM_eq_mapM_toList]
 simp only [agf,map_eq_pure_bind,h,af8,agl]
 match vs with
 | []=>rfl
 | [v]=>rfl
 | v :: u :: vs=>simp [PZ]
theorem TY (hT:dU P T) (H:Rel cx σ α F a w) {ps:List fA} {rs:List ug} {fn:Func} {out:Cont (gU rs++jD ps)} (h:fin T ps rs fn.results.toList σ=some out) :
  ∃v,(results fn a.tmps).run P w=.ok v w∧Post cx ps rs out v w:=by
 unfold fin at h
 obtain ⟨q,h1,h2⟩:=rM _ h
 obtain ⟨c,vs,its,xD,f1,f2⟩:=N9 (P:=P) hT H h1
 rcases ay f2 with ⟨hb,f2⟩ | ⟨_,f2⟩
 ·have f2:q=_:=f2
  subst f2
  have e1:(its.map (·.2)).flatMap (·.ws)=qh its:=by simp [qh,List.flatMap_map]
  have e2:(its.map (·.2)).flatMap (·.tags)=nI its:=by simp [nI,List.flatMap_map]
  rw [e1,e2] at hb
  simp only [e1] at h2
  unfold yF vk at hb
  simp only [afW,q8,af5,Bool.not_eq_true',aS] at hb
  obtain ⟨b1,b2⟩:=hb
  have Ky:∀{rs:List ug} {sD:List ResultVar} {c:Cont (gU rs)} {vs:List Value} {its:List (Value×gP)} {xD:List (List Tag)},IB P cx σ α F a w rs sD c vs its xD→∀it∈its,rZ cx σ α F w it.1 it.2:=by
   intro rs
   induction rs with
   | nil=>intro sD c vs its xD h it hi; cases sD <;> cases vs <;> cases its <;> first | exact h.elim | simp at hi
   | cons r rs ih=>
    intro sD c vs its xD h it hi
    cases r with
    | into _ _=>cases sD <;> cases vs <;> exact h.elim
    | ptr _ _ _ _=>cases sD <;> cases vs <;> exact h.elim
    | val kk exts gL=>
     cases sD <;> cases vs <;> cases xD <;> first | exact h.elim | exact ih h.2 it hi
    | own kk ow exts gL=>
     cases sD <;> cases vs <;> cases its <;> first | exact h.elim | skip
     rcases af2.1 hi with h3 | h3
     ·subst h3; rw [h.1.2.1]; exact h.1.2.2.1
     ·exact ih h.2 it h3
  obtain ⟨dH,F1,hs,H1,g1,g2,g3,g4,g5,g6,g7,g8,g9⟩:=takes its H (Ky f1) b1 (fun t ht=>b2 t (afV _ ht))
  obtain ⟨bz,k1,k2,k3,k4⟩:=LX H1 g7 f1 g1 (fun t ht=>g5 t.1 (b2 t (afS _ ht)))
  split at h2
  ·rename_i d hd
   simp only [afQ] at h2
   subst h2
   refine ⟨PZ vs,vR k4,_,dH,F1,a,vs,bz,H1,rfl,by rw [xX]; exact k1,by rw [k2]; exact g2,k3,by rw [yD]; exact y7 hd⟩
  ·simp at h2
 ·exact f2.elim
theorem PG {A:Type} {z:A} {t:TypeId} {kk:K} {ow:List TypeId} {exts:List Nat} {x:AV} {v:Value} {k:El kk→Nat→Prog A} (hx:bH cx σ α F w x v) (h:(Rz t kk ow exts x k).ends σ z) :
  ∃r R y b o,aN σ r R∧bn σ R∧R.kind=.var t∧kD (kk.tys.filter fun t=>au t ow) R.own=true∧((kk.tys.all fun t=>au t ow)=true∨nu exts [] R.tags=true)∧(∃e:R.k=kk,y=e▸R.x)∧dQ α R r=some (b,o)∧v=.pointer (some ⟨b,o,none⟩)∧(k y r).ends σ z:=by
 cases x with
 | ptr r p n=>
  cases p with
  | cons s p=>exact h.elim
  | nil=>
   unfold Rz at h
   obtain ⟨R,hr,hv,h⟩:=cz h
   rcases ay h with ⟨hb,h⟩ | ⟨_,h⟩
   ·simp only [afW,Bool.or_eq_true] at hb
    obtain ⟨⟨b1,b2⟩,b3⟩:=hb
    have hk:R.kind=.var t:=by
     unfold Root.OZ at b1
     split at b1
     ·rename_i u hu; rw [hu,afU b1]
     ·simp at b1
    cases hc:bR R.k kk R.x with
    | none=>rw [hc] at h; exact h.elim
    | some y=>
     rw [hc] at h
     obtain ⟨_,cs,b,o,hn,e⟩:=hx.2 R hr.1 hv (by unfold dS clean; simp [au]) (fun t ht=>by simp [aa] at ht) rfl
     simp only [bE,afQ,af1] at hn
     exact ⟨r,R,y,b,o,hr,hv,hk,b2,b3,bL hc,hn.2,e,h⟩
   ·exact h.elim
 | _=>exact h.elim
theorem NQ (H:Rel cx σ α F a w) {j:Nat} {x:AV} {v:Value} {m:Int} (hx:bH cx σ α F w x v) (h:(cutV j x fun m=>(.ret m:Prog Int)).ends σ m) :
  ∃b n cp,v=.slice b m.toNat cp∧m.toNat≤n∧bH cx σ α F w (.ref (ak j) 0) (.slice b n cp):=by
 cases x with
 | ref r g=>
  simp only [cutV] at h
  rcases ay h with ⟨hc,h5⟩ | ⟨_,h5⟩
  ·clear h
   simp only [afW] at hc
   have e1:=afU hc.1
   have e2:=afU hc.2
   subst e1 e2
   obtain ⟨R,hr,hv,h⟩:=cz h5
   rcases ay h with ⟨hg,h⟩ | ⟨_,h⟩
   ·obtain ⟨h1,h2⟩:=hx R hr (afU hg)
    have hO:=(H.roots _ R hr).ow hv
    have hK:∀q:Dat,(⟨R.k,R.x⟩:Dat)=q→(match q.1,q.2 with
      | .sl _ kk,xs=>(.ret ((show List (El kk) from xs).length:Int):Prog Int)
      | _,_=>.fail).ends σ m→∃b n cp,v=.slice b m.toNat cp∧m.toNat≤n∧bH cx σ α F w (.ref (ak j) 0) (.slice b n cp):=by
     intro q hq hh
     obtain ⟨qk,qx⟩:=q
     cases qk with
     | sl e kk=>
      have hm:m=((show List (El kk) from qx).length:Int):=hh
      have hV:=jJ (fun _=>True) (fun _ _=>trivial) (fun _ _=>trivial) hO
      have hV:=cast (congrArg (fun q:Dat=>Vw (hp w) (fun _=>True) q.1 q.2 (α.hdr (ak j))) hq) hV
      have xY:=cast (congrArg (fun q:Dat=>VC q.1 v (α.hdr (ak j))) hq) h2
      obtain ⟨b,n,c,g1,g2,g3,_⟩:=hV
      have xY:VC (.sl e kk) v (α.hdr (ak j)):=xY
      have g1:α.hdr (ak j)=[.slice b n c]:=g1
      have h3:=xY.1
      rw [g1] at h3
      simp only [List.cons.injEq,and_true] at h3
      have g2:n=(show List (El kk) from qx).length:=g2
      refine ⟨b,n,c,by rw [hm, ←g2]; simpa using h3.symm,by rw [hm, ←g2]; simp,by rw [h3]; exact hx⟩
     | _=>exact hh.elim
    exact hK _ rfl h
   ·exact h.elim
  ·exact h5.elim
 | part r g lo hi sz=>
  simp only [cutV] at h
  rcases ay h with ⟨hc,h5⟩ | ⟨_,h5⟩
  ·clear h
   simp only [afW] at hc
   have e1:=afU hc.1.1
   have e2:=afU hc.1.2
   have e3:=afU hc.2
   subst e1 e2 e3
   have hm:m=(hi:Int):=h5
   obtain ⟨b',b,n,c,g1,g2,g3,g4,g5,g6⟩:=hx
   have hb:b'=b:=by rw [g2 (.inl rfl)]; simp [add_zero]
   subst hb
   exact ⟨b',n,c,by rw [g1,hm]; simp,by rw [hm]; simpa using g4,g6⟩
  ·exact h5.elim
 | _=>exact h.elim
theorem QV (hT:dU P T) (H:Rel cx σ α F a w) {ps:List fA} {rs:List ug} {fn:Func} {out:Cont (gU rs++jD ps)} (h:QU T ps rs fn.results.toList σ=some out) :
  ∃v,(results fn a.tmps).run P w=.ok v w∧Post cx ps rs out v w:=by
 obtain ⟨sD,Sk⟩:∃sD,fn.results.toList=sD:=⟨_,rfl⟩
 rw [Sk] at h
 have other:fin T ps rs sD σ=some out→∃v,(results fn a.tmps).run P w=.ok v w∧Post cx ps rs out v w:=fun h=>TY hT H (by rw [Sk]; exact h)
 cases rs with
 | nil=>exact other h
 | cons q rs=>
  cases q with
  | val _ _ _=>exact other h
  | own _ _ _ _=>exact other h
  | into j q=>
   cases rs with
   | cons _ _=>cases q <;> exact other h
   | nil=>
    cases q with
    | cons _ _=>exact other h
    | nil=>
     match sD,Sk,h,other with
     | [],_,h,other=>exact other h
     | _ :: _ :: _,_,h,other=>exact other h
     | [rv],Sk,h,_=>
      have h:((JR T false rv fun a=>cutV j a fun m=>.ret m:Prog Int).run σ fun m=>
        match jR σ ps 0 with
        | some d=>some (m,d)
        | none=>none)=some out:=h
      obtain ⟨m,h1,h2⟩:=rM _ h
      obtain ⟨y,u,g1,g2,_,h1⟩:=yz hT H h1
      obtain ⟨b,n,cp,e1,e2,e3⟩:=NQ H g2 h1
      split at h2
      ·rename_i d hd
       have h2:some ((m,d):Cont (gU [ug.into j []]++jD ps))=some out:=h2
       have h2:=agr h2
       subst h2
       exact ⟨_,vR (vs:=[_]) (by rw [Sk]; simp [List.mapM_cons,g1,Result.andThen]),_,_,_,a,[_],[[]],H,rfl,⟨⟨rfl,rfl,b,n,cp,e1,e2,e3⟩,trivial⟩,by simp,by simp,y7 hd⟩
      ·simp at h2
  | ptr t kk ow exts=>
   cases rs with
   | cons _ _=>exact other h
   | nil=>
    match sD,Sk,h,other with
    | [],_,h,other=>exact other h
    | _ :: _ :: _,_,h,other=>exact other h
    | [rv],Sk,h,_=>
     have h:((JR T false rv fun a=>Rz t kk ow exts a fun y r=>.ret (y,r):Prog (El kk×Nat)).run σ fun q=>
       match jR (az [.r q.2 none] σ) ps 0 with
       | some d=>some (q.1,d)
       | none=>none)=some out:=h
     obtain ⟨q,h1,h2⟩:=rM _ h
     obtain ⟨y,u,g1,g2,_,h1⟩:=yz hT H h1
     obtain ⟨r,R,x,b,o,hr,hv,hk,b2,b3,ex,uL,rfl,h1⟩:=PG g2 h1
     have h1:q=(x,r):=h1
     subst h1
     obtain ⟨k1,k2,k3,k4⟩:=X9 H hr (by rw [hk]; simp) hv
     have hblk:blk α R r=b :: α.fo r:=by unfold blk; rw [uL]; rfl
     have K:=H.roots r R hr
     have hnd:=K.nd
     rw [hblk] at hnd
     split at h2
     ·rename_i d hd
      have h2:some ((x,d):Cont (gU [ug.ptr t kk ow exts]++jD ps))=some out:=h2
      have h2:=agr h2
      subst h2
      refine ⟨_,vR (vs:=[_]) (by rw [Sk]; simp [List.mapM_cons,g1,Result.andThen]),_,_,_,a,[_],[b :: α.fo r],k1,rfl,⟨⟨b,o,R.tags,α.hdr r,R.own,α.fo r,rfl,rfl,b3, ?_, ?_, ?_⟩,trivial⟩,by simpa using hnd, ?_,y7 hd⟩
      ·intro u hu hm
       exact aJ.2 (je.1 b2 u (af7.2 ⟨hu,hm⟩))
      ·obtain ⟨m1,arr,e,lo,hi,m2,m3,m4,m5⟩:=K.mem b o uL
       obtain ⟨ek,_⟩:=ex
       exact ⟨m1,arr,e,lo,hi,m2,m3,by rw [←ek]; exact m4,m5 t hk⟩
      ·obtain ⟨ek,ey⟩:=ex
       subst ek
       simp only at ey
       subst ey
       exact k3.ow k4
      ·intro c hc
       simp only [List.flatten_cons,List.flatten_nil,agk] at hc
       exact afV _ (by rw [hblk]; exact hc)
     ·simp at h2
def Cx.Px (cx:Cx) (m:Nat):Cx:={ cx with nt:=m }
theorem yV {m:Nat}:∀{cs:List (TypeId×Dat×List Tag)} {vs:List Value},jB (cx.Px m) σ α F w cs vs↔jB cx σ α F w cs vs
 | [],[]=>Iff.rfl
 | c :: cs,v :: vs=>and_congr Iff.rfl yV
 | [],_ :: _=>Iff.rfl
 | _ :: _,[]=>Iff.rfl
theorem Kb {m:Nat} {x:AV} {v:Value}:bH (cx.Px m) σ α F w x v↔bH cx σ α F w x v:=by
 cases x with
 | fn f cs=>
  constructor
  ·rintro ⟨vs,h1,h2⟩; exact ⟨vs,h1,yV.1 h2⟩
  ·rintro ⟨vs,h1,h2⟩; exact ⟨vs,h1,yV.2 h2⟩
 | _=>exact Iff.rfl
theorem tQ {m:Nat}:∀{l:List AV} {vs:List Value},dO (cx.Px m) σ α F w l vs↔dO cx σ α F w l vs
 | [],[]=>Iff.rfl
 | c :: cs,v :: vs=>and_congr Kb tQ
 | [],_ :: _=>Iff.rfl
 | _ :: _,[]=>Iff.rfl
theorem Nh {m:Nat} {x:sK} {v:Value}:iM (cx.Px m) σ α F w x v↔iM cx σ α F w x v:=by
 cases x with
 | one x=>exact Kb
 | CV l=>
  constructor
  ·rintro ⟨vs,h1,h2⟩; exact ⟨vs,h1,tQ.1 h2⟩
  ·rintro ⟨vs,h1,h2⟩; exact ⟨vs,h1,tQ.2 h2⟩
 | lit _ _ l=>
  constructor
  ·rintro ⟨vs,cs,h1,h2⟩; exact ⟨vs,cs,h1,tQ.1 h2⟩
  ·rintro ⟨vs,cs,h1,h2⟩; exact ⟨vs,cs,h1,tQ.2 h2⟩
theorem Rel.Px {a':Act} (H:Rel cx σ α F a w) {m:Nat} (hd:a'.defers=[]) (hm:m≤a'.tmps.size) (hs:∀s,a'.tmps.getD s undef=a.tmps.getD s undef):Rel (cx.Px m) σ α F a' w where
 defs:=hd
 sz:=hm
 jT:=H.jT
 yu:=H.yu
 slots:=fun s=>by rw [hs s]; exact Nh.2 (H.slots s)
 oF:=H.oF
 roots:=fun r R hr=>by
  obtain ⟨o1,o2,o3,o4,o5⟩:=H.roots r R hr
  exact ⟨o1,o2,o3,o4,o5⟩
 dh:=H.dh
 AB:=H.AB
 fl:=H.fl
 uU:=H.uU
 iB:=H.iB
 frame:=H.frame
 qb:=H.qb
 lK:=H.lK
 rA:=H.rA
 rC:=H.rC
theorem G7:∀{ps:List fA} {i:Nat} {c:Cont (kin ps)} {r:Nat} {R:Root},fZ (fU ps i c) r=some R→∃j p cj,r=ak (i+j)∧ps[j]?=some p∧dL p (i+j) cj=some R:=by
 intro ps
 induction ps with
 | nil=>intro i c r R h; simp [fU,fZ] at h
 | cons p ps ih=>
  intro i c r R h
  rw [rz,tT] at h
  have hrec:fZ (fU ps (i+1) (SG p ps c)) r=some R→∃j q cj,r=ak (i+j)∧(p :: ps)[j]?=some q∧dL q (i+j) cj=some R:=by
   intro h
   obtain ⟨j,q,cj,h1,h2,h3⟩:=ih h
   have e:i+1+j=i+(j+1):=by omega
   exact ⟨j+1,q,cj,by rw [h1,e],by simpa using h2,by rw [←e]; exact h3⟩
  cases hr:dL p i (Oq p ps c) with
  | none=>rw [hr] at h; exact hrec h
  | some Q=>
   rw [hr] at h
   simp only [fZ] at h
   cases hb:Nat.beq r (ak i) with
   | true=>
    rw [hb] at h
    have h':Q=R:=by simpa using h
    exact ⟨0,p,Oq p ps c,afU hb,rfl,by rw [←h']; exact hr⟩
   | false=>rw [hb] at h; exact hrec h
theorem Jr:∀{ps:List fA} {i j:Nat} {k:K},sM ps j k→∃l,iI (ak (i+j)) (rJ ps i)=some (k,l):=by
 intro ps
 induction ps with
 | nil=>intro i j k h; obtain ⟨ow,wt,ht,h | h⟩:=h <;> simp at h
 | cons p ps ih=>
  intro i j k h
  have hne:∀j,Nat.beq (ak (i+(j+1))) (ak i)=false:=fun j=>by
   cases h:Nat.beq (ak (i+(j+1))) (ak i) with
   | true=>
    have:=afU h
    unfold ak at this
    omega
   | false=>rfl
  cases j with
  | zero=>
   obtain ⟨ow,wt,ht,h | h⟩:=h
   ·simp only [List.getElem?_cons_zero,afQ] at h
    subst h
    exact ⟨(wt,ht),by simp [rJ,iI]⟩
   ·simp only [List.getElem?_cons_zero,afQ] at h
    subst h
    exact ⟨(wt,k.tys),by simp [rJ,iI]⟩
  | succ j=>
   have h':sM ps j k:=by
    obtain ⟨ow,wt,ht,h⟩:=h
    exact ⟨ow,wt,ht,by simpa using h⟩
   obtain ⟨l,hl⟩:=ih (i:=i+1) h'
   have e:i+1+j=i+(j+1):=by omega
   rw [e] at hl
   cases p <;> first | exact ⟨l,by simp only [rJ,iI,hne j,cond_false]; exact hl⟩ | exact ⟨l,hl⟩
theorem H6 {ps:List fA} {c:Cont (kin ps)} (hP:yP cx ps) (H:Rel cx (bX ps c) α F a w) (m:Nat):IL (cx.Px m) (rJ ps 0):=by
 have hf:∀{j:Nat} {k:K},sM ps j k→∃l,iI (ak j) (rJ ps 0)=some (k,l):=fun {j} {k} h=>by
  have:=Jr (i:=0) h
  simpa using this
 refine ⟨fun j pi hj h=>?_,fun j p ts v hv=>?_,fun j v hv=>?_⟩
 ·rcases h with h | ⟨⟨b,o,n⟩,h⟩
  ·obtain ⟨k,hk⟩:=hP.par j pi hj h
   obtain ⟨l,hl⟩:=hf hk
   exact ⟨_,hl⟩
  ·obtain ⟨R,hR,hk,_⟩:=H.jT j pi b o n hj h
   obtain ⟨j',p,cj,h1,h2,h3⟩:=G7 (show fZ (fU ps 0 c) (ak j)=some R from hR.1)
   have e:j=j':=by unfold ak at h1; omega
   subst e
   have:∃k,sM ps j k:=by
    cases p with
    | rw k ow wt ht=>exact ⟨k,ow,wt,ht, .inl h2⟩
    | jF k ow wt=>exact ⟨k,ow,wt,[], .inr h2⟩
    | own k ow=>
     have h4:=agr h3
     rw [←h4] at hk
     simp [aI] at hk
    | _=>simp [dL] at h3
   obtain ⟨k,hk⟩:=this
   obtain ⟨l,hl⟩:=hf hk
   exact ⟨_,hl⟩
 ·obtain ⟨k,hk,e⟩:=hP.ptr j p ts v hv
  obtain ⟨l,hl⟩:=hf hk
  exact ⟨k,l,hl,e⟩
 ·obtain ⟨k,hk⟩:=hP.ref j v hv
  obtain ⟨l,hl⟩:=hf hk
  exact ⟨_,hl⟩
theorem Jd (hm:P.follows .mixedOrders=true) (hT:dU P T) (hSt:CZ P T) {E:Entry} {fn:Func} (hf:P.funcs[E.f]?=some fn) (hname:(fn.name == "runtime.NumGoroutine")=false) {m:Nat} (hC:qC P m hi)
  (hF:∀c out,E.F n c=some out→QM T hi fn E.ps E.rs m c=some out):aB P n E:=by
 intro c out hout cx α args w hnt hw hsz hP H
 have h:=hF c out hout
 unfold QM at h
 cases hb:fn.body with
 | none=>rw [hb] at h; simp at h
 | some code=>
  rw [hb] at h
  simp only at h
  refine .inl ⟨Go.MuLone.run_callFunc_enter hf hname hb args w,calls_of_wp hf hb ?_⟩
  have H2:Rel (cx.Px fn.ntmps) (bX E.ps c) α [] { tmps:=args++Array.replicate (fn.ntmps - args.size) undef,defers:=[] } w:=by
   refine H.Px rfl (by simp; omega) fun s=>?_
   simp only [Array.getD_eq_getD_getElem?]
   rw [Array.getElem?_append]
   split
   ·rfl
   ·rename_i hlt
    rw [Array.getElem?_eq_none (by omega:args.size≤s)]
    rw [Array.getElem?_replicate]
    split <;> rfl
  have hC':qC P m { hi with nt:=fn.ntmps,iJ:=rJ E.ps 0 }:=hC
  refine wp_mono (TV NF hm hT hSt hC' rfl (H6 hP H _) code 0 h H2) ?_
  have hend:∀{σ':St} {α':dI} {F':List Nat} {a':Act} {w':World},QU T E.ps E.rs fn.results.toList σ'=some out→Rel (cx.Px fn.ntmps) σ' α' F' a' w'→
    a'.defers=[]∧∃v,(results fn a'.tmps).run P w'=.ok v w'∧∃v',Ending.returned v=.returned v'∧Post cx E.ps E.rs out v' w':=by
   intro σ' α' F' a' w' h1 H3
   have H4:Rel cx σ' α' F' a' w':=by
    have:=H3.Px (m:=0) (a':=a') H3.defs (agq _) (fun _=>rfl)
    obtain ⟨nt,w0,ext,par,ptrs,refs⟩:=cx
    simp only at hnt
    subst hnt
    exact this
   obtain ⟨v,v1,v2⟩:=QV (P:=P) hT H4 h1
   exact ⟨H3.defs,v,v1,v,rfl,v2⟩
  rintro e a' w' ⟨ex,σ',α',F',h1,h2,h3⟩
  cases e <;> simp only [W9,afQ,reduceCtorEq] at h1
  ·subst h1; exact hend h2 h3
  ·subst h1; simp at h2
  ·subst h1; exact hend h2 h3
end
end
section
open Go
variable [Fr]
def A7 (W:World):(ps:List fA)→Cont (kin ps)→List Value→Prop
 | [],_,[]=>True
 | .val k [] :: ps,c,v :: vs=>(∃cs,VC k v cs∧Vw (hp W) (fun b=>b<W.heap.size) k c.1 cs)∧A7 W ps c.2 vs
 | _,_,_=>False
def Nu (W W':World):Prop:=W'.os=W.os∧W'.output=W.output∧W.heap.size≤W'.heap.size∧∀b,b<W.heap.size→hp W' b=hp W b
def vH (W:World):Cx:={ nt:=0,w0:=W,ext:=fun _ b=>b<W.heap.size,par:=fun _=>none,ptrs:=fun _ _ _ _=>False,refs:=fun _ _=>False }
def Pv:dI:={ loc:=fun _=>(0,0),hdr:=fun _=>[],fo:=fun _=>[] }
section
variable {P:Program} {W:World}
theorem A7.roots:∀{ps:List fA} {c:Cont (kin ps)} {vs:List Value} {i:Nat},A7 W ps c vs→fU ps i c=[]∧vs.length=ps.length
 | [],_,[],_,_=>⟨rfl,rfl⟩
 | [],_,_ :: _,_,h=>h.elim
 | .val k [] :: ps,c,v :: vs,i,h=>by
  obtain ⟨h1,h2⟩:=A7.roots (i:=i+1) h.2
  exact ⟨h1,by simp [h2]⟩
 | .val k (_ :: _) :: ps,c,vs,_,h=>by cases vs <;> exact h.elim
 | .val k [] :: ps,c,[],_,h=>h.elim
 | .ro _ :: _,_,vs,_,h=>by cases vs <;> exact h.elim
 | .rw _ _ _ _ :: _,_,vs,_,h=>by cases vs <;> exact h.elim
 | .jF _ _ _ :: _,_,vs,_,h=>by cases vs <;> exact h.elim
 | .own _ _ :: _,_,vs,_,h=>by cases vs <;> exact h.elim
 | .fn _ _ :: _,_,vs,_,h=>by cases vs <;> exact h.elim
 | .into _ _ :: _,_,vs,_,h=>by cases vs <;> exact h.elim
theorem A7.slots {σ:St} (hσ:∀r R,¬aN σ r R):∀{ps:List fA} {c:Cont (kin ps)} {vs:List Value} {i:Nat},A7 W ps c vs→∀s,(∀v,vs[s - i]?=some v→i≤s→iM (vH W) σ Pv [] W (oo (jc ps i c) s) v)∧((vs[s - i]?=none∨s<i)→oo (jc ps i c) s=.one .undef)∧sO σ (oo (jc ps i c) s)
 | [],_,[],_,_=>fun s=>⟨fun v h=>by simp at h,fun _=>rfl,trivial⟩
 | [],_,_ :: _,_,h=>h.elim
 | .val k [] :: ps,c,v :: vs,i,h=>by
  intro s
  have ih:=A7.slots hσ (i:=i+1) h.2 s
  simp only [jc,oo]
  cases hb:Nat.beq s i with
  | true=>
   have:=afU hb
   subst this
   simp only [Nat.sub_self,List.getElem?_cons_zero,afQ,cond_true]
   refine ⟨fun u hu _=>?_,fun h=>by rcases h with h | h; simp at h; omega, ?_⟩
   ·subst hu
    intro _
    obtain ⟨cs,h1,h2⟩:=h.1
    refine ⟨cs,h1, ?_⟩
    cases hf:k.flat with
    | true=>exact iF hf h2
    | false=>
     refine fI (fun _ _=>rfl) (fun b hb=>⟨hb,by simp, ?_,fun r R hr=>absurd hr (hσ r R),fun _=>.inl ⟨s,0,by simp,hb⟩⟩) h2
     rintro ⟨j,pi,o,n,h3,_⟩
     simp [vH] at h3
   ·intro t ht
    cases hf:k.flat with
    | true=>rw [hf] at ht; simp at ht
    | false=>
     rw [hf] at ht
     simp only [cond_false,List.map_nil,af9] at ht
     subst ht
     exact .inl (iw s)
  | false=>
   have hne:=Nat.ne_of_beq_eq_false hb
   simp only [cond_false]
   refine ⟨fun u hu hle=>?_,fun hh=>?_,ih.2.2⟩
   ·refine ih.1 u ?_ (by omega)
    have e:s - i=(s - (i+1))+1:=by omega
    rw [e] at hu
    simpa using hu
   ·refine ih.2.1 ?_
    rcases hh with hh | hh
    ·by_cases hlt:s<i
     ·exact .inr (by omega)
     ·have e:s - i=(s - (i+1))+1:=by omega
      rw [e] at hh
      exact .inl (by simpa using hh)
    ·exact .inr (by omega)
 | .val k (_ :: _) :: ps,c,vs,_,h=>by cases vs <;> exact h.elim
 | .val k [] :: ps,c,[],_,h=>h.elim
 | .ro _ :: _,_,vs,_,h=>by cases vs <;> exact h.elim
 | .rw _ _ _ _ :: _,_,vs,_,h=>by cases vs <;> exact h.elim
 | .jF _ _ _ :: _,_,vs,_,h=>by cases vs <;> exact h.elim
 | .own _ _ :: _,_,vs,_,h=>by cases vs <;> exact h.elim
 | .fn _ _ :: _,_,vs,_,h=>by cases vs <;> exact h.elim
 | .into _ _ :: _,_,vs,_,h=>by cases vs <;> exact h.elim
theorem UQ (hfr:∀b,Fr.free b→b<W.heap.size∧hp W b=Fr.obj b) {ps:List fA} {c:Cont (kin ps)} {args:Array Value} (hV:A7 W ps c args.toList):Rel (vH W) (bX ps c) Pv [] ⟨args,[]⟩ W:=by
 have hr0:∀r,(bX ps c).roots r=none:=fun r=>by
  show fZ (fU ps 0 c) r=none
  rw [(hV.roots (i:=0)).1]
  rfl
 have hno:∀r R,¬aN (bX ps c) r R:=fun r R h=>by have h2:=h.1; rw [hr0 r] at h2; simp at h2
 have hs:=fun s=>A7.slots hno (i:=0) hV s
 refine ⟨rfl,agq _,fun j pi b o n h=>by simp [vH] at h,fun r R h=>absurd h (hno r R),fun s=>?_,fun s=>(hs s).2.2,fun r R h=>absurd h (hno r R),fun r R h=>by rw [hr0 r] at h; simp at h,
  fun r R _ _ h=>absurd h (hno r R),fun b h=>by simp at h,List.nodup_nil,fun r R h=>absurd h (hno r R),⟨rfl,rfl,rfl,af6 _,fun _ _ _=>rfl,fun j pi b o n h=>by simp [vH] at h⟩,
  fun j pi h=>by simp [vH] at h,⟨fun j pi h=>by simp [vH] at h,fun b hb=>⟨(hfr b hb).1,fun j pi h=>by simp [vH] at h⟩,fun b hb=>(hfr b hb).2⟩,fun j p ts v h=>h.elim,fun j v h=>h.elim⟩
 obtain ⟨h1,h2,_⟩:=hs s
 cases hv:args.toList[s]? with
 | none=>
  have:=h2 (.inl (by simpa using hv))
  rw [show (bX ps c).slots s=.one .undef from this]
  trivial
 | some v=>
  have:=h1 v (by simpa using hv) (agq _)
  have e:args.getD s undef=v:=by
   rw [Array.getElem?_toList] at hv
   simp [Array.getD_eq_getD_getElem?,hv]
  show iM _ _ _ _ _ _ (args.getD s undef)
  rw [e]
  exact this
theorem O7 (hfr:∀b,Fr.free b→b<W.heap.size∧hp W b=Fr.obj b) {f:FuncId} {ps:List fA} {F:Nat→Cont (kin ps)→Option (Cont (gU [.val .bool [] []]++jD ps))} {n:Nat} (hE:aB P n ⟨f,ps,[.val .bool [] []],F⟩)
  {c:Cont (kin ps)} {out:Cont (gU [.val .bool [] []]++jD ps)} (hF:F n c=some out) (ht:out.1=true) {args:Array Value} (hV:A7 W ps c args.toList) (hcall:(callFunc f args).run P W=.ok (.enter f args) W) :
  Calls P f args W fun e W'=>e=.returned (.bool true)∧Nu W W':=by
 have h:=hE c out hF (vH W) Pv args W rfl rfl (by rw [←Array.length_toList,(hV.roots (i:=0)).2]) ⟨fun j pi h=>by simp [vH] at h,fun j p ts v h=>h.elim,fun j v h=>h.elim⟩ (UQ hfr hV)
 rcases h with ⟨_,h⟩ | ⟨v,w',h,_⟩
 ·refine h.mono ?_
  rintro e W' ⟨v,rfl,σ,α,F',a,vs,bz,H,rfl,hR,_⟩
  refine ⟨?_,H.frame.1,H.frame.2.2.1,H.frame.2.2.2.1,fun b hb=>H.frame.2.2.2.2.1 b hb (fun j pi h=>by simp [vH] at h)⟩
  cases vs with
  | nil=>exact hR.elim
  | cons v vs=>
   cases bz with
   | nil=>exact hR.elim
   | cons fo bz=>
    obtain ⟨⟨_,T,cs,_,hv,hw⟩,hr⟩:=hR
    cases vs with
    | cons _ _=>exact hr.elim
    | nil=>
     obtain ⟨e1,_⟩:=hv
     have e2:cs=[.bool out.1]:=hw
     rw [e1,ht] at e2
     simp only [List.cons.injEq,and_true] at e2
     subst e2
     rfl
 ·rw [hcall] at h
  simp at h
end
end
section
open Go
mutual
def Qe {H:Type}:DataW H→Nat
 | .lit (.string bytes)=>bytes.length+1
 | .lit _=>1
 | .nil=>1
 | .ptr d=>Qe d+1
 | .slice elems spare=>Af elems+Af spare+1
 | .agg parts=>Af parts+1
 | .iface _ d=>Qe d+1
 | .map _=>1
 | .held _=>1
def Af {H:Type}:List (DataW H)→Nat
 | []=>0
 | d :: r=>Qe d+Af r
end
def KN:(k:K)→El k→Nat
 | .int _,_=>1
 | .bool,_=>1
 | .str,s=>(show List Int from s).length+1
 | .sl _ k,xs=>((show List (El k) from xs).map (KN k)).sum+1
 | .unit,_=>0
 | .pair a b,x=>KN a x.1+KN b x.2
 | .st f,x=>KN f x+1
 | .gap _,_=>0
 | .id _,_=>1
def zS:(k:K)→El k→Prop
 | .int ik,x=>CG ik x
 | .str,s=>(show List Int from s).length≤9223372036854775807∧∀b∈(show List Int from s),0≤b∧b<256
 | .sl _ k,xs=>(show List (El k) from xs).length≤9223372036854775807∧∀x∈(show List (El k) from xs),zS k x
 | .pair a b,x=>zS a x.1∧zS b x.2
 | .st f,x=>zS f x
 | _,_=>True
theorem zI {A:Type} {p:Nat→A→Prop}:∀{n:Nat},(∀i,i<n→∃x,p i x)→∃xs:List A,xs.length=n∧∀i (h:i<xs.length),p i xs[i]:=by
 intro n h
 induction n with
 | zero=>exact ⟨[],rfl,fun i h=>by simp at h⟩
 | succ n ih=>
  obtain ⟨xs,h1,h2⟩:=ih (fun i hi=>h i (by omega))
  obtain ⟨x,hx⟩:=h n (by omega)
  refine ⟨xs++[x],by simp [h1],fun i hi=>?_⟩
  rw [List.getElem_append]
  split
  ·exact h2 i _
  ·have:i=n:=by simp [h1] at hi; omega
   subst this
   simpa using hx
theorem PX {A H:Type} {f:A→Nat}:∀{xs:List A} {ds:List (DataW H)},xs.length=ds.length→(∀i (h:i<xs.length) (h':i<ds.length),f xs[i]≤Qe ds[i])→(xs.map f).sum≤Af ds
 | [],[],_,_=>af6 _
 | x :: xs,d :: ds,hl,h=>by
  simp only [List.map_cons,List.sum_cons,Af]
  have h0:=h 0 (by simp) (by simp)
  have:=PX (xs:=xs) (ds:=ds) (by simpa using hl) (fun i h1 h2=>by
   have:=h (i+1) (by simp; omega) (by simp; omega)
   simpa using this)
  simp only [List.getElem_cons_zero] at h0
  omega
 | [],_ :: _,hl,_=>by simp at hl
 | _ :: _,[],hl,_=>by simp at hl
section
variable {P:Program} {T:iD} {W:World} {H:Type} {enc:TypeId×Value→H}
def WN [Fr] (W:World) (k:K) (cs:List Value) (d:DataW H):Prop:=∃x:El k,Vw (hp W) (fun b=>b<W.heap.size) k x cs∧KN k x≤Qe d∧zS k x
theorem uM {t:TypeId} {k:K} (h:oM P t k):P.cellsOf t=k.size:=by
 obtain ⟨i,h1,h2,_⟩:=h
 simp [Program.cellsOf,h1,h2]
theorem M7 [Fr] (hid:T.ids=false) (hfr:∀b,b<W.heap.size→Fr.free b):∀(k:K),
  (∀t n cs d ps,(iW P T k).1 t→DataW.trod enc P W 0 (fun _=>true) true n t cs=some (d,ps)→WN W k cs d)∧
  (∀(fs:List Field) off n (cs:List Value) (xs:List (DataW H×List MemPlace)),(iW P T k).2 fs off→cs.length=off+k.size→xs.length=fs.length→
   (∀(i:Nat) f,fs[i]?=some f→DataW.trod enc P W 0 (fun _=>true) true n f.type ((cs.drop f.offset).take (P.cellsOf f.type))=xs[i]?)→
   ∃x:El k,Vw (hp W) (fun b=>b<W.heap.size) k x (cs.drop off)∧KN k x≤Af (xs.map (·.1))∧zS k x):=by
 intro k
 induction k with
 | int ik=>
  refine ⟨fun t n cs d ps ht h=>?_,fun _ _ _ _ _ h=>h.elim⟩
  obtain ⟨m,rfl,e,hw⟩:=DataW.trod_int ht.1 h
  simp only [af1] at e
  obtain ⟨rfl,rfl⟩:=e
  have hr:CG ik m:=by
   cases ik <;> simp [CG]
   simp [Lit.wf,IntKind.min,IntKind.max,IntKind.signed,IntKind.bits] at hw
   omega
  exact ⟨m,⟨rfl,hr⟩,af6 _,hr⟩
 | bool=>
  refine ⟨fun t n cs d ps ht h=>?_,fun _ _ _ _ _ h=>h.elim⟩
  obtain ⟨b,rfl,e⟩:=DataW.trod_bool ht.1 h
  simp only [af1] at e
  obtain ⟨rfl,rfl⟩:=e
  exact ⟨b,rfl,af6 _,trivial⟩
 | str=>
  refine ⟨fun t n cs d ps ht h=>?_,fun _ _ _ _ _ h=>h.elim⟩
  obtain ⟨s,rfl,e,hsz⟩:=DataW.trod_string ht.1 h
  simp only [af1] at e
  obtain ⟨rfl,rfl⟩:=e
  exact ⟨bytesOf s,⟨s,rfl,rfl⟩,by simp [KN,Qe,bytesOf],by
   unfold maxLen at hsz
   have:(bytesOf s).length=s.size:=by simp [bytesOf]
   refine ⟨(show (bytesOf s).length≤9223372036854775807 by omega),fun b hb=>?_⟩
   have hb':b∈bytesOf s:=hb
   unfold bytesOf at hb'
   obtain ⟨x,_,rfl⟩:=ags.1 hb'
   have:=x.toNat_lt
   omega⟩
 | unit=>exact ⟨fun _ _ _ _ _ h=>h.elim,fun fs off n cs xs _ hl hx hf=>⟨(),by
   have:cs.drop off=[]:=List.drop_eq_nil_of_le (by simp [K.size] at hl; omega)
   exact this,agq _,trivial⟩⟩
 | gap n=>exact ⟨fun _ _ _ _ _ h=>h.elim,fun _ _ _ _ _ h=>h.elim⟩
 | id e=>exact ⟨fun t n cs d ps ht h=>by have:=ht.2.2; rw [hid] at this; simp at this,fun _ _ _ _ _ h=>h.elim⟩
 | sl e k ih=>
  refine ⟨fun t n cs d ps ht h=>?_,fun _ _ _ _ _ h=>h.elim⟩
  obtain ⟨hu,_,hte,hk0,_⟩:=ht
  have hce:P.cellsOf e=k.size:=uM (fB.info hte)
  rcases DataW.trod_slice hu h with ⟨rfl,e1⟩ | ⟨a,len,cap,elems,rest,m,rfl,rfl,e1,_,hlc,hmx,hle,hel,_,_⟩
  ·simp only [af1] at e1
   obtain ⟨rfl,rfl⟩:=e1
   exact ⟨[],⟨none,0,0,rfl,rfl,af6 _,fun h=>by omega⟩,by simp [KN,Qe],⟨agq _,fun x hx=>by simp at hx⟩⟩
  ·simp only [af1] at e1
   obtain ⟨rfl,rfl⟩:=e1
   have hone:∀i (hi:i<len),∃x:El k,∃ds,W.cells? 0 (a.add (i * k.size)) k.size=some ds∧Vw (hp W) (fun b=>b<W.heap.size) k x ds∧(∀(h':i<elems.length),KN k x≤Qe elems[i].1)∧zS k x:=by
    intro i hi
    have h1:=hel i hi
    have hi':i<elems.length:=by omega
    rw [hce,af4 hi'] at h1
    obtain ⟨ds,h2,h3⟩:=Option.bind_eq_some_iff.1 h1
    obtain ⟨x,h4,h5,h6⟩:=ih.1 e m ds _ _ hte h3
    exact ⟨x,ds,h2,h4,fun _=>h5,h6⟩
   obtain ⟨xs,hl,hxs⟩:=zI hone
   refine ⟨xs,⟨some a,len,cap,rfl,hl.symm,hlc,fun h0=>?_⟩, ?_, ?_⟩
   ·obtain ⟨b,o,sp⟩:=a
    have h0':0<xs.length:=by omega
    obtain ⟨ds0,h2,h3,_⟩:=hxs 0 h0'
    have hb:=World.cells?_block h2 hk0
    obtain ⟨_,g1,g2⟩:=World.cells?_some h2
    have hsp:sp=none:=by
     have:=g2 0 hk0
     rw [af4 (by omega)] at this
     simp only [Nat.zero_mul,Addr.add,if_true,World.cell?] at this
     cases sp with
     | none=>rfl
     | some q=>split at this <;> simp at this
    subst hsp
    have hb':b<W.heap.size:=by
     rw [addr_add] at hb
     exact hb
    refine ⟨b,o,rfl,hb', .inr (hfr b hb'),fun i hi=>?_⟩
    obtain ⟨ds,h2,h3,_⟩:=hxs i hi
    obtain ⟨_,g1,g2⟩:=World.cells?_some h2
    refine ⟨ds,fun j hj=>?_,h3⟩
    have:=g2 j (by omega)
    rw [addr_add,addr_add,uB] at this
    exact this
   ·simp only [KN,Qe]
    have:=PX (H:=H) (f:=KN k) (xs:=xs) (ds:=elems.map (·.1)) (by simp; omega) (fun i h1 h2=>by
     obtain ⟨ds,_,_,h5,_⟩:=hxs i h1
     simpa using h5 (by simpa using h2))
    omega
   ·unfold maxLen at hmx
    refine ⟨show xs.length≤_ by omega,fun x hx=>?_⟩
    obtain ⟨i,hi,rfl⟩:=List.mem_iff_getElem.1 hx
    obtain ⟨_,_,_,_,h6⟩:=hxs i hi
    exact h6
 | pair a b iha ihb=>
  refine ⟨fun _ _ _ _ _ h=>h.elim,fun fs off n cs xs ht hl hx hf=>?_⟩
  cases fs with
  | nil=>exact ht.elim
  | cons f fs=>
   cases xs with
   | nil=>simp at hx
   | cons x0 xs=>
    obtain ⟨h1,h2,h3,h4⟩:=ht
    have hca:P.cellsOf f.type=a.size:=uM (fB.info h2)
    have h5:=hf 0 f rfl
    rw [h1,hca] at h5
    simp only [List.getElem?_cons_zero] at h5
    obtain ⟨x,g1,g2,l1⟩:=iha.1 f.type n _ x0.1 x0.2 h2 h5
    obtain ⟨y,g3,g4,l2⟩:=ihb.2 fs (off+a.size) n cs xs h4 (by simp [K.size] at hl; omega) (by simpa using hx) (fun i f' hi=>by
     have:=hf (i+1) f' (by simpa using hi)
     simpa using this)
    refine ⟨(x,y),⟨(cs.drop off).take a.size,cs.drop (off+a.size), ?_,g1,g3⟩, ?_,l1,l2⟩
    ·rw [←List.drop_drop,List.take_append_drop]
    ·simp only [KN,List.map_cons,Af]
     omega
 | st c ih=>
  refine ⟨fun t n cs d ps ht h=>?_,fun _ _ _ _ _ h=>h.elim⟩
  obtain ⟨⟨fs,hu,hfs⟩,hinfo⟩:=ht
  obtain ⟨xs,m,rfl,e1,hl,hlen,hf⟩:=DataW.trod_struct hu h
  simp only [af1] at e1
  obtain ⟨rfl,rfl⟩:=e1
  obtain ⟨x,g1,g2,l1⟩:=ih.2 fs.toList 0 m cs xs hfs (by rw [hl,uM hinfo]; simp [K.size]) (by simpa using hlen) (fun i f hi=>hf i f (by simpa using hi))
  refine ⟨x,by simp only [List.drop_zero] at g1; exact g1, ?_,l1⟩
  simp only [KN,Qe]
  omega
theorem N8:∀{k:K} {fs:List Field} {off:Nat},(iW P T k).2 fs off→∀f∈fs,∃k',(iW P T k').1 f.type:=by
 intro k
 induction k with
 | pair a b iha ihb=>
  intro fs off h f hf
  cases fs with
  | nil=>simp at hf
  | cons f0 fs=>
   rcases af2.1 hf with h1 | h1
   ·subst h1; exact ⟨a,h.2.1⟩
   ·exact ihb h.2.2.2 f h1
 | unit=>intro fs off h f hf; rw [show fs=[] from h] at hf; simp at hf
 | _=>intro fs off h; exact h.elim
theorem RN [Fr] (hid:T.ids=false) {sp:Nat→Bool} (hsp:∀b,b<W.heap.size→sp b=true):∀(n:Nat) (t:TypeId) (k:K) (cs:List Value) (x:DataW H×List MemPlace),(iW P T k).1 t→DataW.trod enc P W 0 (fun _=>true) true n t cs=some x→DataW.trod enc P W 0 sp true n t cs=some x:=by
 intro n
 induction n with
 | zero=>intro t k cs x _ h; simp [DataW.trod] at h
 | succ n ih=>
  intro t k cs x ht h
  cases k with
  | int ik=>obtain ⟨m,rfl,rfl,hw⟩:=DataW.trod_int ht.1 h; simp [DataW.trod,ht.1,hw]
  | bool=>obtain ⟨m,rfl,rfl⟩:=DataW.trod_bool ht.1 h; simp [DataW.trod,ht.1]
  | str=>obtain ⟨m,rfl,rfl,hw⟩:=DataW.trod_string ht.1 h; simp [DataW.trod,ht.1,hw]
  | unit=>exact ht.elim
  | gap n=>exact ht.elim
  | id e=>have:=ht.2.2; rw [hid] at this; simp at this
  | pair a b=>exact ht.elim
  | st c=>
   obtain ⟨⟨fs,hu,hfs⟩,_⟩:=ht
   obtain ⟨xs,m,e,rfl,hl,hlen,hf⟩:=DataW.trod_struct hu h
   have e':m=n:=by omega
   subst e'
   refine ChangeShapes.trod_struct_mk hu hl (mapM_some_of_get _ _ (by simpa using hlen) fun i f hi=>?_)
   have hi':i<xs.length:=by
    have:=(List.getElem?_eq_some_iff.1 hi).1
    simp at this
    omega
   have h1:=hf i f (by simpa using hi)
   rw [af4 hi'] at h1 ⊢
   obtain ⟨k',hk'⟩:=N8 hfs f (List.mem_of_getElem? hi)
   exact ih f.type k' _ _ hk' h1
  | sl e k=>
   obtain ⟨hu,_,hte,hk0,_⟩:=ht
   have hce:P.cellsOf e=k.size:=uM (fB.info hte)
   rcases DataW.trod_slice hu h with ⟨rfl,rfl⟩ | ⟨a,len,cap,_,_,_,_,rfl,_⟩
   ·simp [DataW.trod,hu]
   ·unfold DataW.trod at h ⊢
    rw [hu] at h ⊢
    simp only [hce] at h ⊢
    split at h
    ·rename_i hc
     rw [if_pos hc]
     obtain ⟨elems,he,h⟩:=Option.bind_eq_some_iff.1 h
     obtain ⟨rest,hr,hd⟩:=Option.map_eq_some_iff.1 h
     have hstep:∀i y,(W.cells? 0 (a.add (i * k.size)) k.size).bind (DataW.trod enc P W 0 (fun _=>true) true n e)=some y→(W.cells? 0 (a.add (i * k.size)) k.size).bind (DataW.trod enc P W 0 sp true n e)=some y:=by
      intro i y h
      obtain ⟨ds,h1,h2⟩:=Option.bind_eq_some_iff.1 h
      exact Option.bind_eq_some_iff.2 ⟨ds,h1,ih e k ds y hte h2⟩
     refine Option.bind_eq_some_iff.2 ⟨elems,mapM_carry he (fun i y _ _ hy=>hstep i y hy),Option.map_eq_some_iff.2 ⟨rest, ?_,hd⟩⟩
     simp only [if_true] at hr
     cases hs:sp a.block with
     | true=>
      simp only [if_true]
      exact mapM_carry hr (fun i y _ _ hy=>hstep _ y hy)
     | false=>
      simp only [afT,if_false]
      cases hcl:cap - len with
      | zero=>rw [hcl] at hr; simpa using hr
      | succ m=>
       exfalso
       rw [hcl] at hr
       have h1:=mapM_some_get hr 0 0 (by simp)
       have hlr:rest.length=m+1:=by simpa using mapM_some_length hr
       rw [af4 (by omega)] at h1
       obtain ⟨ds,h2,_⟩:=Option.bind_eq_some_iff.1 h1
       have h3:=World.cells?_block h2 hk0
       have h4:(a.add ((len+0) * k.size)).block=a.block:=by unfold Addr.add; split <;> rfl
       rw [h4] at h3
       rw [hsp _ h3] at hs
       simp at hs
    ·simp at h
end
end
section
open Go
section
variable {P:Program} {T:iD} {W W':World} {H:Type} {enc:TypeId×Value→H}
def AX (P:Program) (T:iD):List fA→List TypeId→Prop
 | [],[]=>True
 | .val k [] :: ps,t :: ts=>fB P T t k∧AX P T ps ts
 | _,_=>False
def YD:(ps:List fA)→Cont (kin ps)→Nat
 | .val k _ :: ps,c=>KN k c.1+YD ps c.2
 | _,_=>0
def Rt:(ps:List fA)→Cont (kin ps)→Prop
 | .val k _ :: ps,c=>zS k c.1∧Rt ps c.2
 | _,_=>True
theorem YG [Fr] {t:TypeId} {k:K} {v:Value} {base:Nat} {x:El k} {ok:Nat→Prop} (ht:fB P T t k) (hv:Value.okWide P W .any base t v) (hV:Vw (hp W) ok k x v.cells.toList):VC k v v.cells.toList:=by
 have hplain:∀{u:Value},(∀y,v≠.agg y)→v.cells.toList=[u]→VC k v v.cells.toList∨∃c,k=.st c:=by
  intro u hn hu
  cases k with
  | st c=>exact .inr ⟨c,rfl⟩
  | _=>
   refine .inl ⟨?_,hn⟩
   cases v <;> first | rfl | exact absurd rfl (hn _)
 unfold fB iW at ht
 cases k with
 | st c=>
  obtain ⟨⟨fs,hu,_⟩,_⟩:=ht
  unfold Value.okWide at hv
  rw [hu] at hv
  obtain ⟨cs,rfl,_⟩:=hv
  show Value.agg cs=.agg (cs.toList).toArray
  simp
 | unit=>exact ht.elim
 | pair a b=>exact ht.elim
 | gap n=>exact ht.elim
 | int ik=>
  unfold Value.okWide at hv
  rw [ht.1] at hv
  refine ⟨?_, ?_⟩ <;> cases v <;> simp_all [Cell.okWide,Cell.ok,Value.cells]
 | bool=>
  unfold Value.okWide at hv
  rw [ht.1] at hv
  refine ⟨?_, ?_⟩ <;> cases v <;> simp_all [Cell.okWide,Cell.ok,Value.cells]
 | id e=>
  unfold Value.okWide at hv
  rw [ht.1] at hv
  refine ⟨?_, ?_⟩ <;> cases v <;> simp_all [Cell.okWide,Cell.ok,Value.cells]
 | str=>
  unfold Value.okWide at hv
  rw [ht.1] at hv
  refine ⟨?_, ?_⟩ <;> cases v <;> simp_all [Cell.okWide,Cell.ok,Value.cells]
 | sl e k=>
  unfold Value.okWide at hv
  rw [ht.1] at hv
  refine ⟨?_, ?_⟩ <;> cases v <;> simp_all [Cell.okWide,Cell.ok,Value.cells]
theorem Eb [Fr] (hid:T.ids=false) (hfr:∀b,b<W.heap.size→Fr.free b):∀{ps:List fA} {ts:List TypeId} {vs:List Value} {ds:List (DataW H)} {p:List MemPlace} {base:Nat},AX P T ps ts→DataW.TrodAll enc P W 0 (fun _=>true) true ts vs ds p→
  (∀(j:Nat) t v,ts[j]?=some t→vs[j]?=some v→Value.okWide P W .any base t v)→∃c,A7 W ps c vs∧YD ps c≤Af ds∧ds.length=ps.length∧Rt ps c
 | [],[],vs,ds,p,_,_,h,_=>by
  obtain ⟨rfl,rfl,_⟩:=ChangeShapes.trodAll_nil h
  exact ⟨(),trivial,af6 _,rfl,trivial⟩
 | .val k [] :: ps,t :: ts,vs,ds,p,base,hp1,h,hv=>by
  obtain ⟨v,vs',d,ds',p1,q,rfl,rfl,rfl,⟨n,h1⟩,h2⟩:=ChangeShapes.trodAll_cons h
  obtain ⟨c,g1,g2,g3,g4⟩:=Eb hid hfr hp1.2 h2 (fun j t v ht hv'=>hv (j+1) t v (by simpa using ht) (by simpa using hv'))
  obtain ⟨x,f1,f2,f3⟩:=(M7 (T:=T) (enc:=enc) hid hfr k).1 t n _ d p1 hp1.1 h1
  refine ⟨(x,c),⟨⟨_,YG hp1.1 (hv 0 t v rfl rfl) f1,f1⟩,g1⟩, ?_,by simp [g3],f3,g4⟩
  simp only [YD,Af]
  omega
 | [],_ :: _,_,_,_,_,h,_,_=>h.elim
 | .val _ [] :: _,[],_,_,_,_,h,_,_=>h.elim
 | .val _ (_ :: _) :: _,ts,_,_,_,_,h,_,_=>by cases ts <;> exact h.elim
 | .ro _ :: _,ts,_,_,_,_,h,_,_=>by cases ts <;> exact h.elim
 | .rw _ _ _ _ :: _,ts,_,_,_,_,h,_,_=>by cases ts <;> exact h.elim
 | .jF _ _ _ :: _,ts,_,_,_,_,h,_,_=>by cases ts <;> exact h.elim
 | .own _ _ :: _,ts,_,_,_,_,h,_,_=>by cases ts <;> exact h.elim
 | .fn _ _ :: _,ts,_,_,_,_,h,_,_=>by cases ts <;> exact h.elim
 | .into _ _ :: _,ts,_,_,_,_,h,_,_=>by cases ts <;> exact h.elim
theorem JW (hO:Nu W W') {p:MemPlace} (hp1:p.block<W.heap.size):W.sameAt W' p:=by
 have h:=hO.2.2.2 p.block hp1
 cases p with
 | cell b off=>
  have h':W'.heap[b]?=W.heap[b]?:=h
  show W'.cell? _=W.cell? _
  unfold World.cell?
  simp only [h']
 | map b=>exact h
theorem CE [Fr] (hid:T.ids=false) (hO:Nu W W') {sp:Nat→Bool} (hsp:∀b,b<W.heap.size→sp b=true):∀{ps:List fA} {ts:List TypeId} {vs:List Value} {ds:List (DataW H)} {p:List MemPlace},AX P T ps ts→DataW.TrodAll enc P W 0 (fun _=>true) true ts vs ds p→
  DataW.TrodAll enc P W' 0 sp true ts vs ds p
 | [],[],vs,ds,p,_,h=>by
  obtain ⟨rfl,rfl,rfl⟩:=ChangeShapes.trodAll_nil h
  exact rfl
 | .val k [] :: ps,t :: ts,vs,ds,p,hp1,h=>by
  obtain ⟨v,vs',d,ds',p1,q,rfl,rfl,rfl,⟨n,h1⟩,h2⟩:=ChangeShapes.trodAll_cons h
  have h3:=CE hid hO hsp hp1.2 h2
  have h4:=RN hid hsp n t k _ _ hp1.1 h1
  exact ⟨p1,q,⟨n,DataW.trod_carry n t _ _ h4 (fun p hp2=>JW hO (DataW.trod_lt n t _ _ h1 p hp2))⟩,h3,rfl⟩
 | [],_ :: _,_,_,_,h,_=>h.elim
 | .val _ [] :: _,[],_,_,_,h,_=>h.elim
 | .val _ (_ :: _) :: _,ts,_,_,_,h,_=>by cases ts <;> exact h.elim
 | .ro _ :: _,ts,_,_,_,h,_=>by cases ts <;> exact h.elim
 | .rw _ _ _ _ :: _,ts,_,_,_,h,_=>by cases ts <;> exact h.elim
 | .jF _ _ _ :: _,ts,_,_,_,h,_=>by cases ts <;> exact h.elim
 | .own _ _ :: _,ts,_,_,_,h,_=>by cases ts <;> exact h.elim
 | .fn _ _ :: _,ts,_,_,_,h,_=>by cases ts <;> exact h.elim
 | .into _ _ :: _,ts,_,_,_,h,_=>by cases ts <;> exact h.elim
theorem O4 (hO:Nu W W') (may:MemPlace→Prop):W.keptBut W' may:=by
 refine ⟨hO.1,hO.2.1,fun i hi=>?_⟩
 have h:W'.heap[i]?=W.heap[i]?:=hO.2.2.2 i hi
 rw [h]
 cases W.heap[i]? with
 | none=>rfl
 | some o=>
  cases o with
  | cells c t fr=>exact ⟨rfl,rfl,rfl,fun _ _=>rfl⟩
  | map es clock=>exact .inr ⟨rfl,rfl⟩
  | _=>rfl
abbrev TZ (W:World):Fr:=⟨fun b=>b<W.heap.size,hp W,fun _=>.slice none 0 0,rfl,fun _=>⟨none,0,0,rfl⟩⟩
theorem Fj {f:FuncId} {fn:Func} {code:Code} {ps:List fA} {F:Nat→Cont (kin ps)→Option (Cont (gU [.val .bool [] []]++jD ps))} {s:ChangeSpec} {tb:TypeId} {N:Nat}
  (hf:P.funcs[f]?=some fn) (hname:(fn.name == "runtime.NumGoroutine")=false) (hbody:fn.body=some code) (hps:AX P T ps fn.params.toList) (hres:fn.resultTypes=#[tb]) (htb:P.underlying tb=some .bool)
  (hE:letI:=TZ W; ∀n,aB P n ⟨f,ps,[.val .bool [] []],F⟩) (acy:∀c:Cont (kin ps),Rt ps c→YD ps c≤N→∃n out,F n c=some out∧out.1=true)
  (hvars:s.vars=[]) (hspec:∀ds:List (DataW H),ds.length=ps.length→s.fn H ds={ results:=[.lit (.bool true)],args:=ds })
  {base:Nat} {args:Array Value} {ds gs:List (DataW H)} {before:List MemPlace}
  (hval:∀(j:Nat) t v,fn.params[j]?=some t→args[j]?=some v→Value.okWide P W .any base t v)
  (hW:DataW.Whole enc P fn.params.toList s.vars false W args.toList ds gs before) (hb:Af (ds++gs)≤N) (hid:T.ids=false:=by rfl) :
  Calls P f args W fun e W'=>∃v,e=.returned v∧s.post enc P fn false true false false W args v W':=by
 letI fr:Fr:=TZ W
 have hW':=hW
 obtain ⟨p,q,hA,hV,hpq,hfz,hnd⟩:=hW
 rw [hvars] at hV
 obtain ⟨rfl,rfl⟩:=ChangeShapes.trodVars_none hV
 rw [agk] at hb
 obtain ⟨c,h1,h2,h3,h6⟩:=Eb (T:=T) hid (fun b hb=>hb) hps hA (fun j t v ht hv=>hval j t v (by simpa using ht) (by simpa using hv))
 obtain ⟨n,out,h4,h5⟩:=acy c h6 (by omega)
 refine (O7 (fun b hb=>⟨hb,rfl⟩) (hE n) h4 h5 h1 (Go.MuLone.run_callFunc_enter hf hname hbody args W)).mono ?_
 rintro e W' ⟨rfl,hO⟩
 have hsp:=hspec ds h3
 rw [agk] at hpq
 refine ⟨_,rfl,ds,[],before,[],p,[],hW', ?_, ?_, ?_,O4 hO _,fun h=>by simp at h⟩
 ·rw [agk,hsp,hres]
  exact ⟨[],[],⟨1,by simp [DataW.trod,Value.cells,htb]⟩,rfl,rfl⟩
 ·rw [agk,hsp]
  exact CE hid hO (fun b hb=>by simpa using hb) hps hA
 ·rw [agk,hsp,hvars]
  exact rfl
end
end
section
open Go
structure Nb where
 ty:List (TypeId×K)
 bytes:List (TypeId×Nat)
 ptr:List TypeId
 ids:Bool:=false
def look {A:Type} (n:Nat):List (Nat×A)→Option A
 | []=>none
 | (m,a) :: l=>bif Nat.beq n m then some a else look n l
def Sr (n:Nat):List (Nat×Nat)→Nat
 | []=>0
 | (m,a) :: l=>bif Nat.beq n m then a else Sr n l
def Nb.tab (L:Nb):iD:={ ty:=fun t=>look t L.ty,bytes:=fun t=>Sr t L.bytes,ptr:=fun t=>au t L.ptr,eq:=fun _=>false,ids:=L.ids }
def O0:K→Value→Bool
 | .int ik, .int jk (.ofNat 0)=>uW ik jk
 | .bool, .bool false=>true
 | .str, .string s=>Nat.beq s.data.size 0
 | .sl _ _, .slice none 0 0=>true
 | .id _, .slice none 0 0=>true
 | _,_=>false
def Fh:K→List Value→Option (List Value)
 | .pair a b,l=>match Fh a l with
  | some m=>Fh b m
  | none=>none
 | .unit,l=>some l
 | .st f,l=>Fh f l
 | .gap _,_=>none
 | k,v :: l=>bif O0 k v then some l else none
 | _,[]=>none
def isZ:K→Value→Bool
 | .st f, .agg arr=>match Fh f arr.toList with
  | some []=>true
  | _=>false
 | .st _,_=>false
 | k,v=>O0 k v
def sw (P:Program) (t:TypeId) (k:K):Bool:=match P.info? t with
 | some i=>Nat.beq i.size k.size && (match i.zero with
  | some v=>isZ k v
  | none=>false)
 | none=>false
def jW (P:Program) (T:iD):K→(TypeId→Bool)×(List Field→Nat→Bool)
 | .int ik=>(fun t=>(match P.underlying t with
  | some (.int jk)=>uW ik jk
  | _=>false) && sw P t (.int ik),fun _ _=>false)
 | .bool=>(fun t=>(match P.underlying t with
  | some .bool=>true
  | _=>false) && sw P t .bool,fun _ _=>false)
 | .str=>(fun t=>(match P.underlying t with
  | some .string=>true
  | _=>false) && sw P t .str,fun _ _=>false)
 | .sl e k=>(fun t=>(match P.underlying t with
  | some (.slice e')=>Nat.beq e e'
  | _=>false) && sw P t (.sl e k) && (jW P T k).1 e && Nat.blt 0 k.size && (match P.info? e with
  | some i=>Nat.beq i.bytes (T.bytes e) && Nat.blt 0 i.bytes
  | none=>false),fun _ _=>false)
 | .unit=>(fun _=>false,fun fs _=>fs.isEmpty)
 | .pair a b=>(fun _=>false,fun fs off=>match fs with
  | []=>false
  | f :: fs=>Nat.beq f.offset off && (jW P T a).1 f.type && Nat.blt 0 a.size && (jW P T b).2 fs (off+a.size))
 | .st c=>(fun t=>(match P.underlying t with
  | some (.struct fs)=>(jW P T c).2 fs.toList 0
  | _=>false) && sw P t (.st c),fun _ _=>false)
 | .gap _=>(fun _=>false,fun _ _=>false)
 | .id e=>(fun t=>(match P.underlying t with
  | some (.slice e')=>Nat.beq e e'
  | _=>false) && sw P t (.id e) && T.ids,fun _ _=>false)
def vU (P:Program) (L:Nb):Bool:=L.ty.all (fun q=>(jW P L.tab q.2).1 q.1) && L.ptr.all fun t=>match P.underlying t with
 | some (.pointer _)=>true
 | _=>false
section
variable [Fr] {P:Program} {T:iD}
theorem KM {k:K} {v:Value} (h:O0 k v=true):bK k=[v]∧oJ k=v:=by
 unfold O0 at h
 split at h
 ·have:=vF h; subst this; exact ⟨rfl,rfl⟩
 ·exact ⟨rfl,rfl⟩
 ·rename_i s
  have:s=ByteArray.empty:=by
   have h1:=afU h
   obtain ⟨d⟩:=s
   have:d=#[]:=Array.eq_empty_of_size_eq_zero h1
   subst this
   rfl
  subst this
  exact ⟨rfl,rfl⟩
 ·exact ⟨rfl,rfl⟩
 ·exact ⟨rfl,rfl⟩
 ·simp at h
theorem Rq:∀{k:K} {l m:List Value},Fh k l=some m→l=bK k++m:=by
 intro k
 have one:∀{k:K} {l m:List Value},(match l with | v :: l=>(bif O0 k v then some l else none) | []=>none)=some m→l=bK k++m:=by
  intro k l m h
  cases l with
  | nil=>simp at h
  | cons v l=>
   obtain ⟨hb,h⟩:=pV h
   simp only [afQ] at h
   subst h
   rw [(KM hb).1]
   rfl
 induction k with
 | pair a b iha ihb=>
  intro l m h
  simp only [Fh] at h
  split at h
  ·rename_i q hq
   rw [iha hq,ihb h]
   simp [bK]
  ·simp at h
 | unit=>intro l m h; simp only [Fh,afQ] at h; subst h; rfl
 | st f ih=>intro l m h; exact ih (show Fh f l=some m from h)
 | gap n=>intro l m h; simp [Fh] at h
 | int ik=>intro l m h; exact one (k:=.int ik) (by cases l <;> exact h)
 | bool=>intro l m h; exact one (k:=.bool) (by cases l <;> exact h)
 | id e=>intro l m h; exact one (k:=.id e) (by cases l <;> exact h)
 | str=>intro l m h; exact one (k:=.str) (by cases l <;> exact h)
 | sl e k _=>intro l m h; exact one (k:=.sl e k) (by cases l <;> exact h)
theorem UM {k:K} {v:Value} (h:isZ k v=true):oJ k=v:=by
 unfold isZ at h
 split at h
 ·rename_i f arr
  split at h
  ·rename_i hz
   have:=Rq hz
   simp only [agk] at this
   show Value.agg (bK f).toArray=.agg arr
   rw [←this]
  ·simp at h
 ·simp at h
 ·exact (KM h).2
theorem o7 {t:TypeId} {k:K} (h:sw P t k=true):oM P t k:=by
 unfold sw at h
 split at h
 ·rename_i i hi
  simp only [afW] at h
  obtain ⟨h1,h2⟩:=h
  split at h2
  ·rename_i v hv
   exact ⟨i,hi,afU h1,by rw [hv,UM h2]⟩
  ·simp at h2
 ·simp at h
theorem IZ {a b:Nat} (h:Nat.blt a b=true):a<b:=by
 unfold Nat.blt at h
 exact Nat.le_of_ble_eq_true h
theorem P5:∀{k:K},(∀t,(jW P T k).1 t=true→(iW P T k).1 t)∧∀fs off,(jW P T k).2 fs off=true→(iW P T k).2 fs off:=by
 intro k
 induction k with
 | int ik=>
  refine ⟨fun t h=>?_,fun fs off h=>by simp [jW] at h⟩
  simp only [jW,afW] at h
  obtain ⟨h1,h2⟩:=h
  split at h1
  ·rename_i jk hu
   have:=vF h1; subst this
   exact ⟨hu,o7 h2⟩
  ·simp at h1
 | bool=>
  refine ⟨fun t h=>?_,fun fs off h=>by simp [jW] at h⟩
  simp only [jW,afW] at h
  obtain ⟨h1,h2⟩:=h
  split at h1
  ·rename_i hu; exact ⟨hu,o7 h2⟩
  ·simp at h1
 | str=>
  refine ⟨fun t h=>?_,fun fs off h=>by simp [jW] at h⟩
  simp only [jW,afW] at h
  obtain ⟨h1,h2⟩:=h
  split at h1
  ·rename_i hu; exact ⟨hu,o7 h2⟩
  ·simp at h1
 | sl e k ih=>
  refine ⟨fun t h=>?_,fun fs off h=>by simp [jW] at h⟩
  simp only [jW,afW] at h
  obtain ⟨⟨⟨⟨h1,h2⟩,h3⟩,h4⟩,h5⟩:=h
  split at h1
  ·rename_i e' hu
   have:=afU h1; subst this
   split at h5
   ·rename_i i hi
    simp only [afW] at h5
    exact ⟨hu,o7 h2,ih.1 e h3,IZ h4,i,hi,afU h5.1,IZ h5.2⟩
   ·simp at h5
  ·simp at h1
 | unit=>exact ⟨fun t h=>by simp [jW] at h,fun fs off h=>show fs=[] by simpa [jW] using h⟩
 | gap n=>exact ⟨fun t h=>by simp [jW] at h,fun fs off h=>by simp [jW] at h⟩
 | id e=>
  refine ⟨fun t h=>?_,fun fs off h=>by simp [jW] at h⟩
  simp only [jW,afW] at h
  obtain ⟨⟨h1,h2⟩,h3⟩:=h
  split at h1
  ·rename_i e' hu
   have:=afU h1; subst this
   exact ⟨hu,o7 h2,h3⟩
  ·simp at h1
 | pair a b iha ihb=>
  refine ⟨fun t h=>by simp [jW] at h,fun fs off h=>?_⟩
  cases fs with
  | nil=>simp [jW] at h
  | cons f fs=>
   simp only [jW,afW] at h
   obtain ⟨⟨⟨h1,h2⟩,h3⟩,h4⟩:=h
   exact ⟨afU h1,iha.1 _ h2,IZ h3,ihb.2 _ _ h4⟩
 | st c ih=>
  refine ⟨fun t h=>?_,fun fs off h=>by simp [jW] at h⟩
  simp only [jW,afW] at h
  obtain ⟨h1,h2⟩:=h
  split at h1
  ·rename_i fs hu
   exact ⟨⟨fs,hu,ih.2 _ _ h1⟩,o7 h2⟩
  ·simp at h1
theorem Ho {A:Type} {n:Nat} {a:A}:∀{l:List (Nat×A)},look n l=some a→(n,a)∈l
 | [],h=>by simp [look] at h
 | (m,b) :: l,h=>by
  simp only [look] at h
  cases hb:Nat.beq n m with
  | true=>
   rw [hb] at h
   have:=afU hb
   simp only [cond_true,afQ] at h
   subst this h
   simp
  | false=>
   rw [hb] at h
   exact .tail _ (Ho h)
theorem PY {L:Nb} (h:vU P L=true):dU P L.tab:=by
 unfold vU at h
 simp only [afW,af5] at h
 refine ⟨fun t k ht=>P5.1 t (h.1 (t,k) (Ho ht)),fun t ht=>?_⟩
 have:=h.2 t (aJ.1 ht)
 split at this
 ·rename_i e he; exact ⟨e,he⟩
 ·simp at this
theorem UZ {L:Nb}:CZ P L.tab:=fun t c x y u v w hp1 hp2 ok1 ok2 _ he=>by simp [Nb.tab] at he
end
end
section
open Go
abbrev U7 (T:iD) (hi:Hint) (fn:Func) (E:Entry):Prop:=∀n (c:Cont (kin E.ps)),QM T hi fn E.ps E.rs n c=E.F n c
variable [Fr] {P:Program} {n:Nat}
theorem aL:∀q∈([]:List (Nat×Option Nat×Entry)),aB P n q.2.2:=by simp
theorem ah {f:Nat} {d:Option Nat} {E:Entry} {l:List (Nat×Option Nat×Entry)} (h:aB P n E) (t:∀q∈l,aB P n q.2.2):∀q∈(f,d,E) :: l,aB P n q.2.2:=by
 intro q hq
 rcases af2.1 hq with rfl | hq
 ·exact h
 ·exact t q hq
theorem aD (hm:P.follows .mixedOrders=true) {L:Nb} (hL:vU P L=true) {E:Entry} {fn:Func} (hf:P.funcs[E.f]?=some fn) (hname:(fn.name == "runtime.NumGoroutine")=false) {hi:Hint} (hC:∀q∈hi.calls,aB P n q.2.2)
  (hD:∀n (c:Cont (kin E.ps)),QM L.tab hi fn E.ps E.rs n c=E.F n c):aB P n E:=
 Jd hm (PY hL) UZ hf hname hC (fun c out h=>by rw [hD]; exact h)
end
section
open Go
def xx {A:Type} (xs:List A) (i:Nat) (d:A) (f:A→A):List A:=xs.set i (f (xs.getD i d))
def dz {R:Type} (step:Nat→Option R) (fin:R):Nat→Nat→R
 | 0,_=>fin
 | m+1,i=>match step i with
  | some r=>r
  | none=>dz step fin m (i+1)
theorem JU {V R:Type} {B:(V→Option R)→V→Option R} (S:Nat→V) (step:Nat→Option (Option R)) (fin:Option R) {m:Nat} (h1:∀L i,i<m→(∀j,j<i→step j=none)→B L (S i)=match step i with | some r=>r | none=>L (S (i+1))) (h2:∀L,(∀j,j<m→step j=none)→B L (S m)=fin) :
  ∀(d i n:Nat),i+d=m→d<n→(∀j,j<i→step j=none)→rounds B n (S i)=dz step fin d i:=by
 intro d
 induction d with
 | zero=>
  intro i n hi hn hp
  cases n with
  | zero=>omega
  | succ n=>
   have:i=m:=by omega
   subst this
   exact h2 _ hp
 | succ d ih=>
  intro i n hi hn hp
  cases n with
  | zero=>omega
  | succ n=>
   show B (rounds B n) (S i)=_
   rw [h1 _ i (by omega) hp]
   unfold dz
   cases hs:step i with
   | some r=>rfl
   | none=>exact ih (i+1) n (by omega) (by omega) (fun j hj=>by
     by_cases e:j=i
     ·rw [e,hs]
     ·exact hp j (by omega))
theorem bF {V R:Type} {B:(V→Option R)→V→Option R} {v0:V} (S:Nat→V) (step:Nat→Option (Option R)) (fin:Option R) {m n:Nat} (h0:v0=S 0) (hn:m<n) (h1:∀L i,i<m→(∀j,j<i→step j=none)→B L (S i)=match step i with | some r=>r | none=>L (S (i+1))) (h2:∀L,(∀j,j<m→step j=none)→B L (S m)=fin) :
  rounds B n v0=dz step fin m 0:=by
 rw [h0]
 exact JU S step fin h1 h2 m 0 n (by omega) hn (fun j h=>by omega)
theorem nZ {A:Type} {l:List A} {i:Nat} (h:i<l.length) (d:A):l.getD ((i:Int).toNat) d=l[i]:=by
 simp [h]
theorem eT {R:Type} {step:Nat→Option R} {fin:R}:∀{m i:Nat},(∀j,i≤j→j<i+m→step j=none)→dz step fin m i=fin:=by
 intro m
 induction m with
 | zero=>intro i _; rfl
 | succ m ih=>
  intro i h
  unfold dz
  rw [h i (af6 _) (by omega)]
  exact ih (fun j h1 h2=>h j (by omega) (by omega))
theorem E8 {R:Type} {s1 s2:Nat→Option R} {f1 f2:R} (hf:f1=f2):∀{m i:Nat},(∀j,i≤j→j<i+m→s1 j=s2 j)→dz s1 f1 m i=dz s2 f2 m i:=by
 intro m
 induction m with
 | zero=>intro i _; exact hf
 | succ m ih=>
  intro i h
  unfold dz
  rw [h i (af6 _) (by omega)]
  cases s2 i with
  | some r=>rfl
  | none=>exact ih (fun j h1 h2=>h j (by omega) (by omega))
theorem E9 {R:Type} {step:Nat→Option R} {fin r:R} (hc:∀j,step j=none∨step j=some r):∀{m i:Nat},dz step fin m i=r∨dz step fin m i=fin:=by
 intro m
 induction m with
 | zero=>intro i; exact .inr rfl
 | succ m ih=>
  intro i
  unfold dz
  rcases hc i with h | h
  ·rw [h]; exact ih
  ·rw [h]; exact .inl rfl
theorem wrap_i64 {x:Int} (h1 : -9223372036854775808≤x) (h2:x≤9223372036854775807):IntKind.i64.wrap x=x:=by
 simp [IntKind.wrap,IntKind.bits,IntKind.signed]
 omega
theorem bO {i:Nat} {n:Nat} (h:i<n) (hn:n≤9223372036854775807):IntKind.i64.wrap ((i:Int)+1)=((i+1:Nat):Int):=by
 rw [wrap_i64 (by omega) (by omega)]
 omega
theorem aT {i n:Nat} (h:i<n):aM (i:Int) n:=⟨by omega,by omega⟩
end
section
open Go
variable [Fr]
section
variable {P:Program} {cx:Cx} {σ:St} {α:dI} {F:List Nat} {a:Act} {w w':World}
theorem Rel.grown (H:Rel cx σ α F a w) (hO:Nu w w') (ht:w'.tape=w.tape):Rel cx σ α F a w':=H.Od hO.1 hO.2.1 hO.2.2.1 hO.2.2.2 ht
end
end
section
open Go
variable [Fr]
section
variable {P:Program} {cx:Cx} {σ:St} {α:dI} {F:List Nat} {a:Act} {w w':World}
end
end
section
open Go
variable [Fr]
section
variable {P:Program} {cx:Cx} {σ:St} {α:dI} {F:List Nat} {a:Act} {w w':World}
end
end
section
open Go
section
variable {e:TypeId} {kk:K}
def Rw (e:TypeId) (kk:K) (z:Bool) (tb:Nat→List (El kk)):(k k':K)→El k→El k'→List Nat→Prop
 | .sl f k, .id f',xs,i,ns=>f=e∧f'=e∧∃h:k=kk,h▸(show List (El k) from xs)=tb i∧((i≠(0:Nat)∧ns=[i])∨(z=true∧i=(0:Nat)∧tb 0=[]∧ns=[]))
 | .sl f k, .sl f' k',xs,ys,ns=>f=f'∧k'.size=k.size∧(show List (El k) from xs).length=(show List (El k') from ys).length∧∃nss:List (List Nat),nss.length=(show List (El k) from xs).length∧ns=nss.flatten∧
   ∀(i:Nat) (h1:i<(show List (El k) from xs).length) (h2:i<(show List (El k') from ys).length),Rw e kk z tb k k' ((show List (El k) from xs)[i]) ((show List (El k') from ys)[i]) (nss.getD i [])
 | .pair a b, .pair a' b',x,y,ns=>∃n1 n2,ns=n1++n2∧Rw e kk z tb a a' x.1 y.1 n1∧Rw e kk z tb b b' x.2 y.2 n2
 | .st f, .st f',x,y,ns=>Rw e kk z tb f f' x y ns
 | .int ik, .int jk,x,y,ns=>ik=jk∧(show Int from x)=y∧ns=[]
 | .bool, .bool,x,y,ns=>(show Bool from x)=y∧ns=[]
 | .str, .str,x,y,ns=>(show List Int from x)=y∧ns=[]
 | .unit, .unit,_,_,ns=>ns=[]
 | _,_,_,_,_=>False
theorem Rw.size {z:Bool} {tb:Nat→List (El kk)}:∀{k k':K} {x:El k} {y:El k'} {ns:List Nat},Rw e kk z tb k k' x y ns→k'.size=k.size:=by
 intro k
 induction k with
 | sl f k ih=>intro k' x y ns h; cases k' <;> first | rfl | exact h.elim
 | pair a b iha ihb=>
  intro k' x y ns h
  cases k' with
  | pair a' b'=>unfold Rw at h; obtain ⟨n1,n2,_,h1,h2⟩:=h; simp [K.size,iha h1,ihb h2]
  | _=>exact h.elim
 | st f ih=>
  intro k' x y ns h
  cases k' with
  | st f'=>unfold Rw at h; exact ih (k':=f') (x:=x) (y:=y) (ns:=ns) h
  | _=>exact h.elim
 | int ik=>intro k' x y ns h; cases k' <;> first | rfl | exact h.elim
 | bool=>intro k' x y ns h; cases k' <;> first | rfl | exact h.elim
 | str=>intro k' x y ns h; cases k' <;> first | rfl | exact h.elim
 | unit=>intro k' x y ns h; cases k' <;> first | rfl | exact h.elim
 | gap n=>intro k' x y ns h; cases k' <;> exact h.elim
 | id f=>intro k' x y ns h; cases k' <;> exact h.elim
abbrev Dz:=Nat×Value×List Nat
def aP (l:List Dz):List Nat:=l.flatMap (·.2.2)
theorem xA:∀(l:List (List Dz)),aP l.flatten=(l.map aP).flatten
 | []=>rfl
 | a :: l=>by
  simp only [List.flatten_cons,List.map_cons]
  unfold aP at *
  rw [List.flatMap_append]
  congr 1
  exact xA l
theorem xu {A:Type}:∀{bz fs gs:List (List A)},fs.length=bz.length→gs.length=bz.length→(∀i,i<bz.length→(bz.getD i []).Perm (fs.getD i []++gs.getD i []))→bz.flatten.Perm (fs.flatten++gs.flatten)
 | [],[],[],_,_,_=>.refl _
 | f :: bz,[],_,h,_,_=>by simp at h
 | f :: bz,_ :: _,[],_,h,_=>by simp at h
 | [],_ :: _,_,h,_,_=>by simp at h
 | [],[],_ :: _,_,h,_=>by simp at h
 | f :: bz,a :: fs,b :: gs,h1,h2,h=>by
  have h0:=h 0 (by simp)
  have ht:=xu (bz:=bz) (fs:=fs) (gs:=gs) (by simpa using h1) (by simpa using h2) (fun i hi=>by have:=h (i+1) (by simpa using hi); simpa using this)
  simp only [List.flatten_cons]
  have h0':f.Perm (a++b):=by simpa using h0
  refine (h0'.append ht).trans ?_
  simp only [agb]
  refine List.Perm.append_left a ?_
  rw [←agb, ←agb]
  exact List.Perm.append_right _ List.perm_append_comm
variable [fr:Fr]
abbrev gp (fr:Fr) (iq:Nat→Value) (h0:iq 0=.slice none 0 0) (hs:∀i,∃a n c,iq i=.slice a n c):Fr:=⟨fr.free,fr.obj,iq,h0,hs⟩
theorem F6 {h:Heap} {own:List TypeId} {ok:Nat→Prop} {tb:Nat→List (El kk)}:∀{k k':K} {x:El k} {y:El k'} {ns:List Nat} {cs:List Value} {fo:List Nat},(∀t∈k.tys,au t own=true)→
  Rw e kk false tb k k' x y ns→Ow h own ok k x cs fo→
  ∃(dP:List Dz) (dA:List Nat),dP.map (·.1)=ns∧fo.Perm (dA++aP dP)∧(∀q∈dP,Ow h own ok (.sl e kk) (tb q.1) [q.2.1] q.2.2)∧
   ∀fr':Fr,fr'.free=fr.free→(∀q∈dP,fr'.iq q.1=q.2.1)→@Ow fr' h own ok k' y cs dA:=by
 intro k
 induction k with
 | sl f k ih=>
  intro k' x y ns cs fo hown hR hO
  cases k' with
  | id f'=>
   obtain ⟨rfl,rfl,hk,hx,hi⟩:=hR
   subst hk
   rcases hi with ⟨_,rfl⟩ | ⟨hz,_⟩
   ·have BS:=hO
    unfold Ow at hO
    rw [if_pos (hown f' (by simp [K.tys]))] at hO
    obtain ⟨a,n,c,rfl,_⟩:=hO
    refine ⟨[(y, .slice a n c,fo)],[],rfl,by simp [aP],fun q hq=>?_,fun fr' _ acp=>⟨rfl, ?_⟩⟩
    ·simp only [af9] at hq
     subst hq
     show Ow h own ok (.sl f' k) (tb y:List (El k)) _ _
     rw [←hx]
     exact BS
    ·show _=[fr'.iq y]
     rw [acp _ (af9.2 rfl)]
   ·simp at hz
  | sl f' k'=>
   obtain ⟨rfl,hsz,hl,nss,hnl,rfl,hat⟩:=hR
   have hf:au f own=true:=hown f (by simp [K.tys])
   unfold Ow at hO
   rw [if_pos hf] at hO
   obtain ⟨a,n,c,rfl,hn,hnc,hO⟩:=hO
   rcases hO with ⟨hc,rfl⟩ | ⟨b,o,arr,lo,hi,rfl,hb,hfz,hoc,bz,hfl,hfo,hel⟩
   ·have h0:(show List (El k) from x).length=0:=by omega
    refine ⟨[],[], ?_,by simp [aP],fun q hq=>by simp at hq,fun fr' _ _=>?_⟩
    ·have:nss=[]:=List.length_eq_zero_iff.1 (by omega)
     rw [this]; rfl
    ·unfold Ow
     rw [if_pos hf]
     exact ⟨a,n,c,rfl,by omega,hnc, .inl ⟨hc,rfl⟩⟩
   ·have hone:∀i,i<(show List (El k) from x).length→∃q:List Dz×List Nat,∀(h1:i<(show List (El k) from x).length) (h2:i<(show List (El k') from y).length),q.1.map (·.1)=nss.getD i []∧(bz.getD i []).Perm (q.2++aP q.1)∧(∀t∈q.1,Ow h own ok (.sl e kk) (tb t.1) [t.2.1] t.2.2)∧
      ∀fr':Fr,fr'.free=fr.free→(∀t∈q.1,fr'.iq t.1=t.2.1)→∃ds, @Cells h b (o+i * k.size) ds∧@Ow fr' h own ok k' ((show List (El k') from y)[i]) ds q.2:=by
     intro i h1
     obtain ⟨ds,g1,g2⟩:=hel i h1
     obtain ⟨dP,dA,f1,f2,f3,f4⟩:=ih (fun t ht=>hown t (by simp [K.tys,ht])) (hat i h1 (by omega)) g2
     exact ⟨(dP,dA),fun _ _=>⟨f1,f2,f3,fun fr' e1 e2=>⟨ds,g1,f4 fr' e1 e2⟩⟩⟩
    obtain ⟨qs,YR,hq⟩:=zI hone
    refine ⟨(qs.map (·.1)).flatten,b :: (qs.map (·.2)).flatten, ?_, ?_, ?_,fun fr' e1 e2=>?_⟩
    ·rw [List.map_flatten,List.map_map]
     congr 1
     apply List.ext_getElem
     ·simp; omega
     ·intro i h1 h2
      have hi:i<qs.length:=by simpa using h1
      have:=(hq i hi (by omega) (by omega)).1
      simp only [List.getElem_map,Function.comp_apply]
      rw [this,af3,af4 h2]
      rfl
    ·refine hfo.trans ?_
     rw [xA,List.cons_append]
     refine List.Perm.cons b (xu (by simp; omega) (by simp; omega) fun i hi=>?_)
     have hi':i<qs.length:=by omega
     have:=(hq i hi' (by omega) (by omega)).2.1
     simp only [af3,List.getElem?_map,af4 hi',Option.map_some,Option.getD_some,List.map_map,Function.comp_apply] at this ⊢
     exact this
    ·intro t ht
     obtain ⟨l,hl,ht⟩:=List.mem_flatten.1 ht
     obtain ⟨q,hq',rfl⟩:=ags.1 hl
     obtain ⟨i,hi,rfl⟩:=List.getElem_of_mem hq'
     exact (hq i hi (by omega) (by omega)).2.2.1 t ht
    ·unfold Ow
     rw [if_pos hf]
     refine ⟨_,n,c,rfl,by omega,hnc, .inr ⟨b,o,arr,lo,hi,rfl,hb,hfz, ?_,qs.map (·.2),by rw [List.length_map,YR]; exact hl, .refl _,fun i hi'=>?_⟩⟩
     ·rw [hsz]; exact hoc
     ·have hiq:i<qs.length:=by omega
      obtain ⟨ds,g1,g2⟩:=(hq i hiq (by omega) hi').2.2.2 fr' e1 (fun t ht=>e2 t (List.mem_flatten.2 ⟨_,ags.2 ⟨qs[i],agj hiq,rfl⟩,ht⟩))
      refine ⟨ds, ?_, ?_⟩
      ·rw [hsz]; exact g1
      ·have:(qs.map (·.2)).getD i []=qs[i].2:=by simp [af3,List.getElem?_map,af4 hiq]
       rw [this]
       exact g2
  | _=>exact hR.elim
 | pair a b iha ihb=>
  intro k' x y ns cs fo hown hR hO
  cases k' with
  | pair a' b'=>
   obtain ⟨n1,n2,rfl,r1,r2⟩:=hR
   obtain ⟨c1,c2,f1,f2,rfl,hp,o1,o2⟩:=hO
   obtain ⟨t1,g1,p1,p2,p3,p4⟩:=iha (fun t ht=>hown t (by simp [K.tys,ht])) r1 o1
   obtain ⟨t2,g2,q1,q2,q3,q4⟩:=ihb (fun t ht=>hown t (by simp [K.tys,ht])) r2 o2
   refine ⟨t1++t2,g1++g2,by rw [List.map_append,p1,q1], ?_,fun q hq=>?_,fun fr' e1 e2=>⟨c1,c2,g1,g2,rfl, .refl _,p4 fr' e1 (fun q hq=>e2 q (afV _ hq)),q4 fr' e1 (fun q hq=>e2 q (afS _ hq))⟩⟩
   ·refine hp.trans ((p2.append q2).trans ?_)
    have:aP (t1++t2)=aP t1++aP t2:=by simp [aP]
    rw [this]
    simp only [agb]
    refine List.Perm.append_left g1 ?_
    rw [←agb, ←agb]
    exact List.Perm.append_right _ List.perm_append_comm
   ·rcases afZ.1 hq with hq | hq
    ·exact p3 q hq
    ·exact q3 q hq
  | _=>exact hR.elim
 | st f ih=>
  intro k' x y ns cs fo hown hR hO
  cases k' with
  | st f'=>
   obtain ⟨dP,dA,f1,f2,f3,f4⟩:=ih (k':=f') (x:=x) (y:=y) (ns:=ns) (cs:=cs) (fo:=fo) hown hR hO
   exact ⟨dP,dA,f1,f2,f3,fun fr' e1 e2=>f4 fr' e1 e2⟩
  | _=>exact hR.elim
 | int ik=>
  intro k' x y ns cs fo hown hR hO
  cases k' with
  | int jk=>
   obtain ⟨rfl,rfl,rfl⟩:=hR
   exact ⟨[],fo,rfl,by simp [aP],fun q hq=>by simp at hq,fun _ _ _=>hO⟩
  | _=>exact hR.elim
 | bool=>
  intro k' x y ns cs fo hown hR hO
  cases k' with
  | bool=>
   obtain ⟨rfl,rfl⟩:=hR
   exact ⟨[],fo,rfl,by simp [aP],fun q hq=>by simp at hq,fun _ _ _=>hO⟩
  | _=>exact hR.elim
 | str=>
  intro k' x y ns cs fo hown hR hO
  cases k' with
  | str=>
   obtain ⟨rfl,rfl⟩:=hR
   exact ⟨[],fo,rfl,by simp [aP],fun q hq=>by simp at hq,fun _ _ _=>hO⟩
  | _=>exact hR.elim
 | unit=>
  intro k' x y ns cs fo hown hR hO
  cases k' with
  | unit=>
   have:ns=[]:=hR
   subst this
   exact ⟨[],fo,rfl,by simp [aP],fun q hq=>by simp at hq,fun _ _ _=>hO⟩
  | _=>exact hR.elim
 | gap n=>intro k' x y ns cs fo _ hR; cases k' <;> exact hR.elim
 | id f=>intro k' x y ns cs fo _ hR; cases k' <;> exact hR.elim
theorem En {A B:Type} (f:A→B):∀{nss:List (List B)} {l:List A},l.map f=nss.flatten→∃FU:List (List A),FU.flatten=l∧FU.map (·.map f)=nss
 | [],l,h=>by
  have:l=[]:=by simpa using h
  exact ⟨[],by simp [this],rfl⟩
 | ns :: nss,l,h=>by
  rw [List.flatten_cons,List.map_eq_append_iff] at h
  obtain ⟨l1,l2,rfl,h1,h2⟩:=h
  obtain ⟨FU,g1,g2⟩:=En f h2
  exact ⟨l1 :: FU,by simp [g1],by simp [h1,g2]⟩
theorem EC {h:Heap} {own:List TypeId} {ok:Nat→Prop} {tb:Nat→List (El kk)} (fr':Fr):∀{k k':K} {x:El k} {y:El k'} {dP:List Dz} {cs:List Value} {dA:List Nat},(∀t∈k.tys,au t own=true)→
  Rw e kk true tb k k' x y (dP.map (·.1))→@Ow fr' h own ok k' y cs dA→(∀q∈dP, @Ow fr h own ok (.sl e kk) (tb q.1) [q.2.1] q.2.2∧fr'.iq q.1=q.2.1)→@Ow fr h own ok k x cs (dA++aP dP):=by
 intro k
 induction k with
 | sl f k ih=>
  intro k' x y dP cs dA hown hR hO htr
  cases k' with
  | id f'=>
   obtain ⟨rfl,rfl,hk,hx,hi⟩:=hR
   subst hk
   obtain ⟨rfl,hcs⟩:=hO
   have hcs:cs=[fr'.iq y]:=hcs
   subst hcs
   rcases hi with ⟨_,hns⟩ | ⟨_,h0,hx0,hns⟩
   ·cases dP with
    | nil=>simp at hns
    | cons q l=>
     cases l with
     | cons _ _=>simp at hns
     | nil=>
      simp only [List.map_cons,List.map_nil,List.cons.injEq,and_true] at hns
      obtain ⟨g1,g2⟩:=htr q (by simp)
      rw [hns] at g1 g2
      have hx':(show List (El k) from x)=tb y:=hx
      show @Ow fr h own ok (.sl f' k) (show List (El k) from x) _ _
      rw [hx',g2]
      simpa [aP] using g1
   ·have ht:dP=[]:=by simpa using hns
    subst ht
    have hy:y=(0:Nat):=h0
    subst hy
    have hx':(show List (El k) from x)=[]:=hx.trans hx0
    rw [fr'.UL]
    unfold Ow
    rw [if_pos (hown f' (by simp [K.tys]))]
    exact ⟨none,0,0,rfl,by rw [hx']; rfl,af6 _, .inl ⟨rfl,rfl⟩⟩
  | sl f' k'=>
   obtain ⟨rfl,hsz,hl,nss,hnl,hns,hat⟩:=hR
   have hf:au f own=true:=hown f (by simp [K.tys])
   unfold Ow at hO ⊢
   rw [if_pos hf] at hO ⊢
   obtain ⟨a,n,c,rfl,hn,hnc,hO⟩:=hO
   obtain ⟨FU,rfl,hts⟩:=En (fun q:Dz=>q.1) hns
   have htl:FU.length=nss.length:=by rw [←hts,List.length_map]
   rcases hO with ⟨hc,rfl⟩ | ⟨b,o,arr,lo,hi,rfl,hb,hfz,hoc,bz,hfl,hfo,hel⟩
   ·have h0:(show List (El k) from x).length=0:=by omega
    have:FU=[]:=List.length_eq_zero_iff.1 (by omega)
    subst this
    exact ⟨a,n,c,rfl,by omega,hnc, .inl ⟨hc,rfl⟩⟩
   ·have hone:∀i (hi1:i<(show List (El k) from x).length),∃ds,Cells h b (o+i * k.size) ds∧@Ow fr h own ok k ((show List (El k) from x)[i]) ds (bz.getD i []++aP (FU.getD i [])):=by
     intro i h1
     obtain ⟨ds,g1,g2⟩:=hel i (by omega)
     have hti:i<FU.length:=by omega
     have e1:FU.getD i []=FU[i]:=by simp [hti]
     have e2:nss.getD i []=(FU[i]).map (·.1):=by
      rw [←hts]
      simp [hti]
     have hR':=hat i h1 (by omega)
     rw [e2] at hR'
     refine ⟨ds,by rw [←hsz]; exact g1, ?_⟩
     rw [e1]
     exact ih (fun t ht=>hown t (by simp [K.tys,ht])) hR' g2 (fun q hq=>htr q (List.mem_flatten.2 ⟨_,agj hti,hq⟩))
    refine ⟨_,n,c,rfl,by omega,hnc, .inr ⟨b,o,arr,lo,hi,rfl,hb,hfz,by rw [←hsz]; exact hoc,(List.range (show List (El k) from x).length).map fun i=>bz.getD i []++aP (FU.getD i []),by simp, ?_,fun i h1=>?_⟩⟩
    ·refine (hfo.append_right _).trans ?_
     rw [List.cons_append]
     refine List.Perm.cons b ?_
     rw [xA]
     refine (xu (bz:=(List.range (show List (El k) from x).length).map fun i=>bz.getD i []++aP (FU.getD i [])) (fs:=bz) (gs:=FU.map aP) (by rw [List.length_map,List.length_range]; omega) (by rw [List.length_map,List.length_map,List.length_range]; omega) fun i hi1=>?_).symm
     have hi2:i<(show List (El k) from x).length:=by simpa using hi1
     have hti:i<FU.length:=by omega
     simp [af3,List.getElem?_map,List.getElem?_range,hi2,hti]
    ·obtain ⟨ds,g1,g2⟩:=hone i h1
     refine ⟨ds,g1, ?_⟩
     have:((List.range (show List (El k) from x).length).map fun i=>bz.getD i []++aP (FU.getD i [])).getD i []=bz.getD i []++aP (FU.getD i []):=by
      simp [af3,List.getElem?_map,List.getElem?_range,h1]
     rw [this]
     exact g2
  | _=>exact hR.elim
 | pair a b iha ihb=>
  intro k' x y dP cs dA hown hR hO htr
  cases k' with
  | pair a' b'=>
   obtain ⟨n1,n2,hns,r1,r2⟩:=hR
   obtain ⟨c1,c2,f1,f2,rfl,hp,o1,o2⟩:=hO
   rw [List.map_eq_append_iff] at hns
   obtain ⟨t1,t2,rfl,rfl,rfl⟩:=hns
   refine ⟨c1,c2,f1++aP t1,f2++aP t2,rfl, ?_,iha (fun t ht=>hown t (by simp [K.tys,ht])) r1 o1 (fun q hq=>htr q (afV _ hq)),ihb (fun t ht=>hown t (by simp [K.tys,ht])) r2 o2 (fun q hq=>htr q (afS _ hq))⟩
   refine (hp.append_right _).trans ?_
   have:aP (t1++t2)=aP t1++aP t2:=by simp [aP]
   rw [this]
   simp only [agb]
   refine List.Perm.append_left f1 ?_
   rw [←agb, ←agb]
   exact List.Perm.append_right _ List.perm_append_comm
  | _=>exact hR.elim
 | st f ih=>
  intro k' x y dP cs dA hown hR hO htr
  cases k' with
  | st f'=>exact ih (k':=f') (x:=x) (y:=y) (dP:=dP) (cs:=cs) (dA:=dA) hown hR hO htr
  | _=>exact hR.elim
 | int ik=>
  intro k' x y dP cs dA hown hR hO htr
  cases k' with
  | int jk=>
   obtain ⟨rfl,rfl,hns⟩:=hR
   have:dP=[]:=by simpa using hns
   subst this
   have e0:dA++aP []=dA:=agk _
   rw [e0]
   exact hO
  | _=>exact hR.elim
 | bool=>
  intro k' x y dP cs dA hown hR hO htr
  cases k' with
  | bool=>
   obtain ⟨rfl,hns⟩:=hR
   have:dP=[]:=by simpa using hns
   subst this
   have e0:dA++aP []=dA:=agk _
   rw [e0]
   exact hO
  | _=>exact hR.elim
 | str=>
  intro k' x y dP cs dA hown hR hO htr
  cases k' with
  | str=>
   obtain ⟨rfl,hns⟩:=hR
   have:dP=[]:=by simpa using hns
   subst this
   have e0:dA++aP []=dA:=agk _
   rw [e0]
   exact hO
  | _=>exact hR.elim
 | unit=>
  intro k' x y dP cs dA hown hR hO htr
  cases k' with
  | unit=>
   have hns:dP.map (·.1)=[]:=hR
   have:dP=[]:=by simpa using hns
   subst this
   have e0:dA++aP []=dA:=agk _
   rw [e0]
   exact hO
  | _=>exact hR.elim
 | gap n=>intro k' x y dP cs dA _ hR; cases k' <;> exact hR.elim
 | id f=>intro k' x y dP cs dA _ hR; cases k' <;> exact hR.elim
def xq:K→Bool
 | .id _=>false
 | .sl _ k=>xq k
 | .pair a b=>xq a && xq b
 | .st f=>xq f
 | _=>true
theorem NC {h:Heap} {ok:Nat→Prop} (fr':Fr) (hf:fr'.free=fr.free):∀{k:K} {x:El k} {cs:List Value},xq k=true→@Vw fr h ok k x cs→@Vw fr' h ok k x cs:=by
 intro k
 induction k with
 | sl f k ih=>
  intro x cs hk H
  obtain ⟨a,n,c,e1,e2,e3,H⟩:=H
  refine ⟨a,n,c,e1,e2,e3,fun hn=>?_⟩
  obtain ⟨b,o,ea,hb,ht,H⟩:=H hn
  refine ⟨b,o,ea,hb,ht.imp id (fun h=>by rw [hf]; exact h),fun i hi=>?_⟩
  obtain ⟨ds,h1,h2⟩:=H i hi
  exact ⟨ds,h1,ih hk h2⟩
 | pair a b iha ihb=>
  intro x cs hk H
  simp only [xq,afW] at hk
  obtain ⟨c1,c2,e,h1,h2⟩:=H
  exact ⟨c1,c2,e,iha hk.1 h1,ihb hk.2 h2⟩
 | st f ih=>intro x cs hk H; exact ih (x:=x) (cs:=cs) hk H
 | id f=>intro x cs hk; simp [xq] at hk
 | int ik=>intro x cs _ H; exact H
 | bool=>intro x cs _ H; exact H
 | str=>intro x cs _ H; exact H
 | unit=>intro x cs _ H; exact H
 | gap n=>intro x cs _ H; exact H
def uG (cx:Cx) (bad:List Nat):Cx:={ cx with
 par:=fun j=>(cx.par j).map fun pi=>{ pi with bl:=pi.bl.filter fun b=>!au b bad }
 ptrs:=fun _ _ _ _=>False
 refs:=fun _ _=>False }
theorem kT {cx:Cx} {bad:List Nat} {j:Nat} {yw:Li} (h:(uG cx bad).par j=some yw):∃pi,cx.par j=some pi∧yw={ pi with bl:=pi.bl.filter fun b=>!au b bad }:=by
 simp only [uG,Option.map_eq_some_iff] at h
 obtain ⟨pi,h1,h2⟩:=h
 exact ⟨pi,h1,h2.symm⟩
theorem Bv {cx:Cx} {bad:List Nat} {b:Nat}:jS (uG cx bad) b↔jS cx b:=by
 constructor
 ·rintro ⟨j,yw,o,n,h1,h2⟩
  obtain ⟨pi,g1,rfl⟩:=kT h1
  exact ⟨j,pi,o,n,g1,h2⟩
 ·rintro ⟨j,pi,o,n,h1,h2⟩
  exact ⟨j,{ pi with bl:=pi.bl.filter fun b=>!au b bad },o,n,by simp [uG,h1],h2⟩
def Jo (T:List Tag):Prop:=∀t∈T,fC t.1=true
def xL:sK→Prop
 | .one .undef=>True
 | .one (.ptr r p n)=>r=ak 0∧p=[]∧n=0
 | .one (.val k _ T)=>xq k=true∧Jo T
 | .one (.fn _ cs)=>∀c∈cs,xq c.2.1.1=true∧Jo c.2.2∧c.1=SENT
 | _=>False
section
variable {cx:Cx} {σ:St} {α:dI} {a:Act} {w:World}
theorem Pz {R0 R1:Root} {dA bad:List Nat} (h0:∀r R,aN σ r R→r=ak 0∧R=R0) (h1:aN σ (ak 0) R0) (hk:R1.kind=R0.kind) (hsub:∀b∈dA,b∈α.fo (ak 0)) (hbad:∀b∈bad,b∈α.fo (ak 0)) {T:List Tag} (hT:Jo T) {b:Nat} (h:gV cx σ α [] w T b) :
  gV (uG cx bad) (aj σ (ak 0) R1) (aG α (ak 0) (α.loc (ak 0)) (α.hdr (ak 0)) dA) [] w T b:=by
 obtain ⟨g1,g2,g3,g4,g5⟩:=h
 refine ⟨g1,g2,fun hb=>g3 (Bv.1 hb),fun r R hr hb=>?_,fun hlt=>?_⟩
 ·rcases iQ hr with ⟨rfl,rfl,_⟩ | ⟨e,hr'⟩
  ·rw [dY] at hb
   refine g4 _ R0 h1 ?_
   rw [bV]
   unfold gQ at hb ⊢
   rw [hk] at hb
   rcases afZ.1 hb with h | h
   ·exact afV _ h
   ·exact afS _ (hsub b h)
  ·exact absurd (h0 r R hr').1 e
 ·rcases g5 hlt with ⟨j,n,f1,f2⟩ | ⟨j,pi,f1,f2⟩
  ·exact .inl ⟨j,n,f1,f2⟩
  ·refine .inr ⟨j,{ pi with bl:=pi.bl.filter fun b=>!au b bad },by simp [uG,f1], ?_⟩
   refine af7.2 ⟨f2, ?_⟩
   cases hm:au b bad with
   | false=>rfl
   | true=>
    have hb:=hbad b (aJ.1 hm)
    obtain ⟨n,hn⟩:=g4 _ R0 h1 (by rw [bV]; exact afS _ hb)
    have:=hT _ hn
    rw [lG] at this
    simp at this
theorem Br {σ:St} {tys:List TypeId} {T:List Tag} (h:Jo T):bg σ tys T=true:=lD.2 fun t ht=>.inl (h t ht)
structure wH (cx:Cx) (σ:St) (α:dI) (R0 R1:Root) (dA bad:List Nat):Prop where
 only:∀r R,aN σ r R→r=ak 0∧R=R0
 lv:aN σ (ak 0) R0
 kind:R1.kind=R0.kind
 tags:R0.tags=[]
 sub:∀b∈dA,b∈α.fo (ak 0)
 bad:∀b∈bad,b∈α.fo (ak 0)
theorem wH.gV {R0 R1:Root} {dA bad:List Nat} (L:wH cx σ α R0 R1 dA bad) {T:List Tag} (hT:Jo T) {b:Nat} (h:Ow.gV cx σ α [] w T b) :
  Ow.gV (uG cx bad) (aj σ (ak 0) R1) (aG α (ak 0) (α.loc (ak 0)) (α.hdr (ak 0)) dA) [] w T b:=Pz L.only L.lv L.kind L.sub L.bad hT h
theorem wH.wh {R0 R1:Root} {dA bad:List Nat} (L:wH cx σ α R0 R1 dA bad):dQ (aG α (ak 0) (α.loc (ak 0)) (α.hdr (ak 0)) dA) R1 (ak 0)=dQ α R0 (ak 0):=by
 rw [jf]
 unfold rX dQ
 rw [L.kind] <;> cases R0.kind <;> rfl
theorem wH.av (fr':Fr) (hf:fr'.free=fr.free) {R0 R1:Root} {dA bad:List Nat} (L:wH cx σ α R0 R1 dA bad) {x:sK} {v:Value} (hx:xL x) (h : @iM fr cx σ α [] w x v) :
  @iM fr' (uG cx bad) (aj σ (ak 0) R1) (aG α (ak 0) (α.loc (ak 0)) (α.hdr (ak 0)) dA) [] w x v:=by
 have hv0:bn σ R0:=⟨L.lv.2,by rw [L.tags]; rfl⟩
 cases x with
 | CV l=>exact hx.elim
 | lit _ _ _=>exact hx.elim
 | one x=>
  cases x with
  | undef=>trivial
  | ptr r p n=>
   obtain ⟨rfl,rfl,rfl⟩:=hx
   refine ⟨h.1,fun R hR _ _ _ _=>?_⟩
   rw [aH] at hR
   have hR:=agr hR
   subst hR
   obtain ⟨_,cs,b,o,hn,e⟩:=h.2 R0 L.lv.1 hv0 (by unfold dS clean; simp [au]) (fun t ht=>by simp [aa] at ht) rfl
   simp only [bE,afQ,af1] at hn
   refine ⟨trivial,α.hdr (ak 0),b,o, ?_,e⟩
   simp only [bE]
   rw [L.wh,hn.2]
   simp [aG,upd_same]
  | val k x T=>
   intro _
   obtain ⟨cs,h1,h2⟩:=h (.inr (Br hx.2))
   exact ⟨cs,h1, @NC fr _ _ fr' hf _ _ _ hx.1 (@fI fr _ _ _ _ (fun _ _=>rfl) (fun b hb=>L.gV hx.2 hb) _ _ _ h2)⟩
  | fn f cs=>
   obtain ⟨vs,e,hc⟩:=h
   refine ⟨vs,e, ?_⟩
   clear e
   have key:∀(cs:List (TypeId×Dat×List Tag)) (vs:List Value),(∀c∈cs,xq c.2.1.1=true∧Jo c.2.2∧c.1=SENT)→@jB fr cx σ α [] w cs vs→@jB fr' (uG cx bad) (aj σ (ak 0) R1) (aG α (ak 0) (α.loc (ak 0)) (α.hdr (ak 0)) dA) [] w cs vs:=by
    intro cs
    induction cs with
    | nil=>intro vs _ h; cases vs <;> exact h
    | cons c cs ih=>
     intro vs hc h
     cases vs with
     | nil=>exact h
     | cons v vs=>
      obtain ⟨⟨h1,h2⟩,h3⟩:=h
      obtain ⟨g1,g2,g3⟩:=hc c (by simp)
      refine ⟨⟨h1,fun _=>?_⟩,ih vs (fun c hc'=>hc c (by simp [hc'])) h3⟩
      obtain ⟨b,o,ds,e,q1,q2,⟨q3,q4,q5⟩,_⟩:=h2 (Br g2)
      refine ⟨b,o,ds,e,q1, @NC fr _ _ fr' hf _ _ _ g1 (@fI fr _ _ _ _ (fun _ _=>rfl) (fun b hb=>L.gV g2 hb) _ _ _ q2),⟨q3,q4,fun r R hr hb=>?_⟩, .inl ⟨g3,g2⟩⟩
      rcases iQ hr with ⟨rfl,rfl,_⟩ | ⟨e,hr'⟩
      ·rw [dY] at hb
       refine q5 _ R0 L.lv ?_
       rw [bV]
       unfold gQ at hb ⊢
       rw [L.kind] at hb
       rcases afZ.1 hb with h | h
       ·exact afV _ h
       ·exact afS _ (L.sub b h)
      ·exact absurd (L.only r R hr').1 e
   exact key cs vs hx hc
  | _=>exact hx.elim
theorem JB:∀{dP:List Dz},(dP.map (·.1)).Nodup→0∉dP.map (·.1)→(∀q∈dP,∃a n c,q.2.1=Value.slice a n c)→∃iq:Nat→Value,iq 0=.slice none 0 0∧(∀i,∃a n c,iq i=.slice a n c)∧∀q∈dP,iq q.1=q.2.1
 | [],_,_,_=>⟨fun _=>.slice none 0 0,rfl,fun _=>⟨none,0,0,rfl⟩,fun q hq=>by simp at hq⟩
 | q :: l,hn,h0,hs=>by
  rw [List.map_cons,agp] at hn
  rw [List.map_cons,af2,not_or] at h0
  obtain ⟨iq,g1,g2,g3⟩:=JB hn.2 h0.2 (fun q hq=>hs q (by simp [hq]))
  refine ⟨fun i=>if i=q.1 then q.2.1 else iq i,by simp only [if_neg h0.1]; exact g1,fun i=>?_,fun t ht=>?_⟩
  ·by_cases h:i=q.1
   ·simp only [if_pos h]; exact hs q (by simp)
   ·simp only [if_neg h]; exact g2 i
  ·rcases af2.1 ht with rfl | ht
   ·simp only [if_true]
   ·have hne:¬t.1=q.1:=fun e=>hn.1 (ags.2 ⟨t,ht,e⟩)
    simp only [if_neg hne]; exact g3 t ht
theorem K6 {h:Heap} {own:List TypeId} {ok:Nat→Prop} {xs:List (El kk)} {v:Value} {fo:List Nat} (he:au e own=true) (H:Ow h own ok (.sl e kk) xs [v] fo):∃a n c,v=.slice a n c:=by
 unfold Ow at H
 rw [if_pos he] at H
 obtain ⟨a,n,c,hv,_⟩:=H
 simp only [List.cons.injEq,and_true] at hv
 exact ⟨a,n,c,hv⟩
theorem MB (H:Rel cx σ α [] a w) (hw0:cx.w0=w) {R0:Root} (hR0:aN σ (ak 0) R0) (kW:∀r,r≠ak 0→σ.roots r=none) (hpar:R0.kind=.par) (om:R0.tags=[]) (hown:∀t∈R0.k.tys,au t R0.own=true) (he:au e R0.own=true)
  (hsl:∀s,xL (σ.slots s)) {k':K} {x':El k'} {tb:Nat→List (El kk)} {ns:List Nat} (hR:Rw e kk false tb R0.k k' R0.x x' ns) (hnd:ns.Nodup) (hn0:0∉ns) (hown':∀t∈k'.tys,au t R0.own=true) :
  ∃(dP:List Dz) (dA:List Nat) (iq:Nat→Value) (h0:iq 0=.slice none 0 0) (hs:∀i,∃a n c,iq i=.slice a n c),dP.map (·.1)=ns∧(α.fo (ak 0)).Perm (dA++aP dP)∧
   (∀q∈dP, @Ow fr (hp w) R0.own (fun _=>False) (.sl e kk) (tb q.1) [q.2.1] q.2.2)∧(∀q∈dP,iq q.1=q.2.1)∧
   @Rel (gp fr iq h0 hs) (uG cx (aP dP)) (aj σ (ak 0) { R0 with k:=k',x:=x' }) (aG α (ak 0) (α.loc (ak 0)) (α.hdr (ak 0)) dA) [] a w:=by
 have K:=H.roots _ R0 hR0
 have hv0:bn σ R0:=⟨hR0.2,by rw [om]; rfl⟩
 have hO:Ow (hp w) R0.own (fun _=>False) R0.k R0.x (α.hdr (ak 0)) (α.fo (ak 0)):=fP (dm hown) (K.ow hv0)
 obtain ⟨dP,dA,g1,g2,g3,g4⟩:=F6 hown hR hO
 obtain ⟨iq,i1,i2,i3⟩:=JB (dP:=dP) (by rw [g1]; exact hnd) (by rw [g1]; exact hn0) (fun q hq=>K6 he (g3 q hq))
 refine ⟨dP,dA,iq,i1,i2,g1,g2,g3,i3, ?_⟩
 have hblk:blk α R0 (ak 0)=(α.loc (ak 0)).1 :: α.fo (ak 0):=by unfold blk dQ; rw [hpar]; rfl
 have hsub:∀b∈dA,b∈α.fo (ak 0):=fun b hb=>g2.mem_iff.2 (afV _ hb)
 have hbad:∀b∈aP dP,b∈α.fo (ak 0):=fun b hb=>g2.mem_iff.2 (afS _ hb)
 have L:wH cx σ α R0 { R0 with k:=k',x:=x' } dA (aP dP):=⟨fun r R hr=>by
  by_cases e:r=ak 0
  ·subst e; refine ⟨rfl, ?_⟩; have:=hr.1; rw [hR0.1] at this; exact (agr this).symm
  ·have:=hr.1; rw [kW r e] at this; simp at this,hR0,rfl,om,hsub,hbad⟩
 have oI:=K.nd
 rw [hblk] at oI
 have xZ:=agp.1 oI
 have nK:=afX.1 (g2.nodup xZ.2)
 have hlv:∀{q Q},aN (aj σ (ak 0) { R0 with k:=k',x:=x' }) q Q→q=ak 0∧Q={ R0 with k:=k',x:=x' }:=fun {q Q} hq=>by
  rcases iQ hq with ⟨rfl,rfl,_⟩ | ⟨e,hq'⟩
  ·exact ⟨rfl,rfl⟩
  ·exact absurd (L.only q Q hq').1 e
 have hlv1:aN (aj σ (ak 0) { R0 with k:=k',x:=x' }) (ak 0) { R0 with k:=k',x:=x' }:=⟨aH ..,hR0.2⟩
 have hblk':blk (aG α (ak 0) (α.loc (ak 0)) (α.hdr (ak 0)) dA) { R0 with k:=k',x:=x' } (ak 0)=(α.loc (ak 0)).1 :: dA:=by
  rw [dY]; unfold gQ; simp only [hpar]; rfl
 have iZ:∀b∈(α.loc (ak 0)).1 :: dA,Ow.mine (uG cx (aP dP)) w b:=fun b hb=>by
  have hb0:b∈blk α R0 (ak 0):=by
   rw [hblk]
   rcases af2.1 hb with h | h
   ·rw [h]; exact agn
   ·exact age _ (hsub b h)
  obtain ⟨m1,m2⟩:=K.mine b hb0
  refine ⟨m1, ?_⟩
  rcases m2 with m2 | ⟨j,pi,m2,m3⟩
  ·exact .inl m2
  ·refine .inr ⟨j,{ pi with bl:=pi.bl.filter fun b=>!au b (aP dP) },by simp [uG,m2],af7.2 ⟨m3, ?_⟩⟩
   have:au b (aP dP)=false:=by
    rw [aS]
    intro hm
    rcases af2.1 hb with h | h
    ·subst h; exact xZ.1 (hbad _ hm)
    ·exact nK.2.2 b h b hm rfl
   rw [this]; rfl
 have hpl:=H.lK
 refine @Rel.mk (gp fr iq i1 i2) _ _ _ _ _ _ H.defs H.sz ?_ ?_ ?_ ?_ ?_ ?_ ?_ (fun b hb=>by simp at hb) List.nodup_nil (fun r R hr b hb h=>by simp at h) ?_ ?_ ?_ (fun j p ts v h=>h.elim) (fun j v h=>h.elim)
 ·intro j yw b o n hj hb
  obtain ⟨pi,hj',rfl⟩:=kT hj
  obtain ⟨R,f1,f2,f3,f4⟩:=H.jT j pi b o n hj' hb
  obtain ⟨e1,rfl⟩:=L.only _ R f1
  rw [e1] at f3 ⊢
  exact ⟨_,hlv1,hpar,by simp [aG,upd_same,f3],by show k'.size=n; rw [hR.size]; exact f4⟩
 ·intro r R hr hk
  obtain ⟨rfl,rfl⟩:=hlv hr
  obtain ⟨j,pi,n,f1,f2,f3⟩:=H.yu _ R0 hR0 hpar
  exact ⟨j,{ pi with bl:=pi.bl.filter fun b=>!au b (aP dP) },n,f1,by simp [uG,f2],by simp [aG,upd_same,f3]⟩
 ·intro s
  exact wH.av (fr:=fr) (gp fr iq i1 i2) rfl L (hsl s) (H.slots s)
 ·intro s
  have hs:=hsl s
  show sO _ (σ.slots s)
  cases hx:σ.slots s with
  | CV l=>rw [hx] at hs; exact hs.elim
  | lit _ _ _=>rw [hx] at hs; exact hs.elim
  | one x=>
   rw [hx] at hs
   cases x with
   | undef=>trivial
   | ptr r p n=>obtain ⟨rfl,rfl,rfl⟩:=hs; exact ⟨_,aH .., .inr (agq _)⟩
   | val k x T=>exact fun t ht=>.inl (hs.2 t ht)
   | fn f cs=>exact fun c hc t ht=>.inl ((hs c hc).2.1 t ht)
   | _=>exact hs.elim
 ·intro r R hr
  obtain ⟨rfl,rfl⟩:=hlv hr
  refine @qm.mk (gp fr iq i1 i2) _ _ _ _ _ _ _ (fun _=>?_) ?_ ?_ ?_ ?_
  ·have e1:(aG α (ak 0) (α.loc (ak 0)) (α.hdr (ak 0)) dA).hdr (ak 0)=α.hdr (ak 0):=by simp [aG,upd_same]
   have e2:(aG α (ak 0) (α.loc (ak 0)) (α.hdr (ak 0)) dA).fo (ak 0)=dA:=by simp [aG,upd_same]
   rw [e1,e2]
   exact @fP (gp fr iq i1 i2) _ _ _ _ _ _ _ _ (dm hown') (g4 (gp fr iq i1 i2) rfl i3)
  ·show ((aG α (ak 0) (α.loc (ak 0)) (α.hdr (ak 0)) dA).hdr (ak 0)).length=k'.size
   rw [hR.size]
   simpa [aG,upd_same] using K.len
  ·intro b o hb
   rw [L.wh] at hb
   obtain ⟨m1,arr,e',lo,hi,m2,m3,m4,m5⟩:=K.mem b o hb
   refine ⟨by simpa [aG,upd_same] using m1,arr,e',lo,hi,m2,m3,by show o+k'.size≤_; rw [hR.size]; exact m4,m5⟩
  ·rw [hblk']
   exact agp.2 ⟨fun h=>xZ.1 (hsub _ h),nK.1⟩
  ·intro b hb
   rw [hblk'] at hb
   exact iZ b hb
 ·intro r R hr
  by_cases e:r=ak 0
  ·subst e
   rw [aH] at hr
   have hr:=agr hr
   subst hr
   exact ⟨fun t ht=>by rw [show ({ R0 with k:=k',x:=x' }:Root).tags=R0.tags from rfl,om] at ht; simp at ht,lG 0,fun n hn=>by rw [show ({ R0 with k:=k',x:=x' }:Root).tags=R0.tags from rfl,om] at hn; simp at hn⟩
  ·rw [bU _ _ e,kW r e] at hr; simp at hr
 ·intro r R r' R' hr hr' hne
  exact absurd ((hlv hr).1.trans (hlv hr').1.symm) hne
 ·obtain ⟨f1,f2,f3,f4,f5,f6⟩:=H.frame
  refine ⟨f1,f2,f3,f4,fun b _ _=>by show hp w b=hp cx.w0 b; rw [hw0],fun j yw b o n hj hb=>?_⟩
  obtain ⟨pi,hj',rfl⟩:=kT hj
  exact f6 j pi b o n hj' hb
 ·intro j yw hj hkp
  obtain ⟨pi,hj',rfl⟩:=kT hj
  obtain ⟨R,f1,f2⟩:=H.qb j pi hj' hkp
  by_cases e:ak j=ak 0
  ·refine ⟨_,by rw [e]; exact aH ..,fun _ b hb hnb=>.inr ⟨by show hp w b=hp cx.w0 b; rw [hw0],by simp,fun q Q hq _=>by rw [(hlv hq).1,e]⟩⟩
  ·rw [kW _ e] at f1; simp at f1
 ·refine ⟨fun j yw hj b hb=>?_,fun b hb=>⟨?_,fun j yw hj hbl=>?_⟩,fun b hb=>hpl.2.2 b hb⟩
  ·obtain ⟨pi,hj',rfl⟩:=kT hj
   exact hpl.1 j pi hj' b (af7.1 hb).1
  ·exact (hpl.2.1 b hb).1
  ·obtain ⟨pi,hj',rfl⟩:=kT hj
   exact (hpl.2.1 b hb).2 j pi hj' (af7.1 hbl).1
theorem Ay {h:Heap} {own own':List TypeId} {ok:Nat→Prop}:∀{k:K} {x:El k} {cs:List Value} {fo:List Nat},(∀t∈k.tys,au t own=au t own')→Ow h own ok k x cs fo→Ow h own' ok k x cs fo:=by
 intro k
 induction k with
 | sl f k ih=>
  intro x cs fo ht H
  have hf:=ht f (by simp [K.tys])
  unfold Ow at H ⊢
  cases hm:au f own with
  | true=>
   rw [if_pos hm] at H
   rw [if_pos (by rw [←hf]; exact hm)]
   obtain ⟨a,n,c,e1,e2,e3,H⟩:=H
   refine ⟨a,n,c,e1,e2,e3, ?_⟩
   rcases H with H | ⟨b,o,arr,lo,hi,ea,hb,hz,hs,bz,hl,hp,H⟩
   ·exact .inl H
   ·refine .inr ⟨b,o,arr,lo,hi,ea,hb,hz,hs,bz,hl,hp,fun i hi=>?_⟩
    obtain ⟨ds,h1,h2⟩:=H i hi
    exact ⟨ds,h1,ih (fun t h=>ht t (by simp [K.tys,h])) h2⟩
  | false=>
   rw [if_neg (by rw [hm]; simp)] at H
   rw [if_neg (by rw [←hf,hm]; simp)]
   exact H
 | pair a b iha ihb=>
  intro x cs fo ht H
  obtain ⟨c1,c2,f1,f2,e,hp,h1,h2⟩:=H
  exact ⟨c1,c2,f1,f2,e,hp,iha (fun t h=>ht t (by simp [K.tys,h])) h1,ihb (fun t h=>ht t (by simp [K.tys,h])) h2⟩
 | st f ih=>intro x cs fo ht H; exact ih (x:=x) ht H
 | int ik=>intro x cs fo _ H; exact H
 | bool=>intro x cs fo _ H; exact H
 | id e=>intro x cs fo _ H; exact H
 | str=>intro x cs fo _ H; exact H
 | unit=>intro x cs fo _ H; exact H
 | gap n=>intro x cs fo _ H; exact H
theorem WS {z:Bool} {tb:Nat→List (El kk)} {k k':K} {x:El k} {y:El k'} {ns:List Nat} {v:Value} {cs:List Value} (hR:Rw e kk z tb k k' x y ns) (h:VC k' v cs):VC k v cs:=by
 cases k <;> cases k' <;> first | exact hR.elim | exact h
def WQ (e:TypeId) (kk:K) (tb:Nat→List (El kk)):(rs rs':List ug)→Cont (gU rs)→Cont (gU rs')→List Nat→Prop
 | [],[],_,_,ns=>ns=[]
 | .val k _ _ :: rs, .val k' _ _ :: rs',c,c',ns=>(∃h:k=k',k.flat=true∧xq k=true∧h▸c.1=c'.1)∧WQ e kk tb rs rs' c.2 c'.2 ns
 | .own k ow _ _ :: rs, .own k' ow' _ _ :: rs',c,c',ns=>∃n1 n2,ns=n1++n2∧((k.tys.all fun t=>au t ow)=true∧(k'.tys.all fun t=>au t ow')=true∧Rw e kk true tb k k' c.1 c'.1 n1)∧WQ e kk tb rs rs' c.2 c'.2 n2
 | _,_,_,_,_=>False
theorem select {dP:List Dz}:∀{ns:List Nat},(∀n∈ns,n∈dP.map (·.1))→∃l:List Dz,l.map (·.1)=ns∧∀q∈l,q∈dP
 | [],_=>⟨[],rfl,fun q hq=>by simp at hq⟩
 | n :: ns,h=>by
  obtain ⟨l,h1,h2⟩:=select (ns:=ns) (fun n hn=>h n (by simp [hn]))
  obtain ⟨q,hq,e⟩:=ags.1 (h n (by simp))
  exact ⟨q :: l,by simp [h1,e],fun t ht=>by
   rcases af2.1 ht with rfl | ht
   ·exact hq
   ·exact h2 t ht⟩
theorem zo:∀{dP:List Dz},(aP dP).Nodup→(dP.map (·.1)).Nodup→∀q∈dP,q.2.2.Nodup∧∀q'∈dP,q.1≠q'.1→∀b∈q.2.2,b∉q'.2.2
 | [],_,_,q,hq=>by simp at hq
 | t :: l,hn,hm,q,hq=>by
  have e:aP (t :: l)=t.2.2++aP l:=rfl
  rw [e] at hn
  obtain ⟨n1,n2,n3⟩:=afX.1 hn
  rw [List.map_cons,agp] at hm
  have hin:∀q∈l,∀b∈q.2.2,b∈aP l:=fun q hq b hb=>agt.2 ⟨q,hq,hb⟩
  rcases af2.1 hq with rfl | YR
  ·refine ⟨n1,fun q' hq' hne b hb hb'=>?_⟩
   rcases af2.1 hq' with rfl | hq'
   ·exact hne rfl
   ·exact n3 b hb b (hin q' hq' b hb') rfl
  ·obtain ⟨g1,g2⟩:=zo n2 hm.2 q YR
   refine ⟨g1,fun q' hq' hne b hb hb'=>?_⟩
   rcases af2.1 hq' with rfl | hq'
   ·exact n3 b hb' b (hin q YR b hb) rfl
   ·exact g2 q' hq' hne b hb hb'
theorem zq {dP:List Dz} (hn:(aP dP).Nodup) (hm:(dP.map (·.1)).Nodup):∀{l:List Dz},(∀q∈l,q∈dP)→(l.map (·.1)).Nodup→(aP l).Nodup
 | [],_,_=>List.nodup_nil
 | t :: l,hs,hl=>by
  have e:aP (t :: l)=t.2.2++aP l:=rfl
  rw [e]
  rw [List.map_cons,agp] at hl
  refine afX.2 ⟨(zo hn hm t (hs t (by simp))).1,zq hn hm (fun q hq=>hs q (by simp [hq])) hl.2,fun b hb c hc TW=>?_⟩
  subst TW
  obtain ⟨q,hq,hb'⟩:=agt.1 hc
  exact (zo hn hm t (hs t (by simp))).2 q (hs q (by simp [hq])) (fun e=>hl.1 (ags.2 ⟨q,hq,e.symm⟩)) b hb hb'
theorem Pe (fr':Fr) (hf:fr'.free=fr.free) {cx':Cx} {σ':St} {α':dI} {F':List Nat} {w':World} {tb:Nat→List (El kk)} {O:List TypeId} (hO:∀t∈(K.sl e kk).tys,au t O=true)  :
  ∀{rs rs':List ug} {c:Cont (gU rs)} {c':Cont (gU rs')} {vs:List Value} {bz:List (List Nat)} {dP:List Dz},WQ e kk tb rs rs' c c' (dP.map (·.1))→@AY fr' cx' σ' α' F' w' rs' c' vs bz→
   (∀q∈dP, @Ow fr (hp w') O (fun _=>False) (.sl e kk) (tb q.1) [q.2.1] q.2.2∧fr'.iq q.1=q.2.1)→
   ∃L6,(∀σ1 dH F1, @AY fr cx σ1 dH F1 w' rs c vs L6)∧L6.flatten.Perm (bz.flatten++aP dP):=by
 intro rs
 induction rs with
 | nil=>
  intro rs' c c' vs bz dP hR hL htr
  cases rs' with
  | cons _ _=>exact hR.elim
  | nil=>
   have ht:dP=[]:=by simpa using (show dP.map (·.1)=[] from hR)
   subst ht
   cases vs with
   | cons _ _=>exact hL.elim
   | nil=>cases bz with
    | cons _ _=>exact hL.elim
    | nil=>exact ⟨[],fun _ _ _=>trivial, .refl _⟩
 | cons r rs ih=>
  intro rs' c c' vs bz dP hR hL htr
  cases rs' with
  | nil=>cases r <;> exact hR.elim
  | cons r' rs'=>
   cases r with
   | into _ _=>exact hR.elim
   | ptr _ _ _ _=>exact hR.elim
   | val k ex pr=>
    cases r' with
    | val k' ex' pr'=>
     obtain ⟨⟨hk,h1,h2,h3⟩,hR⟩:=hR
     subst hk
     cases vs with
     | nil=>exact hL.elim
     | cons v vs=>
      cases bz with
      | nil=>exact hL.elim
      | cons fo bz=>
       obtain ⟨⟨rfl,T,cs,g1,g2,g3⟩,hL⟩:=hL
       obtain ⟨L6,q1,q2⟩:=ih hR hL htr
       refine ⟨[] :: L6,fun σ1 dH F1=>⟨⟨rfl,[],cs, .inl h1,g2, ?_⟩,q1 σ1 dH F1⟩,by simpa using q2⟩
       have h3:c.1=c'.1:=h3
       rw [h3]
       exact @iF fr _ _ _ _ _ _ _ h1 (@NC fr' _ _ fr hf.symm _ _ _ h2 g3)
    | _=>exact hR.elim
   | own k ow ex pr=>
    cases r' with
    | own k' ow' ex' pr'=>
     obtain ⟨n1,n2,hns,⟨a1,a2,a3⟩,hR⟩:=hR
     rw [List.map_eq_append_iff] at hns
     obtain ⟨t1,t2,rfl,rfl,rfl⟩:=hns
     cases vs with
     | nil=>exact hL.elim
     | cons v vs=>
      cases bz with
      | nil=>exact hL.elim
      | cons fo bz=>
       obtain ⟨⟨T,cs,ac1,g1,g2,g3,g4⟩,hL⟩:=hL
       obtain ⟨L6,q1,q2⟩:=ih hR hL (fun q hq=>htr q (afS _ hq))
       have hk':∀t∈k'.tys,au t ac1=true:=fun t ht=>g2 t ht (af5.1 a2 t ht)
       let O2:List TypeId:=O++k.tys++k'.tys
       have m1:∀t∈k.tys,au t O2=true:=fun t ht=>aJ.2 (afV _ (afS _ ht))
       have m2:∀t∈k'.tys,au t O2=true:=fun t ht=>aJ.2 (afS _ ht)
       have m3:∀t∈(K.sl e kk).tys,au t O2=true:=fun t ht=>aJ.2 (afV _ (afV _ (aJ.1 (hO t ht))))
       have g5 : @Ow fr' (hp w') O2 (fun _=>False) k' c'.1 cs fo:=@fP fr' _ _ _ _ _ _ _ _ (dm m2) (@Ay fr' _ _ _ _ _ _ _ _ (fun t ht=>by rw [hk' t ht,m2 t ht]) g4)
       have g6:=EC (fr:=fr) fr' m1 a3 g5 (fun q hq=>by
        obtain ⟨f1,f2⟩:=htr q (afV _ hq)
        exact ⟨@Ay fr _ _ _ _ _ _ _ _ (fun t ht=>by rw [hO t ht,m3 t ht]) f1,f2⟩)
       refine ⟨(fo++aP t1) :: L6,fun σ1 dH F1=>⟨⟨[],cs,O2, .inl a1,fun t ht _=>m1 t ht,WS a3 g3, @fP fr _ _ _ _ _ _ _ _ (dm m1) g6⟩,q1 σ1 dH F1⟩, ?_⟩
       simp only [List.flatten_cons]
       have et:aP (t1++t2)=aP t1++aP t2:=by simp [aP]
       rw [et]
       refine (q2.append_left (fo++aP t1)).trans ?_
       simp only [agb]
       refine List.Perm.append_left fo ?_
       rw [←agb, ←agb]
       exact List.Perm.append_right _ List.perm_append_comm
    | _=>exact hR.elim
end
end
end
section
open Go
section
variable {e:TypeId} {kk:K} [fr:Fr]
variable {cx:Cx} {σ:St} {α:dI} {a:Act} {w:World}
def kU (k:K) (x:El k) (ow wt ht:List TypeId):Root:={ k,x,own:=ow,tags:=[],w:=wt,h:=ht,g:=0,kind:=.par,fixed:=false,keep:=true,ew:=[],eh:=ht }
def vB (R:Root):St:=⟨fun _=>.one .undef,fun r=>bif Nat.beq r (ak 0) then some R else none⟩
def wU (loc:Nat×Nat) (hdr:List Value) (fo:List Nat):dI:=⟨fun _=>loc,fun _=>hdr,fun _=>fo⟩
theorem nk {R:Root} {r:Nat} {Q:Root} (h:(vB R).roots r=some Q):r=ak 0∧Q=R:=by
 unfold vB at h
 simp only at h
 cases hb:Nat.beq r (ak 0) with
 | true=>rw [hb] at h; exact ⟨afU hb,(agr h).symm⟩
 | false=>rw [hb] at h; simp at h
theorem pW {R:Root}:(vB R).roots (ak 0)=some R:=by simp [vB]
theorem Pd (H:Rel cx σ α [] a w) (hw0:cx.w0=w) {R0:Root} (hR0:aN σ (ak 0) R0) (kW:∀r,r≠ak 0→σ.roots r=none) (hpar:R0.kind=.par) (hg0:R0.g=0) (hv0:bn σ R0)
  (hown:∀t∈R0.k.tys,au t R0.own=true) {k':K} (hown':∀t∈k'.tys,au t R0.own=true) (Kz:∀t∈(K.sl e kk).tys,au t R0.own=true)
  {tb:Nat→List (El kk)} {dP:List Dz} {dA:List Nat} {iq:Nat→Value} {h0:iq 0=.slice none 0 0} {hs:∀i,∃a n c,iq i=.slice a n c}
  (hperm:(α.fo (ak 0)).Perm (dA++aP dP)) (hnd:(dP.map (·.1)).Nodup) (hrow:∀q∈dP, @Ow fr (hp w) R0.own (fun _=>False) (.sl e kk) (tb q.1) [q.2.1] q.2.2) (hid:∀q∈dP,iq q.1=q.2.1)
  {σ1:St} {dH:dI} {F1:List Nat} {a1:Act} {w':World} (H1 : @Rel (gp fr iq h0 hs) (uG cx (aP dP)) σ1 dH F1 a1 w') {Q:Root} (hQ:σ1.roots (ak 0)=some Q) (Uc:bn σ1 Q) (Va:Q.k=k') (hQo:∀t∈k'.tys,au t Q.own=true)
  {wt ht:List TypeId} (hwt:kD Q.w wt=true∧kD Q.ew wt=true) (hwk:∀t∈(K.sl e kk).tys,t∈wt) (Oy:mY∈ht)
  {y:El R0.k} {ny:List Dz} (hP:Rw e kk true tb R0.k Q.k y Q.x (ny.map (·.1))) (Q3:∀q∈ny,q∈dP)
  {rs rs':List ug} {c:Cont (gU rs)} {c':Cont (gU rs')} {vs:List Value} {bz:List (List Nat)} {zu:List Dz} (hRs:∀q∈zu,q∈dP) (hRR:WQ e kk tb rs rs' c c' (zu.map (·.1)))
  (hL : @AY (gp fr iq h0 hs) (uG cx (aP dP)) σ1 dH F1 w' rs' c' vs bz) (hfn:bz.flatten.Nodup) (Iy:∀b∈bz.flatten,b∈F1) (hall:((zu++ny).map (·.1)).Nodup)
  (za:∀j p ts v,cx.ptrs j p ts v→∃k,ts=dS p k) :
  ∃uS BO,Rel cx (vB (kU R0.k y R0.own wt ht)) uS BO.flatten a1 w'∧AY cx (vB (kU R0.k y R0.own wt ht)) uS BO.flatten w' rs c vs BO∧BO.flatten.Nodup:=by
 have K0:=H.roots _ R0 hR0
 have hlv1:aN σ1 (ak 0) Q:=⟨hQ,Uc.1⟩
 have K1:=@Rel.roots (gp fr iq h0 hs) _ _ _ _ _ _ H1 _ Q hlv1
 have Ty:=@qm.ow (gp fr iq h0 hs) _ _ _ _ _ _ _ K1
 have Nr:=@qm.len (gp fr iq h0 hs) _ _ _ _ _ _ _ K1
 have Wt:=@qm.mem (gp fr iq h0 hs) _ _ _ _ _ _ _ K1
 have Tx:=@qm.nd (gp fr iq h0 hs) _ _ _ _ _ _ _ K1
 have IE:=@qm.mine (gp fr iq h0 hs) _ _ _ _ _ _ _ K1
 have JA:∀r R,aN σ r R→r=ak 0∧R=R0:=fun r R hr=>by
  by_cases e:r=ak 0
  ·subst e; refine ⟨rfl, ?_⟩; have:=hr.1; rw [hR0.1] at this; exact (agr this).symm
  ·have:=hr.1; rw [kW r e] at this; simp at this
 obtain ⟨j0,pi0,n0,p1,p2,p3⟩:=H.yu _ R0 hR0 hpar
 obtain ⟨Q',q1,q2,q3,q4⟩:=@Rel.jT (gp fr iq h0 hs) _ _ _ _ _ _ H1 j0 { pi0 with bl:=pi0.bl.filter fun b=>!au b (aP dP) } (α.loc (ak 0)).1 (α.loc (ak 0)).2 n0 (by simp [uG,p2]) p3
 rw [←p1] at q1 q3
 have eQ:Q'=Q:=by have:=q1.1; rw [hQ] at this; exact (agr this).symm
 subst eQ
 have GQ:blk α R0 (ak 0)=(α.loc (ak 0)).1 :: α.fo (ak 0):=by unfold blk dQ; rw [hpar]; rfl
 have hblk1:blk dH Q' (ak 0)=(α.loc (ak 0)).1 :: dH.fo (ak 0):=by unfold blk dQ; rw [q2]; simp [q3]
 have hsize:w.heap.size≤w'.heap.size:=by have:=(@Rel.frame (gp fr iq h0 hs) _ _ _ _ _ _ H1).2.2.2.1; simpa [uG,hw0] using this
 have oI:=K0.nd
 rw [GQ] at oI
 have xZ:=agp.1 oI
 have nK:=afX.1 (hperm.nodup xZ.2)
 have hbad:∀b∈aP dP,b∈α.fo (ak 0):=fun b hb=>hperm.mem_iff.2 (afS _ hb)
 have BV:∀b∈aP dP,b∈blk α R0 (ak 0):=fun b hb=>by rw [GQ]; exact age _ (hbad b hb)
 have hno:∀b∈aP dP,¬Ow.mine (uG cx (aP dP)) w' b:=fun b hb hm=>by
  have hlt:=(K0.mine b (BV b hb)).1
  rcases hm.2 with h | ⟨j,yw,h1,h2⟩
  ·have:w.heap.size≤b:=by simpa [uG,hw0] using h
   omega
  ·obtain ⟨pi,_,rfl⟩:=kT h1
   have:=(af7.1 h2).2
   rw [aJ.2 hb] at this
   simp at this
 have hsame:∀b∈aP dP,hp w' b=hp w b:=fun b hb=>by
  have hlt:=(K0.mine b (BV b hb)).1
  have:=(@Rel.frame (gp fr iq h0 hs) _ _ _ _ _ _ H1).2.2.2.2.1 b (by simpa [uG,hw0] using hlt) (fun j yw h1 h2=>by
   obtain ⟨pi,_,rfl⟩:=kT h1
   have:=(af7.1 h2).2
   rw [aJ.2 hb] at this
   simp at this)
  simpa [uG,hw0] using this
 have hrow':∀q∈dP, @Ow fr (hp w') R0.own (fun _=>False) (.sl e kk) (tb q.1) [q.2.1] q.2.2:=fun q hq=>
  bq (fun _ h=>h.elim) (fun _ h=>h) (fun b hb=>hsame b (agt.2 ⟨q,hq,hb⟩)) (hrow q hq)
 obtain ⟨BO,r1,r2⟩:=Pe (fr:=fr) (cx:=cx) (gp fr iq h0 hs) rfl Kz hRR hL (fun q hq=>⟨hrow' q (hRs q hq),hid q (hRs q hq)⟩)
 have KI:∀b∈aP zu,b∈aP dP:=fun b hb=>by
  obtain ⟨q,hq,h⟩:=agt.1 hb
  exact agt.2 ⟨q,hRs q hq,h⟩
 have Cg:∀b∈aP ny,b∈aP dP:=fun b hb=>by
  obtain ⟨q,hq,h⟩:=agt.1 hb
  exact agt.2 ⟨q,Q3 q hq,h⟩
 have hsel:(aP zu++aP ny).Nodup:=by
  have:=zq nK.2.1 hnd (l:=zu++ny) (fun q hq=>(afZ.1 hq).elim (hRs q) (Q3 q)) hall
  have e:aP (zu++ny)=aP zu++aP ny:=by simp [aP]
  rwa [e] at this
 obtain ⟨hnR,hnP,Xe⟩:=afX.1 hsel
 have YQ:∀b∈F1,Ow.mine (uG cx (aP dP)) w' b:=@Rel.fl (gp fr iq h0 hs) _ _ _ _ _ _ H1
 have Sb:∀b∈(α.loc (ak 0)).1 :: dH.fo (ak 0),Ow.mine (uG cx (aP dP)) w' b:=fun b hb=>IE b (by rw [hblk1]; exact hb)
 have OE:∀b,Ow.mine (uG cx (aP dP)) w' b→Ow.mine cx w' b:=fun b hb=>⟨hb.1,hb.2.imp (fun h=>h) (fun ⟨j,yw,h1,h2⟩=>by
  obtain ⟨pi,h3,rfl⟩:=kT h1
  exact ⟨j,pi,h3,(af7.1 h2).1⟩)⟩
 have KD:∀b∈aP dP,Ow.mine cx w' b:=fun b hb=>by
  obtain ⟨m1,m2⟩:=K0.mine b (BV b hb)
  exact ⟨by omega,m2⟩
 have XH:BO.flatten.Nodup:=r2.nodup_iff.2 (afX.2 ⟨hfn,hnR,fun b hb c hc TW=>by subst TW; exact hno b (KI b hc) (YQ b (Iy b hb))⟩)
 have Xc:∀b∈BO.flatten,b∈bz.flatten∨b∈aP zu:=fun b hb=>afZ.1 (r2.mem_iff.1 hb)
 refine ⟨wU (α.loc (ak 0)) (dH.hdr (ak 0)) (dH.fo (ak 0)++aP ny),BO, ?_,r1 _ _ _,XH⟩
 have y9:∀{r R},aN (vB (kU R0.k y R0.own wt ht)) r R→r=ak 0∧R=kU R0.k y R0.own wt ht:=fun h=>nk h.1
 have DX:blk (wU (α.loc (ak 0)) (dH.hdr (ak 0)) (dH.fo (ak 0)++aP ny)) (kU R0.k y R0.own wt ht) (ak 0)=(α.loc (ak 0)).1 :: (dH.fo (ak 0)++aP ny):=rfl
 have GR:=Tx
 rw [hblk1] at GR
 have XG:=agp.1 GR
 have hf1:=@Rel.frame (gp fr iq h0 hs) _ _ _ _ _ _ H1
 have hfd1:=@Rel.iB (gp fr iq h0 hs) _ _ _ _ _ _ H1
 have uL:∀b o,dQ (wU (α.loc (ak 0)) (dH.hdr (ak 0)) (dH.fo (ak 0)++aP ny)) (kU R0.k y R0.own wt ht) (ak 0)=some (b,o)→α.loc (ak 0)=(b,o):=fun b o h=>agr h
 have Rj:R0.k.size=Q'.k.size:=hP.size.symm
 have OJ:∀j p ts v,cx.ptrs j p ts v→ak j=ak 0:=fun j p ts v h=>by
  obtain ⟨_,R,f1,_⟩:=H.rA j p ts v h
  refine agc fun e=>?_
  rw [kW _ e] at f1
  simp at f1
 have hdf:=@Rel.defs (gp fr iq h0 hs) _ _ _ _ _ _ H1
 have hsz0:=@Rel.sz (gp fr iq h0 hs) _ _ _ _ _ _ H1
 have hsz1:cx.nt≤a1.tmps.size:=hsz0
 have Ur:=@Rel.qb (gp fr iq h0 hs) _ _ _ _ _ _ H1
 refine ⟨hdf,hsz1, ?_, ?_,fun s=>trivial,fun s=>trivial, ?_, ?_, ?_, ?_,XH, ?_, ?_, ?_, ?_, ?_, ?_⟩
 ·intro j pi b o n hj hb
  obtain ⟨R,f1,f2,f3,f4⟩:=H.jT j pi b o n hj hb
  obtain ⟨e1,rfl⟩:=JA _ R f1
  rw [e1] at f3 ⊢
  exact ⟨_,⟨pW,rfl⟩,rfl,f3,f4⟩
 ·intro r R hr _
  obtain ⟨rfl,rfl⟩:=y9 hr
  exact ⟨j0,pi0,n0,p1,p2,p3⟩
 ·intro r R hr
  obtain ⟨rfl,rfl⟩:=y9 hr
  refine ⟨fun _=>?_,by show (dH.hdr (ak 0)).length=R0.k.size; rw [Nr,Rj],fun b o hb=>?_, ?_,fun b hb=>?_⟩
  ·have o1 : @Ow (gp fr iq h0 hs) (hp w') R0.own (fun _=>False) Q'.k Q'.x (dH.hdr (ak 0)) (dH.fo (ak 0)):=by
    have hk1:∀t∈Q'.k.tys,au t Q'.own=true:=fun t ht=>hQo t (by rw [←Va]; exact ht)
    have hk2:∀t∈Q'.k.tys,au t R0.own=true:=fun t ht=>hown' t (by rw [←Va]; exact ht)
    exact @fP (gp fr iq h0 hs) _ _ _ _ _ _ _ _ (dm hk2) (@Ay (gp fr iq h0 hs) _ _ _ _ _ _ _ _ (fun t ht=>by rw [hk1 t ht,hk2 t ht]) (Ty Uc))
   have o2:=EC (fr:=fr) (gp fr iq h0 hs) hown hP o1 (fun q hq=>⟨hrow' q (Q3 q hq),hid q (Q3 q hq)⟩)
   exact fP (dm hown) o2
  ·have hbo:=uL b o hb
   obtain ⟨m1,arr,e',lo,hi,m2,m3,m4,m5⟩:=Wt b o (by unfold dQ; rw [q2]; simp [q3,hbo])
   exact ⟨m1,arr,e',lo,hi,m2,m3,by show o+R0.k.size≤_; rw [Rj]; exact m4,fun t ht=>by simp [kU] at ht⟩
  ·rw [DX]
   refine agp.2 ⟨fun h=>?_,afX.2 ⟨XG.2,hnP,fun b hb c hc TW=>by subst TW; exact hno b (Cg b hc) (Sb b (age _ hb))⟩⟩
   rcases afZ.1 h with h | h
   ·exact XG.1 h
   ·exact hno _ (Cg _ h) (Sb _ agn)
  ·rw [DX] at hb
   rcases af2.1 hb with h | h
   ·exact OE b (Sb b (by rw [h]; exact agn))
   ·rcases afZ.1 h with h | h
    ·exact OE b (Sb b (age _ h))
    ·exact KD b (Cg b h)
 ·intro r R hr
  obtain ⟨rfl,rfl⟩:=nk hr
  exact ⟨fun t ht=>by simp [kU] at ht,lG 0,fun n hn=>by simp [kU] at hn⟩
 ·intro r R r' R' hr hr' hne
  exact absurd ((y9 hr).1.trans (y9 hr').1.symm) hne
 ·intro b hb
  rcases Xc b hb with h | h
  ·exact OE b (YQ b (Iy b h))
  ·exact KD b (KI b h)
 ·intro r R hr b hb Ah
  obtain ⟨rfl,rfl⟩:=y9 hr
  rw [DX] at hb
  have hc1:b∈(α.loc (ak 0)).1 :: dH.fo (ak 0)∨b∈aP ny:=by
   rcases af2.1 hb with h | h
   ·exact .inl (by rw [h]; exact agn)
   ·exact (afZ.1 h).imp (fun h=>age _ h) id
  rcases hc1 with h | h
  ·rcases Xc b Ah with g | g
   ·exact hfd1 _ Q' hlv1 b (by rw [hblk1]; exact h) (Iy b g)
   ·exact hno b (KI b g) (Sb b h)
  ·rcases Xc b Ah with g | g
   ·exact hno b (Cg b h) (YQ b (Iy b g))
   ·exact Xe b g b h rfl
 ·obtain ⟨f1,f2,f3,f4,f5,f6⟩:=hf1
  refine ⟨f1,f2,f3,f4,fun b hb hnb=>f5 b hb (fun j yw h1 h2=>?_),fun j pi b o n hj hb=>?_⟩
  ·obtain ⟨pi,h3,rfl⟩:=kT h1
   exact hnb j pi h3 (af7.1 h2).1
  ·exact f6 j { pi with bl:=pi.bl.filter fun b=>!au b (aP dP) } b o n (by simp [uG,hj]) hb
 ·intro j pi hj hkp
  obtain ⟨R,f1,_⟩:=H.qb j pi hj hkp
  have ej:ak j=ak 0:=agc fun ne=>by rw [kW _ ne] at f1; simp at f1
  refine ⟨kU R0.k y R0.own wt ht,by rw [ej]; exact pW,fun _ b hb hnb=>?_⟩
  have hone:∀q Q,aN (vB (kU R0.k y R0.own wt ht)) q Q→b∈blk (wU (α.loc (ak 0)) (dH.hdr (ak 0)) (dH.fo (ak 0)++aP ny)) Q q→q=ak j:=fun q Q hq _=>by rw [(y9 hq).1,ej]
  by_cases hbt:b∈aP dP
  ·by_cases hbR:b∈aP zu
   ·obtain ⟨q,hq,h⟩:=agt.1 hbR
    obtain ⟨t,t1,_,t3⟩:=pU (hrow q (hRs q hq)) b h
    exact .inl ⟨t,by rw [hw0]; exact t3, .inl (hwk t t1)⟩
   ·refine .inr ⟨by rw [hw0]; exact hsame b hbt,fun hF=>?_,hone⟩
    rcases Xc b hF with g | g
    ·exact hno b hbt (YQ b (Iy b g))
    ·exact hbR g
  ·obtain ⟨R1,k1,k2⟩:=Ur j { pi with bl:=pi.bl.filter fun b=>!au b (aP dP) } (by simp [uG,hj]) hkp
   have eR:R1=Q':=by rw [ej,hQ] at k1; exact (agr k1).symm
   subst eR
   rcases k2 Uc.1 b (af7.2 ⟨hb,by rw [aS.2 hbt]; rfl⟩) (fun h=>hnb (Bv.1 h)) with ⟨t,t1,t2⟩ | ⟨t1,t2,_⟩
   ·exact .inl ⟨t,t1, .inl (t2.elim (je.1 hwt.1 t) (je.1 hwt.2 t))⟩
   ·refine .inr ⟨t1,fun hF=>?_,hone⟩
    rcases Xc b hF with g | g
    ·exact t2 (Iy b g)
    ·exact hbt (KI b g)
 ·refine ⟨fun j pi hj b hb=>H.lK.1 j pi hj b hb,fun b hb=>H.lK.2.1 b hb,fun b hb=>H.lK.2.2 b hb⟩
 ·intro j p ts v hv
  have ej:=OJ j p ts v hv
  obtain ⟨g1,R,f1,f2⟩:=H.rA j p ts v hv
  obtain ⟨k0,rfl⟩:=za j p ts v hv
  refine ⟨g1,kU R0.k y R0.own wt ht,by rw [ej]; exact pW,fun hts=>?_⟩
  cases p with
  | cons s p=>exact absurd Oy (hts mY (by simp [dS]))
  | nil=>
   refine ⟨g1,fun R' hR' _ _ _ _=>?_⟩
   rw [ej] at hR'
   obtain ⟨_,rfl⟩:=nk hR'
   obtain ⟨_,cs,b,o,hn,ev⟩:=(f2 (fun t ht=>by simp [dS] at ht)).2 R0 (by rw [ej]; exact hR0.1) hv0 (by unfold dS clean; simp [au]) (fun t ht=>by simp [aa] at ht) rfl
   rw [ej] at hn
   simp only [bE,afQ,af1] at hn
   refine ⟨trivial,dH.hdr (ak 0),b,o, ?_,ev⟩
   have h2:=hn.2
   unfold dQ at h2
   rw [hpar] at h2
   rw [ej]
   simp only [bE]
   exact congrArg (fun z=>some (dH.hdr (ak 0),z)) h2
 ·intro j v hv
  obtain ⟨⟨R,f1⟩,f2⟩:=H.rC j v hv
  have ej:ak j=ak 0:=agc fun ne=>by rw [kW _ ne] at f1; simp at f1
  rw [ej] at f2
  have:=(f2 R0 hR0 hg0).1
  rw [hpar] at this
  simp at this
end
end
section
open Go
def fq:List fA→Bool
 | []=>true
 | .val k [] :: l=>xq k && fq l
 | .fn _ ks :: l=>ks.all xq && fq l
 | _=>false
section
variable [Fr]
theorem pg:∀{ps:List fA} {i:Nat} {c:Cont (kin ps)},fq ps=true→fU ps i c=[]
 | [],_,_,_=>rfl
 | .val k [] :: ps,i,c,h=>by
  simp only [fq,afW] at h
  exact pg (ps:=ps) (i:=i+1) (c:=c.2) h.2
 | .fn f ks :: ps,i,c,h=>by
  simp only [fq,afW] at h
  exact pg (ps:=ps) (i:=i+1) (c:=Cont.snd ks (kin ps) c) h.2
 | .val _ (_ :: _) :: _,_,_,h=>by simp [fq] at h
 | .ro _ :: _,_,_,h=>by simp [fq] at h
 | .rw _ _ _ _ :: _,_,_,h=>by simp [fq] at h
 | .jF _ _ _ :: _,_,_,h=>by simp [fq] at h
 | .own _ _ :: _,_,_,h=>by simp [fq] at h
 | .into _ _ :: _,_,_,h=>by simp [fq] at h
theorem Kw (i:Nat):∀{ks:List K} {c:Cont ks},ks.all xq=true→∀q∈jc.uA i ks c,xq q.2.1.1=true∧Jo q.2.2∧q.1=SENT
 | [],_,_,q,hq=>by simp [jc.uA] at hq
 | k :: ks,c,h,q,hq=>by
  simp only [List.all_cons,afW] at h
  simp only [jc.uA] at hq
  rcases af2.1 hq with rfl | hq
  ·exact ⟨h.1,fun t ht=>by simp only [af9] at ht; subst ht; exact iw i,rfl⟩
  ·exact Kw i h.2 q hq
theorem uQ:∀{ps:List fA} {i:Nat} {c:Cont (kin ps)},fq ps=true→∀s,xL (oo (jc ps i c) s)
 | [],_,_,_,s=>trivial
 | .val k [] :: ps,i,c,h,s=>by
  simp only [fq,afW] at h
  simp only [jc,oo]
  cases Nat.beq s i with
  | true=>
   refine ⟨h.1,fun t ht=>?_⟩
   cases hf:k.flat with
   | true=>rw [hf] at ht; simp at ht
   | false=>rw [hf] at ht; simp at ht; subst ht; exact iw i
  | false=>exact uQ (ps:=ps) (i:=i+1) (c:=c.2) h.2 s
 | .fn f ks :: ps,i,c,h,s=>by
  simp only [fq,afW] at h
  simp only [jc,oo]
  cases Nat.beq s i with
  | true=>exact Kw i h.1
  | false=>exact uQ (ps:=ps) (i:=i+1) (c:=Cont.snd ks (kin ps) c) h.2 s
 | .val _ (_ :: _) :: _,_,_,h,_=>by simp [fq] at h
 | .ro _ :: _,_,_,h,_=>by simp [fq] at h
 | .rw _ _ _ _ :: _,_,_,h,_=>by simp [fq] at h
 | .jF _ _ _ :: _,_,_,h,_=>by simp [fq] at h
 | .own _ _ :: _,_,_,h,_=>by simp [fq] at h
 | .into _ _ :: _,_,_,h,_=>by simp [fq] at h
theorem yA {σ:St}:∀{ps:List fA} {i:Nat} {c:Cont (jD ps)},fq ps=true→yO σ ps i c
 | [],_,_,_=>trivial
 | .val k [] :: ps,i,c,h=>by
  simp only [fq,afW] at h
  exact yA (ps:=ps) (i:=i+1) (c:=c) h.2
 | .fn f ks :: ps,i,c,h=>by
  simp only [fq,afW] at h
  exact yA (ps:=ps) (i:=i+1) (c:=c) h.2
 | .val _ (_ :: _) :: _,_,_,h=>by simp [fq] at h
 | .ro _ :: _,_,_,h=>by simp [fq] at h
 | .rw _ _ _ _ :: _,_,_,h=>by simp [fq] at h
 | .jF _ _ _ :: _,_,_,h=>by simp [fq] at h
 | .own _ _ :: _,_,_,h=>by simp [fq] at h
 | .into _ _ :: _,_,_,h=>by simp [fq] at h
theorem Kk {e:TypeId} {kk:K} {z:Bool} {tb:Nat→List (El kk)} {k k1 k2:K} {x:El k} {y1:El k1} {y2:El k2} {ns:List Nat} (ek:k1=k2) (ey:y2=ek▸y1) (h:Rw e kk z tb k k2 x y2 ns):Rw e kk z tb k k1 x y1 ns:=by
 subst ek
 simp only at ey
 subst ey
 exact h
end
theorem KQ [fr:Fr] {e:TypeId} {kk:K} {P:Program} {n:Nat} {f:FuncId} {k k':K} {ow wt ht oG ht':List TypeId} {rest:List fA} {rs rs':List ug}
  {F:Nat→Cont (kin (.rw k ow wt ht :: rest))→Option (Cont (gU rs++jD (.rw k ow wt ht :: rest)))} {F':Nat→Cont (kin (.rw k' ow oG ht' :: rest))→Option (Cont (gU rs'++jD (.rw k' ow oG ht' :: rest)))}
  (hrest:fq rest=true) (hown:∀t∈k.tys,au t ow=true) (hown':∀t∈k'.tys,au t ow=true) (Kz:∀t∈(K.sl e kk).tys,au t ow=true)
  (hE:∀fr:Fr, @aB fr P n ⟨f, .rw k' ow oG ht' :: rest,rs',F'⟩) (hwt:kD oG wt=true) (hwk:∀t∈(K.sl e kk).tys,t∈wt) (Oy:mY∈ht)
  (hF:∀c out,F n c=some out→∃(x':El k') (ns ms1 ms2:List Nat) (tb:Nat→List (El kk)) (out':Cont (gU rs'++jD (.rw k' ow oG ht' :: rest))),Rw e kk false tb k k' c.1 x' ns∧ns.Nodup∧0∉ns∧F' n (x',c.2)=some out'∧
   WQ e kk tb rs rs' (Cont.fst _ _ out) (Cont.fst _ _ out') ms1∧Rw e kk true tb k k' (Cont.snd _ _ out).1 (Cont.snd _ _ out').1 ms2∧(ms1++ms2).Nodup∧∀m∈ms1++ms2,m∈ns) :
  aB P n ⟨f, .rw k ow wt ht :: rest,rs,F⟩:=by
 intro c out hout cx α args w hnt hw hsz hP H
 obtain ⟨x',ns,ms1,ms2,tb,out',hR,hnd,hn0,hF',hRR,Xe,hmm,hsub⟩:=hF c out hout
 have ha:(k.tys.all fun t=>au t ow)=true:=af5.2 hown
 have ha':(k'.tys.all fun t=>au t ow)=true:=af5.2 hown'
 have wV:∀r,(bX (.rw k ow wt ht :: rest) c).roots r=bif Nat.beq r (ak 0) then some (aI k c.1 ow [] .par true) else none:=fun r=>by
  show fZ (fU (.rw k ow wt ht :: rest) 0 c) r=_
  simp only [fU,pg hrest,fZ,ha,cond_true]
 have hR0:aN (bX (.rw k ow wt ht :: rest) c) (ak 0) (aI k c.1 ow [] .par true):=⟨by rw [wV]; simp,rfl⟩
 have kW:∀r,r≠ak 0→(bX (.rw k ow wt ht :: rest) c).roots r=none:=fun r hr=>by
  rw [wV]
  have:Nat.beq r (ak 0)=false:=by
   cases hb:Nat.beq r (ak 0) with
   | true=>exact absurd (afU hb) hr
   | false=>rfl
  rw [this]; rfl
 have hsl:∀s,xL ((bX (.rw k ow wt ht :: rest) c).slots s):=fun s=>by
  show xL (oo (jc (.rw k ow wt ht :: rest) 0 c) s)
  simp only [jc,oo]
  cases Nat.beq s 0 with
  | true=>exact ⟨rfl,rfl,rfl⟩
  | false=>exact uQ hrest s
 obtain ⟨dP,dA,iq,i0,is,g1,g2,g3,g4,Oh⟩:=MB H hw hR0 kW rfl rfl hown (Kz e (by simp [K.tys])) hsl (k':=k') (x':=x') hR hnd hn0 hown'
 have hst:aj (bX (.rw k ow wt ht :: rest) c) (ak 0) { aI k c.1 ow [] .par true with k:=k',x:=x' }=bX (.rw k' ow oG ht' :: rest) (x',c.2):=by
  unfold aj bX
  congr 1
  funext r
  show upd (bX (.rw k ow wt ht :: rest) c).roots (ak 0) _ r=fZ (fU (.rw k' ow oG ht' :: rest) 0 (x',c.2)) r
  simp only [fU,pg hrest,fZ,ha',cond_true]
  unfold upd
  cases hb:Nat.beq r (ak 0) with
  | true=>rfl
  | false=>simp only [cond_false]; rw [wV,hb]; rfl
 rw [hst] at Oh
 have hP':yP (uG cx (aP dP)) (.rw k' ow oG ht' :: rest):=by
  refine ⟨fun j yw hj hkp=>?_,fun j p ts v h=>h.elim,fun j v h=>h.elim⟩
  obtain ⟨pi,hj',rfl⟩:=kT hj
  obtain ⟨k0,o1,o2,o3,h⟩:=hP.par j pi hj' hkp
  cases j with
  | zero=>exact ⟨k',ow,oG,ht', .inl rfl⟩
  | succ j=>exact ⟨k0,o1,o2,o3,by simpa using h⟩
 have h:=hE (gp fr iq i0 is) (x',c.2) out' hF' (uG cx (aP dP)) _ args w hnt hw hsz hP' Oh
 have hpost:∀v w', @Post (gp fr iq i0 is) (uG cx (aP dP)) (.rw k' ow oG ht' :: rest) rs' out' v w'→@Post fr cx (.rw k ow wt ht :: rest) rs out v w':=by
  rintro v w' ⟨σ1,dH,F1,a1,vs,bz,H1,rfl,hL,hfn,Iy,hOut,_⟩
  obtain ⟨Q,q1,q2,⟨ek,ey⟩,q4,q5,_⟩:=hOut
  have hRQ:=Kk ek ey Xe
  obtain ⟨zu,t1,t2⟩:=select (dP:=dP) (ns:=ms1) (fun m hm=>by rw [g1]; exact hsub m (afV _ hm))
  obtain ⟨ny,t3,t4⟩:=select (dP:=dP) (ns:=ms2) (fun m hm=>by rw [g1]; exact hsub m (afS _ hm))
  have sU:=q5
  unfold wM at sU
  simp only [afW] at sU
  obtain ⟨⟨⟨⟨l1,l2⟩,_⟩,_⟩,_⟩:=sU
  have htr:∀{l:List Nat},kD l oG=true→kD l wt=true:=fun hl=>je.2 fun t ht=>je.1 hwt t (je.1 hl t ht)
  obtain ⟨uS,BO,r1,r2,r3⟩:=Pd (fr:=fr) H hw hR0 kW rfl rfl ⟨rfl,rfl⟩ hown hown' Kz g2 (by rw [g1]; exact hnd) g3 g4 H1 q1 q2 ek (fun t ht=>by
    have:=af5.1 q4 t ht
    rw [hown' t ht] at this
    simpa using this) (wt:=wt) (ht:=ht) ⟨htr l1,htr l2⟩ hwk Oy (y:=(Cont.snd _ _ out).1) (ny:=ny) (by rw [t3]; exact hRQ) t4 (zu:=zu) t2 (by rw [t1]; exact hRR) hL hfn Iy
    (by rw [List.map_append,t1,t3]; exact hmm) (fun j p ts v h=>by obtain ⟨k0,_,h⟩:=hP.ptr j p ts v h; exact ⟨k0,h⟩)
  refine ⟨_,uS,BO.flatten,a1,vs,BO,r1,rfl,r2,r3,fun b hb=>hb,⟨_,pW,⟨rfl,rfl⟩,⟨rfl,rfl⟩, ?_, ?_, .inl ha⟩,yA hrest⟩
  ·exact af5.2 fun t _=>by simp [kU]; rfl
  ·unfold wM kU
   simp only [kD,List.all_nil,afW,af5]
   exact ⟨⟨⟨⟨fun x hx=>aJ.2 hx,trivial⟩,fun x hx=>aJ.2 hx⟩,fun x hx=>aJ.2 hx⟩,rfl⟩
 rcases h with ⟨h1,h2⟩ | ⟨v,w',h1,h2⟩
 ·refine .inl ⟨h1,h2.mono ?_⟩
  rintro e w' ⟨v,rfl,hv⟩
  exact ⟨v,rfl,hpost v w' hv⟩
 ·exact .inr ⟨v,w',h1,hpost v w' h2⟩
end
section
open Go
theorem AZ {e:TypeId} {kk:K} {z:Bool} {tb:Nat→List (El kk)} {k k':K} {t:TypeId} {C:Type} (hsz:k'.size=k.size) (l:List C) (f:C→El k) (g:C→El k') (q:C→List Nat)
  (h:∀c∈l,Rw e kk z tb k k' (f c) (g c) (q c)):Rw e kk z tb (.sl t k) (.sl t k') (l.map f) (l.map g) (l.map q).flatten:=by
 unfold Rw
 refine ⟨rfl,hsz,by simp,l.map q,by simp,rfl,fun i h1 h2=>?_⟩
 have hi:i<l.length:=by simpa using h1
 have:=h l[i] (agj hi)
 simpa [af3,hi] using this
theorem mq {C:Type} (xs:List C):((xs.zipIdx 1).map (·.2)).Nodup∧0∉(xs.zipIdx 1).map (·.2):=by
 rw [List.zipIdx_map_snd]
 exact ⟨List.nodup_range',by simp⟩
theorem yl {C:Type} (xs:List C):(xs.zipIdx 1).map (·.1)=xs:=List.zipIdx_map_fst ..
theorem Fx {C R:Type} {xs:List C} {m:C→R} {d:R} {x:C} {i:Nat} (h:(x,i)∈xs.zipIdx 1):((xs[i - 1]?).map m).getD d=m x∧i≠0:=by
 obtain ⟨h1,h2,h3⟩:=List.mem_zipIdx h
 have hi:i - 1<xs.length:=by omega
 exact ⟨by simp [hi,h3],by omega⟩
end
section
open Go
section
variable {e:TypeId} {kk:K} [fr:Fr]
variable {cx:Cx} {σ:St} {α:dI} {a:Act} {w:World}
def CY (cx:Cx) (bad:List Nat):Cx:={ uG cx bad with refs:=cx.refs }
theorem Gn {bad:List Nat} {σ':St} {α':dI} {F':List Nat}:∀{cs:List (TypeId×Dat×List Tag)} {vs:List Value},jB (uG cx bad) σ' α' F' w cs vs→jB (CY cx bad) σ' α' F' w cs vs
 | [],[],_=>trivial
 | _ :: _,_ :: _,h=>⟨h.1,Gn h.2⟩
 | [],_ :: _,h=>h.elim
 | _ :: _,[],h=>h.elim
theorem SI {bad:List Nat} {σ':St} {α':dI} {F':List Nat} {x:AV} {v:Value} (h:bH (uG cx bad) σ' α' F' w x v):bH (CY cx bad) σ' α' F' w x v:=by
 cases x with
 | fn f cs=>obtain ⟨vs,h1,h2⟩:=h; exact ⟨vs,h1,Gn h2⟩
 | _=>exact h
theorem NA {e1 e2:TypeId} {k1 k2:K} {v:Value} {cs:List Value} (h:VC (.sl e1 k1) v cs):VC (.sl e2 k2) v cs:=h
def jQ (k:K) (x:El k) (ow wt ht:List TypeId):Root:={ k,x,own:=ow,tags:=[],w:=wt,h:=ht,g:=0,kind:=.anon,fixed:=true,keep:=true,ew:=[],eh:=ht }
theorem JF (H:Rel cx σ α [] a w) (hw0:cx.w0=w) {R0:Root} {e1:TypeId} {k1:K} (hk0:R0.k=.sl e1 k1) (hR0:aN σ (ak 0) R0) (kW:∀r,r≠ak 0→σ.roots r=none) (wL:R0.kind=.anon) (om:R0.tags=[]) (hown:∀t∈R0.k.tys,au t R0.own=true) (he:au e R0.own=true)
  (hs0:σ.slots 0=.one (.ref (ak 0) 0)) (hsl:∀s,s≠0→xL (σ.slots s)) {e2:TypeId} {k2:K} {x':El (.sl e2 k2)} {tb:Nat→List (El kk)} {ns:List Nat} (hR:Rw e kk false tb R0.k (.sl e2 k2) R0.x x' ns) (hnd:ns.Nodup) (hn0:0∉ns) (hown':∀t∈(K.sl e2 k2).tys,au t R0.own=true) (hg0:R0.g=0) :
  ∃(dP:List Dz) (dA:List Nat) (iq:Nat→Value) (h0:iq 0=.slice none 0 0) (hs:∀i,∃a n c,iq i=.slice a n c),dP.map (·.1)=ns∧(α.fo (ak 0)).Perm (dA++aP dP)∧
   (∀q∈dP, @Ow fr (hp w) R0.own (fun _=>False) (.sl e kk) (tb q.1) [q.2.1] q.2.2)∧(∀q∈dP,iq q.1=q.2.1)∧
   @Rel (gp fr iq h0 hs) (CY cx (aP dP)) (aj σ (ak 0) { R0 with k:=.sl e2 k2,x:=x' }) (aG α (ak 0) (α.loc (ak 0)) (α.hdr (ak 0)) dA) [] a w:=by
 have KR:=H.roots _ R0 hR0
 have hv0:bn σ R0:=⟨hR0.2,by rw [om]; rfl⟩
 have hO:Ow (hp w) R0.own (fun _=>False) R0.k R0.x (α.hdr (ak 0)) (α.fo (ak 0)):=fP (dm hown) (KR.ow hv0)
 obtain ⟨dP,dA,g1,g2,g3,g4⟩:=F6 hown hR hO
 obtain ⟨iq,i1,i2,i3⟩:=JB (dP:=dP) (by rw [g1]; exact hnd) (by rw [g1]; exact hn0) (fun q hq=>K6 he (g3 q hq))
 refine ⟨dP,dA,iq,i1,i2,g1,g2,g3,i3, ?_⟩
 have hblk:blk α R0 (ak 0)=α.fo (ak 0):=by unfold blk dQ; rw [wL]; rfl
 have hsub:∀b∈dA,b∈α.fo (ak 0):=fun b hb=>g2.mem_iff.2 (afV _ hb)
 have hbad:∀b∈aP dP,b∈α.fo (ak 0):=fun b hb=>g2.mem_iff.2 (afS _ hb)
 have L:wH cx σ α R0 { R0 with k:=.sl e2 k2,x:=x' } dA (aP dP):=⟨fun r R hr=>by
  by_cases e:r=ak 0
  ·subst e; refine ⟨rfl, ?_⟩; have:=hr.1; rw [hR0.1] at this; exact (agr this).symm
  ·have:=hr.1; rw [kW r e] at this; simp at this,hR0,rfl,om,hsub,hbad⟩
 have oI:=KR.nd
 rw [hblk] at oI
 have nK:=afX.1 (g2.nodup oI)
 have hlv:∀{q Q},aN (aj σ (ak 0) { R0 with k:=.sl e2 k2,x:=x' }) q Q→q=ak 0∧Q={ R0 with k:=.sl e2 k2,x:=x' }:=fun {q Q} hq=>by
  rcases iQ hq with ⟨rfl,rfl,_⟩ | ⟨e,hq'⟩
  ·exact ⟨rfl,rfl⟩
  ·exact absurd (L.only q Q hq').1 e
 have hlv1:aN (aj σ (ak 0) { R0 with k:=.sl e2 k2,x:=x' }) (ak 0) { R0 with k:=.sl e2 k2,x:=x' }:=⟨aH ..,hR0.2⟩
 have hblk':blk (aG α (ak 0) (α.loc (ak 0)) (α.hdr (ak 0)) dA) { R0 with k:=.sl e2 k2,x:=x' } (ak 0)=dA:=by
  rw [dY]; unfold gQ; simp only [wL]; rfl
 have wE:∀v,bH cx σ α [] w (.ref (ak 0) 0) v→@bH (gp fr iq i1 i2) (CY cx (aP dP)) (aj σ (ak 0) { R0 with k:=.sl e2 k2,x:=x' }) (aG α (ak 0) (α.loc (ak 0)) (α.hdr (ak 0)) dA) [] w (.ref (ak 0) 0) v:=by
  intro v hv Q hQ _
  obtain ⟨_,rfl⟩:=hlv hQ
  obtain ⟨h1,h2⟩:=hv R0 hR0 hg0
  refine ⟨wL, ?_⟩
  rw [hk0] at h2
  simp only [aG,upd_same]
  exact NA h2
 have Ol:∀{x:sK} {v:Value},xL x→@iM fr cx σ α [] w x v→@iM (gp fr iq i1 i2) (CY cx (aP dP)) (aj σ (ak 0) { R0 with k:=.sl e2 k2,x:=x' }) (aG α (ak 0) (α.loc (ak 0)) (α.hdr (ak 0)) dA) [] w x v:=fun hx h=>by
  have h1:=wH.av (fr:=fr) (gp fr iq i1 i2) rfl L hx h
  rename_i x v
  cases x with
  | CV l=>exact hx.elim
  | lit _ _ _=>exact hx.elim
  | one x=>exact @SI (gp fr iq i1 i2) _ _ _ _ _ _ _ _ h1
 have iZ:∀b∈dA,Ow.mine (CY cx (aP dP)) w b:=fun b hb=>by
  obtain ⟨m1,m2⟩:=KR.mine b (by rw [hblk]; exact hsub b hb)
  refine ⟨m1, ?_⟩
  rcases m2 with m2 | ⟨j,pi,m2,m3⟩
  ·exact .inl m2
  ·refine .inr ⟨j,{ pi with bl:=pi.bl.filter fun b=>!au b (aP dP) },by simp [CY,uG,m2],af7.2 ⟨m3, ?_⟩⟩
   have:au b (aP dP)=false:=by
    rw [aS]
    intro hm
    exact nK.2.2 b hb b hm rfl
   rw [this]; rfl
 have Dj:∀{j:Nat} {yw:Li},(CY cx (aP dP)).par j=some yw→∃pi,cx.par j=some pi∧yw={ pi with bl:=pi.bl.filter fun b=>!au b (aP dP) }:=fun h=>kT (cx:=cx) h
 have hpl:=H.lK
 refine @Rel.mk (gp fr iq i1 i2) _ _ _ _ _ _ H.defs H.sz ?_ ?_ ?_ ?_ ?_ ?_ ?_ (fun b hb=>by simp at hb) List.nodup_nil (fun r R hr b hb h=>by simp at h) ?_ ?_ ?_ (fun j p ts v h=>h.elim) ?_
 ·intro j yw b o n hj hb
  obtain ⟨pi,hj',rfl⟩:=Dj hj
  obtain ⟨R,f1,f2,_⟩:=H.jT j pi b o n hj' hb
  obtain ⟨_,rfl⟩:=L.only _ R f1
  rw [wL] at f2
  simp at f2
 ·intro r R hr hk
  obtain ⟨rfl,rfl⟩:=hlv hr
  have hk:R0.kind=.par:=hk
  rw [wL] at hk
  simp at hk
 ·intro s
  show @iM (gp fr iq i1 i2) _ _ _ _ _ (σ.slots s) _
  by_cases h0:s=0
  ·subst h0
   have:=H.slots 0
   rw [hs0] at this ⊢
   exact wE _ this
  ·exact Ol (hsl s h0) (H.slots s)
 ·intro s
  show sO _ (σ.slots s)
  by_cases h0:s=0
  ·subst h0
   rw [hs0]
   exact ⟨_,aH .., .inr (agq _)⟩
  have hs:=hsl s h0
  cases hx:σ.slots s with
  | CV l=>rw [hx] at hs; exact hs.elim
  | lit _ _ _=>rw [hx] at hs; exact hs.elim
  | one x=>
   rw [hx] at hs
   cases x with
   | undef=>trivial
   | ptr r p n=>obtain ⟨rfl,rfl,rfl⟩:=hs; exact ⟨_,aH .., .inr (agq _)⟩
   | val k x T=>exact fun t ht=>.inl (hs.2 t ht)
   | fn f cs=>exact fun c hc t ht=>.inl ((hs c hc).2.1 t ht)
   | _=>exact hs.elim
 ·intro r R hr
  obtain ⟨rfl,rfl⟩:=hlv hr
  refine @qm.mk (gp fr iq i1 i2) _ _ _ _ _ _ _ (fun _=>?_) ?_ ?_ ?_ ?_
  ·have e1:(aG α (ak 0) (α.loc (ak 0)) (α.hdr (ak 0)) dA).hdr (ak 0)=α.hdr (ak 0):=by simp [aG,upd_same]
   have e2:(aG α (ak 0) (α.loc (ak 0)) (α.hdr (ak 0)) dA).fo (ak 0)=dA:=by simp [aG,upd_same]
   rw [e1,e2]
   exact @fP (gp fr iq i1 i2) _ _ _ _ _ _ _ _ (dm hown') (g4 (gp fr iq i1 i2) rfl i3)
  ·show ((aG α (ak 0) (α.loc (ak 0)) (α.hdr (ak 0)) dA).hdr (ak 0)).length=(K.sl e2 k2).size
   rw [hR.size]
   simpa [aG,upd_same] using KR.len
  ·intro b o hb
   rw [L.wh] at hb
   unfold dQ at hb
   rw [wL] at hb
   simp at hb
  ·rw [hblk']
   exact nK.1
  ·intro b hb
   rw [hblk'] at hb
   exact iZ b hb
 ·intro r R hr
  by_cases e:r=ak 0
  ·subst e
   rw [aH] at hr
   have hr:=agr hr
   subst hr
   exact ⟨fun t ht=>by rw [show ({ R0 with k:=.sl e2 k2,x:=x' }:Root).tags=R0.tags from rfl,om] at ht; simp at ht,lG 0,fun n hn=>by rw [show ({ R0 with k:=.sl e2 k2,x:=x' }:Root).tags=R0.tags from rfl,om] at hn; simp at hn⟩
  ·rw [bU _ _ e,kW r e] at hr; simp at hr
 ·intro r R r' R' hr hr' hne
  exact absurd ((hlv hr).1.trans (hlv hr').1.symm) hne
 ·obtain ⟨f1,f2,f3,f4,f5,f6⟩:=H.frame
  refine ⟨f1,f2,f3,f4,fun b _ _=>by show hp w b=hp cx.w0 b; rw [hw0],fun j yw b o n hj hb=>?_⟩
  obtain ⟨pi,hj',rfl⟩:=Dj hj
  exact f6 j pi b o n hj' hb
 ·intro j yw hj hkp
  obtain ⟨pi,hj',rfl⟩:=Dj hj
  obtain ⟨R,f1,f2⟩:=H.qb j pi hj' hkp
  by_cases e:ak j=ak 0
  ·refine ⟨_,by rw [e]; exact aH ..,fun _ b hb hnb=>.inr ⟨by show hp w b=hp cx.w0 b; rw [hw0],by simp,fun q Q hq _=>by rw [(hlv hq).1,e]⟩⟩
  ·rw [kW _ e] at f1; simp at f1
 ·refine ⟨fun j yw hj b hb=>?_,fun b hb=>⟨?_,fun j yw hj hbl=>?_⟩,fun b hb=>hpl.2.2 b hb⟩
  ·obtain ⟨pi,hj',rfl⟩:=Dj hj
   exact hpl.1 j pi hj' b (af7.1 hb).1
  ·exact (hpl.2.1 b hb).1
  ·obtain ⟨pi,hj',rfl⟩:=Dj hj
   exact (hpl.2.1 b hb).2 j pi hj' (af7.1 hbl).1
 ·intro j v hv
  have hv:cx.refs j v:=hv
  obtain ⟨⟨R,f1⟩,f2⟩:=H.rC j v hv
  have ej:ak j=ak 0:=agc fun ne=>by rw [kW _ ne] at f1; simp at f1
  rw [ej] at f2 ⊢
  exact ⟨⟨_,aH ..⟩,wE v f2⟩
theorem Mx (H:Rel cx σ α [] a w) (hw0:cx.w0=w) {R0:Root} {e1:TypeId} {k1:K} (hk0:R0.k=.sl e1 k1) (hR0:aN σ (ak 0) R0) (kW:∀r,r≠ak 0→σ.roots r=none) (wL:R0.kind=.anon) (hg0:R0.g=0) (hv0:bn σ R0)
  (hown:∀t∈R0.k.tys,au t R0.own=true) {e2:TypeId} {k2:K} (hown':∀t∈(K.sl e2 k2).tys,au t R0.own=true) (Kz:∀t∈(K.sl e kk).tys,au t R0.own=true)
  {tb:Nat→List (El kk)} {dP:List Dz} {dA:List Nat} {iq:Nat→Value} {h0:iq 0=.slice none 0 0} {hs:∀i,∃a n c,iq i=.slice a n c}
  (hperm:(α.fo (ak 0)).Perm (dA++aP dP)) (hnd:(dP.map (·.1)).Nodup) (hrow:∀q∈dP, @Ow fr (hp w) R0.own (fun _=>False) (.sl e kk) (tb q.1) [q.2.1] q.2.2) (hid:∀q∈dP,iq q.1=q.2.1)
  {σ1:St} {dH:dI} {F1:List Nat} {a1:Act} {w':World} (H1 : @Rel (gp fr iq h0 hs) (CY cx (aP dP)) σ1 dH F1 a1 w') {Q:Root} (hQ:σ1.roots (ak 0)=some Q) (Uc:bn σ1 Q) (Va:Q.k=.sl e2 k2) (hQo:∀t∈(K.sl e2 k2).tys,au t Q.own=true) (hQn:Q.kind=.anon) (hQg:Q.g=0)
  {wt:List TypeId} (hwt:kD Q.w wt=true∧kD Q.ew wt=true)
  {y:El R0.k} {ny:List Dz} (hP:Rw e kk true tb R0.k Q.k y Q.x (ny.map (·.1))) (Q3:∀q∈ny,q∈dP) (hall:(ny.map (·.1)).Nodup)
  (za:∀j p ts v,cx.ptrs j p ts v→j=0→ts=dS p R0.k) :
  Rel cx (vB (jQ R0.k y R0.own wt R0.k.tys)) (wU (α.loc (ak 0)) (dH.hdr (ak 0)) (dH.fo (ak 0)++aP ny)) [] a1 w':=by
 have K0:=H.roots _ R0 hR0
 have hlv1:aN σ1 (ak 0) Q:=⟨hQ,Uc.1⟩
 have K1:=@Rel.roots (gp fr iq h0 hs) _ _ _ _ _ _ H1 _ Q hlv1
 have Ty:=@qm.ow (gp fr iq h0 hs) _ _ _ _ _ _ _ K1
 have Nr:=@qm.len (gp fr iq h0 hs) _ _ _ _ _ _ _ K1
 have Tx:=@qm.nd (gp fr iq h0 hs) _ _ _ _ _ _ _ K1
 have IE:=@qm.mine (gp fr iq h0 hs) _ _ _ _ _ _ _ K1
 have JA:∀r R,aN σ r R→r=ak 0∧R=R0:=fun r R hr=>by
  by_cases e:r=ak 0
  ·subst e; refine ⟨rfl, ?_⟩; have:=hr.1; rw [hR0.1] at this; exact (agr this).symm
  ·have:=hr.1; rw [kW r e] at this; simp at this
 have GQ:blk α R0 (ak 0)=α.fo (ak 0):=by unfold blk dQ; rw [wL]; rfl
 have hblk1:blk dH Q (ak 0)=dH.fo (ak 0):=by unfold blk dQ; rw [hQn]; rfl
 have hsize:w.heap.size≤w'.heap.size:=by have:=(@Rel.frame (gp fr iq h0 hs) _ _ _ _ _ _ H1).2.2.2.1; simpa [CY,uG,hw0] using this
 have oI:=K0.nd
 rw [GQ] at oI
 have nK:=afX.1 (hperm.nodup oI)
 have hbad:∀b∈aP dP,b∈α.fo (ak 0):=fun b hb=>hperm.mem_iff.2 (afS _ hb)
 have BV:∀b∈aP dP,b∈blk α R0 (ak 0):=fun b hb=>by rw [GQ]; exact hbad b hb
 have Dj:∀{j:Nat} {yw:Li},(CY cx (aP dP)).par j=some yw→∃pi,cx.par j=some pi∧yw={ pi with bl:=pi.bl.filter fun b=>!au b (aP dP) }:=fun h=>kT (cx:=cx) h
 have hno:∀b∈aP dP,¬Ow.mine (CY cx (aP dP)) w' b:=fun b hb hm=>by
  have hlt:=(K0.mine b (BV b hb)).1
  rcases hm.2 with h | ⟨j,yw,h1,h2⟩
  ·have:w.heap.size≤b:=by simpa [CY,uG,hw0] using h
   omega
  ·obtain ⟨pi,_,rfl⟩:=Dj h1
   have:=(af7.1 h2).2
   rw [aJ.2 hb] at this
   simp at this
 have hsame:∀b∈aP dP,hp w' b=hp w b:=fun b hb=>by
  have hlt:=(K0.mine b (BV b hb)).1
  have:=(@Rel.frame (gp fr iq h0 hs) _ _ _ _ _ _ H1).2.2.2.2.1 b (by simpa [CY,uG,hw0] using hlt) (fun j yw h1 h2=>by
   obtain ⟨pi,_,rfl⟩:=Dj h1
   have:=(af7.1 h2).2
   rw [aJ.2 hb] at this
   simp at this)
  simpa [CY,uG,hw0] using this
 have hrow':∀q∈dP, @Ow fr (hp w') R0.own (fun _=>False) (.sl e kk) (tb q.1) [q.2.1] q.2.2:=fun q hq=>
  bq (fun _ h=>h.elim) (fun _ h=>h) (fun b hb=>hsame b (agt.2 ⟨q,hq,hb⟩)) (hrow q hq)
 have Cg:∀b∈aP ny,b∈aP dP:=fun b hb=>by
  obtain ⟨q,hq,h⟩:=agt.1 hb
  exact agt.2 ⟨q,Q3 q hq,h⟩
 have hnP:(aP ny).Nodup:=zq nK.2.1 hnd (l:=ny) Q3 hall
 have Sb:∀b∈dH.fo (ak 0),Ow.mine (CY cx (aP dP)) w' b:=fun b hb=>IE b (by rw [hblk1]; exact hb)
 have OE:∀b,Ow.mine (CY cx (aP dP)) w' b→Ow.mine cx w' b:=fun b hb=>⟨hb.1,hb.2.imp (fun h=>h) (fun ⟨j,yw,h1,h2⟩=>by
  obtain ⟨pi,h3,rfl⟩:=Dj h1
  exact ⟨j,pi,h3,(af7.1 h2).1⟩)⟩
 have KD:∀b∈aP dP,Ow.mine cx w' b:=fun b hb=>by
  obtain ⟨m1,m2⟩:=K0.mine b (BV b hb)
  exact ⟨by omega,m2⟩
 have y9:∀{r R},aN (vB (jQ R0.k y R0.own wt R0.k.tys)) r R→r=ak 0∧R=jQ R0.k y R0.own wt R0.k.tys:=fun h=>nk h.1
 have DX:blk (wU (α.loc (ak 0)) (dH.hdr (ak 0)) (dH.fo (ak 0)++aP ny)) (jQ R0.k y R0.own wt R0.k.tys) (ak 0)=dH.fo (ak 0)++aP ny:=rfl
 have GR:=Tx
 rw [hblk1] at GR
 have hf1:=@Rel.frame (gp fr iq h0 hs) _ _ _ _ _ _ H1
 have Rj:R0.k.size=Q.k.size:=hP.size.symm
 have OJ:∀j p ts v,cx.ptrs j p ts v→ak j=ak 0:=fun j p ts v h=>by
  obtain ⟨_,R,f1,_⟩:=H.rA j p ts v h
  refine agc fun e=>?_
  rw [kW _ e] at f1
  simp at f1
 have hdf:=@Rel.defs (gp fr iq h0 hs) _ _ _ _ _ _ H1
 have hsz0:=@Rel.sz (gp fr iq h0 hs) _ _ _ _ _ _ H1
 have hsz1:cx.nt≤a1.tmps.size:=hsz0
 have Ur:=@Rel.qb (gp fr iq h0 hs) _ _ _ _ _ _ H1
 have acw:=@Rel.rC (gp fr iq h0 hs) _ _ _ _ _ _ H1
 refine ⟨hdf,hsz1, ?_, ?_,fun s=>trivial,fun s=>trivial, ?_, ?_, ?_,fun b hb=>by simp at hb,List.nodup_nil,fun r R hr b hb h=>by simp at h, ?_, ?_, ?_, ?_, ?_⟩
 ·intro j pi b o n hj hb
  obtain ⟨R,f1,f2,_⟩:=H.jT j pi b o n hj hb
  obtain ⟨_,rfl⟩:=JA _ R f1
  rw [wL] at f2
  simp at f2
 ·intro r R hr hk
  obtain ⟨rfl,rfl⟩:=y9 hr
  simp [jQ] at hk
 ·intro r R hr
  obtain ⟨rfl,rfl⟩:=y9 hr
  refine ⟨fun _=>?_,by show (dH.hdr (ak 0)).length=R0.k.size; rw [Nr,Rj],fun b o hb=>by simp [dQ,jQ] at hb, ?_,fun b hb=>?_⟩
  ·have o1 : @Ow (gp fr iq h0 hs) (hp w') R0.own (fun _=>False) Q.k Q.x (dH.hdr (ak 0)) (dH.fo (ak 0)):=by
    have hk1:∀t∈Q.k.tys,au t Q.own=true:=fun t ht=>hQo t (by rw [←Va]; exact ht)
    have hk2:∀t∈Q.k.tys,au t R0.own=true:=fun t ht=>hown' t (by rw [←Va]; exact ht)
    exact @fP (gp fr iq h0 hs) _ _ _ _ _ _ _ _ (dm hk2) (@Ay (gp fr iq h0 hs) _ _ _ _ _ _ _ _ (fun t ht=>by rw [hk1 t ht,hk2 t ht]) (Ty Uc))
   have o2:=EC (fr:=fr) (gp fr iq h0 hs) hown hP o1 (fun q hq=>⟨hrow' q (Q3 q hq),hid q (Q3 q hq)⟩)
   exact fP (dm hown) o2
  ·rw [DX]
   exact afX.2 ⟨GR,hnP,fun b hb c hc TW=>by subst TW; exact hno b (Cg b hc) (Sb b hb)⟩
  ·rw [DX] at hb
   rcases afZ.1 hb with h | h
   ·exact OE b (Sb b h)
   ·exact KD b (Cg b h)
 ·intro r R hr
  obtain ⟨rfl,rfl⟩:=nk hr
  exact ⟨fun t ht=>by simp [jQ] at ht,lG 0,fun n hn=>by simp [jQ] at hn⟩
 ·intro r R r' R' hr hr' hne
  exact absurd ((y9 hr).1.trans (y9 hr').1.symm) hne
 ·obtain ⟨f1,f2,f3,f4,f5,f6⟩:=hf1
  refine ⟨f1,f2,f3,f4,fun b hb hnb=>f5 b hb (fun j yw h1 h2=>?_),fun j pi b o n hj hb=>?_⟩
  ·obtain ⟨pi,h3,rfl⟩:=Dj h1
   exact hnb j pi h3 (af7.1 h2).1
  ·exact f6 j { pi with bl:=pi.bl.filter fun b=>!au b (aP dP) } b o n (by simp [CY,uG,hj]) hb
 ·intro j pi hj hkp
  obtain ⟨R,f1,_⟩:=H.qb j pi hj hkp
  have ej:ak j=ak 0:=agc fun ne=>by rw [kW _ ne] at f1; simp at f1
  refine ⟨jQ R0.k y R0.own wt R0.k.tys,by rw [ej]; exact pW,fun _ b hb hnb=>?_⟩
  have hone:∀q Q,aN (vB (jQ R0.k y R0.own wt R0.k.tys)) q Q→b∈blk (wU (α.loc (ak 0)) (dH.hdr (ak 0)) (dH.fo (ak 0)++aP ny)) Q q→q=ak j:=fun q Q hq _=>by rw [(y9 hq).1,ej]
  by_cases hbt:b∈aP dP
  ·exact .inr ⟨by rw [hw0]; exact hsame b hbt,by simp,hone⟩
  ·obtain ⟨R1,q1,q2⟩:=Ur j { pi with bl:=pi.bl.filter fun b=>!au b (aP dP) } (by simp [CY,uG,hj]) hkp
   have eR:R1=Q:=by rw [ej,hQ] at q1; exact (agr q1).symm
   subst eR
   rcases q2 Uc.1 b (af7.2 ⟨hb,by rw [aS.2 hbt]; rfl⟩) (fun h=>hnb (Bv.1 h)) with ⟨t,t1,t2⟩ | ⟨t1,t2,_⟩
   ·exact .inl ⟨t,t1, .inl (t2.elim (je.1 hwt.1 t) (je.1 hwt.2 t))⟩
   ·exact .inr ⟨t1,by simp,hone⟩
 ·refine ⟨fun j pi hj b hb=>H.lK.1 j pi hj b hb,fun b hb=>H.lK.2.1 b hb,fun b hb=>H.lK.2.2 b hb⟩
 ·intro j p ts v hv
  have ej:=OJ j p ts v hv
  have ej0:j=0:=by unfold ak at ej; omega
  obtain ⟨g1,R,f1,f2⟩:=H.rA j p ts v hv
  have hts:=za j p ts v hv ej0
  refine ⟨g1,jQ R0.k y R0.own wt R0.k.tys,by rw [ej]; exact pW,fun hno'=>?_⟩
  refine ⟨g1,fun R' hR' _ _ _ hsome=>?_⟩
  rw [ej] at hR'
  obtain ⟨_,rfl⟩:=nk hR'
  have hsome:(aO p R0.k y).isSome=true:=hsome
  cases p with
  | nil=>
   have hRR:R=R0:=by rw [ej,hR0.1] at f1; exact (agr f1).symm
   obtain ⟨_,cs,b,o,hn,ev⟩:=(f2 (fun t ht=>by rw [hts] at ht; simp [dS] at ht)).2 R0 (by rw [ej]; exact hR0.1) hv0 (by unfold dS clean; simp [au]) (fun t ht=>by simp [aa] at ht) rfl
   rw [ej] at hn
   simp only [bE,afQ,af1] at hn
   have h2:=hn.2
   unfold dQ at h2
   rw [wL] at h2
   simp at h2
  | cons s p=>
   cases s with
   | fD m=>
    rw [hk0] at hts
    have:aO (.fD m :: p) R0.k y=none:=by
     have hg:∀(k:K) (z:El k),k=.sl e1 k1→aO (.fD m :: p) k z=none:=by
      intro k z hk; subst hk; rfl
     exact hg _ y hk0
    rw [this] at hsome; simp at hsome
   | idx i=>
    exfalso
    refine hno' e1 ?_ ?_
    ·rw [hts,hk0]; simp [dS,aa]
    ·show e1∈R0.k.tys
     rw [hk0]; simp [K.tys]
 ·intro j v hv
  obtain ⟨⟨R,f1⟩,f2⟩:=H.rC j v hv
  have ej:ak j=ak 0:=agc fun ne=>by rw [kW _ ne] at f1; simp at f1
  obtain ⟨_,q2⟩:=acw j v hv
  rw [ej] at q2 ⊢
  refine ⟨⟨_,pW⟩,fun R' hR' _=>?_⟩
  obtain ⟨_,rfl⟩:=y9 hR'
  obtain ⟨z1,z2⟩:=q2 Q hlv1 hQg
  refine ⟨rfl, ?_⟩
  show VC R0.k v (dH.hdr (ak 0))
  rw [hk0]
  rw [Va] at z2
  exact NA z2
end
theorem Pb [fr:Fr] {e e1 e2:TypeId} {kk k1 k2:K} {P:Program} {n:Nat} {f:FuncId} {ow wt oG:List TypeId} {rest:List fA}
  {F:Nat→Cont (kin (.jF (.sl e1 k1) ow wt :: rest))→Option (Cont (gU [.into 0 []]++jD (.jF (.sl e1 k1) ow wt :: rest)))} {F':Nat→Cont (kin (.jF (.sl e2 k2) ow oG :: rest))→Option (Cont (gU [.into 0 []]++jD (.jF (.sl e2 k2) ow oG :: rest)))}
  (hrest:fq rest=true) (hown:∀t∈(K.sl e1 k1).tys,au t ow=true) (hown':∀t∈(K.sl e2 k2).tys,au t ow=true) (Kz:∀t∈(K.sl e kk).tys,au t ow=true)
  (hE:∀fr:Fr, @aB fr P n ⟨f, .jF (.sl e2 k2) ow oG :: rest,[.into 0 []],F'⟩) (hwt:kD oG wt=true)
  (hF:∀c out,F n c=some out→∃(x':El (.sl e2 k2)) (ns ms:List Nat) (tb:Nat→List (El kk)) (out':Cont (gU [.into 0 []]++jD (.jF (.sl e2 k2) ow oG :: rest))),Rw e kk false tb (.sl e1 k1) (.sl e2 k2) c.1 x' ns∧ns.Nodup∧0∉ns∧F' n (x',c.2)=some out'∧
   (show Int from out.1)=(show Int from out'.1)∧Rw e kk true tb (.sl e1 k1) (.sl e2 k2) out.2.1 out'.2.1 ms∧ms.Nodup∧∀m∈ms,m∈ns) :
  aB P n ⟨f, .jF (.sl e1 k1) ow wt :: rest,[.into 0 []],F⟩:=by
 intro c out hout cx α args w hnt hw hsz hP H
 obtain ⟨x',ns,ms,tb,out',hR,hnd,hn0,hF',hRI,Xe,hmm,hsub⟩:=hF c out hout
 have ha:((K.sl e1 k1).tys.all fun t=>au t ow)=true:=af5.2 hown
 have ha':((K.sl e2 k2).tys.all fun t=>au t ow)=true:=af5.2 hown'
 have wV:∀r,(bX (.jF (.sl e1 k1) ow wt :: rest) c).roots r=bif Nat.beq r (ak 0) then some { aI (.sl e1 k1) c.1 ow [] .anon true with fixed:=true } else none:=fun r=>by
  show fZ (fU (.jF (.sl e1 k1) ow wt :: rest) 0 c) r=_
  simp only [fU,pg hrest,fZ,ha,cond_true]
  rfl
 have hR0:aN (bX (.jF (.sl e1 k1) ow wt :: rest) c) (ak 0) { aI (.sl e1 k1) c.1 ow [] .anon true with fixed:=true }:=⟨by rw [wV]; simp,rfl⟩
 have kW:∀r,r≠ak 0→(bX (.jF (.sl e1 k1) ow wt :: rest) c).roots r=none:=fun r hr=>by
  rw [wV]
  have:Nat.beq r (ak 0)=false:=by
   cases hb:Nat.beq r (ak 0) with
   | true=>exact absurd (afU hb) hr
   | false=>rfl
  rw [this]; rfl
 have hs0:(bX (.jF (.sl e1 k1) ow wt :: rest) c).slots 0=.one (.ref (ak 0) 0):=rfl
 have hsl:∀s,s≠0→xL ((bX (.jF (.sl e1 k1) ow wt :: rest) c).slots s):=fun s hs=>by
  show xL (oo (jc (.jF (.sl e1 k1) ow wt :: rest) 0 c) s)
  simp only [jc,oo]
  cases hb:Nat.beq s 0 with
  | true=>exact absurd (afU hb) hs
  | false=>exact uQ hrest s
 obtain ⟨dP,dA,iq,i0,is,g1,g2,g3,g4,Oh⟩:=JF H hw (R0:={ aI (.sl e1 k1) c.1 ow [] .anon true with fixed:=true }) rfl hR0 kW rfl rfl hown (Kz e (by simp [K.tys])) hs0 hsl (x':=x') hR hnd hn0 hown' rfl
 have hst:aj (bX (.jF (.sl e1 k1) ow wt :: rest) c) (ak 0) { ({ aI (.sl e1 k1) c.1 ow [] .anon true with fixed:=true }:Root) with k:=.sl e2 k2,x:=x' }=bX (.jF (.sl e2 k2) ow oG :: rest) (x',c.2):=by
  unfold aj bX
  congr 1
  funext r
  show upd (bX (.jF (.sl e1 k1) ow wt :: rest) c).roots (ak 0) _ r=fZ (fU (.jF (.sl e2 k2) ow oG :: rest) 0 (x',c.2)) r
  simp only [fU,pg hrest,fZ,ha',cond_true]
  unfold upd
  cases hb:Nat.beq r (ak 0) with
  | true=>rfl
  | false=>simp only [cond_false]; rw [wV,hb]; rfl
 rw [hst] at Oh
 have KC:∀j,(∃k,sM (.jF (.sl e1 k1) ow wt :: rest) j k)→∃k,sM (.jF (.sl e2 k2) ow oG :: rest) j k:=by
  rintro j ⟨k0,o1,o2,o3,h⟩
  cases j with
  | zero=>exact ⟨.sl e2 k2,ow,oG,[], .inr rfl⟩
  | succ j=>exact ⟨k0,o1,o2,o3,by simpa using h⟩
 have hP':yP (CY cx (aP dP)) (.jF (.sl e2 k2) ow oG :: rest):=by
  refine ⟨fun j yw hj hkp=>?_,fun j p ts v h=>h.elim,fun j v h=>KC j (hP.ref j v h)⟩
  obtain ⟨pi,hj',rfl⟩:=kT (cx:=cx) hj
  exact KC j (hP.par j pi hj' hkp)
 have h:=hE (gp fr iq i0 is) (x',c.2) out' hF' (CY cx (aP dP)) _ args w hnt hw hsz hP' Oh
 have hpost:∀v w', @Post (gp fr iq i0 is) (CY cx (aP dP)) (.jF (.sl e2 k2) ow oG :: rest) [.into 0 []] out' v w'→@Post fr cx (.jF (.sl e1 k1) ow wt :: rest) [.into 0 []] out v w':=by
  rintro v w' ⟨σ1,dH,F1,a1,vs,bz,H1,rfl,hL,hfn,Iy,hOut,_⟩
  obtain ⟨Q,q1,q2,⟨ek,ey⟩,q4,q5,_⟩:=hOut
  have hRQ:=Kk ek ey Xe
  obtain ⟨ny,t3,t4⟩:=select (dP:=dP) (ns:=ms) (fun m hm=>by rw [g1]; exact hsub m hm)
  have sU:=q5
  unfold wM at sU
  simp only [afW] at sU
  obtain ⟨⟨⟨⟨l1,l2⟩,_⟩,_⟩,l5⟩:=sU
  have hg0:Q.g=0:=afU l5
  have htr:∀{l:List Nat},kD l oG=true→kD l wt=true:=fun hl=>je.2 fun t ht=>je.1 hwt t (je.1 hl t ht)
  cases vs with
  | nil=>exact hL.elim
  | cons v vs=>
   cases bz with
   | nil=>exact hL.elim
   | cons fo bz=>
    obtain ⟨⟨rfl,_,b,m,cp,e3,e4,e5⟩,hL2⟩:=hL
    cases vs with
    | cons _ _=>cases bz <;> exact hL2.elim
    | nil=>
     cases bz with
     | cons _ _=>exact hL2.elim
     | nil=>
      obtain ⟨hQn,hQV⟩:=e5 Q ⟨q1,q2.1⟩ hg0
      have r1:=Mx (fr:=fr) H hw (R0:={ aI (.sl e1 k1) c.1 ow [] .anon true with fixed:=true }) rfl hR0 kW rfl rfl ⟨rfl,rfl⟩ hown hown' Kz g2 (by rw [g1]; exact hnd) g3 g4 H1 q1 q2 ek (fun t ht=>by
        have:=af5.1 q4 t ht
        rw [hown' t ht] at this
        simpa using this) hQn hg0 (wt:=wt) ⟨htr l1,htr l2⟩ (y:=out.2.1) (ny:=ny) (by rw [t3]; exact hRQ) t4 (by rw [t3]; exact hmm) (fun j p ts v h hj=>by
         obtain ⟨k0,⟨o1,o2,o3,h1⟩,h2⟩:=hP.ptr j p ts v h
         subst hj
         rcases h1 with h1 | h1
         ·simp at h1
         ·simp only [List.getElem?_cons_zero,afQ,fA.jF.injEq] at h1
          rw [h2, ←h1.1]; rfl)
      refine ⟨_,_,[],a1,[v],[[]],r1,rfl,⟨⟨rfl,rfl,b,m,cp, ?_, ?_, ?_⟩,trivial⟩,by simp,by simp,⟨_,pW,⟨rfl,rfl⟩,⟨rfl,rfl⟩, ?_, ?_, .inl ha⟩,yA hrest⟩
      ·have hI:(show Int from (Cont.fst (gU [ug.into 0 []]) _ out).1)=(show Int from (Cont.fst (gU [ug.into 0 []]) _ out').1):=hRI
       rw [hI]; exact e3
      ·have hI:(show Int from (Cont.fst (gU [ug.into 0 []]) _ out).1)=(show Int from (Cont.fst (gU [ug.into 0 []]) _ out').1):=hRI
       rw [hI]; exact e4
      ·intro R' hR' _
       obtain ⟨_,rfl⟩:=nk hR'.1
       refine ⟨rfl, ?_⟩
       have ek:Q.k=.sl e2 k2:=ek
       rw [ek] at hQV
       exact NA hQV
      ·exact af5.2 fun t _=>by simp [jQ]; rfl
      ·unfold wM jQ
       simp only [kD,List.all_nil,afW,af5]
       exact ⟨⟨⟨⟨fun x hx=>aJ.2 hx,trivial⟩,fun x hx=>aJ.2 hx⟩,fun x hx=>aJ.2 hx⟩,rfl⟩
 rcases h with ⟨h1,h2⟩ | ⟨v,w',h1,h2⟩
 ·refine .inl ⟨h1,h2.mono ?_⟩
  rintro e w' ⟨v,rfl,hv⟩
  exact ⟨v,rfl,hpost v w' hv⟩
 ·exact .inr ⟨v,w',h1,hpost v w' h2⟩
end
end Go.Proofs.Ytabnmpabdhmkoaa.Ow
