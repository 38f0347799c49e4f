/- A verified reading of translated code: values in place of memory; part F of 6, spaces and remarks taken out. No condition. Own work of this seat. -/
import Derived.Test.YtabnmpabdhmkoaaOwE
import Derived.Test.YtabnmpabdhmkoaaOwC
import Derived.Conc.MuLone
import Derived.ChangeArms
import Derived.ChangeReads
import Derived.ChangeOld
import Derived.ChangeSame
import Derived.DataShut
set_option linter.unusedSectionVars false
set_option linter.unusedVariables false
set_option linter.unusedSimpArgs false
namespace Go.Proofs.Ytabnmpabdhmkoaa.Ow
section
open Go
variable [Fr]
abbrev Fy:=List (Nat×K×List TypeId×List TypeId)
structure Fz (cx:Cx) (gU:Fy):Prop where
 par:∀j pi,cx.par j=some pi→(pi.kp=true∨∃q,pi.base=some q)→∃q,gT (aL j) gU=some q
 ptr:∀j p ts v,cx.ptrs j p ts v→∃k l,gT (aL j) gU=some (k,l)∧ts=fI p k
 ref:∀j v,cx.refs j v→∃q,gT (aL j) gU=some q
theorem nH {A:Type} {b:Bool} {x:Option A} {d:A} (h:(bif b then x else none)=some d):b=true∧x=some d:=by
 cases b with
 | true=>exact ⟨rfl,h⟩
 | false=>exact absurd h (by simp)
def Dk.QM:Dk→List Nat
 | .val _ ids=>ids
 | .gV _ _ ids=>ids
 | .fn _ caps=>caps.flatMap fun c=>c.2.2
 | _=>[]
def tu (rs:List Nat) (i:Nat):Prop:=eH i=true∨i∈rs
structure uW (σ:St) (gU:Fy) (rs:List Nat) (r:Nat) (R R':Root):Prop where
 live:aM σ r R
 valid:bg σ R
 form:∃ow tg ew eh,R'={ R with own:=ow,tags:=tg,w:=[],h:=[],g:=0,ew:=ew,eh:=eh }∧(∀t∈R.k.tys,aA t ow=aA t R.own)
 tags:∀t∈R.tags,tu rs t.1→(t.1,0)∈R'.tags
 Pt:∀t∈R'.tags,t.2=0∧tu rs t.1∧t.1≠r
 log:∀k wt ht,gT r gU=some (k,wt,ht)→R.k=k∧R'.ew=wt∧R'.eh=ht∧(∀t∈R.w,t∈wt)∧(∀t∈R.ew,t∈wt)∧(∀t∈R.h,t∈ht)∧(∀t∈R.eh,t∈ht)∧R.g=0
structure Dv (σ:St) (gU:Fy) (rs:List Nat) (σ':St):Prop where
 roots:∀r R',σ'.roots r=some R'→r∈rs∧eH r=false∧∃R,uW σ gU rs r R R'
 made:∀r∈rs,∃R',σ'.roots r=some R'
 slots:∀s,σ'.slots s=.one .undef∨∃sh av d,σ.slots s=.one av∧I5 σ rs sh av=some d∧σ'.slots s=.one (U3 sh d)∧∀i∈sh.QM,tu rs i
 gU:∀r q,gT r gU=some q→r∈rs
theorem u6:∀{p:List (Option Nat)} {q:List Stp} {c:Cont (fG.into 0 p).kin},idxOf p q=some c→pathOf p c=q
 | [],[],_,_=>rfl
 | [],_ :: _,_,h=>by simp [idxOf] at h
 | some n :: p,[],_,h=>by simp [idxOf] at h
 | some n :: p, .idx i :: q,_,h=>by simp [idxOf] at h
 | some n :: p, .fu m :: q,c,h=>by
  have h':(bif Nat.beq n m then idxOf p q else none)=some c:=h
  cases hb:Nat.beq n m with
  | false=>rw [hb] at h'; simp at h'
  | true=>
   rw [hb] at h'
   have:=abw hb
   subst this
   show Stp.fu n :: pathOf p c=_
   rw [u6 (p:=p) (q:=q) (c:=c) h']
 | none :: p,[],_,h=>by simp [idxOf] at h
 | none :: p, .fu i :: q,_,h=>by simp [idxOf] at h
 | none :: p, .idx i :: q,c,h=>by
  have h':(match idxOf p q with
   | some d=>some ((i,d):Cont (fG.into 0 (none :: p)).kin)
   | none=>none)=some c:=h
  cases hq:idxOf p q with
  | none=>rw [hq] at h'; simp at h'
  | some d=>
   rw [hq] at h'
   have h2:((i,d):Cont (fG.into 0 (none :: p)).kin)=c:=ab1 h'
   rw [←h2]
   show Stp.idx i :: pathOf p d=_
   rw [u6 hq]
theorem oI {rs:List Nat}:∀{l:List Tag} {r:Nat},r∈kr rs l↔(∃n,(r,n)∈l)∧tu rs r
 | [],r=>by simp [kr]
 | (q,m) :: l,r=>by
  have ih:=oI (rs:=rs) (l:=l) (r:=r)
  unfold kr
  cases hb:(eH q || aA q rs) && !aA q (kr rs l) with
  | true=>
   simp only [cond_true,abE]
   simp only [aby,Bool.or_eq_true,bu] at hb
   constructor
   ·rintro (h | h)
    ·subst h
     exact ⟨⟨m, .inl rfl⟩,hb.1⟩
    ·obtain ⟨⟨n,hn⟩,h2⟩:=ih.1 h
     exact ⟨⟨n, .inr hn⟩,h2⟩
   ·rintro ⟨⟨n,h | h⟩,h2⟩
    ·exact .inl (by simpa using congrArg Prod.fst h)
    ·exact .inr (ih.2 ⟨⟨n,h⟩,h2⟩)
  | false=>
   simp only [cond_false]
   constructor
   ·intro h
    obtain ⟨⟨n,hn⟩,h2⟩:=ih.1 h
    exact ⟨⟨n, .tail _ hn⟩,h2⟩
   ·rintro ⟨⟨n,h⟩,h2⟩
    rcases abE.1 h with h | h
    ·have e:r=q:=by simpa using congrArg Prod.fst h
     subst e
     cases hm:aA r (kr rs l) with
     | true=>exact bu.1 hm
     | false=>
      exfalso
      rw [hm] at hb
      simp only [ab4,Bool.and_true,Bool.or_eq_false_iff] at hb
      rcases h2 with h2 | h2
      ·rw [hb.1] at h2; simp at h2
      ·rw [bu.2 h2] at hb; simp at hb
    ·exact ih.2 ⟨⟨n,h⟩,h2⟩
section
variable {P:Program} {T:gL} {cx:Cx} {σ σ':St} {α:dA} {F:List Nat} {a:Act} {w:World} {gU:Fy} {rs:List Nat}
theorem uW.kind {r:Nat} {R R':Root} (h:uW σ gU rs r R R'):R'.kind=R.kind∧R'.k=R.k∧R'.w=[]∧R'.h=[]∧R'.g=0∧R'.aT=R.aT:=by
 obtain ⟨ow,tg,ew,eh,rfl,_⟩:=h.form
 exact ⟨rfl,rfl,rfl,rfl,rfl,rfl⟩
theorem uW.blk {r:Nat} {R R':Root} (h:uW σ gU rs r R R'):blk α R' r=blk α R r∧dY α R' r=dY α R r:=by
 have hk:=h.kind.1
 unfold Ow.blk dY
 rw [hk]
 exact ⟨rfl,rfl⟩
theorem Dv.gy (hB:Dv σ gU rs σ') {U U':List Tag} (hU:∀t∈U,tu rs t.1→∃n,(t.1,n)∈U') {b:Nat} (h:gy cx σ α F w U b):gy cx σ' α F w U' b:=by
 obtain ⟨h1,h2,h3,h4,h5⟩:=h
 refine ⟨h1,h2,h3,fun r R' hr hb=>?_,fun hlt=>?_⟩
 ·obtain ⟨g1,g2,R,g3⟩:=hB.roots r R' hr.1
  rw [g3.blk.1] at hb
  obtain ⟨n,hn⟩:=h4 r R g3.live hb
  exact hU _ hn (.inr g1)
 ·rcases h5 hlt with ⟨j,n,g1,g2⟩ | h
  ·obtain ⟨n',hn'⟩:=hU _ g1 (.inl (iV j))
   exact .inl ⟨j,n',hn',g2⟩
  ·exact .inr h
theorem Dv.Ad (hB:Dv σ gU rs σ') {U U':List Tag} (hU:∀t∈U,tu rs t.1→∃n,(t.1,n)∈U') {b:Nat} (h:Ad σ α F w U b):Ad σ' α F w U' b:=by
 obtain ⟨h1,h2,h4⟩:=h
 refine ⟨h1,h2,fun r R' hr hb=>?_⟩
 obtain ⟨g1,g2,R,g3⟩:=hB.roots r R' hr.1
 rw [g3.blk.1] at hb
 obtain ⟨n,hn⟩:=h4 r R g3.live hb
 exact hU _ hn (.inr g1)
theorem Oh {tags:List Tag} {ids:List Nat} (h:qY (kr rs tags) ids=true):∀t∈tags,tu rs t.1→∃n,(t.1,n)∈ids.map fun r=>((r,0):Tag):=by
 intro t ht hi
 refine ⟨0,ab2.2 ⟨t.1,um.1 h _ (oI.2 ⟨⟨t.2,ht⟩,hi⟩),rfl⟩⟩
theorem Dv.dW (hB:Dv σ gU rs σ') {ids:List Nat} (h:∀i∈ids,tu rs i):dW σ' (ids.map fun r=>((r,0):Tag)):=by
 intro t ht
 obtain ⟨i,h1,rfl⟩:=ab2.1 ht
 rcases h i h1 with h | h
 ·exact .inl h
 ·obtain ⟨R',hR⟩:=hB.made i h
  exact .inr ⟨R',hR, .inr (ab0 _)⟩
theorem Dv.ro (hB:Dv σ gU rs σ') {bt:TypeId} {k:K} {x:El k} {tags:List Tag} {ids:List Nat} {v:Value} (hs:qY (kr rs tags) ids=true) (hc:aU σ (bt :: k.tys) tags=true)(hE:BC bt ids=true)
  (h:Am cx σ α F w bt k x tags v):Am cx σ' α F w bt k x (ids.map fun r=>((r,0):Tag)) v:=by
 obtain ⟨h1,h2⟩:=h
 obtain ⟨b,o,cs,e1,e2,e3,e4,e5⟩:=h2 hc
 refine ⟨h1,fun _=>⟨b,o,cs,e1,e2,eT (fun _ _=>rfl) (fun b hb=>hB.gy (Oh hs) hb) e3,hB.Ad (Oh hs) e4, ?_⟩⟩
 rcases e5 with ⟨g1,g2⟩ | h
 ·refine .inl ⟨g1,fun t ht=>?_⟩
  obtain ⟨i,h1,rfl⟩:=ab2.1 ht
  unfold BC at hE
  rw [g1] at hE
  simp only [show Nat.beq SENT SENT=true from rfl,abT,Bool.false_or,abH] at hE
  exact hE i h1
 ·exact .inr h
theorem Dv.caps (hB:Dv σ gU rs σ'):∀{cs:List (TypeId×K×List Nat)} {l:List (TypeId×Dat×List Tag)} {d:Cont (FL cs)} {vs:List Value},rO σ rs cs l=some d→(∀i∈cs.flatMap (fun c=>c.2.2),tu rs i)→jE cx σ α F w l vs→
  jE cx σ' α F w (z8 cs d) vs∧∀c∈z8 cs d,Ow.dW σ' c.2.2
 | [],[],_,[],_,_,_=>⟨trivial,by intro c hc; exact absurd hc (by simp [z8])⟩
 | [],_ :: _,_,_,h,_,_=>by simp [rO] at h
 | _ :: _,[],_,_,h,_,_=>by simp [rO] at h
 | [],[],_,_ :: _,_,_,h=>h.elim
 | _ :: _,_ :: _,_,[],_,_,h=>h.elim
 | (t,k,ids) :: cs,(t',d,tags) :: l,c,v :: vs,h,hi,hv=>by
  simp only [rO] at h
  cases hb:Nat.beq t t' && aU σ (t :: k.tys) tags && qY (kr rs tags) ids && BC t ids with
  | false=>rw [hb] at h; simp at h
  | true=>
   rw [hb] at h
   simp only [cond_true] at h
   simp only [aby] at hb
   obtain ⟨⟨⟨b1,b2⟩,b3⟩,b4⟩:=hb
   have:=abw b1
   subst this
   cases hck:bL d.1 k d.2 with
   | none=>rw [hck] at h; simp at h
   | some x=>
    rw [hck] at h
    cases hcs:rO σ rs cs l with
    | none=>rw [hcs] at h; simp at h
    | some y=>
     rw [hcs] at h
     have h2:((x,y):Cont (FL ((t,k,ids) :: cs)))=c:=ab1 h
     subst h2
     obtain ⟨dk,dx⟩:=d
     obtain ⟨e,ex⟩:=bF hck
     simp only at e
     subst e
     simp only at ex
     subst ex
     have NH:∀i∈ids,tu rs i:=fun i h=>hi i (by simp [h])
     obtain ⟨g1,g2⟩:=hB.caps (vs:=vs) hcs (fun i h=>hi i (by
      rw [List.flatMap_cons]; exact abu _ h)) hv.2
     refine ⟨⟨hB.ro b3 b2 b4 hv.1,g1⟩,fun q hq=>?_⟩
     rcases abE.1 hq with h | h
     ·subst h; exact hB.dW NH
     ·exact g2 q h
theorem Dv.av (H:Rel cx σ α F a w) (hB:Dv σ gU rs σ') {sh:Dk} {av:AV} {d:Cont sh.ks} {v:Value} (hct:I5 σ rs sh av=some d) (hi:∀i∈sh.QM,tu rs i) (hv:bz cx σ α F w av v) :
  bz cx σ' α F w (U3 sh d) v∧l9 σ' (U3 sh d):=by
 cases sh with
 | undef=>exact ⟨trivial,trivial⟩
 | val k ids=>
  cases av with
  | val k' x tags=>
   simp only [I5] at hct
   cases hb:aU σ k.tys tags && qY (kr rs tags) ids with
   | false=>rw [hb] at hct; simp at hct
   | true=>
    rw [hb] at hct
    simp only [cond_true] at hct
    simp only [aby] at hb
    cases hck:bL k' k x with
    | none=>rw [hck] at hct; simp at hct
    | some y=>
     rw [hck] at hct
     have h2:((y,()):Cont (Dk.val k ids).ks)=d:=ab1 hct
     subst h2
     obtain ⟨e,ex⟩:=bF hck
     subst e
     simp only at ex
     subst ex
     refine ⟨fun _=>?_,hB.dW hi⟩
     obtain ⟨cs,g1,g2⟩:=hv (.inr hb.1)
     exact ⟨cs,g1,eT (fun _ _=>rfl) (fun b hb2=>hB.gy (Oh hb.2) hb2) g2⟩
  | _=>simp [I5] at hct
 | gK=>
  cases av with
  | gK=>
   exact ⟨hv,trivial⟩
  | _=>simp [I5] at hct
 | ref r=>
  cases av with
  | ref r' g=>
   obtain ⟨hb,_⟩:=nH (show (bif Nat.beq r r' && aA r rs && (match σ.roots r with | some R=>Nat.beq R.g g | none=>false) then some () else none)=some d from hct)
   simp only [aby] at hb
   obtain ⟨⟨b1,b2⟩,b3⟩:=hb
   have:=abw b1
   subst this
   obtain ⟨R',hR'⟩:=hB.made r (bu.1 b2)
   refine ⟨fun Q hQ _=>?_,R',hR', .inr (ab0 _)⟩
   obtain ⟨_,_,R,g3⟩:=hB.roots r Q hQ.1
   rw [g3.live.1] at b3
   obtain ⟨f1,f2⟩:=hv R g3.live (abw b3)
   obtain ⟨k1,k2,_⟩:=g3.kind
   exact ⟨k1.trans f1,by rw [k2]; exact f2⟩
  | _=>simp [I5] at hct
 | ptr r p=>
  cases av with
  | ptr r' q n=>
   obtain ⟨hb,Qm⟩:=nH (A:=Cont (fG.into 0 p).kin) (x:=idxOf p q) (show (bif Nat.beq r r' && aA r rs && (match σ.roots r with | some R=>clean R.h n (fI q R.k) | none=>false) then idxOf p q else none)=some d from hct)
   simp only [aby] at hb
   obtain ⟨⟨b1,b2⟩,b3⟩:=hb
   have:=abw b1
   subst this
   have hpq:=u6 Qm
   obtain ⟨R',hR'⟩:=hB.made r (bu.1 b2)
   show bz cx σ' α F w (.ptr r (pathOf p d) 0) v∧l9 σ' (.ptr r (pathOf p d) 0)
   rw [hpq]
   refine ⟨⟨hv.1,fun Q hQ NM _ hpt hg=>?_⟩,R',hR', .inr (ab0 _)⟩
   obtain ⟨_,_,R,g3⟩:=hB.roots r Q hQ
   rw [g3.live.1] at b3
   have hw:=(uW.blk (α:=α) g3).2
   obtain ⟨ow,tg,ew,eh,rfl,hown⟩:=g3.form
   obtain ⟨f1,f2⟩:=hv.2 R g3.live.1 g3.valid b3 (fun t ht=>by rw [←hown t (kD q t ht)]; exact hpt t ht) hg
   exact ⟨f1,by rw [hw]; exact f2⟩
  | _=>simp [I5] at hct
 | gV bt k ids=>
  cases av with
  | gV Xz k' x tags=>
   simp only [I5] at hct
   cases hb:Nat.beq bt Xz && aU σ (bt :: k.tys) tags && qY (kr rs tags) ids && BC bt ids with
   | false=>rw [hb] at hct; simp at hct
   | true=>
    rw [hb] at hct
    simp only [cond_true] at hct
    simp only [aby] at hb
    obtain ⟨⟨⟨b1,b2⟩,b3⟩,b4⟩:=hb
    have:=abw b1
    subst this
    cases hck:bL k' k x with
    | none=>rw [hck] at hct; simp at hct
    | some y=>
     rw [hck] at hct
     have h2:((y,()):Cont (Dk.gV bt k ids).ks)=d:=ab1 hct
     subst h2
     obtain ⟨e,ex⟩:=bF hck
     subst e
     simp only at ex
     subst ex
     exact ⟨hB.ro b3 b2 b4 hv,hB.dW hi⟩
  | _=>simp [I5] at hct
 | mE=>
  cases av with
  | mE=>
   exact ⟨hv,trivial⟩
  | _=>simp [I5] at hct
 | fn f cs=>
  cases av with
  | fn f' caps=>
   obtain ⟨hb,Qm⟩:=nH (A:=Cont (FL cs)) (x:=rO σ rs cs caps) (show (bif Nat.beq f f' then rO σ rs cs caps else none)=some d from hct)
   have:=abw hb
   subst this
   obtain ⟨vs,e,hc⟩:=hv
   obtain ⟨g1,g2⟩:=hB.caps Qm hi hc
   exact ⟨⟨vs,e,g1⟩,g2⟩
  | _=>simp [I5] at hct
end
end
section
open Go
variable [Fr]
section
variable {P:Program} {T:gL} {cx:Cx} {σ σ':St} {α:dA} {F:List Nat} {a:Act} {w:World} {gU:Fy} {rs:List Nat}
theorem Mi (H:Rel cx σ α F a w) (hP:Fz cx gU) (hB:Dv σ gU rs σ'):Rel cx σ' α F a w:=by
 have Jm:∀{r:Nat} {R':Root},aM σ' r R'→∃R,uW σ gU rs r R R':=fun h=>by
  obtain ⟨_,_,R,h⟩:=hB.roots _ _ h.1
  exact ⟨R,h⟩
 have xu:∀{j:Nat} {q},gT (aL j) gU=some q→∃R R',σ'.roots (aL j)=some R'∧uW σ gU rs (aL j) R R':=fun h=>by
  obtain ⟨R',hR'⟩:=hB.made _ (hB.gU _ _ h)
  obtain ⟨_,_,R,h⟩:=hB.roots _ _ hR'
  exact ⟨R,R',hR',h⟩
 have hsame:∀{τ:St} {r:Nat} {R Q:Root},τ.roots r=some R→τ.roots r=some Q→Q=R:=fun h1 h2=>by rw [h1] at h2; simpa using h2.symm
 refine ⟨H.defs,H.sz, ?_, ?_, ?_, ?_, ?_, ?_, ?_,H.fl,H.rZ, ?_,H.frame, ?_,H.pG, ?_, ?_⟩
 ·intro j pi b o n hj hb
  obtain ⟨Q,hQ,hk,hl,hs⟩:=H.kP j pi b o n hj hb
  obtain ⟨q,hq⟩:=hP.par j pi hj (.inr ⟨_,hb⟩)
  obtain ⟨R,R',hR',h1⟩:=xu hq
  have:=hsame hQ.1 h1.live.1
  subst this
  obtain ⟨k1,k2,_,_,_,k6⟩:=h1.kind
  exact ⟨R',⟨hR',k6.trans hQ.2⟩,k1.trans hk,hl,by rw [k2]; exact hs⟩
 ·intro r R' hr hk
  obtain ⟨R,h1⟩:=Jm hr
  exact H.yx r R h1.live (h1.kind.1.symm.trans hk)
 ·intro s
  rcases hB.slots s with h | ⟨sh,av,d,h1,h2,h3,h4⟩
  ·rw [h]; trivial
  ·rw [h3]
   have:=H.slots s
   rw [h1] at this
   exact (hB.av H h2 h4 this).1
 ·intro s
  rcases hB.slots s with h | ⟨sh,av,d,h1,h2,h3,h4⟩
  ·rw [h]; trivial
  ·rw [h3]
   have:=H.slots s
   rw [h1] at this
   exact (hB.av H h2 h4 this).2
 ·intro r R' hr
  obtain ⟨R,h1⟩:=Jm hr
  have O:=H.roots r R h1.live
  have hb:=(uW.blk (α:=α) h1).1
  have hw:=(uW.blk (α:=α) h1).2
  have ht:=h1.tags
  have hv:=h1.valid
  obtain ⟨ow,tg,ew,eh,rfl,hown⟩:=h1.form
  refine ⟨fun _=>lZ hown (aY (fun _ _=>rfl) (fun b hb2=>?_) (fun _ _=>rfl) (O.ow hv)),O.len, ?_, ?_, ?_⟩
  ·exact hB.gy (fun t h hi=>⟨0,ht t h hi⟩) hb2
  ·rw [hw]; exact O.mem
  ·rw [hb]; exact O.nd
  ·rw [hb]; exact O.mine
 ·intro r R' hr
  obtain ⟨g1,g2,R,h1⟩:=hB.roots r R' hr
  refine ⟨fun t ht=>?_,g2,fun n hn=>(h1.Pt _ hn).2.2 rfl⟩
  obtain ⟨f1,f2,_⟩:=h1.Pt t ht
  rcases f2 with h | h
  ·exact .inl h
  ·obtain ⟨Q,hQ⟩:=hB.made _ h
   exact .inr ⟨Q,hQ, .inr (by rw [f1]; exact ab0 _)⟩
 ·intro r R1 r' R2 h1 h2 hne b hb
  obtain ⟨Q1,g1⟩:=Jm h1
  obtain ⟨Q2,g2⟩:=Jm h2
  rw [(uW.blk (α:=α) g1).1] at hb
  rw [(uW.blk (α:=α) g2).1]
  exact H.yI r Q1 r' Q2 g1.live g2.live hne b hb
 ·intro r R' hr b hb
  obtain ⟨R,h1⟩:=Jm hr
  rw [(uW.blk (α:=α) h1).1] at hb
  exact H.gQ r R h1.live b hb
 ·intro j pi hj hk
  obtain ⟨⟨k,wt,ht⟩,hq⟩:=hP.par j pi hj (.inl hk)
  obtain ⟨R,R',hR',h1⟩:=xu hq
  obtain ⟨l1,l2,l3,l4,l5,l6,l7,l8⟩:=h1.log k wt ht hq
  obtain ⟨Q,hQ,hk2⟩:=H.tJ j pi hj hk
  have:=hsame h1.live.1 hQ
  subst this
  refine ⟨R',hR',fun _ b hb hnb=>?_⟩
  rcases hk2 h1.live.2 b hb hnb with ⟨e,e1,e2⟩ | ⟨g1,g2,g3⟩
  ·refine .inl ⟨e,e1, .inr ?_⟩
   rw [l2]
   rcases e2 with h | h
   ·exact l4 e h
   ·exact l5 e h
  ·refine .inr ⟨g1,g2,fun q Q hQ hbq=>?_⟩
   obtain ⟨Q0,h2⟩:=Jm hQ
   rw [(uW.blk (α:=α) h2).1] at hbq
   exact g3 q Q0 h2.live hbq
 ·intro j p ts v hv
  obtain ⟨k,⟨wt,ht⟩,hq,hts⟩:=hP.ptr j p ts v hv
  obtain ⟨R,R',hR',h1⟩:=xu hq
  obtain ⟨l1,l2,l3,l4,l5,l6,l7,l8⟩:=h1.log k wt ht hq
  obtain ⟨f1,Q,hQ,f2⟩:=H.tK j p ts v hv
  have:=hsame h1.live.1 hQ
  subst this
  refine ⟨f1,R',hR',fun hno=>?_⟩
  rw [l3] at hno
  have NB:=f2 (fun t h1 h2=>hno t h1 (l7 t h2))
  refine ⟨f1,fun Q2 Qf _ _ hpt hg=>?_⟩
  have:=hsame hR' Qf
  subst this
  have hw:=(uW.blk (α:=α) h1).2
  have hv1:=h1.valid
  have hr1:=h1.live.1
  obtain ⟨ow,tg,ew,eh,rfl,hown⟩:=h1.form
  obtain ⟨q1,q2⟩:=NB.2 Q hr1 hv1 (by
    unfold clean
    rw [abH]
    intro t ht1
    have h3:t∈Q.h:=List.mem_of_mem_take ht1
    simp only [Bool.not_eq_true',aO]
    rw [l1, ←hts]
    exact fun h4=>hno t h4 (l6 t h3))
   (fun t ht=>by rw [←hown t (kD p t ht)]; exact hpt t ht) hg
  exact ⟨q1,by rw [hw]; exact q2⟩
 ·intro j v hv
  obtain ⟨⟨k,wt,ht⟩,hq⟩:=hP.ref j v hv
  obtain ⟨R,R',hR',h1⟩:=xu hq
  obtain ⟨l1,l2,l3,l4,l5,l6,l7,l8⟩:=h1.log k wt ht hq
  obtain ⟨_,f2⟩:=H.tL j v hv
  refine ⟨⟨R',hR'⟩,fun Q2 Qf _=>?_⟩
  have:=hsame hR' Qf.1
  subst this
  obtain ⟨q1,q2⟩:=f2 R h1.live l8
  obtain ⟨k1,k2,_⟩:=h1.kind
  exact ⟨k1.trans q1,by rw [k2]; exact q2⟩
structure TB (gU:Fy) (rs:List Nat) (s:OH):Prop where
 slots:∀q∈s.ss,∀i∈q.2.QM,tu rs i
 roots:∀q∈s.rs,q.1∈rs∧eH q.1=false∧(∀i∈q.2.ids,tu rs i∧i≠q.1)∧q.2.log=gT q.1 gU
 keys:∀r∈rs,∃q∈s.rs,q.1=r
 gU:∀r q,gT r gU=some q→r∈rs
theorem Gn:∀{l:List (Nat×Dk)} {c:Cont (JA l)},TK σ rs l=some c→∀n,mkS l c n=.one .undef∨∃sh av d,(n,sh)∈l∧σ.slots n=.one av∧I5 σ rs sh av=some d∧mkS l c n=.one (U3 sh d)
 | [],_,_,_=>.inl rfl
 | (s,sh) :: l,c,h,n=>by
  simp only [TK] at h
  split at h
  ·rename_i av hs
   split at h
   ·rename_i x y hx hy
    have h2:Cont.app sh.ks (JA l) x y=c:=ab1 h
    subst h2
    simp only [mkS]
    rw [vZ,wL]
    cases hb:Nat.beq n s with
    | true=>
     have:=abw hb
     subst this
     exact .inr ⟨sh,av,x,by simp,hs,hx,rfl⟩
    | false=>
     rcases Gn hy n with h | ⟨sh',Xr,d,g1,g2,g3,g4⟩
     ·exact .inl h
     ·exact .inr ⟨sh',Xr,d, .tail _ g1,g2,g3,g4⟩
   ·simp at h
  ·split at h
   ·split at h
    ·rename_i d hd
     have h2:d=c:=ab1 h
     subst h2
     simp only [mkS]
     cases hb:Nat.beq n s with
     | true=>exact .inl rfl
     | false=>
      rcases Gn hd n with h | ⟨sh',Xr,d,g1,g2,g3,g4⟩
      ·exact .inl h
      ·exact .inr ⟨sh',Xr,d, .tail _ g1,g2,g3,g4⟩
    ·simp at h
   ·simp at h
theorem Ml {a b:xJ} (h:Mk a b=true):a=b:=by
 cases a <;> cases b <;> simp_all [Mk]
theorem LV:∀{l:List (Nat×Dx)} {c:Cont (MK l)},Vp σ rs l=some c→∀n R',Pj l c n=some R'→∃sh R,(n,sh)∈l∧σ.roots n=some R∧bg σ R∧qY (kr rs R.tags) sh.ids=true∧QS R sh.log=true∧
   (∀t∈R.k.tys,aA t sh.own=aA t R.own)∧R'={ R with own:=sh.own,tags:=sh.ids.map fun r=>(r,0),w:=[],h:=[],g:=0,ew:=U2 sh.log,eh:=U1 sh.log }
 | [],_,_,_,_,h=>by simp [Pj] at h
 | (r,sh) :: l,c,h,n,R',hm=>by
  simp only [Vp] at h
  split at h
  ·rename_i R hR
   obtain ⟨hb,h⟩:=nH h
   split at h
   ·rename_i x y hx hy
    have h2:(x,y)=c:=ab1 h
    subst h2
    simp only [Pj] at hm
    cases hn:Nat.beq n r with
    | false=>
     rw [hn] at hm
     obtain ⟨sh',R2,g1,g2⟩:=LV hy n R' hm
     exact ⟨sh',R2, .tail _ g1,g2⟩
    | true=>
     rw [hn] at hm
     have:=abw hn
     subst this
     simp only [aby] at hb
     obtain ⟨⟨⟨⟨⟨⟨⟨b1,b2⟩,b3⟩,b4⟩,b5⟩,b6⟩,b7⟩,b8⟩:=hb
     obtain ⟨e,ex⟩:=bF hx
     refine ⟨sh,R,by simp,hR,⟨by simpa using b7,b1⟩,b2,b8,fun t ht=>?_, ?_⟩
     ·have:=abH.1 b3 t (e▸ht)
      simp only [beq_iff_eq] at this
      exact this.symm
     ·have Xt:=Ml b4
      have Xu:R.fixed=sh.fixed:=by simpa using b5
      have Xv:R.keep=sh.keep:=by simpa using b6
      obtain ⟨k,ow,ids,kd,fx,kp,lg⟩:=sh
      simp only at e ex Xt Xu Xv
      obtain ⟨Rk,Rx,PW,Km,Rw,Rh,Rg,Kl,Xl,Kk,Xk,Xj⟩:=R
      simp only at e ex Xt Xu Xv
      subst e Xt Xu Xv
      simp only at ex
      subst ex
      simp only [cond_true,abr] at hm
      exact hm.symm
   ·simp at h
  ·simp at h
theorem EF:∀{l:List (Nat×Dx)} (c:Cont (MK l)) {r:Nat},(∃q∈l,q.1=r)→∃R',Pj l c r=some R'
 | [],_,_,h=>by obtain ⟨q,h,_⟩:=h; simp at h
 | (s,sh) :: l,c,r,h=>by
  simp only [Pj]
  cases hb:Nat.beq r s with
  | true=>exact ⟨_,rfl⟩
  | false=>
   refine EF c.2 ?_
   obtain ⟨q,h1,h2⟩:=h
   rcases abE.1 h1 with h | h
   ·subst h; simp only at h2; subst h2; simp at hb
   ·exact ⟨q,h,h2⟩
theorem Dv.of {s:OH} (hs:TB gU rs s) {c:s.V} (h:I6 rs s σ=some c):Dv σ gU rs (CW s c):=by
 unfold I6 at h
 split at h
 ·rename_i x y hx hy
  have h2:Cont.app (JA s.ss) (MK s.rs) x y=c:=ab1 h
  subst h2
  have e1:(CW s (Cont.app (JA s.ss) (MK s.rs) x y)).slots=mkS s.ss x:=by unfold CW; rw [vZ]
  have e2:(CW s (Cont.app (JA s.ss) (MK s.rs) x y)).roots=Pj s.rs y:=by unfold CW; rw [wL]
  refine ⟨fun r R' hr=>?_,fun r hr=>?_,fun n=>?_,hs.gU⟩
  ·rw [e2] at hr
   obtain ⟨sh,R,g1,g2,g3,g4,g5,g6,g7⟩:=LV hy r R' hr
   obtain ⟨f1,f2,f3,f4⟩:=hs.roots _ g1
   refine ⟨f1,f2,R,⟨g2,g3.1⟩,g3,⟨_,_,_,_,g7,g6⟩, ?_, ?_, ?_⟩
   ·intro t ht hi
    rw [g7]
    obtain ⟨n,hn⟩:=Oh g4 t ht hi
    obtain ⟨i,hi1,hi2⟩:=ab2.1 hn
    simp only [abD] at hi2
    have h0:n=0:=hi2.2.symm
    subst h0
    exact hn
   ·intro t ht
    rw [g7] at ht
    obtain ⟨i,h1,rfl⟩:=ab2.1 ht
    exact ⟨rfl,f3 i h1⟩
   ·intro k wt ht hq
    simp only at f4
    rw [f4,hq] at g5 g7
    simp only [QS,BL,aby,um] at g5
    obtain ⟨p1,⟨⟨⟨p2,p3⟩,p4⟩,p5⟩,p6⟩:=g5
    subst g7
    exact ⟨K.eq_of_beq p1,rfl,rfl,p2,p3,p4,p5,abw p6⟩
  ·rw [e2]
   exact EF y (hs.keys r hr)
  ·rw [e1]
   rcases Gn hx n with h | ⟨sh,av,d,g1,g2,g3,g4⟩
   ·exact .inl h
   ·exact .inr ⟨sh,av,d,g2,g3,g4,hs.slots _ g1⟩
 ·simp at h
theorem Av:∀{l:List (TypeId×Dat×List Tag)},∀i∈(Au rs l).flatMap (fun c=>c.2.2),tu rs i
 | [],i,h=>by simp [Au] at h
 | (t,d,tags) :: l,i,h=>by
  simp only [Au,List.flatMap_cons,abB] at h
  rcases h with h | h
  ·exact (oI.1 h).2
  ·exact Av i h
theorem D7 {rs ex:List Nat}:∀i∈KP rs ex,tu rs i:=by
 intro i hi
 unfold KP at hi
 rw [abJ,Bool.or_eq_true,bu] at hi
 exact hi.2
theorem Oe {ex:List Nat} {av:AV}:∀i∈(YR rs ex av).QM,tu rs i:=by
 intro i hi
 cases av <;> simp only [YR,Dk.QM,List.not_mem_nil] at hi
 ·rcases abB.1 hi with hi | hi
  ·exact (oI.1 hi).2
  ·exact D7 i hi
 ·exact (oI.1 hi).2
 ·exact Av i hi
theorem IC {wd:List (Nat×List Nat)}:∀{l:List Nat},∀q∈Vh wd rs σ l,∀i∈q.2.QM,tu rs i
 | [],q,h,_,_=>by simp [Vh] at h
 | s :: l,q,h,i,hi=>by
  simp only [Vh,abE] at h
  rcases h with h | h
  ·subst h
   split at hi
   ·exact Oe i hi
   ·simp [Dk.QM] at hi
  ·exact IC q h i hi
theorem Mo {wd:List (Nat×List Nat)}:∀{l:List Nat} {q:List (Nat×Dx)},Vg wd gU rs σ l=some q→(∀z∈q,z.1∈l∧∃R,σ.roots z.1=some R∧z.2.ids=kr rs R.tags++(KP rs (o7 (2 * z.1+1) wd)).filter (fun q=>!Nat.beq q z.1)∧z.2.log=gT z.1 gU)∧∀r∈l,∃z∈q,z.1=r
 | [],q,h=>by simp [Vg] at h; subst h; simp
 | r :: l,q,h=>by
  simp only [Vg] at h
  split at h
  ·rename_i R q' hR hq
   obtain ⟨i1,i2⟩:=Mo hq
   simp only [abr] at h
   subst h
   refine ⟨fun z hz=>?_,fun r' hr=>?_⟩
   ·rcases abE.1 hz with h | h
    ·subst h; exact ⟨by simp,R,hR,rfl,rfl⟩
    ·obtain ⟨f1,f2⟩:=i1 z h
     exact ⟨.tail _ f1,f2⟩
   ·rcases abE.1 hr with h | h
    ·exact ⟨_,abY,h.symm⟩
    ·obtain ⟨z,z1,z2⟩:=i2 r' h
     exact ⟨z, .tail _ z1,z2⟩
  ·simp at h
theorem xP:∀{l:Fy} {r:Nat} {q},gT r l=some q→∃p∈l,p.1=r
 | [],_,_,h=>by simp [gT] at h
 | (s,p) :: l,r,q,h=>by
  simp only [gT] at h
  cases hb:Nat.beq r s with
  | true=>exact ⟨_,abY,(abw hb).symm⟩
  | false=>
   rw [hb] at h
   obtain ⟨p',h1,h2⟩:=xP h
   exact ⟨p', .tail _ h1,h2⟩
theorem Og {wd:List (Nat×List Nat)} (H:Rel cx σ α F a w) {ss:List Nat} {s:OH} (h:Ri wd gU ss rs σ=some s):TB gU rs s:=by
 unfold Ri at h
 split at h
 ·rename_i q hq
  obtain ⟨hb,h⟩:=nH h
  simp only [abr] at h
  subst h
  obtain ⟨i1,i2⟩:=Mo hq
  refine ⟨IC,fun z hz=>?_,i2,fun r q hf=>?_⟩
  ·obtain ⟨f1,R,f2,f3,f4⟩:=i1 z hz
   obtain ⟨_,g2,g3⟩:=H.cB _ R f2
   refine ⟨f1,g2,fun i hi=>?_,f4⟩
   rw [f3] at hi
   rcases abB.1 hi with hi | hi
   ·obtain ⟨⟨n,hn⟩,h2⟩:=oI.1 hi
    exact ⟨h2,fun e=>g3 n (e▸hn)⟩
   ·rw [abJ] at hi
    refine ⟨D7 i hi.1,fun e=>?_⟩
    subst e
    have:=hi.2
    simp at this
  ·obtain ⟨p,p1,p2⟩:=xP hf
   have:=abH.1 hb p p1
   rw [←p2]
   exact bu.1 this
 ·simp at h
end
end
section
open Go
variable [Fr]
def TN:Exit→Option Ex
 | .normal=>some .normal
 | .exit i=>some (.exit i)
 | .ret=>some .ret
 | _=>none
section
variable {P:Program} {T:gL} {hi:Hint} {n:Nat} {cx:Cx} {σ:St} {α:dA} {F:List Nat} {a:Act} {w:World} {R:Type} {r:R} {ag:Option R→Option R→Option R}
def QK (cx:Cx) (K:Ex→St→Option R) (r:R) (e:Exit) (a:Act) (w:World):Prop:=∃x σ α F,TN e=some x∧K x σ=some r∧Rel cx σ α F a w
theorem least {p:Nat→Prop} (h:∃n,p n):∃m,p m∧∀k,p k→m≤k:=by
 obtain ⟨n,hn⟩:=h
 induction n using Nat.strongRecOn with
 | _ n ih=>
  by_cases hk:∃k,k<n∧p k
  ·obtain ⟨k,h1,h2⟩:=hk
   exact ih k h1 h2
  ·exact ⟨n,hn,fun k h=>Nat.le_of_not_lt fun hlt=>hk ⟨k,hlt,h⟩⟩
theorem Qa (hag:∀{a b z},ag a b=some z→a=some z∧b=some z) (hm:P.follows .mixedOrders=true) (hT:dO P T) (hSt:AO P T) (hC:nZ P n hi) (hnt:hi.nt=cx.nt) (hP:Fz cx hi.gU) :
  ∀(code:Code) (b:Nat) {σ:St} {α:dA} {F:List Nat} {a:Act} {w:World} {K:Ex→St→Option R},den T hi n ag b code σ K=some r→Rel cx σ α F a w→code.wp P (QK cx K r) a w:=by
 intro code
 induction code with
 | skip=>intro b σ α F a w K h H; exact wp_skip ⟨_,_,_,_,rfl,h,H⟩
 | exit id=>intro b σ α F a w K h H; exact wp_exit ⟨_,_,_,_,rfl,h,H⟩
 | ret=>intro b σ α F a w K h H; exact wp_ret ⟨_,_,_,_,rfl,h,H⟩
 | seq x y Vx UY=>
  intro b σ α F a w K h H
  refine wp_seq (wp_mono (Vx b h H) ?_)
  rintro e a' w' ⟨ex,σ',α',F',h1,h2,h3⟩
  cases e <;> simp only [TN,abr,reduceCtorEq] at h1
  ·subst h1; exact UY b h2 h3
  ·subst h1; exact ⟨_,_,_,_,rfl,h2,h3⟩
  ·subst h1; exact ⟨_,_,_,_,rfl,h2,h3⟩
 | cond c x y Vx UY=>
  intro b σ α F a w K h H
  simp only [den] at h
  obtain ⟨v0,h1,h2⟩:=pK _ h
  obtain ⟨v,g1,g2,g3⟩:=bI H h1
  have ev:v0=v:=g3
  subst ev
  have hplain:((asBool v0 .ret).run σ fun t=>if t=true then den T hi n ag b x σ K else den T hi n ag b y σ K)=some r→Code.wp P (.cond c x y) (QK cx K r) a w:=by
   intro h2
   obtain ⟨t,h3,h4⟩:=pK _ h2
   obtain ⟨b',e1,e2⟩:=yV g1 h3
   have e2':t=b':=e2
   subst e2'
   refine wp_cond (t:=t) e1 ?_
   cases t with
   | true=>exact Vx b h4 H
   | false=>exact UY b h4 H
  cases v0 with
  | sI e=>
   simp only at h2
   obtain ⟨b',e1,e2⟩:=g1
   refine wp_cond (t:=b') e1 ?_
   cases b' with
   | true=>
    rw [if_pos (e2 rfl)] at h2
    exact Vx b (hag h2).1 H
   | false=>
    split at h2
    ·exact UY b (hag h2).2 H
    ·exact UY b h2 H
  | _=>exact hplain h2
 | block id x ih=>
  intro b σ α F a w K h H
  simp only [den] at h
  refine wp_block (wp_mono (ih id h H) ?_)
  rintro e a' w' ⟨ex,σ',α',F',h1,h2,h3⟩
  cases e <;> simp only [TN,abr,reduceCtorEq] at h1
  ·subst h1; exact ⟨_,_,_,_,rfl,h2,h3⟩
  ·rename_i i
   subst h1
   simp only at h2
   unfold Exit.inBlock
   simp only
   cases hb:Nat.beq i id with
   | true=>
    rw [hb] at h2
    rw [if_pos (abw hb)]
    exact ⟨_,_,_,_,rfl,h2,h3⟩
   | false=>
    rw [hb] at h2
    rw [if_neg (Nat.ne_of_beq_eq_false hb)]
    exact ⟨_,_,_,_,rfl,h2,h3⟩
  ·subst h1; exact ⟨_,_,_,_,rfl,h2,h3⟩
 | loop x ih=>
  intro b σ α F a w K h H
  simp only [den] at h
  split at h
  ·rename_i ss rs hf
   split at h
   ·rename_i s hs
    obtain ⟨αl,Hl⟩:=CU hi rs H
    have hok:=Og Hl hs
    split at h
    ·rename_i c hc
     have H0:=Mi Hl hP (Dv.of hok hc)
     generalize hB:(fun (L:s.V→Option R) v=>den T hi n ag b x (CW s v) fun
      | .normal,σ'=>match I6 rs s (vo hi rs σ') with
       | some v'=>L v'
       | none=>none
      | e,σ'=>K e σ')=B at h
     have hBi:∀(L:s.V→Option R) v,B L v=den T hi n ag b x (CW s v) fun
      | .normal,σ'=>match I6 rs s (vo hi rs σ') with
       | some v'=>L v'
       | none=>none
      | e,σ'=>K e σ':=fun L v=>by rw [←hB]
     let I:Nat→Act→World→Prop:=fun m a w=>∃v α F,rounds B m v=some r∧Rel cx (CW s v) α F a w
     have hex:∀{m:Nat} {a:Act} {w:World},I m a w→∃m,I m a w:=fun h=>⟨_,h⟩
     classical
     refine wp_loop (fun a w=>∃m,I m a w) (fun a w=>if h:∃m,I m a w then Classical.choose (least h) else 0) ⟨_,_,_,_,h,H0⟩ ?_
     intro a w hI
     rw [dif_pos hI]
     have hI2:=(Classical.choose_spec (least hI)).1
     generalize Classical.choose (least hI)=m at hI2
     obtain ⟨v,α,F,h1,h2⟩:=hI2
     cases m with
     | zero=>simp [rounds] at h1
     | succ m=>
      have h1':B (rounds B m) v=some r:=h1
      rw [hBi] at h1'
      refine wp_mono (ih b h1' h2) ?_
      rintro e a' w' ⟨ex,σ',α',F',g1,g2,g3⟩
      cases e <;> simp only [TN,abr,reduceCtorEq] at g1
      ·subst g1
       simp only at g2
       split at g2
       ·rename_i v' hv'
        obtain ⟨αm,Hm⟩:=CU hi rs g3
        have hI':I m a' w':=⟨v',_,_,g2,Mi Hm hP (Dv.of hok hv')⟩
        refine ⟨⟨m,hI'⟩, ?_⟩
        rw [dif_pos ⟨m,hI'⟩]
        exact Nat.lt_succ_of_le ((Classical.choose_spec (least ⟨m,hI'⟩)).2 m hI')
       ·simp at g2
      ·subst g1; exact ⟨_,_,_,_,rfl,g2,g3⟩
      ·subst g1; exact ⟨_,_,_,_,rfl,g2,g3⟩
    ·simp at h
   ·simp at h
  ·simp at h
 | region id ops draw=>
  intro b σ α F a w K h H
  simp only [den] at h
  cases draw with
  | true=>
   have H':Rel cx σ α F a { w with drawn:=w.drawn+1 }:=H.drawn (w.drawn+1)
   exact wp_region_any hm (KQ hT hSt hC hnt (fun σ' α' F' a' w' h1 h2=>⟨_,_,_,_,rfl,h1,h2⟩) h H')
  | false=>
   refine wp_region ?_
   have:=F8 (P:=P) (Q:=QK cx K r) hT hSt hC hnt (fun σ' α' F' a' w' h1 h2=>⟨_,_,_,_,rfl,h1,h2⟩) ops.toList 0 (by simp) h H
   rw [Array.length_toList, ←List.range_eq_range'] at this
   exact this
 | _=>intro b σ α F a w K h; simp [den] at h
end
end
section
open Go
variable [Fr]
def JQ (a:Act):ResultVar→Sem Value
 | .tmp t=>pure (a.tmps.getD t undef)
 | .cell x t=>do loadVar t (←asAddr (a.tmps.getD x undef))
section
variable {P:Program} {T:gL} {cx:Cx} {σ:St} {α:dA} {F:List Nat} {a:Act} {w:World} {A:Type} {z:A}
theorem JE (hT:dO P T) (H:Rel cx σ α F a w) {t:TypeId} {x:AV} {v:Value} {mU:Bool} {k:AV→Prog A} (h1:bz cx σ α F w x v) (h2:l9 σ x) (h:(wF T mU t x k).ends σ z) :
  ∃y u,(do loadVar t (←asAddr v):Sem Value).run P w=.ok u w∧bz cx σ α F w y u∧l9 σ y∧(k y).ends σ z:=by
 have Ep:∀{b o:Nat} {u:Value},(Instr.loadAt t (.pointer (some ⟨b,o,none⟩))).run P w=.ok u w→v=.pointer (some ⟨b,o,none⟩)→(do loadVar t (←asAddr v):Sem Value).run P w=.ok u w:=by
  intro b o u h e
  subst e
  exact h
 unfold wF at h
 split at h
 ·exact h.elim
 ·rename_i kk hty
  have ht:=hT.ty t kk hty
  obtain ⟨s1,s2,s3⟩:=ht.shape
  split at h
  ·rename_i r g k0 p
   obtain ⟨u,b,off,k1,e,hq,hC,ho1,hR⟩:=h1
   obtain ⟨R,hr,hv,h⟩:=bU h
   rcases ah h with ⟨hc,h⟩ | ⟨_,h⟩
   ·simp only [aby] at hc
    cases hg:aI p R.k R.x with
    | none=>rw [hg] at h; exact h.elim
    | some dd=>
     rw [hg] at h
     simp only at h
     obtain ⟨dk,dx⟩:=dd
     rcases beq_true h with ⟨ek,h5⟩ | ⟨_,h⟩
     ·simp only at ek
      subst ek
      have hk0:=K.eq_of_beq hc.1.2
      subst hk0
      obtain ⟨hka,wC⟩:=hR R hr (abw hc.1.1)
      rw [wC.cells] at hC
      have hwn:dY α R r=none:=by unfold dY; rw [hka]
      obtain ⟨g1,g2,g3,g4,g5⟩:=zK (h:=hp w) p hg ho1 (H.roots r R hr).len
      simp only at g1
      subst g1
      have hown:∀t∈aa p R.k,aA t R.own=true:=fun t ht=>by rw [g5] at ht; simp at ht
      have hn:bn (hp w) p R.k (α.hdr r) (dY α R r)=some (((α.hdr r).drop off).take k1.size,none):=by rw [hwn]; exact g3
      obtain ⟨eX,hO,hf⟩:=oC H hr hv hg g4 hown hn
      have hV:=ku H hr hO hf
      have hcs:Cells (hp w) b off (((α.hdr r).drop off).take k1.size):=by
       intro i hi
       have hi':i<k1.size:=by rw [uE g2] at hi; exact hi
       have:=hC (off+i) (by omega)
       rw [Nat.zero_add] at this
       rw [this,List.getElem?_take_of_lt hi',List.getElem?_drop]
      obtain ⟨u',hu⟩:=VC.mk s1 s2 s3 hV
      have hrun:=nu (P:=P) ht hcs (jh hV) hu
      rcases ah h5 with ⟨hf,h6⟩ | ⟨_,h6⟩
      ·exact ⟨.val k1 dx [],u',Ep hrun e,fun _=>⟨_,hu,gN hf hV⟩,(fun t ht=>by simp at ht),h6⟩
      ·exact ⟨.mU r p R.pR,u',Ep hrun e,sW (cx:=cx) (F:=F) hr hg g4 hown hn hu,⟨R,hr.1, .inr (abI _)⟩,h6⟩
     ·exact h.elim
   ·exact h.elim
  rcases rD H h1 h2 h with ⟨r,R,p,dd,cs,b,q,hr,hv,hg,eZ,hown,hn,e,h⟩ | ⟨bt,dd,Tg,b,q,cs,hw,e,hcs,hV,hok,hb,h⟩
  ·obtain ⟨hC,⟨eX,hO,hf⟩,_⟩:=kV H hr hv hg eZ hown hn
   obtain ⟨dk,dx⟩:=dd
   rcases beq_true h with ⟨ek,h5⟩ | ⟨_,h⟩
   ·simp only at ek
    subst ek
    clear h
    have h:=h5
    clear h5
    have hV:=ku H hr hO hf
    obtain ⟨u,hu⟩:=VC.mk s1 s2 s3 hV
    have hrun:=nu (P:=P) ht hC (jh hV) hu
    rcases ah h with ⟨_,h⟩ | ⟨_,h⟩
    ·exact ⟨.mU r p R.pR,u,Ep hrun e,sW (cx:=cx) (F:=F) hr hg eZ hown hn hu,⟨R,hr.1, .inr (abI _)⟩,h⟩
    ·exact ⟨_,u,Ep hrun e,(show bz cx σ α F w (.val dk dx _) u from fun _=>⟨cs,hu,hV⟩),BP H hr _,h⟩
   ·exact h.elim
  ·obtain ⟨dk,dx⟩:=dd
   rcases beq_true h with ⟨ek,h5⟩ | ⟨_,h⟩
   ·simp only at ek
    subst ek
    clear h
    have h:=h5
    clear h5
    obtain ⟨u,hu⟩:=VC.mk s1 s2 s3 hV
    have hrun:=nu (P:=P) ht hcs (jh hV) hu
    refine ⟨_,u,Ep hrun e,(show bz cx σ α F w (.val dk dx _) u from fun _=>⟨cs,hu, ?_⟩), ?_,h⟩
    ·cases hf:dk.flat with
     | true=>exact gN hf hV
     | false=>exact hV
    ·cases hf:dk.flat with
     | true=>intro t ht; simp at ht
     | false=>exact hw
   ·exact h.elim
theorem wJ (hT:dO P T) (H:Rel cx σ α F a w) {own:Bool} {rv:ResultVar} {k:AV→Prog A} (h:(Gy T own rv k).ends σ z):∃y u,(JQ a rv).run P w=.ok u w∧bz cx σ α F w y u∧l9 σ y∧(k y).ends σ z:=by
 cases rv with
 | tmp t=>
  obtain ⟨v,h1,h2,h3⟩:=bI H h
  exact ⟨v,_,rfl,h1,h2,h3⟩
 | cell t ty=>
  obtain ⟨v,h1,h2,h3⟩:=bI H h
  exact JE hT H h1 h2 h3
def Fv (P:Program) (cx:Cx) (σ:St) (α:dA) (F:List Nat) (a:Act) (w:World):(rs:List wU)→List ResultVar→Cont (kK rs)→List Value→List (Value×gp)→List (List Tag)→Prop
 | [],[],_,[],[],[]=>True
 | .val k exts fU :: rs,rv :: ql,c,v :: vs,its,tg :: vH=>((JQ a rv).run P w=.ok v w∧(k.flat=true∨lI exts fU tg=true)∧M7 cx σ α F a w k c.1 tg v)∧Fv P cx σ α F a w rs ql c.2 vs its vH
 | .own k ow exts fU :: rs,rv :: ql,c,v :: vs,it :: its,vH=>((JQ a rv).run P w=.ok v w∧it.1=v∧qd cx σ α F w v it.2∧(∃e:it.2.k=k,c.1=e▸it.2.x)∧qY (k.tys.filter fun t=>aA t ow) it.2.own=true∧
   ((k.tys.all fun t=>aA t ow)=true∨lI exts fU it.2.tags=true))∧Fv P cx σ α F a w rs ql c.2 vs its vH
 | _,_,_,_,_,_=>False
theorem KT (hT:dO P T) (H:Rel cx σ α F a w):∀{rs:List wU} {ql:List ResultVar} {k:Cont (kK rs)→List gp→List (List Tag)→Prog A},(Ea T rs ql k).ends σ z→
  ∃c vs its vH,Fv P cx σ α F a w rs ql c vs its vH∧(k c (its.map (·.2)) vH).ends σ z:=by
 intro rs
 induction rs with
 | nil=>
  intro ql k h
  cases ql with
  | nil=>exact ⟨(),[],[],[],trivial,h⟩
  | cons _ _=>exact h.elim
 | cons r rs ih=>
  intro ql k h
  cases ql with
  | nil=>cases r <;> exact h.elim
  | cons rv ql=>
   cases r with
   | into _ _=>exact h.elim
   | ptr _ _ _ _=>exact h.elim
   | val kk exts fU=>
    simp only [Ea] at h
    obtain ⟨y,u,g1,g2,g3,h⟩:=wJ hT H h
    have hgo:∀(x:El kk) (tags:List Tag),M7 cx σ α F a w kk x tags u→(bif kk.flat || lI exts fU tags then Ea T rs ql fun c ts tg=>k (x,c) ts (tags :: tg) else .fail).ends σ z→
      ∃c vs its vH,Fv P cx σ α F a w (.val kk exts fU :: rs) (rv :: ql) c vs its vH∧(k c (its.map (·.2)) vH).ends σ z:=by
     intro x tags hv h
     rcases ah h with ⟨hb,h⟩ | ⟨_,h⟩
     ·obtain ⟨c,vs,its,vH,f1,f2⟩:=ih h
      exact ⟨(x,c),u :: vs,its,tags :: vH,⟨⟨g1,by simpa using hb,hv⟩,f1⟩,f2⟩
     ·exact h.elim
    have hval:(nW y fun k' x tags=>match bL k' kk x with
      | some y=>(bif kk.flat || lI exts fU (bif kk.flat then [] else tags) then Ea T rs ql fun c ts tg=>k (y,c) ts ((bif kk.flat then [] else tags) :: tg) else .fail)
      | none=>.fail).ends σ z→∃c vs its vH,Fv P cx σ α F a w (.val kk exts fU :: rs) (rv :: ql) c vs its vH∧(k c (its.map (·.2)) vH).ends σ z:=by
     intro h
     obtain ⟨k',x,Tg,f1,f5⟩:=yX H g2 g3 h
     cases hc:bL k' kk x with
     | none=>rw [hc] at f5; exact f5.elim
     | some y'=>
      rw [hc] at f5
      obtain ⟨ek,ey⟩:=bF hc
      subst ek
      simp only at ey
      subst ey
      cases hf:k'.flat with
      | true=>
       rw [hf] at f5
       exact hgo _ _ (f1.flat hf H) (by rw [hf]; exact f5)
      | false=>
       rw [hf] at f5
       exact hgo _ _ f1 (by rw [hf]; exact f5)
    cases y with
    | gK=>
     cases kk with
     | sl e kk=>
      obtain ⟨b,rfl⟩:=g2
      exact hgo [] [] ⟨[.slice b 0 0],wK,fun _ _ _ _=>⟨b,0,0,rfl,rfl,abI _,fun h=>by omega⟩⟩ h
     | _=>exact h.elim
    | undef=>exact hval h
    | val _ _ _=>exact hval h
    | ref _ _=>exact hval h
    | mU _ _ _=>exact hval h
    | ptr _ _ _=>exact hval h
    | gV _ _ _ _=>exact hval h
    | zo _ _ _ _=>exact hval h
    | sI _=>exact hval h
    | part _ _ _ _ _=>exact hval h
    | qE _ _ _ _=>exact hval h
    | app _ _ _ _=>exact hval h
    | mE=>exact hval h
    | fn _ _=>exact hval h
   | own kk ow exts fU=>
    simp only [Ea] at h
    obtain ⟨y,u,g1,g2,g3,h⟩:=wJ hT H h
    obtain ⟨tk,htk,h⟩:=lN H g2 g3 h
    cases hc:bL tk.k kk tk.x with
    | none=>rw [hc] at h; exact h.elim
    | some y'=>
     rw [hc] at h
     rcases ah h with ⟨hb,h⟩ | ⟨_,h⟩
     ·simp only [aby,Bool.or_eq_true] at hb
      obtain ⟨c,vs,its,vH,f1,f2⟩:=ih h
      exact ⟨(y',c),u :: vs,(u,tk) :: its,vH,⟨⟨g1,rfl,htk,bF hc,hb.1,hb.2⟩,f1⟩,f2⟩
     ·exact h.elim
theorem Jh {σ1:St} {fB:dA} {F1:List Nat} (H1:Rel cx σ1 fB F1 a w) (hV:Views cx σ α F w σ1 fB F1 w):∀{rs:List wU} {ql:List ResultVar} {c:Cont (kK rs)} {vs:List Value} {its:List (Value×gp)} {vH:List (List Tag)} {hs:List (List Value×List Nat)},
  Fv P cx σ α F a w rs ql c vs its vH→lY cx σ1 fB F1 w its hs→(∀t∈vH.flatten,Same σ α σ1 fB t.1)→
  ∃bE,Dw cx σ1 fB F1 w rs c vs bE∧bE.flatten=hs.flatMap (·.2)∧(∀b∈bE.flatten,b∈F1)∧(ql.mapM (JQ a)).run P w=.ok vs w:=by
 intro rs
 induction rs with
 | nil=>
  intro ql c vs its vH hs h hh _
  cases ql <;> cases vs <;> cases its <;> cases vH <;> first | exact h.elim | skip
  cases hs with
  | nil=>exact ⟨[],trivial,rfl,by simp,by simp⟩
  | cons _ _=>exact hh.elim
 | cons r rs ih=>
  intro ql c vs its vH hs h hh hS
  cases r with
  | into _ _=>cases ql <;> cases vs <;> exact h.elim
  | ptr _ _ _ _=>cases ql <;> cases vs <;> exact h.elim
  | val kk exts fU=>
   cases ql <;> cases vs <;> cases vH <;> first | exact h.elim | skip
   rename_i rv ql v vs tg vH
   obtain ⟨⟨h1,h2,cs,h3,h4⟩,h5⟩:=h
   obtain ⟨bE,f1,f2,f3,f4⟩:=ih h5 hh (fun t ht=>hS t (by simp only [List.flatten_cons,abB]; exact .inr ht))
   refine ⟨[] :: bE,⟨⟨rfl,tg,cs,h2,h3,h4 σ1 fB F1 ⟨H1,hV,fun t ht=>hS t (by simp only [List.flatten_cons,abB]; exact .inl ht)⟩⟩,f1⟩,by simpa using f2,by simpa using f3, ?_⟩
   simp [List.mapM_cons,h1,f4,Result.andThen]
  | own kk ow exts fU=>
   cases ql <;> cases vs <;> cases its <;> first | exact h.elim | skip
   rename_i rv ql v vs it its
   obtain ⟨⟨h1,h2,h3,⟨e,ex⟩,h4,h5⟩,h6⟩:=h
   cases hs with
   | nil=>exact hh.elim
   | cons q hs=>
    obtain ⟨⟨q1,q2,q3⟩,hh⟩:=hh
    obtain ⟨bE,f1,f2,f3,f4⟩:=ih h6 hh hS
    refine ⟨q.2 :: bE,⟨⟨it.2.tags,q.1,it.2.own,h5, ?_, ?_, ?_⟩,f1⟩,by simp [f2], ?_, ?_⟩
    ·intro t ht hm
     exact bu.2 (um.1 h4 t (abJ.2 ⟨ht,hm⟩))
    ·rw [←h2]; subst e; exact q1
    ·subst e
     rw [ex]
     exact q2.ow q3
    ·intro b hb
     rw [List.flatten_cons] at hb
     rcases abB.1 hb with h | h
     ·exact q2.sub b h
     ·exact f3 b h
    ·simp [List.mapM_cons,h1,f4,Result.andThen]
end
end
section
open Go
variable [Fr]
section
variable {P:Program} {T:gL} {hi:Hint} {n:Nat} {cx:Cx} {σ:St} {α:dA} {F:List Nat} {a:Act} {w:World}
theorem xO {i:Nat} {R:Root} (h:yJ σ i=some R):σ.roots (aL i)=some R∧bg σ R:=by
 unfold yJ at h
 split at h
 ·rename_i Q hQ
  cases hb:Q.aT || !aU σ Q.uK Q.tags with
  | true=>rw [hb] at h; simp at h
  | false=>
   rw [hb] at h
   simp only [cond_false,abr] at h
   subst h
   simp only [Bool.or_eq_false_iff,Bool.not_eq_false'] at hb
   exact ⟨hQ,hb⟩
 ·simp at h
theorem xm:∀{ps:List fG} {i:Nat} {d:Cont (kR ps)},jl σ ps i=some d→wT σ ps i d:=by
 intro ps
 induction ps with
 | nil=>intro i d _; trivial
 | cons p ps ih=>
  intro i d h
  cases p with
  | val k fU=>exact ih (show jl σ ps (i+1)=some d from h)
  | ro k=>exact ih (show jl σ ps (i+1)=some d from h)
  | own k ow=>exact ih (show jl σ ps (i+1)=some d from h)
  | fn f ks=>exact ih (show jl σ ps (i+1)=some d from h)
  | into j q=>exact ih (show jl σ ps (i+1)=some d from h)
  | rw k ow wt ht=>
   simp only [jl] at h
   split at h
   ·rename_i R d' hR hd
    obtain ⟨hb,h⟩:=nH h
    simp only [aby,Bool.or_eq_true] at hb
    obtain ⟨⟨b1,b2⟩,b3⟩:=hb
    obtain ⟨r1,r2⟩:=xO hR
    split at h
    ·rename_i x hx
     have h2:(x,d')=d:=ab1 h
     subst h2
     exact ⟨⟨R,r1,r2,bF hx,b1,b2,b3⟩,ih hd⟩
    ·simp at h
   ·simp at h
  | oV k ow wt=>
   simp only [jl] at h
   split at h
   ·rename_i R d' hR hd
    obtain ⟨hb,h⟩:=nH h
    simp only [aby,Bool.or_eq_true] at hb
    obtain ⟨⟨b1,b2⟩,b3⟩:=hb
    obtain ⟨r1,r2⟩:=xO hR
    split at h
    ·rename_i x hx
     have h2:(x,d')=d:=ab1 h
     subst h2
     exact ⟨⟨R,r1,r2,bF hx,b1,b2,b3⟩,ih hd⟩
    ·simp at h
   ·simp at h
theorem uj {fn:Func} {vs:List Value} (h:(fn.results.toList.mapM (JQ a)).run P w=.ok vs w):(results fn a.tmps).run P w=.ok (E9 vs) w:=by
 have h2:results fn a.tmps=(do
   let vs ←fn.results.mapM (JQ a)
   pure (if h:vs.size=1 then vs[0] else .tuple vs)):=by
  unfold results
  congr 1
 rw [h2,Array.mapM_eq_mapM_toList]
 simp only [abR,map_eq_pure_bind,h,abK,abW]
 match vs with
 | []=>rfl
 | [v]=>rfl
 | v :: u :: vs=>simp [E9]
theorem Qb (hT:dO P T) (H:Rel cx σ α F a w) {ps:List fG} {rs:List wU} {fn:Func} {out:Cont (kK rs++kR ps)} (h:fin T ps rs fn.results.toList σ=some out) :
  ∃v,(results fn a.tmps).run P w=.ok v w∧Post cx ps rs out v w:=by
 unfold fin at h
 obtain ⟨q,h1,h2⟩:=pK _ h
 obtain ⟨c,vs,its,vH,f1,f2⟩:=KT (P:=P) hT H h1
 rcases ah f2 with ⟨hb,f2⟩ | ⟨_,f2⟩
 ·have f2:q=_:=f2
  subst f2
  have e1:(its.map (·.2)).flatMap (·.ws)=nO its:=by simp [nO,List.flatMap_map]
  have e2:(its.map (·.2)).flatMap (·.tags)=lQ its:=by simp [lQ,List.flatMap_map]
  rw [e1,e2] at hb
  simp only [e1] at h2
  unfold wN sU at hb
  simp only [aby,oU,abH,Bool.not_eq_true',aO] at hb
  obtain ⟨b1,b2⟩:=hb
  have HZ:∀{rs:List wU} {ql:List ResultVar} {c:Cont (kK rs)} {vs:List Value} {its:List (Value×gp)} {vH:List (List Tag)},Fv P cx σ α F a w rs ql c vs its vH→∀it∈its,qd cx σ α F w it.1 it.2:=by
   intro rs
   induction rs with
   | nil=>intro ql c vs its vH h it hi; cases ql <;> cases vs <;> cases its <;> first | exact h.elim | simp at hi
   | cons r rs ih=>
    intro ql c vs its vH h it hi
    cases r with
    | into _ _=>cases ql <;> cases vs <;> exact h.elim
    | ptr _ _ _ _=>cases ql <;> cases vs <;> exact h.elim
    | val kk exts fU=>
     cases ql <;> cases vs <;> cases vH <;> first | exact h.elim | exact ih h.2 it hi
    | own kk ow exts fU=>
     cases ql <;> cases vs <;> cases its <;> first | exact h.elim | skip
     rcases abE.1 hi with h3 | h3
     ·subst h3; rw [h.1.2.1]; exact h.1.2.2.1
     ·exact ih h.2 it h3
  obtain ⟨fB,F1,hs,H1,g1,g2,g3,g4,g5,g6,g7,g8,g9⟩:=takes its H (HZ f1) b1 (fun t ht=>b2 t (abx _ ht))
  obtain ⟨bE,k1,k2,k3,k4⟩:=Jh H1 g7 f1 g1 (fun t ht=>g5 t.1 (b2 t (abu _ ht)))
  split at h2
  ·rename_i d hd
   simp only [abr] at h2
   subst h2
   refine ⟨E9 vs,uj k4,_,fB,F1,a,vs,bE,H1,rfl,by rw [vZ]; exact k1,by rw [k2]; exact g2,k3,by rw [wL]; exact xm hd⟩
  ·simp at h2
 ·exact f2.elim
theorem Mf {A:Type} {z:A} {t:TypeId} {kk:K} {ow:List TypeId} {exts:List Nat} {x:AV} {v:Value} {k:El kk→Nat→Prog A} (hx:bz cx σ α F w x v) (h:(NZ t kk ow exts x k).ends σ z) :
  ∃r R y b o,aM σ r R∧bg σ R∧R.kind=.var t∧qY (kk.tys.filter fun t=>aA t ow) R.own=true∧((kk.tys.all fun t=>aA t ow)=true∨lI exts [] R.tags=true)∧(∃e:R.k=kk,y=e▸R.x)∧dY α R r=some (b,o)∧v=.pointer (some ⟨b,o,none⟩)∧(k y r).ends σ z:=by
 cases x with
 | ptr r p n=>
  cases p with
  | cons s p=>exact h.elim
  | nil=>
   unfold NZ at h
   obtain ⟨R,hr,hv,h⟩:=bU h
   rcases ah h with ⟨hb,h⟩ | ⟨_,h⟩
   ·simp only [aby,Bool.or_eq_true] at hb
    obtain ⟨⟨b1,b2⟩,b3⟩:=hb
    have hk:R.kind=.var t:=by
     unfold Root.LA at b1
     split at b1
     ·rename_i u hu; rw [hu,abw b1]
     ·simp at b1
    cases hc:bL R.k kk R.x with
    | none=>rw [hc] at h; exact h.elim
    | some y=>
     rw [hc] at h
     obtain ⟨_,cs,b,o,hn,e⟩:=hx.2 R hr.1 hv (by unfold fI clean; simp [aA]) (fun t ht=>by simp [aa] at ht) rfl
     simp only [bn,abr,abD] at hn
     exact ⟨r,R,y,b,o,hr,hv,hk,b2,b3,bF hc,hn.2,e,h⟩
   ·exact h.elim
 | _=>exact h.elim
theorem KE (H:Rel cx σ α F a w) {j:Nat} {x:AV} {v:Value} {m:Int} (hx:bz cx σ α F w x v) (h:(cutV j x fun m=>(.ret m:Prog Int)).ends σ m) :
  ∃b n cp,v=.slice b m.toNat cp∧m.toNat≤n∧bz cx σ α F w (.ref (aL j) 0) (.slice b n cp):=by
 cases x with
 | ref r g=>
  simp only [cutV] at h
  rcases ah h with ⟨hc,h5⟩ | ⟨_,h5⟩
  ·clear h
   simp only [aby] at hc
   have e1:=abw hc.1
   have e2:=abw hc.2
   subst e1 e2
   obtain ⟨R,hr,hv,h⟩:=bU h5
   rcases ah h with ⟨hg,h⟩ | ⟨_,h⟩
   ·obtain ⟨h1,h2⟩:=hx R hr (abw hg)
    have hO:=(H.roots _ R hr).ow hv
    have hK:∀q:Dat,(⟨R.k,R.x⟩:Dat)=q→(match q.1,q.2 with
      | .sl _ kk,xs=>(.ret ((show List (El kk) from xs).length:Int):Prog Int)
      | _,_=>.fail).ends σ m→∃b n cp,v=.slice b m.toNat cp∧m.toNat≤n∧bz cx σ α F w (.ref (aL j) 0) (.slice b n cp):=by
     intro q hq hh
     obtain ⟨qk,qx⟩:=q
     cases qk with
     | sl e kk=>
      have hm:m=((show List (El kk) from qx).length:Int):=hh
      have hV:=iY (fun _=>True) (fun _ _=>trivial) (fun _ _=>trivial) hO
      have hV:=cast (congrArg (fun q:Dat=>Vw (hp w) (fun _=>True) q.1 q.2 (α.hdr (aL j))) hq) hV
      have wz:=cast (congrArg (fun q:Dat=>VC q.1 v (α.hdr (aL j))) hq) h2
      obtain ⟨b,n,c,g1,g2,g3,_⟩:=hV
      have wz:VC (.sl e kk) v (α.hdr (aL j)):=wz
      have g1:α.hdr (aL j)=[.slice b n c]:=g1
      have h3:=wz.1
      rw [g1] at h3
      simp only [List.cons.injEq,and_true] at h3
      have g2:n=(show List (El kk) from qx).length:=g2
      refine ⟨b,n,c,by rw [hm, ←g2]; simpa using h3.symm,by rw [hm, ←g2]; simp,by rw [h3]; exact hx⟩
     | _=>exact hh.elim
    exact hK _ rfl h
   ·exact h.elim
  ·exact h5.elim
 | part r g lo hi sz=>
  simp only [cutV] at h
  rcases ah h with ⟨hc,h5⟩ | ⟨_,h5⟩
  ·clear h
   simp only [aby] at hc
   have e1:=abw hc.1.1
   have e2:=abw hc.1.2
   have e3:=abw hc.2
   subst e1 e2 e3
   have hm:m=(hi:Int):=h5
   obtain ⟨b',b,n,c,g1,g2,g3,g4,g5,g6⟩:=hx
   have hb:b'=b:=by rw [g2 (.inl rfl)]; simp [add_zero]
   subst hb
   exact ⟨b',n,c,by rw [g1,hm]; simp,by rw [hm]; simpa using g4,g6⟩
  ·exact h5.elim
 | _=>exact h.elim
theorem Ns (hT:dO P T) (H:Rel cx σ α F a w) {ps:List fG} {rs:List wU} {fn:Func} {out:Cont (kK rs++kR ps)} (h:Nr T ps rs fn.results.toList σ=some out) :
  ∃v,(results fn a.tmps).run P w=.ok v w∧Post cx ps rs out v w:=by
 obtain ⟨ql,Pb⟩:∃ql,fn.results.toList=ql:=⟨_,rfl⟩
 rw [Pb] at h
 have other:fin T ps rs ql σ=some out→∃v,(results fn a.tmps).run P w=.ok v w∧Post cx ps rs out v w:=fun h=>Qb hT H (by rw [Pb]; exact h)
 cases rs with
 | nil=>exact other h
 | cons q rs=>
  cases q with
  | val _ _ _=>exact other h
  | own _ _ _ _=>exact other h
  | into j q=>
   cases rs with
   | cons _ _=>cases q <;> exact other h
   | nil=>
    cases q with
    | cons _ _=>exact other h
    | nil=>
     match ql,Pb,h,other with
     | [],_,h,other=>exact other h
     | _ :: _ :: _,_,h,other=>exact other h
     | [rv],Pb,h,_=>
      have h:((Gy T false rv fun a=>cutV j a fun m=>.ret m:Prog Int).run σ fun m=>
        match jl σ ps 0 with
        | some d=>some (m,d)
        | none=>none)=some out:=h
      obtain ⟨m,h1,h2⟩:=pK _ h
      obtain ⟨y,u,g1,g2,_,h1⟩:=wJ hT H h1
      obtain ⟨b,n,cp,e1,e2,e3⟩:=KE H g2 h1
      split at h2
      ·rename_i d hd
       have h2:some ((m,d):Cont (kK [wU.into j []]++kR ps))=some out:=h2
       have h2:=ab1 h2
       subst h2
       exact ⟨_,uj (vs:=[_]) (by rw [Pb]; simp [List.mapM_cons,g1,Result.andThen]),_,_,_,a,[_],[[]],H,rfl,⟨⟨rfl,rfl,b,n,cp,e1,e2,e3⟩,trivial⟩,by simp,by simp,xm hd⟩
      ·simp at h2
  | ptr t kk ow exts=>
   cases rs with
   | cons _ _=>exact other h
   | nil=>
    match ql,Pb,h,other with
    | [],_,h,other=>exact other h
    | _ :: _ :: _,_,h,other=>exact other h
    | [rv],Pb,h,_=>
     have h:((Gy T false rv fun a=>NZ t kk ow exts a fun y r=>.ret (y,r):Prog (El kk×Nat)).run σ fun q=>
       match jl (aj [.r q.2 none] σ) ps 0 with
       | some d=>some (q.1,d)
       | none=>none)=some out:=h
     obtain ⟨q,h1,h2⟩:=pK _ h
     obtain ⟨y,u,g1,g2,_,h1⟩:=wJ hT H h1
     obtain ⟨r,R,x,b,o,hr,hv,hk,b2,b3,ex,sH,rfl,h1⟩:=Mf g2 h1
     have h1:q=(x,r):=h1
     subst h1
     obtain ⟨k1,k2,k3,k4⟩:=U0 H hr (by rw [hk]; simp) hv
     have hblk:blk α R r=b :: α.fo r:=by unfold blk; rw [sH]; rfl
     have K:=H.roots r R hr
     have hnd:=K.nd
     rw [hblk] at hnd
     split at h2
     ·rename_i d hd
      have h2:some ((x,d):Cont (kK [wU.ptr t kk ow exts]++kR ps))=some out:=h2
      have h2:=ab1 h2
      subst h2
      refine ⟨_,uj (vs:=[_]) (by rw [Pb]; simp [List.mapM_cons,g1,Result.andThen]),_,_,_,a,[_],[b :: α.fo r],k1,rfl,⟨⟨b,o,R.tags,α.hdr r,R.own,α.fo r,rfl,rfl,b3, ?_, ?_, ?_⟩,trivial⟩,by simpa using hnd, ?_,xm hd⟩
      ·intro u hu hm
       exact bu.2 (um.1 b2 u (abJ.2 ⟨hu,hm⟩))
      ·obtain ⟨m1,arr,e,lo,hi,m2,m3,m4,m5⟩:=K.mem b o sH
       obtain ⟨ek,_⟩:=ex
       exact ⟨m1,arr,e,lo,hi,m2,m3,by rw [←ek]; exact m4,m5 t hk⟩
      ·obtain ⟨ek,ey⟩:=ex
       subst ek
       simp only at ey
       subst ey
       exact k3.ow k4
      ·intro c hc
       simp only [List.flatten_cons,List.flatten_nil,abV] at hc
       exact abx _ (by rw [hblk]; exact hc)
     ·simp at h2
def Cx.L6 (cx:Cx) (m:Nat):Cx:={ cx with nt:=m }
theorem w9 {m:Nat}:∀{cs:List (TypeId×Dat×List Tag)} {vs:List Value},jE (cx.L6 m) σ α F w cs vs↔jE cx σ α F w cs vs
 | [],[]=>Iff.rfl
 | c :: cs,v :: vs=>and_congr Iff.rfl w9
 | [],_ :: _=>Iff.rfl
 | _ :: _,[]=>Iff.rfl
theorem GY {m:Nat} {x:AV} {v:Value}:bz (cx.L6 m) σ α F w x v↔bz cx σ α F w x v:=by
 cases x with
 | fn f cs=>
  constructor
  ·rintro ⟨vs,h1,h2⟩; exact ⟨vs,h1,w9.1 h2⟩
  ·rintro ⟨vs,h1,h2⟩; exact ⟨vs,h1,w9.2 h2⟩
 | _=>exact Iff.rfl
theorem qV {m:Nat}:∀{l:List AV} {vs:List Value},dJ (cx.L6 m) σ α F w l vs↔dJ cx σ α F w l vs
 | [],[]=>Iff.rfl
 | c :: cs,v :: vs=>and_congr GY qV
 | [],_ :: _=>Iff.rfl
 | _ :: _,[]=>Iff.rfl
theorem Ka {m:Nat} {x:qH} {v:Value}:iK (cx.L6 m) σ α F w x v↔iK cx σ α F w x v:=by
 cases x with
 | one x=>exact GY
 | Cb l=>
  constructor
  ·rintro ⟨vs,h1,h2⟩; exact ⟨vs,h1,qV.1 h2⟩
  ·rintro ⟨vs,h1,h2⟩; exact ⟨vs,h1,qV.2 h2⟩
 | lit _ _ l=>
  constructor
  ·rintro ⟨vs,cs,h1,h2⟩; exact ⟨vs,cs,h1,qV.1 h2⟩
  ·rintro ⟨vs,cs,h1,h2⟩; exact ⟨vs,cs,h1,qV.2 h2⟩
theorem Rel.L6 {a':Act} (H:Rel cx σ α F a w) {m:Nat} (hd:a'.defers=[]) (hm:m≤a'.tmps.size) (hs:∀s,a'.tmps.getD s undef=a.tmps.getD s undef):Rel (cx.L6 m) σ α F a' w where
 defs:=hd
 sz:=hm
 kP:=H.kP
 yx:=H.yx
 slots:=fun s=>by rw [hs s]; exact Ka.2 (H.slots s)
 mH:=H.mH
 roots:=fun r R hr=>by
  obtain ⟨o1,o2,o3,o4,o5⟩:=H.roots r R hr
  exact ⟨o1,o2,o3,o4,o5⟩
 cB:=H.cB
 yI:=H.yI
 fl:=H.fl
 rZ:=H.rZ
 gQ:=H.gQ
 frame:=H.frame
 tJ:=H.tJ
 pG:=H.pG
 tK:=H.tK
 tL:=H.tL
theorem Es:∀{ps:List fG} {i:Nat} {c:Cont (kin ps)} {r:Nat} {R:Root},iF (iL ps i c) r=some R→∃j p cj,r=aL (i+j)∧ps[j]?=some p∧dH p (i+j) cj=some R:=by
 intro ps
 induction ps with
 | nil=>intro i c r R h; simp [iL,iF] at h
 | cons p ps ih=>
  intro i c r R h
  rw [pg,qW] at h
  have hrec:iF (iL ps (i+1) (Pv p ps c)) r=some R→∃j q cj,r=aL (i+j)∧(p :: ps)[j]?=some q∧dH q (i+j) cj=some R:=by
   intro h
   obtain ⟨j,q,cj,h1,h2,h3⟩:=ih h
   have e:i+1+j=i+(j+1):=by omega
   exact ⟨j+1,q,cj,by rw [h1,e],by simpa using h2,by rw [←e]; exact h3⟩
  cases hr:dH p i (K5 p ps c) with
  | none=>rw [hr] at h; exact hrec h
  | some Q=>
   rw [hr] at h
   simp only [iF] at h
   cases hb:Nat.beq r (aL i) with
   | true=>
    rw [hb] at h
    have h':Q=R:=by simpa using h
    exact ⟨0,p,K5 p ps c,abw hb,rfl,by rw [←h']; exact hr⟩
   | false=>rw [hb] at h; exact hrec h
theorem F9:∀{ps:List fG} {i j:Nat} {k:K},sP ps j k→∃l,gT (aL (i+j)) (pI ps i)=some (k,l):=by
 intro ps
 induction ps with
 | nil=>intro i j k h; obtain ⟨ow,wt,ht,h | h⟩:=h <;> simp at h
 | cons p ps ih=>
  intro i j k h
  have hne:∀j,Nat.beq (aL (i+(j+1))) (aL i)=false:=fun j=>by
   cases h:Nat.beq (aL (i+(j+1))) (aL i) with
   | true=>
    have:=abw h
    unfold aL at this
    omega
   | false=>rfl
  cases j with
  | zero=>
   obtain ⟨ow,wt,ht,h | h⟩:=h
   ·simp only [List.getElem?_cons_zero,abr] at h
    subst h
    exact ⟨(wt,ht),by simp [pI,gT]⟩
   ·simp only [List.getElem?_cons_zero,abr] at h
    subst h
    exact ⟨(wt,k.tys),by simp [pI,gT]⟩
  | succ j=>
   have h':sP ps j k:=by
    obtain ⟨ow,wt,ht,h⟩:=h
    exact ⟨ow,wt,ht,by simpa using h⟩
   obtain ⟨l,hl⟩:=ih (i:=i+1) h'
   have e:i+1+j=i+(j+1):=by omega
   rw [e] at hl
   cases p <;> first | exact ⟨l,by simp only [pI,gT,hne j,cond_false]; exact hl⟩ | exact ⟨l,hl⟩
theorem EM {ps:List fG} {c:Cont (kin ps)} (hP:Cj cx ps) (H:Rel cx (dN ps c) α F a w) (m:Nat):Fz (cx.L6 m) (pI ps 0):=by
 have hf:∀{j:Nat} {k:K},sP ps j k→∃l,gT (aL j) (pI ps 0)=some (k,l):=fun {j} {k} h=>by
  have:=F9 (i:=0) h
  simpa using this
 refine ⟨fun j pi hj h=>?_,fun j p ts v hv=>?_,fun j v hv=>?_⟩
 ·rcases h with h | ⟨⟨b,o,n⟩,h⟩
  ·obtain ⟨k,hk⟩:=hP.par j pi hj h
   obtain ⟨l,hl⟩:=hf hk
   exact ⟨_,hl⟩
  ·obtain ⟨R,hR,hk,_⟩:=H.kP j pi b o n hj h
   obtain ⟨j',p,cj,h1,h2,h3⟩:=Es (show iF (iL ps 0 c) (aL j)=some R from hR.1)
   have e:j=j':=by unfold aL at h1; omega
   subst e
   have:∃k,sP ps j k:=by
    cases p with
    | rw k ow wt ht=>exact ⟨k,ow,wt,ht, .inl h2⟩
    | oV k ow wt=>exact ⟨k,ow,wt,[], .inr h2⟩
    | own k ow=>
     have h4:=ab1 h3
     rw [←h4] at hk
     simp [aD] at hk
    | _=>simp [dH] at h3
   obtain ⟨k,hk⟩:=this
   obtain ⟨l,hl⟩:=hf hk
   exact ⟨_,hl⟩
 ·obtain ⟨k,hk,e⟩:=hP.ptr j p ts v hv
  obtain ⟨l,hl⟩:=hf hk
  exact ⟨k,l,hl,e⟩
 ·obtain ⟨k,hk⟩:=hP.ref j v hv
  obtain ⟨l,hl⟩:=hf hk
  exact ⟨_,hl⟩
theorem FV (hm:P.follows .mixedOrders=true) (hT:dO P T) (hSt:AO P T) {E:Entry} {fn:Func} (hf:P.funcs[E.f]?=some fn) (hname:(fn.name == "runtime.NumGoroutine")=false) {m:Nat} (hC:nZ P m hi)
  (hF:∀c out,E.F n c=some out→Ni T hi fn E.ps E.rs m c=some out):aG P n E:=by
 intro c out hout cx α args w hnt hw hsz hP H
 have h:=hF c out hout
 unfold Ni at h
 cases hb:fn.body with
 | none=>rw [hb] at h; simp at h
 | some code=>
  rw [hb] at h
  simp only at h
  refine .inl ⟨Go.MuLone.run_callFunc_enter hf hname hb args w,calls_of_wp hf hb ?_⟩
  have H2:Rel (cx.L6 fn.ntmps) (dN E.ps c) α [] { tmps:=args++Array.replicate (fn.ntmps - args.size) undef,defers:=[] } w:=by
   refine H.L6 rfl (by simp; omega) fun s=>?_
   simp only [Array.getD_eq_getD_getElem?]
   rw [Array.getElem?_append]
   split
   ·rfl
   ·rename_i hlt
    rw [Array.getElem?_eq_none (by omega:args.size≤s)]
    rw [Array.getElem?_replicate]
    split <;> rfl
  have hC':nZ P m { hi with nt:=fn.ntmps,gU:=pI E.ps 0 }:=hC
  refine wp_mono (Qa Kr hm hT hSt hC' rfl (EM hP H _) code 0 h H2) ?_
  have hend:∀{σ':St} {α':dA} {F':List Nat} {a':Act} {w':World},Nr T E.ps E.rs fn.results.toList σ'=some out→Rel (cx.L6 fn.ntmps) σ' α' F' a' w'→
    a'.defers=[]∧∃v,(results fn a'.tmps).run P w'=.ok v w'∧∃v',Ending.returned v=.returned v'∧Post cx E.ps E.rs out v' w':=by
   intro σ' α' F' a' w' h1 H3
   have H4:Rel cx σ' α' F' a' w':=by
    have:=H3.L6 (m:=0) (a':=a') H3.defs (ab0 _) (fun _=>rfl)
    obtain ⟨nt,w0,ext,par,ptrs,refs⟩:=cx
    simp only at hnt
    subst hnt
    exact this
   obtain ⟨v,v1,v2⟩:=Ns (P:=P) hT H4 h1
   exact ⟨H3.defs,v,v1,v,rfl,v2⟩
  rintro e a' w' ⟨ex,σ',α',F',h1,h2,h3⟩
  cases e <;> simp only [TN,abr,reduceCtorEq] at h1
  ·subst h1; exact hend h2 h3
  ·subst h1; simp at h2
  ·subst h1; exact hend h2 h3
end
end
section
open Go
variable [Fr]
def yR (W:World):(ps:List fG)→Cont (kin ps)→List Value→Prop
 | [],_,[]=>True
 | .val k [] :: ps,c,v :: vs=>(∃cs,VC k v cs∧Vw (hp W) (fun b=>b<W.heap.size) k c.1 cs)∧yR W ps c.2 vs
 | _,_,_=>False
def Dt (W W':World):Prop:=W'.os=W.os∧W'.output=W.output∧W.heap.size≤W'.heap.size∧∀b,b<W.heap.size→hp W' b=hp W b
def tN (W:World):Cx:={ nt:=0,w0:=W,ext:=fun _ b=>b<W.heap.size,par:=fun _=>none,ptrs:=fun _ _ _ _=>False,refs:=fun _ _=>False }
def LY:dA:={ loc:=fun _=>(0,0),hdr:=fun _=>[],fo:=fun _=>[] }
section
variable {P:Program} {W:World}
theorem yR.roots:∀{ps:List fG} {c:Cont (kin ps)} {vs:List Value} {i:Nat},yR W ps c vs→iL ps i c=[]∧vs.length=ps.length
 | [],_,[],_,_=>⟨rfl,rfl⟩
 | [],_,_ :: _,_,h=>h.elim
 | .val k [] :: ps,c,v :: vs,i,h=>by
  obtain ⟨h1,h2⟩:=yR.roots (i:=i+1) h.2
  exact ⟨h1,by simp [h2]⟩
 | .val k (_ :: _) :: ps,c,vs,_,h=>by cases vs <;> exact h.elim
 | .val k [] :: ps,c,[],_,h=>h.elim
 | .ro _ :: _,_,vs,_,h=>by cases vs <;> exact h.elim
 | .rw _ _ _ _ :: _,_,vs,_,h=>by cases vs <;> exact h.elim
 | .oV _ _ _ :: _,_,vs,_,h=>by cases vs <;> exact h.elim
 | .own _ _ :: _,_,vs,_,h=>by cases vs <;> exact h.elim
 | .fn _ _ :: _,_,vs,_,h=>by cases vs <;> exact h.elim
 | .into _ _ :: _,_,vs,_,h=>by cases vs <;> exact h.elim
theorem yR.slots {σ:St} (hσ:∀r R,¬aM σ r R):∀{ps:List fG} {c:Cont (kin ps)} {vs:List Value} {i:Nat},yR W ps c vs→∀s,(∀v,vs[s - i]?=some v→i≤s→iK (tN W) σ LY [] W (mM (jo ps i c) s) v)∧((vs[s - i]?=none∨s<i)→mM (jo ps i c) s=.one .undef)∧rF σ (mM (jo ps i c) s)
 | [],_,[],_,_=>fun s=>⟨fun v h=>by simp at h,fun _=>rfl,trivial⟩
 | [],_,_ :: _,_,h=>h.elim
 | .val k [] :: ps,c,v :: vs,i,h=>by
  intro s
  have ih:=yR.slots hσ (i:=i+1) h.2 s
  simp only [jo,mM]
  cases hb:Nat.beq s i with
  | true=>
   have:=abw hb
   subst this
   simp only [Nat.sub_self,List.getElem?_cons_zero,abr,cond_true]
   refine ⟨fun u hu _=>?_,fun h=>by rcases h with h | h; simp at h; omega, ?_⟩
   ·subst hu
    intro _
    obtain ⟨cs,h1,h2⟩:=h.1
    refine ⟨cs,h1, ?_⟩
    cases hf:k.flat with
    | true=>exact gN hf h2
    | false=>
     refine eT (fun _ _=>rfl) (fun b hb=>⟨hb,by simp, ?_,fun r R hr=>absurd hr (hσ r R),fun _=>.inl ⟨s,0,by simp,hb⟩⟩) h2
     rintro ⟨j,pi,o,n,h3,_⟩
     simp [tN] at h3
   ·intro t ht
    cases hf:k.flat with
    | true=>rw [hf] at ht; simp at ht
    | false=>
     rw [hf] at ht
     simp only [cond_false,List.map_nil,abL] at ht
     subst ht
     exact .inl (iV s)
  | false=>
   have hne:=Nat.ne_of_beq_eq_false hb
   simp only [cond_false]
   refine ⟨fun u hu hle=>?_,fun hh=>?_,ih.2.2⟩
   ·refine ih.1 u ?_ (by omega)
    have e:s - i=(s - (i+1))+1:=by omega
    rw [e] at hu
    simpa using hu
   ·refine ih.2.1 ?_
    rcases hh with hh | hh
    ·by_cases hlt:s<i
     ·exact .inr (by omega)
     ·have e:s - i=(s - (i+1))+1:=by omega
      rw [e] at hh
      exact .inl (by simpa using hh)
    ·exact .inr (by omega)
 | .val k (_ :: _) :: ps,c,vs,_,h=>by cases vs <;> exact h.elim
 | .val k [] :: ps,c,[],_,h=>h.elim
 | .ro _ :: _,_,vs,_,h=>by cases vs <;> exact h.elim
 | .rw _ _ _ _ :: _,_,vs,_,h=>by cases vs <;> exact h.elim
 | .oV _ _ _ :: _,_,vs,_,h=>by cases vs <;> exact h.elim
 | .own _ _ :: _,_,vs,_,h=>by cases vs <;> exact h.elim
 | .fn _ _ :: _,_,vs,_,h=>by cases vs <;> exact h.elim
 | .into _ _ :: _,_,vs,_,h=>by cases vs <;> exact h.elim
theorem QO (hfr:∀b,Fr.free b→b<W.heap.size∧hp W b=Fr.obj b) {ps:List fG} {c:Cont (kin ps)} {args:Array Value} (hV:yR W ps c args.toList):Rel (tN W) (dN ps c) LY [] ⟨args,[]⟩ W:=by
 have hr0:∀r,(dN ps c).roots r=none:=fun r=>by
  show iF (iL ps 0 c) r=none
  rw [(hV.roots (i:=0)).1]
  rfl
 have hno:∀r R,¬aM (dN ps c) r R:=fun r R h=>by have h2:=h.1; rw [hr0 r] at h2; simp at h2
 have hs:=fun s=>yR.slots hno (i:=0) hV s
 refine ⟨rfl,ab0 _,fun j pi b o n h=>by simp [tN] at h,fun r R h=>absurd h (hno r R),fun s=>?_,fun s=>(hs s).2.2,fun r R h=>absurd h (hno r R),fun r R h=>by rw [hr0 r] at h; simp at h,
  fun r R _ _ h=>absurd h (hno r R),fun b h=>by simp at h,List.nodup_nil,fun r R h=>absurd h (hno r R),⟨rfl,rfl,rfl,abI _,fun _ _ _=>rfl,fun j pi b o n h=>by simp [tN] at h⟩,
  fun j pi h=>by simp [tN] at h,⟨fun j pi h=>by simp [tN] at h,fun b hb=>⟨(hfr b hb).1,fun j pi h=>by simp [tN] at h⟩,fun b hb=>(hfr b hb).2⟩,fun j p ts v h=>h.elim,fun j v h=>h.elim⟩
 obtain ⟨h1,h2,_⟩:=hs s
 cases hv:args.toList[s]? with
 | none=>
  have:=h2 (.inl (by simpa using hv))
  rw [show (dN ps c).slots s=.one .undef from this]
  trivial
 | some v=>
  have:=h1 v (by simpa using hv) (ab0 _)
  have e:args.getD s undef=v:=by
   rw [Array.getElem?_toList] at hv
   simp [Array.getD_eq_getD_getElem?,hv]
  show iK _ _ _ _ _ _ (args.getD s undef)
  rw [e]
  exact this
theorem LD (hfr:∀b,Fr.free b→b<W.heap.size∧hp W b=Fr.obj b) {f:FuncId} {ps:List fG} {F:Nat→Cont (kin ps)→Option (Cont (kK [.val .bool [] []]++kR ps))} {n:Nat} (hE:aG P n ⟨f,ps,[.val .bool [] []],F⟩)
  {c:Cont (kin ps)} {out:Cont (kK [.val .bool [] []]++kR ps)} (hF:F n c=some out) (ht:out.1=true) {args:Array Value} (hV:yR W ps c args.toList) (hcall:(callFunc f args).run P W=.ok (.enter f args) W) :
  Calls P f args W fun e W'=>e=.returned (.bool true)∧Dt W W':=by
 have h:=hE c out hF (tN W) LY args W rfl rfl (by rw [←Array.length_toList,(hV.roots (i:=0)).2]) ⟨fun j pi h=>by simp [tN] at h,fun j p ts v h=>h.elim,fun j v h=>h.elim⟩ (QO hfr hV)
 rcases h with ⟨_,h⟩ | ⟨v,w',h,_⟩
 ·refine h.mono ?_
  rintro e W' ⟨v,rfl,σ,α,F',a,vs,bE,H,rfl,hR,_⟩
  refine ⟨?_,H.frame.1,H.frame.2.2.1,H.frame.2.2.2.1,fun b hb=>H.frame.2.2.2.2.1 b hb (fun j pi h=>by simp [tN] at h)⟩
  cases vs with
  | nil=>exact hR.elim
  | cons v vs=>
   cases bE with
   | nil=>exact hR.elim
   | cons fo bE=>
    obtain ⟨⟨_,T,cs,_,hv,hw⟩,hr⟩:=hR
    cases vs with
    | cons _ _=>exact hr.elim
    | nil=>
     obtain ⟨e1,_⟩:=hv
     have e2:cs=[.bool out.1]:=hw
     rw [e1,ht] at e2
     simp only [List.cons.injEq,and_true] at e2
     subst e2
     rfl
 ·rw [hcall] at h
  simp at h
end
end
section
open Go
mutual
def MJ {H:Type}:DataW H→Nat
 | .lit (.string bytes)=>bytes.length+1
 | .lit _=>1
 | .nil=>1
 | .ptr d=>MJ d+1
 | .slice elems spare=>ym elems+ym spare+1
 | .agg parts=>ym parts+1
 | .iface _ d=>MJ d+1
 | .map _=>1
 | .held _=>1
def ym {H:Type}:List (DataW H)→Nat
 | []=>0
 | d :: r=>MJ d+ym r
end
def Ih:(k:K)→El k→Nat
 | .int _,_=>1
 | .bool,_=>1
 | .str,s=>(show List Int from s).length+1
 | .sl _ k,xs=>((show List (El k) from xs).map (Ih k)).sum+1
 | .unit,_=>0
 | .pair a b,x=>Ih a x.1+Ih b x.2
 | .st f,x=>Ih f x+1
 | .gap _,_=>0
 | .id _,_=>1
def xV:(k:K)→El k→Prop
 | .int ik,x=>Al ik x
 | .str,s=>(show List Int from s).length≤9223372036854775807∧∀b∈(show List Int from s),0≤b∧b<256
 | .sl _ k,xs=>(show List (El k) from xs).length≤9223372036854775807∧∀x∈(show List (El k) from xs),xV k x
 | .pair a b,x=>xV a x.1∧xV b x.2
 | .st f,x=>xV f x
 | _,_=>True
theorem DV {A:Type} {p:Nat→A→Prop}:∀{n:Nat},(∀i,i<n→∃x,p i x)→∃xs:List A,xs.length=n∧∀i (h:i<xs.length),p i xs[i]:=by
 intro n h
 induction n with
 | zero=>exact ⟨[],rfl,fun i h=>by simp at h⟩
 | succ n ih=>
  obtain ⟨xs,h1,h2⟩:=ih (fun i hi=>h i (by omega))
  obtain ⟨x,hx⟩:=h n (by omega)
  refine ⟨xs++[x],by simp [h1],fun i hi=>?_⟩
  rw [List.getElem_append]
  split
  ·exact h2 i _
  ·have:i=n:=by simp [h1] at hi; omega
   subst this
   simpa using hx
theorem Mv {A H:Type} {f:A→Nat}:∀{xs:List A} {ds:List (DataW H)},xs.length=ds.length→(∀i (h:i<xs.length) (h':i<ds.length),f xs[i]≤MJ ds[i])→(xs.map f).sum≤ym ds
 | [],[],_,_=>abI _
 | x :: xs,d :: ds,hl,h=>by
  simp only [List.map_cons,List.sum_cons,ym]
  have h0:=h 0 (by simp) (by simp)
  have:=Mv (xs:=xs) (ds:=ds) (by simpa using hl) (fun i h1 h2=>by
   have:=h (i+1) (by simp; omega) (by simp; omega)
   simpa using this)
  simp only [List.getElem_cons_zero] at h0
  omega
 | [],_ :: _,hl,_=>by simp at hl
 | _ :: _,[],hl,_=>by simp at hl
section
variable {P:Program} {T:gL} {W:World} {H:Type} {enc:TypeId×Value→H}
def Ty [Fr] (W:World) (k:K) (cs:List Value) (d:DataW H):Prop:=∃x:El k,Vw (hp W) (fun b=>b<W.heap.size) k x cs∧Ih k x≤MJ d∧xV k x
theorem rT {t:TypeId} {k:K} (h:mP P t k):P.cellsOf t=k.size:=by
 obtain ⟨i,h1,h2,_⟩:=h
 simp [Program.cellsOf,h1,h2]
theorem JZ [Fr] (hid:T.ids=false) (hfr:∀b,b<W.heap.size→Fr.free b):∀(k:K),
  (∀t n cs d ps,(iC P T k).1 t→DataW.trod enc P W 0 (fun _=>true) true n t cs=some (d,ps)→Ty W k cs d)∧
  (∀(fs:List Field) off n (cs:List Value) (xs:List (DataW H×List MemPlace)),(iC P T k).2 fs off→cs.length=off+k.size→xs.length=fs.length→
   (∀(i:Nat) f,fs[i]?=some f→DataW.trod enc P W 0 (fun _=>true) true n f.type ((cs.drop f.offset).take (P.cellsOf f.type))=xs[i]?)→
   ∃x:El k,Vw (hp W) (fun b=>b<W.heap.size) k x (cs.drop off)∧Ih k x≤ym (xs.map (·.1))∧xV k x):=by
 intro k
 induction k with
 | int ik=>
  refine ⟨fun t n cs d ps ht h=>?_,fun _ _ _ _ _ h=>h.elim⟩
  obtain ⟨m,rfl,e,hw⟩:=DataW.trod_int ht.1 h
  simp only [abD] at e
  obtain ⟨rfl,rfl⟩:=e
  have hr:Al ik m:=by
   cases ik <;> simp [Al]
   simp [Lit.wf,IntKind.min,IntKind.max,IntKind.signed,IntKind.bits] at hw
   omega
  exact ⟨m,⟨rfl,hr⟩,abI _,hr⟩
 | bool=>
  refine ⟨fun t n cs d ps ht h=>?_,fun _ _ _ _ _ h=>h.elim⟩
  obtain ⟨b,rfl,e⟩:=DataW.trod_bool ht.1 h
  simp only [abD] at e
  obtain ⟨rfl,rfl⟩:=e
  exact ⟨b,rfl,abI _,trivial⟩
 | str=>
  refine ⟨fun t n cs d ps ht h=>?_,fun _ _ _ _ _ h=>h.elim⟩
  obtain ⟨s,rfl,e,hsz⟩:=DataW.trod_string ht.1 h
  simp only [abD] at e
  obtain ⟨rfl,rfl⟩:=e
  exact ⟨bytesOf s,⟨s,rfl,rfl⟩,by simp [Ih,MJ,bytesOf],by
   unfold maxLen at hsz
   have:(bytesOf s).length=s.size:=by simp [bytesOf]
   refine ⟨(show (bytesOf s).length≤9223372036854775807 by omega),fun b hb=>?_⟩
   have hb':b∈bytesOf s:=hb
   unfold bytesOf at hb'
   obtain ⟨x,_,rfl⟩:=ab2.1 hb'
   have:=x.toNat_lt
   omega⟩
 | unit=>exact ⟨fun _ _ _ _ _ h=>h.elim,fun fs off n cs xs _ hl hx hf=>⟨(),by
   have:cs.drop off=[]:=List.drop_eq_nil_of_le (by simp [K.size] at hl; omega)
   exact this,ab0 _,trivial⟩⟩
 | gap n=>exact ⟨fun _ _ _ _ _ h=>h.elim,fun _ _ _ _ _ h=>h.elim⟩
 | id e=>exact ⟨fun t n cs d ps ht h=>by have:=ht.2.2; rw [hid] at this; simp at this,fun _ _ _ _ _ h=>h.elim⟩
 | sl e k ih=>
  refine ⟨fun t n cs d ps ht h=>?_,fun _ _ _ _ _ h=>h.elim⟩
  obtain ⟨hu,_,hte,hk0,_⟩:=ht
  have hce:P.cellsOf e=k.size:=rT (eP.info hte)
  rcases DataW.trod_slice hu h with ⟨rfl,e1⟩ | ⟨a,len,cap,elems,rest,m,rfl,rfl,e1,_,hlc,hmx,hle,hel,_,_⟩
  ·simp only [abD] at e1
   obtain ⟨rfl,rfl⟩:=e1
   exact ⟨[],⟨none,0,0,rfl,rfl,abI _,fun h=>by omega⟩,by simp [Ih,MJ],⟨ab0 _,fun x hx=>by simp at hx⟩⟩
  ·simp only [abD] at e1
   obtain ⟨rfl,rfl⟩:=e1
   have hone:∀i (hi:i<len),∃x:El k,∃ds,W.cells? 0 (a.add (i * k.size)) k.size=some ds∧Vw (hp W) (fun b=>b<W.heap.size) k x ds∧(∀(h':i<elems.length),Ih k x≤MJ elems[i].1)∧xV k x:=by
    intro i hi
    have h1:=hel i hi
    have hi':i<elems.length:=by omega
    rw [hce,abG hi'] at h1
    obtain ⟨ds,h2,h3⟩:=Option.bind_eq_some_iff.1 h1
    obtain ⟨x,h4,h5,h6⟩:=ih.1 e m ds _ _ hte h3
    exact ⟨x,ds,h2,h4,fun _=>h5,h6⟩
   obtain ⟨xs,hl,hxs⟩:=DV hone
   refine ⟨xs,⟨some a,len,cap,rfl,hl.symm,hlc,fun h0=>?_⟩, ?_, ?_⟩
   ·obtain ⟨b,o,sp⟩:=a
    have h0':0<xs.length:=by omega
    obtain ⟨ds0,h2,h3,_⟩:=hxs 0 h0'
    have hb:=World.cells?_block h2 hk0
    obtain ⟨_,g1,g2⟩:=World.cells?_some h2
    have hsp:sp=none:=by
     have:=g2 0 hk0
     rw [abG (by omega)] at this
     simp only [Nat.zero_mul,Addr.add,if_true,World.cell?] at this
     cases sp with
     | none=>rfl
     | some q=>split at this <;> simp at this
    subst hsp
    have hb':b<W.heap.size:=by
     rw [addr_add] at hb
     exact hb
    refine ⟨b,o,rfl,hb', .inr (hfr b hb'),fun i hi=>?_⟩
    obtain ⟨ds,h2,h3,_⟩:=hxs i hi
    obtain ⟨_,g1,g2⟩:=World.cells?_some h2
    refine ⟨ds,fun j hj=>?_,h3⟩
    have:=g2 j (by omega)
    rw [addr_add,addr_add,qg] at this
    exact this
   ·simp only [Ih,MJ]
    have:=Mv (H:=H) (f:=Ih k) (xs:=xs) (ds:=elems.map (·.1)) (by simp; omega) (fun i h1 h2=>by
     obtain ⟨ds,_,_,h5,_⟩:=hxs i h1
     simpa using h5 (by simpa using h2))
    omega
   ·unfold maxLen at hmx
    refine ⟨show xs.length≤_ by omega,fun x hx=>?_⟩
    obtain ⟨i,hi,rfl⟩:=List.mem_iff_getElem.1 hx
    obtain ⟨_,_,_,_,h6⟩:=hxs i hi
    exact h6
 | pair a b iha ihb=>
  refine ⟨fun _ _ _ _ _ h=>h.elim,fun fs off n cs xs ht hl hx hf=>?_⟩
  cases fs with
  | nil=>exact ht.elim
  | cons f fs=>
   cases xs with
   | nil=>simp at hx
   | cons x0 xs=>
    obtain ⟨h1,h2,h3,h4⟩:=ht
    have hca:P.cellsOf f.type=a.size:=rT (eP.info h2)
    have h5:=hf 0 f rfl
    rw [h1,hca] at h5
    simp only [List.getElem?_cons_zero] at h5
    obtain ⟨x,g1,g2,l1⟩:=iha.1 f.type n _ x0.1 x0.2 h2 h5
    obtain ⟨y,g3,g4,l2⟩:=ihb.2 fs (off+a.size) n cs xs h4 (by simp [K.size] at hl; omega) (by simpa using hx) (fun i f' hi=>by
     have:=hf (i+1) f' (by simpa using hi)
     simpa using this)
    refine ⟨(x,y),⟨(cs.drop off).take a.size,cs.drop (off+a.size), ?_,g1,g3⟩, ?_,l1,l2⟩
    ·rw [←List.drop_drop,List.take_append_drop]
    ·simp only [Ih,List.map_cons,ym]
     omega
 | st c ih=>
  refine ⟨fun t n cs d ps ht h=>?_,fun _ _ _ _ _ h=>h.elim⟩
  obtain ⟨⟨fs,hu,hfs⟩,hinfo⟩:=ht
  obtain ⟨xs,m,rfl,e1,hl,hlen,hf⟩:=DataW.trod_struct hu h
  simp only [abD] at e1
  obtain ⟨rfl,rfl⟩:=e1
  obtain ⟨x,g1,g2,l1⟩:=ih.2 fs.toList 0 m cs xs hfs (by rw [hl,rT hinfo]; simp [K.size]) (by simpa using hlen) (fun i f hi=>hf i f (by simpa using hi))
  refine ⟨x,by simp only [List.drop_zero] at g1; exact g1, ?_,l1⟩
  simp only [Ih,MJ]
  omega
theorem KS:∀{k:K} {fs:List Field} {off:Nat},(iC P T k).2 fs off→∀f∈fs,∃k',(iC P T k').1 f.type:=by
 intro k
 induction k with
 | pair a b iha ihb=>
  intro fs off h f hf
  cases fs with
  | nil=>simp at hf
  | cons f0 fs=>
   rcases abE.1 hf with h1 | h1
   ·subst h1; exact ⟨a,h.2.1⟩
   ·exact ihb h.2.2.2 f h1
 | unit=>intro fs off h f hf; rw [show fs=[] from h] at hf; simp at hf
 | _=>intro fs off h; exact h.elim
theorem Oi [Fr] (hid:T.ids=false) {sp:Nat→Bool} (hsp:∀b,b<W.heap.size→sp b=true):∀(n:Nat) (t:TypeId) (k:K) (cs:List Value) (x:DataW H×List MemPlace),(iC P T k).1 t→DataW.trod enc P W 0 (fun _=>true) true n t cs=some x→DataW.trod enc P W 0 sp true n t cs=some x:=by
 intro n
 induction n with
 | zero=>intro t k cs x _ h; simp [DataW.trod] at h
 | succ n ih=>
  intro t k cs x ht h
  cases k with
  | int ik=>obtain ⟨m,rfl,rfl,hw⟩:=DataW.trod_int ht.1 h; simp [DataW.trod,ht.1,hw]
  | bool=>obtain ⟨m,rfl,rfl⟩:=DataW.trod_bool ht.1 h; simp [DataW.trod,ht.1]
  | str=>obtain ⟨m,rfl,rfl,hw⟩:=DataW.trod_string ht.1 h; simp [DataW.trod,ht.1,hw]
  | unit=>exact ht.elim
  | gap n=>exact ht.elim
  | id e=>have:=ht.2.2; rw [hid] at this; simp at this
  | pair a b=>exact ht.elim
  | st c=>
   obtain ⟨⟨fs,hu,hfs⟩,_⟩:=ht
   obtain ⟨xs,m,e,rfl,hl,hlen,hf⟩:=DataW.trod_struct hu h
   have e':m=n:=by omega
   subst e'
   refine ChangeShapes.trod_struct_mk hu hl (mapM_some_of_get _ _ (by simpa using hlen) fun i f hi=>?_)
   have hi':i<xs.length:=by
    have:=(List.getElem?_eq_some_iff.1 hi).1
    simp at this
    omega
   have h1:=hf i f (by simpa using hi)
   rw [abG hi'] at h1 ⊢
   obtain ⟨k',hk'⟩:=KS hfs f (List.mem_of_getElem? hi)
   exact ih f.type k' _ _ hk' h1
  | sl e k=>
   obtain ⟨hu,_,hte,hk0,_⟩:=ht
   have hce:P.cellsOf e=k.size:=rT (eP.info hte)
   rcases DataW.trod_slice hu h with ⟨rfl,rfl⟩ | ⟨a,len,cap,_,_,_,_,rfl,_⟩
   ·simp [DataW.trod,hu]
   ·unfold DataW.trod at h ⊢
    rw [hu] at h ⊢
    simp only [hce] at h ⊢
    split at h
    ·rename_i hc
     rw [if_pos hc]
     obtain ⟨elems,he,h⟩:=Option.bind_eq_some_iff.1 h
     obtain ⟨rest,hr,hd⟩:=Option.map_eq_some_iff.1 h
     have hstep:∀i y,(W.cells? 0 (a.add (i * k.size)) k.size).bind (DataW.trod enc P W 0 (fun _=>true) true n e)=some y→(W.cells? 0 (a.add (i * k.size)) k.size).bind (DataW.trod enc P W 0 sp true n e)=some y:=by
      intro i y h
      obtain ⟨ds,h1,h2⟩:=Option.bind_eq_some_iff.1 h
      exact Option.bind_eq_some_iff.2 ⟨ds,h1,ih e k ds y hte h2⟩
     refine Option.bind_eq_some_iff.2 ⟨elems,mapM_carry he (fun i y _ _ hy=>hstep i y hy),Option.map_eq_some_iff.2 ⟨rest, ?_,hd⟩⟩
     simp only [if_true] at hr
     cases hs:sp a.block with
     | true=>
      simp only [if_true]
      exact mapM_carry hr (fun i y _ _ hy=>hstep _ y hy)
     | false=>
      simp only [abv,if_false]
      cases hcl:cap - len with
      | zero=>rw [hcl] at hr; simpa using hr
      | succ m=>
       exfalso
       rw [hcl] at hr
       have h1:=mapM_some_get hr 0 0 (by simp)
       have hlr:rest.length=m+1:=by simpa using mapM_some_length hr
       rw [abG (by omega)] at h1
       obtain ⟨ds,h2,_⟩:=Option.bind_eq_some_iff.1 h1
       have h3:=World.cells?_block h2 hk0
       have h4:(a.add ((len+0) * k.size)).block=a.block:=by unfold Addr.add; split <;> rfl
       rw [h4] at h3
       rw [hsp _ h3] at hs
       simp at hs
    ·simp at h
end
end
section
open Go
section
variable {P:Program} {T:gL} {W W':World} {H:Type} {enc:TypeId×Value→H}
def yQ (P:Program) (T:gL):List fG→List TypeId→Prop
 | [],[]=>True
 | .val k [] :: ps,t :: ts=>eP P T t k∧yQ P T ps ts
 | _,_=>False
def Vj:(ps:List fG)→Cont (kin ps)→Nat
 | .val k _ :: ps,c=>Ih k c.1+Vj ps c.2
 | _,_=>0
def NT:(ps:List fG)→Cont (kin ps)→Prop
 | .val k _ :: ps,c=>xV k c.1∧NT ps c.2
 | _,_=>True
theorem Vl [Fr] {t:TypeId} {k:K} {v:Value} {base:Nat} {x:El k} {ok:Nat→Prop} (ht:eP P T t k) (hv:Value.okWide P W .any base t v) (hV:Vw (hp W) ok k x v.cells.toList):VC k v v.cells.toList:=by
 have hplain:∀{u:Value},(∀y,v≠.agg y)→v.cells.toList=[u]→VC k v v.cells.toList∨∃c,k=.st c:=by
  intro u hn hu
  cases k with
  | st c=>exact .inr ⟨c,rfl⟩
  | _=>
   refine .inl ⟨?_,hn⟩
   cases v <;> first | rfl | exact absurd rfl (hn _)
 unfold eP iC at ht
 cases k with
 | st c=>
  obtain ⟨⟨fs,hu,_⟩,_⟩:=ht
  unfold Value.okWide at hv
  rw [hu] at hv
  obtain ⟨cs,rfl,_⟩:=hv
  show Value.agg cs=.agg (cs.toList).toArray
  simp
 | unit=>exact ht.elim
 | pair a b=>exact ht.elim
 | gap n=>exact ht.elim
 | int ik=>
  unfold Value.okWide at hv
  rw [ht.1] at hv
  refine ⟨?_, ?_⟩ <;> cases v <;> simp_all [Cell.okWide,Cell.ok,Value.cells]
 | bool=>
  unfold Value.okWide at hv
  rw [ht.1] at hv
  refine ⟨?_, ?_⟩ <;> cases v <;> simp_all [Cell.okWide,Cell.ok,Value.cells]
 | id e=>
  unfold Value.okWide at hv
  rw [ht.1] at hv
  refine ⟨?_, ?_⟩ <;> cases v <;> simp_all [Cell.okWide,Cell.ok,Value.cells]
 | str=>
  unfold Value.okWide at hv
  rw [ht.1] at hv
  refine ⟨?_, ?_⟩ <;> cases v <;> simp_all [Cell.okWide,Cell.ok,Value.cells]
 | sl e k=>
  unfold Value.okWide at hv
  rw [ht.1] at hv
  refine ⟨?_, ?_⟩ <;> cases v <;> simp_all [Cell.okWide,Cell.ok,Value.cells]
theorem BO [Fr] (hid:T.ids=false) (hfr:∀b,b<W.heap.size→Fr.free b):∀{ps:List fG} {ts:List TypeId} {vs:List Value} {ds:List (DataW H)} {p:List MemPlace} {base:Nat},yQ P T ps ts→DataW.TrodAll enc P W 0 (fun _=>true) true ts vs ds p→
  (∀(j:Nat) t v,ts[j]?=some t→vs[j]?=some v→Value.okWide P W .any base t v)→∃c,yR W ps c vs∧Vj ps c≤ym ds∧ds.length=ps.length∧NT ps c
 | [],[],vs,ds,p,_,_,h,_=>by
  obtain ⟨rfl,rfl,_⟩:=ChangeShapes.trodAll_nil h
  exact ⟨(),trivial,abI _,rfl,trivial⟩
 | .val k [] :: ps,t :: ts,vs,ds,p,base,hp1,h,hv=>by
  obtain ⟨v,vs',d,ds',p1,q,rfl,rfl,rfl,⟨n,h1⟩,h2⟩:=ChangeShapes.trodAll_cons h
  obtain ⟨c,g1,g2,g3,g4⟩:=BO hid hfr hp1.2 h2 (fun j t v ht hv'=>hv (j+1) t v (by simpa using ht) (by simpa using hv'))
  obtain ⟨x,f1,f2,f3⟩:=(JZ (T:=T) (enc:=enc) hid hfr k).1 t n _ d p1 hp1.1 h1
  refine ⟨(x,c),⟨⟨_,Vl hp1.1 (hv 0 t v rfl rfl) f1,f1⟩,g1⟩, ?_,by simp [g3],f3,g4⟩
  simp only [Vj,ym]
  omega
 | [],_ :: _,_,_,_,_,h,_,_=>h.elim
 | .val _ [] :: _,[],_,_,_,_,h,_,_=>h.elim
 | .val _ (_ :: _) :: _,ts,_,_,_,_,h,_,_=>by cases ts <;> exact h.elim
 | .ro _ :: _,ts,_,_,_,_,h,_,_=>by cases ts <;> exact h.elim
 | .rw _ _ _ _ :: _,ts,_,_,_,_,h,_,_=>by cases ts <;> exact h.elim
 | .oV _ _ _ :: _,ts,_,_,_,_,h,_,_=>by cases ts <;> exact h.elim
 | .own _ _ :: _,ts,_,_,_,_,h,_,_=>by cases ts <;> exact h.elim
 | .fn _ _ :: _,ts,_,_,_,_,h,_,_=>by cases ts <;> exact h.elim
 | .into _ _ :: _,ts,_,_,_,_,h,_,_=>by cases ts <;> exact h.elim
theorem GH (hO:Dt W W') {p:MemPlace} (hp1:p.block<W.heap.size):W.sameAt W' p:=by
 have h:=hO.2.2.2 p.block hp1
 cases p with
 | cell b off=>
  have h':W'.heap[b]?=W.heap[b]?:=h
  show W'.cell? _=W.cell? _
  unfold World.cell?
  simp only [h']
 | map b=>exact h
theorem Aj [Fr] (hid:T.ids=false) (hO:Dt W W') {sp:Nat→Bool} (hsp:∀b,b<W.heap.size→sp b=true):∀{ps:List fG} {ts:List TypeId} {vs:List Value} {ds:List (DataW H)} {p:List MemPlace},yQ P T ps ts→DataW.TrodAll enc P W 0 (fun _=>true) true ts vs ds p→
  DataW.TrodAll enc P W' 0 sp true ts vs ds p
 | [],[],vs,ds,p,_,h=>by
  obtain ⟨rfl,rfl,rfl⟩:=ChangeShapes.trodAll_nil h
  exact rfl
 | .val k [] :: ps,t :: ts,vs,ds,p,hp1,h=>by
  obtain ⟨v,vs',d,ds',p1,q,rfl,rfl,rfl,⟨n,h1⟩,h2⟩:=ChangeShapes.trodAll_cons h
  have h3:=Aj hid hO hsp hp1.2 h2
  have h4:=Oi hid hsp n t k _ _ hp1.1 h1
  exact ⟨p1,q,⟨n,DataW.trod_carry n t _ _ h4 (fun p hp2=>GH hO (DataW.trod_lt n t _ _ h1 p hp2))⟩,h3,rfl⟩
 | [],_ :: _,_,_,_,h,_=>h.elim
 | .val _ [] :: _,[],_,_,_,h,_=>h.elim
 | .val _ (_ :: _) :: _,ts,_,_,_,h,_=>by cases ts <;> exact h.elim
 | .ro _ :: _,ts,_,_,_,h,_=>by cases ts <;> exact h.elim
 | .rw _ _ _ _ :: _,ts,_,_,_,h,_=>by cases ts <;> exact h.elim
 | .oV _ _ _ :: _,ts,_,_,_,h,_=>by cases ts <;> exact h.elim
 | .own _ _ :: _,ts,_,_,_,h,_=>by cases ts <;> exact h.elim
 | .fn _ _ :: _,ts,_,_,_,h,_=>by cases ts <;> exact h.elim
 | .into _ _ :: _,ts,_,_,_,h,_=>by cases ts <;> exact h.elim
theorem LC (hO:Dt W W') (may:MemPlace→Prop):W.keptBut W' may:=by
 refine ⟨hO.1,hO.2.1,fun i hi=>?_⟩
 have h:W'.heap[i]?=W.heap[i]?:=hO.2.2.2 i hi
 rw [h]
 cases W.heap[i]? with
 | none=>rfl
 | some o=>
  cases o with
  | cells c t fr=>exact ⟨rfl,rfl,rfl,fun _ _=>rfl⟩
  | map es clock=>exact .inr ⟨rfl,rfl⟩
  | _=>rfl
abbrev Qc (W:World):Fr:=⟨fun b=>b<W.heap.size,hp W,fun _=>.slice none 0 0,rfl,fun _=>⟨none,0,0,rfl⟩⟩
theorem CS {f:FuncId} {fn:Func} {code:Code} {ps:List fG} {F:Nat→Cont (kin ps)→Option (Cont (kK [.val .bool [] []]++kR ps))} {s:ChangeSpec} {tb:TypeId} {N:Nat}
  (hf:P.funcs[f]?=some fn) (hname:(fn.name == "runtime.NumGoroutine")=false) (hbody:fn.body=some code) (hps:yQ P T ps fn.params.toList) (hres:fn.resultTypes=#[tb]) (htb:P.underlying tb=some .bool)
  (hE:letI:=Qc W; ∀n,aG P n ⟨f,ps,[.val .bool [] []],F⟩) (Yn:∀c:Cont (kin ps),NT ps c→Vj ps c≤N→∃n out,F n c=some out∧out.1=true)
  (hvars:s.vars=[]) (hspec:∀ds:List (DataW H),ds.length=ps.length→s.fn H ds={ results:=[.lit (.bool true)],args:=ds })
  {base:Nat} {args:Array Value} {ds gs:List (DataW H)} {before:List MemPlace}
  (hval:∀(j:Nat) t v,fn.params[j]?=some t→args[j]?=some v→Value.okWide P W .any base t v)
  (hW:DataW.Whole enc P fn.params.toList s.vars false W args.toList ds gs before) (hb:ym (ds++gs)≤N) (hid:T.ids=false:=by rfl) :
  Calls P f args W fun e W'=>∃v,e=.returned v∧s.post enc P fn false true false false W args v W':=by
 letI fr:Fr:=Qc W
 have hW':=hW
 obtain ⟨p,q,hA,hV,hpq,hfz,hnd⟩:=hW
 rw [hvars] at hV
 obtain ⟨rfl,rfl⟩:=ChangeShapes.trodVars_none hV
 rw [abV] at hb
 obtain ⟨c,h1,h2,h3,h6⟩:=BO (T:=T) hid (fun b hb=>hb) hps hA (fun j t v ht hv=>hval j t v (by simpa using ht) (by simpa using hv))
 obtain ⟨n,out,h4,h5⟩:=Yn c h6 (by omega)
 refine (LD (fun b hb=>⟨hb,rfl⟩) (hE n) h4 h5 h1 (Go.MuLone.run_callFunc_enter hf hname hbody args W)).mono ?_
 rintro e W' ⟨rfl,hO⟩
 have hsp:=hspec ds h3
 rw [abV] at hpq
 refine ⟨_,rfl,ds,[],before,[],p,[],hW', ?_, ?_, ?_,LC hO _,fun h=>by simp at h⟩
 ·rw [abV,hsp,hres]
  exact ⟨[],[],⟨1,by simp [DataW.trod,Value.cells,htb]⟩,rfl,rfl⟩
 ·rw [abV,hsp]
  exact Aj hid hO (fun b hb=>by simpa using hb) hps hA
 ·rw [abV,hsp,hvars]
  exact rfl
end
end
section
open Go
structure J4 where
 ty:List (TypeId×K)
 bytes:List (TypeId×Nat)
 ptr:List TypeId
 ids:Bool:=false
def look {A:Type} (n:Nat):List (Nat×A)→Option A
 | []=>none
 | (m,a) :: l=>bif Nat.beq n m then some a else look n l
def Ph (n:Nat):List (Nat×Nat)→Nat
 | []=>0
 | (m,a) :: l=>bif Nat.beq n m then a else Ph n l
def J4.tab (L:J4):gL:={ ty:=fun t=>look t L.ty,bytes:=fun t=>Ph t L.bytes,ptr:=fun t=>aA t L.ptr,eq:=fun _=>false,ids:=L.ids }
def LB:K→Value→Bool
 | .int ik, .int jk (.ofNat 0)=>su ik jk
 | .bool, .bool false=>true
 | .str, .string s=>Nat.beq s.data.size 0
 | .sl _ _, .slice none 0 0=>true
 | .id _, .slice none 0 0=>true
 | _,_=>false
def CR:K→List Value→Option (List Value)
 | .pair a b,l=>match CR a l with
  | some m=>CR b m
  | none=>none
 | .unit,l=>some l
 | .st f,l=>CR f l
 | .gap _,_=>none
 | k,v :: l=>bif LB k v then some l else none
 | _,[]=>none
def YJ:K→Value→Bool
 | .st f, .agg arr=>match CR f arr.toList with
  | some []=>true
  | _=>false
 | .st _,_=>false
 | k,v=>LB k v
def qj (P:Program) (t:TypeId) (k:K):Bool:=match P.info? t with
 | some i=>Nat.beq i.size k.size && (match i.zero with
  | some v=>YJ k v
  | none=>false)
 | none=>false
def jy (P:Program) (T:gL):K→(TypeId→Bool)×(List Field→Nat→Bool)
 | .int ik=>(fun t=>(match P.underlying t with
  | some (.int jk)=>su ik jk
  | _=>false) && qj P t (.int ik),fun _ _=>false)
 | .bool=>(fun t=>(match P.underlying t with
  | some .bool=>true
  | _=>false) && qj P t .bool,fun _ _=>false)
 | .str=>(fun t=>(match P.underlying t with
  | some .string=>true
  | _=>false) && qj P t .str,fun _ _=>false)
 | .sl e k=>(fun t=>(match P.underlying t with
  | some (.slice e')=>Nat.beq e e'
  | _=>false) && qj P t (.sl e k) && (jy P T k).1 e && Nat.blt 0 k.size && (match P.info? e with
  | some i=>Nat.beq i.bytes (T.bytes e) && Nat.blt 0 i.bytes
  | none=>false),fun _ _=>false)
 | .unit=>(fun _=>false,fun fs _=>fs.isEmpty)
 | .pair a b=>(fun _=>false,fun fs off=>match fs with
  | []=>false
  | f :: fs=>Nat.beq f.offset off && (jy P T a).1 f.type && Nat.blt 0 a.size && (jy P T b).2 fs (off+a.size))
 | .st c=>(fun t=>(match P.underlying t with
  | some (.struct fs)=>(jy P T c).2 fs.toList 0
  | _=>false) && qj P t (.st c),fun _ _=>false)
 | .gap _=>(fun _=>false,fun _ _=>false)
 | .id e=>(fun t=>(match P.underlying t with
  | some (.slice e')=>Nat.beq e e'
  | _=>false) && qj P t (.id e) && T.ids,fun _ _=>false)
def uo (P:Program) (L:J4):Bool:=L.ty.all (fun q=>(jy P L.tab q.2).1 q.1) && L.ptr.all fun t=>match P.underlying t with
 | some (.pointer _)=>true
 | _=>false
section
variable [Fr] {P:Program} {T:gL}
theorem Ie {k:K} {v:Value} (h:LB k v=true):bD k=[v]∧mJ k=v:=by
 unfold LB at h
 split at h
 ·have:=tC h; subst this; exact ⟨rfl,rfl⟩
 ·exact ⟨rfl,rfl⟩
 ·rename_i s
  have:s=ByteArray.empty:=by
   have h1:=abw h
   obtain ⟨d⟩:=s
   have:d=#[]:=Array.eq_empty_of_size_eq_zero h1
   subst this
   rfl
  subst this
  exact ⟨rfl,rfl⟩
 ·exact ⟨rfl,rfl⟩
 ·exact ⟨rfl,rfl⟩
 ·simp at h
theorem NS:∀{k:K} {l m:List Value},CR k l=some m→l=bD k++m:=by
 intro k
 have one:∀{k:K} {l m:List Value},(match l with | v :: l=>(bif LB k v then some l else none) | []=>none)=some m→l=bD k++m:=by
  intro k l m h
  cases l with
  | nil=>simp at h
  | cons v l=>
   obtain ⟨hb,h⟩:=nH h
   simp only [abr] at h
   subst h
   rw [(Ie hb).1]
   rfl
 induction k with
 | pair a b iha ihb=>
  intro l m h
  simp only [CR] at h
  split at h
  ·rename_i q hq
   rw [iha hq,ihb h]
   simp [bD]
  ·simp at h
 | unit=>intro l m h; simp only [CR,abr] at h; subst h; rfl
 | st f ih=>intro l m h; exact ih (show CR f l=some m from h)
 | gap n=>intro l m h; simp [CR] at h
 | int ik=>intro l m h; exact one (k:=.int ik) (by cases l <;> exact h)
 | bool=>intro l m h; exact one (k:=.bool) (by cases l <;> exact h)
 | id e=>intro l m h; exact one (k:=.id e) (by cases l <;> exact h)
 | str=>intro l m h; exact one (k:=.str) (by cases l <;> exact h)
 | sl e k _=>intro l m h; exact one (k:=.sl e k) (by cases l <;> exact h)
theorem QN {k:K} {v:Value} (h:YJ k v=true):mJ k=v:=by
 unfold YJ at h
 split at h
 ·rename_i f arr
  split at h
  ·rename_i hz
   have:=NS hz
   simp only [abV] at this
   show Value.agg (bD f).toArray=.agg arr
   rw [←this]
  ·simp at h
 ·simp at h
 ·exact (Ie h).2
theorem ng {t:TypeId} {k:K} (h:qj P t k=true):mP P t k:=by
 unfold qj at h
 split at h
 ·rename_i i hi
  simp only [aby] at h
  obtain ⟨h1,h2⟩:=h
  split at h2
  ·rename_i v hv
   exact ⟨i,hi,abw h1,by rw [hv,QN h2]⟩
  ·simp at h2
 ·simp at h
theorem FJ {a b:Nat} (h:Nat.blt a b=true):a<b:=by
 unfold Nat.blt at h
 exact Nat.le_of_ble_eq_true h
theorem Mx:∀{k:K},(∀t,(jy P T k).1 t=true→(iC P T k).1 t)∧∀fs off,(jy P T k).2 fs off=true→(iC P T k).2 fs off:=by
 intro k
 induction k with
 | int ik=>
  refine ⟨fun t h=>?_,fun fs off h=>by simp [jy] at h⟩
  simp only [jy,aby] at h
  obtain ⟨h1,h2⟩:=h
  split at h1
  ·rename_i jk hu
   have:=tC h1; subst this
   exact ⟨hu,ng h2⟩
  ·simp at h1
 | bool=>
  refine ⟨fun t h=>?_,fun fs off h=>by simp [jy] at h⟩
  simp only [jy,aby] at h
  obtain ⟨h1,h2⟩:=h
  split at h1
  ·rename_i hu; exact ⟨hu,ng h2⟩
  ·simp at h1
 | str=>
  refine ⟨fun t h=>?_,fun fs off h=>by simp [jy] at h⟩
  simp only [jy,aby] at h
  obtain ⟨h1,h2⟩:=h
  split at h1
  ·rename_i hu; exact ⟨hu,ng h2⟩
  ·simp at h1
 | sl e k ih=>
  refine ⟨fun t h=>?_,fun fs off h=>by simp [jy] at h⟩
  simp only [jy,aby] at h
  obtain ⟨⟨⟨⟨h1,h2⟩,h3⟩,h4⟩,h5⟩:=h
  split at h1
  ·rename_i e' hu
   have:=abw h1; subst this
   split at h5
   ·rename_i i hi
    simp only [aby] at h5
    exact ⟨hu,ng h2,ih.1 e h3,FJ h4,i,hi,abw h5.1,FJ h5.2⟩
   ·simp at h5
  ·simp at h1
 | unit=>exact ⟨fun t h=>by simp [jy] at h,fun fs off h=>show fs=[] by simpa [jy] using h⟩
 | gap n=>exact ⟨fun t h=>by simp [jy] at h,fun fs off h=>by simp [jy] at h⟩
 | id e=>
  refine ⟨fun t h=>?_,fun fs off h=>by simp [jy] at h⟩
  simp only [jy,aby] at h
  obtain ⟨⟨h1,h2⟩,h3⟩:=h
  split at h1
  ·rename_i e' hu
   have:=abw h1; subst this
   exact ⟨hu,ng h2,h3⟩
  ·simp at h1
 | pair a b iha ihb=>
  refine ⟨fun t h=>by simp [jy] at h,fun fs off h=>?_⟩
  cases fs with
  | nil=>simp [jy] at h
  | cons f fs=>
   simp only [jy,aby] at h
   obtain ⟨⟨⟨h1,h2⟩,h3⟩,h4⟩:=h
   exact ⟨abw h1,iha.1 _ h2,FJ h3,ihb.2 _ _ h4⟩
 | st c ih=>
  refine ⟨fun t h=>?_,fun fs off h=>by simp [jy] at h⟩
  simp only [jy,aby] at h
  obtain ⟨h1,h2⟩:=h
  split at h1
  ·rename_i fs hu
   exact ⟨⟨fs,hu,ih.2 _ _ h1⟩,ng h2⟩
  ·simp at h1
theorem EB {A:Type} {n:Nat} {a:A}:∀{l:List (Nat×A)},look n l=some a→(n,a)∈l
 | [],h=>by simp [look] at h
 | (m,b) :: l,h=>by
  simp only [look] at h
  cases hb:Nat.beq n m with
  | true=>
   rw [hb] at h
   have:=abw hb
   simp only [cond_true,abr] at h
   subst this h
   simp
  | false=>
   rw [hb] at h
   exact .tail _ (EB h)
theorem Mw {L:J4} (h:uo P L=true):dO P L.tab:=by
 unfold uo at h
 simp only [aby,abH] at h
 refine ⟨fun t k ht=>Mx.1 t (h.1 (t,k) (EB ht)),fun t ht=>?_⟩
 have:=h.2 t (bu.1 ht)
 split at this
 ·rename_i e he; exact ⟨e,he⟩
 ·simp at this
theorem QY {L:J4}:AO P L.tab:=fun t c x y u v w hp1 hp2 ok1 Zt _ he=>by simp [J4.tab] at he
end
end
section
open Go
abbrev DOk (T:gL) (hi:Hint) (fn:Func) (E:Entry):Prop:=∀n (c:Cont (kin E.ps)),Ni T hi fn E.ps E.rs n c=E.F n c
variable [Fr] {P:Program} {n:Nat}
theorem aW:∀q∈([]:List (Nat×Option Nat×Entry)),aG P n q.2.2:=by simp
theorem ay {f:Nat} {d:Option Nat} {E:Entry} {l:List (Nat×Option Nat×Entry)} (h:aG P n E) (t:∀q∈l,aG P n q.2.2):∀q∈(f,d,E) :: l,aG P n q.2.2:=by
 intro q hq
 rcases abE.1 hq with rfl | hq
 ·exact h
 ·exact t q hq
theorem aH (hm:P.follows .mixedOrders=true) {L:J4} (hL:uo P L=true) {E:Entry} {fn:Func} (hf:P.funcs[E.f]?=some fn) (hname:(fn.name == "runtime.NumGoroutine")=false) {hi:Hint} (hC:∀q∈hi.calls,aG P n q.2.2)
  (hD:∀n (c:Cont (kin E.ps)),Ni L.tab hi fn E.ps E.rs n c=E.F n c):aG P n E:=
 FV hm (Mw hL) QY hf hname hC (fun c out h=>by rw [hD]; exact h)
end
section
open Go
def GI {A:Type} (xs:List A) (i:Nat) (d:A) (f:A→A):List A:=xs.set i (f (xs.getD i d))
def dh {R:Type} (step:Nat→Option R) (fin:R):Nat→Nat→R
 | 0,_=>fin
 | m+1,i=>match step i with
  | some r=>r
  | none=>dh step fin m (i+1)
theorem GD {V R:Type} {B:(V→Option R)→V→Option R} (S:Nat→V) (step:Nat→Option (Option R)) (fin:Option R) {m:Nat} (h1:∀L i,i<m→(∀j,j<i→step j=none)→B L (S i)=match step i with | some r=>r | none=>L (S (i+1))) (h2:∀L,(∀j,j<m→step j=none)→B L (S m)=fin) :
  ∀(d i n:Nat),i+d=m→d<n→(∀j,j<i→step j=none)→rounds B n (S i)=dh step fin d i:=by
 intro d
 induction d with
 | zero=>
  intro i n hi hn hp
  cases n with
  | zero=>omega
  | succ n=>
   have:i=m:=by omega
   subst this
   exact h2 _ hp
 | succ d ih=>
  intro i n hi hn hp
  cases n with
  | zero=>omega
  | succ n=>
   show B (rounds B n) (S i)=_
   rw [h1 _ i (by omega) hp]
   unfold dh
   cases hs:step i with
   | some r=>rfl
   | none=>exact ih (i+1) n (by omega) (by omega) (fun j hj=>by
     by_cases e:j=i
     ·rw [e,hs]
     ·exact hp j (by omega))
theorem cu {V R:Type} {B:(V→Option R)→V→Option R} {v0:V} (S:Nat→V) (step:Nat→Option (Option R)) (fin:Option R) {m n:Nat} (h0:v0=S 0) (hn:m<n) (h1:∀L i,i<m→(∀j,j<i→step j=none)→B L (S i)=match step i with | some r=>r | none=>L (S (i+1))) (h2:∀L,(∀j,j<m→step j=none)→B L (S m)=fin) :
  rounds B n v0=dh step fin m 0:=by
 rw [h0]
 exact GD S step fin h1 h2 m 0 n (by omega) hn (fun j h=>by omega)
theorem wo {A:Type} {l:List A} {i:Nat} (h:i<l.length) (d:A):l.getD ((i:Int).toNat) d=l[i]:=by
 simp [h]
theorem nJ {R:Type} {step:Nat→Option R} {fin:R}:∀{m i:Nat},(∀j,i≤j→j<i+m→step j=none)→dh step fin m i=fin:=by
 intro m
 induction m with
 | zero=>intro i _; rfl
 | succ m ih=>
  intro i h
  unfold dh
  rw [h i (abI _) (by omega)]
  exact ih (fun j h1 h2=>h j (by omega) (by omega))
theorem CG {R:Type} {s1 s2:Nat→Option R} {f1 f2:R} (hf:f1=f2):∀{m i:Nat},(∀j,i≤j→j<i+m→s1 j=s2 j)→dh s1 f1 m i=dh s2 f2 m i:=by
 intro m
 induction m with
 | zero=>intro i _; exact hf
 | succ m ih=>
  intro i h
  unfold dh
  rw [h i (abI _) (by omega)]
  cases s2 i with
  | some r=>rfl
  | none=>exact ih (fun j h1 h2=>h j (by omega) (by omega))
theorem wrap_i64 {x:Int} (h1 : -9223372036854775808≤x) (h2:x≤9223372036854775807):IntKind.i64.wrap x=x:=by
 simp [IntKind.wrap,IntKind.bits,IntKind.signed]
 omega
theorem dP {i:Nat} {n:Nat} (h:i<n) (hn:n≤9223372036854775807):IntKind.i64.wrap ((i:Int)+1)=((i+1:Nat):Int):=by
 rw [wrap_i64 (by omega) (by omega)]
 omega
theorem cO {i n:Nat} (h:i<n):aN (i:Int) n:=⟨by omega,by omega⟩
end
section
open Go
variable [Fr]
section
variable {P:Program} {cx:Cx} {σ:St} {α:dA} {F:List Nat} {a:Act} {w w':World}
theorem Rel.grown (H:Rel cx σ α F a w) (hO:Dt w w') (ht:w'.tape=w.tape):Rel cx σ α F a w':=H.KV hO.1 hO.2.1 hO.2.2.1 hO.2.2.2 ht
def Dp:(rs:List wU)→Cont (kK rs)→List Value→Prop
 | [],_,[]=>True
 | .val k _ _ :: rs,c,v :: vs=>k.flat=true∧(∃cs,VC k v cs∧Vw (fun _=>none) (fun _=>False) k c.1 cs)∧Dp rs c.2 vs
 | _,_,_=>False
theorem Ed:∀{rs:List wU} {c:Cont (kK rs)} {vs:List Value},Dp rs c vs→∃bE,Dw cx σ α F w rs c vs bE∧bE.flatten=[]
 | [],_,[],_=>⟨[],trivial,rfl⟩
 | [],_,_ :: _,h=>h.elim
 | .val k e p :: rs,c,[],h=>h.elim
 | .val k e p :: rs,c,v :: vs,⟨h0,⟨cs,h1,h2⟩,h3⟩=>by
  obtain ⟨bE,g1,g2⟩:=Ed h3
  exact ⟨[] :: bE,⟨⟨rfl,[],cs, .inl h0,h1,gN h0 h2⟩,g1⟩,by simpa using g2⟩
 | .own _ _ _ _ :: _,_,vs,h=>by cases vs <;> exact h.elim
 | .ptr _ _ _ _ :: _,_,vs,h=>by cases vs <;> exact h.elim
 | .into _ _ :: _,_,vs,h=>by cases vs <;> exact h.elim
end
end
section
open Go
variable [Fr]
section
variable {P:Program} {cx:Cx} {σ:St} {α:dA} {F:List Nat} {a:Act} {w w':World}
end
end
section
open Go
variable [Fr]
section
variable {P:Program} {cx:Cx} {σ:St} {α:dA} {F:List Nat} {a:Act} {w w':World}
def Ko (w:World):(ps:List fG)→Cont (kin ps)→List Value→Prop
 | [],_,[]=>True
 | .val k _ :: ps,c,v :: vs=>(∃cs,VC k v cs∧Vw (hp w) (fun b=>b<w.heap.size) k c.1 cs)∧Ko w ps c.2 vs
 | _,_,_=>False
def jJ:List fG→Bool
 | []=>true
 | .val _ [] :: ps=>jJ ps
 | _=>false
theorem Cc:∀{ps:List fG} {i:Nat} {c:Cont (kin ps)} {vs:List Value},jJ ps=true→vs.length=ps.length→(∀j v,vs[j]?=some v→iK cx σ α F w (mM (jo ps i c) (i+j)) v)→Ko w ps c vs
 | [],_,_,[],_,_,_=>trivial
 | [],_,_,_ :: _,_,h,_=>by simp at h
 | .val k (_ :: _) :: ps,i,c,vs,hf,_,_=>by simp [jJ] at hf
 | .val k [] :: ps,i,c,[],_,h,_=>by simp at h
 | .val k [] :: ps,i,c,v :: vs,hf,hl,h=>by
  have hf':jJ ps=true:=hf
  have h0:=h 0 v rfl
  have e0:mM (jo (.val k [] :: ps) i c) (i+0)=.one (.val k c.1 (bif k.flat then [] else [(j4 i,0)])):=by
   simp only [jo,mM,Nat.add_zero]
   rw [show Nat.beq i i=true from Nat.beq_refl i]
   rfl
  rw [e0] at h0
  have hcl:aU σ k.tys (bif k.flat then [] else [(j4 i,0)])=true:=by
   cases k.flat with
   | true=>rfl
   | false=>
    show aU σ k.tys [(j4 i,0)]=true
    rw [jF]
    intro t ht
    simp only [abL] at ht
    subst ht
    exact .inl (by simp [eH,j4])
  obtain ⟨cs,h1,h2⟩:=h0 (.inr hcl)
  refine ⟨⟨cs,h1,eT (fun _ _=>rfl) (fun b hb=>hb.1) h2⟩,Cc (i:=i+1) hf' (by simpa using hl) fun j u hu=>?_⟩
  have hj:=h (j+1) u (by simpa using hu)
  have e1:mM (jo (.val k [] :: ps) i c) (i+(j+1))=mM (jo ps (i+1) c.2) (i+1+j):=by
   simp only [jo,mM]
   have hb:Nat.beq (i+(j+1)) i=false:=by
    cases hb:Nat.beq (i+(j+1)) i with
    | true=>have:=abw hb; omega
    | false=>rfl
   rw [hb,show i+(j+1)=i+1+j by omega]
   rfl
  rw [e1] at hj
  exact hj
 | .ro _ :: _,_,_,_,hf,_,_=>by simp [jJ] at hf
 | .rw _ _ _ _ :: _,_,_,_,hf,_,_=>by simp [jJ] at hf
 | .oV _ _ _ :: _,_,_,_,hf,_,_=>by simp [jJ] at hf
 | .own _ _ :: _,_,_,_,hf,_,_=>by simp [jJ] at hf
 | .fn _ _ :: _,_,_,_,hf,_,_=>by simp [jJ] at hf
 | .into _ _ :: _,_,_,_,hf,_,_=>by simp [jJ] at hf
theorem Fa {σ:St}:∀{ps:List fG} {i:Nat} {c:Cont (kR ps)},jJ ps=true→wT σ ps i c
 | [],_,_,_=>trivial
 | .val k (_ :: _) :: ps,i,c,hf=>by simp [jJ] at hf
 | .val k [] :: ps,i,c,hf=>Fa (ps:=ps) (i:=i+1) (c:=c) hf
 | .ro _ :: _,_,_,hf=>by simp [jJ] at hf
 | .rw _ _ _ _ :: _,_,_,hf=>by simp [jJ] at hf
 | .oV _ _ _ :: _,_,_,hf=>by simp [jJ] at hf
 | .own _ _ :: _,_,_,hf=>by simp [jJ] at hf
 | .fn _ _ :: _,_,_,hf=>by simp [jJ] at hf
 | .into _ _ :: _,_,_,hf=>by simp [jJ] at hf
theorem AQ {n:Nat} {E:Entry} (hps:jJ E.ps=true) (h:∀c out,E.F n c=some out→∀(args:Array Value) (w:World),(∀b,Fr.free b→hp w b=Fr.obj b)→Ko w E.ps c args.toList→
  uU P E.f args w fun v w'=>∃vs,v=E9 vs∧Dp E.rs (Cont.fst _ _ out) vs∧Dt w w'∧w'.tape=w.tape):aG P n E:=by
 intro c out hout cx α args w _ _ hsz _ H
 have hA:=Cc (cx:=cx) (σ:=dN E.ps c) (α:=α) (F:=[]) (w:=w) (i:=0) (c:=c) (vs:=args.toList) hps (by simpa using hsz) (fun j v hv=>by
  have:=H.slots j
  rw [Array.getElem?_toList] at hv
  rw [Array.getD_eq_getD_getElem?,hv] at this
  rw [Nat.zero_add]
  exact this)
 have hpost:∀v w',(∃vs,v=E9 vs∧Dp E.rs (Cont.fst _ _ out) vs∧Dt w w'∧w'.tape=w.tape)→Post cx E.ps E.rs out v w':=by
  rintro v w' ⟨vs,h1,h2,h3,h4⟩
  obtain ⟨bE,g1,g2⟩:=Ed (cx:=cx) (σ:=dN E.ps c) (α:=α) (F:=[]) (w:=w') h2
  exact ⟨_,α,[],_,vs,bE,H.grown h3 h4,h1,g1,by rw [g2]; exact List.nodup_nil,fun b hb=>by rw [g2] at hb; simp at hb,Fa hps⟩
 rcases h c out hout args w (fun b hb=>H.fixed hb) hA with ⟨h1,h2⟩ | ⟨v,w',h1,h2⟩
 ·refine .inl ⟨h1,h2.mono ?_⟩
  rintro e w' ⟨v,rfl,hv⟩
  exact ⟨v,rfl,hpost v w' hv⟩
 ·exact .inr ⟨v,w',h1,hpost v w' h2⟩
end
end
section
open Go
section
variable {e:TypeId} {kk:K}
def Rw (e:TypeId) (kk:K) (z:Bool) (tb:Nat→List (El kk)):(k k':K)→El k→El k'→List Nat→Prop
 | .sl f k, .id f',xs,i,ns=>f=e∧f'=e∧∃h:k=kk,h▸(show List (El k) from xs)=tb i∧((i≠(0:Nat)∧ns=[i])∨(z=true∧i=(0:Nat)∧tb 0=[]∧ns=[]))
 | .sl f k, .sl f' k',xs,ys,ns=>f=f'∧k'.size=k.size∧(show List (El k) from xs).length=(show List (El k') from ys).length∧∃nss:List (List Nat),nss.length=(show List (El k) from xs).length∧ns=nss.flatten∧
   ∀(i:Nat) (h1:i<(show List (El k) from xs).length) (h2:i<(show List (El k') from ys).length),Rw e kk z tb k k' ((show List (El k) from xs)[i]) ((show List (El k') from ys)[i]) (nss.getD i [])
 | .pair a b, .pair a' b',x,y,ns=>∃n1 n2,ns=n1++n2∧Rw e kk z tb a a' x.1 y.1 n1∧Rw e kk z tb b b' x.2 y.2 n2
 | .st f, .st f',x,y,ns=>Rw e kk z tb f f' x y ns
 | .int ik, .int jk,x,y,ns=>ik=jk∧(show Int from x)=y∧ns=[]
 | .bool, .bool,x,y,ns=>(show Bool from x)=y∧ns=[]
 | .str, .str,x,y,ns=>(show List Int from x)=y∧ns=[]
 | .unit, .unit,_,_,ns=>ns=[]
 | _,_,_,_,_=>False
theorem Rw.size {z:Bool} {tb:Nat→List (El kk)}:∀{k k':K} {x:El k} {y:El k'} {ns:List Nat},Rw e kk z tb k k' x y ns→k'.size=k.size:=by
 intro k
 induction k with
 | sl f k ih=>intro k' x y ns h; cases k' <;> first | rfl | exact h.elim
 | pair a b iha ihb=>
  intro k' x y ns h
  cases k' with
  | pair a' b'=>unfold Rw at h; obtain ⟨n1,n2,_,h1,h2⟩:=h; simp [K.size,iha h1,ihb h2]
  | _=>exact h.elim
 | st f ih=>
  intro k' x y ns h
  cases k' with
  | st f'=>unfold Rw at h; exact ih (k':=f') (x:=x) (y:=y) (ns:=ns) h
  | _=>exact h.elim
 | int ik=>intro k' x y ns h; cases k' <;> first | rfl | exact h.elim
 | bool=>intro k' x y ns h; cases k' <;> first | rfl | exact h.elim
 | str=>intro k' x y ns h; cases k' <;> first | rfl | exact h.elim
 | unit=>intro k' x y ns h; cases k' <;> first | rfl | exact h.elim
 | gap n=>intro k' x y ns h; cases k' <;> exact h.elim
 | id f=>intro k' x y ns h; cases k' <;> exact h.elim
variable [fr:Fr]
def A9:K→Bool
 | .id _=>false
 | .sl _ k=>A9 k
 | .pair a b=>A9 a && A9 b
 | .st f=>A9 f
 | _=>true
theorem OJ {h:Heap} {ok:Nat→Prop} (fr':Fr) (hf:fr'.free=fr.free):∀{k:K} {x:El k} {cs:List Value},A9 k=true→@Vw fr h ok k x cs→@Vw fr' h ok k x cs:=by
 intro k
 induction k with
 | sl f k ih=>
  intro x cs hk H
  obtain ⟨a,n,c,e1,e2,e3,H⟩:=H
  refine ⟨a,n,c,e1,e2,e3,fun hn=>?_⟩
  obtain ⟨b,o,ea,hb,ht,H⟩:=H hn
  refine ⟨b,o,ea,hb,ht.imp id (fun h=>by rw [hf]; exact h),fun i hi=>?_⟩
  obtain ⟨ds,h1,h2⟩:=H i hi
  exact ⟨ds,h1,ih hk h2⟩
 | pair a b iha ihb=>
  intro x cs hk H
  simp only [A9,aby] at hk
  obtain ⟨c1,c2,e,h1,h2⟩:=H
  exact ⟨c1,c2,e,iha hk.1 h1,ihb hk.2 h2⟩
 | st f ih=>intro x cs hk H; exact ih (x:=x) (cs:=cs) hk H
 | id f=>intro x cs hk; simp [A9] at hk
 | int ik=>intro x cs _ H; exact H
 | bool=>intro x cs _ H; exact H
 | str=>intro x cs _ H; exact H
 | unit=>intro x cs _ H; exact H
 | gap n=>intro x cs _ H; exact H
def Nf (cx:Cx) (bad:List Nat):Cx:={ cx with
 par:=fun j=>(cx.par j).map fun pi=>{ pi with bl:=pi.bl.filter fun b=>!aA b bad }
 ptrs:=fun _ _ _ _=>False
 refs:=fun _ _=>False }
theorem Ng {cx:Cx} {bad:List Nat} {j:Nat} {YO:M5} (h:(Nf cx bad).par j=some YO):∃pi,cx.par j=some pi∧YO={ pi with bl:=pi.bl.filter fun b=>!aA b bad }:=by
 simp only [Nf,Option.map_eq_some_iff] at h
 obtain ⟨pi,h1,h2⟩:=h
 exact ⟨pi,h1,h2.symm⟩
theorem KF {cx:Cx} {bad:List Nat} {b:Nat}:jq (Nf cx bad) b↔jq cx b:=by
 constructor
 ·rintro ⟨j,YO,o,n,h1,h2⟩
  obtain ⟨pi,g1,rfl⟩:=Ng h1
  exact ⟨j,pi,o,n,g1,h2⟩
 ·rintro ⟨j,pi,o,n,h1,h2⟩
  exact ⟨j,{ pi with bl:=pi.bl.filter fun b=>!aA b bad },o,n,by simp [Nf,h1],h2⟩
def Jg (T:List Tag):Prop:=∀t∈T,eH t.1=true
def TC:qH→Prop
 | .one .undef=>True
 | .one (.ptr r p n)=>r=aL 0∧p=[]∧n=0
 | .one (.val k _ T)=>A9 k=true∧Jg T
 | .one (.fn _ cs)=>∀c∈cs,A9 c.2.1.1=true∧Jg c.2.2∧c.1=SENT
 | _=>False
section
variable {cx:Cx} {σ:St} {α:dA} {a:Act} {w:World}
theorem Ma {R0 R1:Root} {gu bad:List Nat} (h0:∀r R,aM σ r R→r=aL 0∧R=R0) (h1:aM σ (aL 0) R0) (hk:R1.kind=R0.kind) (hsub:∀b∈gu,b∈α.fo (aL 0)) (hbad:∀b∈bad,b∈α.fo (aL 0)) {T:List Tag} (hT:Jg T) {b:Nat} (h:gy cx σ α [] w T b) :
  gy (Nf cx bad) (ak σ (aL 0) R1) (aB α (aL 0) (α.loc (aL 0)) (α.hdr (aL 0)) gu) [] w T b:=by
 obtain ⟨g1,g2,g3,g4,g5⟩:=h
 refine ⟨g1,g2,fun hb=>g3 (KF.1 hb),fun r R hr hb=>?_,fun hlt=>?_⟩
 ·rcases jr hr with ⟨rfl,rfl,_⟩ | ⟨e,hr'⟩
  ·rw [eU] at hb
   refine g4 _ R0 h1 ?_
   rw [bO]
   unfold gJ at hb ⊢
   rw [hk] at hb
   rcases abB.1 hb with h | h
   ·exact abx _ h
   ·exact abu _ (hsub b h)
  ·exact absurd (h0 r R hr').1 e
 ·rcases g5 hlt with ⟨j,n,f1,f2⟩ | ⟨j,pi,f1,f2⟩
  ·exact .inl ⟨j,n,f1,f2⟩
  ·refine .inr ⟨j,{ pi with bl:=pi.bl.filter fun b=>!aA b bad },by simp [Nf,f1], ?_⟩
   refine abJ.2 ⟨f2, ?_⟩
   cases hm:aA b bad with
   | false=>rfl
   | true=>
    have hb:=hbad b (bu.1 hm)
    obtain ⟨n,hn⟩:=g4 _ R0 h1 (by rw [bO]; exact abu _ hb)
    have:=hT _ hn
    rw [rU] at this
    simp at this
theorem zm {σ:St} {tys:List TypeId} {T:List Tag} (h:Jg T):aU σ tys T=true:=jF.2 fun t ht=>.inl (h t ht)
structure Bl (cx:Cx) (σ:St) (α:dA) (R0 R1:Root) (gu bad:List Nat):Prop where
 only:∀r R,aM σ r R→r=aL 0∧R=R0
 lv:aM σ (aL 0) R0
 kind:R1.kind=R0.kind
 tags:R0.tags=[]
 sub:∀b∈gu,b∈α.fo (aL 0)
 bad:∀b∈bad,b∈α.fo (aL 0)
theorem Bl.gy {R0 R1:Root} {gu bad:List Nat} (L:Bl cx σ α R0 R1 gu bad) {T:List Tag} (hT:Jg T) {b:Nat} (h:Ow.gy cx σ α [] w T b) :
  Ow.gy (Nf cx bad) (ak σ (aL 0) R1) (aB α (aL 0) (α.loc (aL 0)) (α.hdr (aL 0)) gu) [] w T b:=Ma L.only L.lv L.kind L.sub L.bad hT h
theorem Bl.wh {R0 R1:Root} {gu bad:List Nat} (L:Bl cx σ α R0 R1 gu bad):dY (aB α (aL 0) (α.loc (aL 0)) (α.hdr (aL 0)) gu) R1 (aL 0)=dY α R0 (aL 0):=by
 rw [iG]
 unfold pX dY
 rw [L.kind] <;> cases R0.kind <;> rfl
theorem Bl.av (fr':Fr) (hf:fr'.free=fr.free) {R0 R1:Root} {gu bad:List Nat} (L:Bl cx σ α R0 R1 gu bad) {x:qH} {v:Value} (hx:TC x) (h : @iK fr cx σ α [] w x v) :
  @iK fr' (Nf cx bad) (ak σ (aL 0) R1) (aB α (aL 0) (α.loc (aL 0)) (α.hdr (aL 0)) gu) [] w x v:=by
 have hv0:bg σ R0:=⟨L.lv.2,by rw [L.tags]; rfl⟩
 cases x with
 | Cb l=>exact hx.elim
 | lit _ _ _=>exact hx.elim
 | one x=>
  cases x with
  | undef=>trivial
  | ptr r p n=>
   obtain ⟨rfl,rfl,rfl⟩:=hx
   refine ⟨h.1,fun R hR _ _ _ _=>?_⟩
   rw [aF] at hR
   have hR:=ab1 hR
   subst hR
   obtain ⟨_,cs,b,o,hn,e⟩:=h.2 R0 L.lv.1 hv0 (by unfold fI clean; simp [aA]) (fun t ht=>by simp [aa] at ht) rfl
   simp only [bn,abr,abD] at hn
   refine ⟨trivial,α.hdr (aL 0),b,o, ?_,e⟩
   simp only [bn]
   rw [L.wh,hn.2]
   simp [aB,upd_same]
  | val k x T=>
   intro _
   obtain ⟨cs,h1,h2⟩:=h (.inr (zm hx.2))
   exact ⟨cs,h1, @OJ fr _ _ fr' hf _ _ _ hx.1 (@eT fr _ _ _ _ (fun _ _=>rfl) (fun b hb=>L.gy hx.2 hb) _ _ _ h2)⟩
  | fn f cs=>
   obtain ⟨vs,e,hc⟩:=h
   refine ⟨vs,e, ?_⟩
   clear e
   have key:∀(cs:List (TypeId×Dat×List Tag)) (vs:List Value),(∀c∈cs,A9 c.2.1.1=true∧Jg c.2.2∧c.1=SENT)→@jE fr cx σ α [] w cs vs→@jE fr' (Nf cx bad) (ak σ (aL 0) R1) (aB α (aL 0) (α.loc (aL 0)) (α.hdr (aL 0)) gu) [] w cs vs:=by
    intro cs
    induction cs with
    | nil=>intro vs _ h; cases vs <;> exact h
    | cons c cs ih=>
     intro vs hc h
     cases vs with
     | nil=>exact h
     | cons v vs=>
      obtain ⟨⟨h1,h2⟩,h3⟩:=h
      obtain ⟨g1,g2,g3⟩:=hc c (by simp)
      refine ⟨⟨h1,fun _=>?_⟩,ih vs (fun c hc'=>hc c (by simp [hc'])) h3⟩
      obtain ⟨b,o,ds,e,q1,q2,⟨q3,q4,q5⟩,_⟩:=h2 (zm g2)
      refine ⟨b,o,ds,e,q1, @OJ fr _ _ fr' hf _ _ _ g1 (@eT fr _ _ _ _ (fun _ _=>rfl) (fun b hb=>L.gy g2 hb) _ _ _ q2),⟨q3,q4,fun r R hr hb=>?_⟩, .inl ⟨g3,g2⟩⟩
      rcases jr hr with ⟨rfl,rfl,_⟩ | ⟨e,hr'⟩
      ·rw [eU] at hb
       refine q5 _ R0 L.lv ?_
       rw [bO]
       unfold gJ at hb ⊢
       rw [L.kind] at hb
       rcases abB.1 hb with h | h
       ·exact abx _ h
       ·exact abu _ (L.sub b h)
      ·exact absurd (L.only r R hr').1 e
   exact key cs vs hx hc
  | _=>exact hx.elim
end
end
end
section
open Go
section
variable {e:TypeId} {kk:K} [fr:Fr]
variable {cx:Cx} {σ:St} {α:dA} {a:Act} {w:World}
end
end
section
open Go
section
variable [Fr]
end
end
section
open Go
end
section
open Go
section
variable {e:TypeId} {kk:K} [fr:Fr]
variable {cx:Cx} {σ:St} {α:dA} {a:Act} {w:World}
end
end
end Go.Proofs.Ytabnmpabdhmkoaa.Ow
