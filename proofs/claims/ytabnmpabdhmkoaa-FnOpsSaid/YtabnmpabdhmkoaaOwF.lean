/- A verified reading of translated code: values in place of memory; part F of 6, spaces and remarks taken out. No condition. Own work of this seat. -/
import Derived.Test.YtabnmpabdhmkoaaOwE
import Derived.Test.YtabnmpabdhmkoaaOwC
import Derived.Conc.MuLone
import Derived.ChangeArms
import Derived.ChangeReads
import Derived.ChangeOld
import Derived.ChangeSame
import Derived.DataShut
set_option linter.unusedSectionVars false
set_option linter.unusedVariables false
set_option linter.unusedSimpArgs false
namespace Go.Proofs.Ytabnmpabdhmkoaa.Ow
section
open Go
variable [Fr]
abbrev IQ:=List (Nat×K×List TypeId×List TypeId)
structure IU (cx:Cx) (iJ:IQ):Prop where
 par:∀j pi,cx.par j=some pi→(pi.kp=true∨∃q,pi.base=some q)→∃q,iI (ak j) iJ=some q
 ptr:∀j p ts v,cx.ptrs j p ts v→∃k l,iI (ak j) iJ=some (k,l)∧ts=dW p k
 ref:∀j v,cx.refs j v→∃q,iI (ak j) iJ=some q
theorem qc {A:Type} {b:Bool} {x:Option A} {d:A} (h:(bif b then x else none)=some d):b=true∧x=some d:=by
 cases b with
 | true=>exact ⟨rfl,h⟩
 | false=>exact absurd h (by simp)
def FV.UZ:FV→List Nat
 | .val _ ids=>ids
 | .iK _ _ ids=>ids
 | .fn _ caps=>caps.flatMap fun c=>c.2.2
 | _=>[]
def vG (rs:List Nat) (i:Nat):Prop:=fG i=true∨i∈rs
structure wV (σ:St) (iJ:IQ) (rs:List Nat) (r:Nat) (R R':Root):Prop where
 live:aO σ r R
 valid:bu σ R
 form:∃ow tg ew eh,R'={ R with own:=ow,tags:=tg,w:=[],h:=[],g:=0,ew:=ew,eh:=eh }∧(∀t∈R.k.tys,au t ow=au t R.own)
 tags:∀t∈R.tags,vG rs t.1→(t.1,0)∈R'.tags
 SQ:∀t∈R'.tags,t.2=0∧vG rs t.1∧t.1≠r
 log:∀k wt ht,iI r iJ=some (k,wt,ht)→R.k=k∧R'.ew=wt∧R'.eh=ht∧(∀t∈R.w,t∈wt)∧(∀t∈R.ew,t∈wt)∧(∀t∈R.h,t∈ht)∧(∀t∈R.eh,t∈ht)∧R.g=0
structure Ga (σ:St) (iJ:IQ) (rs:List Nat) (σ':St):Prop where
 roots:∀r R',σ'.roots r=some R'→r∈rs∧fG r=false∧∃R,wV σ iJ rs r R R'
 made:∀r∈rs,∃R',σ'.roots r=some R'
 slots:∀s,σ'.slots s=.one .undef∨∃sh av d,σ.slots s=.one av∧LJ σ rs sh av=some d∧σ'.slots s=.one (Yx sh d)∧∀i∈sh.UZ,vG rs i
 iJ:∀r q,iI r iJ=some q→r∈rs
theorem w9:∀{p:List (Option Nat)} {q:List Stp} {c:Cont (fF.into 0 p).kin},idxOf p q=some c→pathOf p c=q
 | [],[],_,_=>rfl
 | [],_ :: _,_,h=>by simp [idxOf] at h
 | some n :: p,[],_,h=>by simp [idxOf] at h
 | some n :: p, .idx i :: q,_,h=>by simp [idxOf] at h
 | some n :: p, .fH m :: q,c,h=>by
  have h':(bif Nat.beq n m then idxOf p q else none)=some c:=h
  cases hb:Nat.beq n m with
  | false=>rw [hb] at h'; simp at h'
  | true=>
   rw [hb] at h'
   have:=agf hb
   subst this
   show Stp.fH n :: pathOf p c=_
   rw [w9 (p:=p) (q:=q) (c:=c) h']
 | none :: p,[],_,h=>by simp [idxOf] at h
 | none :: p, .fH i :: q,_,h=>by simp [idxOf] at h
 | none :: p, .idx i :: q,c,h=>by
  have h':(match idxOf p q with
   | some d=>some ((i,d):Cont (fF.into 0 (none :: p)).kin)
   | none=>none)=some c:=h
  cases hq:idxOf p q with
  | none=>rw [hq] at h'; simp at h'
  | some d=>
   rw [hq] at h'
   have h2:((i,d):Cont (fF.into 0 (none :: p)).kin)=c:=agN h'
   rw [←h2]
   show Stp.idx i :: pathOf p d=_
   rw [w9 hq]
theorem qW {rs:List Nat}:∀{l:List Tag} {r:Nat},r∈lT rs l↔(∃n,(r,n)∈l)∧vG rs r
 | [],r=>by simp [lT]
 | (q,m) :: l,r=>by
  have ih:=qW (rs:=rs) (l:=l) (r:=r)
  unfold lT
  cases hb:(fG q || au q rs) && !au q (lT rs l) with
  | true=>
   simp only [cond_true,agp]
   simp only [agi,Bool.or_eq_true,aJ] at hb
   constructor
   ·rintro (h | h)
    ·subst h
     exact ⟨⟨m, .inl rfl⟩,hb.1⟩
    ·obtain ⟨⟨n,hn⟩,h2⟩:=ih.1 h
     exact ⟨⟨n, .inr hn⟩,h2⟩
   ·rintro ⟨⟨n,h | h⟩,h2⟩
    ·exact .inl (by simpa using congrArg Prod.fst h)
    ·exact .inr (ih.2 ⟨⟨n,h⟩,h2⟩)
  | false=>
   simp only [cond_false]
   constructor
   ·intro h
    obtain ⟨⟨n,hn⟩,h2⟩:=ih.1 h
    exact ⟨⟨n, .tail _ hn⟩,h2⟩
   ·rintro ⟨⟨n,h⟩,h2⟩
    rcases agp.1 h with h | h
    ·have e:r=q:=by simpa using congrArg Prod.fst h
     subst e
     cases hm:au r (lT rs l) with
     | true=>exact aJ.1 hm
     | false=>
      exfalso
      rw [hm] at hb
      simp only [agQ,Bool.and_true,Bool.or_eq_false_iff] at hb
      rcases h2 with h2 | h2
      ·rw [hb.1] at h2; simp at h2
      ·rw [aJ.2 h2] at hb; simp at hb
    ·exact ih.2 ⟨⟨n,h⟩,h2⟩
section
variable {P:Program} {T:iF} {cx:Cx} {σ σ':St} {α:dK} {F:List Nat} {a:Act} {w:World} {iJ:IQ} {rs:List Nat}
theorem wV.kind {r:Nat} {R R':Root} (h:wV σ iJ rs r R R'):R'.kind=R.kind∧R'.k=R.k∧R'.w=[]∧R'.h=[]∧R'.g=0∧R'.bn=R.bn:=by
 obtain ⟨ow,tg,ew,eh,rfl,_⟩:=h.form
 exact ⟨rfl,rfl,rfl,rfl,rfl,rfl⟩
theorem wV.blk {r:Nat} {R R':Root} (h:wV σ iJ rs r R R'):blk α R' r=blk α R r∧dS α R' r=dS α R r:=by
 have hk:=h.kind.1
 unfold Ow.blk dS
 rw [hk]
 exact ⟨rfl,rfl⟩
theorem Ga.gW (hB:Ga σ iJ rs σ') {U U':List Tag} (hU:∀t∈U,vG rs t.1→∃n,(t.1,n)∈U') {b:Nat} (h:gW cx σ α F w U b):gW cx σ' α F w U' b:=by
 obtain ⟨h1,h2,h3,h4,h5⟩:=h
 refine ⟨h1,h2,h3,fun r R' hr hb=>?_,fun hlt=>?_⟩
 ·obtain ⟨g1,g2,R,g3⟩:=hB.roots r R' hr.1
  rw [g3.blk.1] at hb
  obtain ⟨n,hn⟩:=h4 r R g3.live hb
  exact hU _ hn (.inr g1)
 ·rcases h5 hlt with ⟨j,n,g1,g2⟩ | h
  ·obtain ⟨n',hn'⟩:=hU _ g1 (.inl (iq j))
   exact .inl ⟨j,n',hn',g2⟩
  ·exact .inr h
theorem Ga.Cz (hB:Ga σ iJ rs σ') {U U':List Tag} (hU:∀t∈U,vG rs t.1→∃n,(t.1,n)∈U') {b:Nat} (h:Cz σ α F w U b):Cz σ' α F w U' b:=by
 obtain ⟨h1,h2,h4⟩:=h
 refine ⟨h1,h2,fun r R' hr hb=>?_⟩
 obtain ⟨g1,g2,R,g3⟩:=hB.roots r R' hr.1
 rw [g3.blk.1] at hb
 obtain ⟨n,hn⟩:=h4 r R g3.live hb
 exact hU _ hn (.inr g1)
theorem RP {tags:List Tag} {ids:List Nat} (h:kF (lT rs tags) ids=true):∀t∈tags,vG rs t.1→∃n,(t.1,n)∈ids.map fun r=>((r,0):Tag):=by
 intro t ht hi
 refine ⟨0,agO.2 ⟨t.1,jf.1 h _ (qW.2 ⟨⟨t.2,ht⟩,hi⟩),rfl⟩⟩
theorem Ga.eP (hB:Ga σ iJ rs σ') {ids:List Nat} (h:∀i∈ids,vG rs i):eP σ' (ids.map fun r=>((r,0):Tag)):=by
 intro t ht
 obtain ⟨i,h1,rfl⟩:=agO.1 ht
 rcases h i h1 with h | h
 ·exact .inl h
 ·obtain ⟨R',hR⟩:=hB.made i h
  exact .inr ⟨R',hR, .inr (agM _)⟩
theorem Ga.ro (hB:Ga σ iJ rs σ') {bt:TypeId} {k:K} {x:El k} {tags:List Tag} {ids:List Nat} {v:Value} (hs:kF (lT rs tags) ids=true) (hc:bq σ (bt :: k.tys) tags=true)(hE:DV bt ids=true)
  (h:CP cx σ α F w bt k x tags v):CP cx σ' α F w bt k x (ids.map fun r=>((r,0):Tag)) v:=by
 obtain ⟨h1,h2⟩:=h
 obtain ⟨b,o,cs,e1,e2,e3,e4,e5⟩:=h2 hc
 refine ⟨h1,fun _=>⟨b,o,cs,e1,e2,fO (fun _ _=>rfl) (fun b hb=>hB.gW (RP hs) hb) e3,hB.Cz (RP hs) e4, ?_⟩⟩
 rcases e5 with ⟨g1,g2⟩ | h
 ·refine .inl ⟨g1,fun t ht=>?_⟩
  obtain ⟨i,h1,rfl⟩:=agO.1 ht
  unfold DV at hE
  rw [g1] at hE
  simp only [show Nat.beq SENT SENT=true from rfl,agF,Bool.false_or,ags] at hE
  exact hE i h1
 ·exact .inr h
theorem Ga.caps (hB:Ga σ iJ rs σ'):∀{cs:List (TypeId×K×List Nat)} {l:List (TypeId×Dat×List Tag)} {d:Cont (I9 cs)} {vs:List Value},uH σ rs cs l=some d→(∀i∈cs.flatMap (fun c=>c.2.2),vG rs i)→jC cx σ α F w l vs→
  jC cx σ' α F w (Ct cs d) vs∧∀c∈Ct cs d,Ow.eP σ' c.2.2
 | [],[],_,[],_,_,_=>⟨trivial,by intro c hc; exact absurd hc (by simp [Ct])⟩
 | [],_ :: _,_,_,h,_,_=>by simp [uH] at h
 | _ :: _,[],_,_,h,_,_=>by simp [uH] at h
 | [],[],_,_ :: _,_,_,h=>h.elim
 | _ :: _,_ :: _,_,[],_,_,h=>h.elim
 | (t,k,ids) :: cs,(t',d,tags) :: l,c,v :: vs,h,hi,hv=>by
  simp only [uH] at h
  cases hb:Nat.beq t t' && bq σ (t :: k.tys) tags && kF (lT rs tags) ids && DV t ids with
  | false=>rw [hb] at h; simp at h
  | true=>
   rw [hb] at h
   simp only [cond_true] at h
   simp only [agi] at hb
   obtain ⟨⟨⟨b1,b2⟩,b3⟩,b4⟩:=hb
   have:=agf b1
   subst this
   cases hck:bT d.1 k d.2 with
   | none=>rw [hck] at h; simp at h
   | some x=>
    rw [hck] at h
    cases hcs:uH σ rs cs l with
    | none=>rw [hcs] at h; simp at h
    | some y=>
     rw [hcs] at h
     have h2:((x,y):Cont (I9 ((t,k,ids) :: cs)))=c:=agN h
     subst h2
     obtain ⟨dk,dx⟩:=d
     obtain ⟨e,ex⟩:=bO hck
     simp only at e
     subst e
     simp only at ex
     subst ex
     have Ri:∀i∈ids,vG rs i:=fun i h=>hi i (by simp [h])
     obtain ⟨g1,g2⟩:=hB.caps (vs:=vs) hcs (fun i h=>hi i (by
      rw [List.flatMap_cons]; exact agd _ h)) hv.2
     refine ⟨⟨hB.ro b3 b2 b4 hv.1,g1⟩,fun q hq=>?_⟩
     rcases agp.1 hq with h | h
     ·subst h; exact hB.eP Ri
     ·exact g2 q h
theorem Ga.av (H:Rel cx σ α F a w) (hB:Ga σ iJ rs σ') {sh:FV} {av:AV} {d:Cont sh.ks} {v:Value} (hct:LJ σ rs sh av=some d) (hi:∀i∈sh.UZ,vG rs i) (hv:bJ cx σ α F w av v) :
  bJ cx σ' α F w (Yx sh d) v∧oz σ' (Yx sh d):=by
 cases sh with
 | undef=>exact ⟨trivial,trivial⟩
 | val k ids=>
  cases av with
  | val k' x tags=>
   simp only [LJ] at hct
   cases hb:bq σ k.tys tags && kF (lT rs tags) ids with
   | false=>rw [hb] at hct; simp at hct
   | true=>
    rw [hb] at hct
    simp only [cond_true] at hct
    simp only [agi] at hb
    cases hck:bT k' k x with
    | none=>rw [hck] at hct; simp at hct
    | some y=>
     rw [hck] at hct
     have h2:((y,()):Cont (FV.val k ids).ks)=d:=agN hct
     subst h2
     obtain ⟨e,ex⟩:=bO hck
     subst e
     simp only at ex
     subst ex
     refine ⟨fun _=>?_,hB.eP hi⟩
     obtain ⟨cs,g1,g2⟩:=hv (.inr hb.1)
     exact ⟨cs,g1,fO (fun _ _=>rfl) (fun b hb2=>hB.gW (RP hb.2) hb2) g2⟩
  | _=>simp [LJ] at hct
 | iE=>
  cases av with
  | iE=>
   exact ⟨hv,trivial⟩
  | _=>simp [LJ] at hct
 | ref r=>
  cases av with
  | ref r' g=>
   obtain ⟨hb,_⟩:=qc (show (bif Nat.beq r r' && au r rs && (match σ.roots r with | some R=>Nat.beq R.g g | none=>false) then some () else none)=some d from hct)
   simp only [agi] at hb
   obtain ⟨⟨b1,b2⟩,b3⟩:=hb
   have:=agf b1
   subst this
   obtain ⟨R',hR'⟩:=hB.made r (aJ.1 b2)
   refine ⟨fun Q hQ _=>?_,R',hR', .inr (agM _)⟩
   obtain ⟨_,_,R,g3⟩:=hB.roots r Q hQ.1
   rw [g3.live.1] at b3
   obtain ⟨f1,f2⟩:=hv R g3.live (agf b3)
   obtain ⟨k1,k2,_⟩:=g3.kind
   exact ⟨k1.trans f1,by rw [k2]; exact f2⟩
  | _=>simp [LJ] at hct
 | ptr r p=>
  cases av with
  | ptr r' q n=>
   obtain ⟨hb,Uw⟩:=qc (A:=Cont (fF.into 0 p).kin) (x:=idxOf p q) (show (bif Nat.beq r r' && au r rs && (match σ.roots r with | some R=>clean R.h n (dW q R.k) | none=>false) then idxOf p q else none)=some d from hct)
   simp only [agi] at hb
   obtain ⟨⟨b1,b2⟩,b3⟩:=hb
   have:=agf b1
   subst this
   have hpq:=w9 Uw
   obtain ⟨R',hR'⟩:=hB.made r (aJ.1 b2)
   show bJ cx σ' α F w (.ptr r (pathOf p d) 0) v∧oz σ' (.ptr r (pathOf p d) 0)
   rw [hpq]
   refine ⟨⟨hv.1,fun Q hQ Rp _ hpt hg=>?_⟩,R',hR', .inr (agM _)⟩
   obtain ⟨_,_,R,g3⟩:=hB.roots r Q hQ
   rw [g3.live.1] at b3
   have hw:=(wV.blk (α:=α) g3).2
   obtain ⟨ow,tg,ew,eh,rfl,hown⟩:=g3.form
   obtain ⟨f1,f2⟩:=hv.2 R g3.live.1 g3.valid b3 (fun t ht=>by rw [←hown t (lX q t ht)]; exact hpt t ht) hg
   exact ⟨f1,by rw [hw]; exact f2⟩
  | _=>simp [LJ] at hct
 | iK bt k ids=>
  cases av with
  | iK bt' k' x tags=>
   simp only [LJ] at hct
   cases hb:Nat.beq bt bt' && bq σ (bt :: k.tys) tags && kF (lT rs tags) ids && DV bt ids with
   | false=>rw [hb] at hct; simp at hct
   | true=>
    rw [hb] at hct
    simp only [cond_true] at hct
    simp only [agi] at hb
    obtain ⟨⟨⟨b1,b2⟩,b3⟩,b4⟩:=hb
    have:=agf b1
    subst this
    cases hck:bT k' k x with
    | none=>rw [hck] at hct; simp at hct
    | some y=>
     rw [hck] at hct
     have h2:((y,()):Cont (FV.iK bt k ids).ks)=d:=agN hct
     subst h2
     obtain ⟨e,ex⟩:=bO hck
     subst e
     simp only at ex
     subst ex
     exact ⟨hB.ro b3 b2 b4 hv,hB.eP hi⟩
  | _=>simp [LJ] at hct
 | oL=>
  cases av with
  | oL=>
   exact ⟨hv,trivial⟩
  | _=>simp [LJ] at hct
 | fn f cs=>
  cases av with
  | fn f' caps=>
   obtain ⟨hb,Uw⟩:=qc (A:=Cont (I9 cs)) (x:=uH σ rs cs caps) (show (bif Nat.beq f f' then uH σ rs cs caps else none)=some d from hct)
   have:=agf hb
   subst this
   obtain ⟨vs,e,hc⟩:=hv
   obtain ⟨g1,g2⟩:=hB.caps Uw hi hc
   exact ⟨⟨vs,e,g1⟩,g2⟩
  | _=>simp [LJ] at hct
end
end
section
open Go
variable [Fr]
section
variable {P:Program} {T:iF} {cx:Cx} {σ σ':St} {α:dK} {F:List Nat} {a:Act} {w:World} {iJ:IQ} {rs:List Nat}
theorem PM (H:Rel cx σ α F a w) (hP:IU cx iJ) (hB:Ga σ iJ rs σ'):Rel cx σ' α F a w:=by
 have Mj:∀{r:Nat} {R':Root},aO σ' r R'→∃R,wV σ iJ rs r R R':=fun h=>by
  obtain ⟨_,_,R,h⟩:=hB.roots _ _ h.1
  exact ⟨R,h⟩
 have sW:∀{j:Nat} {q},iI (ak j) iJ=some q→∃R R',σ'.roots (ak j)=some R'∧wV σ iJ rs (ak j) R R':=fun h=>by
  obtain ⟨R',hR'⟩:=hB.made _ (hB.iJ _ _ h)
  obtain ⟨_,_,R,h⟩:=hB.roots _ _ hR'
  exact ⟨R,R',hR',h⟩
 have hsame:∀{τ:St} {r:Nat} {R Q:Root},τ.roots r=some R→τ.roots r=some Q→Q=R:=fun h1 h2=>by rw [h1] at h2; simpa using h2.symm
 refine ⟨H.defs,H.sz, ?_, ?_, ?_, ?_, ?_, ?_, ?_,H.fl,H.uW, ?_,H.frame, ?_,H.lW, ?_, ?_⟩
 ·intro j pi b o n hj hb
  obtain ⟨Q,hQ,hk,hl,hs⟩:=H.jV j pi b o n hj hb
  obtain ⟨q,hq⟩:=hP.par j pi hj (.inr ⟨_,hb⟩)
  obtain ⟨R,R',hR',h1⟩:=sW hq
  have:=hsame hQ.1 h1.live.1
  subst this
  obtain ⟨k1,k2,_,_,_,k6⟩:=h1.kind
  exact ⟨R',⟨hR',k6.trans hQ.2⟩,k1.trans hk,hl,by rw [k2]; exact hs⟩
 ·intro r R' hr hk
  obtain ⟨R,h1⟩:=Mj hr
  exact H.yz r R h1.live (h1.kind.1.symm.trans hk)
 ·intro s
  rcases hB.slots s with h | ⟨sh,av,d,h1,h2,h3,h4⟩
  ·rw [h]; trivial
  ·rw [h3]
   have:=H.slots s
   rw [h1] at this
   exact (hB.av H h2 h4 this).1
 ·intro s
  rcases hB.slots s with h | ⟨sh,av,d,h1,h2,h3,h4⟩
  ·rw [h]; trivial
  ·rw [h3]
   have:=H.slots s
   rw [h1] at this
   exact (hB.av H h2 h4 this).2
 ·intro r R' hr
  obtain ⟨R,h1⟩:=Mj hr
  have O:=H.roots r R h1.live
  have hb:=(wV.blk (α:=α) h1).1
  have hw:=(wV.blk (α:=α) h1).2
  have ht:=h1.tags
  have hv:=h1.valid
  obtain ⟨ow,tg,ew,eh,rfl,hown⟩:=h1.form
  refine ⟨fun _=>ou hown (bz (fun _ _=>rfl) (fun b hb2=>?_) (fun _ _=>rfl) (O.ow hv)),O.len, ?_, ?_, ?_⟩
  ·exact hB.gW (fun t h hi=>⟨0,ht t h hi⟩) hb2
  ·rw [hw]; exact O.mem
  ·rw [hb]; exact O.nd
  ·rw [hb]; exact O.mine
 ·intro r R' hr
  obtain ⟨g1,g2,R,h1⟩:=hB.roots r R' hr
  refine ⟨fun t ht=>?_,g2,fun n hn=>(h1.SQ _ hn).2.2 rfl⟩
  obtain ⟨f1,f2,_⟩:=h1.SQ t ht
  rcases f2 with h | h
  ·exact .inl h
  ·obtain ⟨Q,hQ⟩:=hB.made _ h
   exact .inr ⟨Q,hQ, .inr (by rw [f1]; exact agM _)⟩
 ·intro r R1 r' R2 h1 h2 hne b hb
  obtain ⟨Q1,g1⟩:=Mj h1
  obtain ⟨Q2,g2⟩:=Mj h2
  rw [(wV.blk (α:=α) g1).1] at hb
  rw [(wV.blk (α:=α) g2).1]
  exact H.AA r Q1 r' Q2 g1.live g2.live hne b hb
 ·intro r R' hr b hb
  obtain ⟨R,h1⟩:=Mj hr
  rw [(wV.blk (α:=α) h1).1] at hb
  exact H.iD r R h1.live b hb
 ·intro j pi hj hk
  obtain ⟨⟨k,wt,ht⟩,hq⟩:=hP.par j pi hj (.inl hk)
  obtain ⟨R,R',hR',h1⟩:=sW hq
  obtain ⟨l1,l2,l3,l4,l5,l6,l7,l8⟩:=h1.log k wt ht hq
  obtain ⟨Q,hQ,hk2⟩:=H.ql j pi hj hk
  have:=hsame h1.live.1 hQ
  subst this
  refine ⟨R',hR',fun _ b hb hnb=>?_⟩
  rcases hk2 h1.live.2 b hb hnb with ⟨e,e1,e2⟩ | ⟨g1,g2,g3⟩
  ·refine .inl ⟨e,e1, .inr ?_⟩
   rw [l2]
   rcases e2 with h | h
   ·exact l4 e h
   ·exact l5 e h
  ·refine .inr ⟨g1,g2,fun q Q hQ hbq=>?_⟩
   obtain ⟨Q0,h2⟩:=Mj hQ
   rw [(wV.blk (α:=α) h2).1] at hbq
   exact g3 q Q0 h2.live hbq
 ·intro j p ts v hv
  obtain ⟨k,⟨wt,ht⟩,hq,hts⟩:=hP.ptr j p ts v hv
  obtain ⟨R,R',hR',h1⟩:=sW hq
  obtain ⟨l1,l2,l3,l4,l5,l6,l7,l8⟩:=h1.log k wt ht hq
  obtain ⟨f1,Q,hQ,f2⟩:=H.rE j p ts v hv
  have:=hsame h1.live.1 hQ
  subst this
  refine ⟨f1,R',hR',fun hno=>?_⟩
  rw [l3] at hno
  have Oq:=f2 (fun t h1 h2=>hno t h1 (l7 t h2))
  refine ⟨f1,fun Q2 Un _ _ hpt hg=>?_⟩
  have:=hsame hR' Un
  subst this
  have hw:=(wV.blk (α:=α) h1).2
  have hv1:=h1.valid
  have hr1:=h1.live.1
  obtain ⟨ow,tg,ew,eh,rfl,hown⟩:=h1.form
  obtain ⟨q1,q2⟩:=Oq.2 Q hr1 hv1 (by
    unfold clean
    rw [ags]
    intro t ht1
    have h3:t∈Q.h:=List.mem_of_mem_take ht1
    simp only [Bool.not_eq_true',aT]
    rw [l1, ←hts]
    exact fun h4=>hno t h4 (l6 t h3))
   (fun t ht=>by rw [←hown t (lX p t ht)]; exact hpt t ht) hg
  exact ⟨q1,by rw [hw]; exact q2⟩
 ·intro j v hv
  obtain ⟨⟨k,wt,ht⟩,hq⟩:=hP.ref j v hv
  obtain ⟨R,R',hR',h1⟩:=sW hq
  obtain ⟨l1,l2,l3,l4,l5,l6,l7,l8⟩:=h1.log k wt ht hq
  obtain ⟨_,f2⟩:=H.rF j v hv
  refine ⟨⟨R',hR'⟩,fun Q2 Un _=>?_⟩
  have:=hsame hR' Un.1
  subst this
  obtain ⟨q1,q2⟩:=f2 R h1.live l8
  obtain ⟨k1,k2,_⟩:=h1.kind
  exact ⟨k1.trans q1,by rw [k2]; exact q2⟩
structure Xj (iJ:IQ) (rs:List Nat) (s:R3):Prop where
 slots:∀q∈s.ss,∀i∈q.2.UZ,vG rs i
 roots:∀q∈s.rs,q.1∈rs∧fG q.1=false∧(∀i∈q.2.ids,vG rs i∧i≠q.1)∧q.2.log=iI q.1 iJ
 keys:∀r∈rs,∃q∈s.rs,q.1=r
 iJ:∀r q,iI r iJ=some q→r∈rs
theorem JL:∀{l:List (Nat×FV)} {c:Cont (MC l)},Xq σ rs l=some c→∀n,mkS l c n=.one .undef∨∃sh av d,(n,sh)∈l∧σ.slots n=.one av∧LJ σ rs sh av=some d∧mkS l c n=.one (Yx sh d)
 | [],_,_,_=>.inl rfl
 | (s,sh) :: l,c,h,n=>by
  simp only [Xq] at h
  split at h
  ·rename_i av hs
   split at h
   ·rename_i x y hx hy
    have h2:Cont.app sh.ks (MC l) x y=c:=agN h
    subst h2
    simp only [mkS]
    rw [x8,yE]
    cases hb:Nat.beq n s with
    | true=>
     have:=agf hb
     subst this
     exact .inr ⟨sh,av,x,by simp,hs,hx,rfl⟩
    | false=>
     rcases JL hy n with h | ⟨sh',av',d,g1,g2,g3,g4⟩
     ·exact .inl h
     ·exact .inr ⟨sh',av',d, .tail _ g1,g2,g3,g4⟩
   ·simp at h
  ·split at h
   ·split at h
    ·rename_i d hd
     have h2:d=c:=agN h
     subst h2
     simp only [mkS]
     cases hb:Nat.beq n s with
     | true=>exact .inl rfl
     | false=>
      rcases JL hd n with h | ⟨sh',av',d,g1,g2,g3,g4⟩
      ·exact .inl h
      ·exact .inr ⟨sh',av',d, .tail _ g1,g2,g3,g4⟩
    ·simp at h
   ·simp at h
theorem PR {a b:zC} (h:PO a b=true):a=b:=by
 cases a <;> cases b <;> simp_all [PO]
theorem Pv:∀{l:List (Nat×Gb)} {c:Cont (Qj l)},Y7 σ rs l=some c→∀n R',SB l c n=some R'→∃sh R,(n,sh)∈l∧σ.roots n=some R∧bu σ R∧kF (lT rs R.tags) sh.ids=true∧U5 R sh.log=true∧
   (∀t∈R.k.tys,au t sh.own=au t R.own)∧R'={ R with own:=sh.own,tags:=sh.ids.map fun r=>(r,0),w:=[],h:=[],g:=0,ew:=Yw sh.log,eh:=Yv sh.log }
 | [],_,_,_,_,h=>by simp [SB] at h
 | (r,sh) :: l,c,h,n,R',hm=>by
  simp only [Y7] at h
  split at h
  ·rename_i R hR
   obtain ⟨hb,h⟩:=qc h
   split at h
   ·rename_i x y hx hy
    have h2:(x,y)=c:=agN h
    subst h2
    simp only [SB] at hm
    cases hn:Nat.beq n r with
    | false=>
     rw [hn] at hm
     obtain ⟨sh',R2,g1,g2⟩:=Pv hy n R' hm
     exact ⟨sh',R2, .tail _ g1,g2⟩
    | true=>
     rw [hn] at hm
     have:=agf hn
     subst this
     simp only [agi] at hb
     obtain ⟨⟨⟨⟨⟨⟨⟨b1,b2⟩,b3⟩,b4⟩,b5⟩,b6⟩,b7⟩,b8⟩:=hb
     obtain ⟨e,ex⟩:=bO hx
     refine ⟨sh,R,by simp,hR,⟨by simpa using b7,b1⟩,b2,b8,fun t ht=>?_, ?_⟩
     ·have:=ags.1 b3 t (e▸ht)
      simp only [beq_iff_eq] at this
      exact this.symm
     ·have b4':=PR b4
      have b5':R.fixed=sh.fixed:=by simpa using b5
      have b6':R.keep=sh.keep:=by simpa using b6
      obtain ⟨k,ow,ids,kd,fx,kp,lg⟩:=sh
      simp only at e ex b4' b5' b6'
      obtain ⟨Rk,Rx,TZ,NC,Rw,Rh,Rg,NB,abN,NA,Rew,Reh⟩:=R
      simp only at e ex b4' b5' b6'
      subst e b4' b5' b6'
      simp only at ex
      subst ex
      simp only [cond_true,agb] at hm
      exact hm.symm
   ·simp at h
  ·simp at h
theorem HV:∀{l:List (Nat×Gb)} (c:Cont (Qj l)) {r:Nat},(∃q∈l,q.1=r)→∃R',SB l c r=some R'
 | [],_,_,h=>by obtain ⟨q,h,_⟩:=h; simp at h
 | (s,sh) :: l,c,r,h=>by
  simp only [SB]
  cases hb:Nat.beq r s with
  | true=>exact ⟨_,rfl⟩
  | false=>
   refine HV c.2 ?_
   obtain ⟨q,h1,h2⟩:=h
   rcases agp.1 h1 with h | h
   ·subst h; simp only at h2; subst h2; simp at hb
   ·exact ⟨q,h,h2⟩
theorem Ga.of {s:R3} (hs:Xj iJ rs s) {c:s.V} (h:LK rs s σ=some c):Ga σ iJ rs (FB s c):=by
 unfold LK at h
 split at h
 ·rename_i x y hx hy
  have h2:Cont.app (MC s.ss) (Qj s.rs) x y=c:=agN h
  subst h2
  have e1:(FB s (Cont.app (MC s.ss) (Qj s.rs) x y)).slots=mkS s.ss x:=by unfold FB; rw [x8]
  have e2:(FB s (Cont.app (MC s.ss) (Qj s.rs) x y)).roots=SB s.rs y:=by unfold FB; rw [yE]
  refine ⟨fun r R' hr=>?_,fun r hr=>?_,fun n=>?_,hs.iJ⟩
  ·rw [e2] at hr
   obtain ⟨sh,R,g1,g2,g3,g4,g5,g6,g7⟩:=Pv hy r R' hr
   obtain ⟨f1,f2,f3,f4⟩:=hs.roots _ g1
   refine ⟨f1,f2,R,⟨g2,g3.1⟩,g3,⟨_,_,_,_,g7,g6⟩, ?_, ?_, ?_⟩
   ·intro t ht hi
    rw [g7]
    obtain ⟨n,hn⟩:=RP g4 t ht hi
    obtain ⟨i,hi1,hi2⟩:=agO.1 hn
    simp only [agn] at hi2
    have h0:n=0:=hi2.2.symm
    subst h0
    exact hn
   ·intro t ht
    rw [g7] at ht
    obtain ⟨i,h1,rfl⟩:=agO.1 ht
    exact ⟨rfl,f3 i h1⟩
   ·intro k wt ht hq
    simp only at f4
    rw [f4,hq] at g5 g7
    simp only [U5,wO,agi,jf] at g5
    obtain ⟨p1,⟨⟨⟨p2,p3⟩,p4⟩,p5⟩,p6⟩:=g5
    subst g7
    exact ⟨K.eq_of_beq p1,rfl,rfl,p2,p3,p4,p5,agf p6⟩
  ·rw [e2]
   exact HV y (hs.keys r hr)
  ·rw [e1]
   rcases JL hx n with h | ⟨sh,av,d,g1,g2,g3,g4⟩
   ·exact .inl h
   ·exact .inr ⟨sh,av,d,g2,g3,g4,hs.slots _ g1⟩
 ·simp at h
theorem CX:∀{l:List (TypeId×Dat×List Tag)},∀i∈(CW rs l).flatMap (fun c=>c.2.2),vG rs i
 | [],i,h=>by simp [CW] at h
 | (t,d,tags) :: l,i,h=>by
  simp only [CW,List.flatMap_cons,agl] at h
  rcases h with h | h
  ·exact (qW.1 h).2
  ·exact CX i h
theorem GH {rs ex:List Nat}:∀i∈Oa rs ex,vG rs i:=by
 intro i hi
 unfold Oa at hi
 rw [agu,Bool.or_eq_true,aJ] at hi
 exact hi.2
theorem RL {ex:List Nat} {av:AV}:∀i∈(shA rs ex av).UZ,vG rs i:=by
 intro i hi
 cases av <;> simp only [shA,FV.UZ,List.not_mem_nil] at hi
 ·rcases agl.1 hi with hi | hi
  ·exact (qW.1 hi).2
  ·exact GH i hi
 ·exact (qW.1 hi).2
 ·exact CX i hi
theorem Lc {wd:List (Nat×List Nat)}:∀{l:List Nat},∀q∈YX wd rs σ l,∀i∈q.2.UZ,vG rs i
 | [],q,h,_,_=>by simp [YX] at h
 | s :: l,q,h,i,hi=>by
  simp only [YX,agp] at h
  rcases h with h | h
  ·subst h
   split at hi
   ·exact RL i hi
   ·simp [FV.UZ] at hi
  ·exact Lc q h i hi
theorem PX {wd:List (Nat×List Nat)}:∀{l:List Nat} {q:List (Nat×Gb)},YW wd iJ rs σ l=some q→(∀z∈q,z.1∈l∧∃R,σ.roots z.1=some R∧z.2.ids=lT rs R.tags++(Oa rs (rA (2 * z.1+1) wd)).filter (fun q=>!Nat.beq q z.1)∧z.2.log=iI z.1 iJ)∧∀r∈l,∃z∈q,z.1=r
 | [],q,h=>by simp [YW] at h; subst h; simp
 | r :: l,q,h=>by
  simp only [YW] at h
  split at h
  ·rename_i R q' hR hq
   obtain ⟨i1,i2⟩:=PX hq
   simp only [agb] at h
   subst h
   refine ⟨fun z hz=>?_,fun r' hr=>?_⟩
   ·rcases agp.1 hz with h | h
    ·subst h; exact ⟨by simp,R,hR,rfl,rfl⟩
    ·obtain ⟨f1,f2⟩:=i1 z h
     exact ⟨.tail _ f1,f2⟩
   ·rcases agp.1 hr with h | h
    ·exact ⟨_,agK,h.symm⟩
    ·obtain ⟨z,z1,z2⟩:=i2 r' h
     exact ⟨z, .tail _ z1,z2⟩
  ·simp at h
theorem zM:∀{l:IQ} {r:Nat} {q},iI r l=some q→∃p∈l,p.1=r
 | [],_,_,h=>by simp [iI] at h
 | (s,p) :: l,r,q,h=>by
  simp only [iI] at h
  cases hb:Nat.beq r s with
  | true=>exact ⟨_,agK,(agf hb).symm⟩
  | false=>
   rw [hb] at h
   obtain ⟨p',h1,h2⟩:=zM h
   exact ⟨p', .tail _ h1,h2⟩
theorem RN {wd:List (Nat×List Nat)} (H:Rel cx σ α F a w) {ss:List Nat} {s:R3} (h:Vi wd iJ ss rs σ=some s):Xj iJ rs s:=by
 unfold Vi at h
 split at h
 ·rename_i q hq
  obtain ⟨hb,h⟩:=qc h
  simp only [agb] at h
  subst h
  obtain ⟨i1,i2⟩:=PX hq
  refine ⟨Lc,fun z hz=>?_,i2,fun r q hf=>?_⟩
  ·obtain ⟨f1,R,f2,f3,f4⟩:=i1 z hz
   obtain ⟨_,g2,g3⟩:=H.dn _ R f2
   refine ⟨f1,g2,fun i hi=>?_,f4⟩
   rw [f3] at hi
   rcases agl.1 hi with hi | hi
   ·obtain ⟨⟨n,hn⟩,h2⟩:=qW.1 hi
    exact ⟨h2,fun e=>g3 n (e▸hn)⟩
   ·rw [agu] at hi
    refine ⟨GH i hi.1,fun e=>?_⟩
    subst e
    have:=hi.2
    simp at this
  ·obtain ⟨p,p1,p2⟩:=zM hf
   have:=ags.1 hb p p1
   rw [←p2]
   exact aJ.1 this
 ·simp at h
end
end
section
open Go
variable [Fr]
def Xt:Exit→Option Ex
 | .normal=>some .normal
 | .exit i=>some (.exit i)
 | .ret=>some .ret
 | _=>none
section
variable {P:Program} {T:iF} {hi:Hint} {n:Nat} {cx:Cx} {σ:St} {α:dK} {F:List Nat} {a:Act} {w:World} {R:Type} {r:R} {ag:Option R→Option R→Option R}
def QK (cx:Cx) (K:Ex→St→Option R) (r:R) (e:Exit) (a:Act) (w:World):Prop:=∃x σ α F,Xt e=some x∧K x σ=some r∧Rel cx σ α F a w
theorem least {p:Nat→Prop} (h:∃n,p n):∃m,p m∧∀k,p k→m≤k:=by
 obtain ⟨n,hn⟩:=h
 induction n using Nat.strongRecOn with
 | _ n ih=>
  by_cases hk:∃k,k<n∧p k
  ·obtain ⟨k,h1,h2⟩:=hk
   exact ih k h1 h2
  ·exact ⟨n,hn,fun k h=>Nat.le_of_not_lt fun hlt=>hk ⟨k,hlt,h⟩⟩
theorem Ug (hag:∀{a b z},ag a b=some z→a=some z∧b=some z) (hm:P.follows .mixedOrders=true) (hT:dX P T) (hSt:Dc P T) (hC:qJ P n hi) (hnt:hi.nt=cx.nt) (hP:IU cx hi.iJ) :
  ∀(code:Code) (b:Nat) {σ:St} {α:dK} {F:List Nat} {a:Act} {w:World} {K:Ex→St→Option R},den T hi n ag b code σ K=some r→Rel cx σ α F a w→code.wp P (QK cx K r) a w:=by
 intro code
 induction code with
 | skip=>intro b σ α F a w K h H; exact wp_skip ⟨_,_,_,_,rfl,h,H⟩
 | exit id=>intro b σ α F a w K h H; exact wp_exit ⟨_,_,_,_,rfl,h,H⟩
 | ret=>intro b σ α F a w K h H; exact wp_ret ⟨_,_,_,_,rfl,h,H⟩
 | seq x y Zi Yt=>
  intro b σ α F a w K h H
  refine wp_seq (wp_mono (Zi b h H) ?_)
  rintro e a' w' ⟨ex,σ',α',F',h1,h2,h3⟩
  cases e <;> simp only [Xt,agb,reduceCtorEq] at h1
  ·subst h1; exact Yt b h2 h3
  ·subst h1; exact ⟨_,_,_,_,rfl,h2,h3⟩
  ·subst h1; exact ⟨_,_,_,_,rfl,h2,h3⟩
 | cond c x y Zi Yt=>
  intro b σ α F a w K h H
  simp only [den] at h
  obtain ⟨v0,h1,h2⟩:=rQ _ h
  obtain ⟨v,g1,g2,g3⟩:=bR H h1
  have ev:v0=v:=g3
  subst ev
  have hplain:((asBool v0 .ret).run σ fun t=>if t=true then den T hi n ag b x σ K else den T hi n ag b y σ K)=some r→Code.wp P (.cond c x y) (QK cx K r) a w:=by
   intro h2
   obtain ⟨t,h3,h4⟩:=rQ _ h2
   obtain ⟨b',e1,e2⟩:=Bc g1 h3
   have e2':t=b':=e2
   subst e2'
   refine wp_cond (t:=t) e1 ?_
   cases t with
   | true=>exact Zi b h4 H
   | false=>exact Yt b h4 H
  cases v0 with
  | ve e=>
   simp only at h2
   obtain ⟨b',e1,e2⟩:=g1
   refine wp_cond (t:=b') e1 ?_
   cases b' with
   | true=>
    rw [if_pos (e2 rfl)] at h2
    exact Zi b (hag h2).1 H
   | false=>
    split at h2
    ·exact Yt b (hag h2).2 H
    ·exact Yt b h2 H
  | _=>exact hplain h2
 | block id x ih=>
  intro b σ α F a w K h H
  simp only [den] at h
  refine wp_block (wp_mono (ih id h H) ?_)
  rintro e a' w' ⟨ex,σ',α',F',h1,h2,h3⟩
  cases e <;> simp only [Xt,agb,reduceCtorEq] at h1
  ·subst h1; exact ⟨_,_,_,_,rfl,h2,h3⟩
  ·rename_i i
   subst h1
   simp only at h2
   unfold Exit.inBlock
   simp only
   cases hb:Nat.beq i id with
   | true=>
    rw [hb] at h2
    rw [if_pos (agf hb)]
    exact ⟨_,_,_,_,rfl,h2,h3⟩
   | false=>
    rw [hb] at h2
    rw [if_neg (Nat.ne_of_beq_eq_false hb)]
    exact ⟨_,_,_,_,rfl,h2,h3⟩
  ·subst h1; exact ⟨_,_,_,_,rfl,h2,h3⟩
 | loop x ih=>
  intro b σ α F a w K h H
  simp only [den] at h
  split at h
  ·rename_i ss rs hf
   split at h
   ·rename_i s hs
    obtain ⟨αl,Hl⟩:=Fw hi rs H
    have hok:=RN Hl hs
    split at h
    ·rename_i c hc
     have H0:=PM Hl hP (Ga.of hok hc)
     generalize hB:(fun (L:s.V→Option R) v=>den T hi n ag b x (FB s v) fun
      | .normal,σ'=>match LK rs s (xq hi rs σ') with
       | some v'=>L v'
       | none=>none
      | e,σ'=>K e σ')=B at h
     have hBi:∀(L:s.V→Option R) v,B L v=den T hi n ag b x (FB s v) fun
      | .normal,σ'=>match LK rs s (xq hi rs σ') with
       | some v'=>L v'
       | none=>none
      | e,σ'=>K e σ':=fun L v=>by rw [←hB]
     let I:Nat→Act→World→Prop:=fun m a w=>∃v α F,rounds B m v=some r∧Rel cx (FB s v) α F a w
     have hex:∀{m:Nat} {a:Act} {w:World},I m a w→∃m,I m a w:=fun h=>⟨_,h⟩
     classical
     refine wp_loop (fun a w=>∃m,I m a w) (fun a w=>if h:∃m,I m a w then Classical.choose (least h) else 0) ⟨_,_,_,_,h,H0⟩ ?_
     intro a w hI
     rw [dif_pos hI]
     have hI2:=(Classical.choose_spec (least hI)).1
     generalize Classical.choose (least hI)=m at hI2
     obtain ⟨v,α,F,h1,h2⟩:=hI2
     cases m with
     | zero=>simp [rounds] at h1
     | succ m=>
      have h1':B (rounds B m) v=some r:=h1
      rw [hBi] at h1'
      refine wp_mono (ih b h1' h2) ?_
      rintro e a' w' ⟨ex,σ',α',F',g1,g2,g3⟩
      cases e <;> simp only [Xt,agb,reduceCtorEq] at g1
      ·subst g1
       simp only at g2
       split at g2
       ·rename_i v' hv'
        obtain ⟨αm,Hm⟩:=Fw hi rs g3
        have hI':I m a' w':=⟨v',_,_,g2,PM Hm hP (Ga.of hok hv')⟩
        refine ⟨⟨m,hI'⟩, ?_⟩
        rw [dif_pos ⟨m,hI'⟩]
        exact Nat.lt_succ_of_le ((Classical.choose_spec (least ⟨m,hI'⟩)).2 m hI')
       ·simp at g2
      ·subst g1; exact ⟨_,_,_,_,rfl,g2,g3⟩
      ·subst g1; exact ⟨_,_,_,_,rfl,g2,g3⟩
    ·simp at h
   ·simp at h
  ·simp at h
 | region id ops draw=>
  intro b σ α F a w K h H
  simp only [den] at h
  cases draw with
  | true=>
   have H':Rel cx σ α F a { w with drawn:=w.drawn+1 }:=H.drawn (w.drawn+1)
   exact wp_region_any hm (Ob hT hSt hC hnt (fun σ' α' F' a' w' h1 h2=>⟨_,_,_,_,rfl,h1,h2⟩) h H')
  | false=>
   refine wp_region ?_
   have:=Js (P:=P) (Q:=QK cx K r) hT hSt hC hnt (fun σ' α' F' a' w' h1 h2=>⟨_,_,_,_,rfl,h1,h2⟩) ops.toList 0 (by simp) h H
   rw [Array.length_toList, ←List.range_eq_range'] at this
   exact this
 | _=>intro b σ α F a w K h; simp [den] at h
end
end
section
open Go
variable [Fr]
def M0 (a:Act):ResultVar→Sem Value
 | .tmp t=>pure (a.tmps.getD t undef)
 | .cell x t=>do loadVar t (←asAddr (a.tmps.getD x undef))
section
variable {P:Program} {T:iF} {cx:Cx} {σ:St} {α:dK} {F:List Nat} {a:Act} {w:World} {A:Type} {z:A}
theorem MJ (hT:dX P T) (H:Rel cx σ α F a w) {t:TypeId} {x:AV} {v:Value} {o8:Bool} {k:AV→Prog A} (h1:bJ cx σ α F w x v) (h2:oz σ x) (h:(yj T o8 t x k).ends σ z) :
  ∃y u,(do loadVar t (←asAddr v):Sem Value).run P w=.ok u w∧bJ cx σ α F w y u∧oz σ y∧(k y).ends σ z:=by
 have G9:∀{b o:Nat} {u:Value},(Instr.loadAt t (.pointer (some ⟨b,o,none⟩))).run P w=.ok u w→v=.pointer (some ⟨b,o,none⟩)→(do loadVar t (←asAddr v):Sem Value).run P w=.ok u w:=by
  intro b o u h e
  subst e
  exact h
 unfold yj at h
 split at h
 ·exact h.elim
 ·rename_i kk hty
  have ht:=hT.ty t kk hty
  obtain ⟨s1,s2,s3⟩:=ht.shape
  split at h
  ·rename_i r g k0 p
   obtain ⟨u,b,off,k1,e,hq,hC,ho1,hR⟩:=h1
   obtain ⟨R,hr,hv,h⟩:=cK h
   rcases ay h with ⟨hc,h⟩ | ⟨_,h⟩
   ·simp only [agi] at hc
    cases hg:aP p R.k R.x with
    | none=>rw [hg] at h; exact h.elim
    | some dd=>
     rw [hg] at h
     simp only at h
     obtain ⟨dk,dx⟩:=dd
     rcases beq_true h with ⟨ek,h5⟩ | ⟨_,h⟩
     ·simp only at ek
      subst ek
      have hk0:=K.eq_of_beq hc.1.2
      subst hk0
      obtain ⟨hka,yf⟩:=hR R hr (agf hc.1.1)
      rw [yf.cells] at hC
      have hwn:dS α R r=none:=by unfold dS; rw [hka]
      obtain ⟨g1,g2,g3,g4,g5⟩:=BR (h:=hp w) p hg ho1 (H.roots r R hr).len
      simp only at g1
      subst g1
      have hown:∀t∈aa p R.k,au t R.own=true:=fun t ht=>by rw [g5] at ht; simp at ht
      have hn:bH (hp w) p R.k (α.hdr r) (dS α R r)=some (((α.hdr r).drop off).take k1.size,none):=by rw [hwn]; exact g3
      obtain ⟨fI,hO,hf⟩:=qQ H hr hv hg g4 hown hn
      have hV:=lU H hr hO hf
      have hcs:Cells (hp w) b off (((α.hdr r).drop off).take k1.size):=by
       intro i hi
       have hi':i<k1.size:=by rw [wD g2] at hi; exact hi
       have:=hC (off+i) (by omega)
       rw [Nat.zero_add] at this
       rw [this,List.getElem?_take_of_lt hi',List.getElem?_drop]
      obtain ⟨u',hu⟩:=VC.mk s1 s2 s3 hV
      have hrun:=pJ (P:=P) ht hcs (jQ hV) hu
      rcases ay h5 with ⟨hf,h6⟩ | ⟨_,h6⟩
      ·exact ⟨.val k1 dx [],u',G9 hrun e,fun _=>⟨_,hu,iG hf hV⟩,(fun t ht=>by simp at ht),h6⟩
      ·exact ⟨.o8 r p R.rW,u',G9 hrun e,vC (cx:=cx) (F:=F) hr hg g4 hown hn hu,⟨R,hr.1, .inr (agt _)⟩,h6⟩
     ·exact h.elim
   ·exact h.elim
  rcases uz H h1 h2 h with ⟨r,R,p,dd,cs,b,q,hr,hv,hg,fK,hown,hn,e,h⟩ | ⟨bt,dd,Tg,b,q,cs,hw,e,hcs,hV,hok,hb,h⟩
  ·obtain ⟨hC,⟨fI,hO,hf⟩,_⟩:=mX H hr hv hg fK hown hn
   obtain ⟨dk,dx⟩:=dd
   rcases beq_true h with ⟨ek,h5⟩ | ⟨_,h⟩
   ·simp only at ek
    subst ek
    clear h
    have h:=h5
    clear h5
    have hV:=lU H hr hO hf
    obtain ⟨u,hu⟩:=VC.mk s1 s2 s3 hV
    have hrun:=pJ (P:=P) ht hC (jQ hV) hu
    rcases ay h with ⟨_,h⟩ | ⟨_,h⟩
    ·exact ⟨.o8 r p R.rW,u,G9 hrun e,vC (cx:=cx) (F:=F) hr hg fK hown hn hu,⟨R,hr.1, .inr (agt _)⟩,h⟩
    ·exact ⟨_,u,G9 hrun e,(show bJ cx σ α F w (.val dk dx _) u from fun _=>⟨cs,hu,hV⟩),Ef H hr _,h⟩
   ·exact h.elim
  ·obtain ⟨dk,dx⟩:=dd
   rcases beq_true h with ⟨ek,h5⟩ | ⟨_,h⟩
   ·simp only at ek
    subst ek
    clear h
    have h:=h5
    clear h5
    obtain ⟨u,hu⟩:=VC.mk s1 s2 s3 hV
    have hrun:=pJ (P:=P) ht hcs (jQ hV) hu
    refine ⟨_,u,G9 hrun e,(show bJ cx σ α F w (.val dk dx _) u from fun _=>⟨cs,hu, ?_⟩), ?_,h⟩
    ·cases hf:dk.flat with
     | true=>exact iG hf hV
     | false=>exact hV
    ·cases hf:dk.flat with
     | true=>intro t ht; simp at ht
     | false=>exact hw
   ·exact h.elim
theorem yB (hT:dX P T) (H:Rel cx σ α F a w) {own:Bool} {rv:ResultVar} {k:AV→Prog A} (h:(JV T own rv k).ends σ z):∃y u,(M0 a rv).run P w=.ok u w∧bJ cx σ α F w y u∧oz σ y∧(k y).ends σ z:=by
 cases rv with
 | tmp t=>
  obtain ⟨v,h1,h2,h3⟩:=bR H h
  exact ⟨v,_,rfl,h1,h2,h3⟩
 | cell t ty=>
  obtain ⟨v,h1,h2,h3⟩:=bR H h
  exact MJ hT H h1 h2 h3
def II (P:Program) (cx:Cx) (σ:St) (α:dK) (F:List Nat) (a:Act) (w:World):(rs:List uw)→List ResultVar→Cont (gV rs)→List Value→List (Value×gQ)→List (List Tag)→Prop
 | [],[],_,[],[],[]=>True
 | .val k exts gM :: rs,rv :: sG,c,v :: vs,its,tg :: xG=>((M0 a rv).run P w=.ok v w∧(k.flat=true∨nK exts gM tg=true)∧QH cx σ α F a w k c.1 tg v)∧II P cx σ α F a w rs sG c.2 vs its xG
 | .own k ow exts gM :: rs,rv :: sG,c,v :: vs,it :: its,xG=>((M0 a rv).run P w=.ok v w∧it.1=v∧su cx σ α F w v it.2∧(∃e:it.2.k=k,c.1=e▸it.2.x)∧kF (k.tys.filter fun t=>au t ow) it.2.own=true∧
   ((k.tys.all fun t=>au t ow)=true∨nK exts gM it.2.tags=true))∧II P cx σ α F a w rs sG c.2 vs its xG
 | _,_,_,_,_,_=>False
theorem Od (hT:dX P T) (H:Rel cx σ α F a w):∀{rs:List uw} {sG:List ResultVar} {k:Cont (gV rs)→List gQ→List (List Tag)→Prog A},(GK T rs sG k).ends σ z→
  ∃c vs its xG,II P cx σ α F a w rs sG c vs its xG∧(k c (its.map (·.2)) xG).ends σ z:=by
 intro rs
 induction rs with
 | nil=>
  intro sG k h
  cases sG with
  | nil=>exact ⟨(),[],[],[],trivial,h⟩
  | cons _ _=>exact h.elim
 | cons r rs ih=>
  intro sG k h
  cases sG with
  | nil=>cases r <;> exact h.elim
  | cons rv sG=>
   cases r with
   | into _ _=>exact h.elim
   | ptr _ _ _ _=>exact h.elim
   | val kk exts gM=>
    simp only [GK] at h
    obtain ⟨y,u,g1,g2,g3,h⟩:=yB hT H h
    have hgo:∀(x:El kk) (tags:List Tag),QH cx σ α F a w kk x tags u→(bif kk.flat || nK exts gM tags then GK T rs sG fun c ts tg=>k (x,c) ts (tags :: tg) else .fail).ends σ z→
      ∃c vs its xG,II P cx σ α F a w (.val kk exts gM :: rs) (rv :: sG) c vs its xG∧(k c (its.map (·.2)) xG).ends σ z:=by
     intro x tags hv h
     rcases ay h with ⟨hb,h⟩ | ⟨_,h⟩
     ·obtain ⟨c,vs,its,xG,f1,f2⟩:=ih h
      exact ⟨(x,c),u :: vs,its,tags :: xG,⟨⟨g1,by simpa using hb,hv⟩,f1⟩,f2⟩
     ·exact h.elim
    have hval:(qG y fun k' x tags=>match bT k' kk x with
      | some y=>(bif kk.flat || nK exts gM (bif kk.flat then [] else tags) then GK T rs sG fun c ts tg=>k (y,c) ts ((bif kk.flat then [] else tags) :: tg) else .fail)
      | none=>.fail).ends σ z→∃c vs its xG,II P cx σ α F a w (.val kk exts gM :: rs) (rv :: sG) c vs its xG∧(k c (its.map (·.2)) xG).ends σ z:=by
     intro h
     obtain ⟨k',x,Tg,f1,f5⟩:=Bd H g2 g3 h
     cases hc:bT k' kk x with
     | none=>rw [hc] at f5; exact f5.elim
     | some y'=>
      rw [hc] at f5
      obtain ⟨ek,ey⟩:=bO hc
      subst ek
      simp only at ey
      subst ey
      cases hf:k'.flat with
      | true=>
       rw [hf] at f5
       exact hgo _ _ (f1.flat hf H) (by rw [hf]; exact f5)
      | false=>
       rw [hf] at f5
       exact hgo _ _ f1 (by rw [hf]; exact f5)
    cases y with
    | iE=>
     cases kk with
     | sl e kk=>
      obtain ⟨b,rfl⟩:=g2
      exact hgo [] [] ⟨[.slice b 0 0],yD,fun _ _ _ _=>⟨b,0,0,rfl,rfl,agt _,fun h=>by omega⟩⟩ h
     | _=>exact h.elim
    | undef=>exact hval h
    | val _ _ _=>exact hval h
    | ref _ _=>exact hval h
    | o8 _ _ _=>exact hval h
    | ptr _ _ _=>exact hval h
    | iK _ _ _ _=>exact hval h
    | Bv _ _ _ _=>exact hval h
    | ve _=>exact hval h
    | part _ _ _ _ _=>exact hval h
    | tq _ _ _ _=>exact hval h
    | app _ _ _ _=>exact hval h
    | oL=>exact hval h
    | fn _ _=>exact hval h
   | own kk ow exts gM=>
    simp only [GK] at h
    obtain ⟨y,u,g1,g2,g3,h⟩:=yB hT H h
    obtain ⟨tk,htk,h⟩:=nS H g2 g3 h
    cases hc:bT tk.k kk tk.x with
    | none=>rw [hc] at h; exact h.elim
    | some y'=>
     rw [hc] at h
     rcases ay h with ⟨hb,h⟩ | ⟨_,h⟩
     ·simp only [agi,Bool.or_eq_true] at hb
      obtain ⟨c,vs,its,xG,f1,f2⟩:=ih h
      exact ⟨(y',c),u :: vs,(u,tk) :: its,xG,⟨⟨g1,rfl,htk,bO hc,hb.1,hb.2⟩,f1⟩,f2⟩
     ·exact h.elim
theorem L6 {σ1:St} {dJ:dK} {F1:List Nat} (H1:Rel cx σ1 dJ F1 a w) (hV:Views cx σ α F w σ1 dJ F1 w):∀{rs:List uw} {sG:List ResultVar} {c:Cont (gV rs)} {vs:List Value} {its:List (Value×gQ)} {xG:List (List Tag)} {hs:List (List Value×List Nat)},
  II P cx σ α F a w rs sG c vs its xG→oq cx σ1 dJ F1 w its hs→(∀t∈xG.flatten,Same σ α σ1 dJ t.1)→
  ∃bC,AY cx σ1 dJ F1 w rs c vs bC∧bC.flatten=hs.flatMap (·.2)∧(∀b∈bC.flatten,b∈F1)∧(sG.mapM (M0 a)).run P w=.ok vs w:=by
 intro rs
 induction rs with
 | nil=>
  intro sG c vs its xG hs h hh _
  cases sG <;> cases vs <;> cases its <;> cases xG <;> first | exact h.elim | skip
  cases hs with
  | nil=>exact ⟨[],trivial,rfl,by simp,by simp⟩
  | cons _ _=>exact hh.elim
 | cons r rs ih=>
  intro sG c vs its xG hs h hh hS
  cases r with
  | into _ _=>cases sG <;> cases vs <;> exact h.elim
  | ptr _ _ _ _=>cases sG <;> cases vs <;> exact h.elim
  | val kk exts gM=>
   cases sG <;> cases vs <;> cases xG <;> first | exact h.elim | skip
   rename_i rv sG v vs tg xG
   obtain ⟨⟨h1,h2,cs,h3,h4⟩,h5⟩:=h
   obtain ⟨bC,f1,f2,f3,f4⟩:=ih h5 hh (fun t ht=>hS t (by simp only [List.flatten_cons,agl]; exact .inr ht))
   refine ⟨[] :: bC,⟨⟨rfl,tg,cs,h2,h3,h4 σ1 dJ F1 ⟨H1,hV,fun t ht=>hS t (by simp only [List.flatten_cons,agl]; exact .inl ht)⟩⟩,f1⟩,by simpa using f2,by simpa using f3, ?_⟩
   simp [List.mapM_cons,h1,f4,Result.andThen]
  | own kk ow exts gM=>
   cases sG <;> cases vs <;> cases its <;> first | exact h.elim | skip
   rename_i rv sG v vs it its
   obtain ⟨⟨h1,h2,h3,⟨e,ex⟩,h4,h5⟩,h6⟩:=h
   cases hs with
   | nil=>exact hh.elim
   | cons q hs=>
    obtain ⟨⟨q1,q2,q3⟩,hh⟩:=hh
    obtain ⟨bC,f1,f2,f3,f4⟩:=ih h6 hh hS
    refine ⟨q.2 :: bC,⟨⟨it.2.tags,q.1,it.2.own,h5, ?_, ?_, ?_⟩,f1⟩,by simp [f2], ?_, ?_⟩
    ·intro t ht hm
     exact aJ.2 (jf.1 h4 t (agu.2 ⟨ht,hm⟩))
    ·rw [←h2]; subst e; exact q1
    ·subst e
     rw [ex]
     exact q2.ow q3
    ·intro b hb
     rw [List.flatten_cons] at hb
     rcases agl.1 hb with h | h
     ·exact q2.sub b h
     ·exact f3 b h
    ·simp [List.mapM_cons,h1,f4,Result.andThen]
end
end
section
open Go
variable [Fr]
section
variable {P:Program} {T:iF} {hi:Hint} {n:Nat} {cx:Cx} {σ:St} {α:dK} {F:List Nat} {a:Act} {w:World}
theorem zL {i:Nat} {R:Root} (h:AB σ i=some R):σ.roots (ak i)=some R∧bu σ R:=by
 unfold AB at h
 split at h
 ·rename_i Q hQ
  cases hb:Q.bn || !bq σ Q.wH Q.tags with
  | true=>rw [hb] at h; simp at h
  | false=>
   rw [hb] at h
   simp only [cond_false,agb] at h
   subst h
   simp only [Bool.or_eq_false_iff,Bool.not_eq_false'] at hb
   exact ⟨hQ,hb⟩
 ·simp at h
theorem yZ:∀{ps:List fF} {i:Nat} {d:Cont (jE ps)},jS σ ps i=some d→yM σ ps i d:=by
 intro ps
 induction ps with
 | nil=>intro i d _; trivial
 | cons p ps ih=>
  intro i d h
  cases p with
  | val k gM=>exact ih (show jS σ ps (i+1)=some d from h)
  | ro k=>exact ih (show jS σ ps (i+1)=some d from h)
  | own k ow=>exact ih (show jS σ ps (i+1)=some d from h)
  | fn f ks=>exact ih (show jS σ ps (i+1)=some d from h)
  | into j q=>exact ih (show jS σ ps (i+1)=some d from h)
  | rw k ow wt ht=>
   simp only [jS] at h
   split at h
   ·rename_i R d' hR hd
    obtain ⟨hb,h⟩:=qc h
    simp only [agi,Bool.or_eq_true] at hb
    obtain ⟨⟨b1,b2⟩,b3⟩:=hb
    obtain ⟨r1,r2⟩:=zL hR
    split at h
    ·rename_i x hx
     have h2:(x,d')=d:=agN h
     subst h2
     exact ⟨⟨R,r1,r2,bO hx,b1,b2,b3⟩,ih hd⟩
    ·simp at h
   ·simp at h
  | jG k ow wt=>
   simp only [jS] at h
   split at h
   ·rename_i R d' hR hd
    obtain ⟨hb,h⟩:=qc h
    simp only [agi,Bool.or_eq_true] at hb
    obtain ⟨⟨b1,b2⟩,b3⟩:=hb
    obtain ⟨r1,r2⟩:=zL hR
    split at h
    ·rename_i x hx
     have h2:(x,d')=d:=agN h
     subst h2
     exact ⟨⟨R,r1,r2,bO hx,b1,b2,b3⟩,ih hd⟩
    ·simp at h
   ·simp at h
theorem vT {fn:Func} {vs:List Value} (h:(fn.results.toList.mapM (M0 a)).run P w=.ok vs w):(results fn a.tmps).run P w=.ok (P8 vs) w:=by
 have h2:results fn a.tmps=(do
   let vs ←fn.results.mapM (M0 a)
   pure (if h:vs.size=1 then vs[0] else .tuple vs)):=by
  unfold results
  congr 1
 rw [h2,Array.mapM_eq_mapM_toList]
 simp only [agD,map_eq_pure_bind,h,agv,agI]
 match vs with
 | []=>rfl
 | [v]=>rfl
 | v :: u :: vs=>simp [P8]
theorem Uj (hT:dX P T) (H:Rel cx σ α F a w) {ps:List fF} {rs:List uw} {fn:Func} {out:Cont (gV rs++jE ps)} (h:fin T ps rs fn.results.toList σ=some out) :
  ∃v,(results fn a.tmps).run P w=.ok v w∧Post cx ps rs out v w:=by
 unfold fin at h
 obtain ⟨q,h1,h2⟩:=rQ _ h
 obtain ⟨c,vs,its,xG,f1,f2⟩:=Od (P:=P) hT H h1
 rcases ay f2 with ⟨hb,f2⟩ | ⟨_,f2⟩
 ·have f2:q=_:=f2
  subst f2
  have e1:(its.map (·.2)).flatMap (·.ws)=qp its:=by simp [qp,List.flatMap_map]
  have e2:(its.map (·.2)).flatMap (·.tags)=nT its:=by simp [nT,List.flatMap_map]
  rw [e1,e2] at hb
  simp only [e1] at h2
  unfold yG vv at hb
  simp only [agi,ru,ags,Bool.not_eq_true',aT] at hb
  obtain ⟨b1,b2⟩:=hb
  have KC:∀{rs:List uw} {sG:List ResultVar} {c:Cont (gV rs)} {vs:List Value} {its:List (Value×gQ)} {xG:List (List Tag)},II P cx σ α F a w rs sG c vs its xG→∀it∈its,su cx σ α F w it.1 it.2:=by
   intro rs
   induction rs with
   | nil=>intro sG c vs its xG h it hi; cases sG <;> cases vs <;> cases its <;> first | exact h.elim | simp at hi
   | cons r rs ih=>
    intro sG c vs its xG h it hi
    cases r with
    | into _ _=>cases sG <;> cases vs <;> exact h.elim
    | ptr _ _ _ _=>cases sG <;> cases vs <;> exact h.elim
    | val kk exts gM=>
     cases sG <;> cases vs <;> cases xG <;> first | exact h.elim | exact ih h.2 it hi
    | own kk ow exts gM=>
     cases sG <;> cases vs <;> cases its <;> first | exact h.elim | skip
     rcases agp.1 hi with h3 | h3
     ·subst h3; rw [h.1.2.1]; exact h.1.2.2.1
     ·exact ih h.2 it h3
  obtain ⟨dJ,F1,hs,H1,g1,g2,g3,g4,g5,g6,g7,g8,g9⟩:=takes its H (KC f1) b1 (fun t ht=>b2 t (agh _ ht))
  obtain ⟨bC,k1,k2,k3,k4⟩:=L6 H1 g7 f1 g1 (fun t ht=>g5 t.1 (b2 t (agd _ ht)))
  split at h2
  ·rename_i d hd
   simp only [agb] at h2
   subst h2
   refine ⟨P8 vs,vT k4,_,dJ,F1,a,vs,bC,H1,rfl,by rw [x8]; exact k1,by rw [k2]; exact g2,k3,by rw [yE]; exact yZ hd⟩
  ·simp at h2
 ·exact f2.elim
theorem PL {A:Type} {z:A} {t:TypeId} {kk:K} {ow:List TypeId} {exts:List Nat} {x:AV} {v:Value} {k:El kk→Nat→Prog A} (hx:bJ cx σ α F w x v) (h:(RF t kk ow exts x k).ends σ z) :
  ∃r R y b o,aO σ r R∧bu σ R∧R.kind=.var t∧kF (kk.tys.filter fun t=>au t ow) R.own=true∧((kk.tys.all fun t=>au t ow)=true∨nK exts [] R.tags=true)∧(∃e:R.k=kk,y=e▸R.x)∧dS α R r=some (b,o)∧v=.pointer (some ⟨b,o,none⟩)∧(k y r).ends σ z:=by
 cases x with
 | ptr r p n=>
  cases p with
  | cons s p=>exact h.elim
  | nil=>
   unfold RF at h
   obtain ⟨R,hr,hv,h⟩:=cK h
   rcases ay h with ⟨hb,h⟩ | ⟨_,h⟩
   ·simp only [agi,Bool.or_eq_true] at hb
    obtain ⟨⟨b1,b2⟩,b3⟩:=hb
    have hk:R.kind=.var t:=by
     unfold Root.O3 at b1
     split at b1
     ·rename_i u hu; rw [hu,agf b1]
     ·simp at b1
    cases hc:bT R.k kk R.x with
    | none=>rw [hc] at h; exact h.elim
    | some y=>
     rw [hc] at h
     obtain ⟨_,cs,b,o,hn,e⟩:=hx.2 R hr.1 hv (by unfold dW clean; simp [au]) (fun t ht=>by simp [aa] at ht) rfl
     simp only [bH,agb,agn] at hn
     exact ⟨r,R,y,b,o,hr,hv,hk,b2,b3,bO hc,hn.2,e,h⟩
   ·exact h.elim
 | _=>exact h.elim
theorem NU (H:Rel cx σ α F a w) {j:Nat} {x:AV} {v:Value} {m:Int} (hx:bJ cx σ α F w x v) (h:(cutV j x fun m=>(.ret m:Prog Int)).ends σ m) :
  ∃b n cp,v=.slice b m.toNat cp∧m.toNat≤n∧bJ cx σ α F w (.ref (ak j) 0) (.slice b n cp):=by
 cases x with
 | ref r g=>
  simp only [cutV] at h
  rcases ay h with ⟨hc,h5⟩ | ⟨_,h5⟩
  ·clear h
   simp only [agi] at hc
   have e1:=agf hc.1
   have e2:=agf hc.2
   subst e1 e2
   obtain ⟨R,hr,hv,h⟩:=cK h5
   rcases ay h with ⟨hg,h⟩ | ⟨_,h⟩
   ·obtain ⟨h1,h2⟩:=hx R hr (agf hg)
    have hO:=(H.roots _ R hr).ow hv
    have hK:∀q:Dat,(⟨R.k,R.x⟩:Dat)=q→(match q.1,q.2 with
      | .sl _ kk,xs=>(.ret ((show List (El kk) from xs).length:Int):Prog Int)
      | _,_=>.fail).ends σ m→∃b n cp,v=.slice b m.toNat cp∧m.toNat≤n∧bJ cx σ α F w (.ref (ak j) 0) (.slice b n cp):=by
     intro q hq hh
     obtain ⟨qk,qx⟩:=q
     cases qk with
     | sl e kk=>
      have hm:m=((show List (El kk) from qx).length:Int):=hh
      have hV:=jK (fun _=>True) (fun _ _=>trivial) (fun _ _=>trivial) hO
      have hV:=cast (congrArg (fun q:Dat=>Vw (hp w) (fun _=>True) q.1 q.2 (α.hdr (ak j))) hq) hV
      have x9:=cast (congrArg (fun q:Dat=>VC q.1 v (α.hdr (ak j))) hq) h2
      obtain ⟨b,n,c,g1,g2,g3,_⟩:=hV
      have x9:VC (.sl e kk) v (α.hdr (ak j)):=x9
      have g1:α.hdr (ak j)=[.slice b n c]:=g1
      have h3:=x9.1
      rw [g1] at h3
      simp only [List.cons.injEq,and_true] at h3
      have g2:n=(show List (El kk) from qx).length:=g2
      refine ⟨b,n,c,by rw [hm, ←g2]; simpa using h3.symm,by rw [hm, ←g2]; simp,by rw [h3]; exact hx⟩
     | _=>exact hh.elim
    exact hK _ rfl h
   ·exact h.elim
  ·exact h5.elim
 | part r g lo hi sz=>
  simp only [cutV] at h
  rcases ay h with ⟨hc,h5⟩ | ⟨_,h5⟩
  ·clear h
   simp only [agi] at hc
   have e1:=agf hc.1.1
   have e2:=agf hc.1.2
   have e3:=agf hc.2
   subst e1 e2 e3
   have hm:m=(hi:Int):=h5
   obtain ⟨b',b,n,c,g1,g2,g3,g4,g5,g6⟩:=hx
   have hb:b'=b:=by rw [g2 (.inl rfl)]; simp [add_zero]
   subst hb
   exact ⟨b',n,c,by rw [g1,hm]; simp,by rw [hm]; simpa using g4,g6⟩
  ·exact h5.elim
 | _=>exact h.elim
theorem QZ (hT:dX P T) (H:Rel cx σ α F a w) {ps:List fF} {rs:List uw} {fn:Func} {out:Cont (gV rs++jE ps)} (h:QY T ps rs fn.results.toList σ=some out) :
  ∃v,(results fn a.tmps).run P w=.ok v w∧Post cx ps rs out v w:=by
 obtain ⟨sG,Su⟩:∃sG,fn.results.toList=sG:=⟨_,rfl⟩
 rw [Su] at h
 have other:fin T ps rs sG σ=some out→∃v,(results fn a.tmps).run P w=.ok v w∧Post cx ps rs out v w:=fun h=>Uj hT H (by rw [Su]; exact h)
 cases rs with
 | nil=>exact other h
 | cons q rs=>
  cases q with
  | val _ _ _=>exact other h
  | own _ _ _ _=>exact other h
  | into j q=>
   cases rs with
   | cons _ _=>cases q <;> exact other h
   | nil=>
    cases q with
    | cons _ _=>exact other h
    | nil=>
     match sG,Su,h,other with
     | [],_,h,other=>exact other h
     | _ :: _ :: _,_,h,other=>exact other h
     | [rv],Su,h,_=>
      have h:((JV T false rv fun a=>cutV j a fun m=>.ret m:Prog Int).run σ fun m=>
        match jS σ ps 0 with
        | some d=>some (m,d)
        | none=>none)=some out:=h
      obtain ⟨m,h1,h2⟩:=rQ _ h
      obtain ⟨y,u,g1,g2,_,h1⟩:=yB hT H h1
      obtain ⟨b,n,cp,e1,e2,e3⟩:=NU H g2 h1
      split at h2
      ·rename_i d hd
       have h2:some ((m,d):Cont (gV [uw.into j []]++jE ps))=some out:=h2
       have h2:=agN h2
       subst h2
       exact ⟨_,vT (vs:=[_]) (by rw [Su]; simp [List.mapM_cons,g1,Result.andThen]),_,_,_,a,[_],[[]],H,rfl,⟨⟨rfl,rfl,b,n,cp,e1,e2,e3⟩,trivial⟩,by simp,by simp,yZ hd⟩
      ·simp at h2
  | ptr t kk ow exts=>
   cases rs with
   | cons _ _=>exact other h
   | nil=>
    match sG,Su,h,other with
    | [],_,h,other=>exact other h
    | _ :: _ :: _,_,h,other=>exact other h
    | [rv],Su,h,_=>
     have h:((JV T false rv fun a=>RF t kk ow exts a fun y r=>.ret (y,r):Prog (El kk×Nat)).run σ fun q=>
       match jS (az [.r q.2 none] σ) ps 0 with
       | some d=>some (q.1,d)
       | none=>none)=some out:=h
     obtain ⟨q,h1,h2⟩:=rQ _ h
     obtain ⟨y,u,g1,g2,_,h1⟩:=yB hT H h1
     obtain ⟨r,R,x,b,o,hr,hv,hk,b2,b3,ex,uN,rfl,h1⟩:=PL g2 h1
     have h1:q=(x,r):=h1
     subst h1
     obtain ⟨k1,k2,k3,k4⟩:=Yu H hr (by rw [hk]; simp) hv
     have hblk:blk α R r=b :: α.fo r:=by unfold blk; rw [uN]; rfl
     have K:=H.roots r R hr
     have hnd:=K.nd
     rw [hblk] at hnd
     split at h2
     ·rename_i d hd
      have h2:some ((x,d):Cont (gV [uw.ptr t kk ow exts]++jE ps))=some out:=h2
      have h2:=agN h2
      subst h2
      refine ⟨_,vT (vs:=[_]) (by rw [Su]; simp [List.mapM_cons,g1,Result.andThen]),_,_,_,a,[_],[b :: α.fo r],k1,rfl,⟨⟨b,o,R.tags,α.hdr r,R.own,α.fo r,rfl,rfl,b3, ?_, ?_, ?_⟩,trivial⟩,by simpa using hnd, ?_,yZ hd⟩
      ·intro u hu hm
       exact aJ.2 (jf.1 b2 u (agu.2 ⟨hu,hm⟩))
      ·obtain ⟨m1,arr,e,lo,hi,m2,m3,m4,m5⟩:=K.mem b o uN
       obtain ⟨ek,_⟩:=ex
       exact ⟨m1,arr,e,lo,hi,m2,m3,by rw [←ek]; exact m4,m5 t hk⟩
      ·obtain ⟨ek,ey⟩:=ex
       subst ek
       simp only at ey
       subst ey
       exact k3.ow k4
      ·intro c hc
       simp only [List.flatten_cons,List.flatten_nil,agH] at hc
       exact agh _ (by rw [hblk]; exact hc)
     ·simp at h2
def Cx.PD (cx:Cx) (m:Nat):Cx:={ cx with nt:=m }
theorem yT {m:Nat}:∀{cs:List (TypeId×Dat×List Tag)} {vs:List Value},jC (cx.PD m) σ α F w cs vs↔jC cx σ α F w cs vs
 | [],[]=>Iff.rfl
 | c :: cs,v :: vs=>and_congr Iff.rfl yT
 | [],_ :: _=>Iff.rfl
 | _ :: _,[]=>Iff.rfl
theorem Kg {m:Nat} {x:AV} {v:Value}:bJ (cx.PD m) σ α F w x v↔bJ cx σ α F w x v:=by
 cases x with
 | fn f cs=>
  constructor
  ·rintro ⟨vs,h1,h2⟩; exact ⟨vs,h1,yT.1 h2⟩
  ·rintro ⟨vs,h1,h2⟩; exact ⟨vs,h1,yT.2 h2⟩
 | _=>exact Iff.rfl
theorem tX {m:Nat}:∀{l:List AV} {vs:List Value},dQ (cx.PD m) σ α F w l vs↔dQ cx σ α F w l vs
 | [],[]=>Iff.rfl
 | c :: cs,v :: vs=>and_congr Kg tX
 | [],_ :: _=>Iff.rfl
 | _ :: _,[]=>Iff.rfl
theorem Nj {m:Nat} {x:sN} {v:Value}:iM (cx.PD m) σ α F w x v↔iM cx σ α F w x v:=by
 cases x with
 | one x=>exact Kg
 | C8 l=>
  constructor
  ·rintro ⟨vs,h1,h2⟩; exact ⟨vs,h1,tX.1 h2⟩
  ·rintro ⟨vs,h1,h2⟩; exact ⟨vs,h1,tX.2 h2⟩
 | lit _ _ l=>
  constructor
  ·rintro ⟨vs,cs,h1,h2⟩; exact ⟨vs,cs,h1,tX.1 h2⟩
  ·rintro ⟨vs,cs,h1,h2⟩; exact ⟨vs,cs,h1,tX.2 h2⟩
theorem Rel.PD {a':Act} (H:Rel cx σ α F a w) {m:Nat} (hd:a'.defers=[]) (hm:m≤a'.tmps.size) (hs:∀s,a'.tmps.getD s undef=a.tmps.getD s undef):Rel (cx.PD m) σ α F a' w where
 defs:=hd
 sz:=hm
 jV:=H.jV
 yz:=H.yz
 slots:=fun s=>by rw [hs s]; exact Nj.2 (H.slots s)
 oO:=H.oO
 roots:=fun r R hr=>by
  obtain ⟨o1,o2,o3,o4,o5⟩:=H.roots r R hr
  exact ⟨o1,o2,o3,o4,o5⟩
 dn:=H.dn
 AA:=H.AA
 fl:=H.fl
 uW:=H.uW
 iD:=H.iD
 frame:=H.frame
 ql:=H.ql
 lW:=H.lW
 rE:=H.rE
 rF:=H.rF
theorem Hg:∀{ps:List fF} {i:Nat} {c:Cont (kin ps)} {r:Nat} {R:Root},gu (gp ps i c) r=some R→∃j p cj,r=ak (i+j)∧ps[j]?=some p∧dO p (i+j) cj=some R:=by
 intro ps
 induction ps with
 | nil=>intro i c r R h; simp [gp,gu] at h
 | cons p ps ih=>
  intro i c r R h
  rw [rD,tY] at h
  have hrec:gu (gp ps (i+1) (SS p ps c)) r=some R→∃j q cj,r=ak (i+j)∧(p :: ps)[j]?=some q∧dO q (i+j) cj=some R:=by
   intro h
   obtain ⟨j,q,cj,h1,h2,h3⟩:=ih h
   have e:i+1+j=i+(j+1):=by omega
   exact ⟨j+1,q,cj,by rw [h1,e],by simpa using h2,by rw [←e]; exact h3⟩
  cases hr:dO p i (Ou p ps c) with
  | none=>rw [hr] at h; exact hrec h
  | some Q=>
   rw [hr] at h
   simp only [gu] at h
   cases hb:Nat.beq r (ak i) with
   | true=>
    rw [hb] at h
    have h':Q=R:=by simpa using h
    exact ⟨0,p,Ou p ps c,agf hb,rfl,by rw [←h']; exact hr⟩
   | false=>rw [hb] at h; exact hrec h
theorem Ju:∀{ps:List fF} {i j:Nat} {k:K},sO ps j k→∃l,iI (ak (i+j)) (rP ps i)=some (k,l):=by
 intro ps
 induction ps with
 | nil=>intro i j k h; obtain ⟨ow,wt,ht,h | h⟩:=h <;> simp at h
 | cons p ps ih=>
  intro i j k h
  have hne:∀j,Nat.beq (ak (i+(j+1))) (ak i)=false:=fun j=>by
   cases h:Nat.beq (ak (i+(j+1))) (ak i) with
   | true=>
    have:=agf h
    unfold ak at this
    omega
   | false=>rfl
  cases j with
  | zero=>
   obtain ⟨ow,wt,ht,h | h⟩:=h
   ·simp only [List.getElem?_cons_zero,agb] at h
    subst h
    exact ⟨(wt,ht),by simp [rP,iI]⟩
   ·simp only [List.getElem?_cons_zero,agb] at h
    subst h
    exact ⟨(wt,k.tys),by simp [rP,iI]⟩
  | succ j=>
   have h':sO ps j k:=by
    obtain ⟨ow,wt,ht,h⟩:=h
    exact ⟨ow,wt,ht,by simpa using h⟩
   obtain ⟨l,hl⟩:=ih (i:=i+1) h'
   have e:i+1+j=i+(j+1):=by omega
   rw [e] at hl
   cases p <;> first | exact ⟨l,by simp only [rP,iI,hne j,cond_false]; exact hl⟩ | exact ⟨l,hl⟩
theorem Ia {ps:List fF} {c:Cont (kin ps)} (hP:yN cx ps) (H:Rel cx (bZ ps c) α F a w) (m:Nat):IU (cx.PD m) (rP ps 0):=by
 have hf:∀{j:Nat} {k:K},sO ps j k→∃l,iI (ak j) (rP ps 0)=some (k,l):=fun {j} {k} h=>by
  have:=Ju (i:=0) h
  simpa using this
 refine ⟨fun j pi hj h=>?_,fun j p ts v hv=>?_,fun j v hv=>?_⟩
 ·rcases h with h | ⟨⟨b,o,n⟩,h⟩
  ·obtain ⟨k,hk⟩:=hP.par j pi hj h
   obtain ⟨l,hl⟩:=hf hk
   exact ⟨_,hl⟩
  ·obtain ⟨R,hR,hk,_⟩:=H.jV j pi b o n hj h
   obtain ⟨j',p,cj,h1,h2,h3⟩:=Hg (show gu (gp ps 0 c) (ak j)=some R from hR.1)
   have e:j=j':=by unfold ak at h1; omega
   subst e
   have:∃k,sO ps j k:=by
    cases p with
    | rw k ow wt ht=>exact ⟨k,ow,wt,ht, .inl h2⟩
    | jG k ow wt=>exact ⟨k,ow,wt,[], .inr h2⟩
    | own k ow=>
     have h4:=agN h3
     rw [←h4] at hk
     simp [aI] at hk
    | _=>simp [dO] at h3
   obtain ⟨k,hk⟩:=this
   obtain ⟨l,hl⟩:=hf hk
   exact ⟨_,hl⟩
 ·obtain ⟨k,hk,e⟩:=hP.ptr j p ts v hv
  obtain ⟨l,hl⟩:=hf hk
  exact ⟨k,l,hl,e⟩
 ·obtain ⟨k,hk⟩:=hP.ref j v hv
  obtain ⟨l,hl⟩:=hf hk
  exact ⟨_,hl⟩
theorem Ji (hm:P.follows .mixedOrders=true) (hT:dX P T) (hSt:Dc P T) {E:Entry} {fn:Func} (hf:P.funcs[E.f]?=some fn) (hname:(fn.name == "runtime.NumGoroutine")=false) {m:Nat} (hC:qJ P m hi)
  (hF:∀c out,E.F n c=some out→QT T hi fn E.ps E.rs m c=some out):aA P n E:=by
 intro c out hout cx α args w hnt hw hsz hP H
 have h:=hF c out hout
 unfold QT at h
 cases hb:fn.body with
 | none=>rw [hb] at h; simp at h
 | some code=>
  rw [hb] at h
  simp only at h
  refine .inl ⟨Go.MuLone.run_callFunc_enter hf hname hb args w,calls_of_wp hf hb ?_⟩
  have H2:Rel (cx.PD fn.ntmps) (bZ E.ps c) α [] { tmps:=args++Array.replicate (fn.ntmps - args.size) undef,defers:=[] } w:=by
   refine H.PD rfl (by simp; omega) fun s=>?_
   simp only [Array.getD_eq_getD_getElem?]
   rw [Array.getElem?_append]
   split
   ·rfl
   ·rename_i hlt
    rw [Array.getElem?_eq_none (by omega:args.size≤s)]
    rw [Array.getElem?_replicate]
    split <;> rfl
  have hC':qJ P m { hi with nt:=fn.ntmps,iJ:=rP E.ps 0 }:=hC
  refine wp_mono (Ug NJ hm hT hSt hC' rfl (Ia hP H _) code 0 h H2) ?_
  have hend:∀{σ':St} {α':dK} {F':List Nat} {a':Act} {w':World},QY T E.ps E.rs fn.results.toList σ'=some out→Rel (cx.PD fn.ntmps) σ' α' F' a' w'→
    a'.defers=[]∧∃v,(results fn a'.tmps).run P w'=.ok v w'∧∃v',Ending.returned v=.returned v'∧Post cx E.ps E.rs out v' w':=by
   intro σ' α' F' a' w' h1 H3
   have H4:Rel cx σ' α' F' a' w':=by
    have:=H3.PD (m:=0) (a':=a') H3.defs (agM _) (fun _=>rfl)
    obtain ⟨nt,w0,ext,par,ptrs,refs⟩:=cx
    simp only at hnt
    subst hnt
    exact this
   obtain ⟨v,v1,v2⟩:=QZ (P:=P) hT H4 h1
   exact ⟨H3.defs,v,v1,v,rfl,v2⟩
  rintro e a' w' ⟨ex,σ',α',F',h1,h2,h3⟩
  cases e <;> simp only [Xt,agb,reduceCtorEq] at h1
  ·subst h1; exact hend h2 h3
  ·subst h1; simp at h2
  ·subst h1; exact hend h2 h3
end
end
section
open Go
variable [Fr]
def A7 (W:World):(ps:List fF)→Cont (kin ps)→List Value→Prop
 | [],_,[]=>True
 | .val k [] :: ps,c,v :: vs=>(∃cs,VC k v cs∧Vw (hp W) (fun b=>b<W.heap.size) k c.1 cs)∧A7 W ps c.2 vs
 | _,_,_=>False
def Ny (W W':World):Prop:=W'.os=W.os∧W'.output=W.output∧W.heap.size≤W'.heap.size∧∀b,b<W.heap.size→hp W' b=hp W b
def vJ (W:World):Cx:={ nt:=0,w0:=W,ext:=fun _ b=>b<W.heap.size,par:=fun _=>none,ptrs:=fun _ _ _ _=>False,refs:=fun _ _=>False }
def Py:dK:={ loc:=fun _=>(0,0),hdr:=fun _=>[],fo:=fun _=>[] }
section
variable {P:Program} {W:World}
theorem A7.roots:∀{ps:List fF} {c:Cont (kin ps)} {vs:List Value} {i:Nat},A7 W ps c vs→gp ps i c=[]∧vs.length=ps.length
 | [],_,[],_,_=>⟨rfl,rfl⟩
 | [],_,_ :: _,_,h=>h.elim
 | .val k [] :: ps,c,v :: vs,i,h=>by
  obtain ⟨h1,h2⟩:=A7.roots (i:=i+1) h.2
  exact ⟨h1,by simp [h2]⟩
 | .val k (_ :: _) :: ps,c,vs,_,h=>by cases vs <;> exact h.elim
 | .val k [] :: ps,c,[],_,h=>h.elim
 | .ro _ :: _,_,vs,_,h=>by cases vs <;> exact h.elim
 | .rw _ _ _ _ :: _,_,vs,_,h=>by cases vs <;> exact h.elim
 | .jG _ _ _ :: _,_,vs,_,h=>by cases vs <;> exact h.elim
 | .own _ _ :: _,_,vs,_,h=>by cases vs <;> exact h.elim
 | .fn _ _ :: _,_,vs,_,h=>by cases vs <;> exact h.elim
 | .into _ _ :: _,_,vs,_,h=>by cases vs <;> exact h.elim
theorem A7.slots {σ:St} (hσ:∀r R,¬aO σ r R):∀{ps:List fF} {c:Cont (kin ps)} {vs:List Value} {i:Nat},A7 W ps c vs→∀s,(∀v,vs[s - i]?=some v→i≤s→iM (vJ W) σ Py [] W (oI (jd ps i c) s) v)∧((vs[s - i]?=none∨s<i)→oI (jd ps i c) s=.one .undef)∧sQ σ (oI (jd ps i c) s)
 | [],_,[],_,_=>fun s=>⟨fun v h=>by simp at h,fun _=>rfl,trivial⟩
 | [],_,_ :: _,_,h=>h.elim
 | .val k [] :: ps,c,v :: vs,i,h=>by
  intro s
  have ih:=A7.slots hσ (i:=i+1) h.2 s
  simp only [jd,oI]
  cases hb:Nat.beq s i with
  | true=>
   have:=agf hb
   subst this
   simp only [Nat.sub_self,List.getElem?_cons_zero,agb,cond_true]
   refine ⟨fun u hu _=>?_,fun h=>by rcases h with h | h; simp at h; omega, ?_⟩
   ·subst hu
    intro _
    obtain ⟨cs,h1,h2⟩:=h.1
    refine ⟨cs,h1, ?_⟩
    cases hf:k.flat with
    | true=>exact iG hf h2
    | false=>
     refine fO (fun _ _=>rfl) (fun b hb=>⟨hb,by simp, ?_,fun r R hr=>absurd hr (hσ r R),fun _=>.inl ⟨s,0,by simp,hb⟩⟩) h2
     rintro ⟨j,pi,o,n,h3,_⟩
     simp [vJ] at h3
   ·intro t ht
    cases hf:k.flat with
    | true=>rw [hf] at ht; simp at ht
    | false=>
     rw [hf] at ht
     simp only [cond_false,List.map_nil,agw] at ht
     subst ht
     exact .inl (iq s)
  | false=>
   have hne:=Nat.ne_of_beq_eq_false hb
   simp only [cond_false]
   refine ⟨fun u hu hle=>?_,fun hh=>?_,ih.2.2⟩
   ·refine ih.1 u ?_ (by omega)
    have e:s - i=(s - (i+1))+1:=by omega
    rw [e] at hu
    simpa using hu
   ·refine ih.2.1 ?_
    rcases hh with hh | hh
    ·by_cases hlt:s<i
     ·exact .inr (by omega)
     ·have e:s - i=(s - (i+1))+1:=by omega
      rw [e] at hh
      exact .inl (by simpa using hh)
    ·exact .inr (by omega)
 | .val k (_ :: _) :: ps,c,vs,_,h=>by cases vs <;> exact h.elim
 | .val k [] :: ps,c,[],_,h=>h.elim
 | .ro _ :: _,_,vs,_,h=>by cases vs <;> exact h.elim
 | .rw _ _ _ _ :: _,_,vs,_,h=>by cases vs <;> exact h.elim
 | .jG _ _ _ :: _,_,vs,_,h=>by cases vs <;> exact h.elim
 | .own _ _ :: _,_,vs,_,h=>by cases vs <;> exact h.elim
 | .fn _ _ :: _,_,vs,_,h=>by cases vs <;> exact h.elim
 | .into _ _ :: _,_,vs,_,h=>by cases vs <;> exact h.elim
theorem U4 (hfr:∀b,Fr.free b→b<W.heap.size∧hp W b=Fr.obj b) {ps:List fF} {c:Cont (kin ps)} {args:Array Value} (hV:A7 W ps c args.toList):Rel (vJ W) (bZ ps c) Py [] ⟨args,[]⟩ W:=by
 have hr0:∀r,(bZ ps c).roots r=none:=fun r=>by
  show gu (gp ps 0 c) r=none
  rw [(hV.roots (i:=0)).1]
  rfl
 have hno:∀r R,¬aO (bZ ps c) r R:=fun r R h=>by have h2:=h.1; rw [hr0 r] at h2; simp at h2
 have hs:=fun s=>A7.slots hno (i:=0) hV s
 refine ⟨rfl,agM _,fun j pi b o n h=>by simp [vJ] at h,fun r R h=>absurd h (hno r R),fun s=>?_,fun s=>(hs s).2.2,fun r R h=>absurd h (hno r R),fun r R h=>by rw [hr0 r] at h; simp at h,
  fun r R _ _ h=>absurd h (hno r R),fun b h=>by simp at h,List.nodup_nil,fun r R h=>absurd h (hno r R),⟨rfl,rfl,rfl,agt _,fun _ _ _=>rfl,fun j pi b o n h=>by simp [vJ] at h⟩,
  fun j pi h=>by simp [vJ] at h,⟨fun j pi h=>by simp [vJ] at h,fun b hb=>⟨(hfr b hb).1,fun j pi h=>by simp [vJ] at h⟩,fun b hb=>(hfr b hb).2⟩,fun j p ts v h=>h.elim,fun j v h=>h.elim⟩
 obtain ⟨h1,h2,_⟩:=hs s
 cases hv:args.toList[s]? with
 | none=>
  have:=h2 (.inl (by simpa using hv))
  rw [show (bZ ps c).slots s=.one .undef from this]
  trivial
 | some v=>
  have:=h1 v (by simpa using hv) (agM _)
  have e:args.getD s undef=v:=by
   rw [Array.getElem?_toList] at hv
   simp [Array.getD_eq_getD_getElem?,hv]
  show iM _ _ _ _ _ _ (args.getD s undef)
  rw [e]
  exact this
theorem Pb (hfr:∀b,Fr.free b→b<W.heap.size∧hp W b=Fr.obj b) {f:FuncId} {ps:List fF} {F:Nat→Cont (kin ps)→Option (Cont (gV [.val .bool [] []]++jE ps))} {n:Nat} (hE:aA P n ⟨f,ps,[.val .bool [] []],F⟩)
  {c:Cont (kin ps)} {out:Cont (gV [.val .bool [] []]++jE ps)} (hF:F n c=some out) (ht:out.1=true) {args:Array Value} (hV:A7 W ps c args.toList) (hcall:(callFunc f args).run P W=.ok (.enter f args) W) :
  Calls P f args W fun e W'=>e=.returned (.bool true)∧Ny W W':=by
 have h:=hE c out hF (vJ W) Py args W rfl rfl (by rw [←Array.length_toList,(hV.roots (i:=0)).2]) ⟨fun j pi h=>by simp [vJ] at h,fun j p ts v h=>h.elim,fun j v h=>h.elim⟩ (U4 hfr hV)
 rcases h with ⟨_,h⟩ | ⟨v,w',h,_⟩
 ·refine h.mono ?_
  rintro e W' ⟨v,rfl,σ,α,F',a,vs,bC,H,rfl,hR,_⟩
  refine ⟨?_,H.frame.1,H.frame.2.2.1,H.frame.2.2.2.1,fun b hb=>H.frame.2.2.2.2.1 b hb (fun j pi h=>by simp [vJ] at h)⟩
  cases vs with
  | nil=>exact hR.elim
  | cons v vs=>
   cases bC with
   | nil=>exact hR.elim
   | cons fo bC=>
    obtain ⟨⟨_,T,cs,_,hv,hw⟩,hr⟩:=hR
    cases vs with
    | cons _ _=>exact hr.elim
    | nil=>
     obtain ⟨e1,_⟩:=hv
     have e2:cs=[.bool out.1]:=hw
     rw [e1,ht] at e2
     simp only [List.cons.injEq,and_true] at e2
     subst e2
     rfl
 ·rw [hcall] at h
  simp at h
end
end
section
open Go
mutual
def Qh {H:Type}:DataW H→Nat
 | .lit (.string bytes)=>bytes.length+1
 | .lit _=>1
 | .nil=>1
 | .ptr d=>Qh d+1
 | .slice elems spare=>Af elems+Af spare+1
 | .agg parts=>Af parts+1
 | .iface _ d=>Qh d+1
 | .map _=>1
 | .held _=>1
def Af {H:Type}:List (DataW H)→Nat
 | []=>0
 | d :: r=>Qh d+Af r
end
def KQ:(k:K)→El k→Nat
 | .int _,_=>1
 | .bool,_=>1
 | .str,s=>(show List Int from s).length+1
 | .sl _ k,xs=>((show List (El k) from xs).map (KQ k)).sum+1
 | .unit,_=>0
 | .pair a b,x=>KQ a x.1+KQ b x.2
 | .st f,x=>KQ f x+1
 | .gap _,_=>0
 | .id _,_=>1
def zR:(k:K)→El k→Prop
 | .int ik,x=>CO ik x
 | .str,s=>(show List Int from s).length≤9223372036854775807∧∀b∈(show List Int from s),0≤b∧b<256
 | .sl _ k,xs=>(show List (El k) from xs).length≤9223372036854775807∧∀x∈(show List (El k) from xs),zR k x
 | .pair a b,x=>zR a x.1∧zR b x.2
 | .st f,x=>zR f x
 | _,_=>True
theorem zH {A:Type} {p:Nat→A→Prop}:∀{n:Nat},(∀i,i<n→∃x,p i x)→∃xs:List A,xs.length=n∧∀i (h:i<xs.length),p i xs[i]:=by
 intro n h
 induction n with
 | zero=>exact ⟨[],rfl,fun i h=>by simp at h⟩
 | succ n ih=>
  obtain ⟨xs,h1,h2⟩:=ih (fun i hi=>h i (by omega))
  obtain ⟨x,hx⟩:=h n (by omega)
  refine ⟨xs++[x],by simp [h1],fun i hi=>?_⟩
  rw [List.getElem_append]
  split
  ·exact h2 i _
  ·have:i=n:=by simp [h1] at hi; omega
   subst this
   simpa using hx
theorem P6 {A H:Type} {f:A→Nat}:∀{xs:List A} {ds:List (DataW H)},xs.length=ds.length→(∀i (h:i<xs.length) (h':i<ds.length),f xs[i]≤Qh ds[i])→(xs.map f).sum≤Af ds
 | [],[],_,_=>agt _
 | x :: xs,d :: ds,hl,h=>by
  simp only [List.map_cons,List.sum_cons,Af]
  have h0:=h 0 (by simp) (by simp)
  have:=P6 (xs:=xs) (ds:=ds) (by simpa using hl) (fun i h1 h2=>by
   have:=h (i+1) (by simp; omega) (by simp; omega)
   simpa using this)
  simp only [List.getElem_cons_zero] at h0
  omega
 | [],_ :: _,hl,_=>by simp at hl
 | _ :: _,[],hl,_=>by simp at hl
section
variable {P:Program} {T:iF} {W:World} {H:Type} {enc:TypeId×Value→H}
def Xg [Fr] (W:World) (k:K) (cs:List Value) (d:DataW H):Prop:=∃x:El k,Vw (hp W) (fun b=>b<W.heap.size) k x cs∧KQ k x≤Qh d∧zR k x
theorem uO {t:TypeId} {k:K} (h:oW P t k):P.cellsOf t=k.size:=by
 obtain ⟨i,h1,h2,_⟩:=h
 simp [Program.cellsOf,h1,h2]
theorem Nb [Fr] (hid:T.ids=false) (hfr:∀b,b<W.heap.size→Fr.free b):∀(k:K),
  (∀t n cs d ps,(iX P T k).1 t→DataW.trod enc P W 0 (fun _=>true) true n t cs=some (d,ps)→Xg W k cs d)∧
  (∀(fs:List Field) off n (cs:List Value) (xs:List (DataW H×List MemPlace)),(iX P T k).2 fs off→cs.length=off+k.size→xs.length=fs.length→
   (∀(i:Nat) f,fs[i]?=some f→DataW.trod enc P W 0 (fun _=>true) true n f.type ((cs.drop f.offset).take (P.cellsOf f.type))=xs[i]?)→
   ∃x:El k,Vw (hp W) (fun b=>b<W.heap.size) k x (cs.drop off)∧KQ k x≤Af (xs.map (·.1))∧zR k x):=by
 intro k
 induction k with
 | int ik=>
  refine ⟨fun t n cs d ps ht h=>?_,fun _ _ _ _ _ h=>h.elim⟩
  obtain ⟨m,rfl,e,hw⟩:=DataW.trod_int ht.1 h
  simp only [agn] at e
  obtain ⟨rfl,rfl⟩:=e
  have hr:CO ik m:=by
   cases ik <;> simp [CO]
   simp [Lit.wf,IntKind.min,IntKind.max,IntKind.signed,IntKind.bits] at hw
   omega
  exact ⟨m,⟨rfl,hr⟩,agt _,hr⟩
 | bool=>
  refine ⟨fun t n cs d ps ht h=>?_,fun _ _ _ _ _ h=>h.elim⟩
  obtain ⟨b,rfl,e⟩:=DataW.trod_bool ht.1 h
  simp only [agn] at e
  obtain ⟨rfl,rfl⟩:=e
  exact ⟨b,rfl,agt _,trivial⟩
 | str=>
  refine ⟨fun t n cs d ps ht h=>?_,fun _ _ _ _ _ h=>h.elim⟩
  obtain ⟨s,rfl,e,hsz⟩:=DataW.trod_string ht.1 h
  simp only [agn] at e
  obtain ⟨rfl,rfl⟩:=e
  exact ⟨bytesOf s,⟨s,rfl,rfl⟩,by simp [KQ,Qh,bytesOf],by
   unfold maxLen at hsz
   have:(bytesOf s).length=s.size:=by simp [bytesOf]
   refine ⟨(show (bytesOf s).length≤9223372036854775807 by omega),fun b hb=>?_⟩
   have hb':b∈bytesOf s:=hb
   unfold bytesOf at hb'
   obtain ⟨x,_,rfl⟩:=agO.1 hb'
   have:=x.toNat_lt
   omega⟩
 | unit=>exact ⟨fun _ _ _ _ _ h=>h.elim,fun fs off n cs xs _ hl hx hf=>⟨(),by
   have:cs.drop off=[]:=List.drop_eq_nil_of_le (by simp [K.size] at hl; omega)
   exact this,agM _,trivial⟩⟩
 | gap n=>exact ⟨fun _ _ _ _ _ h=>h.elim,fun _ _ _ _ _ h=>h.elim⟩
 | id e=>exact ⟨fun t n cs d ps ht h=>by have:=ht.2.2; rw [hid] at this; simp at this,fun _ _ _ _ _ h=>h.elim⟩
 | sl e k ih=>
  refine ⟨fun t n cs d ps ht h=>?_,fun _ _ _ _ _ h=>h.elim⟩
  obtain ⟨hu,_,hte,hk0,_⟩:=ht
  have hce:P.cellsOf e=k.size:=uO (fE.info hte)
  rcases DataW.trod_slice hu h with ⟨rfl,e1⟩ | ⟨a,len,cap,elems,rest,m,rfl,rfl,e1,_,hlc,hmx,hle,hel,_,_⟩
  ·simp only [agn] at e1
   obtain ⟨rfl,rfl⟩:=e1
   exact ⟨[],⟨none,0,0,rfl,rfl,agt _,fun h=>by omega⟩,by simp [KQ,Qh],⟨agM _,fun x hx=>by simp at hx⟩⟩
  ·simp only [agn] at e1
   obtain ⟨rfl,rfl⟩:=e1
   have hone:∀i (hi:i<len),∃x:El k,∃ds,W.cells? 0 (a.add (i * k.size)) k.size=some ds∧Vw (hp W) (fun b=>b<W.heap.size) k x ds∧(∀(h':i<elems.length),KQ k x≤Qh elems[i].1)∧zR k x:=by
    intro i hi
    have h1:=hel i hi
    have hi':i<elems.length:=by omega
    rw [hce,agr hi'] at h1
    obtain ⟨ds,h2,h3⟩:=Option.bind_eq_some_iff.1 h1
    obtain ⟨x,h4,h5,h6⟩:=ih.1 e m ds _ _ hte h3
    exact ⟨x,ds,h2,h4,fun _=>h5,h6⟩
   obtain ⟨xs,hl,hxs⟩:=zH hone
   refine ⟨xs,⟨some a,len,cap,rfl,hl.symm,hlc,fun h0=>?_⟩, ?_, ?_⟩
   ·obtain ⟨b,o,sp⟩:=a
    have h0':0<xs.length:=by omega
    obtain ⟨ds0,h2,h3,_⟩:=hxs 0 h0'
    have hb:=World.cells?_block h2 hk0
    obtain ⟨_,g1,g2⟩:=World.cells?_some h2
    have hsp:sp=none:=by
     have:=g2 0 hk0
     rw [agr (by omega)] at this
     simp only [Nat.zero_mul,Addr.add,if_true,World.cell?] at this
     cases sp with
     | none=>rfl
     | some q=>split at this <;> simp at this
    subst hsp
    have hb':b<W.heap.size:=by
     rw [addr_add] at hb
     exact hb
    refine ⟨b,o,rfl,hb', .inr (hfr b hb'),fun i hi=>?_⟩
    obtain ⟨ds,h2,h3,_⟩:=hxs i hi
    obtain ⟨_,g1,g2⟩:=World.cells?_some h2
    refine ⟨ds,fun j hj=>?_,h3⟩
    have:=g2 j (by omega)
    rw [addr_add,addr_add,uD] at this
    exact this
   ·simp only [KQ,Qh]
    have:=P6 (H:=H) (f:=KQ k) (xs:=xs) (ds:=elems.map (·.1)) (by simp; omega) (fun i h1 h2=>by
     obtain ⟨ds,_,_,h5,_⟩:=hxs i h1
     simpa using h5 (by simpa using h2))
    omega
   ·unfold maxLen at hmx
    refine ⟨show xs.length≤_ by omega,fun x hx=>?_⟩
    obtain ⟨i,hi,rfl⟩:=List.mem_iff_getElem.1 hx
    obtain ⟨_,_,_,_,h6⟩:=hxs i hi
    exact h6
 | pair a b iha ihb=>
  refine ⟨fun _ _ _ _ _ h=>h.elim,fun fs off n cs xs ht hl hx hf=>?_⟩
  cases fs with
  | nil=>exact ht.elim
  | cons f fs=>
   cases xs with
   | nil=>simp at hx
   | cons x0 xs=>
    obtain ⟨h1,h2,h3,h4⟩:=ht
    have hca:P.cellsOf f.type=a.size:=uO (fE.info h2)
    have h5:=hf 0 f rfl
    rw [h1,hca] at h5
    simp only [List.getElem?_cons_zero] at h5
    obtain ⟨x,g1,g2,l1⟩:=iha.1 f.type n _ x0.1 x0.2 h2 h5
    obtain ⟨y,g3,g4,l2⟩:=ihb.2 fs (off+a.size) n cs xs h4 (by simp [K.size] at hl; omega) (by simpa using hx) (fun i f' hi=>by
     have:=hf (i+1) f' (by simpa using hi)
     simpa using this)
    refine ⟨(x,y),⟨(cs.drop off).take a.size,cs.drop (off+a.size), ?_,g1,g3⟩, ?_,l1,l2⟩
    ·rw [←List.drop_drop,List.take_append_drop]
    ·simp only [KQ,List.map_cons,Af]
     omega
 | st c ih=>
  refine ⟨fun t n cs d ps ht h=>?_,fun _ _ _ _ _ h=>h.elim⟩
  obtain ⟨⟨fs,hu,hfs⟩,hinfo⟩:=ht
  obtain ⟨xs,m,rfl,e1,hl,hlen,hf⟩:=DataW.trod_struct hu h
  simp only [agn] at e1
  obtain ⟨rfl,rfl⟩:=e1
  obtain ⟨x,g1,g2,l1⟩:=ih.2 fs.toList 0 m cs xs hfs (by rw [hl,uO hinfo]; simp [K.size]) (by simpa using hlen) (fun i f hi=>hf i f (by simpa using hi))
  refine ⟨x,by simp only [List.drop_zero] at g1; exact g1, ?_,l1⟩
  simp only [KQ,Qh]
  omega
theorem Oc:∀{k:K} {fs:List Field} {off:Nat},(iX P T k).2 fs off→∀f∈fs,∃k',(iX P T k').1 f.type:=by
 intro k
 induction k with
 | pair a b iha ihb=>
  intro fs off h f hf
  cases fs with
  | nil=>simp at hf
  | cons f0 fs=>
   rcases agp.1 hf with h1 | h1
   ·subst h1; exact ⟨a,h.2.1⟩
   ·exact ihb h.2.2.2 f h1
 | unit=>intro fs off h f hf; rw [show fs=[] from h] at hf; simp at hf
 | _=>intro fs off h; exact h.elim
theorem RS [Fr] (hid:T.ids=false) {sp:Nat→Bool} (hsp:∀b,b<W.heap.size→sp b=true):∀(n:Nat) (t:TypeId) (k:K) (cs:List Value) (x:DataW H×List MemPlace),(iX P T k).1 t→DataW.trod enc P W 0 (fun _=>true) true n t cs=some x→DataW.trod enc P W 0 sp true n t cs=some x:=by
 intro n
 induction n with
 | zero=>intro t k cs x _ h; simp [DataW.trod] at h
 | succ n ih=>
  intro t k cs x ht h
  cases k with
  | int ik=>obtain ⟨m,rfl,rfl,hw⟩:=DataW.trod_int ht.1 h; simp [DataW.trod,ht.1,hw]
  | bool=>obtain ⟨m,rfl,rfl⟩:=DataW.trod_bool ht.1 h; simp [DataW.trod,ht.1]
  | str=>obtain ⟨m,rfl,rfl,hw⟩:=DataW.trod_string ht.1 h; simp [DataW.trod,ht.1,hw]
  | unit=>exact ht.elim
  | gap n=>exact ht.elim
  | id e=>have:=ht.2.2; rw [hid] at this; simp at this
  | pair a b=>exact ht.elim
  | st c=>
   obtain ⟨⟨fs,hu,hfs⟩,_⟩:=ht
   obtain ⟨xs,m,e,rfl,hl,hlen,hf⟩:=DataW.trod_struct hu h
   have e':m=n:=by omega
   subst e'
   refine ChangeShapes.trod_struct_mk hu hl (mapM_some_of_get _ _ (by simpa using hlen) fun i f hi=>?_)
   have hi':i<xs.length:=by
    have:=(List.getElem?_eq_some_iff.1 hi).1
    simp at this
    omega
   have h1:=hf i f (by simpa using hi)
   rw [agr hi'] at h1 ⊢
   obtain ⟨k',hk'⟩:=Oc hfs f (List.mem_of_getElem? hi)
   exact ih f.type k' _ _ hk' h1
  | sl e k=>
   obtain ⟨hu,_,hte,hk0,_⟩:=ht
   have hce:P.cellsOf e=k.size:=uO (fE.info hte)
   rcases DataW.trod_slice hu h with ⟨rfl,rfl⟩ | ⟨a,len,cap,_,_,_,_,rfl,_⟩
   ·simp [DataW.trod,hu]
   ·unfold DataW.trod at h ⊢
    rw [hu] at h ⊢
    simp only [hce] at h ⊢
    split at h
    ·rename_i hc
     rw [if_pos hc]
     obtain ⟨elems,he,h⟩:=Option.bind_eq_some_iff.1 h
     obtain ⟨rest,hr,hd⟩:=Option.map_eq_some_iff.1 h
     have hstep:∀i y,(W.cells? 0 (a.add (i * k.size)) k.size).bind (DataW.trod enc P W 0 (fun _=>true) true n e)=some y→(W.cells? 0 (a.add (i * k.size)) k.size).bind (DataW.trod enc P W 0 sp true n e)=some y:=by
      intro i y h
      obtain ⟨ds,h1,h2⟩:=Option.bind_eq_some_iff.1 h
      exact Option.bind_eq_some_iff.2 ⟨ds,h1,ih e k ds y hte h2⟩
     refine Option.bind_eq_some_iff.2 ⟨elems,mapM_carry he (fun i y _ _ hy=>hstep i y hy),Option.map_eq_some_iff.2 ⟨rest, ?_,hd⟩⟩
     simp only [if_true] at hr
     cases hs:sp a.block with
     | true=>
      simp only [if_true]
      exact mapM_carry hr (fun i y _ _ hy=>hstep _ y hy)
     | false=>
      simp only [age,if_false]
      cases hcl:cap - len with
      | zero=>rw [hcl] at hr; simpa using hr
      | succ m=>
       exfalso
       rw [hcl] at hr
       have h1:=mapM_some_get hr 0 0 (by simp)
       have hlr:rest.length=m+1:=by simpa using mapM_some_length hr
       rw [agr (by omega)] at h1
       obtain ⟨ds,h2,_⟩:=Option.bind_eq_some_iff.1 h1
       have h3:=World.cells?_block h2 hk0
       have h4:(a.add ((len+0) * k.size)).block=a.block:=by unfold Addr.add; split <;> rfl
       rw [h4] at h3
       rw [hsp _ h3] at hs
       simp at hs
    ·simp at h
end
end
section
open Go
section
variable {P:Program} {T:iF} {W W':World} {H:Type} {enc:TypeId×Value→H}
def AX (P:Program) (T:iF):List fF→List TypeId→Prop
 | [],[]=>True
 | .val k [] :: ps,t :: ts=>fE P T t k∧AX P T ps ts
 | _,_=>False
def YZ:(ps:List fF)→Cont (kin ps)→Nat
 | .val k _ :: ps,c=>KQ k c.1+YZ ps c.2
 | _,_=>0
def Ry:(ps:List fF)→Cont (kin ps)→Prop
 | .val k _ :: ps,c=>zR k c.1∧Ry ps c.2
 | _,_=>True
theorem Y2 [Fr] {t:TypeId} {k:K} {v:Value} {base:Nat} {x:El k} {ok:Nat→Prop} (ht:fE P T t k) (hv:Value.okWide P W .any base t v) (hV:Vw (hp W) ok k x v.cells.toList):VC k v v.cells.toList:=by
 have hplain:∀{u:Value},(∀y,v≠.agg y)→v.cells.toList=[u]→VC k v v.cells.toList∨∃c,k=.st c:=by
  intro u hn hu
  cases k with
  | st c=>exact .inr ⟨c,rfl⟩
  | _=>
   refine .inl ⟨?_,hn⟩
   cases v <;> first | rfl | exact absurd rfl (hn _)
 unfold fE iX at ht
 cases k with
 | st c=>
  obtain ⟨⟨fs,hu,_⟩,_⟩:=ht
  unfold Value.okWide at hv
  rw [hu] at hv
  obtain ⟨cs,rfl,_⟩:=hv
  show Value.agg cs=.agg (cs.toList).toArray
  simp
 | unit=>exact ht.elim
 | pair a b=>exact ht.elim
 | gap n=>exact ht.elim
 | int ik=>
  unfold Value.okWide at hv
  rw [ht.1] at hv
  refine ⟨?_, ?_⟩ <;> cases v <;> simp_all [Cell.okWide,Cell.ok,Value.cells]
 | bool=>
  unfold Value.okWide at hv
  rw [ht.1] at hv
  refine ⟨?_, ?_⟩ <;> cases v <;> simp_all [Cell.okWide,Cell.ok,Value.cells]
 | id e=>
  unfold Value.okWide at hv
  rw [ht.1] at hv
  refine ⟨?_, ?_⟩ <;> cases v <;> simp_all [Cell.okWide,Cell.ok,Value.cells]
 | str=>
  unfold Value.okWide at hv
  rw [ht.1] at hv
  refine ⟨?_, ?_⟩ <;> cases v <;> simp_all [Cell.okWide,Cell.ok,Value.cells]
 | sl e k=>
  unfold Value.okWide at hv
  rw [ht.1] at hv
  refine ⟨?_, ?_⟩ <;> cases v <;> simp_all [Cell.okWide,Cell.ok,Value.cells]
theorem Ee [Fr] (hid:T.ids=false) (hfr:∀b,b<W.heap.size→Fr.free b):∀{ps:List fF} {ts:List TypeId} {vs:List Value} {ds:List (DataW H)} {p:List MemPlace} {base:Nat},AX P T ps ts→DataW.TrodAll enc P W 0 (fun _=>true) true ts vs ds p→
  (∀(j:Nat) t v,ts[j]?=some t→vs[j]?=some v→Value.okWide P W .any base t v)→∃c,A7 W ps c vs∧YZ ps c≤Af ds∧ds.length=ps.length∧Ry ps c
 | [],[],vs,ds,p,_,_,h,_=>by
  obtain ⟨rfl,rfl,_⟩:=ChangeShapes.trodAll_nil h
  exact ⟨(),trivial,agt _,rfl,trivial⟩
 | .val k [] :: ps,t :: ts,vs,ds,p,base,hp1,h,hv=>by
  obtain ⟨v,vs',d,ds',p1,q,rfl,rfl,rfl,⟨n,h1⟩,h2⟩:=ChangeShapes.trodAll_cons h
  obtain ⟨c,g1,g2,g3,g4⟩:=Ee hid hfr hp1.2 h2 (fun j t v ht hv'=>hv (j+1) t v (by simpa using ht) (by simpa using hv'))
  obtain ⟨x,f1,f2,f3⟩:=(Nb (T:=T) (enc:=enc) hid hfr k).1 t n _ d p1 hp1.1 h1
  refine ⟨(x,c),⟨⟨_,Y2 hp1.1 (hv 0 t v rfl rfl) f1,f1⟩,g1⟩, ?_,by simp [g3],f3,g4⟩
  simp only [YZ,Af]
  omega
 | [],_ :: _,_,_,_,_,h,_,_=>h.elim
 | .val _ [] :: _,[],_,_,_,_,h,_,_=>h.elim
 | .val _ (_ :: _) :: _,ts,_,_,_,_,h,_,_=>by cases ts <;> exact h.elim
 | .ro _ :: _,ts,_,_,_,_,h,_,_=>by cases ts <;> exact h.elim
 | .rw _ _ _ _ :: _,ts,_,_,_,_,h,_,_=>by cases ts <;> exact h.elim
 | .jG _ _ _ :: _,ts,_,_,_,_,h,_,_=>by cases ts <;> exact h.elim
 | .own _ _ :: _,ts,_,_,_,_,h,_,_=>by cases ts <;> exact h.elim
 | .fn _ _ :: _,ts,_,_,_,_,h,_,_=>by cases ts <;> exact h.elim
 | .into _ _ :: _,ts,_,_,_,_,h,_,_=>by cases ts <;> exact h.elim
theorem JZ (hO:Ny W W') {p:MemPlace} (hp1:p.block<W.heap.size):W.sameAt W' p:=by
 have h:=hO.2.2.2 p.block hp1
 cases p with
 | cell b off=>
  have h':W'.heap[b]?=W.heap[b]?:=h
  show W'.cell? _=W.cell? _
  unfold World.cell?
  simp only [h']
 | map b=>exact h
theorem CK [Fr] (hid:T.ids=false) (hO:Ny W W') {sp:Nat→Bool} (hsp:∀b,b<W.heap.size→sp b=true):∀{ps:List fF} {ts:List TypeId} {vs:List Value} {ds:List (DataW H)} {p:List MemPlace},AX P T ps ts→DataW.TrodAll enc P W 0 (fun _=>true) true ts vs ds p→
  DataW.TrodAll enc P W' 0 sp true ts vs ds p
 | [],[],vs,ds,p,_,h=>by
  obtain ⟨rfl,rfl,rfl⟩:=ChangeShapes.trodAll_nil h
  exact rfl
 | .val k [] :: ps,t :: ts,vs,ds,p,hp1,h=>by
  obtain ⟨v,vs',d,ds',p1,q,rfl,rfl,rfl,⟨n,h1⟩,h2⟩:=ChangeShapes.trodAll_cons h
  have h3:=CK hid hO hsp hp1.2 h2
  have h4:=RS hid hsp n t k _ _ hp1.1 h1
  exact ⟨p1,q,⟨n,DataW.trod_carry n t _ _ h4 (fun p hp2=>JZ hO (DataW.trod_lt n t _ _ h1 p hp2))⟩,h3,rfl⟩
 | [],_ :: _,_,_,_,h,_=>h.elim
 | .val _ [] :: _,[],_,_,_,h,_=>h.elim
 | .val _ (_ :: _) :: _,ts,_,_,_,h,_=>by cases ts <;> exact h.elim
 | .ro _ :: _,ts,_,_,_,h,_=>by cases ts <;> exact h.elim
 | .rw _ _ _ _ :: _,ts,_,_,_,h,_=>by cases ts <;> exact h.elim
 | .jG _ _ _ :: _,ts,_,_,_,h,_=>by cases ts <;> exact h.elim
 | .own _ _ :: _,ts,_,_,_,h,_=>by cases ts <;> exact h.elim
 | .fn _ _ :: _,ts,_,_,_,h,_=>by cases ts <;> exact h.elim
 | .into _ _ :: _,ts,_,_,_,h,_=>by cases ts <;> exact h.elim
theorem O7 (hO:Ny W W') (may:MemPlace→Prop):W.keptBut W' may:=by
 refine ⟨hO.1,hO.2.1,fun i hi=>?_⟩
 have h:W'.heap[i]?=W.heap[i]?:=hO.2.2.2 i hi
 rw [h]
 cases W.heap[i]? with
 | none=>rfl
 | some o=>
  cases o with
  | cells c t fr=>exact ⟨rfl,rfl,rfl,fun _ _=>rfl⟩
  | map es clock=>exact .inr ⟨rfl,rfl⟩
  | _=>rfl
abbrev Uk (W:World):Fr:=⟨fun b=>b<W.heap.size,hp W,fun _=>.slice none 0 0,rfl,fun _=>⟨none,0,0,rfl⟩⟩
theorem Fv {f:FuncId} {fn:Func} {code:Code} {ps:List fF} {F:Nat→Cont (kin ps)→Option (Cont (gV [.val .bool [] []]++jE ps))} {s:ChangeSpec} {tb:TypeId} {N:Nat}
  (hf:P.funcs[f]?=some fn) (hname:(fn.name == "runtime.NumGoroutine")=false) (hbody:fn.body=some code) (hps:AX P T ps fn.params.toList) (hres:fn.resultTypes=#[tb]) (htb:P.underlying tb=some .bool)
  (hE:letI:=Uk W; ∀n,aA P n ⟨f,ps,[.val .bool [] []],F⟩) (acZ:∀c:Cont (kin ps),Ry ps c→YZ ps c≤N→∃n out,F n c=some out∧out.1=true)
  (hvars:s.vars=[]) (hspec:∀ds:List (DataW H),ds.length=ps.length→s.fn H ds={ results:=[.lit (.bool true)],args:=ds })
  {base:Nat} {args:Array Value} {ds gs:List (DataW H)} {before:List MemPlace}
  (hval:∀(j:Nat) t v,fn.params[j]?=some t→args[j]?=some v→Value.okWide P W .any base t v)
  (hW:DataW.Whole enc P fn.params.toList s.vars false W args.toList ds gs before) (hb:Af (ds++gs)≤N) (hid:T.ids=false:=by rfl) :
  Calls P f args W fun e W'=>∃v,e=.returned v∧s.post enc P fn false true false false W args v W':=by
 letI fr:Fr:=Uk W
 have hW':=hW
 obtain ⟨p,q,hA,hV,hpq,hfz,hnd⟩:=hW
 rw [hvars] at hV
 obtain ⟨rfl,rfl⟩:=ChangeShapes.trodVars_none hV
 rw [agH] at hb
 obtain ⟨c,h1,h2,h3,h6⟩:=Ee (T:=T) hid (fun b hb=>hb) hps hA (fun j t v ht hv=>hval j t v (by simpa using ht) (by simpa using hv))
 obtain ⟨n,out,h4,h5⟩:=acZ c h6 (by omega)
 refine (Pb (fun b hb=>⟨hb,rfl⟩) (hE n) h4 h5 h1 (Go.MuLone.run_callFunc_enter hf hname hbody args W)).mono ?_
 rintro e W' ⟨rfl,hO⟩
 have hsp:=hspec ds h3
 rw [agH] at hpq
 refine ⟨_,rfl,ds,[],before,[],p,[],hW', ?_, ?_, ?_,O7 hO _,fun h=>by simp at h⟩
 ·rw [agH,hsp,hres]
  exact ⟨[],[],⟨1,by simp [DataW.trod,Value.cells,htb]⟩,rfl,rfl⟩
 ·rw [agH,hsp]
  exact CK hid hO (fun b hb=>by simpa using hb) hps hA
 ·rw [agH,hsp,hvars]
  exact rfl
end
end
section
open Go
structure Nh where
 ty:List (TypeId×K)
 bytes:List (TypeId×Nat)
 ptr:List TypeId
 ids:Bool:=false
def look {A:Type} (n:Nat):List (Nat×A)→Option A
 | []=>none
 | (m,a) :: l=>bif Nat.beq n m then some a else look n l
def SA (n:Nat):List (Nat×Nat)→Nat
 | []=>0
 | (m,a) :: l=>bif Nat.beq n m then a else SA n l
def Nh.tab (L:Nh):iF:={ ty:=fun t=>look t L.ty,bytes:=fun t=>SA t L.bytes,ptr:=fun t=>au t L.ptr,eq:=fun _=>false,ids:=L.ids }
def O4:K→Value→Bool
 | .int ik, .int jk (.ofNat 0)=>uY ik jk
 | .bool, .bool false=>true
 | .str, .string s=>Nat.beq s.data.size 0
 | .sl _ _, .slice none 0 0=>true
 | .id _, .slice none 0 0=>true
 | _,_=>false
def Fu:K→List Value→Option (List Value)
 | .pair a b,l=>match Fu a l with
  | some m=>Fu b m
  | none=>none
 | .unit,l=>some l
 | .st f,l=>Fu f l
 | .gap _,_=>none
 | k,v :: l=>bif O4 k v then some l else none
 | _,[]=>none
def isZ:K→Value→Bool
 | .st f, .agg arr=>match Fu f arr.toList with
  | some []=>true
  | _=>false
 | .st _,_=>false
 | k,v=>O4 k v
def sF (P:Program) (t:TypeId) (k:K):Bool:=match P.info? t with
 | some i=>Nat.beq i.size k.size && (match i.zero with
  | some v=>isZ k v
  | none=>false)
 | none=>false
def jY (P:Program) (T:iF):K→(TypeId→Bool)×(List Field→Nat→Bool)
 | .int ik=>(fun t=>(match P.underlying t with
  | some (.int jk)=>uY ik jk
  | _=>false) && sF P t (.int ik),fun _ _=>false)
 | .bool=>(fun t=>(match P.underlying t with
  | some .bool=>true
  | _=>false) && sF P t .bool,fun _ _=>false)
 | .str=>(fun t=>(match P.underlying t with
  | some .string=>true
  | _=>false) && sF P t .str,fun _ _=>false)
 | .sl e k=>(fun t=>(match P.underlying t with
  | some (.slice e')=>Nat.beq e e'
  | _=>false) && sF P t (.sl e k) && (jY P T k).1 e && Nat.blt 0 k.size && (match P.info? e with
  | some i=>Nat.beq i.bytes (T.bytes e) && Nat.blt 0 i.bytes
  | none=>false),fun _ _=>false)
 | .unit=>(fun _=>false,fun fs _=>fs.isEmpty)
 | .pair a b=>(fun _=>false,fun fs off=>match fs with
  | []=>false
  | f :: fs=>Nat.beq f.offset off && (jY P T a).1 f.type && Nat.blt 0 a.size && (jY P T b).2 fs (off+a.size))
 | .st c=>(fun t=>(match P.underlying t with
  | some (.struct fs)=>(jY P T c).2 fs.toList 0
  | _=>false) && sF P t (.st c),fun _ _=>false)
 | .gap _=>(fun _=>false,fun _ _=>false)
 | .id e=>(fun t=>(match P.underlying t with
  | some (.slice e')=>Nat.beq e e'
  | _=>false) && sF P t (.id e) && T.ids,fun _ _=>false)
def vW (P:Program) (L:Nh):Bool:=L.ty.all (fun q=>(jY P L.tab q.2).1 q.1) && L.ptr.all fun t=>match P.underlying t with
 | some (.pointer _)=>true
 | _=>false
section
variable [Fr] {P:Program} {T:iF}
theorem KP {k:K} {v:Value} (h:O4 k v=true):bN k=[v]∧oU k=v:=by
 unfold O4 at h
 split at h
 ·have:=vH h; subst this; exact ⟨rfl,rfl⟩
 ·exact ⟨rfl,rfl⟩
 ·rename_i s
  have:s=ByteArray.empty:=by
   have h1:=agf h
   obtain ⟨d⟩:=s
   have:d=#[]:=Array.eq_empty_of_size_eq_zero h1
   subst this
   rfl
  subst this
  exact ⟨rfl,rfl⟩
 ·exact ⟨rfl,rfl⟩
 ·exact ⟨rfl,rfl⟩
 ·simp at h
theorem Ru:∀{k:K} {l m:List Value},Fu k l=some m→l=bN k++m:=by
 intro k
 have one:∀{k:K} {l m:List Value},(match l with | v :: l=>(bif O4 k v then some l else none) | []=>none)=some m→l=bN k++m:=by
  intro k l m h
  cases l with
  | nil=>simp at h
  | cons v l=>
   obtain ⟨hb,h⟩:=qc h
   simp only [agb] at h
   subst h
   rw [(KP hb).1]
   rfl
 induction k with
 | pair a b iha ihb=>
  intro l m h
  simp only [Fu] at h
  split at h
  ·rename_i q hq
   rw [iha hq,ihb h]
   simp [bN]
  ·simp at h
 | unit=>intro l m h; simp only [Fu,agb] at h; subst h; rfl
 | st f ih=>intro l m h; exact ih (show Fu f l=some m from h)
 | gap n=>intro l m h; simp [Fu] at h
 | int ik=>intro l m h; exact one (k:=.int ik) (by cases l <;> exact h)
 | bool=>intro l m h; exact one (k:=.bool) (by cases l <;> exact h)
 | id e=>intro l m h; exact one (k:=.id e) (by cases l <;> exact h)
 | str=>intro l m h; exact one (k:=.str) (by cases l <;> exact h)
 | sl e k _=>intro l m h; exact one (k:=.sl e k) (by cases l <;> exact h)
theorem U1 {k:K} {v:Value} (h:isZ k v=true):oU k=v:=by
 unfold isZ at h
 split at h
 ·rename_i f arr
  split at h
  ·rename_i hz
   have:=Ru hz
   simp only [agH] at this
   show Value.agg (bN f).toArray=.agg arr
   rw [←this]
  ·simp at h
 ·simp at h
 ·exact (KP h).2
theorem pE {t:TypeId} {k:K} (h:sF P t k=true):oW P t k:=by
 unfold sF at h
 split at h
 ·rename_i i hi
  simp only [agi] at h
  obtain ⟨h1,h2⟩:=h
  split at h2
  ·rename_i v hv
   exact ⟨i,hi,agf h1,by rw [hv,U1 h2]⟩
  ·simp at h2
 ·simp at h
theorem I7 {a b:Nat} (h:Nat.blt a b=true):a<b:=by
 unfold Nat.blt at h
 exact Nat.le_of_ble_eq_true h
theorem P9:∀{k:K},(∀t,(jY P T k).1 t=true→(iX P T k).1 t)∧∀fs off,(jY P T k).2 fs off=true→(iX P T k).2 fs off:=by
 intro k
 induction k with
 | int ik=>
  refine ⟨fun t h=>?_,fun fs off h=>by simp [jY] at h⟩
  simp only [jY,agi] at h
  obtain ⟨h1,h2⟩:=h
  split at h1
  ·rename_i jk hu
   have:=vH h1; subst this
   exact ⟨hu,pE h2⟩
  ·simp at h1
 | bool=>
  refine ⟨fun t h=>?_,fun fs off h=>by simp [jY] at h⟩
  simp only [jY,agi] at h
  obtain ⟨h1,h2⟩:=h
  split at h1
  ·rename_i hu; exact ⟨hu,pE h2⟩
  ·simp at h1
 | str=>
  refine ⟨fun t h=>?_,fun fs off h=>by simp [jY] at h⟩
  simp only [jY,agi] at h
  obtain ⟨h1,h2⟩:=h
  split at h1
  ·rename_i hu; exact ⟨hu,pE h2⟩
  ·simp at h1
 | sl e k ih=>
  refine ⟨fun t h=>?_,fun fs off h=>by simp [jY] at h⟩
  simp only [jY,agi] at h
  obtain ⟨⟨⟨⟨h1,h2⟩,h3⟩,h4⟩,h5⟩:=h
  split at h1
  ·rename_i e' hu
   have:=agf h1; subst this
   split at h5
   ·rename_i i hi
    simp only [agi] at h5
    exact ⟨hu,pE h2,ih.1 e h3,I7 h4,i,hi,agf h5.1,I7 h5.2⟩
   ·simp at h5
  ·simp at h1
 | unit=>exact ⟨fun t h=>by simp [jY] at h,fun fs off h=>show fs=[] by simpa [jY] using h⟩
 | gap n=>exact ⟨fun t h=>by simp [jY] at h,fun fs off h=>by simp [jY] at h⟩
 | id e=>
  refine ⟨fun t h=>?_,fun fs off h=>by simp [jY] at h⟩
  simp only [jY,agi] at h
  obtain ⟨⟨h1,h2⟩,h3⟩:=h
  split at h1
  ·rename_i e' hu
   have:=agf h1; subst this
   exact ⟨hu,pE h2,h3⟩
  ·simp at h1
 | pair a b iha ihb=>
  refine ⟨fun t h=>by simp [jY] at h,fun fs off h=>?_⟩
  cases fs with
  | nil=>simp [jY] at h
  | cons f fs=>
   simp only [jY,agi] at h
   obtain ⟨⟨⟨h1,h2⟩,h3⟩,h4⟩:=h
   exact ⟨agf h1,iha.1 _ h2,I7 h3,ihb.2 _ _ h4⟩
 | st c ih=>
  refine ⟨fun t h=>?_,fun fs off h=>by simp [jY] at h⟩
  simp only [jY,agi] at h
  obtain ⟨h1,h2⟩:=h
  split at h1
  ·rename_i fs hu
   exact ⟨⟨fs,hu,ih.2 _ _ h1⟩,pE h2⟩
  ·simp at h1
theorem Hu {A:Type} {n:Nat} {a:A}:∀{l:List (Nat×A)},look n l=some a→(n,a)∈l
 | [],h=>by simp [look] at h
 | (m,b) :: l,h=>by
  simp only [look] at h
  cases hb:Nat.beq n m with
  | true=>
   rw [hb] at h
   have:=agf hb
   simp only [cond_true,agb] at h
   subst this h
   simp
  | false=>
   rw [hb] at h
   exact .tail _ (Hu h)
theorem P7 {L:Nh} (h:vW P L=true):dX P L.tab:=by
 unfold vW at h
 simp only [agi,ags] at h
 refine ⟨fun t k ht=>P9.1 t (h.1 (t,k) (Hu ht)),fun t ht=>?_⟩
 have:=h.2 t (aJ.1 ht)
 split at this
 ·rename_i e he; exact ⟨e,he⟩
 ·simp at this
theorem Vb {L:Nh}:Dc P L.tab:=fun t c x y u v w hp1 hp2 ok1 ok2 _ he=>by simp [Nh.tab] at he
end
end
section
open Go
abbrev Vk (T:iF) (hi:Hint) (fn:Func) (E:Entry):Prop:=∀n (c:Cont (kin E.ps)),QT T hi fn E.ps E.rs n c=E.F n c
variable [Fr] {P:Program} {n:Nat}
theorem aM:∀q∈([]:List (Nat×Option Nat×Entry)),aA P n q.2.2:=by simp
theorem ah {f:Nat} {d:Option Nat} {E:Entry} {l:List (Nat×Option Nat×Entry)} (h:aA P n E) (t:∀q∈l,aA P n q.2.2):∀q∈(f,d,E) :: l,aA P n q.2.2:=by
 intro q hq
 rcases agp.1 hq with rfl | hq
 ·exact h
 ·exact t q hq
theorem aD (hm:P.follows .mixedOrders=true) {L:Nh} (hL:vW P L=true) {E:Entry} {fn:Func} (hf:P.funcs[E.f]?=some fn) (hname:(fn.name == "runtime.NumGoroutine")=false) {hi:Hint} (hC:∀q∈hi.calls,aA P n q.2.2)
  (hD:∀n (c:Cont (kin E.ps)),QT L.tab hi fn E.ps E.rs n c=E.F n c):aA P n E:=
 Ji hm (P7 hL) Vb hf hname hC (fun c out h=>by rw [hD]; exact h)
end
section
open Go
def xA {A:Type} (xs:List A) (i:Nat) (d:A) (f:A→A):List A:=xs.set i (f (xs.getD i d))
def dm {R:Type} (step:Nat→Option R) (fin:R):Nat→Nat→R
 | 0,_=>fin
 | m+1,i=>match step i with
  | some r=>r
  | none=>dm step fin m (i+1)
theorem JX {V R:Type} {B:(V→Option R)→V→Option R} (S:Nat→V) (step:Nat→Option (Option R)) (fin:Option R) {m:Nat} (h1:∀L i,i<m→(∀j,j<i→step j=none)→B L (S i)=match step i with | some r=>r | none=>L (S (i+1))) (h2:∀L,(∀j,j<m→step j=none)→B L (S m)=fin) :
  ∀(d i n:Nat),i+d=m→d<n→(∀j,j<i→step j=none)→rounds B n (S i)=dm step fin d i:=by
 intro d
 induction d with
 | zero=>
  intro i n hi hn hp
  cases n with
  | zero=>omega
  | succ n=>
   have:i=m:=by omega
   subst this
   exact h2 _ hp
 | succ d ih=>
  intro i n hi hn hp
  cases n with
  | zero=>omega
  | succ n=>
   show B (rounds B n) (S i)=_
   rw [h1 _ i (by omega) hp]
   unfold dm
   cases hs:step i with
   | some r=>rfl
   | none=>exact ih (i+1) n (by omega) (by omega) (fun j hj=>by
     by_cases e:j=i
     ·rw [e,hs]
     ·exact hp j (by omega))
theorem bE {V R:Type} {B:(V→Option R)→V→Option R} {v0:V} (S:Nat→V) (step:Nat→Option (Option R)) (fin:Option R) {m n:Nat} (h0:v0=S 0) (hn:m<n) (h1:∀L i,i<m→(∀j,j<i→step j=none)→B L (S i)=match step i with | some r=>r | none=>L (S (i+1))) (h2:∀L,(∀j,j<m→step j=none)→B L (S m)=fin) :
  rounds B n v0=dm step fin m 0:=by
 rw [h0]
 exact JX S step fin h1 h2 m 0 n (by omega) hn (fun j h=>by omega)
theorem oD {A:Type} {l:List A} {i:Nat} (h:i<l.length) (d:A):l.getD ((i:Int).toNat) d=l[i]:=by
 simp [h]
theorem fq {R:Type} {step:Nat→Option R} {fin:R}:∀{m i:Nat},(∀j,i≤j→j<i+m→step j=none)→dm step fin m i=fin:=by
 intro m
 induction m with
 | zero=>intro i _; rfl
 | succ m ih=>
  intro i h
  unfold dm
  rw [h i (agt _) (by omega)]
  exact ih (fun j h1 h2=>h j (by omega) (by omega))
theorem Fb {R:Type} {s1 s2:Nat→Option R} {f1 f2:R} (hf:f1=f2):∀{m i:Nat},(∀j,i≤j→j<i+m→s1 j=s2 j)→dm s1 f1 m i=dm s2 f2 m i:=by
 intro m
 induction m with
 | zero=>intro i _; exact hf
 | succ m ih=>
  intro i h
  unfold dm
  rw [h i (agt _) (by omega)]
  cases s2 i with
  | some r=>rfl
  | none=>exact ih (fun j h1 h2=>h j (by omega) (by omega))
theorem Fe {R:Type} {step:Nat→Option R} {fin r:R} (hc:∀j,step j=none∨step j=some r):∀{m i:Nat},dm step fin m i=r∨dm step fin m i=fin:=by
 intro m
 induction m with
 | zero=>intro i; exact .inr rfl
 | succ m ih=>
  intro i
  unfold dm
  rcases hc i with h | h
  ·rw [h]; exact ih
  ·rw [h]; exact .inl rfl
theorem wrap_i64 {x:Int} (h1 : -9223372036854775808≤x) (h2:x≤9223372036854775807):IntKind.i64.wrap x=x:=by
 simp [IntKind.wrap,IntKind.bits,IntKind.signed]
 omega
theorem bL {i:Nat} {n:Nat} (h:i<n) (hn:n≤9223372036854775807):IntKind.i64.wrap ((i:Int)+1)=((i+1:Nat):Int):=by
 rw [wrap_i64 (by omega) (by omega)]
 omega
theorem aV {i n:Nat} (h:i<n):aN (i:Int) n:=⟨by omega,by omega⟩
end
section
open Go
variable [Fr]
section
variable {P:Program} {cx:Cx} {σ:St} {α:dK} {F:List Nat} {a:Act} {w w':World}
theorem Rel.grown (H:Rel cx σ α F a w) (hO:Ny w w') (ht:w'.tape=w.tape):Rel cx σ α F a w':=H.Oh hO.1 hO.2.1 hO.2.2.1 hO.2.2.2 ht
end
end
section
open Go
variable [Fr]
section
variable {P:Program} {cx:Cx} {σ:St} {α:dK} {F:List Nat} {a:Act} {w w':World}
end
end
section
open Go
variable [Fr]
section
variable {P:Program} {cx:Cx} {σ:St} {α:dK} {F:List Nat} {a:Act} {w w':World}
end
end
section
open Go
section
variable {e:TypeId} {kk:K}
def Rw (e:TypeId) (kk:K) (z:Bool) (tb:Nat→List (El kk)):(k k':K)→El k→El k'→List Nat→Prop
 | .sl f k, .id f',xs,i,ns=>f=e∧f'=e∧∃h:k=kk,h▸(show List (El k) from xs)=tb i∧((i≠(0:Nat)∧ns=[i])∨(z=true∧i=(0:Nat)∧tb 0=[]∧ns=[]))
 | .sl f k, .sl f' k',xs,ys,ns=>f=f'∧k'.size=k.size∧(show List (El k) from xs).length=(show List (El k') from ys).length∧∃nss:List (List Nat),nss.length=(show List (El k) from xs).length∧ns=nss.flatten∧
   ∀(i:Nat) (h1:i<(show List (El k) from xs).length) (h2:i<(show List (El k') from ys).length),Rw e kk z tb k k' ((show List (El k) from xs)[i]) ((show List (El k') from ys)[i]) (nss.getD i [])
 | .pair a b, .pair a' b',x,y,ns=>∃n1 n2,ns=n1++n2∧Rw e kk z tb a a' x.1 y.1 n1∧Rw e kk z tb b b' x.2 y.2 n2
 | .st f, .st f',x,y,ns=>Rw e kk z tb f f' x y ns
 | .int ik, .int jk,x,y,ns=>ik=jk∧(show Int from x)=y∧ns=[]
 | .bool, .bool,x,y,ns=>(show Bool from x)=y∧ns=[]
 | .str, .str,x,y,ns=>(show List Int from x)=y∧ns=[]
 | .unit, .unit,_,_,ns=>ns=[]
 | _,_,_,_,_=>False
theorem Rw.size {z:Bool} {tb:Nat→List (El kk)}:∀{k k':K} {x:El k} {y:El k'} {ns:List Nat},Rw e kk z tb k k' x y ns→k'.size=k.size:=by
 intro k
 induction k with
 | sl f k ih=>intro k' x y ns h; cases k' <;> first | rfl | exact h.elim
 | pair a b iha ihb=>
  intro k' x y ns h
  cases k' with
  | pair a' b'=>unfold Rw at h; obtain ⟨n1,n2,_,h1,h2⟩:=h; simp [K.size,iha h1,ihb h2]
  | _=>exact h.elim
 | st f ih=>
  intro k' x y ns h
  cases k' with
  | st f'=>unfold Rw at h; exact ih (k':=f') (x:=x) (y:=y) (ns:=ns) h
  | _=>exact h.elim
 | int ik=>intro k' x y ns h; cases k' <;> first | rfl | exact h.elim
 | bool=>intro k' x y ns h; cases k' <;> first | rfl | exact h.elim
 | str=>intro k' x y ns h; cases k' <;> first | rfl | exact h.elim
 | unit=>intro k' x y ns h; cases k' <;> first | rfl | exact h.elim
 | gap n=>intro k' x y ns h; cases k' <;> exact h.elim
 | id f=>intro k' x y ns h; cases k' <;> exact h.elim
abbrev DD:=Nat×Value×List Nat
def aQ (l:List DD):List Nat:=l.flatMap (·.2.2)
theorem xD:∀(l:List (List DD)),aQ l.flatten=(l.map aQ).flatten
 | []=>rfl
 | a :: l=>by
  simp only [List.flatten_cons,List.map_cons]
  unfold aQ at *
  rw [List.flatMap_append]
  congr 1
  exact xD l
theorem xy {A:Type}:∀{bC fs gs:List (List A)},fs.length=bC.length→gs.length=bC.length→(∀i,i<bC.length→(bC.getD i []).Perm (fs.getD i []++gs.getD i []))→bC.flatten.Perm (fs.flatten++gs.flatten)
 | [],[],[],_,_,_=>.refl _
 | f :: bC,[],_,h,_,_=>by simp at h
 | f :: bC,_ :: _,[],_,h,_=>by simp at h
 | [],_ :: _,_,h,_,_=>by simp at h
 | [],[],_ :: _,_,h,_=>by simp at h
 | f :: bC,a :: fs,b :: gs,h1,h2,h=>by
  have h0:=h 0 (by simp)
  have ht:=xy (bC:=bC) (fs:=fs) (gs:=gs) (by simpa using h1) (by simpa using h2) (fun i hi=>by have:=h (i+1) (by simpa using hi); simpa using this)
  simp only [List.flatten_cons]
  have h0':f.Perm (a++b):=by simpa using h0
  refine (h0'.append ht).trans ?_
  simp only [agy]
  refine List.Perm.append_left a ?_
  rw [←agy, ←agy]
  exact List.Perm.append_right _ List.perm_append_comm
variable [fr:Fr]
abbrev gy (fr:Fr) (ig:Nat→Value) (h0:ig 0=.slice none 0 0) (hs:∀i,∃a n c,ig i=.slice a n c):Fr:=⟨fr.free,fr.obj,ig,h0,hs⟩
theorem F9 {h:Heap} {own:List TypeId} {ok:Nat→Prop} {tb:Nat→List (El kk)}:∀{k k':K} {x:El k} {y:El k'} {ns:List Nat} {cs:List Value} {fo:List Nat},(∀t∈k.tys,au t own=true)→
  Rw e kk false tb k k' x y ns→Ow h own ok k x cs fo→
  ∃(dR:List DD) (dG:List Nat),dR.map (·.1)=ns∧fo.Perm (dG++aQ dR)∧(∀q∈dR,Ow h own ok (.sl e kk) (tb q.1) [q.2.1] q.2.2)∧
   ∀fr':Fr,fr'.free=fr.free→(∀q∈dR,fr'.ig q.1=q.2.1)→@Ow fr' h own ok k' y cs dG:=by
 intro k
 induction k with
 | sl f k ih=>
  intro k' x y ns cs fo hown hR hO
  cases k' with
  | id f'=>
   obtain ⟨rfl,rfl,hk,hx,hi⟩:=hR
   subst hk
   rcases hi with ⟨_,rfl⟩ | ⟨hz,_⟩
   ·have BZ:=hO
    unfold Ow at hO
    rw [if_pos (hown f' (by simp [K.tys]))] at hO
    obtain ⟨a,n,c,rfl,_⟩:=hO
    refine ⟨[(y, .slice a n c,fo)],[],rfl,by simp [aQ],fun q hq=>?_,fun fr' _ acT=>⟨rfl, ?_⟩⟩
    ·simp only [agw] at hq
     subst hq
     show Ow h own ok (.sl f' k) (tb y:List (El k)) _ _
     rw [←hx]
     exact BZ
    ·show _=[fr'.ig y]
     rw [acT _ (agw.2 rfl)]
   ·simp at hz
  | sl f' k'=>
   obtain ⟨rfl,hsz,hl,nss,hnl,rfl,hat⟩:=hR
   have hf:au f own=true:=hown f (by simp [K.tys])
   unfold Ow at hO
   rw [if_pos hf] at hO
   obtain ⟨a,n,c,rfl,hn,hnc,hO⟩:=hO
   rcases hO with ⟨hc,rfl⟩ | ⟨b,o,arr,lo,hi,rfl,hb,hfz,hoc,bC,hfl,hfo,hel⟩
   ·have h0:(show List (El k) from x).length=0:=by omega
    refine ⟨[],[], ?_,by simp [aQ],fun q hq=>by simp at hq,fun fr' _ _=>?_⟩
    ·have:nss=[]:=List.length_eq_zero_iff.1 (by omega)
     rw [this]; rfl
    ·unfold Ow
     rw [if_pos hf]
     exact ⟨a,n,c,rfl,by omega,hnc, .inl ⟨hc,rfl⟩⟩
   ·have hone:∀i,i<(show List (El k) from x).length→∃q:List DD×List Nat,∀(h1:i<(show List (El k) from x).length) (h2:i<(show List (El k') from y).length),q.1.map (·.1)=nss.getD i []∧(bC.getD i []).Perm (q.2++aQ q.1)∧(∀t∈q.1,Ow h own ok (.sl e kk) (tb t.1) [t.2.1] t.2.2)∧
      ∀fr':Fr,fr'.free=fr.free→(∀t∈q.1,fr'.ig t.1=t.2.1)→∃ds, @Cells h b (o+i * k.size) ds∧@Ow fr' h own ok k' ((show List (El k') from y)[i]) ds q.2:=by
     intro i h1
     obtain ⟨ds,g1,g2⟩:=hel i h1
     obtain ⟨dR,dG,f1,f2,f3,f4⟩:=ih (fun t ht=>hown t (by simp [K.tys,ht])) (hat i h1 (by omega)) g2
     exact ⟨(dR,dG),fun _ _=>⟨f1,f2,f3,fun fr' e1 e2=>⟨ds,g1,f4 fr' e1 e2⟩⟩⟩
    obtain ⟨qs,Zh,hq⟩:=zH hone
    refine ⟨(qs.map (·.1)).flatten,b :: (qs.map (·.2)).flatten, ?_, ?_, ?_,fun fr' e1 e2=>?_⟩
    ·rw [List.map_flatten,List.map_map]
     congr 1
     apply List.ext_getElem
     ·simp; omega
     ·intro i h1 h2
      have hi:i<qs.length:=by simpa using h1
      have:=(hq i hi (by omega) (by omega)).1
      simp only [List.getElem_map,Function.comp_apply]
      rw [this,agq,agr h2]
      rfl
    ·refine hfo.trans ?_
     rw [xD,List.cons_append]
     refine List.Perm.cons b (xy (by simp; omega) (by simp; omega) fun i hi=>?_)
     have hi':i<qs.length:=by omega
     have:=(hq i hi' (by omega) (by omega)).2.1
     simp only [agq,List.getElem?_map,agr hi',Option.map_some,Option.getD_some,List.map_map,Function.comp_apply] at this ⊢
     exact this
    ·intro t ht
     obtain ⟨l,hl,ht⟩:=List.mem_flatten.1 ht
     obtain ⟨q,hq',rfl⟩:=agO.1 hl
     obtain ⟨i,hi,rfl⟩:=List.getElem_of_mem hq'
     exact (hq i hi (by omega) (by omega)).2.2.1 t ht
    ·unfold Ow
     rw [if_pos hf]
     refine ⟨_,n,c,rfl,by omega,hnc, .inr ⟨b,o,arr,lo,hi,rfl,hb,hfz, ?_,qs.map (·.2),by rw [List.length_map,Zh]; exact hl, .refl _,fun i hi'=>?_⟩⟩
     ·rw [hsz]; exact hoc
     ·have hiq:i<qs.length:=by omega
      obtain ⟨ds,g1,g2⟩:=(hq i hiq (by omega) hi').2.2.2 fr' e1 (fun t ht=>e2 t (List.mem_flatten.2 ⟨_,agO.2 ⟨qs[i],agG hiq,rfl⟩,ht⟩))
      refine ⟨ds, ?_, ?_⟩
      ·rw [hsz]; exact g1
      ·have:(qs.map (·.2)).getD i []=qs[i].2:=by simp [agq,List.getElem?_map,agr hiq]
       rw [this]
       exact g2
  | _=>exact hR.elim
 | pair a b iha ihb=>
  intro k' x y ns cs fo hown hR hO
  cases k' with
  | pair a' b'=>
   obtain ⟨n1,n2,rfl,r1,r2⟩:=hR
   obtain ⟨c1,c2,f1,f2,rfl,hp,o1,o2⟩:=hO
   obtain ⟨t1,g1,p1,p2,p3,p4⟩:=iha (fun t ht=>hown t (by simp [K.tys,ht])) r1 o1
   obtain ⟨t2,g2,q1,q2,q3,q4⟩:=ihb (fun t ht=>hown t (by simp [K.tys,ht])) r2 o2
   refine ⟨t1++t2,g1++g2,by rw [List.map_append,p1,q1], ?_,fun q hq=>?_,fun fr' e1 e2=>⟨c1,c2,g1,g2,rfl, .refl _,p4 fr' e1 (fun q hq=>e2 q (agh _ hq)),q4 fr' e1 (fun q hq=>e2 q (agd _ hq))⟩⟩
   ·refine hp.trans ((p2.append q2).trans ?_)
    have:aQ (t1++t2)=aQ t1++aQ t2:=by simp [aQ]
    rw [this]
    simp only [agy]
    refine List.Perm.append_left g1 ?_
    rw [←agy, ←agy]
    exact List.Perm.append_right _ List.perm_append_comm
   ·rcases agl.1 hq with hq | hq
    ·exact p3 q hq
    ·exact q3 q hq
  | _=>exact hR.elim
 | st f ih=>
  intro k' x y ns cs fo hown hR hO
  cases k' with
  | st f'=>
   obtain ⟨dR,dG,f1,f2,f3,f4⟩:=ih (k':=f') (x:=x) (y:=y) (ns:=ns) (cs:=cs) (fo:=fo) hown hR hO
   exact ⟨dR,dG,f1,f2,f3,fun fr' e1 e2=>f4 fr' e1 e2⟩
  | _=>exact hR.elim
 | int ik=>
  intro k' x y ns cs fo hown hR hO
  cases k' with
  | int jk=>
   obtain ⟨rfl,rfl,rfl⟩:=hR
   exact ⟨[],fo,rfl,by simp [aQ],fun q hq=>by simp at hq,fun _ _ _=>hO⟩
  | _=>exact hR.elim
 | bool=>
  intro k' x y ns cs fo hown hR hO
  cases k' with
  | bool=>
   obtain ⟨rfl,rfl⟩:=hR
   exact ⟨[],fo,rfl,by simp [aQ],fun q hq=>by simp at hq,fun _ _ _=>hO⟩
  | _=>exact hR.elim
 | str=>
  intro k' x y ns cs fo hown hR hO
  cases k' with
  | str=>
   obtain ⟨rfl,rfl⟩:=hR
   exact ⟨[],fo,rfl,by simp [aQ],fun q hq=>by simp at hq,fun _ _ _=>hO⟩
  | _=>exact hR.elim
 | unit=>
  intro k' x y ns cs fo hown hR hO
  cases k' with
  | unit=>
   have:ns=[]:=hR
   subst this
   exact ⟨[],fo,rfl,by simp [aQ],fun q hq=>by simp at hq,fun _ _ _=>hO⟩
  | _=>exact hR.elim
 | gap n=>intro k' x y ns cs fo _ hR; cases k' <;> exact hR.elim
 | id f=>intro k' x y ns cs fo _ hR; cases k' <;> exact hR.elim
theorem Es {A B:Type} (f:A→B):∀{nss:List (List B)} {l:List A},l.map f=nss.flatten→∃FY:List (List A),FY.flatten=l∧FY.map (·.map f)=nss
 | [],l,h=>by
  have:l=[]:=by simpa using h
  exact ⟨[],by simp [this],rfl⟩
 | ns :: nss,l,h=>by
  rw [List.flatten_cons,List.map_eq_append_iff] at h
  obtain ⟨l1,l2,rfl,h1,h2⟩:=h
  obtain ⟨FY,g1,g2⟩:=Es f h2
  exact ⟨l1 :: FY,by simp [g1],by simp [h1,g2]⟩
theorem EG {h:Heap} {own:List TypeId} {ok:Nat→Prop} {tb:Nat→List (El kk)} (fr':Fr):∀{k k':K} {x:El k} {y:El k'} {dR:List DD} {cs:List Value} {dG:List Nat},(∀t∈k.tys,au t own=true)→
  Rw e kk true tb k k' x y (dR.map (·.1))→@Ow fr' h own ok k' y cs dG→(∀q∈dR, @Ow fr h own ok (.sl e kk) (tb q.1) [q.2.1] q.2.2∧fr'.ig q.1=q.2.1)→@Ow fr h own ok k x cs (dG++aQ dR):=by
 intro k
 induction k with
 | sl f k ih=>
  intro k' x y dR cs dG hown hR hO htr
  cases k' with
  | id f'=>
   obtain ⟨rfl,rfl,hk,hx,hi⟩:=hR
   subst hk
   obtain ⟨rfl,hcs⟩:=hO
   have hcs:cs=[fr'.ig y]:=hcs
   subst hcs
   rcases hi with ⟨_,hns⟩ | ⟨_,h0,hx0,hns⟩
   ·cases dR with
    | nil=>simp at hns
    | cons q l=>
     cases l with
     | cons _ _=>simp at hns
     | nil=>
      simp only [List.map_cons,List.map_nil,List.cons.injEq,and_true] at hns
      obtain ⟨g1,g2⟩:=htr q (by simp)
      rw [hns] at g1 g2
      have hx':(show List (El k) from x)=tb y:=hx
      show @Ow fr h own ok (.sl f' k) (show List (El k) from x) _ _
      rw [hx',g2]
      simpa [aQ] using g1
   ·have ht:dR=[]:=by simpa using hns
    subst ht
    have hy:y=(0:Nat):=h0
    subst hy
    have hx':(show List (El k) from x)=[]:=hx.trans hx0
    rw [fr'.U0]
    unfold Ow
    rw [if_pos (hown f' (by simp [K.tys]))]
    exact ⟨none,0,0,rfl,by rw [hx']; rfl,agt _, .inl ⟨rfl,rfl⟩⟩
  | sl f' k'=>
   obtain ⟨rfl,hsz,hl,nss,hnl,hns,hat⟩:=hR
   have hf:au f own=true:=hown f (by simp [K.tys])
   unfold Ow at hO ⊢
   rw [if_pos hf] at hO ⊢
   obtain ⟨a,n,c,rfl,hn,hnc,hO⟩:=hO
   obtain ⟨FY,rfl,hts⟩:=Es (fun q:DD=>q.1) hns
   have htl:FY.length=nss.length:=by rw [←hts,List.length_map]
   rcases hO with ⟨hc,rfl⟩ | ⟨b,o,arr,lo,hi,rfl,hb,hfz,hoc,bC,hfl,hfo,hel⟩
   ·have h0:(show List (El k) from x).length=0:=by omega
    have:FY=[]:=List.length_eq_zero_iff.1 (by omega)
    subst this
    exact ⟨a,n,c,rfl,by omega,hnc, .inl ⟨hc,rfl⟩⟩
   ·have hone:∀i (hi1:i<(show List (El k) from x).length),∃ds,Cells h b (o+i * k.size) ds∧@Ow fr h own ok k ((show List (El k) from x)[i]) ds (bC.getD i []++aQ (FY.getD i [])):=by
     intro i h1
     obtain ⟨ds,g1,g2⟩:=hel i (by omega)
     have hti:i<FY.length:=by omega
     have e1:FY.getD i []=FY[i]:=by simp [hti]
     have e2:nss.getD i []=(FY[i]).map (·.1):=by
      rw [←hts]
      simp [hti]
     have hR':=hat i h1 (by omega)
     rw [e2] at hR'
     refine ⟨ds,by rw [←hsz]; exact g1, ?_⟩
     rw [e1]
     exact ih (fun t ht=>hown t (by simp [K.tys,ht])) hR' g2 (fun q hq=>htr q (List.mem_flatten.2 ⟨_,agG hti,hq⟩))
    refine ⟨_,n,c,rfl,by omega,hnc, .inr ⟨b,o,arr,lo,hi,rfl,hb,hfz,by rw [←hsz]; exact hoc,(List.range (show List (El k) from x).length).map fun i=>bC.getD i []++aQ (FY.getD i []),by simp, ?_,fun i h1=>?_⟩⟩
    ·refine (hfo.append_right _).trans ?_
     rw [List.cons_append]
     refine List.Perm.cons b ?_
     rw [xD]
     refine (xy (bC:=(List.range (show List (El k) from x).length).map fun i=>bC.getD i []++aQ (FY.getD i [])) (fs:=bC) (gs:=FY.map aQ) (by rw [List.length_map,List.length_range]; omega) (by rw [List.length_map,List.length_map,List.length_range]; omega) fun i hi1=>?_).symm
     have hi2:i<(show List (El k) from x).length:=by simpa using hi1
     have hti:i<FY.length:=by omega
     simp [agq,List.getElem?_map,List.getElem?_range,hi2,hti]
    ·obtain ⟨ds,g1,g2⟩:=hone i h1
     refine ⟨ds,g1, ?_⟩
     have:((List.range (show List (El k) from x).length).map fun i=>bC.getD i []++aQ (FY.getD i [])).getD i []=bC.getD i []++aQ (FY.getD i []):=by
      simp [agq,List.getElem?_map,List.getElem?_range,h1]
     rw [this]
     exact g2
  | _=>exact hR.elim
 | pair a b iha ihb=>
  intro k' x y dR cs dG hown hR hO htr
  cases k' with
  | pair a' b'=>
   obtain ⟨n1,n2,hns,r1,r2⟩:=hR
   obtain ⟨c1,c2,f1,f2,rfl,hp,o1,o2⟩:=hO
   rw [List.map_eq_append_iff] at hns
   obtain ⟨t1,t2,rfl,rfl,rfl⟩:=hns
   refine ⟨c1,c2,f1++aQ t1,f2++aQ t2,rfl, ?_,iha (fun t ht=>hown t (by simp [K.tys,ht])) r1 o1 (fun q hq=>htr q (agh _ hq)),ihb (fun t ht=>hown t (by simp [K.tys,ht])) r2 o2 (fun q hq=>htr q (agd _ hq))⟩
   refine (hp.append_right _).trans ?_
   have:aQ (t1++t2)=aQ t1++aQ t2:=by simp [aQ]
   rw [this]
   simp only [agy]
   refine List.Perm.append_left f1 ?_
   rw [←agy, ←agy]
   exact List.Perm.append_right _ List.perm_append_comm
  | _=>exact hR.elim
 | st f ih=>
  intro k' x y dR cs dG hown hR hO htr
  cases k' with
  | st f'=>exact ih (k':=f') (x:=x) (y:=y) (dR:=dR) (cs:=cs) (dG:=dG) hown hR hO htr
  | _=>exact hR.elim
 | int ik=>
  intro k' x y dR cs dG hown hR hO htr
  cases k' with
  | int jk=>
   obtain ⟨rfl,rfl,hns⟩:=hR
   have:dR=[]:=by simpa using hns
   subst this
   have e0:dG++aQ []=dG:=agH _
   rw [e0]
   exact hO
  | _=>exact hR.elim
 | bool=>
  intro k' x y dR cs dG hown hR hO htr
  cases k' with
  | bool=>
   obtain ⟨rfl,hns⟩:=hR
   have:dR=[]:=by simpa using hns
   subst this
   have e0:dG++aQ []=dG:=agH _
   rw [e0]
   exact hO
  | _=>exact hR.elim
 | str=>
  intro k' x y dR cs dG hown hR hO htr
  cases k' with
  | str=>
   obtain ⟨rfl,hns⟩:=hR
   have:dR=[]:=by simpa using hns
   subst this
   have e0:dG++aQ []=dG:=agH _
   rw [e0]
   exact hO
  | _=>exact hR.elim
 | unit=>
  intro k' x y dR cs dG hown hR hO htr
  cases k' with
  | unit=>
   have hns:dR.map (·.1)=[]:=hR
   have:dR=[]:=by simpa using hns
   subst this
   have e0:dG++aQ []=dG:=agH _
   rw [e0]
   exact hO
  | _=>exact hR.elim
 | gap n=>intro k' x y dR cs dG _ hR; cases k' <;> exact hR.elim
 | id f=>intro k' x y dR cs dG _ hR; cases k' <;> exact hR.elim
def xx:K→Bool
 | .id _=>false
 | .sl _ k=>xx k
 | .pair a b=>xx a && xx b
 | .st f=>xx f
 | _=>true
theorem NG {h:Heap} {ok:Nat→Prop} (fr':Fr) (hf:fr'.free=fr.free):∀{k:K} {x:El k} {cs:List Value},xx k=true→@Vw fr h ok k x cs→@Vw fr' h ok k x cs:=by
 intro k
 induction k with
 | sl f k ih=>
  intro x cs hk H
  obtain ⟨a,n,c,e1,e2,e3,H⟩:=H
  refine ⟨a,n,c,e1,e2,e3,fun hn=>?_⟩
  obtain ⟨b,o,ea,hb,ht,H⟩:=H hn
  refine ⟨b,o,ea,hb,ht.imp id (fun h=>by rw [hf]; exact h),fun i hi=>?_⟩
  obtain ⟨ds,h1,h2⟩:=H i hi
  exact ⟨ds,h1,ih hk h2⟩
 | pair a b iha ihb=>
  intro x cs hk H
  simp only [xx,agi] at hk
  obtain ⟨c1,c2,e,h1,h2⟩:=H
  exact ⟨c1,c2,e,iha hk.1 h1,ihb hk.2 h2⟩
 | st f ih=>intro x cs hk H; exact ih (x:=x) (cs:=cs) hk H
 | id f=>intro x cs hk; simp [xx] at hk
 | int ik=>intro x cs _ H; exact H
 | bool=>intro x cs _ H; exact H
 | str=>intro x cs _ H; exact H
 | unit=>intro x cs _ H; exact H
 | gap n=>intro x cs _ H; exact H
def uI (cx:Cx) (bad:List Nat):Cx:={ cx with
 par:=fun j=>(cx.par j).map fun pi=>{ pi with bl:=pi.bl.filter fun b=>!au b bad }
 ptrs:=fun _ _ _ _=>False
 refs:=fun _ _=>False }
theorem lq {cx:Cx} {bad:List Nat} {j:Nat} {yA:Lm} (h:(uI cx bad).par j=some yA):∃pi,cx.par j=some pi∧yA={ pi with bl:=pi.bl.filter fun b=>!au b bad }:=by
 simp only [uI,Option.map_eq_some_iff] at h
 obtain ⟨pi,h1,h2⟩:=h
 exact ⟨pi,h1,h2.symm⟩
theorem Bw {cx:Cx} {bad:List Nat} {b:Nat}:jU (uI cx bad) b↔jU cx b:=by
 constructor
 ·rintro ⟨j,yA,o,n,h1,h2⟩
  obtain ⟨pi,g1,rfl⟩:=lq h1
  exact ⟨j,pi,o,n,g1,h2⟩
 ·rintro ⟨j,pi,o,n,h1,h2⟩
  exact ⟨j,{ pi with bl:=pi.bl.filter fun b=>!au b bad },o,n,by simp [uI,h1],h2⟩
def Jt (T:List Tag):Prop:=∀t∈T,fG t.1=true
def xO:sN→Prop
 | .one .undef=>True
 | .one (.ptr r p n)=>r=ak 0∧p=[]∧n=0
 | .one (.val k _ T)=>xx k=true∧Jt T
 | .one (.fn _ cs)=>∀c∈cs,xx c.2.1.1=true∧Jt c.2.2∧c.1=SENT
 | _=>False
section
variable {cx:Cx} {σ:St} {α:dK} {a:Act} {w:World}
theorem PG {R0 R1:Root} {dG bad:List Nat} (h0:∀r R,aO σ r R→r=ak 0∧R=R0) (h1:aO σ (ak 0) R0) (hk:R1.kind=R0.kind) (hsub:∀b∈dG,b∈α.fo (ak 0)) (hbad:∀b∈bad,b∈α.fo (ak 0)) {T:List Tag} (hT:Jt T) {b:Nat} (h:gW cx σ α [] w T b) :
  gW (uI cx bad) (aj σ (ak 0) R1) (aG α (ak 0) (α.loc (ak 0)) (α.hdr (ak 0)) dG) [] w T b:=by
 obtain ⟨g1,g2,g3,g4,g5⟩:=h
 refine ⟨g1,g2,fun hb=>g3 (Bw.1 hb),fun r R hr hb=>?_,fun hlt=>?_⟩
 ·rcases iR hr with ⟨rfl,rfl,_⟩ | ⟨e,hr'⟩
  ·rw [eD] at hb
   refine g4 _ R0 h1 ?_
   rw [bX]
   unfold gT at hb ⊢
   rw [hk] at hb
   rcases agl.1 hb with h | h
   ·exact agh _ h
   ·exact agd _ (hsub b h)
  ·exact absurd (h0 r R hr').1 e
 ·rcases g5 hlt with ⟨j,n,f1,f2⟩ | ⟨j,pi,f1,f2⟩
  ·exact .inl ⟨j,n,f1,f2⟩
  ·refine .inr ⟨j,{ pi with bl:=pi.bl.filter fun b=>!au b bad },by simp [uI,f1], ?_⟩
   refine agu.2 ⟨f2, ?_⟩
   cases hm:au b bad with
   | false=>rfl
   | true=>
    have hb:=hbad b (aJ.1 hm)
    obtain ⟨n,hn⟩:=g4 _ R0 h1 (by rw [bX]; exact agd _ hb)
    have:=hT _ hn
    rw [lS] at this
    simp at this
theorem Bt {σ:St} {tys:List TypeId} {T:List Tag} (h:Jt T):bq σ tys T=true:=lN.2 fun t ht=>.inl (h t ht)
structure wJ (cx:Cx) (σ:St) (α:dK) (R0 R1:Root) (dG bad:List Nat):Prop where
 only:∀r R,aO σ r R→r=ak 0∧R=R0
 lv:aO σ (ak 0) R0
 kind:R1.kind=R0.kind
 tags:R0.tags=[]
 sub:∀b∈dG,b∈α.fo (ak 0)
 bad:∀b∈bad,b∈α.fo (ak 0)
theorem wJ.gW {R0 R1:Root} {dG bad:List Nat} (L:wJ cx σ α R0 R1 dG bad) {T:List Tag} (hT:Jt T) {b:Nat} (h:Ow.gW cx σ α [] w T b) :
  Ow.gW (uI cx bad) (aj σ (ak 0) R1) (aG α (ak 0) (α.loc (ak 0)) (α.hdr (ak 0)) dG) [] w T b:=PG L.only L.lv L.kind L.sub L.bad hT h
theorem wJ.wh {R0 R1:Root} {dG bad:List Nat} (L:wJ cx σ α R0 R1 dG bad):dS (aG α (ak 0) (α.loc (ak 0)) (α.hdr (ak 0)) dG) R1 (ak 0)=dS α R0 (ak 0):=by
 rw [jg]
 unfold rZ dS
 rw [L.kind] <;> cases R0.kind <;> rfl
theorem wJ.av (fr':Fr) (hf:fr'.free=fr.free) {R0 R1:Root} {dG bad:List Nat} (L:wJ cx σ α R0 R1 dG bad) {x:sN} {v:Value} (hx:xO x) (h : @iM fr cx σ α [] w x v) :
  @iM fr' (uI cx bad) (aj σ (ak 0) R1) (aG α (ak 0) (α.loc (ak 0)) (α.hdr (ak 0)) dG) [] w x v:=by
 have hv0:bu σ R0:=⟨L.lv.2,by rw [L.tags]; rfl⟩
 cases x with
 | C8 l=>exact hx.elim
 | lit _ _ _=>exact hx.elim
 | one x=>
  cases x with
  | undef=>trivial
  | ptr r p n=>
   obtain ⟨rfl,rfl,rfl⟩:=hx
   refine ⟨h.1,fun R hR _ _ _ _=>?_⟩
   rw [aH] at hR
   have hR:=agN hR
   subst hR
   obtain ⟨_,cs,b,o,hn,e⟩:=h.2 R0 L.lv.1 hv0 (by unfold dW clean; simp [au]) (fun t ht=>by simp [aa] at ht) rfl
   simp only [bH,agb,agn] at hn
   refine ⟨trivial,α.hdr (ak 0),b,o, ?_,e⟩
   simp only [bH]
   rw [L.wh,hn.2]
   simp [aG,upd_same]
  | val k x T=>
   intro _
   obtain ⟨cs,h1,h2⟩:=h (.inr (Bt hx.2))
   exact ⟨cs,h1, @NG fr _ _ fr' hf _ _ _ hx.1 (@fO fr _ _ _ _ (fun _ _=>rfl) (fun b hb=>L.gW hx.2 hb) _ _ _ h2)⟩
  | fn f cs=>
   obtain ⟨vs,e,hc⟩:=h
   refine ⟨vs,e, ?_⟩
   clear e
   have key:∀(cs:List (TypeId×Dat×List Tag)) (vs:List Value),(∀c∈cs,xx c.2.1.1=true∧Jt c.2.2∧c.1=SENT)→@jC fr cx σ α [] w cs vs→@jC fr' (uI cx bad) (aj σ (ak 0) R1) (aG α (ak 0) (α.loc (ak 0)) (α.hdr (ak 0)) dG) [] w cs vs:=by
    intro cs
    induction cs with
    | nil=>intro vs _ h; cases vs <;> exact h
    | cons c cs ih=>
     intro vs hc h
     cases vs with
     | nil=>exact h
     | cons v vs=>
      obtain ⟨⟨h1,h2⟩,h3⟩:=h
      obtain ⟨g1,g2,g3⟩:=hc c (by simp)
      refine ⟨⟨h1,fun _=>?_⟩,ih vs (fun c hc'=>hc c (by simp [hc'])) h3⟩
      obtain ⟨b,o,ds,e,q1,q2,⟨q3,q4,q5⟩,_⟩:=h2 (Bt g2)
      refine ⟨b,o,ds,e,q1, @NG fr _ _ fr' hf _ _ _ g1 (@fO fr _ _ _ _ (fun _ _=>rfl) (fun b hb=>L.gW g2 hb) _ _ _ q2),⟨q3,q4,fun r R hr hb=>?_⟩, .inl ⟨g3,g2⟩⟩
      rcases iR hr with ⟨rfl,rfl,_⟩ | ⟨e,hr'⟩
      ·rw [eD] at hb
       refine q5 _ R0 L.lv ?_
       rw [bX]
       unfold gT at hb ⊢
       rw [L.kind] at hb
       rcases agl.1 hb with h | h
       ·exact agh _ h
       ·exact agd _ (L.sub b h)
      ·exact absurd (L.only r R hr').1 e
   exact key cs vs hx hc
  | _=>exact hx.elim
theorem JE:∀{dR:List DD},(dR.map (·.1)).Nodup→0∉dR.map (·.1)→(∀q∈dR,∃a n c,q.2.1=Value.slice a n c)→∃ig:Nat→Value,ig 0=.slice none 0 0∧(∀i,∃a n c,ig i=.slice a n c)∧∀q∈dR,ig q.1=q.2.1
 | [],_,_,_=>⟨fun _=>.slice none 0 0,rfl,fun _=>⟨none,0,0,rfl⟩,fun q hq=>by simp at hq⟩
 | q :: l,hn,h0,hs=>by
  rw [List.map_cons,agL] at hn
  rw [List.map_cons,agp,not_or] at h0
  obtain ⟨ig,g1,g2,g3⟩:=JE hn.2 h0.2 (fun q hq=>hs q (by simp [hq]))
  refine ⟨fun i=>if i=q.1 then q.2.1 else ig i,by simp only [if_neg h0.1]; exact g1,fun i=>?_,fun t ht=>?_⟩
  ·by_cases h:i=q.1
   ·simp only [if_pos h]; exact hs q (by simp)
   ·simp only [if_neg h]; exact g2 i
  ·rcases agp.1 ht with rfl | ht
   ·simp only [if_true]
   ·have hne:¬t.1=q.1:=fun e=>hn.1 (agO.2 ⟨t,ht,e⟩)
    simp only [if_neg hne]; exact g3 t ht
theorem K9 {h:Heap} {own:List TypeId} {ok:Nat→Prop} {xs:List (El kk)} {v:Value} {fo:List Nat} (he:au e own=true) (H:Ow h own ok (.sl e kk) xs [v] fo):∃a n c,v=.slice a n c:=by
 unfold Ow at H
 rw [if_pos he] at H
 obtain ⟨a,n,c,hv,_⟩:=H
 simp only [List.cons.injEq,and_true] at hv
 exact ⟨a,n,c,hv⟩
theorem MF (H:Rel cx σ α [] a w) (hw0:cx.w0=w) {R0:Root} (hR0:aO σ (ak 0) R0) (lD:∀r,r≠ak 0→σ.roots r=none) (hpar:R0.kind=.par) (oH:R0.tags=[]) (hown:∀t∈R0.k.tys,au t R0.own=true) (he:au e R0.own=true)
  (hsl:∀s,xO (σ.slots s)) {k':K} {x':El k'} {tb:Nat→List (El kk)} {ns:List Nat} (hR:Rw e kk false tb R0.k k' R0.x x' ns) (hnd:ns.Nodup) (hn0:0∉ns) (hown':∀t∈k'.tys,au t R0.own=true) :
  ∃(dR:List DD) (dG:List Nat) (ig:Nat→Value) (h0:ig 0=.slice none 0 0) (hs:∀i,∃a n c,ig i=.slice a n c),dR.map (·.1)=ns∧(α.fo (ak 0)).Perm (dG++aQ dR)∧
   (∀q∈dR, @Ow fr (hp w) R0.own (fun _=>False) (.sl e kk) (tb q.1) [q.2.1] q.2.2)∧(∀q∈dR,ig q.1=q.2.1)∧
   @Rel (gy fr ig h0 hs) (uI cx (aQ dR)) (aj σ (ak 0) { R0 with k:=k',x:=x' }) (aG α (ak 0) (α.loc (ak 0)) (α.hdr (ak 0)) dG) [] a w:=by
 have K:=H.roots _ R0 hR0
 have hv0:bu σ R0:=⟨hR0.2,by rw [oH]; rfl⟩
 have hO:Ow (hp w) R0.own (fun _=>False) R0.k R0.x (α.hdr (ak 0)) (α.fo (ak 0)):=fV (dA hown) (K.ow hv0)
 obtain ⟨dR,dG,g1,g2,g3,g4⟩:=F9 hown hR hO
 obtain ⟨ig,i1,i2,i3⟩:=JE (dR:=dR) (by rw [g1]; exact hnd) (by rw [g1]; exact hn0) (fun q hq=>K9 he (g3 q hq))
 refine ⟨dR,dG,ig,i1,i2,g1,g2,g3,i3, ?_⟩
 have hblk:blk α R0 (ak 0)=(α.loc (ak 0)).1 :: α.fo (ak 0):=by unfold blk dS; rw [hpar]; rfl
 have hsub:∀b∈dG,b∈α.fo (ak 0):=fun b hb=>g2.mem_iff.2 (agh _ hb)
 have hbad:∀b∈aQ dR,b∈α.fo (ak 0):=fun b hb=>g2.mem_iff.2 (agd _ hb)
 have L:wJ cx σ α R0 { R0 with k:=k',x:=x' } dG (aQ dR):=⟨fun r R hr=>by
  by_cases e:r=ak 0
  ·subst e; refine ⟨rfl, ?_⟩; have:=hr.1; rw [hR0.1] at this; exact (agN this).symm
  ·have:=hr.1; rw [lD r e] at this; simp at this,hR0,rfl,oH,hsub,hbad⟩
 have oQ:=K.nd
 rw [hblk] at oQ
 have yc:=agL.1 oQ
 have nV:=agj.1 (g2.nodup yc.2)
 have hlv:∀{q Q},aO (aj σ (ak 0) { R0 with k:=k',x:=x' }) q Q→q=ak 0∧Q={ R0 with k:=k',x:=x' }:=fun {q Q} hq=>by
  rcases iR hq with ⟨rfl,rfl,_⟩ | ⟨e,hq'⟩
  ·exact ⟨rfl,rfl⟩
  ·exact absurd (L.only q Q hq').1 e
 have hlv1:aO (aj σ (ak 0) { R0 with k:=k',x:=x' }) (ak 0) { R0 with k:=k',x:=x' }:=⟨aH ..,hR0.2⟩
 have hblk':blk (aG α (ak 0) (α.loc (ak 0)) (α.hdr (ak 0)) dG) { R0 with k:=k',x:=x' } (ak 0)=(α.loc (ak 0)).1 :: dG:=by
  rw [eD]; unfold gT; simp only [hpar]; rfl
 have jc:∀b∈(α.loc (ak 0)).1 :: dG,Ow.mine (uI cx (aQ dR)) w b:=fun b hb=>by
  have hb0:b∈blk α R0 (ak 0):=by
   rw [hblk]
   rcases agp.1 hb with h | h
   ·rw [h]; exact agK
   ·exact agB _ (hsub b h)
  obtain ⟨m1,m2⟩:=K.mine b hb0
  refine ⟨m1, ?_⟩
  rcases m2 with m2 | ⟨j,pi,m2,m3⟩
  ·exact .inl m2
  ·refine .inr ⟨j,{ pi with bl:=pi.bl.filter fun b=>!au b (aQ dR) },by simp [uI,m2],agu.2 ⟨m3, ?_⟩⟩
   have:au b (aQ dR)=false:=by
    rw [aT]
    intro hm
    rcases agp.1 hb with h | h
    ·subst h; exact yc.1 (hbad _ hm)
    ·exact nV.2.2 b h b hm rfl
   rw [this]; rfl
 have hpl:=H.lW
 refine @Rel.mk (gy fr ig i1 i2) _ _ _ _ _ _ H.defs H.sz ?_ ?_ ?_ ?_ ?_ ?_ ?_ (fun b hb=>by simp at hb) List.nodup_nil (fun r R hr b hb h=>by simp at h) ?_ ?_ ?_ (fun j p ts v h=>h.elim) (fun j v h=>h.elim)
 ·intro j yA b o n hj hb
  obtain ⟨pi,hj',rfl⟩:=lq hj
  obtain ⟨R,f1,f2,f3,f4⟩:=H.jV j pi b o n hj' hb
  obtain ⟨e1,rfl⟩:=L.only _ R f1
  rw [e1] at f3 ⊢
  exact ⟨_,hlv1,hpar,by simp [aG,upd_same,f3],by show k'.size=n; rw [hR.size]; exact f4⟩
 ·intro r R hr hk
  obtain ⟨rfl,rfl⟩:=hlv hr
  obtain ⟨j,pi,n,f1,f2,f3⟩:=H.yz _ R0 hR0 hpar
  exact ⟨j,{ pi with bl:=pi.bl.filter fun b=>!au b (aQ dR) },n,f1,by simp [uI,f2],by simp [aG,upd_same,f3]⟩
 ·intro s
  exact wJ.av (fr:=fr) (gy fr ig i1 i2) rfl L (hsl s) (H.slots s)
 ·intro s
  have hs:=hsl s
  show sQ _ (σ.slots s)
  cases hx:σ.slots s with
  | C8 l=>rw [hx] at hs; exact hs.elim
  | lit _ _ _=>rw [hx] at hs; exact hs.elim
  | one x=>
   rw [hx] at hs
   cases x with
   | undef=>trivial
   | ptr r p n=>obtain ⟨rfl,rfl,rfl⟩:=hs; exact ⟨_,aH .., .inr (agM _)⟩
   | val k x T=>exact fun t ht=>.inl (hs.2 t ht)
   | fn f cs=>exact fun c hc t ht=>.inl ((hs c hc).2.1 t ht)
   | _=>exact hs.elim
 ·intro r R hr
  obtain ⟨rfl,rfl⟩:=hlv hr
  refine @qA.mk (gy fr ig i1 i2) _ _ _ _ _ _ _ (fun _=>?_) ?_ ?_ ?_ ?_
  ·have e1:(aG α (ak 0) (α.loc (ak 0)) (α.hdr (ak 0)) dG).hdr (ak 0)=α.hdr (ak 0):=by simp [aG,upd_same]
   have e2:(aG α (ak 0) (α.loc (ak 0)) (α.hdr (ak 0)) dG).fo (ak 0)=dG:=by simp [aG,upd_same]
   rw [e1,e2]
   exact @fV (gy fr ig i1 i2) _ _ _ _ _ _ _ _ (dA hown') (g4 (gy fr ig i1 i2) rfl i3)
  ·show ((aG α (ak 0) (α.loc (ak 0)) (α.hdr (ak 0)) dG).hdr (ak 0)).length=k'.size
   rw [hR.size]
   simpa [aG,upd_same] using K.len
  ·intro b o hb
   rw [L.wh] at hb
   obtain ⟨m1,arr,e',lo,hi,m2,m3,m4,m5⟩:=K.mem b o hb
   refine ⟨by simpa [aG,upd_same] using m1,arr,e',lo,hi,m2,m3,by show o+k'.size≤_; rw [hR.size]; exact m4,m5⟩
  ·rw [hblk']
   exact agL.2 ⟨fun h=>yc.1 (hsub _ h),nV.1⟩
  ·intro b hb
   rw [hblk'] at hb
   exact jc b hb
 ·intro r R hr
  by_cases e:r=ak 0
  ·subst e
   rw [aH] at hr
   have hr:=agN hr
   subst hr
   exact ⟨fun t ht=>by rw [show ({ R0 with k:=k',x:=x' }:Root).tags=R0.tags from rfl,oH] at ht; simp at ht,lS 0,fun n hn=>by rw [show ({ R0 with k:=k',x:=x' }:Root).tags=R0.tags from rfl,oH] at hn; simp at hn⟩
  ·rw [bW _ _ e,lD r e] at hr; simp at hr
 ·intro r R r' R' hr hr' hne
  exact absurd ((hlv hr).1.trans (hlv hr').1.symm) hne
 ·obtain ⟨f1,f2,f3,f4,f5,f6⟩:=H.frame
  refine ⟨f1,f2,f3,f4,fun b _ _=>by show hp w b=hp cx.w0 b; rw [hw0],fun j yA b o n hj hb=>?_⟩
  obtain ⟨pi,hj',rfl⟩:=lq hj
  exact f6 j pi b o n hj' hb
 ·intro j yA hj hkp
  obtain ⟨pi,hj',rfl⟩:=lq hj
  obtain ⟨R,f1,f2⟩:=H.ql j pi hj' hkp
  by_cases e:ak j=ak 0
  ·refine ⟨_,by rw [e]; exact aH ..,fun _ b hb hnb=>.inr ⟨by show hp w b=hp cx.w0 b; rw [hw0],by simp,fun q Q hq _=>by rw [(hlv hq).1,e]⟩⟩
  ·rw [lD _ e] at f1; simp at f1
 ·refine ⟨fun j yA hj b hb=>?_,fun b hb=>⟨?_,fun j yA hj hbl=>?_⟩,fun b hb=>hpl.2.2 b hb⟩
  ·obtain ⟨pi,hj',rfl⟩:=lq hj
   exact hpl.1 j pi hj' b (agu.1 hb).1
  ·exact (hpl.2.1 b hb).1
  ·obtain ⟨pi,hj',rfl⟩:=lq hj
   exact (hpl.2.1 b hb).2 j pi hj' (agu.1 hbl).1
theorem Aw {h:Heap} {own own':List TypeId} {ok:Nat→Prop}:∀{k:K} {x:El k} {cs:List Value} {fo:List Nat},(∀t∈k.tys,au t own=au t own')→Ow h own ok k x cs fo→Ow h own' ok k x cs fo:=by
 intro k
 induction k with
 | sl f k ih=>
  intro x cs fo ht H
  have hf:=ht f (by simp [K.tys])
  unfold Ow at H ⊢
  cases hm:au f own with
  | true=>
   rw [if_pos hm] at H
   rw [if_pos (by rw [←hf]; exact hm)]
   obtain ⟨a,n,c,e1,e2,e3,H⟩:=H
   refine ⟨a,n,c,e1,e2,e3, ?_⟩
   rcases H with H | ⟨b,o,arr,lo,hi,ea,hb,hz,hs,bC,hl,hp,H⟩
   ·exact .inl H
   ·refine .inr ⟨b,o,arr,lo,hi,ea,hb,hz,hs,bC,hl,hp,fun i hi=>?_⟩
    obtain ⟨ds,h1,h2⟩:=H i hi
    exact ⟨ds,h1,ih (fun t h=>ht t (by simp [K.tys,h])) h2⟩
  | false=>
   rw [if_neg (by rw [hm]; simp)] at H
   rw [if_neg (by rw [←hf,hm]; simp)]
   exact H
 | pair a b iha ihb=>
  intro x cs fo ht H
  obtain ⟨c1,c2,f1,f2,e,hp,h1,h2⟩:=H
  exact ⟨c1,c2,f1,f2,e,hp,iha (fun t h=>ht t (by simp [K.tys,h])) h1,ihb (fun t h=>ht t (by simp [K.tys,h])) h2⟩
 | st f ih=>intro x cs fo ht H; exact ih (x:=x) ht H
 | int ik=>intro x cs fo _ H; exact H
 | bool=>intro x cs fo _ H; exact H
 | id e=>intro x cs fo _ H; exact H
 | str=>intro x cs fo _ H; exact H
 | unit=>intro x cs fo _ H; exact H
 | gap n=>intro x cs fo _ H; exact H
theorem Xk {z:Bool} {tb:Nat→List (El kk)} {k k':K} {x:El k} {y:El k'} {ns:List Nat} {v:Value} {cs:List Value} (hR:Rw e kk z tb k k' x y ns) (h:VC k' v cs):VC k v cs:=by
 cases k <;> cases k' <;> first | exact hR.elim | exact h
def Xi (e:TypeId) (kk:K) (tb:Nat→List (El kk)):(rs rs':List uw)→Cont (gV rs)→Cont (gV rs')→List Nat→Prop
 | [],[],_,_,ns=>ns=[]
 | .val k _ _ :: rs, .val k' _ _ :: rs',c,c',ns=>(∃h:k=k',k.flat=true∧xx k=true∧h▸c.1=c'.1)∧Xi e kk tb rs rs' c.2 c'.2 ns
 | .own k ow _ _ :: rs, .own k' ow' _ _ :: rs',c,c',ns=>∃n1 n2,ns=n1++n2∧((k.tys.all fun t=>au t ow)=true∧(k'.tys.all fun t=>au t ow')=true∧Rw e kk true tb k k' c.1 c'.1 n1)∧Xi e kk tb rs rs' c.2 c'.2 n2
 | _,_,_,_,_=>False
theorem select {dR:List DD}:∀{ns:List Nat},(∀n∈ns,n∈dR.map (·.1))→∃l:List DD,l.map (·.1)=ns∧∀q∈l,q∈dR
 | [],_=>⟨[],rfl,fun q hq=>by simp at hq⟩
 | n :: ns,h=>by
  obtain ⟨l,h1,h2⟩:=select (ns:=ns) (fun n hn=>h n (by simp [hn]))
  obtain ⟨q,hq,e⟩:=agO.1 (h n (by simp))
  exact ⟨q :: l,by simp [h1,e],fun t ht=>by
   rcases agp.1 ht with rfl | ht
   ·exact hq
   ·exact h2 t ht⟩
theorem zn:∀{dR:List DD},(aQ dR).Nodup→(dR.map (·.1)).Nodup→∀q∈dR,q.2.2.Nodup∧∀q'∈dR,q.1≠q'.1→∀b∈q.2.2,b∉q'.2.2
 | [],_,_,q,hq=>by simp at hq
 | t :: l,hn,hm,q,hq=>by
  have e:aQ (t :: l)=t.2.2++aQ l:=rfl
  rw [e] at hn
  obtain ⟨n1,n2,n3⟩:=agj.1 hn
  rw [List.map_cons,agL] at hm
  have hin:∀q∈l,∀b∈q.2.2,b∈aQ l:=fun q hq b hb=>agP.2 ⟨q,hq,hb⟩
  rcases agp.1 hq with rfl | Zh
  ·refine ⟨n1,fun q' hq' hne b hb hb'=>?_⟩
   rcases agp.1 hq' with rfl | hq'
   ·exact hne rfl
   ·exact n3 b hb b (hin q' hq' b hb') rfl
  ·obtain ⟨g1,g2⟩:=zn n2 hm.2 q Zh
   refine ⟨g1,fun q' hq' hne b hb hb'=>?_⟩
   rcases agp.1 hq' with rfl | hq'
   ·exact n3 b hb' b (hin q Zh b hb) rfl
   ·exact g2 q' hq' hne b hb hb'
theorem zo {dR:List DD} (hn:(aQ dR).Nodup) (hm:(dR.map (·.1)).Nodup):∀{l:List DD},(∀q∈l,q∈dR)→(l.map (·.1)).Nodup→(aQ l).Nodup
 | [],_,_=>List.nodup_nil
 | t :: l,hs,hl=>by
  have e:aQ (t :: l)=t.2.2++aQ l:=rfl
  rw [e]
  rw [List.map_cons,agL] at hl
  refine agj.2 ⟨(zn hn hm t (hs t (by simp))).1,zo hn hm (fun q hq=>hs q (by simp [hq])) hl.2,fun b hb c hc Uh=>?_⟩
  subst Uh
  obtain ⟨q,hq,hb'⟩:=agP.1 hc
  exact (zn hn hm t (hs t (by simp))).2 q (hs q (by simp [hq])) (fun e=>hl.1 (agO.2 ⟨q,hq,e.symm⟩)) b hb hb'
theorem Ph (fr':Fr) (hf:fr'.free=fr.free) {cx':Cx} {σ':St} {α':dK} {F':List Nat} {w':World} {tb:Nat→List (El kk)} {O:List TypeId} (hO:∀t∈(K.sl e kk).tys,au t O=true)  :
  ∀{rs rs':List uw} {c:Cont (gV rs)} {c':Cont (gV rs')} {vs:List Value} {bC:List (List Nat)} {dR:List DD},Xi e kk tb rs rs' c c' (dR.map (·.1))→@AY fr' cx' σ' α' F' w' rs' c' vs bC→
   (∀q∈dR, @Ow fr (hp w') O (fun _=>False) (.sl e kk) (tb q.1) [q.2.1] q.2.2∧fr'.ig q.1=q.2.1)→
   ∃Md,(∀σ1 dJ F1, @AY fr cx σ1 dJ F1 w' rs c vs Md)∧Md.flatten.Perm (bC.flatten++aQ dR):=by
 intro rs
 induction rs with
 | nil=>
  intro rs' c c' vs bC dR hR hL htr
  cases rs' with
  | cons _ _=>exact hR.elim
  | nil=>
   have ht:dR=[]:=by simpa using (show dR.map (·.1)=[] from hR)
   subst ht
   cases vs with
   | cons _ _=>exact hL.elim
   | nil=>cases bC with
    | cons _ _=>exact hL.elim
    | nil=>exact ⟨[],fun _ _ _=>trivial, .refl _⟩
 | cons r rs ih=>
  intro rs' c c' vs bC dR hR hL htr
  cases rs' with
  | nil=>cases r <;> exact hR.elim
  | cons r' rs'=>
   cases r with
   | into _ _=>exact hR.elim
   | ptr _ _ _ _=>exact hR.elim
   | val k ex pr=>
    cases r' with
    | val k' ex' pr'=>
     obtain ⟨⟨hk,h1,h2,h3⟩,hR⟩:=hR
     subst hk
     cases vs with
     | nil=>exact hL.elim
     | cons v vs=>
      cases bC with
      | nil=>exact hL.elim
      | cons fo bC=>
       obtain ⟨⟨rfl,T,cs,g1,g2,g3⟩,hL⟩:=hL
       obtain ⟨Md,q1,q2⟩:=ih hR hL htr
       refine ⟨[] :: Md,fun σ1 dJ F1=>⟨⟨rfl,[],cs, .inl h1,g2, ?_⟩,q1 σ1 dJ F1⟩,by simpa using q2⟩
       have h3:c.1=c'.1:=h3
       rw [h3]
       exact @iG fr _ _ _ _ _ _ _ h1 (@NG fr' _ _ fr hf.symm _ _ _ h2 g3)
    | _=>exact hR.elim
   | own k ow ex pr=>
    cases r' with
    | own k' ow' ex' pr'=>
     obtain ⟨n1,n2,hns,⟨a1,a2,a3⟩,hR⟩:=hR
     rw [List.map_eq_append_iff] at hns
     obtain ⟨t1,t2,rfl,rfl,rfl⟩:=hns
     cases vs with
     | nil=>exact hL.elim
     | cons v vs=>
      cases bC with
      | nil=>exact hL.elim
      | cons fo bC=>
       obtain ⟨⟨T,cs,ads,g1,g2,g3,g4⟩,hL⟩:=hL
       obtain ⟨Md,q1,q2⟩:=ih hR hL (fun q hq=>htr q (agd _ hq))
       have hk':∀t∈k'.tys,au t ads=true:=fun t ht=>g2 t ht (ags.1 a2 t ht)
       let O2:List TypeId:=O++k.tys++k'.tys
       have m1:∀t∈k.tys,au t O2=true:=fun t ht=>aJ.2 (agh _ (agd _ ht))
       have m2:∀t∈k'.tys,au t O2=true:=fun t ht=>aJ.2 (agd _ ht)
       have m3:∀t∈(K.sl e kk).tys,au t O2=true:=fun t ht=>aJ.2 (agh _ (agh _ (aJ.1 (hO t ht))))
       have g5 : @Ow fr' (hp w') O2 (fun _=>False) k' c'.1 cs fo:=@fV fr' _ _ _ _ _ _ _ _ (dA m2) (@Aw fr' _ _ _ _ _ _ _ _ (fun t ht=>by rw [hk' t ht,m2 t ht]) g4)
       have g6:=EG (fr:=fr) fr' m1 a3 g5 (fun q hq=>by
        obtain ⟨f1,f2⟩:=htr q (agh _ hq)
        exact ⟨@Aw fr _ _ _ _ _ _ _ _ (fun t ht=>by rw [hO t ht,m3 t ht]) f1,f2⟩)
       refine ⟨(fo++aQ t1) :: Md,fun σ1 dJ F1=>⟨⟨[],cs,O2, .inl a1,fun t ht _=>m1 t ht,Xk a3 g3, @fV fr _ _ _ _ _ _ _ _ (dA m1) g6⟩,q1 σ1 dJ F1⟩, ?_⟩
       simp only [List.flatten_cons]
       have et:aQ (t1++t2)=aQ t1++aQ t2:=by simp [aQ]
       rw [et]
       refine (q2.append_left (fo++aQ t1)).trans ?_
       simp only [agy]
       refine List.Perm.append_left fo ?_
       rw [←agy, ←agy]
       exact List.Perm.append_right _ List.perm_append_comm
    | _=>exact hR.elim
end
end
end
section
open Go
section
variable {e:TypeId} {kk:K} [fr:Fr]
variable {cx:Cx} {σ:St} {α:dK} {a:Act} {w:World}
def lu (k:K) (x:El k) (ow wt ht:List TypeId):Root:={ k,x,own:=ow,tags:=[],w:=wt,h:=ht,g:=0,kind:=.par,fixed:=false,keep:=true,ew:=[],eh:=ht }
def vD (R:Root):St:=⟨fun _=>.one .undef,fun r=>bif Nat.beq r (ak 0) then some R else none⟩
def wX (loc:Nat×Nat) (hdr:List Value) (fo:List Nat):dK:=⟨fun _=>loc,fun _=>hdr,fun _=>fo⟩
theorem nI {R:Root} {r:Nat} {Q:Root} (h:(vD R).roots r=some Q):r=ak 0∧Q=R:=by
 unfold vD at h
 simp only at h
 cases hb:Nat.beq r (ak 0) with
 | true=>rw [hb] at h; exact ⟨agf hb,(agN h).symm⟩
 | false=>rw [hb] at h; simp at h
theorem qd {R:Root}:(vD R).roots (ak 0)=some R:=by simp [vD]
theorem Pg (H:Rel cx σ α [] a w) (hw0:cx.w0=w) {R0:Root} (hR0:aO σ (ak 0) R0) (lD:∀r,r≠ak 0→σ.roots r=none) (hpar:R0.kind=.par) (hg0:R0.g=0) (hv0:bu σ R0)
  (hown:∀t∈R0.k.tys,au t R0.own=true) {k':K} (hown':∀t∈k'.tys,au t R0.own=true) (KE:∀t∈(K.sl e kk).tys,au t R0.own=true)
  {tb:Nat→List (El kk)} {dR:List DD} {dG:List Nat} {ig:Nat→Value} {h0:ig 0=.slice none 0 0} {hs:∀i,∃a n c,ig i=.slice a n c}
  (hperm:(α.fo (ak 0)).Perm (dG++aQ dR)) (hnd:(dR.map (·.1)).Nodup) (hrow:∀q∈dR, @Ow fr (hp w) R0.own (fun _=>False) (.sl e kk) (tb q.1) [q.2.1] q.2.2) (hid:∀q∈dR,ig q.1=q.2.1)
  {σ1:St} {dJ:dK} {F1:List Nat} {a1:Act} {w':World} (H1 : @Rel (gy fr ig h0 hs) (uI cx (aQ dR)) σ1 dJ F1 a1 w') {Q:Root} (hQ:σ1.roots (ak 0)=some Q) (Uo:bu σ1 Q) (Vn:Q.k=k') (hQo:∀t∈k'.tys,au t Q.own=true)
  {wt ht:List TypeId} (hwt:kF Q.w wt=true∧kF Q.ew wt=true) (hwk:∀t∈(K.sl e kk).tys,t∈wt) (OB:nD∈ht)
  {y:El R0.k} {nL:List DD} (hP:Rw e kk true tb R0.k Q.k y Q.x (nL.map (·.1))) (Q7:∀q∈nL,q∈dR)
  {rs rs':List uw} {c:Cont (gV rs)} {c':Cont (gV rs')} {vs:List Value} {bC:List (List Nat)} {zq:List DD} (hRs:∀q∈zq,q∈dR) (hRR:Xi e kk tb rs rs' c c' (zq.map (·.1)))
  (hL : @AY (gy fr ig h0 hs) (uI cx (aQ dR)) σ1 dJ F1 w' rs' c' vs bC) (hfn:bC.flatten.Nodup) (IC:∀b∈bC.flatten,b∈F1) (hall:((zq++nL).map (·.1)).Nodup)
  (y8:∀j p ts v,cx.ptrs j p ts v→∃k,ts=dW p k) :
  ∃uU BS,Rel cx (vD (lu R0.k y R0.own wt ht)) uU BS.flatten a1 w'∧AY cx (vD (lu R0.k y R0.own wt ht)) uU BS.flatten w' rs c vs BS∧BS.flatten.Nodup:=by
 have K0:=H.roots _ R0 hR0
 have hlv1:aO σ1 (ak 0) Q:=⟨hQ,Uo.1⟩
 have K1:=@Rel.roots (gy fr ig h0 hs) _ _ _ _ _ _ H1 _ Q hlv1
 have TH:=@qA.ow (gy fr ig h0 hs) _ _ _ _ _ _ _ K1
 have Nu:=@qA.len (gy fr ig h0 hs) _ _ _ _ _ _ _ K1
 have WJ:=@qA.mem (gy fr ig h0 hs) _ _ _ _ _ _ _ K1
 have TG:=@qA.nd (gy fr ig h0 hs) _ _ _ _ _ _ _ K1
 have IK:=@qA.mine (gy fr ig h0 hs) _ _ _ _ _ _ _ K1
 have JD:∀r R,aO σ r R→r=ak 0∧R=R0:=fun r R hr=>by
  by_cases e:r=ak 0
  ·subst e; refine ⟨rfl, ?_⟩; have:=hr.1; rw [hR0.1] at this; exact (agN this).symm
  ·have:=hr.1; rw [lD r e] at this; simp at this
 obtain ⟨j0,pi0,n0,p1,p2,p3⟩:=H.yz _ R0 hR0 hpar
 obtain ⟨Q',q1,q2,q3,q4⟩:=@Rel.jV (gy fr ig h0 hs) _ _ _ _ _ _ H1 j0 { pi0 with bl:=pi0.bl.filter fun b=>!au b (aQ dR) } (α.loc (ak 0)).1 (α.loc (ak 0)).2 n0 (by simp [uI,p2]) p3
 rw [←p1] at q1 q3
 have eQ:Q'=Q:=by have:=q1.1; rw [hQ] at this; exact (agN this).symm
 subst eQ
 have GX:blk α R0 (ak 0)=(α.loc (ak 0)).1 :: α.fo (ak 0):=by unfold blk dS; rw [hpar]; rfl
 have hblk1:blk dJ Q' (ak 0)=(α.loc (ak 0)).1 :: dJ.fo (ak 0):=by unfold blk dS; rw [q2]; simp [q3]
 have hsize:w.heap.size≤w'.heap.size:=by have:=(@Rel.frame (gy fr ig h0 hs) _ _ _ _ _ _ H1).2.2.2.1; simpa [uI,hw0] using this
 have oQ:=K0.nd
 rw [GX] at oQ
 have yc:=agL.1 oQ
 have nV:=agj.1 (hperm.nodup yc.2)
 have hbad:∀b∈aQ dR,b∈α.fo (ak 0):=fun b hb=>hperm.mem_iff.2 (agd _ hb)
 have Ca:∀b∈aQ dR,b∈blk α R0 (ak 0):=fun b hb=>by rw [GX]; exact agB _ (hbad b hb)
 have hno:∀b∈aQ dR,¬Ow.mine (uI cx (aQ dR)) w' b:=fun b hb hm=>by
  have hlt:=(K0.mine b (Ca b hb)).1
  rcases hm.2 with h | ⟨j,yA,h1,h2⟩
  ·have:w.heap.size≤b:=by simpa [uI,hw0] using h
   omega
  ·obtain ⟨pi,_,rfl⟩:=lq h1
   have:=(agu.1 h2).2
   rw [aJ.2 hb] at this
   simp at this
 have hsame:∀b∈aQ dR,hp w' b=hp w b:=fun b hb=>by
  have hlt:=(K0.mine b (Ca b hb)).1
  have:=(@Rel.frame (gy fr ig h0 hs) _ _ _ _ _ _ H1).2.2.2.2.1 b (by simpa [uI,hw0] using hlt) (fun j yA h1 h2=>by
   obtain ⟨pi,_,rfl⟩:=lq h1
   have:=(agu.1 h2).2
   rw [aJ.2 hb] at this
   simp at this)
  simpa [uI,hw0] using this
 have hrow':∀q∈dR, @Ow fr (hp w') R0.own (fun _=>False) (.sl e kk) (tb q.1) [q.2.1] q.2.2:=fun q hq=>
  bz (fun _ h=>h.elim) (fun _ h=>h) (fun b hb=>hsame b (agP.2 ⟨q,hq,hb⟩)) (hrow q hq)
 obtain ⟨BS,r1,r2⟩:=Ph (fr:=fr) (cx:=cx) (gy fr ig h0 hs) rfl KE hRR hL (fun q hq=>⟨hrow' q (hRs q hq),hid q (hRs q hq)⟩)
 have KM:∀b∈aQ zq,b∈aQ dR:=fun b hb=>by
  obtain ⟨q,hq,h⟩:=agP.1 hb
  exact agP.2 ⟨q,hRs q hq,h⟩
 have Cj:∀b∈aQ nL,b∈aQ dR:=fun b hb=>by
  obtain ⟨q,hq,h⟩:=agP.1 hb
  exact agP.2 ⟨q,Q7 q hq,h⟩
 have hsel:(aQ zq++aQ nL).Nodup:=by
  have:=zo nV.2.1 hnd (l:=zq++nL) (fun q hq=>(agl.1 hq).elim (hRs q) (Q7 q)) hall
  have e:aQ (zq++nL)=aQ zq++aQ nL:=by simp [aQ]
  rwa [e] at this
 obtain ⟨hnR,hnP,Xy⟩:=agj.1 hsel
 have Zf:∀b∈F1,Ow.mine (uI cx (aQ dR)) w' b:=@Rel.fl (gy fr ig h0 hs) _ _ _ _ _ _ H1
 have Sk:∀b∈(α.loc (ak 0)).1 :: dJ.fo (ak 0),Ow.mine (uI cx (aQ dR)) w' b:=fun b hb=>IK b (by rw [hblk1]; exact hb)
 have OI:∀b,Ow.mine (uI cx (aQ dR)) w' b→Ow.mine cx w' b:=fun b hb=>⟨hb.1,hb.2.imp (fun h=>h) (fun ⟨j,yA,h1,h2⟩=>by
  obtain ⟨pi,h3,rfl⟩:=lq h1
  exact ⟨j,pi,h3,(agu.1 h2).1⟩)⟩
 have KG:∀b∈aQ dR,Ow.mine cx w' b:=fun b hb=>by
  obtain ⟨m1,m2⟩:=K0.mine b (Ca b hb)
  exact ⟨by omega,m2⟩
 have X4:BS.flatten.Nodup:=r2.nodup_iff.2 (agj.2 ⟨hfn,hnR,fun b hb c hc Uh=>by subst Uh; exact hno b (KM b hc) (Zf b (IC b hb))⟩)
 have Xw:∀b∈BS.flatten,b∈bC.flatten∨b∈aQ zq:=fun b hb=>agl.1 (r2.mem_iff.1 hb)
 refine ⟨wX (α.loc (ak 0)) (dJ.hdr (ak 0)) (dJ.fo (ak 0)++aQ nL),BS, ?_,r1 _ _ _,X4⟩
 have y7:∀{r R},aO (vD (lu R0.k y R0.own wt ht)) r R→r=ak 0∧R=lu R0.k y R0.own wt ht:=fun h=>nI h.1
 have DZ:blk (wX (α.loc (ak 0)) (dJ.hdr (ak 0)) (dJ.fo (ak 0)++aQ nL)) (lu R0.k y R0.own wt ht) (ak 0)=(α.loc (ak 0)).1 :: (dJ.fo (ak 0)++aQ nL):=rfl
 have GY:=TG
 rw [hblk1] at GY
 have X3:=agL.1 GY
 have hf1:=@Rel.frame (gy fr ig h0 hs) _ _ _ _ _ _ H1
 have hfd1:=@Rel.iD (gy fr ig h0 hs) _ _ _ _ _ _ H1
 have uN:∀b o,dS (wX (α.loc (ak 0)) (dJ.hdr (ak 0)) (dJ.fo (ak 0)++aQ nL)) (lu R0.k y R0.own wt ht) (ak 0)=some (b,o)→α.loc (ak 0)=(b,o):=fun b o h=>agN h
 have Ro:R0.k.size=Q'.k.size:=hP.size.symm
 have OO:∀j p ts v,cx.ptrs j p ts v→ak j=ak 0:=fun j p ts v h=>by
  obtain ⟨_,R,f1,_⟩:=H.rE j p ts v h
  refine agz fun e=>?_
  rw [lD _ e] at f1
  simp at f1
 have hdf:=@Rel.defs (gy fr ig h0 hs) _ _ _ _ _ _ H1
 have hsz0:=@Rel.sz (gy fr ig h0 hs) _ _ _ _ _ _ H1
 have hsz1:cx.nt≤a1.tmps.size:=hsz0
 have UC:=@Rel.ql (gy fr ig h0 hs) _ _ _ _ _ _ H1
 refine ⟨hdf,hsz1, ?_, ?_,fun s=>trivial,fun s=>trivial, ?_, ?_, ?_, ?_,X4, ?_, ?_, ?_, ?_, ?_, ?_⟩
 ·intro j pi b o n hj hb
  obtain ⟨R,f1,f2,f3,f4⟩:=H.jV j pi b o n hj hb
  obtain ⟨e1,rfl⟩:=JD _ R f1
  rw [e1] at f3 ⊢
  exact ⟨_,⟨qd,rfl⟩,rfl,f3,f4⟩
 ·intro r R hr _
  obtain ⟨rfl,rfl⟩:=y7 hr
  exact ⟨j0,pi0,n0,p1,p2,p3⟩
 ·intro r R hr
  obtain ⟨rfl,rfl⟩:=y7 hr
  refine ⟨fun _=>?_,by show (dJ.hdr (ak 0)).length=R0.k.size; rw [Nu,Ro],fun b o hb=>?_, ?_,fun b hb=>?_⟩
  ·have o1 : @Ow (gy fr ig h0 hs) (hp w') R0.own (fun _=>False) Q'.k Q'.x (dJ.hdr (ak 0)) (dJ.fo (ak 0)):=by
    have hk1:∀t∈Q'.k.tys,au t Q'.own=true:=fun t ht=>hQo t (by rw [←Vn]; exact ht)
    have hk2:∀t∈Q'.k.tys,au t R0.own=true:=fun t ht=>hown' t (by rw [←Vn]; exact ht)
    exact @fV (gy fr ig h0 hs) _ _ _ _ _ _ _ _ (dA hk2) (@Aw (gy fr ig h0 hs) _ _ _ _ _ _ _ _ (fun t ht=>by rw [hk1 t ht,hk2 t ht]) (TH Uo))
   have o2:=EG (fr:=fr) (gy fr ig h0 hs) hown hP o1 (fun q hq=>⟨hrow' q (Q7 q hq),hid q (Q7 q hq)⟩)
   exact fV (dA hown) o2
  ·have hbo:=uN b o hb
   obtain ⟨m1,arr,e',lo,hi,m2,m3,m4,m5⟩:=WJ b o (by unfold dS; rw [q2]; simp [q3,hbo])
   exact ⟨m1,arr,e',lo,hi,m2,m3,by show o+R0.k.size≤_; rw [Ro]; exact m4,fun t ht=>by simp [lu] at ht⟩
  ·rw [DZ]
   refine agL.2 ⟨fun h=>?_,agj.2 ⟨X3.2,hnP,fun b hb c hc Uh=>by subst Uh; exact hno b (Cj b hc) (Sk b (agB _ hb))⟩⟩
   rcases agl.1 h with h | h
   ·exact X3.1 h
   ·exact hno _ (Cj _ h) (Sk _ agK)
  ·rw [DZ] at hb
   rcases agp.1 hb with h | h
   ·exact OI b (Sk b (by rw [h]; exact agK))
   ·rcases agl.1 h with h | h
    ·exact OI b (Sk b (agB _ h))
    ·exact KG b (Cj b h)
 ·intro r R hr
  obtain ⟨rfl,rfl⟩:=nI hr
  exact ⟨fun t ht=>by simp [lu] at ht,lS 0,fun n hn=>by simp [lu] at hn⟩
 ·intro r R r' R' hr hr' hne
  exact absurd ((y7 hr).1.trans (y7 hr').1.symm) hne
 ·intro b hb
  rcases Xw b hb with h | h
  ·exact OI b (Zf b (IC b h))
  ·exact KG b (KM b h)
 ·intro r R hr b hb Ah
  obtain ⟨rfl,rfl⟩:=y7 hr
  rw [DZ] at hb
  have hc1:b∈(α.loc (ak 0)).1 :: dJ.fo (ak 0)∨b∈aQ nL:=by
   rcases agp.1 hb with h | h
   ·exact .inl (by rw [h]; exact agK)
   ·exact (agl.1 h).imp (fun h=>agB _ h) id
  rcases hc1 with h | h
  ·rcases Xw b Ah with g | g
   ·exact hfd1 _ Q' hlv1 b (by rw [hblk1]; exact h) (IC b g)
   ·exact hno b (KM b g) (Sk b h)
  ·rcases Xw b Ah with g | g
   ·exact hno b (Cj b h) (Zf b (IC b g))
   ·exact Xy b g b h rfl
 ·obtain ⟨f1,f2,f3,f4,f5,f6⟩:=hf1
  refine ⟨f1,f2,f3,f4,fun b hb hnb=>f5 b hb (fun j yA h1 h2=>?_),fun j pi b o n hj hb=>?_⟩
  ·obtain ⟨pi,h3,rfl⟩:=lq h1
   exact hnb j pi h3 (agu.1 h2).1
  ·exact f6 j { pi with bl:=pi.bl.filter fun b=>!au b (aQ dR) } b o n (by simp [uI,hj]) hb
 ·intro j pi hj hkp
  obtain ⟨R,f1,_⟩:=H.ql j pi hj hkp
  have ej:ak j=ak 0:=agz fun ne=>by rw [lD _ ne] at f1; simp at f1
  refine ⟨lu R0.k y R0.own wt ht,by rw [ej]; exact qd,fun _ b hb hnb=>?_⟩
  have hone:∀q Q,aO (vD (lu R0.k y R0.own wt ht)) q Q→b∈blk (wX (α.loc (ak 0)) (dJ.hdr (ak 0)) (dJ.fo (ak 0)++aQ nL)) Q q→q=ak j:=fun q Q hq _=>by rw [(y7 hq).1,ej]
  by_cases hbt:b∈aQ dR
  ·by_cases hbR:b∈aQ zq
   ·obtain ⟨q,hq,h⟩:=agP.1 hbR
    obtain ⟨t,t1,_,t3⟩:=qb (hrow q (hRs q hq)) b h
    exact .inl ⟨t,by rw [hw0]; exact t3, .inl (hwk t t1)⟩
   ·refine .inr ⟨by rw [hw0]; exact hsame b hbt,fun hF=>?_,hone⟩
    rcases Xw b hF with g | g
    ·exact hno b hbt (Zf b (IC b g))
    ·exact hbR g
  ·obtain ⟨R1,k1,k2⟩:=UC j { pi with bl:=pi.bl.filter fun b=>!au b (aQ dR) } (by simp [uI,hj]) hkp
   have eR:R1=Q':=by rw [ej,hQ] at k1; exact (agN k1).symm
   subst eR
   rcases k2 Uo.1 b (agu.2 ⟨hb,by rw [aT.2 hbt]; rfl⟩) (fun h=>hnb (Bw.1 h)) with ⟨t,t1,t2⟩ | ⟨t1,t2,_⟩
   ·exact .inl ⟨t,t1, .inl (t2.elim (jf.1 hwt.1 t) (jf.1 hwt.2 t))⟩
   ·refine .inr ⟨t1,fun hF=>?_,hone⟩
    rcases Xw b hF with g | g
    ·exact t2 (IC b g)
    ·exact hbt (KM b g)
 ·refine ⟨fun j pi hj b hb=>H.lW.1 j pi hj b hb,fun b hb=>H.lW.2.1 b hb,fun b hb=>H.lW.2.2 b hb⟩
 ·intro j p ts v hv
  have ej:=OO j p ts v hv
  obtain ⟨g1,R,f1,f2⟩:=H.rE j p ts v hv
  obtain ⟨k0,rfl⟩:=y8 j p ts v hv
  refine ⟨g1,lu R0.k y R0.own wt ht,by rw [ej]; exact qd,fun hts=>?_⟩
  cases p with
  | cons s p=>exact absurd OB (hts nD (by simp [dW]))
  | nil=>
   refine ⟨g1,fun R' hR' _ _ _ _=>?_⟩
   rw [ej] at hR'
   obtain ⟨_,rfl⟩:=nI hR'
   obtain ⟨_,cs,b,o,hn,ev⟩:=(f2 (fun t ht=>by simp [dW] at ht)).2 R0 (by rw [ej]; exact hR0.1) hv0 (by unfold dW clean; simp [au]) (fun t ht=>by simp [aa] at ht) rfl
   rw [ej] at hn
   simp only [bH,agb,agn] at hn
   refine ⟨trivial,dJ.hdr (ak 0),b,o, ?_,ev⟩
   have h2:=hn.2
   unfold dS at h2
   rw [hpar] at h2
   rw [ej]
   simp only [bH]
   exact congrArg (fun z=>some (dJ.hdr (ak 0),z)) h2
 ·intro j v hv
  obtain ⟨⟨R,f1⟩,f2⟩:=H.rF j v hv
  have ej:ak j=ak 0:=agz fun ne=>by rw [lD _ ne] at f1; simp at f1
  rw [ej] at f2
  have:=(f2 R0 hR0 hg0).1
  rw [hpar] at this
  simp at this
end
end
section
open Go
def fC:List fF→Bool
 | []=>true
 | .val k [] :: l=>xx k && fC l
 | .fn _ ks :: l=>ks.all xx && fC l
 | _=>false
section
variable [Fr]
theorem pI:∀{ps:List fF} {i:Nat} {c:Cont (kin ps)},fC ps=true→gp ps i c=[]
 | [],_,_,_=>rfl
 | .val k [] :: ps,i,c,h=>by
  simp only [fC,agi] at h
  exact pI (ps:=ps) (i:=i+1) (c:=c.2) h.2
 | .fn f ks :: ps,i,c,h=>by
  simp only [fC,agi] at h
  exact pI (ps:=ps) (i:=i+1) (c:=Cont.snd ks (kin ps) c) h.2
 | .val _ (_ :: _) :: _,_,_,h=>by simp [fC] at h
 | .ro _ :: _,_,_,h=>by simp [fC] at h
 | .rw _ _ _ _ :: _,_,_,h=>by simp [fC] at h
 | .jG _ _ _ :: _,_,_,h=>by simp [fC] at h
 | .own _ _ :: _,_,_,h=>by simp [fC] at h
 | .into _ _ :: _,_,_,h=>by simp [fC] at h
theorem KA (i:Nat):∀{ks:List K} {c:Cont ks},ks.all xx=true→∀q∈jd.uC i ks c,xx q.2.1.1=true∧Jt q.2.2∧q.1=SENT
 | [],_,_,q,hq=>by simp [jd.uC] at hq
 | k :: ks,c,h,q,hq=>by
  simp only [List.all_cons,agi] at h
  simp only [jd.uC] at hq
  rcases agp.1 hq with rfl | hq
  ·exact ⟨h.1,fun t ht=>by simp only [agw] at ht; subst ht; exact iq i,rfl⟩
  ·exact KA i h.2 q hq
theorem uS:∀{ps:List fF} {i:Nat} {c:Cont (kin ps)},fC ps=true→∀s,xO (oI (jd ps i c) s)
 | [],_,_,_,s=>trivial
 | .val k [] :: ps,i,c,h,s=>by
  simp only [fC,agi] at h
  simp only [jd,oI]
  cases Nat.beq s i with
  | true=>
   refine ⟨h.1,fun t ht=>?_⟩
   cases hf:k.flat with
   | true=>rw [hf] at ht; simp at ht
   | false=>rw [hf] at ht; simp at ht; subst ht; exact iq i
  | false=>exact uS (ps:=ps) (i:=i+1) (c:=c.2) h.2 s
 | .fn f ks :: ps,i,c,h,s=>by
  simp only [fC,agi] at h
  simp only [jd,oI]
  cases Nat.beq s i with
  | true=>exact KA i h.1
  | false=>exact uS (ps:=ps) (i:=i+1) (c:=Cont.snd ks (kin ps) c) h.2 s
 | .val _ (_ :: _) :: _,_,_,h,_=>by simp [fC] at h
 | .ro _ :: _,_,_,h,_=>by simp [fC] at h
 | .rw _ _ _ _ :: _,_,_,h,_=>by simp [fC] at h
 | .jG _ _ _ :: _,_,_,h,_=>by simp [fC] at h
 | .own _ _ :: _,_,_,h,_=>by simp [fC] at h
 | .into _ _ :: _,_,_,h,_=>by simp [fC] at h
theorem yC {σ:St}:∀{ps:List fF} {i:Nat} {c:Cont (jE ps)},fC ps=true→yM σ ps i c
 | [],_,_,_=>trivial
 | .val k [] :: ps,i,c,h=>by
  simp only [fC,agi] at h
  exact yC (ps:=ps) (i:=i+1) (c:=c) h.2
 | .fn f ks :: ps,i,c,h=>by
  simp only [fC,agi] at h
  exact yC (ps:=ps) (i:=i+1) (c:=c) h.2
 | .val _ (_ :: _) :: _,_,_,h=>by simp [fC] at h
 | .ro _ :: _,_,_,h=>by simp [fC] at h
 | .rw _ _ _ _ :: _,_,_,h=>by simp [fC] at h
 | .jG _ _ _ :: _,_,_,h=>by simp [fC] at h
 | .own _ _ :: _,_,_,h=>by simp [fC] at h
 | .into _ _ :: _,_,_,h=>by simp [fC] at h
theorem Ko {e:TypeId} {kk:K} {z:Bool} {tb:Nat→List (El kk)} {k k1 k2:K} {x:El k} {y1:El k1} {y2:El k2} {ns:List Nat} (ek:k1=k2) (ey:y2=ek▸y1) (h:Rw e kk z tb k k2 x y2 ns):Rw e kk z tb k k1 x y1 ns:=by
 subst ek
 simp only at ey
 subst ey
 exact h
end
theorem KU [fr:Fr] {e:TypeId} {kk:K} {P:Program} {n:Nat} {f:FuncId} {k k':K} {ow wt ht oP ht':List TypeId} {rest:List fF} {rs rs':List uw}
  {F:Nat→Cont (kin (.rw k ow wt ht :: rest))→Option (Cont (gV rs++jE (.rw k ow wt ht :: rest)))} {F':Nat→Cont (kin (.rw k' ow oP ht' :: rest))→Option (Cont (gV rs'++jE (.rw k' ow oP ht' :: rest)))}
  (hrest:fC rest=true) (hown:∀t∈k.tys,au t ow=true) (hown':∀t∈k'.tys,au t ow=true) (KE:∀t∈(K.sl e kk).tys,au t ow=true)
  (hE:∀fr:Fr, @aA fr P n ⟨f, .rw k' ow oP ht' :: rest,rs',F'⟩) (hwt:kF oP wt=true) (hwk:∀t∈(K.sl e kk).tys,t∈wt) (OB:nD∈ht)
  (hF:∀c out,F n c=some out→∃(x':El k') (ns ms1 ms2:List Nat) (tb:Nat→List (El kk)) (out':Cont (gV rs'++jE (.rw k' ow oP ht' :: rest))),Rw e kk false tb k k' c.1 x' ns∧ns.Nodup∧0∉ns∧F' n (x',c.2)=some out'∧
   Xi e kk tb rs rs' (Cont.fst _ _ out) (Cont.fst _ _ out') ms1∧Rw e kk true tb k k' (Cont.snd _ _ out).1 (Cont.snd _ _ out').1 ms2∧(ms1++ms2).Nodup∧∀m∈ms1++ms2,m∈ns) :
  aA P n ⟨f, .rw k ow wt ht :: rest,rs,F⟩:=by
 intro c out hout cx α args w hnt hw hsz hP H
 obtain ⟨x',ns,ms1,ms2,tb,out',hR,hnd,hn0,hF',hRR,Xy,hmm,hsub⟩:=hF c out hout
 have ha:(k.tys.all fun t=>au t ow)=true:=ags.2 hown
 have ha':(k'.tys.all fun t=>au t ow)=true:=ags.2 hown'
 have wY:∀r,(bZ (.rw k ow wt ht :: rest) c).roots r=bif Nat.beq r (ak 0) then some (aI k c.1 ow [] .par true) else none:=fun r=>by
  show gu (gp (.rw k ow wt ht :: rest) 0 c) r=_
  simp only [gp,pI hrest,gu,ha,cond_true]
 have hR0:aO (bZ (.rw k ow wt ht :: rest) c) (ak 0) (aI k c.1 ow [] .par true):=⟨by rw [wY]; simp,rfl⟩
 have lD:∀r,r≠ak 0→(bZ (.rw k ow wt ht :: rest) c).roots r=none:=fun r hr=>by
  rw [wY]
  have:Nat.beq r (ak 0)=false:=by
   cases hb:Nat.beq r (ak 0) with
   | true=>exact absurd (agf hb) hr
   | false=>rfl
  rw [this]; rfl
 have hsl:∀s,xO ((bZ (.rw k ow wt ht :: rest) c).slots s):=fun s=>by
  show xO (oI (jd (.rw k ow wt ht :: rest) 0 c) s)
  simp only [jd,oI]
  cases Nat.beq s 0 with
  | true=>exact ⟨rfl,rfl,rfl⟩
  | false=>exact uS hrest s
 obtain ⟨dR,dG,ig,i0,is,g1,g2,g3,g4,Ol⟩:=MF H hw hR0 lD rfl rfl hown (KE e (by simp [K.tys])) hsl (k':=k') (x':=x') hR hnd hn0 hown'
 have hst:aj (bZ (.rw k ow wt ht :: rest) c) (ak 0) { aI k c.1 ow [] .par true with k:=k',x:=x' }=bZ (.rw k' ow oP ht' :: rest) (x',c.2):=by
  unfold aj bZ
  congr 1
  funext r
  show upd (bZ (.rw k ow wt ht :: rest) c).roots (ak 0) _ r=gu (gp (.rw k' ow oP ht' :: rest) 0 (x',c.2)) r
  simp only [gp,pI hrest,gu,ha',cond_true]
  unfold upd
  cases hb:Nat.beq r (ak 0) with
  | true=>rfl
  | false=>simp only [cond_false]; rw [wY,hb]; rfl
 rw [hst] at Ol
 have hP':yN (uI cx (aQ dR)) (.rw k' ow oP ht' :: rest):=by
  refine ⟨fun j yA hj hkp=>?_,fun j p ts v h=>h.elim,fun j v h=>h.elim⟩
  obtain ⟨pi,hj',rfl⟩:=lq hj
  obtain ⟨k0,o1,o2,o3,h⟩:=hP.par j pi hj' hkp
  cases j with
  | zero=>exact ⟨k',ow,oP,ht', .inl rfl⟩
  | succ j=>exact ⟨k0,o1,o2,o3,by simpa using h⟩
 have h:=hE (gy fr ig i0 is) (x',c.2) out' hF' (uI cx (aQ dR)) _ args w hnt hw hsz hP' Ol
 have hpost:∀v w', @Post (gy fr ig i0 is) (uI cx (aQ dR)) (.rw k' ow oP ht' :: rest) rs' out' v w'→@Post fr cx (.rw k ow wt ht :: rest) rs out v w':=by
  rintro v w' ⟨σ1,dJ,F1,a1,vs,bC,H1,rfl,hL,hfn,IC,hOut,_⟩
  obtain ⟨Q,q1,q2,⟨ek,ey⟩,q4,q5,_⟩:=hOut
  have hRQ:=Ko ek ey Xy
  obtain ⟨zq,t1,t2⟩:=select (dR:=dR) (ns:=ms1) (fun m hm=>by rw [g1]; exact hsub m (agh _ hm))
  obtain ⟨nL,t3,t4⟩:=select (dR:=dR) (ns:=ms2) (fun m hm=>by rw [g1]; exact hsub m (agd _ hm))
  have sW:=q5
  unfold wO at sW
  simp only [agi] at sW
  obtain ⟨⟨⟨⟨l1,l2⟩,_⟩,_⟩,_⟩:=sW
  have htr:∀{l:List Nat},kF l oP=true→kF l wt=true:=fun hl=>jf.2 fun t ht=>jf.1 hwt t (jf.1 hl t ht)
  obtain ⟨uU,BS,r1,r2,r3⟩:=Pg (fr:=fr) H hw hR0 lD rfl rfl ⟨rfl,rfl⟩ hown hown' KE g2 (by rw [g1]; exact hnd) g3 g4 H1 q1 q2 ek (fun t ht=>by
    have:=ags.1 q4 t ht
    rw [hown' t ht] at this
    simpa using this) (wt:=wt) (ht:=ht) ⟨htr l1,htr l2⟩ hwk OB (y:=(Cont.snd _ _ out).1) (nL:=nL) (by rw [t3]; exact hRQ) t4 (zq:=zq) t2 (by rw [t1]; exact hRR) hL hfn IC
    (by rw [List.map_append,t1,t3]; exact hmm) (fun j p ts v h=>by obtain ⟨k0,_,h⟩:=hP.ptr j p ts v h; exact ⟨k0,h⟩)
  refine ⟨_,uU,BS.flatten,a1,vs,BS,r1,rfl,r2,r3,fun b hb=>hb,⟨_,qd,⟨rfl,rfl⟩,⟨rfl,rfl⟩, ?_, ?_, .inl ha⟩,yC hrest⟩
  ·exact ags.2 fun t _=>by simp [lu]; rfl
  ·unfold wO lu
   simp only [kF,List.all_nil,agi,ags]
   exact ⟨⟨⟨⟨fun x hx=>aJ.2 hx,trivial⟩,fun x hx=>aJ.2 hx⟩,fun x hx=>aJ.2 hx⟩,rfl⟩
 rcases h with ⟨h1,h2⟩ | ⟨v,w',h1,h2⟩
 ·refine .inl ⟨h1,h2.mono ?_⟩
  rintro e w' ⟨v,rfl,hv⟩
  exact ⟨v,rfl,hpost v w' hv⟩
 ·exact .inr ⟨v,w',h1,hpost v w' h2⟩
end
section
open Go
theorem AZ {e:TypeId} {kk:K} {z:Bool} {tb:Nat→List (El kk)} {k k':K} {t:TypeId} {C:Type} (hsz:k'.size=k.size) (l:List C) (f:C→El k) (g:C→El k') (q:C→List Nat)
  (h:∀c∈l,Rw e kk z tb k k' (f c) (g c) (q c)):Rw e kk z tb (.sl t k) (.sl t k') (l.map f) (l.map g) (l.map q).flatten:=by
 unfold Rw
 refine ⟨rfl,hsz,by simp,l.map q,by simp,rfl,fun i h1 h2=>?_⟩
 have hi:i<l.length:=by simpa using h1
 have:=h l[i] (agG hi)
 simpa [agq,hi] using this
theorem mI {C:Type} (xs:List C):((xs.zipIdx 1).map (·.2)).Nodup∧0∉(xs.zipIdx 1).map (·.2):=by
 rw [List.zipIdx_map_snd]
 exact ⟨List.nodup_range',by simp⟩
theorem yt {C:Type} (xs:List C):(xs.zipIdx 1).map (·.1)=xs:=List.zipIdx_map_fst ..
theorem FC {C R:Type} {xs:List C} {m:C→R} {d:R} {x:C} {i:Nat} (h:(x,i)∈xs.zipIdx 1):((xs[i - 1]?).map m).getD d=m x∧i≠0:=by
 obtain ⟨h1,h2,h3⟩:=List.mem_zipIdx h
 have hi:i - 1<xs.length:=by omega
 exact ⟨by simp [hi,h3],by omega⟩
end
section
open Go
section
variable {e:TypeId} {kk:K} [fr:Fr]
variable {cx:Cx} {σ:St} {α:dK} {a:Act} {w:World}
def Db (cx:Cx) (bad:List Nat):Cx:={ uI cx bad with refs:=cx.refs }
theorem Gr {bad:List Nat} {σ':St} {α':dK} {F':List Nat}:∀{cs:List (TypeId×Dat×List Tag)} {vs:List Value},jC (uI cx bad) σ' α' F' w cs vs→jC (Db cx bad) σ' α' F' w cs vs
 | [],[],_=>trivial
 | _ :: _,_ :: _,h=>⟨h.1,Gr h.2⟩
 | [],_ :: _,h=>h.elim
 | _ :: _,[],h=>h.elim
theorem SX {bad:List Nat} {σ':St} {α':dK} {F':List Nat} {x:AV} {v:Value} (h:bJ (uI cx bad) σ' α' F' w x v):bJ (Db cx bad) σ' α' F' w x v:=by
 cases x with
 | fn f cs=>obtain ⟨vs,h1,h2⟩:=h; exact ⟨vs,h1,Gr h2⟩
 | _=>exact h
theorem ND {e1 e2:TypeId} {k1 k2:K} {v:Value} {cs:List Value} (h:VC (.sl e1 k1) v cs):VC (.sl e2 k2) v cs:=h
def jR (k:K) (x:El k) (ow wt ht:List TypeId):Root:={ k,x,own:=ow,tags:=[],w:=wt,h:=ht,g:=0,kind:=.anon,fixed:=true,keep:=true,ew:=[],eh:=ht }
theorem JI (H:Rel cx σ α [] a w) (hw0:cx.w0=w) {R0:Root} {e1:TypeId} {k1:K} (hk0:R0.k=.sl e1 k1) (hR0:aO σ (ak 0) R0) (lD:∀r,r≠ak 0→σ.roots r=none) (wN:R0.kind=.anon) (oH:R0.tags=[]) (hown:∀t∈R0.k.tys,au t R0.own=true) (he:au e R0.own=true)
  (hs0:σ.slots 0=.one (.ref (ak 0) 0)) (hsl:∀s,s≠0→xO (σ.slots s)) {e2:TypeId} {k2:K} {x':El (.sl e2 k2)} {tb:Nat→List (El kk)} {ns:List Nat} (hR:Rw e kk false tb R0.k (.sl e2 k2) R0.x x' ns) (hnd:ns.Nodup) (hn0:0∉ns) (hown':∀t∈(K.sl e2 k2).tys,au t R0.own=true) (hg0:R0.g=0) :
  ∃(dR:List DD) (dG:List Nat) (ig:Nat→Value) (h0:ig 0=.slice none 0 0) (hs:∀i,∃a n c,ig i=.slice a n c),dR.map (·.1)=ns∧(α.fo (ak 0)).Perm (dG++aQ dR)∧
   (∀q∈dR, @Ow fr (hp w) R0.own (fun _=>False) (.sl e kk) (tb q.1) [q.2.1] q.2.2)∧(∀q∈dR,ig q.1=q.2.1)∧
   @Rel (gy fr ig h0 hs) (Db cx (aQ dR)) (aj σ (ak 0) { R0 with k:=.sl e2 k2,x:=x' }) (aG α (ak 0) (α.loc (ak 0)) (α.hdr (ak 0)) dG) [] a w:=by
 have KR:=H.roots _ R0 hR0
 have hv0:bu σ R0:=⟨hR0.2,by rw [oH]; rfl⟩
 have hO:Ow (hp w) R0.own (fun _=>False) R0.k R0.x (α.hdr (ak 0)) (α.fo (ak 0)):=fV (dA hown) (KR.ow hv0)
 obtain ⟨dR,dG,g1,g2,g3,g4⟩:=F9 hown hR hO
 obtain ⟨ig,i1,i2,i3⟩:=JE (dR:=dR) (by rw [g1]; exact hnd) (by rw [g1]; exact hn0) (fun q hq=>K9 he (g3 q hq))
 refine ⟨dR,dG,ig,i1,i2,g1,g2,g3,i3, ?_⟩
 have hblk:blk α R0 (ak 0)=α.fo (ak 0):=by unfold blk dS; rw [wN]; rfl
 have hsub:∀b∈dG,b∈α.fo (ak 0):=fun b hb=>g2.mem_iff.2 (agh _ hb)
 have hbad:∀b∈aQ dR,b∈α.fo (ak 0):=fun b hb=>g2.mem_iff.2 (agd _ hb)
 have L:wJ cx σ α R0 { R0 with k:=.sl e2 k2,x:=x' } dG (aQ dR):=⟨fun r R hr=>by
  by_cases e:r=ak 0
  ·subst e; refine ⟨rfl, ?_⟩; have:=hr.1; rw [hR0.1] at this; exact (agN this).symm
  ·have:=hr.1; rw [lD r e] at this; simp at this,hR0,rfl,oH,hsub,hbad⟩
 have oQ:=KR.nd
 rw [hblk] at oQ
 have nV:=agj.1 (g2.nodup oQ)
 have hlv:∀{q Q},aO (aj σ (ak 0) { R0 with k:=.sl e2 k2,x:=x' }) q Q→q=ak 0∧Q={ R0 with k:=.sl e2 k2,x:=x' }:=fun {q Q} hq=>by
  rcases iR hq with ⟨rfl,rfl,_⟩ | ⟨e,hq'⟩
  ·exact ⟨rfl,rfl⟩
  ·exact absurd (L.only q Q hq').1 e
 have hlv1:aO (aj σ (ak 0) { R0 with k:=.sl e2 k2,x:=x' }) (ak 0) { R0 with k:=.sl e2 k2,x:=x' }:=⟨aH ..,hR0.2⟩
 have hblk':blk (aG α (ak 0) (α.loc (ak 0)) (α.hdr (ak 0)) dG) { R0 with k:=.sl e2 k2,x:=x' } (ak 0)=dG:=by
  rw [eD]; unfold gT; simp only [wN]; rfl
 have wG:∀v,bJ cx σ α [] w (.ref (ak 0) 0) v→@bJ (gy fr ig i1 i2) (Db cx (aQ dR)) (aj σ (ak 0) { R0 with k:=.sl e2 k2,x:=x' }) (aG α (ak 0) (α.loc (ak 0)) (α.hdr (ak 0)) dG) [] w (.ref (ak 0) 0) v:=by
  intro v hv Q hQ _
  obtain ⟨_,rfl⟩:=hlv hQ
  obtain ⟨h1,h2⟩:=hv R0 hR0 hg0
  refine ⟨wN, ?_⟩
  rw [hk0] at h2
  simp only [aG,upd_same]
  exact ND h2
 have Oq:∀{x:sN} {v:Value},xO x→@iM fr cx σ α [] w x v→@iM (gy fr ig i1 i2) (Db cx (aQ dR)) (aj σ (ak 0) { R0 with k:=.sl e2 k2,x:=x' }) (aG α (ak 0) (α.loc (ak 0)) (α.hdr (ak 0)) dG) [] w x v:=fun hx h=>by
  have h1:=wJ.av (fr:=fr) (gy fr ig i1 i2) rfl L hx h
  rename_i x v
  cases x with
  | C8 l=>exact hx.elim
  | lit _ _ _=>exact hx.elim
  | one x=>exact @SX (gy fr ig i1 i2) _ _ _ _ _ _ _ _ h1
 have jc:∀b∈dG,Ow.mine (Db cx (aQ dR)) w b:=fun b hb=>by
  obtain ⟨m1,m2⟩:=KR.mine b (by rw [hblk]; exact hsub b hb)
  refine ⟨m1, ?_⟩
  rcases m2 with m2 | ⟨j,pi,m2,m3⟩
  ·exact .inl m2
  ·refine .inr ⟨j,{ pi with bl:=pi.bl.filter fun b=>!au b (aQ dR) },by simp [Db,uI,m2],agu.2 ⟨m3, ?_⟩⟩
   have:au b (aQ dR)=false:=by
    rw [aT]
    intro hm
    exact nV.2.2 b hb b hm rfl
   rw [this]; rfl
 have Dn:∀{j:Nat} {yA:Lm},(Db cx (aQ dR)).par j=some yA→∃pi,cx.par j=some pi∧yA={ pi with bl:=pi.bl.filter fun b=>!au b (aQ dR) }:=fun h=>lq (cx:=cx) h
 have hpl:=H.lW
 refine @Rel.mk (gy fr ig i1 i2) _ _ _ _ _ _ H.defs H.sz ?_ ?_ ?_ ?_ ?_ ?_ ?_ (fun b hb=>by simp at hb) List.nodup_nil (fun r R hr b hb h=>by simp at h) ?_ ?_ ?_ (fun j p ts v h=>h.elim) ?_
 ·intro j yA b o n hj hb
  obtain ⟨pi,hj',rfl⟩:=Dn hj
  obtain ⟨R,f1,f2,_⟩:=H.jV j pi b o n hj' hb
  obtain ⟨_,rfl⟩:=L.only _ R f1
  rw [wN] at f2
  simp at f2
 ·intro r R hr hk
  obtain ⟨rfl,rfl⟩:=hlv hr
  have hk:R0.kind=.par:=hk
  rw [wN] at hk
  simp at hk
 ·intro s
  show @iM (gy fr ig i1 i2) _ _ _ _ _ (σ.slots s) _
  by_cases h0:s=0
  ·subst h0
   have:=H.slots 0
   rw [hs0] at this ⊢
   exact wG _ this
  ·exact Oq (hsl s h0) (H.slots s)
 ·intro s
  show sQ _ (σ.slots s)
  by_cases h0:s=0
  ·subst h0
   rw [hs0]
   exact ⟨_,aH .., .inr (agM _)⟩
  have hs:=hsl s h0
  cases hx:σ.slots s with
  | C8 l=>rw [hx] at hs; exact hs.elim
  | lit _ _ _=>rw [hx] at hs; exact hs.elim
  | one x=>
   rw [hx] at hs
   cases x with
   | undef=>trivial
   | ptr r p n=>obtain ⟨rfl,rfl,rfl⟩:=hs; exact ⟨_,aH .., .inr (agM _)⟩
   | val k x T=>exact fun t ht=>.inl (hs.2 t ht)
   | fn f cs=>exact fun c hc t ht=>.inl ((hs c hc).2.1 t ht)
   | _=>exact hs.elim
 ·intro r R hr
  obtain ⟨rfl,rfl⟩:=hlv hr
  refine @qA.mk (gy fr ig i1 i2) _ _ _ _ _ _ _ (fun _=>?_) ?_ ?_ ?_ ?_
  ·have e1:(aG α (ak 0) (α.loc (ak 0)) (α.hdr (ak 0)) dG).hdr (ak 0)=α.hdr (ak 0):=by simp [aG,upd_same]
   have e2:(aG α (ak 0) (α.loc (ak 0)) (α.hdr (ak 0)) dG).fo (ak 0)=dG:=by simp [aG,upd_same]
   rw [e1,e2]
   exact @fV (gy fr ig i1 i2) _ _ _ _ _ _ _ _ (dA hown') (g4 (gy fr ig i1 i2) rfl i3)
  ·show ((aG α (ak 0) (α.loc (ak 0)) (α.hdr (ak 0)) dG).hdr (ak 0)).length=(K.sl e2 k2).size
   rw [hR.size]
   simpa [aG,upd_same] using KR.len
  ·intro b o hb
   rw [L.wh] at hb
   unfold dS at hb
   rw [wN] at hb
   simp at hb
  ·rw [hblk']
   exact nV.1
  ·intro b hb
   rw [hblk'] at hb
   exact jc b hb
 ·intro r R hr
  by_cases e:r=ak 0
  ·subst e
   rw [aH] at hr
   have hr:=agN hr
   subst hr
   exact ⟨fun t ht=>by rw [show ({ R0 with k:=.sl e2 k2,x:=x' }:Root).tags=R0.tags from rfl,oH] at ht; simp at ht,lS 0,fun n hn=>by rw [show ({ R0 with k:=.sl e2 k2,x:=x' }:Root).tags=R0.tags from rfl,oH] at hn; simp at hn⟩
  ·rw [bW _ _ e,lD r e] at hr; simp at hr
 ·intro r R r' R' hr hr' hne
  exact absurd ((hlv hr).1.trans (hlv hr').1.symm) hne
 ·obtain ⟨f1,f2,f3,f4,f5,f6⟩:=H.frame
  refine ⟨f1,f2,f3,f4,fun b _ _=>by show hp w b=hp cx.w0 b; rw [hw0],fun j yA b o n hj hb=>?_⟩
  obtain ⟨pi,hj',rfl⟩:=Dn hj
  exact f6 j pi b o n hj' hb
 ·intro j yA hj hkp
  obtain ⟨pi,hj',rfl⟩:=Dn hj
  obtain ⟨R,f1,f2⟩:=H.ql j pi hj' hkp
  by_cases e:ak j=ak 0
  ·refine ⟨_,by rw [e]; exact aH ..,fun _ b hb hnb=>.inr ⟨by show hp w b=hp cx.w0 b; rw [hw0],by simp,fun q Q hq _=>by rw [(hlv hq).1,e]⟩⟩
  ·rw [lD _ e] at f1; simp at f1
 ·refine ⟨fun j yA hj b hb=>?_,fun b hb=>⟨?_,fun j yA hj hbl=>?_⟩,fun b hb=>hpl.2.2 b hb⟩
  ·obtain ⟨pi,hj',rfl⟩:=Dn hj
   exact hpl.1 j pi hj' b (agu.1 hb).1
  ·exact (hpl.2.1 b hb).1
  ·obtain ⟨pi,hj',rfl⟩:=Dn hj
   exact (hpl.2.1 b hb).2 j pi hj' (agu.1 hbl).1
 ·intro j v hv
  have hv:cx.refs j v:=hv
  obtain ⟨⟨R,f1⟩,f2⟩:=H.rF j v hv
  have ej:ak j=ak 0:=agz fun ne=>by rw [lD _ ne] at f1; simp at f1
  rw [ej] at f2 ⊢
  exact ⟨⟨_,aH ..⟩,wG v f2⟩
theorem ME (H:Rel cx σ α [] a w) (hw0:cx.w0=w) {R0:Root} {e1:TypeId} {k1:K} (hk0:R0.k=.sl e1 k1) (hR0:aO σ (ak 0) R0) (lD:∀r,r≠ak 0→σ.roots r=none) (wN:R0.kind=.anon) (hg0:R0.g=0) (hv0:bu σ R0)
  (hown:∀t∈R0.k.tys,au t R0.own=true) {e2:TypeId} {k2:K} (hown':∀t∈(K.sl e2 k2).tys,au t R0.own=true) (KE:∀t∈(K.sl e kk).tys,au t R0.own=true)
  {tb:Nat→List (El kk)} {dR:List DD} {dG:List Nat} {ig:Nat→Value} {h0:ig 0=.slice none 0 0} {hs:∀i,∃a n c,ig i=.slice a n c}
  (hperm:(α.fo (ak 0)).Perm (dG++aQ dR)) (hnd:(dR.map (·.1)).Nodup) (hrow:∀q∈dR, @Ow fr (hp w) R0.own (fun _=>False) (.sl e kk) (tb q.1) [q.2.1] q.2.2) (hid:∀q∈dR,ig q.1=q.2.1)
  {σ1:St} {dJ:dK} {F1:List Nat} {a1:Act} {w':World} (H1 : @Rel (gy fr ig h0 hs) (Db cx (aQ dR)) σ1 dJ F1 a1 w') {Q:Root} (hQ:σ1.roots (ak 0)=some Q) (Uo:bu σ1 Q) (Vn:Q.k=.sl e2 k2) (hQo:∀t∈(K.sl e2 k2).tys,au t Q.own=true) (hQn:Q.kind=.anon) (hQg:Q.g=0)
  {wt:List TypeId} (hwt:kF Q.w wt=true∧kF Q.ew wt=true)
  {y:El R0.k} {nL:List DD} (hP:Rw e kk true tb R0.k Q.k y Q.x (nL.map (·.1))) (Q7:∀q∈nL,q∈dR) (hall:(nL.map (·.1)).Nodup)
  (y8:∀j p ts v,cx.ptrs j p ts v→j=0→ts=dW p R0.k) :
  Rel cx (vD (jR R0.k y R0.own wt R0.k.tys)) (wX (α.loc (ak 0)) (dJ.hdr (ak 0)) (dJ.fo (ak 0)++aQ nL)) [] a1 w':=by
 have K0:=H.roots _ R0 hR0
 have hlv1:aO σ1 (ak 0) Q:=⟨hQ,Uo.1⟩
 have K1:=@Rel.roots (gy fr ig h0 hs) _ _ _ _ _ _ H1 _ Q hlv1
 have TH:=@qA.ow (gy fr ig h0 hs) _ _ _ _ _ _ _ K1
 have Nu:=@qA.len (gy fr ig h0 hs) _ _ _ _ _ _ _ K1
 have TG:=@qA.nd (gy fr ig h0 hs) _ _ _ _ _ _ _ K1
 have IK:=@qA.mine (gy fr ig h0 hs) _ _ _ _ _ _ _ K1
 have JD:∀r R,aO σ r R→r=ak 0∧R=R0:=fun r R hr=>by
  by_cases e:r=ak 0
  ·subst e; refine ⟨rfl, ?_⟩; have:=hr.1; rw [hR0.1] at this; exact (agN this).symm
  ·have:=hr.1; rw [lD r e] at this; simp at this
 have GX:blk α R0 (ak 0)=α.fo (ak 0):=by unfold blk dS; rw [wN]; rfl
 have hblk1:blk dJ Q (ak 0)=dJ.fo (ak 0):=by unfold blk dS; rw [hQn]; rfl
 have hsize:w.heap.size≤w'.heap.size:=by have:=(@Rel.frame (gy fr ig h0 hs) _ _ _ _ _ _ H1).2.2.2.1; simpa [Db,uI,hw0] using this
 have oQ:=K0.nd
 rw [GX] at oQ
 have nV:=agj.1 (hperm.nodup oQ)
 have hbad:∀b∈aQ dR,b∈α.fo (ak 0):=fun b hb=>hperm.mem_iff.2 (agd _ hb)
 have Ca:∀b∈aQ dR,b∈blk α R0 (ak 0):=fun b hb=>by rw [GX]; exact hbad b hb
 have Dn:∀{j:Nat} {yA:Lm},(Db cx (aQ dR)).par j=some yA→∃pi,cx.par j=some pi∧yA={ pi with bl:=pi.bl.filter fun b=>!au b (aQ dR) }:=fun h=>lq (cx:=cx) h
 have hno:∀b∈aQ dR,¬Ow.mine (Db cx (aQ dR)) w' b:=fun b hb hm=>by
  have hlt:=(K0.mine b (Ca b hb)).1
  rcases hm.2 with h | ⟨j,yA,h1,h2⟩
  ·have:w.heap.size≤b:=by simpa [Db,uI,hw0] using h
   omega
  ·obtain ⟨pi,_,rfl⟩:=Dn h1
   have:=(agu.1 h2).2
   rw [aJ.2 hb] at this
   simp at this
 have hsame:∀b∈aQ dR,hp w' b=hp w b:=fun b hb=>by
  have hlt:=(K0.mine b (Ca b hb)).1
  have:=(@Rel.frame (gy fr ig h0 hs) _ _ _ _ _ _ H1).2.2.2.2.1 b (by simpa [Db,uI,hw0] using hlt) (fun j yA h1 h2=>by
   obtain ⟨pi,_,rfl⟩:=Dn h1
   have:=(agu.1 h2).2
   rw [aJ.2 hb] at this
   simp at this)
  simpa [Db,uI,hw0] using this
 have hrow':∀q∈dR, @Ow fr (hp w') R0.own (fun _=>False) (.sl e kk) (tb q.1) [q.2.1] q.2.2:=fun q hq=>
  bz (fun _ h=>h.elim) (fun _ h=>h) (fun b hb=>hsame b (agP.2 ⟨q,hq,hb⟩)) (hrow q hq)
 have Cj:∀b∈aQ nL,b∈aQ dR:=fun b hb=>by
  obtain ⟨q,hq,h⟩:=agP.1 hb
  exact agP.2 ⟨q,Q7 q hq,h⟩
 have hnP:(aQ nL).Nodup:=zo nV.2.1 hnd (l:=nL) Q7 hall
 have Sk:∀b∈dJ.fo (ak 0),Ow.mine (Db cx (aQ dR)) w' b:=fun b hb=>IK b (by rw [hblk1]; exact hb)
 have OI:∀b,Ow.mine (Db cx (aQ dR)) w' b→Ow.mine cx w' b:=fun b hb=>⟨hb.1,hb.2.imp (fun h=>h) (fun ⟨j,yA,h1,h2⟩=>by
  obtain ⟨pi,h3,rfl⟩:=Dn h1
  exact ⟨j,pi,h3,(agu.1 h2).1⟩)⟩
 have KG:∀b∈aQ dR,Ow.mine cx w' b:=fun b hb=>by
  obtain ⟨m1,m2⟩:=K0.mine b (Ca b hb)
  exact ⟨by omega,m2⟩
 have y7:∀{r R},aO (vD (jR R0.k y R0.own wt R0.k.tys)) r R→r=ak 0∧R=jR R0.k y R0.own wt R0.k.tys:=fun h=>nI h.1
 have DZ:blk (wX (α.loc (ak 0)) (dJ.hdr (ak 0)) (dJ.fo (ak 0)++aQ nL)) (jR R0.k y R0.own wt R0.k.tys) (ak 0)=dJ.fo (ak 0)++aQ nL:=rfl
 have GY:=TG
 rw [hblk1] at GY
 have hf1:=@Rel.frame (gy fr ig h0 hs) _ _ _ _ _ _ H1
 have Ro:R0.k.size=Q.k.size:=hP.size.symm
 have OO:∀j p ts v,cx.ptrs j p ts v→ak j=ak 0:=fun j p ts v h=>by
  obtain ⟨_,R,f1,_⟩:=H.rE j p ts v h
  refine agz fun e=>?_
  rw [lD _ e] at f1
  simp at f1
 have hdf:=@Rel.defs (gy fr ig h0 hs) _ _ _ _ _ _ H1
 have hsz0:=@Rel.sz (gy fr ig h0 hs) _ _ _ _ _ _ H1
 have hsz1:cx.nt≤a1.tmps.size:=hsz0
 have UC:=@Rel.ql (gy fr ig h0 hs) _ _ _ _ _ _ H1
 have acY:=@Rel.rF (gy fr ig h0 hs) _ _ _ _ _ _ H1
 refine ⟨hdf,hsz1, ?_, ?_,fun s=>trivial,fun s=>trivial, ?_, ?_, ?_,fun b hb=>by simp at hb,List.nodup_nil,fun r R hr b hb h=>by simp at h, ?_, ?_, ?_, ?_, ?_⟩
 ·intro j pi b o n hj hb
  obtain ⟨R,f1,f2,_⟩:=H.jV j pi b o n hj hb
  obtain ⟨_,rfl⟩:=JD _ R f1
  rw [wN] at f2
  simp at f2
 ·intro r R hr hk
  obtain ⟨rfl,rfl⟩:=y7 hr
  simp [jR] at hk
 ·intro r R hr
  obtain ⟨rfl,rfl⟩:=y7 hr
  refine ⟨fun _=>?_,by show (dJ.hdr (ak 0)).length=R0.k.size; rw [Nu,Ro],fun b o hb=>by simp [dS,jR] at hb, ?_,fun b hb=>?_⟩
  ·have o1 : @Ow (gy fr ig h0 hs) (hp w') R0.own (fun _=>False) Q.k Q.x (dJ.hdr (ak 0)) (dJ.fo (ak 0)):=by
    have hk1:∀t∈Q.k.tys,au t Q.own=true:=fun t ht=>hQo t (by rw [←Vn]; exact ht)
    have hk2:∀t∈Q.k.tys,au t R0.own=true:=fun t ht=>hown' t (by rw [←Vn]; exact ht)
    exact @fV (gy fr ig h0 hs) _ _ _ _ _ _ _ _ (dA hk2) (@Aw (gy fr ig h0 hs) _ _ _ _ _ _ _ _ (fun t ht=>by rw [hk1 t ht,hk2 t ht]) (TH Uo))
   have o2:=EG (fr:=fr) (gy fr ig h0 hs) hown hP o1 (fun q hq=>⟨hrow' q (Q7 q hq),hid q (Q7 q hq)⟩)
   exact fV (dA hown) o2
  ·rw [DZ]
   exact agj.2 ⟨GY,hnP,fun b hb c hc Uh=>by subst Uh; exact hno b (Cj b hc) (Sk b hb)⟩
  ·rw [DZ] at hb
   rcases agl.1 hb with h | h
   ·exact OI b (Sk b h)
   ·exact KG b (Cj b h)
 ·intro r R hr
  obtain ⟨rfl,rfl⟩:=nI hr
  exact ⟨fun t ht=>by simp [jR] at ht,lS 0,fun n hn=>by simp [jR] at hn⟩
 ·intro r R r' R' hr hr' hne
  exact absurd ((y7 hr).1.trans (y7 hr').1.symm) hne
 ·obtain ⟨f1,f2,f3,f4,f5,f6⟩:=hf1
  refine ⟨f1,f2,f3,f4,fun b hb hnb=>f5 b hb (fun j yA h1 h2=>?_),fun j pi b o n hj hb=>?_⟩
  ·obtain ⟨pi,h3,rfl⟩:=Dn h1
   exact hnb j pi h3 (agu.1 h2).1
  ·exact f6 j { pi with bl:=pi.bl.filter fun b=>!au b (aQ dR) } b o n (by simp [Db,uI,hj]) hb
 ·intro j pi hj hkp
  obtain ⟨R,f1,_⟩:=H.ql j pi hj hkp
  have ej:ak j=ak 0:=agz fun ne=>by rw [lD _ ne] at f1; simp at f1
  refine ⟨jR R0.k y R0.own wt R0.k.tys,by rw [ej]; exact qd,fun _ b hb hnb=>?_⟩
  have hone:∀q Q,aO (vD (jR R0.k y R0.own wt R0.k.tys)) q Q→b∈blk (wX (α.loc (ak 0)) (dJ.hdr (ak 0)) (dJ.fo (ak 0)++aQ nL)) Q q→q=ak j:=fun q Q hq _=>by rw [(y7 hq).1,ej]
  by_cases hbt:b∈aQ dR
  ·exact .inr ⟨by rw [hw0]; exact hsame b hbt,by simp,hone⟩
  ·obtain ⟨R1,q1,q2⟩:=UC j { pi with bl:=pi.bl.filter fun b=>!au b (aQ dR) } (by simp [Db,uI,hj]) hkp
   have eR:R1=Q:=by rw [ej,hQ] at q1; exact (agN q1).symm
   subst eR
   rcases q2 Uo.1 b (agu.2 ⟨hb,by rw [aT.2 hbt]; rfl⟩) (fun h=>hnb (Bw.1 h)) with ⟨t,t1,t2⟩ | ⟨t1,t2,_⟩
   ·exact .inl ⟨t,t1, .inl (t2.elim (jf.1 hwt.1 t) (jf.1 hwt.2 t))⟩
   ·exact .inr ⟨t1,by simp,hone⟩
 ·refine ⟨fun j pi hj b hb=>H.lW.1 j pi hj b hb,fun b hb=>H.lW.2.1 b hb,fun b hb=>H.lW.2.2 b hb⟩
 ·intro j p ts v hv
  have ej:=OO j p ts v hv
  have ej0:j=0:=by unfold ak at ej; omega
  obtain ⟨g1,R,f1,f2⟩:=H.rE j p ts v hv
  have hts:=y8 j p ts v hv ej0
  refine ⟨g1,jR R0.k y R0.own wt R0.k.tys,by rw [ej]; exact qd,fun hno'=>?_⟩
  refine ⟨g1,fun R' hR' _ _ _ hsome=>?_⟩
  rw [ej] at hR'
  obtain ⟨_,rfl⟩:=nI hR'
  have hsome:(aP p R0.k y).isSome=true:=hsome
  cases p with
  | nil=>
   have hRR:R=R0:=by rw [ej,hR0.1] at f1; exact (agN f1).symm
   obtain ⟨_,cs,b,o,hn,ev⟩:=(f2 (fun t ht=>by rw [hts] at ht; simp [dW] at ht)).2 R0 (by rw [ej]; exact hR0.1) hv0 (by unfold dW clean; simp [au]) (fun t ht=>by simp [aa] at ht) rfl
   rw [ej] at hn
   simp only [bH,agb,agn] at hn
   have h2:=hn.2
   unfold dS at h2
   rw [wN] at h2
   simp at h2
  | cons s p=>
   cases s with
   | fH m=>
    rw [hk0] at hts
    have:aP (.fH m :: p) R0.k y=none:=by
     have hg:∀(k:K) (z:El k),k=.sl e1 k1→aP (.fH m :: p) k z=none:=by
      intro k z hk; subst hk; rfl
     exact hg _ y hk0
    rw [this] at hsome; simp at hsome
   | idx i=>
    exfalso
    refine hno' e1 ?_ ?_
    ·rw [hts,hk0]; simp [dW,aa]
    ·show e1∈R0.k.tys
     rw [hk0]; simp [K.tys]
 ·intro j v hv
  obtain ⟨⟨R,f1⟩,f2⟩:=H.rF j v hv
  have ej:ak j=ak 0:=agz fun ne=>by rw [lD _ ne] at f1; simp at f1
  obtain ⟨_,q2⟩:=acY j v hv
  rw [ej] at q2 ⊢
  refine ⟨⟨_,qd⟩,fun R' hR' _=>?_⟩
  obtain ⟨_,rfl⟩:=y7 hR'
  obtain ⟨z1,z2⟩:=q2 Q hlv1 hQg
  refine ⟨rfl, ?_⟩
  show VC R0.k v (dJ.hdr (ak 0))
  rw [hk0]
  rw [Vn] at z2
  exact ND z2
end
theorem Pf [fr:Fr] {e e1 e2:TypeId} {kk k1 k2:K} {P:Program} {n:Nat} {f:FuncId} {ow wt oP:List TypeId} {rest:List fF}
  {F:Nat→Cont (kin (.jG (.sl e1 k1) ow wt :: rest))→Option (Cont (gV [.into 0 []]++jE (.jG (.sl e1 k1) ow wt :: rest)))} {F':Nat→Cont (kin (.jG (.sl e2 k2) ow oP :: rest))→Option (Cont (gV [.into 0 []]++jE (.jG (.sl e2 k2) ow oP :: rest)))}
  (hrest:fC rest=true) (hown:∀t∈(K.sl e1 k1).tys,au t ow=true) (hown':∀t∈(K.sl e2 k2).tys,au t ow=true) (KE:∀t∈(K.sl e kk).tys,au t ow=true)
  (hE:∀fr:Fr, @aA fr P n ⟨f, .jG (.sl e2 k2) ow oP :: rest,[.into 0 []],F'⟩) (hwt:kF oP wt=true)
  (hF:∀c out,F n c=some out→∃(x':El (.sl e2 k2)) (ns ms:List Nat) (tb:Nat→List (El kk)) (out':Cont (gV [.into 0 []]++jE (.jG (.sl e2 k2) ow oP :: rest))),Rw e kk false tb (.sl e1 k1) (.sl e2 k2) c.1 x' ns∧ns.Nodup∧0∉ns∧F' n (x',c.2)=some out'∧
   (show Int from out.1)=(show Int from out'.1)∧Rw e kk true tb (.sl e1 k1) (.sl e2 k2) out.2.1 out'.2.1 ms∧ms.Nodup∧∀m∈ms,m∈ns) :
  aA P n ⟨f, .jG (.sl e1 k1) ow wt :: rest,[.into 0 []],F⟩:=by
 intro c out hout cx α args w hnt hw hsz hP H
 obtain ⟨x',ns,ms,tb,out',hR,hnd,hn0,hF',hRI,Xy,hmm,hsub⟩:=hF c out hout
 have ha:((K.sl e1 k1).tys.all fun t=>au t ow)=true:=ags.2 hown
 have ha':((K.sl e2 k2).tys.all fun t=>au t ow)=true:=ags.2 hown'
 have wY:∀r,(bZ (.jG (.sl e1 k1) ow wt :: rest) c).roots r=bif Nat.beq r (ak 0) then some { aI (.sl e1 k1) c.1 ow [] .anon true with fixed:=true } else none:=fun r=>by
  show gu (gp (.jG (.sl e1 k1) ow wt :: rest) 0 c) r=_
  simp only [gp,pI hrest,gu,ha,cond_true]
  rfl
 have hR0:aO (bZ (.jG (.sl e1 k1) ow wt :: rest) c) (ak 0) { aI (.sl e1 k1) c.1 ow [] .anon true with fixed:=true }:=⟨by rw [wY]; simp,rfl⟩
 have lD:∀r,r≠ak 0→(bZ (.jG (.sl e1 k1) ow wt :: rest) c).roots r=none:=fun r hr=>by
  rw [wY]
  have:Nat.beq r (ak 0)=false:=by
   cases hb:Nat.beq r (ak 0) with
   | true=>exact absurd (agf hb) hr
   | false=>rfl
  rw [this]; rfl
 have hs0:(bZ (.jG (.sl e1 k1) ow wt :: rest) c).slots 0=.one (.ref (ak 0) 0):=rfl
 have hsl:∀s,s≠0→xO ((bZ (.jG (.sl e1 k1) ow wt :: rest) c).slots s):=fun s hs=>by
  show xO (oI (jd (.jG (.sl e1 k1) ow wt :: rest) 0 c) s)
  simp only [jd,oI]
  cases hb:Nat.beq s 0 with
  | true=>exact absurd (agf hb) hs
  | false=>exact uS hrest s
 obtain ⟨dR,dG,ig,i0,is,g1,g2,g3,g4,Ol⟩:=JI H hw (R0:={ aI (.sl e1 k1) c.1 ow [] .anon true with fixed:=true }) rfl hR0 lD rfl rfl hown (KE e (by simp [K.tys])) hs0 hsl (x':=x') hR hnd hn0 hown' rfl
 have hst:aj (bZ (.jG (.sl e1 k1) ow wt :: rest) c) (ak 0) { ({ aI (.sl e1 k1) c.1 ow [] .anon true with fixed:=true }:Root) with k:=.sl e2 k2,x:=x' }=bZ (.jG (.sl e2 k2) ow oP :: rest) (x',c.2):=by
  unfold aj bZ
  congr 1
  funext r
  show upd (bZ (.jG (.sl e1 k1) ow wt :: rest) c).roots (ak 0) _ r=gu (gp (.jG (.sl e2 k2) ow oP :: rest) 0 (x',c.2)) r
  simp only [gp,pI hrest,gu,ha',cond_true]
  unfold upd
  cases hb:Nat.beq r (ak 0) with
  | true=>rfl
  | false=>simp only [cond_false]; rw [wY,hb]; rfl
 rw [hst] at Ol
 have D5:∀j,(∃k,sO (.jG (.sl e1 k1) ow wt :: rest) j k)→∃k,sO (.jG (.sl e2 k2) ow oP :: rest) j k:=by
  rintro j ⟨k0,o1,o2,o3,h⟩
  cases j with
  | zero=>exact ⟨.sl e2 k2,ow,oP,[], .inr rfl⟩
  | succ j=>exact ⟨k0,o1,o2,o3,by simpa using h⟩
 have hP':yN (Db cx (aQ dR)) (.jG (.sl e2 k2) ow oP :: rest):=by
  refine ⟨fun j yA hj hkp=>?_,fun j p ts v h=>h.elim,fun j v h=>D5 j (hP.ref j v h)⟩
  obtain ⟨pi,hj',rfl⟩:=lq (cx:=cx) hj
  exact D5 j (hP.par j pi hj' hkp)
 have h:=hE (gy fr ig i0 is) (x',c.2) out' hF' (Db cx (aQ dR)) _ args w hnt hw hsz hP' Ol
 have hpost:∀v w', @Post (gy fr ig i0 is) (Db cx (aQ dR)) (.jG (.sl e2 k2) ow oP :: rest) [.into 0 []] out' v w'→@Post fr cx (.jG (.sl e1 k1) ow wt :: rest) [.into 0 []] out v w':=by
  rintro v w' ⟨σ1,dJ,F1,a1,vs,bC,H1,rfl,hL,hfn,IC,hOut,_⟩
  obtain ⟨Q,q1,q2,⟨ek,ey⟩,q4,q5,_⟩:=hOut
  have hRQ:=Ko ek ey Xy
  obtain ⟨nL,t3,t4⟩:=select (dR:=dR) (ns:=ms) (fun m hm=>by rw [g1]; exact hsub m hm)
  have sW:=q5
  unfold wO at sW
  simp only [agi] at sW
  obtain ⟨⟨⟨⟨l1,l2⟩,_⟩,_⟩,l5⟩:=sW
  have hg0:Q.g=0:=agf l5
  have htr:∀{l:List Nat},kF l oP=true→kF l wt=true:=fun hl=>jf.2 fun t ht=>jf.1 hwt t (jf.1 hl t ht)
  cases vs with
  | nil=>exact hL.elim
  | cons v vs=>
   cases bC with
   | nil=>exact hL.elim
   | cons fo bC=>
    obtain ⟨⟨rfl,_,b,m,cp,e3,e4,e5⟩,hL2⟩:=hL
    cases vs with
    | cons _ _=>cases bC <;> exact hL2.elim
    | nil=>
     cases bC with
     | cons _ _=>exact hL2.elim
     | nil=>
      obtain ⟨hQn,hQV⟩:=e5 Q ⟨q1,q2.1⟩ hg0
      have r1:=ME (fr:=fr) H hw (R0:={ aI (.sl e1 k1) c.1 ow [] .anon true with fixed:=true }) rfl hR0 lD rfl rfl ⟨rfl,rfl⟩ hown hown' KE g2 (by rw [g1]; exact hnd) g3 g4 H1 q1 q2 ek (fun t ht=>by
        have:=ags.1 q4 t ht
        rw [hown' t ht] at this
        simpa using this) hQn hg0 (wt:=wt) ⟨htr l1,htr l2⟩ (y:=out.2.1) (nL:=nL) (by rw [t3]; exact hRQ) t4 (by rw [t3]; exact hmm) (fun j p ts v h hj=>by
         obtain ⟨k0,⟨o1,o2,o3,h1⟩,h2⟩:=hP.ptr j p ts v h
         subst hj
         rcases h1 with h1 | h1
         ·simp at h1
         ·simp only [List.getElem?_cons_zero,agb,fF.jG.injEq] at h1
          rw [h2, ←h1.1]; rfl)
      refine ⟨_,_,[],a1,[v],[[]],r1,rfl,⟨⟨rfl,rfl,b,m,cp, ?_, ?_, ?_⟩,trivial⟩,by simp,by simp,⟨_,qd,⟨rfl,rfl⟩,⟨rfl,rfl⟩, ?_, ?_, .inl ha⟩,yC hrest⟩
      ·have hI:(show Int from (Cont.fst (gV [uw.into 0 []]) _ out).1)=(show Int from (Cont.fst (gV [uw.into 0 []]) _ out').1):=hRI
       rw [hI]; exact e3
      ·have hI:(show Int from (Cont.fst (gV [uw.into 0 []]) _ out).1)=(show Int from (Cont.fst (gV [uw.into 0 []]) _ out').1):=hRI
       rw [hI]; exact e4
      ·intro R' hR' _
       obtain ⟨_,rfl⟩:=nI hR'.1
       refine ⟨rfl, ?_⟩
       have ek:Q.k=.sl e2 k2:=ek
       rw [ek] at hQV
       exact ND hQV
      ·exact ags.2 fun t _=>by simp [jR]; rfl
      ·unfold wO jR
       simp only [kF,List.all_nil,agi,ags]
       exact ⟨⟨⟨⟨fun x hx=>aJ.2 hx,trivial⟩,fun x hx=>aJ.2 hx⟩,fun x hx=>aJ.2 hx⟩,rfl⟩
 rcases h with ⟨h1,h2⟩ | ⟨v,w',h1,h2⟩
 ·refine .inl ⟨h1,h2.mono ?_⟩
  rintro e w' ⟨v,rfl,hv⟩
  exact ⟨v,rfl,hpost v w' hv⟩
 ·exact .inr ⟨v,w',h1,hpost v w' h2⟩
end
end Go.Proofs.Ytabnmpabdhmkoaa.Ow
