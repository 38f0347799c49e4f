/- A verified reading of translated code: values in place of memory; part F of 6, spaces and remarks taken out. No condition. Own work of this seat. -/
import Derived.Test.YtailcbngagacaabGreatOwE
import Derived.Test.YtailcbngagacaabGreatOwC
import Derived.Conc.MuLone
import Derived.ChangeArms
import Derived.ChangeReads
import Derived.ChangeOld
import Derived.ChangeSame
import Derived.DataShut
set_option linter.unusedSectionVars false
set_option linter.unusedVariables false
set_option linter.unusedSimpArgs false
namespace Go.Proofs.YtailcbngagacaabGreat.Ow
section
open Go
variable [Fr]
section
variable {P:Program} {T:iT} {cx:Cx} {σ σ':St} {α:dL} {F:List Nat} {a:Act} {w:World} {iY:QZ} {rs:List Nat}
theorem YD (H:Rel cx σ α F a w) (hP:Q3 cx iY) (hB:OW σ iY rs σ'):Rel cx σ' α F a w:=by
 have Vb:∀{r:Nat} {R':Root},aP σ' r R'→∃R,Cz σ iY rs r R R':=fun h=>by
  obtain ⟨_,_,R,h⟩:=hB.roots _ _ h.1
  exact ⟨R,h⟩
 have xR:∀{j:Nat} {q},iX (ay j) iY=some q→∃R R',σ'.roots (ay j)=some R'∧Cz σ iY rs (ay j) R R':=fun h=>by
  obtain ⟨R',hR'⟩:=hB.made _ (hB.iY _ _ h)
  obtain ⟨_,_,R,h⟩:=hB.roots _ _ hR'
  exact ⟨R,R',hR',h⟩
 have hsame:∀{τ:St} {r:Nat} {R Q:Root},τ.roots r=some R→τ.roots r=some Q→Q=R:=fun h1 h2=>by rw [h1] at h2; simpa using h2.symm
 refine ⟨H.defs,H.sz, ?_, ?_, ?_, ?_, ?_, ?_, ?_,H.fl,H.zV, ?_,H.frame, ?_,H.oM, ?_, ?_⟩
 ·intro j pi b o n hj hb
  obtain ⟨Q,hQ,hk,hl,hs⟩:=H.lQ j pi b o n hj hb
  obtain ⟨q,hq⟩:=hP.par j pi hj (.inr ⟨_,hb⟩)
  obtain ⟨R,R',hR',h1⟩:=xR hq
  have:=hsame hQ.1 h1.live.1
  subst this
  obtain ⟨k1,k2,_,_,_,k6⟩:=h1.kind
  exact ⟨R',⟨hR',k6.trans hQ.2⟩,k1.trans hk,hl,by rw [k2]; exact hs⟩
 ·intro r R' hr hk
  obtain ⟨R,h1⟩:=Vb hr
  exact H.Ep r R h1.live (h1.kind.1.symm.trans hk)
 ·intro s
  rcases hB.slots s with h | ⟨sh,av,d,h1,h2,h3,h4⟩
  ·rw [h]; trivial
  ·rw [h3]
   have:=H.slots s
   rw [h1] at this
   exact (hB.av H h2 h4 this).1
 ·intro s
  rcases hB.slots s with h | ⟨sh,av,d,h1,h2,h3,h4⟩
  ·rw [h]; trivial
  ·rw [h3]
   have:=H.slots s
   rw [h1] at this
   exact (hB.av H h2 h4 this).2
 ·intro r R' hr
  obtain ⟨R,h1⟩:=Vb hr
  have O:=H.roots r R h1.live
  have hb:=(Cz.blk (α:=α) h1).1
  have hw:=(Cz.blk (α:=α) h1).2
  have ht:=h1.tags
  have hv:=h1.valid
  obtain ⟨ow,tg,ew,eh,rfl,hown⟩:=h1.form
  refine ⟨fun _=>rF hown (bz (fun _ _=>rfl) (fun b hb2=>?_) (fun _ _=>rfl) (O.ow hv)),O.len, ?_, ?_, ?_⟩
  ·exact hB.iL (fun t h hi=>⟨0,ht t h hi⟩) hb2
  ·rw [hw]; exact O.mem
  ·rw [hb]; exact O.nd
  ·rw [hb]; exact O.mine
 ·intro r R' hr
  obtain ⟨g1,g2,R,h1⟩:=hB.roots r R' hr
  refine ⟨fun t ht=>?_,g2,fun n hn=>(h1.abp _ hn).2.2 rfl⟩
  obtain ⟨f1,f2,_⟩:=h1.abp t ht
  rcases f2 with h | h
  ·exact .inl h
  ·obtain ⟨Q,hQ⟩:=hB.made _ h
   exact .inr ⟨Q,hQ, .inr (by rw [f1]; exact anR _)⟩
 ·intro r R1 r' R2 h1 h2 hne b hb
  obtain ⟨Q1,g1⟩:=Vb h1
  obtain ⟨Q2,g2⟩:=Vb h2
  rw [(Cz.blk (α:=α) g1).1] at hb
  rw [(Cz.blk (α:=α) g2).1]
  exact H.Iu r Q1 r' Q2 g1.live g2.live hne b hb
 ·intro r R' hr b hb
  obtain ⟨R,h1⟩:=Vb hr
  rw [(Cz.blk (α:=α) h1).1] at hb
  exact H.iP r R h1.live b hb
 ·intro j pi hj hk
  obtain ⟨⟨k,wt,ht⟩,hq⟩:=hP.par j pi hj (.inl hk)
  obtain ⟨R,R',hR',h1⟩:=xR hq
  obtain ⟨l1,l2,l3,l4,l5,l6,l7,l8⟩:=h1.log k wt ht hq
  obtain ⟨Q,hQ,hk2⟩:=H.uu j pi hj hk
  have:=hsame h1.live.1 hQ
  subst this
  refine ⟨R',hR',fun _ b hb hnb=>?_⟩
  rcases hk2 h1.live.2 b hb hnb with ⟨e,e1,e2⟩ | ⟨g1,g2,g3⟩
  ·refine .inl ⟨e,e1, .inr ?_⟩
   rw [l2]
   rcases e2 with h | h
   ·exact l4 e h
   ·exact l5 e h
  ·refine .inr ⟨g1,g2,fun q Q hQ hbq=>?_⟩
   obtain ⟨Q0,h2⟩:=Vb hQ
   rw [(Cz.blk (α:=α) h2).1] at hbq
   exact g3 q Q0 h2.live hbq
 ·intro j p ts v hv
  obtain ⟨k,⟨wt,ht⟩,hq,hts⟩:=hP.ptr j p ts v hv
  obtain ⟨R,R',hR',h1⟩:=xR hq
  obtain ⟨l1,l2,l3,l4,l5,l6,l7,l8⟩:=h1.log k wt ht hq
  obtain ⟨f1,Q,hQ,f2⟩:=H.vU j p ts v hv
  have:=hsame h1.live.1 hQ
  subst this
  refine ⟨f1,R',hR',fun hno=>?_⟩
  rw [l3] at hno
  have Xr:=f2 (fun t h1 h2=>hno t h1 (l7 t h2))
  refine ⟨f1,fun Q2 hQ2 _ _ hpt hg=>?_⟩
  have:=hsame hR' hQ2
  subst this
  have hw:=(Cz.blk (α:=α) h1).2
  have hv1:=h1.valid
  have hr1:=h1.live.1
  obtain ⟨ow,tg,ew,eh,rfl,hown⟩:=h1.form
  obtain ⟨q1,q2⟩:=Xr.2 Q hr1 hv1 (by
    unfold clean
    rw [anx]
    intro t ht1
    have h3:t∈Q.h:=List.mem_of_mem_take ht1
    simp only [Bool.not_eq_true',aV]
    rw [l1, ←hts]
    exact fun h4=>hno t h4 (l6 t h3))
   (fun t ht=>by rw [←hown t (oN p t ht)]; exact hpt t ht) hg
  exact ⟨q1,by rw [hw]; exact q2⟩
 ·intro j v hv
  obtain ⟨⟨k,wt,ht⟩,hq⟩:=hP.ref j v hv
  obtain ⟨R,R',hR',h1⟩:=xR hq
  obtain ⟨l1,l2,l3,l4,l5,l6,l7,l8⟩:=h1.log k wt ht hq
  obtain ⟨_,f2⟩:=H.vV j v hv
  refine ⟨⟨R',hR'⟩,fun Q2 hQ2 _=>?_⟩
  have:=hsame hR' hQ2.1
  subst this
  obtain ⟨q1,q2⟩:=f2 R h1.live l8
  obtain ⟨k1,k2,_⟩:=h1.kind
  exact ⟨k1.trans q1,by rw [k2]; exact q2⟩
structure ae7 (iY:QZ) (rs:List Nat) (s:PSt):Prop where
 slots:∀q∈s.ss,∀i∈q.2.idl,AR rs i
 roots:∀q∈s.rs,q.1∈rs∧fI q.1=false∧(∀i∈q.2.ids,AR rs i∧i≠q.1)∧q.2.log=iX q.1 iY
 keys:∀r∈rs,∃q∈s.rs,q.1=r
 iY:∀r q,iX r iY=some q→r∈rs
theorem Si:∀{l:List (Nat×OB)} {c:Cont (Vq l)},ctS σ rs l=some c→∀n,mkS l c n=.one .undef∨∃sh av d,(n,sh)∈l∧σ.slots n=.one av∧UM σ rs sh av=some d∧mkS l c n=.one (mkA sh d)
 | [],_,_,_=>.inl rfl
 | (s,sh) :: l,c,h,n=>by
  simp only [ctS] at h
  split at h
  ·rename_i av hs
   split at h
   ·rename_i x y hx hy
    have h2:Cont.app sh.ks (Vq l) x y=c:=anS h
    subst h2
    simp only [mkS]
    rw [D8,EM]
    cases hb:Nat.beq n s with
    | true=>
     have:=anl hb
     subst this
     exact .inr ⟨sh,av,x,by simp,hs,hx,rfl⟩
    | false=>
     rcases Si hy n with h | ⟨sh',av',d,g1,g2,g3,g4⟩
     ·exact .inl h
     ·exact .inr ⟨sh',av',d, .tail _ g1,g2,g3,g4⟩
   ·simp at h
  ·split at h
   ·split at h
    ·rename_i d hd
     have h2:d=c:=anS h
     subst h2
     simp only [mkS]
     cases hb:Nat.beq n s with
     | true=>exact .inl rfl
     | false=>
      rcases Si hd n with h | ⟨sh',av',d,g1,g2,g3,g4⟩
      ·exact .inl h
      ·exact .inr ⟨sh',av',d, .tail _ g1,g2,g3,g4⟩
    ·simp at h
   ·simp at h
theorem YG {a b:Gs} (h:YF a b=true):a=b:=by
 cases a <;> cases b <;> simp_all [YF]
theorem Yn:∀{l:List (Nat×OX)} {c:Cont (Y9 l)},ctR σ rs l=some c→∀n R',mkR l c n=some R'→∃sh R,(n,sh)∈l∧σ.roots n=some R∧bu σ R∧mO (oI rs R.tags) sh.ids=true∧ac7 R sh.log=true∧
   (∀t∈R.k.tys,az t sh.own=az t R.own)∧R'={ R with own:=sh.own,tags:=sh.ids.map fun r=>(r,0),w:=[],h:=[],g:=0,ew:=agi sh.log,eh:=agh sh.log }
 | [],_,_,_,_,h=>by simp [mkR] at h
 | (r,sh) :: l,c,h,n,R',hm=>by
  simp only [ctR] at h
  split at h
  ·rename_i R hR
   obtain ⟨hb,h⟩:=ug h
   split at h
   ·rename_i x y hx hy
    have h2:(x,y)=c:=anS h
    subst h2
    simp only [mkR] at hm
    cases hn:Nat.beq n r with
    | false=>
     rw [hn] at hm
     obtain ⟨sh',R2,g1,g2⟩:=Yn hy n R' hm
     exact ⟨sh',R2, .tail _ g1,g2⟩
    | true=>
     rw [hn] at hm
     have:=anl hn
     subst this
     simp only [ann] at hb
     obtain ⟨⟨⟨⟨⟨⟨⟨b1,b2⟩,b3⟩,b4⟩,b5⟩,b6⟩,b7⟩,b8⟩:=hb
     obtain ⟨e,ex⟩:=bL hx
     refine ⟨sh,R,by simp,hR,⟨by simpa using b7,b1⟩,b2,b8,fun t ht=>?_, ?_⟩
     ·have:=anx.1 b3 t (e▸ht)
      simp only [beq_iff_eq] at this
      exact this.symm
     ·have b4':=YG b4
      have b5':R.fixed=sh.fixed:=by simpa using b5
      have b6':R.keep=sh.keep:=by simpa using b6
      obtain ⟨k,ow,ids,kd,fx,kp,lg⟩:=sh
      simp only at e ex b4' b5' b6'
      obtain ⟨Rk,Rx,ab6,WA,Rw,Rh,Rg,Wz,ajc,Wy,Rew,Reh⟩:=R
      simp only at e ex b4' b5' b6'
      subst e b4' b5' b6'
      simp only at ex
      subst ex
      simp only [cond_true,anh] at hm
      exact hm.symm
   ·simp at h
  ·simp at h
theorem Qe:∀{l:List (Nat×OX)} (c:Cont (Y9 l)) {r:Nat},(∃q∈l,q.1=r)→∃R',mkR l c r=some R'
 | [],_,_,h=>by obtain ⟨q,h,_⟩:=h; simp at h
 | (s,sh) :: l,c,r,h=>by
  simp only [mkR]
  cases hb:Nat.beq r s with
  | true=>exact ⟨_,rfl⟩
  | false=>
   refine Qe c.2 ?_
   obtain ⟨q,h1,h2⟩:=h
   rcases anu.1 h1 with h | h
   ·subst h; simp only at h2; subst h2; simp at hb
   ·exact ⟨q,h,h2⟩
theorem OW.of {s:PSt} (hs:ae7 iY rs s) {c:s.V} (h:UN rs s σ=some c):OW σ iY rs (Oa s c):=by
 unfold UN at h
 split at h
 ·rename_i x y hx hy
  have h2:Cont.app (Vq s.ss) (Y9 s.rs) x y=c:=anS h
  subst h2
  have e1:(Oa s (Cont.app (Vq s.ss) (Y9 s.rs) x y)).slots=mkS s.ss x:=by unfold Oa; rw [D8]
  have e2:(Oa s (Cont.app (Vq s.ss) (Y9 s.rs) x y)).roots=mkR s.rs y:=by unfold Oa; rw [EM]
  refine ⟨fun r R' hr=>?_,fun r hr=>?_,fun n=>?_,hs.iY⟩
  ·rw [e2] at hr
   obtain ⟨sh,R,g1,g2,g3,g4,g5,g6,g7⟩:=Yn hy r R' hr
   obtain ⟨f1,f2,f3,f4⟩:=hs.roots _ g1
   refine ⟨f1,f2,R,⟨g2,g3.1⟩,g3,⟨_,_,_,_,g7,g6⟩, ?_, ?_, ?_⟩
   ·intro t ht hi
    rw [g7]
    obtain ⟨n,hn⟩:=aau g4 t ht hi
    obtain ⟨i,hi1,hi2⟩:=anT.1 hn
    simp only [ant] at hi2
    have h0:n=0:=hi2.2.symm
    subst h0
    exact hn
   ·intro t ht
    rw [g7] at ht
    obtain ⟨i,h1,rfl⟩:=anT.1 ht
    exact ⟨rfl,f3 i h1⟩
   ·intro k wt ht hq
    simp only at f4
    rw [f4,hq] at g5 g7
    simp only [ac7,Cr,ann,jG] at g5
    obtain ⟨p1,⟨⟨⟨p2,p3⟩,p4⟩,p5⟩,p6⟩:=g5
    subst g7
    exact ⟨K.eq_of_beq p1,rfl,rfl,p2,p3,p4,p5,anl p6⟩
  ·rw [e2]
   exact Qe y (hs.keys r hr)
  ·rw [e1]
   rcases Si hx n with h | ⟨sh,av,d,g1,g2,g3,g4⟩
   ·exact .inl h
   ·exact .inr ⟨sh,av,d,g2,g3,g4,hs.slots _ g1⟩
 ·simp at h
theorem KT:∀{l:List (TypeId×Dat×List Tag)},∀i∈(KS rs l).flatMap (fun c=>c.2.2),AR rs i
 | [],i,h=>by simp [KS] at h
 | (t,d,tags) :: l,i,h=>by
  simp only [KS,List.flatMap_cons,anq] at h
  rcases h with h | h
  ·exact (vv.1 h).2
  ·exact KT i h
theorem Px {rs ex:List Nat}:∀i∈Xf rs ex,AR rs i:=by
 intro i hi
 unfold Xf at hi
 rw [anA,Bool.or_eq_true,aM] at hi
 exact hi.2
theorem aas {ex:List Nat} {av:AV}:∀i∈(shA rs ex av).idl,AR rs i:=by
 intro i hi
 cases av <;> simp only [shA,OB.idl,List.not_mem_nil] at hi
 ·rcases anq.1 hi with hi | hi
  ·exact (vv.1 hi).2
  ·exact Px i hi
 ·exact (vv.1 hi).2
 ·exact KT i hi
theorem Ud {wd:List (Nat×List Nat)}:∀{l:List Nat},∀q∈shS wd rs σ l,∀i∈q.2.idl,AR rs i
 | [],q,h,_,_=>by simp [shS] at h
 | s :: l,q,h,i,hi=>by
  simp only [shS,anu] at h
  rcases h with h | h
  ·subst h
   split at hi
   ·exact aas i hi
   ·simp [OB.idl] at hi
  ·exact Ud q h i hi
theorem YL {wd:List (Nat×List Nat)}:∀{l:List Nat} {q:List (Nat×OX)},shR wd iY rs σ l=some q→(∀z∈q,z.1∈l∧∃R,σ.roots z.1=some R∧z.2.ids=oI rs R.tags++(Xf rs (vQ (2 * z.1+1) wd)).filter (fun q=>!Nat.beq q z.1)∧z.2.log=iX z.1 iY)∧∀r∈l,∃z∈q,z.1=r
 | [],q,h=>by simp [shR] at h; subst h; simp
 | r :: l,q,h=>by
  simp only [shR] at h
  split at h
  ·rename_i R q' hR hq
   obtain ⟨i1,i2⟩:=YL hq
   simp only [anh] at h
   subst h
   refine ⟨fun z hz=>?_,fun r' hr=>?_⟩
   ·rcases anu.1 hz with h | h
    ·subst h; exact ⟨by simp,R,hR,rfl,rfl⟩
    ·obtain ⟨f1,f2⟩:=i1 z h
     exact ⟨.tail _ f1,f2⟩
   ·rcases anu.1 hr with h | h
    ·exact ⟨_,anP,h.symm⟩
    ·obtain ⟨z,z1,z2⟩:=i2 r' h
     exact ⟨z, .tail _ z1,z2⟩
  ·simp at h
theorem Gz:∀{l:QZ} {r:Nat} {q},iX r l=some q→∃p∈l,p.1=r
 | [],_,_,h=>by simp [iX] at h
 | (s,p) :: l,r,q,h=>by
  simp only [iX] at h
  cases hb:Nat.beq r s with
  | true=>exact ⟨_,anP,(anl hb).symm⟩
  | false=>
   rw [hb] at h
   obtain ⟨p',h1,h2⟩:=Gz h
   exact ⟨p', .tail _ h1,h2⟩
theorem aat {wd:List (Nat×List Nat)} (H:Rel cx σ α F a w) {ss:List Nat} {s:PSt} (h:adl wd iY ss rs σ=some s):ae7 iY rs s:=by
 unfold adl at h
 split at h
 ·rename_i q hq
  obtain ⟨hb,h⟩:=ug h
  simp only [anh] at h
  subst h
  obtain ⟨i1,i2⟩:=YL hq
  refine ⟨Ud,fun z hz=>?_,i2,fun r q hf=>?_⟩
  ·obtain ⟨f1,R,f2,f3,f4⟩:=i1 z hz
   obtain ⟨_,g2,g3⟩:=H.dz _ R f2
   refine ⟨f1,g2,fun i hi=>?_,f4⟩
   rw [f3] at hi
   rcases anq.1 hi with hi | hi
   ·obtain ⟨⟨n,hn⟩,h2⟩:=vv.1 hi
    exact ⟨h2,fun e=>g3 n (e▸hn)⟩
   ·rw [anA] at hi
    refine ⟨Px i hi.1,fun e=>?_⟩
    subst e
    have:=hi.2
    simp at this
  ·obtain ⟨p,p1,p2⟩:=Gz hf
   have:=anx.1 hb p p1
   rw [←p2]
   exact aM.1 this
 ·simp at h
end
end
section
open Go
variable [Fr]
def exC:Exit→Option Ex
 | .normal=>some .normal
 | .exit i=>some (.exit i)
 | .ret=>some .ret
 | _=>none
section
variable {P:Program} {T:iT} {hi:Hint} {n:Nat} {cx:Cx} {σ:St} {α:dL} {F:List Nat} {a:Act} {w:World} {R:Type} {r:R} {ag:Option R→Option R→Option R}
def QK (cx:Cx) (K:Ex→St→Option R) (r:R) (e:Exit) (a:Act) (w:World):Prop:=∃x σ α F,exC e=some x∧K x σ=some r∧Rel cx σ α F a w
theorem least {p:Nat→Prop} (h:∃n,p n):∃m,p m∧∀k,p k→m≤k:=by
 obtain ⟨n,hn⟩:=h
 induction n using Nat.strongRecOn with
 | _ n ih=>
  by_cases hk:∃k,k<n∧p k
  ·obtain ⟨k,h1,h2⟩:=hk
   exact ih k h1 h2
  ·exact ⟨n,hn,fun k h=>Nat.le_of_not_lt fun hlt=>hk ⟨k,hlt,h⟩⟩
theorem ach (hag:∀{a b z},ag a b=some z→a=some z∧b=some z) (hm:P.follows .mixedOrders=true) (hT:eF P T) (hSt:Lh P T) (hC:uQ P n hi) (hnt:hi.nt=cx.nt) (hP:Q3 cx hi.iY) :
  ∀(code:Code) (b:Nat) {σ:St} {α:dL} {F:List Nat} {a:Act} {w:World} {K:Ex→St→Option R},den T hi n ag b code σ K=some r→Rel cx σ α F a w→code.wp P (QK cx K r) a w:=by
 intro code
 induction code with
 | skip=>intro b σ α F a w K h H; exact wp_skip ⟨_,_,_,_,rfl,h,H⟩
 | exit id=>intro b σ α F a w K h H; exact wp_exit ⟨_,_,_,_,rfl,h,H⟩
 | ret=>intro b σ α F a w K h H; exact wp_ret ⟨_,_,_,_,rfl,h,H⟩
 | seq x y ihx ihy=>
  intro b σ α F a w K h H
  refine wp_seq (wp_mono (ihx b h H) ?_)
  rintro e a' w' ⟨ex,σ',α',F',h1,h2,h3⟩
  cases e <;> simp only [exC,anh,reduceCtorEq] at h1
  ·subst h1; exact ihy b h2 h3
  ·subst h1; exact ⟨_,_,_,_,rfl,h2,h3⟩
  ·subst h1; exact ⟨_,_,_,_,rfl,h2,h3⟩
 | cond c x y ihx ihy=>
  intro b σ α F a w K h H
  simp only [den] at h
  obtain ⟨v0,h1,h2⟩:=wG _ h
  obtain ⟨v,g1,g2,g3⟩:=bR H h1
  have ev:v0=v:=g3
  subst ev
  have hplain:((asBool v0 .ret).run σ fun t=>if t=true then den T hi n ag b x σ K else den T hi n ag b y σ K)=some r→Code.wp P (.cond c x y) (QK cx K r) a w:=by
   intro h2
   obtain ⟨t,h3,h4⟩:=wG _ h2
   obtain ⟨b',e1,e2⟩:=Jg g1 h3
   have e2':t=b':=e2
   subst e2'
   refine wp_cond (t:=t) e1 ?_
   cases t with
   | true=>exact ihx b h4 H
   | false=>exact ihy b h4 H
  cases v0 with
  | Aj e=>
   simp only at h2
   obtain ⟨b',e1,e2⟩:=g1
   refine wp_cond (t:=b') e1 ?_
   cases b' with
   | true=>
    rw [if_pos (e2 rfl)] at h2
    exact ihx b (hag h2).1 H
   | false=>
    split at h2
    ·exact ihy b (hag h2).2 H
    ·exact ihy b h2 H
  | _=>exact hplain h2
 | block id x ih=>
  intro b σ α F a w K h H
  simp only [den] at h
  refine wp_block (wp_mono (ih id h H) ?_)
  rintro e a' w' ⟨ex,σ',α',F',h1,h2,h3⟩
  cases e <;> simp only [exC,anh,reduceCtorEq] at h1
  ·subst h1; exact ⟨_,_,_,_,rfl,h2,h3⟩
  ·rename_i i
   subst h1
   simp only at h2
   unfold Exit.inBlock
   simp only
   cases hb:Nat.beq i id with
   | true=>
    rw [hb] at h2
    rw [if_pos (anl hb)]
    exact ⟨_,_,_,_,rfl,h2,h3⟩
   | false=>
    rw [hb] at h2
    rw [if_neg (Nat.ne_of_beq_eq_false hb)]
    exact ⟨_,_,_,_,rfl,h2,h3⟩
  ·subst h1; exact ⟨_,_,_,_,rfl,h2,h3⟩
 | loop x ih=>
  intro b σ α F a w K h H
  simp only [den] at h
  split at h
  ·rename_i ss rs hf
   split at h
   ·rename_i s hs
    obtain ⟨αl,Hl⟩:=NY hi rs H
    have hok:=aat Hl hs
    split at h
    ·rename_i c hc
     have H0:=YD Hl hP (OW.of hok hc)
     generalize hB:(fun (L:s.V→Option R) v=>den T hi n ag b x (Oa s v) fun
      | .normal,σ'=>match UN rs s (CS hi rs σ') with
       | some v'=>L v'
       | none=>none
      | e,σ'=>K e σ')=B at h
     have hBi:∀(L:s.V→Option R) v,B L v=den T hi n ag b x (Oa s v) fun
      | .normal,σ'=>match UN rs s (CS hi rs σ') with
       | some v'=>L v'
       | none=>none
      | e,σ'=>K e σ':=fun L v=>by rw [←hB]
     let I:Nat→Act→World→Prop:=fun m a w=>∃v α F,rounds B m v=some r∧Rel cx (Oa s v) α F a w
     have hex:∀{m:Nat} {a:Act} {w:World},I m a w→∃m,I m a w:=fun h=>⟨_,h⟩
     classical
     refine wp_loop (fun a w=>∃m,I m a w) (fun a w=>if h:∃m,I m a w then Classical.choose (least h) else 0) ⟨_,_,_,_,h,H0⟩ ?_
     intro a w hI
     rw [dif_pos hI]
     have hI2:=(Classical.choose_spec (least hI)).1
     generalize Classical.choose (least hI)=m at hI2
     obtain ⟨v,α,F,h1,h2⟩:=hI2
     cases m with
     | zero=>simp [rounds] at h1
     | succ m=>
      have h1':B (rounds B m) v=some r:=h1
      rw [hBi] at h1'
      refine wp_mono (ih b h1' h2) ?_
      rintro e a' w' ⟨ex,σ',α',F',g1,g2,g3⟩
      cases e <;> simp only [exC,anh,reduceCtorEq] at g1
      ·subst g1
       simp only at g2
       split at g2
       ·rename_i v' hv'
        obtain ⟨αm,Hm⟩:=NY hi rs g3
        have hI':I m a' w':=⟨v',_,_,g2,YD Hm hP (OW.of hok hv')⟩
        refine ⟨⟨m,hI'⟩, ?_⟩
        rw [dif_pos ⟨m,hI'⟩]
        exact Nat.lt_succ_of_le ((Classical.choose_spec (least ⟨m,hI'⟩)).2 m hI')
       ·simp at g2
      ·subst g1; exact ⟨_,_,_,_,rfl,g2,g3⟩
      ·subst g1; exact ⟨_,_,_,_,rfl,g2,g3⟩
    ·simp at h
   ·simp at h
  ·simp at h
 | region id ops draw=>
  intro b σ α F a w K h H
  simp only [den] at h
  cases draw with
  | true=>
   have H':Rel cx σ α F a { w with drawn:=w.drawn+1 }:=H.drawn (w.drawn+1)
   exact wp_region_any hm (Xg hT hSt hC hnt (fun σ' α' F' a' w' h1 h2=>⟨_,_,_,_,rfl,h1,h2⟩) h H')
  | false=>
   refine wp_region ?_
   have:=RP (P:=P) (Q:=QK cx K r) hT hSt hC hnt (fun σ' α' F' a' w' h1 h2=>⟨_,_,_,_,rfl,h1,h2⟩) ops.toList 0 (by simp) h H
   rw [Array.length_toList, ←List.range_eq_range'] at this
   exact this
 | _=>intro b σ α F a w K h; simp [den] at h
end
end
section
open Go
variable [Fr]
def VN (a:Act):ResultVar→Sem Value
 | .tmp t=>pure (a.tmps.getD t undef)
 | .cell x t=>do loadVar t (←asAddr (a.tmps.getD x undef))
section
variable {P:Program} {T:iT} {cx:Cx} {σ:St} {α:dL} {F:List Nat} {a:Act} {w:World} {A:Type} {z:A}
theorem Vx (hT:eF P T) (H:Rel cx σ α F a w) {t:TypeId} {x:AV} {v:Value} {sM:Bool} {k:AV→Prog A} (h1:bI cx σ α F w x v) (h2:rG σ x) (h:(Eg T sM t x k).ends σ z) :
  ∃y u,(do loadVar t (←asAddr v):Sem Value).run P w=.ok u w∧bI cx σ α F w y u∧rG σ y∧(k y).ends σ z:=by
 have PX:∀{b o:Nat} {u:Value},(Instr.loadAt t (.pointer (some ⟨b,o,none⟩))).run P w=.ok u w→v=.pointer (some ⟨b,o,none⟩)→(do loadVar t (←asAddr v):Sem Value).run P w=.ok u w:=by
  intro b o u h e
  subst e
  exact h
 unfold Eg at h
 split at h
 ·exact h.elim
 ·rename_i kk hty
  have ht:=hT.ty t kk hty
  obtain ⟨s1,s2,s3⟩:=ht.shape
  split at h
  ·rename_i r g k0 p
   obtain ⟨u,b,off,k1,e,hq,hC,ho1,hR⟩:=h1
   obtain ⟨R,hr,hv,h⟩:=cB h
   rcases aA h with ⟨hc,h⟩ | ⟨_,h⟩
   ·simp only [ann] at hc
    cases hg:aQ p R.k R.x with
    | none=>rw [hg] at h; exact h.elim
    | some dd=>
     rw [hg] at h
     simp only at h
     obtain ⟨dk,dx⟩:=dd
     rcases beq_true h with ⟨ek,h5⟩ | ⟨_,h⟩
     ·simp only at ek
      subst ek
      have hk0:=K.eq_of_beq hc.1.2
      subst hk0
      obtain ⟨hka,Ea⟩:=hR R hr (anl hc.1.1)
      rw [Ea.cells] at hC
      have hwn:dV α R r=none:=by unfold dV; rw [hka]
      obtain ⟨g1,g2,g3,g4,g5⟩:=JS (h:=hp w) p hg ho1 (H.roots r R hr).len
      simp only at g1
      subst g1
      have hown:∀t∈ah p R.k,az t R.own=true:=fun t ht=>by rw [g5] at ht; simp at ht
      have hn:bG (hp w) p R.k (α.hdr r) (dV α R r)=some (((α.hdr r).drop off).take k1.size,none):=by rw [hwn]; exact g3
      obtain ⟨fK,hO,hf⟩:=u7 H hr hv hg g4 hown hn
      have hV:=oK H hr hO hf
      have hcs:Cells (hp w) b off (((α.hdr r).drop off).take k1.size):=by
       intro i hi
       have hi':i<k1.size:=by rw [BR g2] at hi; exact hi
       have:=hC (off+i) (by omega)
       rw [Nat.zero_add] at this
       rw [this,List.getElem?_take_of_lt hi',List.getElem?_drop]
      obtain ⟨u',hu⟩:=VC.mk s1 s2 s3 hV
      have hrun:=sW (P:=P) ht hcs (lI hV) hu
      rcases aA h5 with ⟨hf,h6⟩ | ⟨_,h6⟩
      ·exact ⟨.val k1 dx [],u',PX hrun e,fun _=>⟨_,hu,iV hf hV⟩,(fun t ht=>by simp at ht),h6⟩
      ·exact ⟨.sM r p R.wK,u',PX hrun e,AB (cx:=cx) (F:=F) hr hg g4 hown hn hu,⟨R,hr.1, .inr (anz _)⟩,h6⟩
     ·exact h.elim
   ·exact h.elim
  rcases za H h1 h2 h with ⟨r,R,p,dd,cs,b,q,hr,hv,hg,fO,hown,hn,e,h⟩ | ⟨bt,dd,Tg,b,q,cs,hw,e,hcs,hV,hok,hb,h⟩
  ·obtain ⟨hC,⟨fK,hO,hf⟩,_⟩:=qa H hr hv hg fO hown hn
   obtain ⟨dk,dx⟩:=dd
   rcases beq_true h with ⟨ek,h5⟩ | ⟨_,h⟩
   ·simp only at ek
    subst ek
    clear h
    have h:=h5
    clear h5
    have hV:=oK H hr hO hf
    obtain ⟨u,hu⟩:=VC.mk s1 s2 s3 hV
    have hrun:=sW (P:=P) ht hC (lI hV) hu
    rcases aA h with ⟨_,h⟩ | ⟨_,h⟩
    ·exact ⟨.sM r p R.wK,u,PX hrun e,AB (cx:=cx) (F:=F) hr hg fO hown hn hu,⟨R,hr.1, .inr (anz _)⟩,h⟩
    ·exact ⟨_,u,PX hrun e,(show bI cx σ α F w (.val dk dx _) u from fun _=>⟨cs,hu,hV⟩),MM H hr _,h⟩
   ·exact h.elim
  ·obtain ⟨dk,dx⟩:=dd
   rcases beq_true h with ⟨ek,h5⟩ | ⟨_,h⟩
   ·simp only at ek
    subst ek
    clear h
    have h:=h5
    clear h5
    obtain ⟨u,hu⟩:=VC.mk s1 s2 s3 hV
    have hrun:=sW (P:=P) ht hcs (lI hV) hu
    refine ⟨_,u,PX hrun e,(show bI cx σ α F w (.val dk dx _) u from fun _=>⟨cs,hu, ?_⟩), ?_,h⟩
    ·cases hf:dk.flat with
     | true=>exact iV hf hV
     | false=>exact hV
    ·cases hf:dk.flat with
     | true=>intro t ht; simp at ht
     | false=>exact hw
   ·exact h.elim
theorem EA (hT:eF P T) (H:Rel cx σ α F a w) {own:Bool} {rv:ResultVar} {k:AV→Prog A} (h:(Su T own rv k).ends σ z):∃y u,(VN a rv).run P w=.ok u w∧bI cx σ α F w y u∧rG σ y∧(k y).ends σ z:=by
 cases rv with
 | tmp t=>
  obtain ⟨v,h1,h2,h3⟩:=bR H h
  exact ⟨v,_,rfl,h1,h2,h3⟩
 | cell t ty=>
  obtain ⟨v,h1,h2,h3⟩:=bR H h
  exact Vx hT H h1 h2 h3
def QU (P:Program) (cx:Cx) (σ:St) (α:dL) (F:List Nat) (a:Act) (w:World):(rs:List lU)→List ResultVar→Cont (iB rs)→List Value→List (Value×iy)→List (List Tag)→Prop
 | [],[],_,[],[],[]=>True
 | .val k exts ig :: rs,rv :: xC,c,v :: vs,its,tg :: Dl=>((VN a rv).run P w=.ok v w∧(k.flat=true∨qA exts ig tg=true)∧Zz cx σ α F a w k c.1 tg v)∧QU P cx σ α F a w rs xC c.2 vs its Dl
 | .own k ow exts ig :: rs,rv :: xC,c,v :: vs,it :: its,Dl=>((VN a rv).run P w=.ok v w∧it.1=v∧wZ cx σ α F w v it.2∧(∃e:it.2.k=k,c.1=e▸it.2.x)∧mO (k.tys.filter fun t=>az t ow) it.2.own=true∧
   ((k.tys.all fun t=>az t ow)=true∨qA exts ig it.2.tags=true))∧QU P cx σ α F a w rs xC c.2 vs its Dl
 | _,_,_,_,_,_=>False
theorem Xi (hT:eF P T) (H:Rel cx σ α F a w):∀{rs:List lU} {xC:List ResultVar} {k:Cont (iB rs)→List iy→List (List Tag)→Prog A},(PD T rs xC k).ends σ z→
  ∃c vs its Dl,QU P cx σ α F a w rs xC c vs its Dl∧(k c (its.map (·.2)) Dl).ends σ z:=by
 intro rs
 induction rs with
 | nil=>
  intro xC k h
  cases xC with
  | nil=>exact ⟨(),[],[],[],trivial,h⟩
  | cons _ _=>exact h.elim
 | cons r rs ih=>
  intro xC k h
  cases xC with
  | nil=>cases r <;> exact h.elim
  | cons rv xC=>
   cases r with
   | into _ _=>exact h.elim
   | ptr _ _ _ _=>exact h.elim
   | val kk exts ig=>
    simp only [PD] at h
    obtain ⟨y,u,g1,g2,g3,h⟩:=EA hT H h
    have hgo:∀(x:El kk) (tags:List Tag),Zz cx σ α F a w kk x tags u→(bif kk.flat || qA exts ig tags then PD T rs xC fun c ts tg=>k (x,c) ts (tags :: tg) else .fail).ends σ z→
      ∃c vs its Dl,QU P cx σ α F a w (.val kk exts ig :: rs) (rv :: xC) c vs its Dl∧(k c (its.map (·.2)) Dl).ends σ z:=by
     intro x tags hv h
     rcases aA h with ⟨hb,h⟩ | ⟨_,h⟩
     ·obtain ⟨c,vs,its,Dl,f1,f2⟩:=ih h
      exact ⟨(x,c),u :: vs,its,tags :: Dl,⟨⟨g1,by simpa using hb,hv⟩,f1⟩,f2⟩
     ·exact h.elim
    have hval:(uO y fun k' x tags=>match bP k' kk x with
      | some y=>(bif kk.flat || qA exts ig (bif kk.flat then [] else tags) then PD T rs xC fun c ts tg=>k (y,c) ts ((bif kk.flat then [] else tags) :: tg) else .fail)
      | none=>.fail).ends σ z→∃c vs its Dl,QU P cx σ α F a w (.val kk exts ig :: rs) (rv :: xC) c vs its Dl∧(k c (its.map (·.2)) Dl).ends σ z:=by
     intro h
     obtain ⟨k',x,Tg,f1,f5⟩:=Jh H g2 g3 h
     cases hc:bP k' kk x with
     | none=>rw [hc] at f5; exact f5.elim
     | some y'=>
      rw [hc] at f5
      obtain ⟨ek,ey⟩:=bL hc
      subst ek
      simp only at ey
      subst ey
      cases hf:k'.flat with
      | true=>
       rw [hf] at f5
       exact hgo _ _ (f1.flat hf H) (by rw [hf]; exact f5)
      | false=>
       rw [hf] at f5
       exact hgo _ _ f1 (by rw [hf]; exact f5)
    cases y with
    | iQ=>
     cases kk with
     | sl e kk=>
      obtain ⟨b,rfl⟩:=g2
      exact hgo [] [] ⟨[.slice b 0 0],EL,fun _ _ _ _=>⟨b,0,0,rfl,rfl,anz _,fun h=>by omega⟩⟩ h
     | _=>exact h.elim
    | undef=>exact hval h
    | val _ _ _=>exact hval h
    | ref _ _=>exact hval h
    | sM _ _ _=>exact hval h
    | ptr _ _ _=>exact hval h
    | iZ _ _ _ _=>exact hval h
    | JA _ _ _ _=>exact hval h
    | Aj _=>exact hval h
    | part _ _ _ _ _=>exact hval h
    | xU _ _ _ _=>exact hval h
    | app _ _ _ _=>exact hval h
    | rV=>exact hval h
    | fn _ _=>exact hval h
   | own kk ow exts ig=>
    simp only [PD] at h
    obtain ⟨y,u,g1,g2,g3,h⟩:=EA hT H h
    obtain ⟨tk,htk,h⟩:=qK H g2 g3 h
    cases hc:bP tk.k kk tk.x with
    | none=>rw [hc] at h; exact h.elim
    | some y'=>
     rw [hc] at h
     rcases aA h with ⟨hb,h⟩ | ⟨_,h⟩
     ·simp only [ann,Bool.or_eq_true] at hb
      obtain ⟨c,vs,its,Dl,f1,f2⟩:=ih h
      exact ⟨(y',c),u :: vs,(u,tk) :: its,Dl,⟨⟨g1,rfl,htk,bL hc,hb.1,hb.2⟩,f1⟩,f2⟩
     ·exact h.elim
theorem U0 {σ1:St} {dK:dL} {F1:List Nat} (H1:Rel cx σ1 dK F1 a w) (hV:Views cx σ α F w σ1 dK F1 w):∀{rs:List lU} {xC:List ResultVar} {c:Cont (iB rs)} {vs:List Value} {its:List (Value×iy)} {Dl:List (List Tag)} {hs:List (List Value×List Nat)},
  QU P cx σ α F a w rs xC c vs its Dl→ry cx σ1 dK F1 w its hs→(∀t∈Dl.flatten,Same σ α σ1 dK t.1)→
  ∃bD,I6 cx σ1 dK F1 w rs c vs bD∧bD.flatten=hs.flatMap (·.2)∧(∀b∈bD.flatten,b∈F1)∧(xC.mapM (VN a)).run P w=.ok vs w:=by
 intro rs
 induction rs with
 | nil=>
  intro xC c vs its Dl hs h hh _
  cases xC <;> cases vs <;> cases its <;> cases Dl <;> first | exact h.elim | skip
  cases hs with
  | nil=>exact ⟨[],trivial,rfl,by simp,by simp⟩
  | cons _ _=>exact hh.elim
 | cons r rs ih=>
  intro xC c vs its Dl hs h hh hS
  cases r with
  | into _ _=>cases xC <;> cases vs <;> exact h.elim
  | ptr _ _ _ _=>cases xC <;> cases vs <;> exact h.elim
  | val kk exts ig=>
   cases xC <;> cases vs <;> cases Dl <;> first | exact h.elim | skip
   rename_i rv xC v vs tg Dl
   obtain ⟨⟨h1,h2,cs,h3,h4⟩,h5⟩:=h
   obtain ⟨bD,f1,f2,f3,f4⟩:=ih h5 hh (fun t ht=>hS t (by simp only [List.flatten_cons,anq]; exact .inr ht))
   refine ⟨[] :: bD,⟨⟨rfl,tg,cs,h2,h3,h4 σ1 dK F1 ⟨H1,hV,fun t ht=>hS t (by simp only [List.flatten_cons,anq]; exact .inl ht)⟩⟩,f1⟩,by simpa using f2,by simpa using f3, ?_⟩
   simp [List.mapM_cons,h1,f4,Result.andThen]
  | own kk ow exts ig=>
   cases xC <;> cases vs <;> cases its <;> first | exact h.elim | skip
   rename_i rv xC v vs it its
   obtain ⟨⟨h1,h2,h3,⟨e,ex⟩,h4,h5⟩,h6⟩:=h
   cases hs with
   | nil=>exact hh.elim
   | cons q hs=>
    obtain ⟨⟨q1,q2,q3⟩,hh⟩:=hh
    obtain ⟨bD,f1,f2,f3,f4⟩:=ih h6 hh hS
    refine ⟨q.2 :: bD,⟨⟨it.2.tags,q.1,it.2.own,h5, ?_, ?_, ?_⟩,f1⟩,by simp [f2], ?_, ?_⟩
    ·intro t ht hm
     exact aM.2 (jG.1 h4 t (anA.2 ⟨ht,hm⟩))
    ·rw [←h2]; subst e; exact q1
    ·subst e
     rw [ex]
     exact q2.ow q3
    ·intro b hb
     rw [List.flatten_cons] at hb
     rcases anq.1 hb with h | h
     ·exact q2.sub b h
     ·exact f3 b h
    ·simp [List.mapM_cons,h1,f4,Result.andThen]
end
end
section
open Go
variable [Fr]
section
variable {P:Program} {T:iT} {hi:Hint} {n:Nat} {cx:Cx} {σ:St} {α:dL} {F:List Nat} {a:Act} {w:World}
theorem Gy {i:Nat} {R:Root} (h:Iw σ i=some R):σ.roots (ay i)=some R∧bu σ R:=by
 unfold Iw at h
 split at h
 ·rename_i Q hQ
  cases hb:Q.bg || !bq σ Q.Ce Q.tags with
  | true=>rw [hb] at h; simp at h
  | false=>
   rw [hb] at h
   simp only [cond_false,anh] at h
   subst h
   simp only [Bool.or_eq_false_iff,Bool.not_eq_false'] at hb
   exact ⟨hQ,hb⟩
 ·simp at h
theorem FO:∀{ps:List dG} {i:Nat} {d:Cont (kD ps)},lK σ ps i=some d→Fv σ ps i d:=by
 intro ps
 induction ps with
 | nil=>intro i d _; trivial
 | cons p ps ih=>
  intro i d h
  cases p with
  | val k ig=>exact ih (show lK σ ps (i+1)=some d from h)
  | ro k=>exact ih (show lK σ ps (i+1)=some d from h)
  | own k ow=>exact ih (show lK σ ps (i+1)=some d from h)
  | fn f ks=>exact ih (show lK σ ps (i+1)=some d from h)
  | into j q=>exact ih (show lK σ ps (i+1)=some d from h)
  | rw k ow wt ht=>
   simp only [lK] at h
   split at h
   ·rename_i R d' hR hd
    obtain ⟨hb,h⟩:=ug h
    simp only [ann,Bool.or_eq_true] at hb
    obtain ⟨⟨b1,b2⟩,b3⟩:=hb
    obtain ⟨r1,r2⟩:=Gy hR
    split at h
    ·rename_i x hx
     have h2:(x,d')=d:=anS h
     subst h2
     exact ⟨⟨R,r1,r2,bL hx,b1,b2,b3⟩,ih hd⟩
    ·simp at h
   ·simp at h
  | jK k ow wt=>
   simp only [lK] at h
   split at h
   ·rename_i R d' hR hd
    obtain ⟨hb,h⟩:=ug h
    simp only [ann,Bool.or_eq_true] at hb
    obtain ⟨⟨b1,b2⟩,b3⟩:=hb
    obtain ⟨r1,r2⟩:=Gy hR
    split at h
    ·rename_i x hx
     have h2:(x,d')=d:=anS h
     subst h2
     exact ⟨⟨R,r1,r2,bL hx,b1,b2,b3⟩,ih hd⟩
    ·simp at h
   ·simp at h
theorem Br {fn:Func} {vs:List Value} (h:(fn.results.toList.mapM (VN a)).run P w=.ok vs w):(results fn a.tmps).run P w=.ok (YW vs) w:=by
 have h2:results fn a.tmps=(do
   let vs ←fn.results.mapM (VN a)
   pure (if h:vs.size=1 then vs[0] else .tuple vs)):=by
  unfold results
  congr 1
 rw [h2,Array.mapM_eq_mapM_toList]
 simp only [anI,map_eq_pure_bind,h,anB,anN]
 match vs with
 | []=>rfl
 | [v]=>rfl
 | v :: u :: vs=>simp [YW]
theorem ack (hT:eF P T) (H:Rel cx σ α F a w) {ps:List dG} {rs:List lU} {fn:Func} {out:Cont (iB rs++kD ps)} (h:fin T ps rs fn.results.toList σ=some out) :
  ∃v,(results fn a.tmps).run P w=.ok v w∧Post cx ps rs out v w:=by
 unfold fin at h
 obtain ⟨q,h1,h2⟩:=wG _ h
 obtain ⟨c,vs,its,Dl,f1,f2⟩:=Xi (P:=P) hT H h1
 rcases aA f2 with ⟨hb,f2⟩ | ⟨_,f2⟩
 ·have f2:q=_:=f2
  subst f2
  have e1:(its.map (·.2)).flatMap (·.ws)=uB its:=by simp [uB,List.flatMap_map]
  have e2:(its.map (·.2)).flatMap (·.tags)=qL its:=by simp [qL,List.flatMap_map]
  rw [e1,e2] at hb
  simp only [e1] at h2
  unfold ER Az at hb
  simp only [ann,vN,anx,Bool.not_eq_true',aV] at hb
  obtain ⟨b1,b2⟩:=hb
  have Tx:∀{rs:List lU} {xC:List ResultVar} {c:Cont (iB rs)} {vs:List Value} {its:List (Value×iy)} {Dl:List (List Tag)},QU P cx σ α F a w rs xC c vs its Dl→∀it∈its,wZ cx σ α F w it.1 it.2:=by
   intro rs
   induction rs with
   | nil=>intro xC c vs its Dl h it hi; cases xC <;> cases vs <;> cases its <;> first | exact h.elim | simp at hi
   | cons r rs ih=>
    intro xC c vs its Dl h it hi
    cases r with
    | into _ _=>cases xC <;> cases vs <;> exact h.elim
    | ptr _ _ _ _=>cases xC <;> cases vs <;> exact h.elim
    | val kk exts ig=>
     cases xC <;> cases vs <;> cases Dl <;> first | exact h.elim | exact ih h.2 it hi
    | own kk ow exts ig=>
     cases xC <;> cases vs <;> cases its <;> first | exact h.elim | skip
     rcases anu.1 hi with h3 | h3
     ·subst h3; rw [h.1.2.1]; exact h.1.2.2.1
     ·exact ih h.2 it h3
  obtain ⟨dK,F1,hs,H1,g1,g2,g3,g4,g5,g6,g7,g8,g9⟩:=takes its H (Tx f1) b1 (fun t ht=>b2 t (anm _ ht))
  obtain ⟨bD,k1,k2,k3,k4⟩:=U0 H1 g7 f1 g1 (fun t ht=>g5 t.1 (b2 t (anj _ ht)))
  split at h2
  ·rename_i d hd
   simp only [anh] at h2
   subst h2
   refine ⟨YW vs,Br k4,_,dK,F1,a,vs,bD,H1,rfl,by rw [D8]; exact k1,by rw [k2]; exact g2,k3,by rw [EM]; exact FO hd⟩
  ·simp at h2
 ·exact f2.elim
theorem Yz {A:Type} {z:A} {t:TypeId} {kk:K} {ow:List TypeId} {exts:List Nat} {x:AV} {v:Value} {k:El kk→Nat→Prog A} (hx:bI cx σ α F w x v) (h:(aam t kk ow exts x k).ends σ z) :
  ∃r R y b o,aP σ r R∧bu σ R∧R.kind=.var t∧mO (kk.tys.filter fun t=>az t ow) R.own=true∧((kk.tys.all fun t=>az t ow)=true∨qA exts [] R.tags=true)∧(∃e:R.k=kk,y=e▸R.x)∧dV α R r=some (b,o)∧v=.pointer (some ⟨b,o,none⟩)∧(k y r).ends σ z:=by
 cases x with
 | ptr r p n=>
  cases p with
  | cons s p=>exact h.elim
  | nil=>
   unfold aam at h
   obtain ⟨R,hr,hv,h⟩:=cB h
   rcases aA h with ⟨hb,h⟩ | ⟨_,h⟩
   ·simp only [ann,Bool.or_eq_true] at hb
    obtain ⟨⟨b1,b2⟩,b3⟩:=hb
    have hk:R.kind=.var t:=by
     unfold Root.X0 at b1
     split at b1
     ·rename_i u hu; rw [hu,anl b1]
     ·simp at b1
    cases hc:bP R.k kk R.x with
    | none=>rw [hc] at h; exact h.elim
    | some y=>
     rw [hc] at h
     obtain ⟨_,cs,b,o,hn,e⟩:=hx.2 R hr.1 hv (by unfold dY clean; simp [az]) (fun t ht=>by simp [ah] at ht) rfl
     simp only [bG,anh,ant] at hn
     exact ⟨r,R,y,b,o,hr,hv,hk,b2,b3,bL hc,hn.2,e,h⟩
   ·exact h.elim
 | _=>exact h.elim
theorem WY (H:Rel cx σ α F a w) {j:Nat} {x:AV} {v:Value} {m:Int} (hx:bI cx σ α F w x v) (h:(cutV j x fun m=>(.ret m:Prog Int)).ends σ m) :
  ∃b n cp,v=.slice b m.toNat cp∧m.toNat≤n∧bI cx σ α F w (.ref (ay j) 0) (.slice b n cp):=by
 cases x with
 | ref r g=>
  simp only [cutV] at h
  rcases aA h with ⟨hc,h5⟩ | ⟨_,h5⟩
  ·clear h
   simp only [ann] at hc
   have e1:=anl hc.1
   have e2:=anl hc.2
   subst e1 e2
   obtain ⟨R,hr,hv,h⟩:=cB h5
   rcases aA h with ⟨hg,h⟩ | ⟨_,h⟩
   ·obtain ⟨h1,h2⟩:=hx R hr (anl hg)
    have hO:=(H.roots _ R hr).ow hv
    have hK:∀q:Dat,(⟨R.k,R.x⟩:Dat)=q→(match q.1,q.2 with
      | .sl _ kk,xs=>(.ret ((show List (El kk) from xs).length:Int):Prog Int)
      | _,_=>.fail).ends σ m→∃b n cp,v=.slice b m.toNat cp∧m.toNat≤n∧bI cx σ α F w (.ref (ay j) 0) (.slice b n cp):=by
     intro q hq hh
     obtain ⟨qk,qx⟩:=q
     cases qk with
     | sl e kk=>
      have hm:m=((show List (El kk) from qx).length:Int):=hh
      have hV:=kP (fun _=>True) (fun _ _=>trivial) (fun _ _=>trivial) hO
      have hV:=cast (congrArg (fun q:Dat=>Vw (hp w) (fun _=>True) q.1 q.2 (α.hdr (ay j))) hq) hV
      have FP:=cast (congrArg (fun q:Dat=>VC q.1 v (α.hdr (ay j))) hq) h2
      obtain ⟨b,n,c,g1,g2,g3,_⟩:=hV
      have FP:VC (.sl e kk) v (α.hdr (ay j)):=FP
      have g1:α.hdr (ay j)=[.slice b n c]:=g1
      have h3:=FP.1
      rw [g1] at h3
      simp only [List.cons.injEq,and_true] at h3
      have g2:n=(show List (El kk) from qx).length:=g2
      refine ⟨b,n,c,by rw [hm, ←g2]; simpa using h3.symm,by rw [hm, ←g2]; simp,by rw [h3]; exact hx⟩
     | _=>exact hh.elim
    exact hK _ rfl h
   ·exact h.elim
  ·exact h5.elim
 | part r g lo hi sz=>
  simp only [cutV] at h
  rcases aA h with ⟨hc,h5⟩ | ⟨_,h5⟩
  ·clear h
   simp only [ann] at hc
   have e1:=anl hc.1.1
   have e2:=anl hc.1.2
   have e3:=anl hc.2
   subst e1 e2 e3
   have hm:m=(hi:Int):=h5
   obtain ⟨b',b,n,c,g1,g2,g3,g4,g5,g6⟩:=hx
   have hb:b'=b:=by rw [g2 (.inl rfl)]; simp [add_zero]
   subst hb
   exact ⟨b',n,c,by rw [g1,hm]; simp,by rw [hm]; simpa using g4,g6⟩
  ·exact h5.elim
 | _=>exact h.elim
theorem ZN (hT:eF P T) (H:Rel cx σ α F a w) {ps:List dG} {rs:List lU} {fn:Func} {out:Cont (iB rs++kD ps)} (h:ZM T ps rs fn.results.toList σ=some out) :
  ∃v,(results fn a.tmps).run P w=.ok v w∧Post cx ps rs out v w:=by
 obtain ⟨xC,hrv⟩:∃xC,fn.results.toList=xC:=⟨_,rfl⟩
 rw [hrv] at h
 have other:fin T ps rs xC σ=some out→∃v,(results fn a.tmps).run P w=.ok v w∧Post cx ps rs out v w:=fun h=>ack hT H (by rw [hrv]; exact h)
 cases rs with
 | nil=>exact other h
 | cons q rs=>
  cases q with
  | val _ _ _=>exact other h
  | own _ _ _ _=>exact other h
  | into j q=>
   cases rs with
   | cons _ _=>cases q <;> exact other h
   | nil=>
    cases q with
    | cons _ _=>exact other h
    | nil=>
     match xC,hrv,h,other with
     | [],_,h,other=>exact other h
     | _ :: _ :: _,_,h,other=>exact other h
     | [rv],hrv,h,_=>
      have h:((Su T false rv fun a=>cutV j a fun m=>.ret m:Prog Int).run σ fun m=>
        match lK σ ps 0 with
        | some d=>some (m,d)
        | none=>none)=some out:=h
      obtain ⟨m,h1,h2⟩:=wG _ h
      obtain ⟨y,u,g1,g2,_,h1⟩:=EA hT H h1
      obtain ⟨b,n,cp,e1,e2,e3⟩:=WY H g2 h1
      split at h2
      ·rename_i d hd
       have h2:some ((m,d):Cont (iB [lU.into j []]++kD ps))=some out:=h2
       have h2:=anS h2
       subst h2
       exact ⟨_,Br (vs:=[_]) (by rw [hrv]; simp [List.mapM_cons,g1,Result.andThen]),_,_,_,a,[_],[[]],H,rfl,⟨⟨rfl,rfl,b,n,cp,e1,e2,e3⟩,trivial⟩,by simp,by simp,FO hd⟩
      ·simp at h2
  | ptr t kk ow exts=>
   cases rs with
   | cons _ _=>exact other h
   | nil=>
    match xC,hrv,h,other with
    | [],_,h,other=>exact other h
    | _ :: _ :: _,_,h,other=>exact other h
    | [rv],hrv,h,_=>
     have h:((Su T false rv fun a=>aam t kk ow exts a fun y r=>.ret (y,r):Prog (El kk×Nat)).run σ fun q=>
       match lK (aB [.r q.2 none] σ) ps 0 with
       | some d=>some (q.1,d)
       | none=>none)=some out:=h
     obtain ⟨q,h1,h2⟩:=wG _ h
     obtain ⟨y,u,g1,g2,_,h1⟩:=EA hT H h1
     obtain ⟨r,R,x,b,o,hr,hv,hk,b2,b3,ex,zB,rfl,h1⟩:=Yz g2 h1
     have h1:q=(x,r):=h1
     subst h1
     obtain ⟨k1,k2,k3,k4⟩:=agf H hr (by rw [hk]; simp) hv
     have hblk:blk α R r=b :: α.fo r:=by unfold blk; rw [zB]; rfl
     have K:=H.roots r R hr
     have hnd:=K.nd
     rw [hblk] at hnd
     split at h2
     ·rename_i d hd
      have h2:some ((x,d):Cont (iB [lU.ptr t kk ow exts]++kD ps))=some out:=h2
      have h2:=anS h2
      subst h2
      refine ⟨_,Br (vs:=[_]) (by rw [hrv]; simp [List.mapM_cons,g1,Result.andThen]),_,_,_,a,[_],[b :: α.fo r],k1,rfl,⟨⟨b,o,R.tags,α.hdr r,R.own,α.fo r,rfl,rfl,b3, ?_, ?_, ?_⟩,trivial⟩,by simpa using hnd, ?_,FO hd⟩
      ·intro u hu hm
       exact aM.2 (jG.1 b2 u (anA.2 ⟨hu,hm⟩))
      ·obtain ⟨m1,arr,e,lo,hi,m2,m3,m4,m5⟩:=K.mem b o zB
       obtain ⟨ek,_⟩:=ex
       exact ⟨m1,arr,e,lo,hi,m2,m3,by rw [←ek]; exact m4,m5 t hk⟩
      ·obtain ⟨ek,ey⟩:=ex
       subst ek
       simp only at ey
       subst ey
       exact k3.ow k4
      ·intro c hc
       simp only [List.flatten_cons,List.flatten_nil,anM] at hc
       exact anm _ (by rw [hblk]; exact hc)
     ·simp at h2
def Cx.Yt (cx:Cx) (m:Nat):Cx:={ cx with nt:=m }
theorem FJ {m:Nat}:∀{cs:List (TypeId×Dat×List Tag)} {vs:List Value},ku (cx.Yt m) σ α F w cs vs↔ku cx σ α F w cs vs
 | [],[]=>Iff.rfl
 | c :: cs,v :: vs=>and_congr Iff.rfl FJ
 | [],_ :: _=>Iff.rfl
 | _ :: _,[]=>Iff.rfl
theorem S9 {m:Nat} {x:AV} {v:Value}:bI (cx.Yt m) σ α F w x v↔bI cx σ α F w x v:=by
 cases x with
 | fn f cs=>
  constructor
  ·rintro ⟨vs,h1,h2⟩; exact ⟨vs,h1,FJ.1 h2⟩
  ·rintro ⟨vs,h1,h2⟩; exact ⟨vs,h1,FJ.2 h2⟩
 | _=>exact Iff.rfl
theorem yB {m:Nat}:∀{l:List AV} {vs:List Value},dS (cx.Yt m) σ α F w l vs↔dS cx σ α F w l vs
 | [],[]=>Iff.rfl
 | c :: cs,v :: vs=>and_congr S9 yB
 | [],_ :: _=>Iff.rfl
 | _ :: _,[]=>Iff.rfl
theorem V8 {m:Nat} {x:xJ} {v:Value}:jd (cx.Yt m) σ α F w x v↔jd cx σ α F w x v:=by
 cases x with
 | one x=>exact S9
 | KX l=>
  constructor
  ·rintro ⟨vs,h1,h2⟩; exact ⟨vs,h1,yB.1 h2⟩
  ·rintro ⟨vs,h1,h2⟩; exact ⟨vs,h1,yB.2 h2⟩
 | lit _ _ l=>
  constructor
  ·rintro ⟨vs,cs,h1,h2⟩; exact ⟨vs,cs,h1,yB.1 h2⟩
  ·rintro ⟨vs,cs,h1,h2⟩; exact ⟨vs,cs,h1,yB.2 h2⟩
theorem Rel.Yt {a':Act} (H:Rel cx σ α F a w) {m:Nat} (hd:a'.defers=[]) (hm:m≤a'.tmps.size) (hs:∀s,a'.tmps.getD s undef=a.tmps.getD s undef):Rel (cx.Yt m) σ α F a' w where
 defs:=hd
 sz:=hm
 lQ:=H.lQ
 Ep:=H.Ep
 slots:=fun s=>by rw [hs s]; exact V8.2 (H.slots s)
 rY:=H.rY
 roots:=fun r R hr=>by
  obtain ⟨o1,o2,o3,o4,o5⟩:=H.roots r R hr
  exact ⟨o1,o2,o3,o4,o5⟩
 dz:=H.dz
 Iu:=H.Iu
 fl:=H.fl
 zV:=H.zV
 iP:=H.iP
 frame:=H.frame
 uu:=H.uu
 oM:=H.oM
 vU:=H.vU
 vV:=H.vV
theorem PZ:∀{ps:List dG} {i:Nat} {c:Cont (kin ps)} {r:Nat} {R:Root},gI (gG ps i c) r=some R→∃j p cj,r=ay (i+j)∧ps[j]?=some p∧dP p (i+j) cj=some R:=by
 intro ps
 induction ps with
 | nil=>intro i c r R h; simp [gG,gI] at h
 | cons p ps ih=>
  intro i c r R h
  rw [vS,yC] at h
  have hrec:gI (gG ps (i+1) (tlC p ps c)) r=some R→∃j q cj,r=ay (i+j)∧(p :: ps)[j]?=some q∧dP q (i+j) cj=some R:=by
   intro h
   obtain ⟨j,q,cj,h1,h2,h3⟩:=ih h
   have e:i+1+j=i+(j+1):=by omega
   exact ⟨j+1,q,cj,by rw [h1,e],by simpa using h2,by rw [←e]; exact h3⟩
  cases hr:dP p i (Xv p ps c) with
  | none=>rw [hr] at h; exact hrec h
  | some Q=>
   rw [hr] at h
   simp only [gI] at h
   cases hb:Nat.beq r (ay i) with
   | true=>
    rw [hb] at h
    have h':Q=R:=by simpa using h
    exact ⟨0,p,Xv p ps c,anl hb,rfl,by rw [←h']; exact hr⟩
   | false=>rw [hb] at h; exact hrec h
theorem RS:∀{ps:List dG} {i j:Nat} {k:K},xN ps j k→∃l,iX (ay (i+j)) (wu ps i)=some (k,l):=by
 intro ps
 induction ps with
 | nil=>intro i j k h; obtain ⟨ow,wt,ht,h | h⟩:=h <;> simp at h
 | cons p ps ih=>
  intro i j k h
  have hne:∀j,Nat.beq (ay (i+(j+1))) (ay i)=false:=fun j=>by
   cases h:Nat.beq (ay (i+(j+1))) (ay i) with
   | true=>
    have:=anl h
    unfold ay at this
    omega
   | false=>rfl
  cases j with
  | zero=>
   obtain ⟨ow,wt,ht,h | h⟩:=h
   ·simp only [List.getElem?_cons_zero,anh] at h
    subst h
    exact ⟨(wt,ht),by simp [wu,iX]⟩
   ·simp only [List.getElem?_cons_zero,anh] at h
    subst h
    exact ⟨(wt,k.tys),by simp [wu,iX]⟩
  | succ j=>
   have h':xN ps j k:=by
    obtain ⟨ow,wt,ht,h⟩:=h
    exact ⟨ow,wt,ht,by simpa using h⟩
   obtain ⟨l,hl⟩:=ih (i:=i+1) h'
   have e:i+1+j=i+(j+1):=by omega
   rw [e] at hl
   cases p <;> first | exact ⟨l,by simp only [wu,iX,hne j,cond_false]; exact hl⟩ | exact ⟨l,hl⟩
theorem Qn {ps:List dG} {c:Cont (kin ps)} (hP:Fw cx ps) (H:Rel cx (bX ps c) α F a w) (m:Nat):Q3 (cx.Yt m) (wu ps 0):=by
 have hf:∀{j:Nat} {k:K},xN ps j k→∃l,iX (ay j) (wu ps 0)=some (k,l):=fun {j} {k} h=>by
  have:=RS (i:=0) h
  simpa using this
 refine ⟨fun j pi hj h=>?_,fun j p ts v hv=>?_,fun j v hv=>?_⟩
 ·rcases h with h | ⟨⟨b,o,n⟩,h⟩
  ·obtain ⟨k,hk⟩:=hP.par j pi hj h
   obtain ⟨l,hl⟩:=hf hk
   exact ⟨_,hl⟩
  ·obtain ⟨R,hR,hk,_⟩:=H.lQ j pi b o n hj h
   obtain ⟨j',p,cj,h1,h2,h3⟩:=PZ (show gI (gG ps 0 c) (ay j)=some R from hR.1)
   have e:j=j':=by unfold ay at h1; omega
   subst e
   have:∃k,xN ps j k:=by
    cases p with
    | rw k ow wt ht=>exact ⟨k,ow,wt,ht, .inl h2⟩
    | jK k ow wt=>exact ⟨k,ow,wt,[], .inr h2⟩
    | own k ow=>
     have h4:=anS h3
     rw [←h4] at hk
     simp [aL] at hk
    | _=>simp [dP] at h3
   obtain ⟨k,hk⟩:=this
   obtain ⟨l,hl⟩:=hf hk
   exact ⟨_,hl⟩
 ·obtain ⟨k,hk,e⟩:=hP.ptr j p ts v hv
  obtain ⟨l,hl⟩:=hf hk
  exact ⟨k,l,hl,e⟩
 ·obtain ⟨k,hk⟩:=hP.ref j v hv
  obtain ⟨l,hl⟩:=hf hk
  exact ⟨_,hl⟩
theorem Ry (hm:P.follows .mixedOrders=true) (hT:eF P T) (hSt:Lh P T) {E:Entry} {fn:Func} (hf:P.funcs[E.f]?=some fn) (hname:(fn.name == "runtime.NumGoroutine")=false) {m:Nat} (hC:uQ P m hi)
  (hF:∀c out,E.F n c=some out→ZG T hi fn E.ps E.rs m c=some out):ak P n E:=by
 intro c out hout cx α args w hnt hw hsz hP H
 have h:=hF c out hout
 unfold ZG at h
 cases hb:fn.body with
 | none=>rw [hb] at h; simp at h
 | some code=>
  rw [hb] at h
  simp only at h
  refine .inl ⟨Go.MuLone.run_callFunc_enter hf hname hb args w,calls_of_wp hf hb ?_⟩
  have H2:Rel (cx.Yt fn.ntmps) (bX E.ps c) α [] { tmps:=args++Array.replicate (fn.ntmps - args.size) undef,defers:=[] } w:=by
   refine H.Yt rfl (by simp; omega) fun s=>?_
   simp only [Array.getD_eq_getD_getElem?]
   rw [Array.getElem?_append]
   split
   ·rfl
   ·rename_i hlt
    rw [Array.getElem?_eq_none (by omega:args.size≤s)]
    rw [Array.getElem?_replicate]
    split <;> rfl
  have hC':uQ P m { hi with nt:=fn.ntmps,iY:=wu E.ps 0 }:=hC
  refine wp_mono (ach WL hm hT hSt hC' rfl (Qn hP H _) code 0 h H2) ?_
  have hend:∀{σ':St} {α':dL} {F':List Nat} {a':Act} {w':World},ZM T E.ps E.rs fn.results.toList σ'=some out→Rel (cx.Yt fn.ntmps) σ' α' F' a' w'→
    a'.defers=[]∧∃v,(results fn a'.tmps).run P w'=.ok v w'∧∃v',Ending.returned v=.returned v'∧Post cx E.ps E.rs out v' w':=by
   intro σ' α' F' a' w' h1 H3
   have H4:Rel cx σ' α' F' a' w':=by
    have:=H3.Yt (m:=0) (a':=a') H3.defs (anR _) (fun _=>rfl)
    obtain ⟨nt,w0,ext,par,ptrs,refs⟩:=cx
    simp only at hnt
    subst hnt
    exact this
   obtain ⟨v,v1,v2⟩:=ZN (P:=P) hT H4 h1
   exact ⟨H3.defs,v,v1,v,rfl,v2⟩
  rintro e a' w' ⟨ex,σ',α',F',h1,h2,h3⟩
  cases e <;> simp only [exC,anh,reduceCtorEq] at h1
  ·subst h1; exact hend h2 h3
  ·subst h1; simp at h2
  ·subst h1; exact hend h2 h3
end
end
section
open Go
variable [Fr]
def I8 (W:World):(ps:List dG)→Cont (kin ps)→List Value→Prop
 | [],_,[]=>True
 | .val k [] :: ps,c,v :: vs=>(∃cs,VC k v cs∧Vw (hp W) (fun b=>b<W.heap.size) k c.1 cs)∧I8 W ps c.2 vs
 | _,_,_=>False
def Ww (W W':World):Prop:=W'.os=W.os∧W'.output=W.output∧W.heap.size≤W'.heap.size∧∀b,b<W.heap.size→hp W' b=hp W b
def AZ (W:World):Cx:={ nt:=0,w0:=W,ext:=fun _ b=>b<W.heap.size,par:=fun _=>none,ptrs:=fun _ _ _ _=>False,refs:=fun _ _=>False }
def Yq:dL:={ loc:=fun _=>(0,0),hdr:=fun _=>[],fo:=fun _=>[] }
section
variable {P:Program} {W:World}
theorem I8.roots:∀{ps:List dG} {c:Cont (kin ps)} {vs:List Value} {i:Nat},I8 W ps c vs→gG ps i c=[]∧vs.length=ps.length
 | [],_,[],_,_=>⟨rfl,rfl⟩
 | [],_,_ :: _,_,h=>h.elim
 | .val k [] :: ps,c,v :: vs,i,h=>by
  obtain ⟨h1,h2⟩:=I8.roots (i:=i+1) h.2
  exact ⟨h1,by simp [h2]⟩
 | .val k (_ :: _) :: ps,c,vs,_,h=>by cases vs <;> exact h.elim
 | .val k [] :: ps,c,[],_,h=>h.elim
 | .ro _ :: _,_,vs,_,h=>by cases vs <;> exact h.elim
 | .rw _ _ _ _ :: _,_,vs,_,h=>by cases vs <;> exact h.elim
 | .jK _ _ _ :: _,_,vs,_,h=>by cases vs <;> exact h.elim
 | .own _ _ :: _,_,vs,_,h=>by cases vs <;> exact h.elim
 | .fn _ _ :: _,_,vs,_,h=>by cases vs <;> exact h.elim
 | .into _ _ :: _,_,vs,_,h=>by cases vs <;> exact h.elim
theorem I8.slots {σ:St} (hσ:∀r R,¬aP σ r R):∀{ps:List dG} {c:Cont (kin ps)} {vs:List Value} {i:Nat},I8 W ps c vs→∀s,(∀v,vs[s - i]?=some v→i≤s→jd (AZ W) σ Yq [] W (rR (jE ps i c) s) v)∧((vs[s - i]?=none∨s<i)→rR (jE ps i c) s=.one .undef)∧xO σ (rR (jE ps i c) s)
 | [],_,[],_,_=>fun s=>⟨fun v h=>by simp at h,fun _=>rfl,trivial⟩
 | [],_,_ :: _,_,h=>h.elim
 | .val k [] :: ps,c,v :: vs,i,h=>by
  intro s
  have ih:=I8.slots hσ (i:=i+1) h.2 s
  simp only [jE,rR]
  cases hb:Nat.beq s i with
  | true=>
   have:=anl hb
   subst this
   simp only [Nat.sub_self,List.getElem?_cons_zero,anh,cond_true]
   refine ⟨fun u hu _=>?_,fun h=>by rcases h with h | h; simp at h; omega, ?_⟩
   ·subst hu
    intro _
    obtain ⟨cs,h1,h2⟩:=h.1
    refine ⟨cs,h1, ?_⟩
    cases hf:k.flat with
    | true=>exact iV hf h2
    | false=>
     refine gq (fun _ _=>rfl) (fun b hb=>⟨hb,by simp, ?_,fun r R hr=>absurd hr (hσ r R),fun _=>.inl ⟨s,0,by simp,hb⟩⟩) h2
     rintro ⟨j,pi,o,n,h3,_⟩
     simp [AZ] at h3
   ·intro t ht
    cases hf:k.flat with
    | true=>rw [hf] at ht; simp at ht
    | false=>
     rw [hf] at ht
     simp only [cond_false,List.map_nil,anC] at ht
     subst ht
     exact .inl (iJ s)
  | false=>
   have hne:=Nat.ne_of_beq_eq_false hb
   simp only [cond_false]
   refine ⟨fun u hu hle=>?_,fun hh=>?_,ih.2.2⟩
   ·refine ih.1 u ?_ (by omega)
    have e:s - i=(s - (i+1))+1:=by omega
    rw [e] at hu
    simpa using hu
   ·refine ih.2.1 ?_
    rcases hh with hh | hh
    ·by_cases hlt:s<i
     ·exact .inr (by omega)
     ·have e:s - i=(s - (i+1))+1:=by omega
      rw [e] at hh
      exact .inl (by simpa using hh)
    ·exact .inr (by omega)
 | .val k (_ :: _) :: ps,c,vs,_,h=>by cases vs <;> exact h.elim
 | .val k [] :: ps,c,[],_,h=>h.elim
 | .ro _ :: _,_,vs,_,h=>by cases vs <;> exact h.elim
 | .rw _ _ _ _ :: _,_,vs,_,h=>by cases vs <;> exact h.elim
 | .jK _ _ _ :: _,_,vs,_,h=>by cases vs <;> exact h.elim
 | .own _ _ :: _,_,vs,_,h=>by cases vs <;> exact h.elim
 | .fn _ _ :: _,_,vs,_,h=>by cases vs <;> exact h.elim
 | .into _ _ :: _,_,vs,_,h=>by cases vs <;> exact h.elim
theorem ac6 (hfr:∀b,Fr.free b→b<W.heap.size∧hp W b=Fr.obj b) {ps:List dG} {c:Cont (kin ps)} {args:Array Value} (hV:I8 W ps c args.toList):Rel (AZ W) (bX ps c) Yq [] ⟨args,[]⟩ W:=by
 have hr0:∀r,(bX ps c).roots r=none:=fun r=>by
  show gI (gG ps 0 c) r=none
  rw [(hV.roots (i:=0)).1]
  rfl
 have hno:∀r R,¬aP (bX ps c) r R:=fun r R h=>by have h2:=h.1; rw [hr0 r] at h2; simp at h2
 have hs:=fun s=>I8.slots hno (i:=0) hV s
 refine ⟨rfl,anR _,fun j pi b o n h=>by simp [AZ] at h,fun r R h=>absurd h (hno r R),fun s=>?_,fun s=>(hs s).2.2,fun r R h=>absurd h (hno r R),fun r R h=>by rw [hr0 r] at h; simp at h,
  fun r R _ _ h=>absurd h (hno r R),fun b h=>by simp at h,List.nodup_nil,fun r R h=>absurd h (hno r R),⟨rfl,rfl,rfl,anz _,fun _ _ _=>rfl,fun j pi b o n h=>by simp [AZ] at h⟩,
  fun j pi h=>by simp [AZ] at h,⟨fun j pi h=>by simp [AZ] at h,fun b hb=>⟨(hfr b hb).1,fun j pi h=>by simp [AZ] at h⟩,fun b hb=>(hfr b hb).2⟩,fun j p ts v h=>h.elim,fun j v h=>h.elim⟩
 obtain ⟨h1,h2,_⟩:=hs s
 cases hv:args.toList[s]? with
 | none=>
  have:=h2 (.inl (by simpa using hv))
  rw [show (bX ps c).slots s=.one .undef from this]
  trivial
 | some v=>
  have:=h1 v (by simpa using hv) (anR _)
  have e:args.getD s undef=v:=by
   rw [Array.getElem?_toList] at hv
   simp [Array.getD_eq_getD_getElem?,hv]
  show jd _ _ _ _ _ _ (args.getD s undef)
  rw [e]
  exact this
theorem X7 (hfr:∀b,Fr.free b→b<W.heap.size∧hp W b=Fr.obj b) {f:FuncId} {ps:List dG} {F:Nat→Cont (kin ps)→Option (Cont (iB [.val .bool [] []]++kD ps))} {n:Nat} (hE:ak P n ⟨f,ps,[.val .bool [] []],F⟩)
  {c:Cont (kin ps)} {out:Cont (iB [.val .bool [] []]++kD ps)} (hF:F n c=some out) (ht:out.1=true) {args:Array Value} (hV:I8 W ps c args.toList) (hcall:(callFunc f args).run P W=.ok (.enter f args) W) :
  Calls P f args W fun e W'=>e=.returned (.bool true)∧Ww W W':=by
 have h:=hE c out hF (AZ W) Yq args W rfl rfl (by rw [←Array.length_toList,(hV.roots (i:=0)).2]) ⟨fun j pi h=>by simp [AZ] at h,fun j p ts v h=>h.elim,fun j v h=>h.elim⟩ (ac6 hfr hV)
 rcases h with ⟨_,h⟩ | ⟨v,w',h,_⟩
 ·refine h.mono ?_
  rintro e W' ⟨v,rfl,σ,α,F',a,vs,bD,H,rfl,hR,_⟩
  refine ⟨?_,H.frame.1,H.frame.2.2.1,H.frame.2.2.2.1,fun b hb=>H.frame.2.2.2.2.1 b hb (fun j pi h=>by simp [AZ] at h)⟩
  cases vs with
  | nil=>exact hR.elim
  | cons v vs=>
   cases bD with
   | nil=>exact hR.elim
   | cons fo bD=>
    obtain ⟨⟨_,T,cs,_,hv,hw⟩,hr⟩:=hR
    cases vs with
    | cons _ _=>exact hr.elim
    | nil=>
     obtain ⟨e1,_⟩:=hv
     have e2:cs=[.bool out.1]:=hw
     rw [e1,ht] at e2
     simp only [List.cons.injEq,and_true] at e2
     subst e2
     rfl
 ·rw [hcall] at h
  simp at h
end
end
section
open Go
mutual
def Y7 {H:Type}:DataW H→Nat
 | .lit (.string bytes)=>bytes.length+1
 | .lit _=>1
 | .nil=>1
 | .ptr d=>Y7 d+1
 | .slice elems spare=>Hw elems+Hw spare+1
 | .agg parts=>Hw parts+1
 | .iface _ d=>Y7 d+1
 | .map _=>1
 | .held _=>1
def Hw {H:Type}:List (DataW H)→Nat
 | []=>0
 | d :: r=>Y7 d+Hw r
end
def TM:(k:K)→El k→Nat
 | .int _,_=>1
 | .bool,_=>1
 | .str,s=>(show List Int from s).length+1
 | .sl _ k,xs=>((show List (El k) from xs).map (TM k)).sum+1
 | .unit,_=>0
 | .pair a b,x=>TM a x.1+TM b x.2
 | .st f,x=>TM f x+1
 | .gap _,_=>0
 | .id _,_=>1
def yA:(k:K)→El k→Prop
 | .int ik,x=>GR ik x
 | .str,s=>(show List Int from s).length≤9223372036854775807∧∀b∈(show List Int from s),0≤b∧b<256
 | .sl _ k,xs=>(show List (El k) from xs).length≤9223372036854775807∧∀x∈(show List (El k) from xs),yA k x
 | .pair a b,x=>yA a x.1∧yA b x.2
 | .st f,x=>yA f x
 | _,_=>True
theorem Gu {A:Type} {p:Nat→A→Prop}:∀{n:Nat},(∀i,i<n→∃x,p i x)→∃xs:List A,xs.length=n∧∀i (h:i<xs.length),p i xs[i]:=by
 intro n h
 induction n with
 | zero=>exact ⟨[],rfl,fun i h=>by simp at h⟩
 | succ n ih=>
  obtain ⟨xs,h1,h2⟩:=ih (fun i hi=>h i (by omega))
  obtain ⟨x,hx⟩:=h n (by omega)
  refine ⟨xs++[x],by simp [h1],fun i hi=>?_⟩
  rw [List.getElem_append]
  split
  ·exact h2 i _
  ·have:i=n:=by simp [h1] at hi; omega
   subst this
   simpa using hx
theorem YQ {A H:Type} {f:A→Nat}:∀{xs:List A} {ds:List (DataW H)},xs.length=ds.length→(∀i (h:i<xs.length) (h':i<ds.length),f xs[i]≤Y7 ds[i])→(xs.map f).sum≤Hw ds
 | [],[],_,_=>anz _
 | x :: xs,d :: ds,hl,h=>by
  simp only [List.map_cons,List.sum_cons,Hw]
  have h0:=h 0 (by simp) (by simp)
  have:=YQ (xs:=xs) (ds:=ds) (by simpa using hl) (fun i h1 h2=>by
   have:=h (i+1) (by simp; omega) (by simp; omega)
   simpa using this)
  simp only [List.getElem_cons_zero] at h0
  omega
 | [],_ :: _,hl,_=>by simp at hl
 | _ :: _,[],hl,_=>by simp at hl
section
variable {P:Program} {T:iT} {W:World} {H:Type} {enc:TypeId×Value→H}
def ae2 [Fr] (W:World) (k:K) (cs:List Value) (d:DataW H):Prop:=∃x:El k,Vw (hp W) (fun b=>b<W.heap.size) k x cs∧TM k x≤Y7 d∧yA k x
theorem zC {t:TypeId} {k:K} (h:sG P t k):P.cellsOf t=k.size:=by
 obtain ⟨i,h1,h2,_⟩:=h
 simp [Program.cellsOf,h1,h2]
theorem VZ [Fr] (hid:T.ids=false) (hfr:∀b,b<W.heap.size→Fr.free b):∀(k:K),
  (∀t n cs d ps,(jN P T k).1 t→DataW.trod enc P W 0 (fun _=>true) true n t cs=some (d,ps)→ae2 W k cs d)∧
  (∀(fs:List Field) off n (cs:List Value) (xs:List (DataW H×List MemPlace)),(jN P T k).2 fs off→cs.length=off+k.size→xs.length=fs.length→
   (∀(i:Nat) f,fs[i]?=some f→DataW.trod enc P W 0 (fun _=>true) true n f.type ((cs.drop f.offset).take (P.cellsOf f.type))=xs[i]?)→
   ∃x:El k,Vw (hp W) (fun b=>b<W.heap.size) k x (cs.drop off)∧TM k x≤Hw (xs.map (·.1))∧yA k x):=by
 intro k
 induction k with
 | int ik=>
  refine ⟨fun t n cs d ps ht h=>?_,fun _ _ _ _ _ h=>h.elim⟩
  obtain ⟨m,rfl,e,hw⟩:=DataW.trod_int ht.1 h
  simp only [ant] at e
  obtain ⟨rfl,rfl⟩:=e
  have hr:GR ik m:=by
   cases ik <;> simp [GR]
   simp [Lit.wf,IntKind.min,IntKind.max,IntKind.signed,IntKind.bits] at hw
   omega
  exact ⟨m,⟨rfl,hr⟩,anz _,hr⟩
 | bool=>
  refine ⟨fun t n cs d ps ht h=>?_,fun _ _ _ _ _ h=>h.elim⟩
  obtain ⟨b,rfl,e⟩:=DataW.trod_bool ht.1 h
  simp only [ant] at e
  obtain ⟨rfl,rfl⟩:=e
  exact ⟨b,rfl,anz _,trivial⟩
 | str=>
  refine ⟨fun t n cs d ps ht h=>?_,fun _ _ _ _ _ h=>h.elim⟩
  obtain ⟨s,rfl,e,hsz⟩:=DataW.trod_string ht.1 h
  simp only [ant] at e
  obtain ⟨rfl,rfl⟩:=e
  exact ⟨bytesOf s,⟨s,rfl,rfl⟩,by simp [TM,Y7,bytesOf],by
   unfold maxLen at hsz
   have:(bytesOf s).length=s.size:=by simp [bytesOf]
   refine ⟨(show (bytesOf s).length≤9223372036854775807 by omega),fun b hb=>?_⟩
   have hb':b∈bytesOf s:=hb
   unfold bytesOf at hb'
   obtain ⟨x,_,rfl⟩:=anT.1 hb'
   have:=x.toNat_lt
   omega⟩
 | unit=>exact ⟨fun _ _ _ _ _ h=>h.elim,fun fs off n cs xs _ hl hx hf=>⟨(),by
   have:cs.drop off=[]:=List.drop_eq_nil_of_le (by simp [K.size] at hl; omega)
   exact this,anR _,trivial⟩⟩
 | gap n=>exact ⟨fun _ _ _ _ _ h=>h.elim,fun _ _ _ _ _ h=>h.elim⟩
 | id e=>exact ⟨fun t n cs d ps ht h=>by have:=ht.2.2; rw [hid] at this; simp at this,fun _ _ _ _ _ h=>h.elim⟩
 | sl e k ih=>
  refine ⟨fun t n cs d ps ht h=>?_,fun _ _ _ _ _ h=>h.elim⟩
  obtain ⟨hu,_,hte,hk0,_⟩:=ht
  have hce:P.cellsOf e=k.size:=zC (fU.info hte)
  rcases DataW.trod_slice hu h with ⟨rfl,e1⟩ | ⟨a,len,cap,elems,rest,m,rfl,rfl,e1,_,hlc,hmx,hle,hel,_,_⟩
  ·simp only [ant] at e1
   obtain ⟨rfl,rfl⟩:=e1
   exact ⟨[],⟨none,0,0,rfl,rfl,anz _,fun h=>by omega⟩,by simp [TM,Y7],⟨anR _,fun x hx=>by simp at hx⟩⟩
  ·simp only [ant] at e1
   obtain ⟨rfl,rfl⟩:=e1
   have hone:∀i (hi:i<len),∃x:El k,∃ds,W.cells? 0 (a.add (i * k.size)) k.size=some ds∧Vw (hp W) (fun b=>b<W.heap.size) k x ds∧(∀(h':i<elems.length),TM k x≤Y7 elems[i].1)∧yA k x:=by
    intro i hi
    have h1:=hel i hi
    have hi':i<elems.length:=by omega
    rw [hce,anw hi'] at h1
    obtain ⟨ds,h2,h3⟩:=Option.bind_eq_some_iff.1 h1
    obtain ⟨x,h4,h5,h6⟩:=ih.1 e m ds _ _ hte h3
    exact ⟨x,ds,h2,h4,fun _=>h5,h6⟩
   obtain ⟨xs,hl,hxs⟩:=Gu hone
   refine ⟨xs,⟨some a,len,cap,rfl,hl.symm,hlc,fun h0=>?_⟩, ?_, ?_⟩
   ·obtain ⟨b,o,sp⟩:=a
    have h0':0<xs.length:=by omega
    obtain ⟨ds0,h2,h3,_⟩:=hxs 0 h0'
    have hb:=World.cells?_block h2 hk0
    obtain ⟨_,g1,g2⟩:=World.cells?_some h2
    have hsp:sp=none:=by
     have:=g2 0 hk0
     rw [anw (by omega)] at this
     simp only [Nat.zero_mul,Addr.add,if_true,World.cell?] at this
     cases sp with
     | none=>rfl
     | some q=>split at this <;> simp at this
    subst hsp
    have hb':b<W.heap.size:=by
     rw [addr_add] at hb
     exact hb
    refine ⟨b,o,rfl,hb', .inr (hfr b hb'),fun i hi=>?_⟩
    obtain ⟨ds,h2,h3,_⟩:=hxs i hi
    obtain ⟨_,g1,g2⟩:=World.cells?_some h2
    refine ⟨ds,fun j hj=>?_,h3⟩
    have:=g2 j (by omega)
    rw [addr_add,addr_add,zi] at this
    exact this
   ·simp only [TM,Y7]
    have:=YQ (H:=H) (f:=TM k) (xs:=xs) (ds:=elems.map (·.1)) (by simp; omega) (fun i h1 h2=>by
     obtain ⟨ds,_,_,h5,_⟩:=hxs i h1
     simpa using h5 (by simpa using h2))
    omega
   ·unfold maxLen at hmx
    refine ⟨show xs.length≤_ by omega,fun x hx=>?_⟩
    obtain ⟨i,hi,rfl⟩:=List.mem_iff_getElem.1 hx
    obtain ⟨_,_,_,_,h6⟩:=hxs i hi
    exact h6
 | pair a b iha ihb=>
  refine ⟨fun _ _ _ _ _ h=>h.elim,fun fs off n cs xs ht hl hx hf=>?_⟩
  cases fs with
  | nil=>exact ht.elim
  | cons f fs=>
   cases xs with
   | nil=>simp at hx
   | cons x0 xs=>
    obtain ⟨h1,h2,h3,h4⟩:=ht
    have hca:P.cellsOf f.type=a.size:=zC (fU.info h2)
    have h5:=hf 0 f rfl
    rw [h1,hca] at h5
    simp only [List.getElem?_cons_zero] at h5
    obtain ⟨x,g1,g2,l1⟩:=iha.1 f.type n _ x0.1 x0.2 h2 h5
    obtain ⟨y,g3,g4,l2⟩:=ihb.2 fs (off+a.size) n cs xs h4 (by simp [K.size] at hl; omega) (by simpa using hx) (fun i f' hi=>by
     have:=hf (i+1) f' (by simpa using hi)
     simpa using this)
    refine ⟨(x,y),⟨(cs.drop off).take a.size,cs.drop (off+a.size), ?_,g1,g3⟩, ?_,l1,l2⟩
    ·rw [←List.drop_drop,List.take_append_drop]
    ·simp only [TM,List.map_cons,Hw]
     omega
 | st c ih=>
  refine ⟨fun t n cs d ps ht h=>?_,fun _ _ _ _ _ h=>h.elim⟩
  obtain ⟨⟨fs,hu,hfs⟩,hinfo⟩:=ht
  obtain ⟨xs,m,rfl,e1,hl,hlen,hf⟩:=DataW.trod_struct hu h
  simp only [ant] at e1
  obtain ⟨rfl,rfl⟩:=e1
  obtain ⟨x,g1,g2,l1⟩:=ih.2 fs.toList 0 m cs xs hfs (by rw [hl,zC hinfo]; simp [K.size]) (by simpa using hlen) (fun i f hi=>hf i f (by simpa using hi))
  refine ⟨x,by simp only [List.drop_zero] at g1; exact g1, ?_,l1⟩
  simp only [TM,Y7]
  omega
theorem Xh:∀{k:K} {fs:List Field} {off:Nat},(jN P T k).2 fs off→∀f∈fs,∃k',(jN P T k').1 f.type:=by
 intro k
 induction k with
 | pair a b iha ihb=>
  intro fs off h f hf
  cases fs with
  | nil=>simp at hf
  | cons f0 fs=>
   rcases anu.1 hf with h1 | h1
   ·subst h1; exact ⟨a,h.2.1⟩
   ·exact ihb h.2.2.2 f h1
 | unit=>intro fs off h f hf; rw [show fs=[] from h] at hf; simp at hf
 | _=>intro fs off h; exact h.elim
theorem aay [Fr] (hid:T.ids=false) {sp:Nat→Bool} (hsp:∀b,b<W.heap.size→sp b=true):∀(n:Nat) (t:TypeId) (k:K) (cs:List Value) (x:DataW H×List MemPlace),(jN P T k).1 t→DataW.trod enc P W 0 (fun _=>true) true n t cs=some x→DataW.trod enc P W 0 sp true n t cs=some x:=by
 intro n
 induction n with
 | zero=>intro t k cs x _ h; simp [DataW.trod] at h
 | succ n ih=>
  intro t k cs x ht h
  cases k with
  | int ik=>obtain ⟨m,rfl,rfl,hw⟩:=DataW.trod_int ht.1 h; simp [DataW.trod,ht.1,hw]
  | bool=>obtain ⟨m,rfl,rfl⟩:=DataW.trod_bool ht.1 h; simp [DataW.trod,ht.1]
  | str=>obtain ⟨m,rfl,rfl,hw⟩:=DataW.trod_string ht.1 h; simp [DataW.trod,ht.1,hw]
  | unit=>exact ht.elim
  | gap n=>exact ht.elim
  | id e=>have:=ht.2.2; rw [hid] at this; simp at this
  | pair a b=>exact ht.elim
  | st c=>
   obtain ⟨⟨fs,hu,hfs⟩,_⟩:=ht
   obtain ⟨xs,m,e,rfl,hl,hlen,hf⟩:=DataW.trod_struct hu h
   have e':m=n:=by omega
   subst e'
   refine ChangeShapes.trod_struct_mk hu hl (mapM_some_of_get _ _ (by simpa using hlen) fun i f hi=>?_)
   have hi':i<xs.length:=by
    have:=(List.getElem?_eq_some_iff.1 hi).1
    simp at this
    omega
   have h1:=hf i f (by simpa using hi)
   rw [anw hi'] at h1 ⊢
   obtain ⟨k',hk'⟩:=Xh hfs f (List.mem_of_getElem? hi)
   exact ih f.type k' _ _ hk' h1
  | sl e k=>
   obtain ⟨hu,_,hte,hk0,_⟩:=ht
   have hce:P.cellsOf e=k.size:=zC (fU.info hte)
   rcases DataW.trod_slice hu h with ⟨rfl,rfl⟩ | ⟨a,len,cap,_,_,_,_,rfl,_⟩
   ·simp [DataW.trod,hu]
   ·unfold DataW.trod at h ⊢
    rw [hu] at h ⊢
    simp only [hce] at h ⊢
    split at h
    ·rename_i hc
     rw [if_pos hc]
     obtain ⟨elems,he,h⟩:=Option.bind_eq_some_iff.1 h
     obtain ⟨rest,hr,hd⟩:=Option.map_eq_some_iff.1 h
     have hstep:∀i y,(W.cells? 0 (a.add (i * k.size)) k.size).bind (DataW.trod enc P W 0 (fun _=>true) true n e)=some y→(W.cells? 0 (a.add (i * k.size)) k.size).bind (DataW.trod enc P W 0 sp true n e)=some y:=by
      intro i y h
      obtain ⟨ds,h1,h2⟩:=Option.bind_eq_some_iff.1 h
      exact Option.bind_eq_some_iff.2 ⟨ds,h1,ih e k ds y hte h2⟩
     refine Option.bind_eq_some_iff.2 ⟨elems,mapM_carry he (fun i y _ _ hy=>hstep i y hy),Option.map_eq_some_iff.2 ⟨rest, ?_,hd⟩⟩
     simp only [if_true] at hr
     cases hs:sp a.block with
     | true=>
      simp only [if_true]
      exact mapM_carry hr (fun i y _ _ hy=>hstep _ y hy)
     | false=>
      simp only [ank,if_false]
      cases hcl:cap - len with
      | zero=>rw [hcl] at hr; simpa using hr
      | succ m=>
       exfalso
       rw [hcl] at hr
       have h1:=mapM_some_get hr 0 0 (by simp)
       have hlr:rest.length=m+1:=by simpa using mapM_some_length hr
       rw [anw (by omega)] at h1
       obtain ⟨ds,h2,_⟩:=Option.bind_eq_some_iff.1 h1
       have h3:=World.cells?_block h2 hk0
       have h4:(a.add ((len+0) * k.size)).block=a.block:=by unfold Addr.add; split <;> rfl
       rw [h4] at h3
       rw [hsp _ h3] at hs
       simp at hs
    ·simp at h
end
end
section
open Go
section
variable {P:Program} {T:iT} {W W':World} {H:Type} {enc:TypeId×Value→H}
def I5 (P:Program) (T:iT):List dG→List TypeId→Prop
 | [],[]=>True
 | .val k [] :: ps,t :: ts=>fU P T t k∧I5 P T ps ts
 | _,_=>False
def szC:(ps:List dG)→Cont (kin ps)→Nat
 | .val k _ :: ps,c=>TM k c.1+szC ps c.2
 | _,_=>0
def aaf:(ps:List dG)→Cont (kin ps)→Prop
 | .val k _ :: ps,c=>yA k c.1∧aaf ps c.2
 | _,_=>True
theorem agB [Fr] {t:TypeId} {k:K} {v:Value} {base:Nat} {x:El k} {ok:Nat→Prop} (ht:fU P T t k) (hv:Value.okWide P W .any base t v) (hV:Vw (hp W) ok k x v.cells.toList):VC k v v.cells.toList:=by
 have hplain:∀{u:Value},(∀y,v≠.agg y)→v.cells.toList=[u]→VC k v v.cells.toList∨∃c,k=.st c:=by
  intro u hn hu
  cases k with
  | st c=>exact .inr ⟨c,rfl⟩
  | _=>
   refine .inl ⟨?_,hn⟩
   cases v <;> first | rfl | exact absurd rfl (hn _)
 unfold fU jN at ht
 cases k with
 | st c=>
  obtain ⟨⟨fs,hu,_⟩,_⟩:=ht
  unfold Value.okWide at hv
  rw [hu] at hv
  obtain ⟨cs,rfl,_⟩:=hv
  show Value.agg cs=.agg (cs.toList).toArray
  simp
 | unit=>exact ht.elim
 | pair a b=>exact ht.elim
 | gap n=>exact ht.elim
 | int ik=>
  unfold Value.okWide at hv
  rw [ht.1] at hv
  refine ⟨?_, ?_⟩ <;> cases v <;> simp_all [Cell.okWide,Cell.ok,Value.cells]
 | bool=>
  unfold Value.okWide at hv
  rw [ht.1] at hv
  refine ⟨?_, ?_⟩ <;> cases v <;> simp_all [Cell.okWide,Cell.ok,Value.cells]
 | id e=>
  unfold Value.okWide at hv
  rw [ht.1] at hv
  refine ⟨?_, ?_⟩ <;> cases v <;> simp_all [Cell.okWide,Cell.ok,Value.cells]
 | str=>
  unfold Value.okWide at hv
  rw [ht.1] at hv
  refine ⟨?_, ?_⟩ <;> cases v <;> simp_all [Cell.okWide,Cell.ok,Value.cells]
 | sl e k=>
  unfold Value.okWide at hv
  rw [ht.1] at hv
  refine ⟨?_, ?_⟩ <;> cases v <;> simp_all [Cell.okWide,Cell.ok,Value.cells]
theorem ML [Fr] (hid:T.ids=false) (hfr:∀b,b<W.heap.size→Fr.free b):∀{ps:List dG} {ts:List TypeId} {vs:List Value} {ds:List (DataW H)} {p:List MemPlace} {base:Nat},I5 P T ps ts→DataW.TrodAll enc P W 0 (fun _=>true) true ts vs ds p→
  (∀(j:Nat) t v,ts[j]?=some t→vs[j]?=some v→Value.okWide P W .any base t v)→∃c,I8 W ps c vs∧szC ps c≤Hw ds∧ds.length=ps.length∧aaf ps c
 | [],[],vs,ds,p,_,_,h,_=>by
  obtain ⟨rfl,rfl,_⟩:=ChangeShapes.trodAll_nil h
  exact ⟨(),trivial,anz _,rfl,trivial⟩
 | .val k [] :: ps,t :: ts,vs,ds,p,base,hp1,h,hv=>by
  obtain ⟨v,vs',d,ds',p1,q,rfl,rfl,rfl,⟨n,h1⟩,h2⟩:=ChangeShapes.trodAll_cons h
  obtain ⟨c,g1,g2,g3,g4⟩:=ML hid hfr hp1.2 h2 (fun j t v ht hv'=>hv (j+1) t v (by simpa using ht) (by simpa using hv'))
  obtain ⟨x,f1,f2,f3⟩:=(VZ (T:=T) (enc:=enc) hid hfr k).1 t n _ d p1 hp1.1 h1
  refine ⟨(x,c),⟨⟨_,agB hp1.1 (hv 0 t v rfl rfl) f1,f1⟩,g1⟩, ?_,by simp [g3],f3,g4⟩
  simp only [szC,Hw]
  omega
 | [],_ :: _,_,_,_,_,h,_,_=>h.elim
 | .val _ [] :: _,[],_,_,_,_,h,_,_=>h.elim
 | .val _ (_ :: _) :: _,ts,_,_,_,_,h,_,_=>by cases ts <;> exact h.elim
 | .ro _ :: _,ts,_,_,_,_,h,_,_=>by cases ts <;> exact h.elim
 | .rw _ _ _ _ :: _,ts,_,_,_,_,h,_,_=>by cases ts <;> exact h.elim
 | .jK _ _ _ :: _,ts,_,_,_,_,h,_,_=>by cases ts <;> exact h.elim
 | .own _ _ :: _,ts,_,_,_,_,h,_,_=>by cases ts <;> exact h.elim
 | .fn _ _ :: _,ts,_,_,_,_,h,_,_=>by cases ts <;> exact h.elim
 | .into _ _ :: _,ts,_,_,_,_,h,_,_=>by cases ts <;> exact h.elim
theorem Sz (hO:Ww W W') {p:MemPlace} (hp1:p.block<W.heap.size):W.sameAt W' p:=by
 have h:=hO.2.2.2 p.block hp1
 cases p with
 | cell b off=>
  have h':W'.heap[b]?=W.heap[b]?:=h
  show W'.cell? _=W.cell? _
  unfold World.cell?
  simp only [h']
 | map b=>exact h
theorem KD [Fr] (hid:T.ids=false) (hO:Ww W W') {sp:Nat→Bool} (hsp:∀b,b<W.heap.size→sp b=true):∀{ps:List dG} {ts:List TypeId} {vs:List Value} {ds:List (DataW H)} {p:List MemPlace},I5 P T ps ts→DataW.TrodAll enc P W 0 (fun _=>true) true ts vs ds p→
  DataW.TrodAll enc P W' 0 sp true ts vs ds p
 | [],[],vs,ds,p,_,h=>by
  obtain ⟨rfl,rfl,rfl⟩:=ChangeShapes.trodAll_nil h
  exact rfl
 | .val k [] :: ps,t :: ts,vs,ds,p,hp1,h=>by
  obtain ⟨v,vs',d,ds',p1,q,rfl,rfl,rfl,⟨n,h1⟩,h2⟩:=ChangeShapes.trodAll_cons h
  have h3:=KD hid hO hsp hp1.2 h2
  have h4:=aay hid hsp n t k _ _ hp1.1 h1
  exact ⟨p1,q,⟨n,DataW.trod_carry n t _ _ h4 (fun p hp2=>Sz hO (DataW.trod_lt n t _ _ h1 p hp2))⟩,h3,rfl⟩
 | [],_ :: _,_,_,_,h,_=>h.elim
 | .val _ [] :: _,[],_,_,_,h,_=>h.elim
 | .val _ (_ :: _) :: _,ts,_,_,_,h,_=>by cases ts <;> exact h.elim
 | .ro _ :: _,ts,_,_,_,h,_=>by cases ts <;> exact h.elim
 | .rw _ _ _ _ :: _,ts,_,_,_,h,_=>by cases ts <;> exact h.elim
 | .jK _ _ _ :: _,ts,_,_,_,h,_=>by cases ts <;> exact h.elim
 | .own _ _ :: _,ts,_,_,_,h,_=>by cases ts <;> exact h.elim
 | .fn _ _ :: _,ts,_,_,_,h,_=>by cases ts <;> exact h.elim
 | .into _ _ :: _,ts,_,_,_,h,_=>by cases ts <;> exact h.elim
theorem X6 (hO:Ww W W') (may:MemPlace→Prop):W.keptBut W' may:=by
 refine ⟨hO.1,hO.2.1,fun i hi=>?_⟩
 have h:W'.heap[i]?=W.heap[i]?:=hO.2.2.2 i hi
 rw [h]
 cases W.heap[i]? with
 | none=>rfl
 | some o=>
  cases o with
  | cells c t fr=>exact ⟨rfl,rfl,rfl,fun _ _=>rfl⟩
  | map es clock=>exact .inr ⟨rfl,rfl⟩
  | _=>rfl
abbrev acm (W:World):Fr:=⟨fun b=>b<W.heap.size,hp W,fun _=>.slice none 0 0,rfl,fun _=>⟨none,0,0,rfl⟩⟩
theorem NW {f:FuncId} {fn:Func} {code:Code} {ps:List dG} {F:Nat→Cont (kin ps)→Option (Cont (iB [.val .bool [] []]++kD ps))} {s:ChangeSpec} {tb:TypeId} {N:Nat}
  (hf:P.funcs[f]?=some fn) (hname:(fn.name == "runtime.NumGoroutine")=false) (hbody:fn.body=some code) (hps:I5 P T ps fn.params.toList) (hres:fn.resultTypes=#[tb]) (htb:P.underlying tb=some .bool)
  (hE:letI:=acm W; ∀n,ak P n ⟨f,ps,[.val .bool [] []],F⟩) (aki:∀c:Cont (kin ps),aaf ps c→szC ps c≤N→∃n out,F n c=some out∧out.1=true)
  (hvars:s.vars=[]) (hspec:∀ds:List (DataW H),ds.length=ps.length→s.fn H ds={ results:=[.lit (.bool true)],args:=ds })
  {base:Nat} {args:Array Value} {ds gs:List (DataW H)} {before:List MemPlace}
  (hval:∀(j:Nat) t v,fn.params[j]?=some t→args[j]?=some v→Value.okWide P W .any base t v)
  (hW:DataW.Whole enc P fn.params.toList s.vars false W args.toList ds gs before) (hb:Hw (ds++gs)≤N) (hid:T.ids=false:=by rfl) :
  Calls P f args W fun e W'=>∃v,e=.returned v∧s.post enc P fn false true false false W args v W':=by
 letI fr:Fr:=acm W
 have hW':=hW
 obtain ⟨p,q,hA,hV,hpq,hfz,hnd⟩:=hW
 rw [hvars] at hV
 obtain ⟨rfl,rfl⟩:=ChangeShapes.trodVars_none hV
 rw [anM] at hb
 obtain ⟨c,h1,h2,h3,h6⟩:=ML (T:=T) hid (fun b hb=>hb) hps hA (fun j t v ht hv=>hval j t v (by simpa using ht) (by simpa using hv))
 obtain ⟨n,out,h4,h5⟩:=aki c h6 (by omega)
 refine (X7 (fun b hb=>⟨hb,rfl⟩) (hE n) h4 h5 h1 (Go.MuLone.run_callFunc_enter hf hname hbody args W)).mono ?_
 rintro e W' ⟨rfl,hO⟩
 have hsp:=hspec ds h3
 rw [anM] at hpq
 refine ⟨_,rfl,ds,[],before,[],p,[],hW', ?_, ?_, ?_,X6 hO _,fun h=>by simp at h⟩
 ·rw [anM,hsp,hres]
  exact ⟨[],[],⟨1,by simp [DataW.trod,Value.cells,htb]⟩,rfl,rfl⟩
 ·rw [anM,hsp]
  exact KD hid hO (fun b hb=>by simpa using hb) hps hA
 ·rw [anM,hsp,hvars]
  exact rfl
end
end
section
open Go
structure V7 where
 ty:List (TypeId×K)
 bytes:List (TypeId×Nat)
 ptr:List TypeId
 ids:Bool:=false
def look {A:Type} (n:Nat):List (Nat×A)→Option A
 | []=>none
 | (m,a) :: l=>bif Nat.beq n m then some a else look n l
def aba (n:Nat):List (Nat×Nat)→Nat
 | []=>0
 | (m,a) :: l=>bif Nat.beq n m then a else aba n l
def V7.tab (L:V7):iT:={ ty:=fun t=>look t L.ty,bytes:=fun t=>aba t L.bytes,ptr:=fun t=>az t L.ptr,eq:=fun _=>false,ids:=L.ids }
def X3:K→Value→Bool
 | .int ik, .int jk (.ofNat 0)=>zX ik jk
 | .bool, .bool false=>true
 | .str, .string s=>Nat.beq s.data.size 0
 | .sl _ _, .slice none 0 0=>true
 | .id _, .slice none 0 0=>true
 | _,_=>false
def NT:K→List Value→Option (List Value)
 | .pair a b,l=>match NT a l with
  | some m=>NT b m
  | none=>none
 | .unit,l=>some l
 | .st f,l=>NT f l
 | .gap _,_=>none
 | k,v :: l=>bif X3 k v then some l else none
 | _,[]=>none
def isZ:K→Value→Bool
 | .st f, .agg arr=>match NT f arr.toList with
  | some []=>true
  | _=>false
 | .st _,_=>false
 | k,v=>X3 k v
def xk (P:Program) (t:TypeId) (k:K):Bool:=match P.info? t with
 | some i=>Nat.beq i.size k.size && (match i.zero with
  | some v=>isZ k v
  | none=>false)
 | none=>false
def lY (P:Program) (T:iT):K→(TypeId→Bool)×(List Field→Nat→Bool)
 | .int ik=>(fun t=>(match P.underlying t with
  | some (.int jk)=>zX ik jk
  | _=>false) && xk P t (.int ik),fun _ _=>false)
 | .bool=>(fun t=>(match P.underlying t with
  | some .bool=>true
  | _=>false) && xk P t .bool,fun _ _=>false)
 | .str=>(fun t=>(match P.underlying t with
  | some .string=>true
  | _=>false) && xk P t .str,fun _ _=>false)
 | .sl e k=>(fun t=>(match P.underlying t with
  | some (.slice e')=>Nat.beq e e'
  | _=>false) && xk P t (.sl e k) && (lY P T k).1 e && Nat.blt 0 k.size && (match P.info? e with
  | some i=>Nat.beq i.bytes (T.bytes e) && Nat.blt 0 i.bytes
  | none=>false),fun _ _=>false)
 | .unit=>(fun _=>false,fun fs _=>fs.isEmpty)
 | .pair a b=>(fun _=>false,fun fs off=>match fs with
  | []=>false
  | f :: fs=>Nat.beq f.offset off && (lY P T a).1 f.type && Nat.blt 0 a.size && (lY P T b).2 fs (off+a.size))
 | .st c=>(fun t=>(match P.underlying t with
  | some (.struct fs)=>(lY P T c).2 fs.toList 0
  | _=>false) && xk P t (.st c),fun _ _=>false)
 | .gap _=>(fun _=>false,fun _ _=>false)
 | .id e=>(fun t=>(match P.underlying t with
  | some (.slice e')=>Nat.beq e e'
  | _=>false) && xk P t (.id e) && T.ids,fun _ _=>false)
def Bw (P:Program) (L:V7):Bool:=L.ty.all (fun q=>(lY P L.tab q.2).1 q.1) && L.ptr.all fun t=>match P.underlying t with
 | some (.pointer _)=>true
 | _=>false
section
variable [Fr] {P:Program} {T:iT}
theorem TK {k:K} {v:Value} (h:X3 k v=true):bK k=[v]∧su k=v:=by
 unfold X3 at h
 split at h
 ·have:=AU h; subst this; exact ⟨rfl,rfl⟩
 ·exact ⟨rfl,rfl⟩
 ·rename_i s
  have:s=ByteArray.empty:=by
   have h1:=anl h
   obtain ⟨d⟩:=s
   have:d=#[]:=Array.eq_empty_of_size_eq_zero h1
   subst this
   rfl
  subst this
  exact ⟨rfl,rfl⟩
 ·exact ⟨rfl,rfl⟩
 ·exact ⟨rfl,rfl⟩
 ·simp at h
theorem aad:∀{k:K} {l m:List Value},NT k l=some m→l=bK k++m:=by
 intro k
 have one:∀{k:K} {l m:List Value},(match l with | v :: l=>(bif X3 k v then some l else none) | []=>none)=some m→l=bK k++m:=by
  intro k l m h
  cases l with
  | nil=>simp at h
  | cons v l=>
   obtain ⟨hb,h⟩:=ug h
   simp only [anh] at h
   subst h
   rw [(TK hb).1]
   rfl
 induction k with
 | pair a b iha ihb=>
  intro l m h
  simp only [NT] at h
  split at h
  ·rename_i q hq
   rw [iha hq,ihb h]
   simp [bK]
  ·simp at h
 | unit=>intro l m h; simp only [NT,anh] at h; subst h; rfl
 | st f ih=>intro l m h; exact ih (show NT f l=some m from h)
 | gap n=>intro l m h; simp [NT] at h
 | int ik=>intro l m h; exact one (k:=.int ik) (by cases l <;> exact h)
 | bool=>intro l m h; exact one (k:=.bool) (by cases l <;> exact h)
 | id e=>intro l m h; exact one (k:=.id e) (by cases l <;> exact h)
 | str=>intro l m h; exact one (k:=.str) (by cases l <;> exact h)
 | sl e k _=>intro l m h; exact one (k:=.sl e k) (by cases l <;> exact h)
theorem ac2 {k:K} {v:Value} (h:isZ k v=true):su k=v:=by
 unfold isZ at h
 split at h
 ·rename_i f arr
  split at h
  ·rename_i hz
   have:=aad hz
   simp only [anM] at this
   show Value.agg (bK f).toArray=.agg arr
   rw [←this]
  ·simp at h
 ·simp at h
 ·exact (TK h).2
theorem sS {t:TypeId} {k:K} (h:xk P t k=true):sG P t k:=by
 unfold xk at h
 split at h
 ·rename_i i hi
  simp only [ann] at h
  obtain ⟨h1,h2⟩:=h
  split at h2
  ·rename_i v hv
   exact ⟨i,hi,anl h1,by rw [hv,ac2 h2]⟩
  ·simp at h2
 ·simp at h
theorem Rl {a b:Nat} (h:Nat.blt a b=true):a<b:=by
 unfold Nat.blt at h
 exact Nat.le_of_ble_eq_true h
theorem YY:∀{k:K},(∀t,(lY P T k).1 t=true→(jN P T k).1 t)∧∀fs off,(lY P T k).2 fs off=true→(jN P T k).2 fs off:=by
 intro k
 induction k with
 | int ik=>
  refine ⟨fun t h=>?_,fun fs off h=>by simp [lY] at h⟩
  simp only [lY,ann] at h
  obtain ⟨h1,h2⟩:=h
  split at h1
  ·rename_i jk hu
   have:=AU h1; subst this
   exact ⟨hu,sS h2⟩
  ·simp at h1
 | bool=>
  refine ⟨fun t h=>?_,fun fs off h=>by simp [lY] at h⟩
  simp only [lY,ann] at h
  obtain ⟨h1,h2⟩:=h
  split at h1
  ·rename_i hu; exact ⟨hu,sS h2⟩
  ·simp at h1
 | str=>
  refine ⟨fun t h=>?_,fun fs off h=>by simp [lY] at h⟩
  simp only [lY,ann] at h
  obtain ⟨h1,h2⟩:=h
  split at h1
  ·rename_i hu; exact ⟨hu,sS h2⟩
  ·simp at h1
 | sl e k ih=>
  refine ⟨fun t h=>?_,fun fs off h=>by simp [lY] at h⟩
  simp only [lY,ann] at h
  obtain ⟨⟨⟨⟨h1,h2⟩,h3⟩,h4⟩,h5⟩:=h
  split at h1
  ·rename_i e' hu
   have:=anl h1; subst this
   split at h5
   ·rename_i i hi
    simp only [ann] at h5
    exact ⟨hu,sS h2,ih.1 e h3,Rl h4,i,hi,anl h5.1,Rl h5.2⟩
   ·simp at h5
  ·simp at h1
 | unit=>exact ⟨fun t h=>by simp [lY] at h,fun fs off h=>show fs=[] by simpa [lY] using h⟩
 | gap n=>exact ⟨fun t h=>by simp [lY] at h,fun fs off h=>by simp [lY] at h⟩
 | id e=>
  refine ⟨fun t h=>?_,fun fs off h=>by simp [lY] at h⟩
  simp only [lY,ann] at h
  obtain ⟨⟨h1,h2⟩,h3⟩:=h
  split at h1
  ·rename_i e' hu
   have:=anl h1; subst this
   exact ⟨hu,sS h2,h3⟩
  ·simp at h1
 | pair a b iha ihb=>
  refine ⟨fun t h=>by simp [lY] at h,fun fs off h=>?_⟩
  cases fs with
  | nil=>simp [lY] at h
  | cons f fs=>
   simp only [lY,ann] at h
   obtain ⟨⟨⟨h1,h2⟩,h3⟩,h4⟩:=h
   exact ⟨anl h1,iha.1 _ h2,Rl h3,ihb.2 _ _ h4⟩
 | st c ih=>
  refine ⟨fun t h=>?_,fun fs off h=>by simp [lY] at h⟩
  simp only [lY,ann] at h
  obtain ⟨h1,h2⟩:=h
  split at h1
  ·rename_i fs hu
   exact ⟨⟨fs,hu,ih.2 _ _ h1⟩,sS h2⟩
  ·simp at h1
theorem Qa {A:Type} {n:Nat} {a:A}:∀{l:List (Nat×A)},look n l=some a→(n,a)∈l
 | [],h=>by simp [look] at h
 | (m,b) :: l,h=>by
  simp only [look] at h
  cases hb:Nat.beq n m with
  | true=>
   rw [hb] at h
   have:=anl hb
   simp only [cond_true,anh] at h
   subst this h
   simp
  | false=>
   rw [hb] at h
   exact .tail _ (Qa h)
theorem YU {L:V7} (h:Bw P L=true):eF P L.tab:=by
 unfold Bw at h
 simp only [ann,anx] at h
 refine ⟨fun t k ht=>YY.1 t (h.1 (t,k) (Qa ht)),fun t ht=>?_⟩
 have:=h.2 t (aM.1 ht)
 split at this
 ·rename_i e he; exact ⟨e,he⟩
 ·simp at this
theorem adg {L:V7}:Lh P L.tab:=fun t c x y u v w hp1 hp2 ok1 ok2 _ he=>by simp [V7.tab] at he
end
end
section
open Go
abbrev DOk (T:iT) (hi:Hint) (fn:Func) (E:Entry):Prop:=∀n (c:Cont (kin E.ps)),ZG T hi fn E.ps E.rs n c=E.F n c
variable [Fr] {P:Program} {n:Nat}
theorem aD:∀q∈([]:List (Nat×Option Nat×Entry)),ak P n q.2.2:=by simp
theorem aa {f:Nat} {d:Option Nat} {E:Entry} {l:List (Nat×Option Nat×Entry)} (h:ak P n E) (t:∀q∈l,ak P n q.2.2):∀q∈(f,d,E) :: l,ak P n q.2.2:=by
 intro q hq
 rcases anu.1 hq with rfl | hq
 ·exact h
 ·exact t q hq
theorem aj (hm:P.follows .mixedOrders=true) {L:V7} (hL:Bw P L=true) {E:Entry} {fn:Func} (hf:P.funcs[E.f]?=some fn) (hname:(fn.name == "runtime.NumGoroutine")=false) {hi:Hint} (hC:∀q∈hi.calls,ak P n q.2.2)
  (hD:∀n (c:Cont (kin E.ps)),ZG L.tab hi fn E.ps E.rs n c=E.F n c):ak P n E:=
 Ry hm (YU hL) adg hf hname hC (fun c out h=>by rw [hD]; exact h)
end
section
open Go
def iR {A:Type} (xs:List A) (i:Nat) (d:A) (f:A→A):List A:=xs.set i (f (xs.getD i d))
def dm {R:Type} (step:Nat→Option R) (fin:R):Nat→Nat→R
 | 0,_=>fin
 | m+1,i=>match step i with
  | some r=>r
  | none=>dm step fin m (i+1)
theorem Sw {V R:Type} {B:(V→Option R)→V→Option R} (S:Nat→V) (step:Nat→Option (Option R)) (fin:Option R) {m:Nat} (h1:∀L i,i<m→(∀j,j<i→step j=none)→B L (S i)=match step i with | some r=>r | none=>L (S (i+1))) (h2:∀L,(∀j,j<m→step j=none)→B L (S m)=fin) :
  ∀(d i n:Nat),i+d=m→d<n→(∀j,j<i→step j=none)→rounds B n (S i)=dm step fin d i:=by
 intro d
 induction d with
 | zero=>
  intro i n hi hn hp
  cases n with
  | zero=>omega
  | succ n=>
   have:i=m:=by omega
   subst this
   exact h2 _ hp
 | succ d ih=>
  intro i n hi hn hp
  cases n with
  | zero=>omega
  | succ n=>
   show B (rounds B n) (S i)=_
   rw [h1 _ i (by omega) hp]
   unfold dm
   cases hs:step i with
   | some r=>rfl
   | none=>exact ih (i+1) n (by omega) (by omega) (fun j hj=>by
     by_cases e:j=i
     ·rw [e,hs]
     ·exact hp j (by omega))
theorem aS {V R:Type} {B:(V→Option R)→V→Option R} {v0:V} (S:Nat→V) (step:Nat→Option (Option R)) (fin:Option R) {m n:Nat} (h0:v0=S 0) (hn:m<n) (h1:∀L i,i<m→(∀j,j<i→step j=none)→B L (S i)=match step i with | some r=>r | none=>L (S (i+1))) (h2:∀L,(∀j,j<m→step j=none)→B L (S m)=fin) :
  rounds B n v0=dm step fin m 0:=by
 rw [h0]
 exact Sw S step fin h1 h2 m 0 n (by omega) hn (fun j h=>by omega)
theorem UL {A:Type} (d:A) {xs:List A} {i:Nat} (h:i<xs.length):(xs.take i++List.replicate (xs.length - i) d).set ((i:Int).toNat) xs[i]=xs.take (i+1)++List.replicate (xs.length - (i+1)) d:=by
 rw [anr]
 apply List.ext_getElem
 ·simp; omega
 ·intro j h1 h2
  rw [List.getElem_set]
  split
  ·rename_i e
   subst e
   rw [List.getElem_append_left (by simp; omega)]
   simp
  ·rename_i e
   simp only [List.getElem_append,List.length_take,List.getElem_take,List.getElem_replicate]
   split <;> split <;> first | rfl | omega
theorem fu {A:Type} {l:List A} {i:Nat} (h:i<l.length) (d:A):l.getD ((i:Int).toNat) d=l[i]:=by
 simp [h]
theorem bM {R:Type} {step:Nat→Option R} {fin:R}:∀{m i:Nat},(∀j,i≤j→j<i+m→step j=none)→dm step fin m i=fin:=by
 intro m
 induction m with
 | zero=>intro i _; rfl
 | succ m ih=>
  intro i h
  unfold dm
  rw [h i (anz _) (by omega)]
  exact ih (fun j h1 h2=>h j (by omega) (by omega))
theorem NL {R:Type} {s1 s2:Nat→Option R} {f1 f2:R} (hf:f1=f2):∀{m i:Nat},(∀j,i≤j→j<i+m→s1 j=s2 j)→dm s1 f1 m i=dm s2 f2 m i:=by
 intro m
 induction m with
 | zero=>intro i _; exact hf
 | succ m ih=>
  intro i h
  unfold dm
  rw [h i (anz _) (by omega)]
  cases s2 i with
  | some r=>rfl
  | none=>exact ih (fun j h1 h2=>h j (by omega) (by omega))
theorem D6 {R:Type} {step:Nat→Option R} {fin r:R} (hc:∀j,step j=none∨step j=some r):∀{m i:Nat},dm step fin m i=r∨dm step fin m i=fin:=by
 intro m
 induction m with
 | zero=>intro i; exact .inr rfl
 | succ m ih=>
  intro i
  unfold dm
  rcases hc i with h | h
  ·rw [h]; exact ih
  ·rw [h]; exact .inl rfl
theorem wrap_i64 {x:Int} (h1 : -9223372036854775808≤x) (h2:x≤9223372036854775807):IntKind.i64.wrap x=x:=by
 simp [IntKind.wrap,IntKind.bits,IntKind.signed]
 omega
theorem aT {i:Nat} {n:Nat} (h:i<n) (hn:n≤9223372036854775807):IntKind.i64.wrap ((i:Int)+1)=((i+1:Nat):Int):=by
 rw [wrap_i64 (by omega) (by omega)]
 omega
theorem aH {i n:Nat} (h:i<n):aJ (i:Int) n:=⟨by omega,by omega⟩
end
section
open Go
variable [Fr]
section
variable {P:Program} {cx:Cx} {σ:St} {α:dL} {F:List Nat} {a:Act} {w w':World}
theorem Rel.grown (H:Rel cx σ α F a w) (hO:Ww w w') (ht:w'.tape=w.tape):Rel cx σ α F a w':=H.Xl hO.1 hO.2.1 hO.2.2.1 hO.2.2.2 ht
end
end
section
open Go
variable [Fr]
section
variable {P:Program} {cx:Cx} {σ:St} {α:dL} {F:List Nat} {a:Act} {w w':World}
end
end
section
open Go
variable [Fr]
section
variable {P:Program} {cx:Cx} {σ:St} {α:dL} {F:List Nat} {a:Act} {w w':World}
end
end
section
open Go
section
variable {e:TypeId} {kk:K}
def Rw (e:TypeId) (kk:K) (z:Bool) (tb:Nat→List (El kk)):(k k':K)→El k→El k'→List Nat→Prop
 | .sl f k, .id f',xs,i,ns=>f=e∧f'=e∧∃h:k=kk,h▸(show List (El k) from xs)=tb i∧((i≠(0:Nat)∧ns=[i])∨(z=true∧i=(0:Nat)∧tb 0=[]∧ns=[]))
 | .sl f k, .sl f' k',xs,ys,ns=>f=f'∧k'.size=k.size∧(show List (El k) from xs).length=(show List (El k') from ys).length∧∃nss:List (List Nat),nss.length=(show List (El k) from xs).length∧ns=nss.flatten∧
   ∀(i:Nat) (h1:i<(show List (El k) from xs).length) (h2:i<(show List (El k') from ys).length),Rw e kk z tb k k' ((show List (El k) from xs)[i]) ((show List (El k') from ys)[i]) (nss.getD i [])
 | .pair a b, .pair a' b',x,y,ns=>∃n1 n2,ns=n1++n2∧Rw e kk z tb a a' x.1 y.1 n1∧Rw e kk z tb b b' x.2 y.2 n2
 | .st f, .st f',x,y,ns=>Rw e kk z tb f f' x y ns
 | .int ik, .int jk,x,y,ns=>ik=jk∧(show Int from x)=y∧ns=[]
 | .bool, .bool,x,y,ns=>(show Bool from x)=y∧ns=[]
 | .str, .str,x,y,ns=>(show List Int from x)=y∧ns=[]
 | .unit, .unit,_,_,ns=>ns=[]
 | _,_,_,_,_=>False
theorem Rw.size {z:Bool} {tb:Nat→List (El kk)}:∀{k k':K} {x:El k} {y:El k'} {ns:List Nat},Rw e kk z tb k k' x y ns→k'.size=k.size:=by
 intro k
 induction k with
 | sl f k ih=>intro k' x y ns h; cases k' <;> first | rfl | exact h.elim
 | pair a b iha ihb=>
  intro k' x y ns h
  cases k' with
  | pair a' b'=>unfold Rw at h; obtain ⟨n1,n2,_,h1,h2⟩:=h; simp [K.size,iha h1,ihb h2]
  | _=>exact h.elim
 | st f ih=>
  intro k' x y ns h
  cases k' with
  | st f'=>unfold Rw at h; exact ih (k':=f') (x:=x) (y:=y) (ns:=ns) h
  | _=>exact h.elim
 | int ik=>intro k' x y ns h; cases k' <;> first | rfl | exact h.elim
 | bool=>intro k' x y ns h; cases k' <;> first | rfl | exact h.elim
 | str=>intro k' x y ns h; cases k' <;> first | rfl | exact h.elim
 | unit=>intro k' x y ns h; cases k' <;> first | rfl | exact h.elim
 | gap n=>intro k' x y ns h; cases k' <;> exact h.elim
 | id f=>intro k' x y ns h; cases k' <;> exact h.elim
abbrev LZ:=Nat×Value×List Nat
def aR (l:List LZ):List Nat:=l.flatMap (·.2.2)
theorem Di:∀(l:List (List LZ)),aR l.flatten=(l.map aR).flatten
 | []=>rfl
 | a :: l=>by
  simp only [List.flatten_cons,List.map_cons]
  unfold aR at *
  rw [List.flatMap_append]
  congr 1
  exact Di l
theorem CY {A:Type}:∀{bD fs gs:List (List A)},fs.length=bD.length→gs.length=bD.length→(∀i,i<bD.length→(bD.getD i []).Perm (fs.getD i []++gs.getD i []))→bD.flatten.Perm (fs.flatten++gs.flatten)
 | [],[],[],_,_,_=>.refl _
 | f :: bD,[],_,h,_,_=>by simp at h
 | f :: bD,_ :: _,[],_,h,_=>by simp at h
 | [],_ :: _,_,h,_,_=>by simp at h
 | [],[],_ :: _,_,h,_=>by simp at h
 | f :: bD,a :: fs,b :: gs,h1,h2,h=>by
  have h0:=h 0 (by simp)
  have ht:=CY (bD:=bD) (fs:=fs) (gs:=gs) (by simpa using h1) (by simpa using h2) (fun i hi=>by have:=h (i+1) (by simpa using hi); simpa using this)
  simp only [List.flatten_cons]
  have h0':f.Perm (a++b):=by simpa using h0
  refine (h0'.append ht).trans ?_
  simp only [anE]
  refine List.Perm.append_left a ?_
  rw [←anE, ←anE]
  exact List.Perm.append_right _ List.perm_append_comm
variable [fr:Fr]
abbrev gJ (fr:Fr) (iI:Nat→Value) (h0:iI 0=.slice none 0 0) (hs:∀i,∃a n c,iI i=.slice a n c):Fr:=⟨fr.free,fr.obj,iI,h0,hs⟩
theorem OV {h:Heap} {own:List TypeId} {ok:Nat→Prop} {tb:Nat→List (El kk)}:∀{k k':K} {x:El k} {y:El k'} {ns:List Nat} {cs:List Value} {fo:List Nat},(∀t∈k.tys,az t own=true)→
  Rw e kk false tb k k' x y ns→Ow h own ok k x cs fo→
  ∃(dU:List LZ) (dH:List Nat),dU.map (·.1)=ns∧fo.Perm (dH++aR dU)∧(∀q∈dU,Ow h own ok (.sl e kk) (tb q.1) [q.2.1] q.2.2)∧
   ∀fr':Fr,fr'.free=fr.free→(∀q∈dU,fr'.iI q.1=q.2.1)→@Ow fr' h own ok k' y cs dH:=by
 intro k
 induction k with
 | sl f k ih=>
  intro k' x y ns cs fo hown hR hO
  cases k' with
  | id f'=>
   obtain ⟨rfl,rfl,hk,hx,hi⟩:=hR
   subst hk
   rcases hi with ⟨_,rfl⟩ | ⟨hz,_⟩
   ·have JY:=hO
    unfold Ow at hO
    rw [if_pos (hown f' (by simp [K.tys]))] at hO
    obtain ⟨a,n,c,rfl,_⟩:=hO
    refine ⟨[(y, .slice a n c,fo)],[],rfl,by simp [aR],fun q hq=>?_,fun fr' _ akb=>⟨rfl, ?_⟩⟩
    ·simp only [anC] at hq
     subst hq
     show Ow h own ok (.sl f' k) (tb y:List (El k)) _ _
     rw [←hx]
     exact JY
    ·show _=[fr'.iI y]
     rw [akb _ (anC.2 rfl)]
   ·simp at hz
  | sl f' k'=>
   obtain ⟨rfl,hsz,hl,nss,hnl,rfl,hat⟩:=hR
   have hf:az f own=true:=hown f (by simp [K.tys])
   unfold Ow at hO
   rw [if_pos hf] at hO
   obtain ⟨a,n,c,rfl,hn,hnc,hO⟩:=hO
   rcases hO with ⟨hc,rfl⟩ | ⟨b,o,arr,lo,hi,rfl,hb,hfz,hoc,bD,hfl,hfo,hel⟩
   ·have h0:(show List (El k) from x).length=0:=by omega
    refine ⟨[],[], ?_,by simp [aR],fun q hq=>by simp at hq,fun fr' _ _=>?_⟩
    ·have:nss=[]:=List.length_eq_zero_iff.1 (by omega)
     rw [this]; rfl
    ·unfold Ow
     rw [if_pos hf]
     exact ⟨a,n,c,rfl,by omega,hnc, .inl ⟨hc,rfl⟩⟩
   ·have hone:∀i,i<(show List (El k) from x).length→∃q:List LZ×List Nat,∀(h1:i<(show List (El k) from x).length) (h2:i<(show List (El k') from y).length),q.1.map (·.1)=nss.getD i []∧(bD.getD i []).Perm (q.2++aR q.1)∧(∀t∈q.1,Ow h own ok (.sl e kk) (tb t.1) [t.2.1] t.2.2)∧
      ∀fr':Fr,fr'.free=fr.free→(∀t∈q.1,fr'.iI t.1=t.2.1)→∃ds, @Cells h b (o+i * k.size) ds∧@Ow fr' h own ok k' ((show List (El k') from y)[i]) ds q.2:=by
     intro i h1
     obtain ⟨ds,g1,g2⟩:=hel i h1
     obtain ⟨dU,dH,f1,f2,f3,f4⟩:=ih (fun t ht=>hown t (by simp [K.tys,ht])) (hat i h1 (by omega)) g2
     exact ⟨(dU,dH),fun _ _=>⟨f1,f2,f3,fun fr' e1 e2=>⟨ds,g1,f4 fr' e1 e2⟩⟩⟩
    obtain ⟨qs,hql,hq⟩:=Gu hone
    refine ⟨(qs.map (·.1)).flatten,b :: (qs.map (·.2)).flatten, ?_, ?_, ?_,fun fr' e1 e2=>?_⟩
    ·rw [List.map_flatten,List.map_map]
     congr 1
     apply List.ext_getElem
     ·simp; omega
     ·intro i h1 h2
      have hi:i<qs.length:=by simpa using h1
      have:=(hq i hi (by omega) (by omega)).1
      simp only [List.getElem_map,Function.comp_apply]
      rw [this,anv,anw h2]
      rfl
    ·refine hfo.trans ?_
     rw [Di,List.cons_append]
     refine List.Perm.cons b (CY (by simp; omega) (by simp; omega) fun i hi=>?_)
     have hi':i<qs.length:=by omega
     have:=(hq i hi' (by omega) (by omega)).2.1
     simp only [anv,List.getElem?_map,anw hi',Option.map_some,Option.getD_some,List.map_map,Function.comp_apply] at this ⊢
     exact this
    ·intro t ht
     obtain ⟨l,hl,ht⟩:=List.mem_flatten.1 ht
     obtain ⟨q,hq',rfl⟩:=anT.1 hl
     obtain ⟨i,hi,rfl⟩:=List.getElem_of_mem hq'
     exact (hq i hi (by omega) (by omega)).2.2.1 t ht
    ·unfold Ow
     rw [if_pos hf]
     refine ⟨_,n,c,rfl,by omega,hnc, .inr ⟨b,o,arr,lo,hi,rfl,hb,hfz, ?_,qs.map (·.2),by rw [List.length_map,hql]; exact hl, .refl _,fun i hi'=>?_⟩⟩
     ·rw [hsz]; exact hoc
     ·have hiq:i<qs.length:=by omega
      obtain ⟨ds,g1,g2⟩:=(hq i hiq (by omega) hi').2.2.2 fr' e1 (fun t ht=>e2 t (List.mem_flatten.2 ⟨_,anT.2 ⟨qs[i],anL hiq,rfl⟩,ht⟩))
      refine ⟨ds, ?_, ?_⟩
      ·rw [hsz]; exact g1
      ·have:(qs.map (·.2)).getD i []=qs[i].2:=by simp [anv,List.getElem?_map,anw hiq]
       rw [this]
       exact g2
  | _=>exact hR.elim
 | pair a b iha ihb=>
  intro k' x y ns cs fo hown hR hO
  cases k' with
  | pair a' b'=>
   obtain ⟨n1,n2,rfl,r1,r2⟩:=hR
   obtain ⟨c1,c2,f1,f2,rfl,hp,o1,o2⟩:=hO
   obtain ⟨t1,g1,p1,p2,p3,p4⟩:=iha (fun t ht=>hown t (by simp [K.tys,ht])) r1 o1
   obtain ⟨t2,g2,q1,q2,q3,q4⟩:=ihb (fun t ht=>hown t (by simp [K.tys,ht])) r2 o2
   refine ⟨t1++t2,g1++g2,by rw [List.map_append,p1,q1], ?_,fun q hq=>?_,fun fr' e1 e2=>⟨c1,c2,g1,g2,rfl, .refl _,p4 fr' e1 (fun q hq=>e2 q (anm _ hq)),q4 fr' e1 (fun q hq=>e2 q (anj _ hq))⟩⟩
   ·refine hp.trans ((p2.append q2).trans ?_)
    have:aR (t1++t2)=aR t1++aR t2:=by simp [aR]
    rw [this]
    simp only [anE]
    refine List.Perm.append_left g1 ?_
    rw [←anE, ←anE]
    exact List.Perm.append_right _ List.perm_append_comm
   ·rcases anq.1 hq with hq | hq
    ·exact p3 q hq
    ·exact q3 q hq
  | _=>exact hR.elim
 | st f ih=>
  intro k' x y ns cs fo hown hR hO
  cases k' with
  | st f'=>
   obtain ⟨dU,dH,f1,f2,f3,f4⟩:=ih (k':=f') (x:=x) (y:=y) (ns:=ns) (cs:=cs) (fo:=fo) hown hR hO
   exact ⟨dU,dH,f1,f2,f3,fun fr' e1 e2=>f4 fr' e1 e2⟩
  | _=>exact hR.elim
 | int ik=>
  intro k' x y ns cs fo hown hR hO
  cases k' with
  | int jk=>
   obtain ⟨rfl,rfl,rfl⟩:=hR
   exact ⟨[],fo,rfl,by simp [aR],fun q hq=>by simp at hq,fun _ _ _=>hO⟩
  | _=>exact hR.elim
 | bool=>
  intro k' x y ns cs fo hown hR hO
  cases k' with
  | bool=>
   obtain ⟨rfl,rfl⟩:=hR
   exact ⟨[],fo,rfl,by simp [aR],fun q hq=>by simp at hq,fun _ _ _=>hO⟩
  | _=>exact hR.elim
 | str=>
  intro k' x y ns cs fo hown hR hO
  cases k' with
  | str=>
   obtain ⟨rfl,rfl⟩:=hR
   exact ⟨[],fo,rfl,by simp [aR],fun q hq=>by simp at hq,fun _ _ _=>hO⟩
  | _=>exact hR.elim
 | unit=>
  intro k' x y ns cs fo hown hR hO
  cases k' with
  | unit=>
   have:ns=[]:=hR
   subst this
   exact ⟨[],fo,rfl,by simp [aR],fun q hq=>by simp at hq,fun _ _ _=>hO⟩
  | _=>exact hR.elim
 | gap n=>intro k' x y ns cs fo _ hR; cases k' <;> exact hR.elim
 | id f=>intro k' x y ns cs fo _ hR; cases k' <;> exact hR.elim
theorem M0 {A B:Type} (f:A→B):∀{nss:List (List B)} {l:List A},l.map f=nss.flatten→∃OE:List (List A),OE.flatten=l∧OE.map (·.map f)=nss
 | [],l,h=>by
  have:l=[]:=by simpa using h
  exact ⟨[],by simp [this],rfl⟩
 | ns :: nss,l,h=>by
  rw [List.flatten_cons,List.map_eq_append_iff] at h
  obtain ⟨l1,l2,rfl,h1,h2⟩:=h
  obtain ⟨OE,g1,g2⟩:=M0 f h2
  exact ⟨l1 :: OE,by simp [g1],by simp [h1,g2]⟩
theorem Nn {h:Heap} {own:List TypeId} {ok:Nat→Prop} {tb:Nat→List (El kk)} (fr':Fr):∀{k k':K} {x:El k} {y:El k'} {dU:List LZ} {cs:List Value} {dH:List Nat},(∀t∈k.tys,az t own=true)→
  Rw e kk true tb k k' x y (dU.map (·.1))→@Ow fr' h own ok k' y cs dH→(∀q∈dU, @Ow fr h own ok (.sl e kk) (tb q.1) [q.2.1] q.2.2∧fr'.iI q.1=q.2.1)→@Ow fr h own ok k x cs (dH++aR dU):=by
 intro k
 induction k with
 | sl f k ih=>
  intro k' x y dU cs dH hown hR hO htr
  cases k' with
  | id f'=>
   obtain ⟨rfl,rfl,hk,hx,hi⟩:=hR
   subst hk
   obtain ⟨rfl,hcs⟩:=hO
   have hcs:cs=[fr'.iI y]:=hcs
   subst hcs
   rcases hi with ⟨_,hns⟩ | ⟨_,h0,hx0,hns⟩
   ·cases dU with
    | nil=>simp at hns
    | cons q l=>
     cases l with
     | cons _ _=>simp at hns
     | nil=>
      simp only [List.map_cons,List.map_nil,List.cons.injEq,and_true] at hns
      obtain ⟨g1,g2⟩:=htr q (by simp)
      rw [hns] at g1 g2
      have hx':(show List (El k) from x)=tb y:=hx
      show @Ow fr h own ok (.sl f' k) (show List (El k) from x) _ _
      rw [hx',g2]
      simpa [aR] using g1
   ·have ht:dU=[]:=by simpa using hns
    subst ht
    have hy:y=(0:Nat):=h0
    subst hy
    have hx':(show List (El k) from x)=[]:=hx.trans hx0
    rw [fr'.ac1]
    unfold Ow
    rw [if_pos (hown f' (by simp [K.tys]))]
    exact ⟨none,0,0,rfl,by rw [hx']; rfl,anz _, .inl ⟨rfl,rfl⟩⟩
  | sl f' k'=>
   obtain ⟨rfl,hsz,hl,nss,hnl,hns,hat⟩:=hR
   have hf:az f own=true:=hown f (by simp [K.tys])
   unfold Ow at hO ⊢
   rw [if_pos hf] at hO ⊢
   obtain ⟨a,n,c,rfl,hn,hnc,hO⟩:=hO
   obtain ⟨OE,rfl,hts⟩:=M0 (fun q:LZ=>q.1) hns
   have htl:OE.length=nss.length:=by rw [←hts,List.length_map]
   rcases hO with ⟨hc,rfl⟩ | ⟨b,o,arr,lo,hi,rfl,hb,hfz,hoc,bD,hfl,hfo,hel⟩
   ·have h0:(show List (El k) from x).length=0:=by omega
    have:OE=[]:=List.length_eq_zero_iff.1 (by omega)
    subst this
    exact ⟨a,n,c,rfl,by omega,hnc, .inl ⟨hc,rfl⟩⟩
   ·have hone:∀i (hi1:i<(show List (El k) from x).length),∃ds,Cells h b (o+i * k.size) ds∧@Ow fr h own ok k ((show List (El k) from x)[i]) ds (bD.getD i []++aR (OE.getD i [])):=by
     intro i h1
     obtain ⟨ds,g1,g2⟩:=hel i (by omega)
     have hti:i<OE.length:=by omega
     have e1:OE.getD i []=OE[i]:=by simp [hti]
     have e2:nss.getD i []=(OE[i]).map (·.1):=by
      rw [←hts]
      simp [hti]
     have hR':=hat i h1 (by omega)
     rw [e2] at hR'
     refine ⟨ds,by rw [←hsz]; exact g1, ?_⟩
     rw [e1]
     exact ih (fun t ht=>hown t (by simp [K.tys,ht])) hR' g2 (fun q hq=>htr q (List.mem_flatten.2 ⟨_,anL hti,hq⟩))
    refine ⟨_,n,c,rfl,by omega,hnc, .inr ⟨b,o,arr,lo,hi,rfl,hb,hfz,by rw [←hsz]; exact hoc,(List.range (show List (El k) from x).length).map fun i=>bD.getD i []++aR (OE.getD i []),by simp, ?_,fun i h1=>?_⟩⟩
    ·refine (hfo.append_right _).trans ?_
     rw [List.cons_append]
     refine List.Perm.cons b ?_
     rw [Di]
     refine (CY (bD:=(List.range (show List (El k) from x).length).map fun i=>bD.getD i []++aR (OE.getD i [])) (fs:=bD) (gs:=OE.map aR) (by rw [List.length_map,List.length_range]; omega) (by rw [List.length_map,List.length_map,List.length_range]; omega) fun i hi1=>?_).symm
     have hi2:i<(show List (El k) from x).length:=by simpa using hi1
     have hti:i<OE.length:=by omega
     simp [anv,List.getElem?_map,List.getElem?_range,hi2,hti]
    ·obtain ⟨ds,g1,g2⟩:=hone i h1
     refine ⟨ds,g1, ?_⟩
     have:((List.range (show List (El k) from x).length).map fun i=>bD.getD i []++aR (OE.getD i [])).getD i []=bD.getD i []++aR (OE.getD i []):=by
      simp [anv,List.getElem?_map,List.getElem?_range,h1]
     rw [this]
     exact g2
  | _=>exact hR.elim
 | pair a b iha ihb=>
  intro k' x y dU cs dH hown hR hO htr
  cases k' with
  | pair a' b'=>
   obtain ⟨n1,n2,hns,r1,r2⟩:=hR
   obtain ⟨c1,c2,f1,f2,rfl,hp,o1,o2⟩:=hO
   rw [List.map_eq_append_iff] at hns
   obtain ⟨t1,t2,rfl,rfl,rfl⟩:=hns
   refine ⟨c1,c2,f1++aR t1,f2++aR t2,rfl, ?_,iha (fun t ht=>hown t (by simp [K.tys,ht])) r1 o1 (fun q hq=>htr q (anm _ hq)),ihb (fun t ht=>hown t (by simp [K.tys,ht])) r2 o2 (fun q hq=>htr q (anj _ hq))⟩
   refine (hp.append_right _).trans ?_
   have:aR (t1++t2)=aR t1++aR t2:=by simp [aR]
   rw [this]
   simp only [anE]
   refine List.Perm.append_left f1 ?_
   rw [←anE, ←anE]
   exact List.Perm.append_right _ List.perm_append_comm
  | _=>exact hR.elim
 | st f ih=>
  intro k' x y dU cs dH hown hR hO htr
  cases k' with
  | st f'=>exact ih (k':=f') (x:=x) (y:=y) (dU:=dU) (cs:=cs) (dH:=dH) hown hR hO htr
  | _=>exact hR.elim
 | int ik=>
  intro k' x y dU cs dH hown hR hO htr
  cases k' with
  | int jk=>
   obtain ⟨rfl,rfl,hns⟩:=hR
   have:dU=[]:=by simpa using hns
   subst this
   have e0:dH++aR []=dH:=anM _
   rw [e0]
   exact hO
  | _=>exact hR.elim
 | bool=>
  intro k' x y dU cs dH hown hR hO htr
  cases k' with
  | bool=>
   obtain ⟨rfl,hns⟩:=hR
   have:dU=[]:=by simpa using hns
   subst this
   have e0:dH++aR []=dH:=anM _
   rw [e0]
   exact hO
  | _=>exact hR.elim
 | str=>
  intro k' x y dU cs dH hown hR hO htr
  cases k' with
  | str=>
   obtain ⟨rfl,hns⟩:=hR
   have:dU=[]:=by simpa using hns
   subst this
   have e0:dH++aR []=dH:=anM _
   rw [e0]
   exact hO
  | _=>exact hR.elim
 | unit=>
  intro k' x y dU cs dH hown hR hO htr
  cases k' with
  | unit=>
   have hns:dU.map (·.1)=[]:=hR
   have:dU=[]:=by simpa using hns
   subst this
   have e0:dH++aR []=dH:=anM _
   rw [e0]
   exact hO
  | _=>exact hR.elim
 | gap n=>intro k' x y dU cs dH _ hR; cases k' <;> exact hR.elim
 | id f=>intro k' x y dU cs dH _ hR; cases k' <;> exact hR.elim
def CX:K→Bool
 | .id _=>false
 | .sl _ k=>CX k
 | .pair a b=>CX a && CX b
 | .st f=>CX f
 | _=>true
theorem WG {h:Heap} {ok:Nat→Prop} (fr':Fr) (hf:fr'.free=fr.free):∀{k:K} {x:El k} {cs:List Value},CX k=true→@Vw fr h ok k x cs→@Vw fr' h ok k x cs:=by
 intro k
 induction k with
 | sl f k ih=>
  intro x cs hk H
  obtain ⟨a,n,c,e1,e2,e3,H⟩:=H
  refine ⟨a,n,c,e1,e2,e3,fun hn=>?_⟩
  obtain ⟨b,o,ea,hb,ht,H⟩:=H hn
  refine ⟨b,o,ea,hb,ht.imp id (fun h=>by rw [hf]; exact h),fun i hi=>?_⟩
  obtain ⟨ds,h1,h2⟩:=H i hi
  exact ⟨ds,h1,ih hk h2⟩
 | pair a b iha ihb=>
  intro x cs hk H
  simp only [CX,ann] at hk
  obtain ⟨c1,c2,e,h1,h2⟩:=H
  exact ⟨c1,c2,e,iha hk.1 h1,ihb hk.2 h2⟩
 | st f ih=>intro x cs hk H; exact ih (x:=x) (cs:=cs) hk H
 | id f=>intro x cs hk; simp [CX] at hk
 | int ik=>intro x cs _ H; exact H
 | bool=>intro x cs _ H; exact H
 | str=>intro x cs _ H; exact H
 | unit=>intro x cs _ H; exact H
 | gap n=>intro x cs _ H; exact H
def zq (cx:Cx) (bad:List Nat):Cx:={ cx with
 par:=fun j=>(cx.par j).map fun pi=>{ pi with bl:=pi.bl.filter fun b=>!az b bad }
 ptrs:=fun _ _ _ _=>False
 refs:=fun _ _=>False }
theorem nP {cx:Cx} {bad:List Nat} {j:Nat} {Er:Uu} (h:(zq cx bad).par j=some Er):∃pi,cx.par j=some pi∧Er={ pi with bl:=pi.bl.filter fun b=>!az b bad }:=by
 simp only [zq,Option.map_eq_some_iff] at h
 obtain ⟨pi,h1,h2⟩:=h
 exact ⟨pi,h1,h2.symm⟩
theorem JB {cx:Cx} {bad:List Nat} {b:Nat}:lN (zq cx bad) b↔lN cx b:=by
 constructor
 ·rintro ⟨j,Er,o,n,h1,h2⟩
  obtain ⟨pi,g1,rfl⟩:=nP h1
  exact ⟨j,pi,o,n,g1,h2⟩
 ·rintro ⟨j,pi,o,n,h1,h2⟩
  exact ⟨j,{ pi with bl:=pi.bl.filter fun b=>!az b bad },o,n,by simp [zq,h1],h2⟩
def RQ (T:List Tag):Prop:=∀t∈T,fI t.1=true
def DL:xJ→Prop
 | .one .undef=>True
 | .one (.ptr r p n)=>r=ay 0∧p=[]∧n=0
 | .one (.val k _ T)=>CX k=true∧RQ T
 | .one (.fn _ cs)=>∀c∈cs,CX c.2.1.1=true∧RQ c.2.2∧c.1=SENT
 | _=>False
section
variable {cx:Cx} {σ:St} {α:dL} {a:Act} {w:World}
theorem Yv {R0 R1:Root} {dH bad:List Nat} (h0:∀r R,aP σ r R→r=ay 0∧R=R0) (h1:aP σ (ay 0) R0) (hk:R1.kind=R0.kind) (hsub:∀b∈dH,b∈α.fo (ay 0)) (hbad:∀b∈bad,b∈α.fo (ay 0)) {T:List Tag} (hT:RQ T) {b:Nat} (h:iL cx σ α [] w T b) :
  iL (zq cx bad) (au σ (ay 0) R1) (aG α (ay 0) (α.loc (ay 0)) (α.hdr (ay 0)) dH) [] w T b:=by
 obtain ⟨g1,g2,g3,g4,g5⟩:=h
 refine ⟨g1,g2,fun hb=>g3 (JB.1 hb),fun r R hr hb=>?_,fun hlt=>?_⟩
 ·rcases jm hr with ⟨rfl,rfl,_⟩ | ⟨e,hr'⟩
  ·rw [eG] at hb
   refine g4 _ R0 h1 ?_
   rw [bV]
   unfold iA at hb ⊢
   rw [hk] at hb
   rcases anq.1 hb with h | h
   ·exact anm _ h
   ·exact anj _ (hsub b h)
  ·exact absurd (h0 r R hr').1 e
 ·rcases g5 hlt with ⟨j,n,f1,f2⟩ | ⟨j,pi,f1,f2⟩
  ·exact .inl ⟨j,n,f1,f2⟩
  ·refine .inr ⟨j,{ pi with bl:=pi.bl.filter fun b=>!az b bad },by simp [zq,f1], ?_⟩
   refine anA.2 ⟨f2, ?_⟩
   cases hm:az b bad with
   | false=>rfl
   | true=>
    have hb:=hbad b (aM.1 hm)
    obtain ⟨n,hn⟩:=g4 _ R0 h1 (by rw [bV]; exact anj _ hb)
    have:=hT _ hn
    rw [oH] at this
    simp at this
theorem Jy {σ:St} {tys:List TypeId} {T:List Tag} (h:RQ T):bq σ tys T=true:=oF.2 fun t ht=>.inl (h t ht)
structure Ck (cx:Cx) (σ:St) (α:dL) (R0 R1:Root) (dH bad:List Nat):Prop where
 only:∀r R,aP σ r R→r=ay 0∧R=R0
 lv:aP σ (ay 0) R0
 kind:R1.kind=R0.kind
 tags:R0.tags=[]
 sub:∀b∈dH,b∈α.fo (ay 0)
 bad:∀b∈bad,b∈α.fo (ay 0)
theorem Ck.iL {R0 R1:Root} {dH bad:List Nat} (L:Ck cx σ α R0 R1 dH bad) {T:List Tag} (hT:RQ T) {b:Nat} (h:Ow.iL cx σ α [] w T b) :
  Ow.iL (zq cx bad) (au σ (ay 0) R1) (aG α (ay 0) (α.loc (ay 0)) (α.hdr (ay 0)) dH) [] w T b:=Yv L.only L.lv L.kind L.sub L.bad hT h
theorem Ck.wh {R0 R1:Root} {dH bad:List Nat} (L:Ck cx σ α R0 R1 dH bad):dV (aG α (ay 0) (α.loc (ay 0)) (α.hdr (ay 0)) dH) R1 (ay 0)=dV α R0 (ay 0):=by
 rw [jH]
 unfold wO dV
 rw [L.kind] <;> cases R0.kind <;> rfl
theorem Ck.av (fr':Fr) (hf:fr'.free=fr.free) {R0 R1:Root} {dH bad:List Nat} (L:Ck cx σ α R0 R1 dH bad) {x:xJ} {v:Value} (hx:DL x) (h : @jd fr cx σ α [] w x v) :
  @jd fr' (zq cx bad) (au σ (ay 0) R1) (aG α (ay 0) (α.loc (ay 0)) (α.hdr (ay 0)) dH) [] w x v:=by
 have hv0:bu σ R0:=⟨L.lv.2,by rw [L.tags]; rfl⟩
 cases x with
 | KX l=>exact hx.elim
 | lit _ _ _=>exact hx.elim
 | one x=>
  cases x with
  | undef=>trivial
  | ptr r p n=>
   obtain ⟨rfl,rfl,rfl⟩:=hx
   refine ⟨h.1,fun R hR _ _ _ _=>?_⟩
   rw [aI] at hR
   have hR:=anS hR
   subst hR
   obtain ⟨_,cs,b,o,hn,e⟩:=h.2 R0 L.lv.1 hv0 (by unfold dY clean; simp [az]) (fun t ht=>by simp [ah] at ht) rfl
   simp only [bG,anh,ant] at hn
   refine ⟨trivial,α.hdr (ay 0),b,o, ?_,e⟩
   simp only [bG]
   rw [L.wh,hn.2]
   simp [aG,upd_same]
  | val k x T=>
   intro _
   obtain ⟨cs,h1,h2⟩:=h (.inr (Jy hx.2))
   exact ⟨cs,h1, @WG fr _ _ fr' hf _ _ _ hx.1 (@gq fr _ _ _ _ (fun _ _=>rfl) (fun b hb=>L.iL hx.2 hb) _ _ _ h2)⟩
  | fn f cs=>
   obtain ⟨vs,e,hc⟩:=h
   refine ⟨vs,e, ?_⟩
   clear e
   have key:∀(cs:List (TypeId×Dat×List Tag)) (vs:List Value),(∀c∈cs,CX c.2.1.1=true∧RQ c.2.2∧c.1=SENT)→@ku fr cx σ α [] w cs vs→@ku fr' (zq cx bad) (au σ (ay 0) R1) (aG α (ay 0) (α.loc (ay 0)) (α.hdr (ay 0)) dH) [] w cs vs:=by
    intro cs
    induction cs with
    | nil=>intro vs _ h; cases vs <;> exact h
    | cons c cs ih=>
     intro vs hc h
     cases vs with
     | nil=>exact h
     | cons v vs=>
      obtain ⟨⟨h1,h2⟩,h3⟩:=h
      obtain ⟨g1,g2,g3⟩:=hc c (by simp)
      refine ⟨⟨h1,fun _=>?_⟩,ih vs (fun c hc'=>hc c (by simp [hc'])) h3⟩
      obtain ⟨b,o,ds,e,q1,q2,⟨q3,q4,q5⟩,_⟩:=h2 (Jy g2)
      refine ⟨b,o,ds,e,q1, @WG fr _ _ fr' hf _ _ _ g1 (@gq fr _ _ _ _ (fun _ _=>rfl) (fun b hb=>L.iL g2 hb) _ _ _ q2),⟨q3,q4,fun r R hr hb=>?_⟩, .inl ⟨g3,g2⟩⟩
      rcases jm hr with ⟨rfl,rfl,_⟩ | ⟨e,hr'⟩
      ·rw [eG] at hb
       refine q5 _ R0 L.lv ?_
       rw [bV]
       unfold iA at hb ⊢
       rw [L.kind] at hb
       rcases anq.1 hb with h | h
       ·exact anm _ h
       ·exact anj _ (L.sub b h)
      ·exact absurd (L.only r R hr').1 e
   exact key cs vs hx hc
  | _=>exact hx.elim
theorem R7:∀{dU:List LZ},(dU.map (·.1)).Nodup→0∉dU.map (·.1)→(∀q∈dU,∃a n c,q.2.1=Value.slice a n c)→∃iI:Nat→Value,iI 0=.slice none 0 0∧(∀i,∃a n c,iI i=.slice a n c)∧∀q∈dU,iI q.1=q.2.1
 | [],_,_,_=>⟨fun _=>.slice none 0 0,rfl,fun _=>⟨none,0,0,rfl⟩,fun q hq=>by simp at hq⟩
 | q :: l,hn,h0,hs=>by
  rw [List.map_cons,anQ] at hn
  rw [List.map_cons,anu,not_or] at h0
  obtain ⟨iI,g1,g2,g3⟩:=R7 hn.2 h0.2 (fun q hq=>hs q (by simp [hq]))
  refine ⟨fun i=>if i=q.1 then q.2.1 else iI i,by simp only [if_neg h0.1]; exact g1,fun i=>?_,fun t ht=>?_⟩
  ·by_cases h:i=q.1
   ·simp only [if_pos h]; exact hs q (by simp)
   ·simp only [if_neg h]; exact g2 i
  ·rcases anu.1 ht with rfl | ht
   ·simp only [if_true]
   ·have hne:¬t.1=q.1:=fun e=>hn.1 (anT.2 ⟨t,ht,e⟩)
    simp only [if_neg hne]; exact g3 t ht
theorem Ua {h:Heap} {own:List TypeId} {ok:Nat→Prop} {xs:List (El kk)} {v:Value} {fo:List Nat} (he:az e own=true) (H:Ow h own ok (.sl e kk) xs [v] fo):∃a n c,v=.slice a n c:=by
 unfold Ow at H
 rw [if_pos he] at H
 obtain ⟨a,n,c,hv,_⟩:=H
 simp only [List.cons.injEq,and_true] at hv
 exact ⟨a,n,c,hv⟩
theorem Vs (H:Rel cx σ α [] a w) (hw0:cx.w0=w) {R0:Root} (hR0:aP σ (ay 0) R0) (nS:∀r,r≠ay 0→σ.roots r=none) (hpar:R0.kind=.par) (rO:R0.tags=[]) (hown:∀t∈R0.k.tys,az t R0.own=true) (he:az e R0.own=true)
  (hsl:∀s,DL (σ.slots s)) {k':K} {x':El k'} {tb:Nat→List (El kk)} {ns:List Nat} (hR:Rw e kk false tb R0.k k' R0.x x' ns) (hnd:ns.Nodup) (hn0:0∉ns) (hown':∀t∈k'.tys,az t R0.own=true) :
  ∃(dU:List LZ) (dH:List Nat) (iI:Nat→Value) (h0:iI 0=.slice none 0 0) (hs:∀i,∃a n c,iI i=.slice a n c),dU.map (·.1)=ns∧(α.fo (ay 0)).Perm (dH++aR dU)∧
   (∀q∈dU, @Ow fr (hp w) R0.own (fun _=>False) (.sl e kk) (tb q.1) [q.2.1] q.2.2)∧(∀q∈dU,iI q.1=q.2.1)∧
   @Rel (gJ fr iI h0 hs) (zq cx (aR dU)) (au σ (ay 0) { R0 with k:=k',x:=x' }) (aG α (ay 0) (α.loc (ay 0)) (α.hdr (ay 0)) dH) [] a w:=by
 have K:=H.roots _ R0 hR0
 have hv0:bu σ R0:=⟨hR0.2,by rw [rO]; rfl⟩
 have hO:Ow (hp w) R0.own (fun _=>False) R0.k R0.x (α.hdr (ay 0)) (α.fo (ay 0)):=gF (dA hown) (K.ow hv0)
 obtain ⟨dU,dH,g1,g2,g3,g4⟩:=OV hown hR hO
 obtain ⟨iI,i1,i2,i3⟩:=R7 (dU:=dU) (by rw [g1]; exact hnd) (by rw [g1]; exact hn0) (fun q hq=>Ua he (g3 q hq))
 refine ⟨dU,dH,iI,i1,i2,g1,g2,g3,i3, ?_⟩
 have hblk:blk α R0 (ay 0)=(α.loc (ay 0)).1 :: α.fo (ay 0):=by unfold blk dV; rw [hpar]; rfl
 have hsub:∀b∈dH,b∈α.fo (ay 0):=fun b hb=>g2.mem_iff.2 (anm _ hb)
 have hbad:∀b∈aR dU,b∈α.fo (ay 0):=fun b hb=>g2.mem_iff.2 (anj _ hb)
 have L:Ck cx σ α R0 { R0 with k:=k',x:=x' } dH (aR dU):=⟨fun r R hr=>by
  by_cases e:r=ay 0
  ·subst e; refine ⟨rfl, ?_⟩; have:=hr.1; rw [hR0.1] at this; exact (anS this).symm
  ·have:=hr.1; rw [nS r e] at this; simp at this,hR0,rfl,rO,hsub,hbad⟩
 have sj:=K.nd
 rw [hblk] at sj
 have D9:=anQ.1 sj
 have qN:=ano.1 (g2.nodup D9.2)
 have hlv:∀{q Q},aP (au σ (ay 0) { R0 with k:=k',x:=x' }) q Q→q=ay 0∧Q={ R0 with k:=k',x:=x' }:=fun {q Q} hq=>by
  rcases jm hq with ⟨rfl,rfl,_⟩ | ⟨e,hq'⟩
  ·exact ⟨rfl,rfl⟩
  ·exact absurd (L.only q Q hq').1 e
 have hlv1:aP (au σ (ay 0) { R0 with k:=k',x:=x' }) (ay 0) { R0 with k:=k',x:=x' }:=⟨aI ..,hR0.2⟩
 have hblk':blk (aG α (ay 0) (α.loc (ay 0)) (α.hdr (ay 0)) dH) { R0 with k:=k',x:=x' } (ay 0)=(α.loc (ay 0)).1 :: dH:=by
  rw [eG]; unfold iA; simp only [hpar]; rfl
 have jD:∀b∈(α.loc (ay 0)).1 :: dH,Ow.mine (zq cx (aR dU)) w b:=fun b hb=>by
  have hb0:b∈blk α R0 (ay 0):=by
   rw [hblk]
   rcases anu.1 hb with h | h
   ·rw [h]; exact anP
   ·exact anH _ (hsub b h)
  obtain ⟨m1,m2⟩:=K.mine b hb0
  refine ⟨m1, ?_⟩
  rcases m2 with m2 | ⟨j,pi,m2,m3⟩
  ·exact .inl m2
  ·refine .inr ⟨j,{ pi with bl:=pi.bl.filter fun b=>!az b (aR dU) },by simp [zq,m2],anA.2 ⟨m3, ?_⟩⟩
   have:az b (aR dU)=false:=by
    rw [aV]
    intro hm
    rcases anu.1 hb with h | h
    ·subst h; exact D9.1 (hbad _ hm)
    ·exact qN.2.2 b h b hm rfl
   rw [this]; rfl
 have hpl:=H.oM
 refine @Rel.mk (gJ fr iI i1 i2) _ _ _ _ _ _ H.defs H.sz ?_ ?_ ?_ ?_ ?_ ?_ ?_ (fun b hb=>by simp at hb) List.nodup_nil (fun r R hr b hb h=>by simp at h) ?_ ?_ ?_ (fun j p ts v h=>h.elim) (fun j v h=>h.elim)
 ·intro j Er b o n hj hb
  obtain ⟨pi,hj',rfl⟩:=nP hj
  obtain ⟨R,f1,f2,f3,f4⟩:=H.lQ j pi b o n hj' hb
  obtain ⟨e1,rfl⟩:=L.only _ R f1
  rw [e1] at f3 ⊢
  exact ⟨_,hlv1,hpar,by simp [aG,upd_same,f3],by show k'.size=n; rw [hR.size]; exact f4⟩
 ·intro r R hr hk
  obtain ⟨rfl,rfl⟩:=hlv hr
  obtain ⟨j,pi,n,f1,f2,f3⟩:=H.Ep _ R0 hR0 hpar
  exact ⟨j,{ pi with bl:=pi.bl.filter fun b=>!az b (aR dU) },n,f1,by simp [zq,f2],by simp [aG,upd_same,f3]⟩
 ·intro s
  exact Ck.av (fr:=fr) (gJ fr iI i1 i2) rfl L (hsl s) (H.slots s)
 ·intro s
  have hs:=hsl s
  show xO _ (σ.slots s)
  cases hx:σ.slots s with
  | KX l=>rw [hx] at hs; exact hs.elim
  | lit _ _ _=>rw [hx] at hs; exact hs.elim
  | one x=>
   rw [hx] at hs
   cases x with
   | undef=>trivial
   | ptr r p n=>obtain ⟨rfl,rfl,rfl⟩:=hs; exact ⟨_,aI .., .inr (anR _)⟩
   | val k x T=>exact fun t ht=>.inl (hs.2 t ht)
   | fn f cs=>exact fun c hc t ht=>.inl ((hs c hc).2.1 t ht)
   | _=>exact hs.elim
 ·intro r R hr
  obtain ⟨rfl,rfl⟩:=hlv hr
  refine @uI.mk (gJ fr iI i1 i2) _ _ _ _ _ _ _ (fun _=>?_) ?_ ?_ ?_ ?_
  ·have e1:(aG α (ay 0) (α.loc (ay 0)) (α.hdr (ay 0)) dH).hdr (ay 0)=α.hdr (ay 0):=by simp [aG,upd_same]
   have e2:(aG α (ay 0) (α.loc (ay 0)) (α.hdr (ay 0)) dH).fo (ay 0)=dH:=by simp [aG,upd_same]
   rw [e1,e2]
   exact @gF (gJ fr iI i1 i2) _ _ _ _ _ _ _ _ (dA hown') (g4 (gJ fr iI i1 i2) rfl i3)
  ·show ((aG α (ay 0) (α.loc (ay 0)) (α.hdr (ay 0)) dH).hdr (ay 0)).length=k'.size
   rw [hR.size]
   simpa [aG,upd_same] using K.len
  ·intro b o hb
   rw [L.wh] at hb
   obtain ⟨m1,arr,e',lo,hi,m2,m3,m4,m5⟩:=K.mem b o hb
   refine ⟨by simpa [aG,upd_same] using m1,arr,e',lo,hi,m2,m3,by show o+k'.size≤_; rw [hR.size]; exact m4,m5⟩
  ·rw [hblk']
   exact anQ.2 ⟨fun h=>D9.1 (hsub _ h),qN.1⟩
  ·intro b hb
   rw [hblk'] at hb
   exact jD b hb
 ·intro r R hr
  by_cases e:r=ay 0
  ·subst e
   rw [aI] at hr
   have hr:=anS hr
   subst hr
   exact ⟨fun t ht=>by rw [show ({ R0 with k:=k',x:=x' }:Root).tags=R0.tags from rfl,rO] at ht; simp at ht,oH 0,fun n hn=>by rw [show ({ R0 with k:=k',x:=x' }:Root).tags=R0.tags from rfl,rO] at hn; simp at hn⟩
  ·rw [bU _ _ e,nS r e] at hr; simp at hr
 ·intro r R r' R' hr hr' hne
  exact absurd ((hlv hr).1.trans (hlv hr').1.symm) hne
 ·obtain ⟨f1,f2,f3,f4,f5,f6⟩:=H.frame
  refine ⟨f1,f2,f3,f4,fun b _ _=>by show hp w b=hp cx.w0 b; rw [hw0],fun j Er b o n hj hb=>?_⟩
  obtain ⟨pi,hj',rfl⟩:=nP hj
  exact f6 j pi b o n hj' hb
 ·intro j Er hj hkp
  obtain ⟨pi,hj',rfl⟩:=nP hj
  obtain ⟨R,f1,f2⟩:=H.uu j pi hj' hkp
  by_cases e:ay j=ay 0
  ·refine ⟨_,by rw [e]; exact aI ..,fun _ b hb hnb=>.inr ⟨by show hp w b=hp cx.w0 b; rw [hw0],by simp,fun q Q hq _=>by rw [(hlv hq).1,e]⟩⟩
  ·rw [nS _ e] at f1; simp at f1
 ·refine ⟨fun j Er hj b hb=>?_,fun b hb=>⟨?_,fun j Er hj hbl=>?_⟩,fun b hb=>hpl.2.2 b hb⟩
  ·obtain ⟨pi,hj',rfl⟩:=nP hj
   exact hpl.1 j pi hj' b (anA.1 hb).1
  ·exact (hpl.2.1 b hb).1
  ·obtain ⟨pi,hj',rfl⟩:=nP hj
   exact (hpl.2.1 b hb).2 j pi hj' (anA.1 hbl).1
theorem Iq {h:Heap} {own own':List TypeId} {ok:Nat→Prop}:∀{k:K} {x:El k} {cs:List Value} {fo:List Nat},(∀t∈k.tys,az t own=az t own')→Ow h own ok k x cs fo→Ow h own' ok k x cs fo:=by
 intro k
 induction k with
 | sl f k ih=>
  intro x cs fo ht H
  have hf:=ht f (by simp [K.tys])
  unfold Ow at H ⊢
  cases hm:az f own with
  | true=>
   rw [if_pos hm] at H
   rw [if_pos (by rw [←hf]; exact hm)]
   obtain ⟨a,n,c,e1,e2,e3,H⟩:=H
   refine ⟨a,n,c,e1,e2,e3, ?_⟩
   rcases H with H | ⟨b,o,arr,lo,hi,ea,hb,hz,hs,bD,hl,hp,H⟩
   ·exact .inl H
   ·refine .inr ⟨b,o,arr,lo,hi,ea,hb,hz,hs,bD,hl,hp,fun i hi=>?_⟩
    obtain ⟨ds,h1,h2⟩:=H i hi
    exact ⟨ds,h1,ih (fun t h=>ht t (by simp [K.tys,h])) h2⟩
  | false=>
   rw [if_neg (by rw [hm]; simp)] at H
   rw [if_neg (by rw [←hf,hm]; simp)]
   exact H
 | pair a b iha ihb=>
  intro x cs fo ht H
  obtain ⟨c1,c2,f1,f2,e,hp,h1,h2⟩:=H
  exact ⟨c1,c2,f1,f2,e,hp,iha (fun t h=>ht t (by simp [K.tys,h])) h1,ihb (fun t h=>ht t (by simp [K.tys,h])) h2⟩
 | st f ih=>intro x cs fo ht H; exact ih (x:=x) ht H
 | int ik=>intro x cs fo _ H; exact H
 | bool=>intro x cs fo _ H; exact H
 | id e=>intro x cs fo _ H; exact H
 | str=>intro x cs fo _ H; exact H
 | unit=>intro x cs fo _ H; exact H
 | gap n=>intro x cs fo _ H; exact H
theorem ae8 {z:Bool} {tb:Nat→List (El kk)} {k k':K} {x:El k} {y:El k'} {ns:List Nat} {v:Value} {cs:List Value} (hR:Rw e kk z tb k k' x y ns) (h:VC k' v cs):VC k v cs:=by
 cases k <;> cases k' <;> first | exact hR.elim | exact h
def RwR (e:TypeId) (kk:K) (tb:Nat→List (El kk)):(rs rs':List lU)→Cont (iB rs)→Cont (iB rs')→List Nat→Prop
 | [],[],_,_,ns=>ns=[]
 | .val k _ _ :: rs, .val k' _ _ :: rs',c,c',ns=>(∃h:k=k',k.flat=true∧CX k=true∧h▸c.1=c'.1)∧RwR e kk tb rs rs' c.2 c'.2 ns
 | .own k ow _ _ :: rs, .own k' ow' _ _ :: rs',c,c',ns=>∃n1 n2,ns=n1++n2∧((k.tys.all fun t=>az t ow)=true∧(k'.tys.all fun t=>az t ow')=true∧Rw e kk true tb k k' c.1 c'.1 n1)∧RwR e kk tb rs rs' c.2 c'.2 n2
 | _,_,_,_,_=>False
theorem select {dU:List LZ}:∀{ns:List Nat},(∀n∈ns,n∈dU.map (·.1))→∃l:List LZ,l.map (·.1)=ns∧∀q∈l,q∈dU
 | [],_=>⟨[],rfl,fun q hq=>by simp at hq⟩
 | n :: ns,h=>by
  obtain ⟨l,h1,h2⟩:=select (ns:=ns) (fun n hn=>h n (by simp [hn]))
  obtain ⟨q,hq,e⟩:=anT.1 (h n (by simp))
  exact ⟨q :: l,by simp [h1,e],fun t ht=>by
   rcases anu.1 ht with rfl | ht
   ·exact hq
   ·exact h2 t ht⟩
theorem Gf:∀{dU:List LZ},(aR dU).Nodup→(dU.map (·.1)).Nodup→∀q∈dU,q.2.2.Nodup∧∀q'∈dU,q.1≠q'.1→∀b∈q.2.2,b∉q'.2.2
 | [],_,_,q,hq=>by simp at hq
 | t :: l,hn,hm,q,hq=>by
  have e:aR (t :: l)=t.2.2++aR l:=rfl
  rw [e] at hn
  obtain ⟨n1,n2,n3⟩:=ano.1 hn
  rw [List.map_cons,anQ] at hm
  have hin:∀q∈l,∀b∈q.2.2,b∈aR l:=fun q hq b hb=>anU.2 ⟨q,hq,hb⟩
  rcases anu.1 hq with rfl | hql
  ·refine ⟨n1,fun q' hq' hne b hb hb'=>?_⟩
   rcases anu.1 hq' with rfl | hq'
   ·exact hne rfl
   ·exact n3 b hb b (hin q' hq' b hb') rfl
  ·obtain ⟨g1,g2⟩:=Gf n2 hm.2 q hql
   refine ⟨g1,fun q' hq' hne b hb hb'=>?_⟩
   rcases anu.1 hq' with rfl | hq'
   ·exact n3 b hb' b (hin q hql b hb) rfl
   ·exact g2 q' hq' hne b hb hb'
theorem Gg {dU:List LZ} (hn:(aR dU).Nodup) (hm:(dU.map (·.1)).Nodup):∀{l:List LZ},(∀q∈l,q∈dU)→(l.map (·.1)).Nodup→(aR l).Nodup
 | [],_,_=>List.nodup_nil
 | t :: l,hs,hl=>by
  have e:aR (t :: l)=t.2.2++aR l:=rfl
  rw [e]
  rw [List.map_cons,anQ] at hl
  refine ano.2 ⟨(Gf hn hm t (hs t (by simp))).1,Gg hn hm (fun q hq=>hs q (by simp [hq])) hl.2,fun b hb c hc ebc=>?_⟩
  subst ebc
  obtain ⟨q,hq,hb'⟩:=anU.1 hc
  exact (Gf hn hm t (hs t (by simp))).2 q (hs q (by simp [hq])) (fun e=>hl.1 (anT.2 ⟨q,hq,e.symm⟩)) b hb hb'
theorem Yc (fr':Fr) (hf:fr'.free=fr.free) {cx':Cx} {σ':St} {α':dL} {F':List Nat} {w':World} {tb:Nat→List (El kk)} {O:List TypeId} (hO:∀t∈(K.sl e kk).tys,az t O=true)  :
  ∀{rs rs':List lU} {c:Cont (iB rs)} {c':Cont (iB rs')} {vs:List Value} {bD:List (List Nat)} {dU:List LZ},RwR e kk tb rs rs' c c' (dU.map (·.1))→@I6 fr' cx' σ' α' F' w' rs' c' vs bD→
   (∀q∈dU, @Ow fr (hp w') O (fun _=>False) (.sl e kk) (tb q.1) [q.2.1] q.2.2∧fr'.iI q.1=q.2.1)→
   ∃U3,(∀σ1 dK F1, @I6 fr cx σ1 dK F1 w' rs c vs U3)∧U3.flatten.Perm (bD.flatten++aR dU):=by
 intro rs
 induction rs with
 | nil=>
  intro rs' c c' vs bD dU hR hL htr
  cases rs' with
  | cons _ _=>exact hR.elim
  | nil=>
   have ht:dU=[]:=by simpa using (show dU.map (·.1)=[] from hR)
   subst ht
   cases vs with
   | cons _ _=>exact hL.elim
   | nil=>cases bD with
    | cons _ _=>exact hL.elim
    | nil=>exact ⟨[],fun _ _ _=>trivial, .refl _⟩
 | cons r rs ih=>
  intro rs' c c' vs bD dU hR hL htr
  cases rs' with
  | nil=>cases r <;> exact hR.elim
  | cons r' rs'=>
   cases r with
   | into _ _=>exact hR.elim
   | ptr _ _ _ _=>exact hR.elim
   | val k ex pr=>
    cases r' with
    | val k' ex' pr'=>
     obtain ⟨⟨hk,h1,h2,h3⟩,hR⟩:=hR
     subst hk
     cases vs with
     | nil=>exact hL.elim
     | cons v vs=>
      cases bD with
      | nil=>exact hL.elim
      | cons fo bD=>
       obtain ⟨⟨rfl,T,cs,g1,g2,g3⟩,hL⟩:=hL
       obtain ⟨U3,q1,q2⟩:=ih hR hL htr
       refine ⟨[] :: U3,fun σ1 dK F1=>⟨⟨rfl,[],cs, .inl h1,g2, ?_⟩,q1 σ1 dK F1⟩,by simpa using q2⟩
       have h3:c.1=c'.1:=h3
       rw [h3]
       exact @iV fr _ _ _ _ _ _ _ h1 (@WG fr' _ _ fr hf.symm _ _ _ h2 g3)
    | _=>exact hR.elim
   | own k ow ex pr=>
    cases r' with
    | own k' ow' ex' pr'=>
     obtain ⟨n1,n2,hns,⟨a1,a2,a3⟩,hR⟩:=hR
     rw [List.map_eq_append_iff] at hns
     obtain ⟨t1,t2,rfl,rfl,rfl⟩:=hns
     cases vs with
     | nil=>exact hL.elim
     | cons v vs=>
      cases bD with
      | nil=>exact hL.elim
      | cons fo bD=>
       obtain ⟨⟨T,cs,akK,g1,g2,g3,g4⟩,hL⟩:=hL
       obtain ⟨U3,q1,q2⟩:=ih hR hL (fun q hq=>htr q (anj _ hq))
       have hk':∀t∈k'.tys,az t akK=true:=fun t ht=>g2 t ht (anx.1 a2 t ht)
       let O2:List TypeId:=O++k.tys++k'.tys
       have m1:∀t∈k.tys,az t O2=true:=fun t ht=>aM.2 (anm _ (anj _ ht))
       have m2:∀t∈k'.tys,az t O2=true:=fun t ht=>aM.2 (anj _ ht)
       have m3:∀t∈(K.sl e kk).tys,az t O2=true:=fun t ht=>aM.2 (anm _ (anm _ (aM.1 (hO t ht))))
       have g5 : @Ow fr' (hp w') O2 (fun _=>False) k' c'.1 cs fo:=@gF fr' _ _ _ _ _ _ _ _ (dA m2) (@Iq fr' _ _ _ _ _ _ _ _ (fun t ht=>by rw [hk' t ht,m2 t ht]) g4)
       have g6:=Nn (fr:=fr) fr' m1 a3 g5 (fun q hq=>by
        obtain ⟨f1,f2⟩:=htr q (anm _ hq)
        exact ⟨@Iq fr _ _ _ _ _ _ _ _ (fun t ht=>by rw [hO t ht,m3 t ht]) f1,f2⟩)
       refine ⟨(fo++aR t1) :: U3,fun σ1 dK F1=>⟨⟨[],cs,O2, .inl a1,fun t ht _=>m1 t ht,ae8 a3 g3, @gF fr _ _ _ _ _ _ _ _ (dA m1) g6⟩,q1 σ1 dK F1⟩, ?_⟩
       simp only [List.flatten_cons]
       have et:aR (t1++t2)=aR t1++aR t2:=by simp [aR]
       rw [et]
       refine (q2.append_left (fo++aR t1)).trans ?_
       simp only [anE]
       refine List.Perm.append_left fo ?_
       rw [←anE, ←anE]
       exact List.Perm.append_right _ List.perm_append_comm
    | _=>exact hR.elim
end
end
end
section
open Go
section
variable {e:TypeId} {kk:K} [fr:Fr]
variable {cx:Cx} {σ:St} {α:dL} {a:Act} {w:World}
def nQ (k:K) (x:El k) (ow wt ht:List TypeId):Root:={ k,x,own:=ow,tags:=[],w:=wt,h:=ht,g:=0,kind:=.par,fixed:=false,keep:=true,ew:=[],eh:=ht }
def AJ (R:Root):St:=⟨fun _=>.one .undef,fun r=>bif Nat.beq r (ay 0) then some R else none⟩
def CF (loc:Nat×Nat) (hdr:List Value) (fo:List Nat):dL:=⟨fun _=>loc,fun _=>hdr,fun _=>fo⟩
theorem qz {R:Root} {r:Nat} {Q:Root} (h:(AJ R).roots r=some Q):r=ay 0∧Q=R:=by
 unfold AJ at h
 simp only at h
 cases hb:Nat.beq r (ay 0) with
 | true=>rw [hb] at h; exact ⟨anl hb,(anS h).symm⟩
 | false=>rw [hb] at h; simp at h
theorem uh {R:Root}:(AJ R).roots (ay 0)=some R:=by simp [AJ]
theorem Yb (H:Rel cx σ α [] a w) (hw0:cx.w0=w) {R0:Root} (hR0:aP σ (ay 0) R0) (nS:∀r,r≠ay 0→σ.roots r=none) (hpar:R0.kind=.par) (hg0:R0.g=0) (hv0:bu σ R0)
  (hown:∀t∈R0.k.tys,az t R0.own=true) {k':K} (hown':∀t∈k'.tys,az t R0.own=true) (Ty:∀t∈(K.sl e kk).tys,az t R0.own=true)
  {tb:Nat→List (El kk)} {dU:List LZ} {dH:List Nat} {iI:Nat→Value} {h0:iI 0=.slice none 0 0} {hs:∀i,∃a n c,iI i=.slice a n c}
  (hperm:(α.fo (ay 0)).Perm (dH++aR dU)) (hnd:(dU.map (·.1)).Nodup) (hrow:∀q∈dU, @Ow fr (hp w) R0.own (fun _=>False) (.sl e kk) (tb q.1) [q.2.1] q.2.2) (hid:∀q∈dU,iI q.1=q.2.1)
  {σ1:St} {dK:dL} {F1:List Nat} {a1:Act} {w':World} (H1 : @Rel (gJ fr iI h0 hs) (zq cx (aR dU)) σ1 dK F1 a1 w') {Q:Root} (hQ:σ1.roots (ay 0)=some Q) (hQv:bu σ1 Q) (hQk:Q.k=k') (hQo:∀t∈k'.tys,az t Q.own=true)
  {wt ht:List TypeId} (hwt:mO Q.w wt=true∧mO Q.ew wt=true) (hwk:∀t∈(K.sl e kk).tys,t∈wt) (XB:qo∈ht)
  {y:El R0.k} {qB:List LZ} (hP:Rw e kk true tb R0.k Q.k y Q.x (qB.map (·.1))) (ZT:∀q∈qB,q∈dU)
  {rs rs':List lU} {c:Cont (iB rs)} {c':Cont (iB rs')} {vs:List Value} {bD:List (List Nat)} {Gh:List LZ} (hRs:∀q∈Gh,q∈dU) (hRR:RwR e kk tb rs rs' c c' (Gh.map (·.1)))
  (hL : @I6 (gJ fr iI h0 hs) (zq cx (aR dU)) σ1 dK F1 w' rs' c' vs bD) (hfn:bD.flatten.Nodup) (QM:∀b∈bD.flatten,b∈F1) (hall:((Gh++qB).map (·.1)).Nodup)
  (FU:∀j p ts v,cx.ptrs j p ts v→∃k,ts=dY p k) :
  ∃zM JU,Rel cx (AJ (nQ R0.k y R0.own wt ht)) zM JU.flatten a1 w'∧I6 cx (AJ (nQ R0.k y R0.own wt ht)) zM JU.flatten w' rs c vs JU∧JU.flatten.Nodup:=by
 have K0:=H.roots _ R0 hR0
 have hlv1:aP σ1 (ay 0) Q:=⟨hQ,hQv.1⟩
 have K1:=@Rel.roots (gJ fr iI h0 hs) _ _ _ _ _ _ H1 _ Q hlv1
 have abU:=@uI.ow (gJ fr iI h0 hs) _ _ _ _ _ _ _ K1
 have Wp:=@uI.len (gJ fr iI h0 hs) _ _ _ _ _ _ _ K1
 have aeC:=@uI.mem (gJ fr iI h0 hs) _ _ _ _ _ _ _ K1
 have abT:=@uI.nd (gJ fr iI h0 hs) _ _ _ _ _ _ _ K1
 have QW:=@uI.mine (gJ fr iI h0 hs) _ _ _ _ _ _ _ K1
 have R6:∀r R,aP σ r R→r=ay 0∧R=R0:=fun r R hr=>by
  by_cases e:r=ay 0
  ·subst e; refine ⟨rfl, ?_⟩; have:=hr.1; rw [hR0.1] at this; exact (anS this).symm
  ·have:=hr.1; rw [nS r e] at this; simp at this
 obtain ⟨j0,pi0,n0,p1,p2,p3⟩:=H.Ep _ R0 hR0 hpar
 obtain ⟨Q',q1,q2,q3,q4⟩:=@Rel.lQ (gJ fr iI h0 hs) _ _ _ _ _ _ H1 j0 { pi0 with bl:=pi0.bl.filter fun b=>!az b (aR dU) } (α.loc (ay 0)).1 (α.loc (ay 0)).2 n0 (by simp [zq,p2]) p3
 rw [←p1] at q1 q3
 have eQ:Q'=Q:=by have:=q1.1; rw [hQ] at this; exact (anS this).symm
 subst eQ
 have PO:blk α R0 (ay 0)=(α.loc (ay 0)).1 :: α.fo (ay 0):=by unfold blk dV; rw [hpar]; rfl
 have hblk1:blk dK Q' (ay 0)=(α.loc (ay 0)).1 :: dK.fo (ay 0):=by unfold blk dV; rw [q2]; simp [q3]
 have hsize:w.heap.size≤w'.heap.size:=by have:=(@Rel.frame (gJ fr iI h0 hs) _ _ _ _ _ _ H1).2.2.2.1; simpa [zq,hw0] using this
 have sj:=K0.nd
 rw [PO] at sj
 have D9:=anQ.1 sj
 have qN:=ano.1 (hperm.nodup D9.2)
 have hbad:∀b∈aR dU,b∈α.fo (ay 0):=fun b hb=>hperm.mem_iff.2 (anj _ hb)
 have JZ:∀b∈aR dU,b∈blk α R0 (ay 0):=fun b hb=>by rw [PO]; exact anH _ (hbad b hb)
 have hno:∀b∈aR dU,¬Ow.mine (zq cx (aR dU)) w' b:=fun b hb hm=>by
  have hlt:=(K0.mine b (JZ b hb)).1
  rcases hm.2 with h | ⟨j,Er,h1,h2⟩
  ·have:w.heap.size≤b:=by simpa [zq,hw0] using h
   omega
  ·obtain ⟨pi,_,rfl⟩:=nP h1
   have:=(anA.1 h2).2
   rw [aM.2 hb] at this
   simp at this
 have hsame:∀b∈aR dU,hp w' b=hp w b:=fun b hb=>by
  have hlt:=(K0.mine b (JZ b hb)).1
  have:=(@Rel.frame (gJ fr iI h0 hs) _ _ _ _ _ _ H1).2.2.2.2.1 b (by simpa [zq,hw0] using hlt) (fun j Er h1 h2=>by
   obtain ⟨pi,_,rfl⟩:=nP h1
   have:=(anA.1 h2).2
   rw [aM.2 hb] at this
   simp at this)
  simpa [zq,hw0] using this
 have hrow':∀q∈dU, @Ow fr (hp w') R0.own (fun _=>False) (.sl e kk) (tb q.1) [q.2.1] q.2.2:=fun q hq=>
  bz (fun _ h=>h.elim) (fun _ h=>h) (fun b hb=>hsame b (anU.2 ⟨q,hq,hb⟩)) (hrow q hq)
 obtain ⟨JU,r1,r2⟩:=Yc (fr:=fr) (cx:=cx) (gJ fr iI h0 hs) rfl Ty hRR hL (fun q hq=>⟨hrow' q (hRs q hq),hid q (hRs q hq)⟩)
 have TG:∀b∈aR Gh,b∈aR dU:=fun b hb=>by
  obtain ⟨q,hq,h⟩:=anU.1 hb
  exact anU.2 ⟨q,hRs q hq,h⟩
 have J9:∀b∈aR qB,b∈aR dU:=fun b hb=>by
  obtain ⟨q,hq,h⟩:=anU.1 hb
  exact anU.2 ⟨q,ZT q hq,h⟩
 have hsel:(aR Gh++aR qB).Nodup:=by
  have:=Gg qN.2.1 hnd (l:=Gh++qB) (fun q hq=>(anq.1 hq).elim (hRs q) (ZT q)) hall
  have e:aR (Gh++qB)=aR Gh++aR qB:=by simp [aR]
  rwa [e] at this
 obtain ⟨hnR,hnP,hRP⟩:=ano.1 hsel
 have hmF:∀b∈F1,Ow.mine (zq cx (aR dU)) w' b:=@Rel.fl (gJ fr iI h0 hs) _ _ _ _ _ _ H1
 have hmB:∀b∈(α.loc (ay 0)).1 :: dK.fo (ay 0),Ow.mine (zq cx (aR dU)) w' b:=fun b hb=>QW b (by rw [hblk1]; exact hb)
 have XH:∀b,Ow.mine (zq cx (aR dU)) w' b→Ow.mine cx w' b:=fun b hb=>⟨hb.1,hb.2.imp (fun h=>h) (fun ⟨j,Er,h1,h2⟩=>by
  obtain ⟨pi,h3,rfl⟩:=nP h1
  exact ⟨j,pi,h3,(anA.1 h2).1⟩)⟩
 have TB:∀b∈aR dU,Ow.mine cx w' b:=fun b hb=>by
  obtain ⟨m1,m2⟩:=K0.mine b (JZ b hb)
  exact ⟨by omega,m2⟩
 have afQ:JU.flatten.Nodup:=r2.nodup_iff.2 (ano.2 ⟨hfn,hnR,fun b hb c hc ebc=>by subst ebc; exact hno b (TG b hc) (hmF b (QM b hb))⟩)
 have hFm:∀b∈JU.flatten,b∈bD.flatten∨b∈aR Gh:=fun b hb=>anq.1 (r2.mem_iff.1 hb)
 refine ⟨CF (α.loc (ay 0)) (dK.hdr (ay 0)) (dK.fo (ay 0)++aR qB),JU, ?_,r1 _ _ _,afQ⟩
 have FT:∀{r R},aP (AJ (nQ R0.k y R0.own wt ht)) r R→r=ay 0∧R=nQ R0.k y R0.own wt ht:=fun h=>qz h.1
 have Ms:blk (CF (α.loc (ay 0)) (dK.hdr (ay 0)) (dK.fo (ay 0)++aR qB)) (nQ R0.k y R0.own wt ht) (ay 0)=(α.loc (ay 0)).1 :: (dK.fo (ay 0)++aR qB):=rfl
 have PR:=abT
 rw [hblk1] at PR
 have afP:=anQ.1 PR
 have hf1:=@Rel.frame (gJ fr iI h0 hs) _ _ _ _ _ _ H1
 have hfd1:=@Rel.iP (gJ fr iI h0 hs) _ _ _ _ _ _ H1
 have zB:∀b o,dV (CF (α.loc (ay 0)) (dK.hdr (ay 0)) (dK.fo (ay 0)++aR qB)) (nQ R0.k y R0.own wt ht) (ay 0)=some (b,o)→α.loc (ay 0)=(b,o):=fun b o h=>anS h
 have Z8:R0.k.size=Q'.k.size:=hP.size.symm
 have XL:∀j p ts v,cx.ptrs j p ts v→ay j=ay 0:=fun j p ts v h=>by
  obtain ⟨_,R,f1,_⟩:=H.vU j p ts v h
  refine anF fun e=>?_
  rw [nS _ e] at f1
  simp at f1
 have hdf:=@Rel.defs (gJ fr iI h0 hs) _ _ _ _ _ _ H1
 have hsz0:=@Rel.sz (gJ fr iI h0 hs) _ _ _ _ _ _ H1
 have hsz1:cx.nt≤a1.tmps.size:=hsz0
 have acH:=@Rel.uu (gJ fr iI h0 hs) _ _ _ _ _ _ H1
 refine ⟨hdf,hsz1, ?_, ?_,fun s=>trivial,fun s=>trivial, ?_, ?_, ?_, ?_,afQ, ?_, ?_, ?_, ?_, ?_, ?_⟩
 ·intro j pi b o n hj hb
  obtain ⟨R,f1,f2,f3,f4⟩:=H.lQ j pi b o n hj hb
  obtain ⟨e1,rfl⟩:=R6 _ R f1
  rw [e1] at f3 ⊢
  exact ⟨_,⟨uh,rfl⟩,rfl,f3,f4⟩
 ·intro r R hr _
  obtain ⟨rfl,rfl⟩:=FT hr
  exact ⟨j0,pi0,n0,p1,p2,p3⟩
 ·intro r R hr
  obtain ⟨rfl,rfl⟩:=FT hr
  refine ⟨fun _=>?_,by show (dK.hdr (ay 0)).length=R0.k.size; rw [Wp,Z8],fun b o hb=>?_, ?_,fun b hb=>?_⟩
  ·have o1 : @Ow (gJ fr iI h0 hs) (hp w') R0.own (fun _=>False) Q'.k Q'.x (dK.hdr (ay 0)) (dK.fo (ay 0)):=by
    have hk1:∀t∈Q'.k.tys,az t Q'.own=true:=fun t ht=>hQo t (by rw [←hQk]; exact ht)
    have hk2:∀t∈Q'.k.tys,az t R0.own=true:=fun t ht=>hown' t (by rw [←hQk]; exact ht)
    exact @gF (gJ fr iI h0 hs) _ _ _ _ _ _ _ _ (dA hk2) (@Iq (gJ fr iI h0 hs) _ _ _ _ _ _ _ _ (fun t ht=>by rw [hk1 t ht,hk2 t ht]) (abU hQv))
   have o2:=Nn (fr:=fr) (gJ fr iI h0 hs) hown hP o1 (fun q hq=>⟨hrow' q (ZT q hq),hid q (ZT q hq)⟩)
   exact gF (dA hown) o2
  ·have hbo:=zB b o hb
   obtain ⟨m1,arr,e',lo,hi,m2,m3,m4,m5⟩:=aeC b o (by unfold dV; rw [q2]; simp [q3,hbo])
   exact ⟨m1,arr,e',lo,hi,m2,m3,by show o+R0.k.size≤_; rw [Z8]; exact m4,fun t ht=>by simp [nQ] at ht⟩
  ·rw [Ms]
   refine anQ.2 ⟨fun h=>?_,ano.2 ⟨afP.2,hnP,fun b hb c hc ebc=>by subst ebc; exact hno b (J9 b hc) (hmB b (anH _ hb))⟩⟩
   rcases anq.1 h with h | h
   ·exact afP.1 h
   ·exact hno _ (J9 _ h) (hmB _ anP)
  ·rw [Ms] at hb
   rcases anu.1 hb with h | h
   ·exact XH b (hmB b (by rw [h]; exact anP))
   ·rcases anq.1 h with h | h
    ·exact XH b (hmB b (anH _ h))
    ·exact TB b (J9 b h)
 ·intro r R hr
  obtain ⟨rfl,rfl⟩:=qz hr
  exact ⟨fun t ht=>by simp [nQ] at ht,oH 0,fun n hn=>by simp [nQ] at hn⟩
 ·intro r R r' R' hr hr' hne
  exact absurd ((FT hr).1.trans (FT hr').1.symm) hne
 ·intro b hb
  rcases hFm b hb with h | h
  ·exact XH b (hmF b (QM b h))
  ·exact TB b (TG b h)
 ·intro r R hr b hb Hz
  obtain ⟨rfl,rfl⟩:=FT hr
  rw [Ms] at hb
  have hc1:b∈(α.loc (ay 0)).1 :: dK.fo (ay 0)∨b∈aR qB:=by
   rcases anu.1 hb with h | h
   ·exact .inl (by rw [h]; exact anP)
   ·exact (anq.1 h).imp (fun h=>anH _ h) id
  rcases hc1 with h | h
  ·rcases hFm b Hz with g | g
   ·exact hfd1 _ Q' hlv1 b (by rw [hblk1]; exact h) (QM b g)
   ·exact hno b (TG b g) (hmB b h)
  ·rcases hFm b Hz with g | g
   ·exact hno b (J9 b h) (hmF b (QM b g))
   ·exact hRP b g b h rfl
 ·obtain ⟨f1,f2,f3,f4,f5,f6⟩:=hf1
  refine ⟨f1,f2,f3,f4,fun b hb hnb=>f5 b hb (fun j Er h1 h2=>?_),fun j pi b o n hj hb=>?_⟩
  ·obtain ⟨pi,h3,rfl⟩:=nP h1
   exact hnb j pi h3 (anA.1 h2).1
  ·exact f6 j { pi with bl:=pi.bl.filter fun b=>!az b (aR dU) } b o n (by simp [zq,hj]) hb
 ·intro j pi hj hkp
  obtain ⟨R,f1,_⟩:=H.uu j pi hj hkp
  have ej:ay j=ay 0:=anF fun ne=>by rw [nS _ ne] at f1; simp at f1
  refine ⟨nQ R0.k y R0.own wt ht,by rw [ej]; exact uh,fun _ b hb hnb=>?_⟩
  have hone:∀q Q,aP (AJ (nQ R0.k y R0.own wt ht)) q Q→b∈blk (CF (α.loc (ay 0)) (dK.hdr (ay 0)) (dK.fo (ay 0)++aR qB)) Q q→q=ay j:=fun q Q hq _=>by rw [(FT hq).1,ej]
  by_cases hbt:b∈aR dU
  ·by_cases hbR:b∈aR Gh
   ·obtain ⟨q,hq,h⟩:=anU.1 hbR
    obtain ⟨t,t1,_,t3⟩:=uf (hrow q (hRs q hq)) b h
    exact .inl ⟨t,by rw [hw0]; exact t3, .inl (hwk t t1)⟩
   ·refine .inr ⟨by rw [hw0]; exact hsame b hbt,fun hF=>?_,hone⟩
    rcases hFm b hF with g | g
    ·exact hno b hbt (hmF b (QM b g))
    ·exact hbR g
  ·obtain ⟨R1,k1,k2⟩:=acH j { pi with bl:=pi.bl.filter fun b=>!az b (aR dU) } (by simp [zq,hj]) hkp
   have eR:R1=Q':=by rw [ej,hQ] at k1; exact (anS k1).symm
   subst eR
   rcases k2 hQv.1 b (anA.2 ⟨hb,by rw [aV.2 hbt]; rfl⟩) (fun h=>hnb (JB.1 h)) with ⟨t,t1,t2⟩ | ⟨t1,t2,_⟩
   ·exact .inl ⟨t,t1, .inl (t2.elim (jG.1 hwt.1 t) (jG.1 hwt.2 t))⟩
   ·refine .inr ⟨t1,fun hF=>?_,hone⟩
    rcases hFm b hF with g | g
    ·exact t2 (QM b g)
    ·exact hbt (TG b g)
 ·refine ⟨fun j pi hj b hb=>H.oM.1 j pi hj b hb,fun b hb=>H.oM.2.1 b hb,fun b hb=>H.oM.2.2 b hb⟩
 ·intro j p ts v hv
  have ej:=XL j p ts v hv
  obtain ⟨g1,R,f1,f2⟩:=H.vU j p ts v hv
  obtain ⟨k0,rfl⟩:=FU j p ts v hv
  refine ⟨g1,nQ R0.k y R0.own wt ht,by rw [ej]; exact uh,fun hts=>?_⟩
  cases p with
  | cons s p=>exact absurd XB (hts qo (by simp [dY]))
  | nil=>
   refine ⟨g1,fun R' hR' _ _ _ _=>?_⟩
   rw [ej] at hR'
   obtain ⟨_,rfl⟩:=qz hR'
   obtain ⟨_,cs,b,o,hn,ev⟩:=(f2 (fun t ht=>by simp [dY] at ht)).2 R0 (by rw [ej]; exact hR0.1) hv0 (by unfold dY clean; simp [az]) (fun t ht=>by simp [ah] at ht) rfl
   rw [ej] at hn
   simp only [bG,anh,ant] at hn
   refine ⟨trivial,dK.hdr (ay 0),b,o, ?_,ev⟩
   have h2:=hn.2
   unfold dV at h2
   rw [hpar] at h2
   rw [ej]
   simp only [bG]
   exact congrArg (fun z=>some (dK.hdr (ay 0),z)) h2
 ·intro j v hv
  obtain ⟨⟨R,f1⟩,f2⟩:=H.vV j v hv
  have ej:ay j=ay 0:=anF fun ne=>by rw [nS _ ne] at f1; simp at f1
  rw [ej] at f2
  have:=(f2 R0 hR0 hg0).1
  rw [hpar] at this
  simp at this
end
end
section
open Go
def fG:List dG→Bool
 | []=>true
 | .val k [] :: l=>CX k && fG l
 | .fn _ ks :: l=>ks.all CX && fG l
 | _=>false
section
variable [Fr]
theorem sV:∀{ps:List dG} {i:Nat} {c:Cont (kin ps)},fG ps=true→gG ps i c=[]
 | [],_,_,_=>rfl
 | .val k [] :: ps,i,c,h=>by
  simp only [fG,ann] at h
  exact sV (ps:=ps) (i:=i+1) (c:=c.2) h.2
 | .fn f ks :: ps,i,c,h=>by
  simp only [fG,ann] at h
  exact sV (ps:=ps) (i:=i+1) (c:=Cont.snd ks (kin ps) c) h.2
 | .val _ (_ :: _) :: _,_,_,h=>by simp [fG] at h
 | .ro _ :: _,_,_,h=>by simp [fG] at h
 | .rw _ _ _ _ :: _,_,_,h=>by simp [fG] at h
 | .jK _ _ _ :: _,_,_,h=>by simp [fG] at h
 | .own _ _ :: _,_,_,h=>by simp [fG] at h
 | .into _ _ :: _,_,_,h=>by simp [fG] at h
theorem Tv (i:Nat):∀{ks:List K} {c:Cont ks},ks.all CX=true→∀q∈jE.zf i ks c,CX q.2.1.1=true∧RQ q.2.2∧q.1=SENT
 | [],_,_,q,hq=>by simp [jE.zf] at hq
 | k :: ks,c,h,q,hq=>by
  simp only [List.all_cons,ann] at h
  simp only [jE.zf] at hq
  rcases anu.1 hq with rfl | hq
  ·exact ⟨h.1,fun t ht=>by simp only [anC] at ht; subst ht; exact iJ i,rfl⟩
  ·exact Tv i h.2 q hq
theorem zK:∀{ps:List dG} {i:Nat} {c:Cont (kin ps)},fG ps=true→∀s,DL (rR (jE ps i c) s)
 | [],_,_,_,s=>trivial
 | .val k [] :: ps,i,c,h,s=>by
  simp only [fG,ann] at h
  simp only [jE,rR]
  cases Nat.beq s i with
  | true=>
   refine ⟨h.1,fun t ht=>?_⟩
   cases hf:k.flat with
   | true=>rw [hf] at ht; simp at ht
   | false=>rw [hf] at ht; simp at ht; subst ht; exact iJ i
  | false=>exact zK (ps:=ps) (i:=i+1) (c:=c.2) h.2 s
 | .fn f ks :: ps,i,c,h,s=>by
  simp only [fG,ann] at h
  simp only [jE,rR]
  cases Nat.beq s i with
  | true=>exact Tv i h.1
  | false=>exact zK (ps:=ps) (i:=i+1) (c:=Cont.snd ks (kin ps) c) h.2 s
 | .val _ (_ :: _) :: _,_,_,h,_=>by simp [fG] at h
 | .ro _ :: _,_,_,h,_=>by simp [fG] at h
 | .rw _ _ _ _ :: _,_,_,h,_=>by simp [fG] at h
 | .jK _ _ _ :: _,_,_,h,_=>by simp [fG] at h
 | .own _ _ :: _,_,_,h,_=>by simp [fG] at h
 | .into _ _ :: _,_,_,h,_=>by simp [fG] at h
theorem EB {σ:St}:∀{ps:List dG} {i:Nat} {c:Cont (kD ps)},fG ps=true→Fv σ ps i c
 | [],_,_,_=>trivial
 | .val k [] :: ps,i,c,h=>by
  simp only [fG,ann] at h
  exact EB (ps:=ps) (i:=i+1) (c:=c) h.2
 | .fn f ks :: ps,i,c,h=>by
  simp only [fG,ann] at h
  exact EB (ps:=ps) (i:=i+1) (c:=c) h.2
 | .val _ (_ :: _) :: _,_,_,h=>by simp [fG] at h
 | .ro _ :: _,_,_,h=>by simp [fG] at h
 | .rw _ _ _ _ :: _,_,_,h=>by simp [fG] at h
 | .jK _ _ _ :: _,_,_,h=>by simp [fG] at h
 | .own _ _ :: _,_,_,h=>by simp [fG] at h
 | .into _ _ :: _,_,_,h=>by simp [fG] at h
theorem Tj {e:TypeId} {kk:K} {z:Bool} {tb:Nat→List (El kk)} {k k1 k2:K} {x:El k} {y1:El k1} {y2:El k2} {ns:List Nat} (ek:k1=k2) (ey:y2=ek▸y1) (h:Rw e kk z tb k k2 x y2 ns):Rw e kk z tb k k1 x y1 ns:=by
 subst ek
 simp only at ey
 subst ey
 exact h
end
theorem TP [fr:Fr] {e:TypeId} {kk:K} {P:Program} {n:Nat} {f:FuncId} {k k':K} {ow wt ht rZ ht':List TypeId} {rest:List dG} {rs rs':List lU}
  {F:Nat→Cont (kin (.rw k ow wt ht :: rest))→Option (Cont (iB rs++kD (.rw k ow wt ht :: rest)))} {F':Nat→Cont (kin (.rw k' ow rZ ht' :: rest))→Option (Cont (iB rs'++kD (.rw k' ow rZ ht' :: rest)))}
  (hrest:fG rest=true) (hown:∀t∈k.tys,az t ow=true) (hown':∀t∈k'.tys,az t ow=true) (Ty:∀t∈(K.sl e kk).tys,az t ow=true)
  (hE:∀fr:Fr, @ak fr P n ⟨f, .rw k' ow rZ ht' :: rest,rs',F'⟩) (hwt:mO rZ wt=true) (hwk:∀t∈(K.sl e kk).tys,t∈wt) (XB:qo∈ht)
  (hF:∀c out,F n c=some out→∃(x':El k') (ns ms1 ms2:List Nat) (tb:Nat→List (El kk)) (out':Cont (iB rs'++kD (.rw k' ow rZ ht' :: rest))),Rw e kk false tb k k' c.1 x' ns∧ns.Nodup∧0∉ns∧F' n (x',c.2)=some out'∧
   RwR e kk tb rs rs' (Cont.fst _ _ out) (Cont.fst _ _ out') ms1∧Rw e kk true tb k k' (Cont.snd _ _ out).1 (Cont.snd _ _ out').1 ms2∧(ms1++ms2).Nodup∧∀m∈ms1++ms2,m∈ns) :
  ak P n ⟨f, .rw k ow wt ht :: rest,rs,F⟩:=by
 intro c out hout cx α args w hnt hw hsz hP H
 obtain ⟨x',ns,ms1,ms2,tb,out',hR,hnd,hn0,hF',hRR,hRP,hmm,hsub⟩:=hF c out hout
 have ha:(k.tys.all fun t=>az t ow)=true:=anx.2 hown
 have ha':(k'.tys.all fun t=>az t ow)=true:=anx.2 hown'
 have CJ:∀r,(bX (.rw k ow wt ht :: rest) c).roots r=bif Nat.beq r (ay 0) then some (aL k c.1 ow [] .par true) else none:=fun r=>by
  show gI (gG (.rw k ow wt ht :: rest) 0 c) r=_
  simp only [gG,sV hrest,gI,ha,cond_true]
 have hR0:aP (bX (.rw k ow wt ht :: rest) c) (ay 0) (aL k c.1 ow [] .par true):=⟨by rw [CJ]; simp,rfl⟩
 have nS:∀r,r≠ay 0→(bX (.rw k ow wt ht :: rest) c).roots r=none:=fun r hr=>by
  rw [CJ]
  have:Nat.beq r (ay 0)=false:=by
   cases hb:Nat.beq r (ay 0) with
   | true=>exact absurd (anl hb) hr
   | false=>rfl
  rw [this]; rfl
 have hsl:∀s,DL ((bX (.rw k ow wt ht :: rest) c).slots s):=fun s=>by
  show DL (rR (jE (.rw k ow wt ht :: rest) 0 c) s)
  simp only [jE,rR]
  cases Nat.beq s 0 with
  | true=>exact ⟨rfl,rfl,rfl⟩
  | false=>exact zK hrest s
 obtain ⟨dU,dH,iI,i0,is,g1,g2,g3,g4,Xo⟩:=Vs H hw hR0 nS rfl rfl hown (Ty e (by simp [K.tys])) hsl (k':=k') (x':=x') hR hnd hn0 hown'
 have hst:au (bX (.rw k ow wt ht :: rest) c) (ay 0) { aL k c.1 ow [] .par true with k:=k',x:=x' }=bX (.rw k' ow rZ ht' :: rest) (x',c.2):=by
  unfold au bX
  congr 1
  funext r
  show upd (bX (.rw k ow wt ht :: rest) c).roots (ay 0) _ r=gI (gG (.rw k' ow rZ ht' :: rest) 0 (x',c.2)) r
  simp only [gG,sV hrest,gI,ha',cond_true]
  unfold upd
  cases hb:Nat.beq r (ay 0) with
  | true=>rfl
  | false=>simp only [cond_false]; rw [CJ,hb]; rfl
 rw [hst] at Xo
 have hP':Fw (zq cx (aR dU)) (.rw k' ow rZ ht' :: rest):=by
  refine ⟨fun j Er hj hkp=>?_,fun j p ts v h=>h.elim,fun j v h=>h.elim⟩
  obtain ⟨pi,hj',rfl⟩:=nP hj
  obtain ⟨k0,o1,o2,o3,h⟩:=hP.par j pi hj' hkp
  cases j with
  | zero=>exact ⟨k',ow,rZ,ht', .inl rfl⟩
  | succ j=>exact ⟨k0,o1,o2,o3,by simpa using h⟩
 have h:=hE (gJ fr iI i0 is) (x',c.2) out' hF' (zq cx (aR dU)) _ args w hnt hw hsz hP' Xo
 have hpost:∀v w', @Post (gJ fr iI i0 is) (zq cx (aR dU)) (.rw k' ow rZ ht' :: rest) rs' out' v w'→@Post fr cx (.rw k ow wt ht :: rest) rs out v w':=by
  rintro v w' ⟨σ1,dK,F1,a1,vs,bD,H1,rfl,hL,hfn,QM,hOut,_⟩
  obtain ⟨Q,q1,q2,⟨ek,ey⟩,q4,q5,_⟩:=hOut
  have hRQ:=Tj ek ey hRP
  obtain ⟨Gh,t1,t2⟩:=select (dU:=dU) (ns:=ms1) (fun m hm=>by rw [g1]; exact hsub m (anm _ hm))
  obtain ⟨qB,t3,t4⟩:=select (dU:=dU) (ns:=ms2) (fun m hm=>by rw [g1]; exact hsub m (anj _ hm))
  have xR:=q5
  unfold Cr at xR
  simp only [ann] at xR
  obtain ⟨⟨⟨⟨l1,l2⟩,_⟩,_⟩,_⟩:=xR
  have htr:∀{l:List Nat},mO l rZ=true→mO l wt=true:=fun hl=>jG.2 fun t ht=>jG.1 hwt t (jG.1 hl t ht)
  obtain ⟨zM,JU,r1,r2,r3⟩:=Yb (fr:=fr) H hw hR0 nS rfl rfl ⟨rfl,rfl⟩ hown hown' Ty g2 (by rw [g1]; exact hnd) g3 g4 H1 q1 q2 ek (fun t ht=>by
    have:=anx.1 q4 t ht
    rw [hown' t ht] at this
    simpa using this) (wt:=wt) (ht:=ht) ⟨htr l1,htr l2⟩ hwk XB (y:=(Cont.snd _ _ out).1) (qB:=qB) (by rw [t3]; exact hRQ) t4 (Gh:=Gh) t2 (by rw [t1]; exact hRR) hL hfn QM
    (by rw [List.map_append,t1,t3]; exact hmm) (fun j p ts v h=>by obtain ⟨k0,_,h⟩:=hP.ptr j p ts v h; exact ⟨k0,h⟩)
  refine ⟨_,zM,JU.flatten,a1,vs,JU,r1,rfl,r2,r3,fun b hb=>hb,⟨_,uh,⟨rfl,rfl⟩,⟨rfl,rfl⟩, ?_, ?_, .inl ha⟩,EB hrest⟩
  ·exact anx.2 fun t _=>by simp [nQ]; rfl
  ·unfold Cr nQ
   simp only [mO,List.all_nil,ann,anx]
   exact ⟨⟨⟨⟨fun x hx=>aM.2 hx,trivial⟩,fun x hx=>aM.2 hx⟩,fun x hx=>aM.2 hx⟩,rfl⟩
 rcases h with ⟨h1,h2⟩ | ⟨v,w',h1,h2⟩
 ·refine .inl ⟨h1,h2.mono ?_⟩
  rintro e w' ⟨v,rfl,hv⟩
  exact ⟨v,rfl,hpost v w' hv⟩
 ·exact .inr ⟨v,w',h1,hpost v w' h2⟩
end
section
open Go
theorem I7 {e:TypeId} {kk:K} {z:Bool} {tb:Nat→List (El kk)} {k k':K} {t:TypeId} {C:Type} (hsz:k'.size=k.size) (l:List C) (f:C→El k) (g:C→El k') (q:C→List Nat)
  (h:∀c∈l,Rw e kk z tb k k' (f c) (g c) (q c)):Rw e kk z tb (.sl t k) (.sl t k') (l.map f) (l.map g) (l.map q).flatten:=by
 unfold Rw
 refine ⟨rfl,hsz,by simp,l.map q,by simp,rfl,fun i h1 h2=>?_⟩
 have hi:i<l.length:=by simpa using h1
 have:=h l[i] (anL hi)
 simpa [anv,hi] using this
theorem pG {C:Type} (xs:List C):((xs.zipIdx 1).map (·.2)).Nodup∧0∉(xs.zipIdx 1).map (·.2):=by
 rw [List.zipIdx_map_snd]
 exact ⟨List.nodup_range',by simp⟩
theorem Em {C:Type} (xs:List C):(xs.zipIdx 1).map (·.1)=xs:=List.zipIdx_map_fst ..
theorem Ob {C R:Type} {xs:List C} {m:C→R} {d:R} {x:C} {i:Nat} (h:(x,i)∈xs.zipIdx 1):((xs[i - 1]?).map m).getD d=m x∧i≠0:=by
 obtain ⟨h1,h2,h3⟩:=List.mem_zipIdx h
 have hi:i - 1<xs.length:=by omega
 exact ⟨by simp [hi,h3],by omega⟩
end
section
open Go
section
variable {e:TypeId} {kk:K} [fr:Fr]
variable {cx:Cx} {σ:St} {α:dL} {a:Act} {w:World}
def K6 (cx:Cx) (bad:List Nat):Cx:={ zq cx bad with refs:=cx.refs }
theorem Pe {bad:List Nat} {σ':St} {α':dL} {F':List Nat}:∀{cs:List (TypeId×Dat×List Tag)} {vs:List Value},ku (zq cx bad) σ' α' F' w cs vs→ku (K6 cx bad) σ' α' F' w cs vs
 | [],[],_=>trivial
 | _ :: _,_ :: _,h=>⟨h.1,Pe h.2⟩
 | [],_ :: _,h=>h.elim
 | _ :: _,[],h=>h.elim
theorem abt {bad:List Nat} {σ':St} {α':dL} {F':List Nat} {x:AV} {v:Value} (h:bI (zq cx bad) σ' α' F' w x v):bI (K6 cx bad) σ' α' F' w x v:=by
 cases x with
 | fn f cs=>obtain ⟨vs,h1,h2⟩:=h; exact ⟨vs,h1,Pe h2⟩
 | _=>exact h
theorem WC {e1 e2:TypeId} {k1 k2:K} {v:Value} {cs:List Value} (h:VC (.sl e1 k1) v cs):VC (.sl e2 k2) v cs:=h
def lJ (k:K) (x:El k) (ow wt ht:List TypeId):Root:={ k,x,own:=ow,tags:=[],w:=wt,h:=ht,g:=0,kind:=.anon,fixed:=true,keep:=true,ew:=[],eh:=ht }
theorem Sc (H:Rel cx σ α [] a w) (hw0:cx.w0=w) {R0:Root} {e1:TypeId} {k1:K} (hk0:R0.k=.sl e1 k1) (hR0:aP σ (ay 0) R0) (nS:∀r,r≠ay 0→σ.roots r=none) (Cq:R0.kind=.anon) (rO:R0.tags=[]) (hown:∀t∈R0.k.tys,az t R0.own=true) (he:az e R0.own=true)
  (hs0:σ.slots 0=.one (.ref (ay 0) 0)) (hsl:∀s,s≠0→DL (σ.slots s)) {e2:TypeId} {k2:K} {x':El (.sl e2 k2)} {tb:Nat→List (El kk)} {ns:List Nat} (hR:Rw e kk false tb R0.k (.sl e2 k2) R0.x x' ns) (hnd:ns.Nodup) (hn0:0∉ns) (hown':∀t∈(K.sl e2 k2).tys,az t R0.own=true) (hg0:R0.g=0) :
  ∃(dU:List LZ) (dH:List Nat) (iI:Nat→Value) (h0:iI 0=.slice none 0 0) (hs:∀i,∃a n c,iI i=.slice a n c),dU.map (·.1)=ns∧(α.fo (ay 0)).Perm (dH++aR dU)∧
   (∀q∈dU, @Ow fr (hp w) R0.own (fun _=>False) (.sl e kk) (tb q.1) [q.2.1] q.2.2)∧(∀q∈dU,iI q.1=q.2.1)∧
   @Rel (gJ fr iI h0 hs) (K6 cx (aR dU)) (au σ (ay 0) { R0 with k:=.sl e2 k2,x:=x' }) (aG α (ay 0) (α.loc (ay 0)) (α.hdr (ay 0)) dH) [] a w:=by
 have KR:=H.roots _ R0 hR0
 have hv0:bu σ R0:=⟨hR0.2,by rw [rO]; rfl⟩
 have hO:Ow (hp w) R0.own (fun _=>False) R0.k R0.x (α.hdr (ay 0)) (α.fo (ay 0)):=gF (dA hown) (KR.ow hv0)
 obtain ⟨dU,dH,g1,g2,g3,g4⟩:=OV hown hR hO
 obtain ⟨iI,i1,i2,i3⟩:=R7 (dU:=dU) (by rw [g1]; exact hnd) (by rw [g1]; exact hn0) (fun q hq=>Ua he (g3 q hq))
 refine ⟨dU,dH,iI,i1,i2,g1,g2,g3,i3, ?_⟩
 have hblk:blk α R0 (ay 0)=α.fo (ay 0):=by unfold blk dV; rw [Cq]; rfl
 have hsub:∀b∈dH,b∈α.fo (ay 0):=fun b hb=>g2.mem_iff.2 (anm _ hb)
 have hbad:∀b∈aR dU,b∈α.fo (ay 0):=fun b hb=>g2.mem_iff.2 (anj _ hb)
 have L:Ck cx σ α R0 { R0 with k:=.sl e2 k2,x:=x' } dH (aR dU):=⟨fun r R hr=>by
  by_cases e:r=ay 0
  ·subst e; refine ⟨rfl, ?_⟩; have:=hr.1; rw [hR0.1] at this; exact (anS this).symm
  ·have:=hr.1; rw [nS r e] at this; simp at this,hR0,rfl,rO,hsub,hbad⟩
 have sj:=KR.nd
 rw [hblk] at sj
 have qN:=ano.1 (g2.nodup sj)
 have hlv:∀{q Q},aP (au σ (ay 0) { R0 with k:=.sl e2 k2,x:=x' }) q Q→q=ay 0∧Q={ R0 with k:=.sl e2 k2,x:=x' }:=fun {q Q} hq=>by
  rcases jm hq with ⟨rfl,rfl,_⟩ | ⟨e,hq'⟩
  ·exact ⟨rfl,rfl⟩
  ·exact absurd (L.only q Q hq').1 e
 have hlv1:aP (au σ (ay 0) { R0 with k:=.sl e2 k2,x:=x' }) (ay 0) { R0 with k:=.sl e2 k2,x:=x' }:=⟨aI ..,hR0.2⟩
 have hblk':blk (aG α (ay 0) (α.loc (ay 0)) (α.hdr (ay 0)) dH) { R0 with k:=.sl e2 k2,x:=x' } (ay 0)=dH:=by
  rw [eG]; unfold iA; simp only [Cq]; rfl
 have Cc:∀v,bI cx σ α [] w (.ref (ay 0) 0) v→@bI (gJ fr iI i1 i2) (K6 cx (aR dU)) (au σ (ay 0) { R0 with k:=.sl e2 k2,x:=x' }) (aG α (ay 0) (α.loc (ay 0)) (α.hdr (ay 0)) dH) [] w (.ref (ay 0) 0) v:=by
  intro v hv Q hQ _
  obtain ⟨_,rfl⟩:=hlv hQ
  obtain ⟨h1,h2⟩:=hv R0 hR0 hg0
  refine ⟨Cq, ?_⟩
  rw [hk0] at h2
  simp only [aG,upd_same]
  exact WC h2
 have Xr:∀{x:xJ} {v:Value},DL x→@jd fr cx σ α [] w x v→@jd (gJ fr iI i1 i2) (K6 cx (aR dU)) (au σ (ay 0) { R0 with k:=.sl e2 k2,x:=x' }) (aG α (ay 0) (α.loc (ay 0)) (α.hdr (ay 0)) dH) [] w x v:=fun hx h=>by
  have h1:=Ck.av (fr:=fr) (gJ fr iI i1 i2) rfl L hx h
  rename_i x v
  cases x with
  | KX l=>exact hx.elim
  | lit _ _ _=>exact hx.elim
  | one x=>exact @abt (gJ fr iI i1 i2) _ _ _ _ _ _ _ _ h1
 have jD:∀b∈dH,Ow.mine (K6 cx (aR dU)) w b:=fun b hb=>by
  obtain ⟨m1,m2⟩:=KR.mine b (by rw [hblk]; exact hsub b hb)
  refine ⟨m1, ?_⟩
  rcases m2 with m2 | ⟨j,pi,m2,m3⟩
  ·exact .inl m2
  ·refine .inr ⟨j,{ pi with bl:=pi.bl.filter fun b=>!az b (aR dU) },by simp [K6,zq,m2],anA.2 ⟨m3, ?_⟩⟩
   have:az b (aR dU)=false:=by
    rw [aV]
    intro hm
    exact qN.2.2 b hb b hm rfl
   rw [this]; rfl
 have LB:∀{j:Nat} {Er:Uu},(K6 cx (aR dU)).par j=some Er→∃pi,cx.par j=some pi∧Er={ pi with bl:=pi.bl.filter fun b=>!az b (aR dU) }:=fun h=>nP (cx:=cx) h
 have hpl:=H.oM
 refine @Rel.mk (gJ fr iI i1 i2) _ _ _ _ _ _ H.defs H.sz ?_ ?_ ?_ ?_ ?_ ?_ ?_ (fun b hb=>by simp at hb) List.nodup_nil (fun r R hr b hb h=>by simp at h) ?_ ?_ ?_ (fun j p ts v h=>h.elim) ?_
 ·intro j Er b o n hj hb
  obtain ⟨pi,hj',rfl⟩:=LB hj
  obtain ⟨R,f1,f2,_⟩:=H.lQ j pi b o n hj' hb
  obtain ⟨_,rfl⟩:=L.only _ R f1
  rw [Cq] at f2
  simp at f2
 ·intro r R hr hk
  obtain ⟨rfl,rfl⟩:=hlv hr
  have hk:R0.kind=.par:=hk
  rw [Cq] at hk
  simp at hk
 ·intro s
  show @jd (gJ fr iI i1 i2) _ _ _ _ _ (σ.slots s) _
  by_cases h0:s=0
  ·subst h0
   have:=H.slots 0
   rw [hs0] at this ⊢
   exact Cc _ this
  ·exact Xr (hsl s h0) (H.slots s)
 ·intro s
  show xO _ (σ.slots s)
  by_cases h0:s=0
  ·subst h0
   rw [hs0]
   exact ⟨_,aI .., .inr (anR _)⟩
  have hs:=hsl s h0
  cases hx:σ.slots s with
  | KX l=>rw [hx] at hs; exact hs.elim
  | lit _ _ _=>rw [hx] at hs; exact hs.elim
  | one x=>
   rw [hx] at hs
   cases x with
   | undef=>trivial
   | ptr r p n=>obtain ⟨rfl,rfl,rfl⟩:=hs; exact ⟨_,aI .., .inr (anR _)⟩
   | val k x T=>exact fun t ht=>.inl (hs.2 t ht)
   | fn f cs=>exact fun c hc t ht=>.inl ((hs c hc).2.1 t ht)
   | _=>exact hs.elim
 ·intro r R hr
  obtain ⟨rfl,rfl⟩:=hlv hr
  refine @uI.mk (gJ fr iI i1 i2) _ _ _ _ _ _ _ (fun _=>?_) ?_ ?_ ?_ ?_
  ·have e1:(aG α (ay 0) (α.loc (ay 0)) (α.hdr (ay 0)) dH).hdr (ay 0)=α.hdr (ay 0):=by simp [aG,upd_same]
   have e2:(aG α (ay 0) (α.loc (ay 0)) (α.hdr (ay 0)) dH).fo (ay 0)=dH:=by simp [aG,upd_same]
   rw [e1,e2]
   exact @gF (gJ fr iI i1 i2) _ _ _ _ _ _ _ _ (dA hown') (g4 (gJ fr iI i1 i2) rfl i3)
  ·show ((aG α (ay 0) (α.loc (ay 0)) (α.hdr (ay 0)) dH).hdr (ay 0)).length=(K.sl e2 k2).size
   rw [hR.size]
   simpa [aG,upd_same] using KR.len
  ·intro b o hb
   rw [L.wh] at hb
   unfold dV at hb
   rw [Cq] at hb
   simp at hb
  ·rw [hblk']
   exact qN.1
  ·intro b hb
   rw [hblk'] at hb
   exact jD b hb
 ·intro r R hr
  by_cases e:r=ay 0
  ·subst e
   rw [aI] at hr
   have hr:=anS hr
   subst hr
   exact ⟨fun t ht=>by rw [show ({ R0 with k:=.sl e2 k2,x:=x' }:Root).tags=R0.tags from rfl,rO] at ht; simp at ht,oH 0,fun n hn=>by rw [show ({ R0 with k:=.sl e2 k2,x:=x' }:Root).tags=R0.tags from rfl,rO] at hn; simp at hn⟩
  ·rw [bU _ _ e,nS r e] at hr; simp at hr
 ·intro r R r' R' hr hr' hne
  exact absurd ((hlv hr).1.trans (hlv hr').1.symm) hne
 ·obtain ⟨f1,f2,f3,f4,f5,f6⟩:=H.frame
  refine ⟨f1,f2,f3,f4,fun b _ _=>by show hp w b=hp cx.w0 b; rw [hw0],fun j Er b o n hj hb=>?_⟩
  obtain ⟨pi,hj',rfl⟩:=LB hj
  exact f6 j pi b o n hj' hb
 ·intro j Er hj hkp
  obtain ⟨pi,hj',rfl⟩:=LB hj
  obtain ⟨R,f1,f2⟩:=H.uu j pi hj' hkp
  by_cases e:ay j=ay 0
  ·refine ⟨_,by rw [e]; exact aI ..,fun _ b hb hnb=>.inr ⟨by show hp w b=hp cx.w0 b; rw [hw0],by simp,fun q Q hq _=>by rw [(hlv hq).1,e]⟩⟩
  ·rw [nS _ e] at f1; simp at f1
 ·refine ⟨fun j Er hj b hb=>?_,fun b hb=>⟨?_,fun j Er hj hbl=>?_⟩,fun b hb=>hpl.2.2 b hb⟩
  ·obtain ⟨pi,hj',rfl⟩:=LB hj
   exact hpl.1 j pi hj' b (anA.1 hb).1
  ·exact (hpl.2.1 b hb).1
  ·obtain ⟨pi,hj',rfl⟩:=LB hj
   exact (hpl.2.1 b hb).2 j pi hj' (anA.1 hbl).1
 ·intro j v hv
  have hv:cx.refs j v:=hv
  obtain ⟨⟨R,f1⟩,f2⟩:=H.vV j v hv
  have ej:ay j=ay 0:=anF fun ne=>by rw [nS _ ne] at f1; simp at f1
  rw [ej] at f2 ⊢
  exact ⟨⟨_,aI ..⟩,Cc v f2⟩
theorem Vr (H:Rel cx σ α [] a w) (hw0:cx.w0=w) {R0:Root} {e1:TypeId} {k1:K} (hk0:R0.k=.sl e1 k1) (hR0:aP σ (ay 0) R0) (nS:∀r,r≠ay 0→σ.roots r=none) (Cq:R0.kind=.anon) (hg0:R0.g=0) (hv0:bu σ R0)
  (hown:∀t∈R0.k.tys,az t R0.own=true) {e2:TypeId} {k2:K} (hown':∀t∈(K.sl e2 k2).tys,az t R0.own=true) (Ty:∀t∈(K.sl e kk).tys,az t R0.own=true)
  {tb:Nat→List (El kk)} {dU:List LZ} {dH:List Nat} {iI:Nat→Value} {h0:iI 0=.slice none 0 0} {hs:∀i,∃a n c,iI i=.slice a n c}
  (hperm:(α.fo (ay 0)).Perm (dH++aR dU)) (hnd:(dU.map (·.1)).Nodup) (hrow:∀q∈dU, @Ow fr (hp w) R0.own (fun _=>False) (.sl e kk) (tb q.1) [q.2.1] q.2.2) (hid:∀q∈dU,iI q.1=q.2.1)
  {σ1:St} {dK:dL} {F1:List Nat} {a1:Act} {w':World} (H1 : @Rel (gJ fr iI h0 hs) (K6 cx (aR dU)) σ1 dK F1 a1 w') {Q:Root} (hQ:σ1.roots (ay 0)=some Q) (hQv:bu σ1 Q) (hQk:Q.k=.sl e2 k2) (hQo:∀t∈(K.sl e2 k2).tys,az t Q.own=true) (hQn:Q.kind=.anon) (hQg:Q.g=0)
  {wt:List TypeId} (hwt:mO Q.w wt=true∧mO Q.ew wt=true)
  {y:El R0.k} {qB:List LZ} (hP:Rw e kk true tb R0.k Q.k y Q.x (qB.map (·.1))) (ZT:∀q∈qB,q∈dU) (hall:(qB.map (·.1)).Nodup)
  (FU:∀j p ts v,cx.ptrs j p ts v→j=0→ts=dY p R0.k) :
  Rel cx (AJ (lJ R0.k y R0.own wt R0.k.tys)) (CF (α.loc (ay 0)) (dK.hdr (ay 0)) (dK.fo (ay 0)++aR qB)) [] a1 w':=by
 have K0:=H.roots _ R0 hR0
 have hlv1:aP σ1 (ay 0) Q:=⟨hQ,hQv.1⟩
 have K1:=@Rel.roots (gJ fr iI h0 hs) _ _ _ _ _ _ H1 _ Q hlv1
 have abU:=@uI.ow (gJ fr iI h0 hs) _ _ _ _ _ _ _ K1
 have Wp:=@uI.len (gJ fr iI h0 hs) _ _ _ _ _ _ _ K1
 have abT:=@uI.nd (gJ fr iI h0 hs) _ _ _ _ _ _ _ K1
 have QW:=@uI.mine (gJ fr iI h0 hs) _ _ _ _ _ _ _ K1
 have R6:∀r R,aP σ r R→r=ay 0∧R=R0:=fun r R hr=>by
  by_cases e:r=ay 0
  ·subst e; refine ⟨rfl, ?_⟩; have:=hr.1; rw [hR0.1] at this; exact (anS this).symm
  ·have:=hr.1; rw [nS r e] at this; simp at this
 have PO:blk α R0 (ay 0)=α.fo (ay 0):=by unfold blk dV; rw [Cq]; rfl
 have hblk1:blk dK Q (ay 0)=dK.fo (ay 0):=by unfold blk dV; rw [hQn]; rfl
 have hsize:w.heap.size≤w'.heap.size:=by have:=(@Rel.frame (gJ fr iI h0 hs) _ _ _ _ _ _ H1).2.2.2.1; simpa [K6,zq,hw0] using this
 have sj:=K0.nd
 rw [PO] at sj
 have qN:=ano.1 (hperm.nodup sj)
 have hbad:∀b∈aR dU,b∈α.fo (ay 0):=fun b hb=>hperm.mem_iff.2 (anj _ hb)
 have JZ:∀b∈aR dU,b∈blk α R0 (ay 0):=fun b hb=>by rw [PO]; exact hbad b hb
 have LB:∀{j:Nat} {Er:Uu},(K6 cx (aR dU)).par j=some Er→∃pi,cx.par j=some pi∧Er={ pi with bl:=pi.bl.filter fun b=>!az b (aR dU) }:=fun h=>nP (cx:=cx) h
 have hno:∀b∈aR dU,¬Ow.mine (K6 cx (aR dU)) w' b:=fun b hb hm=>by
  have hlt:=(K0.mine b (JZ b hb)).1
  rcases hm.2 with h | ⟨j,Er,h1,h2⟩
  ·have:w.heap.size≤b:=by simpa [K6,zq,hw0] using h
   omega
  ·obtain ⟨pi,_,rfl⟩:=LB h1
   have:=(anA.1 h2).2
   rw [aM.2 hb] at this
   simp at this
 have hsame:∀b∈aR dU,hp w' b=hp w b:=fun b hb=>by
  have hlt:=(K0.mine b (JZ b hb)).1
  have:=(@Rel.frame (gJ fr iI h0 hs) _ _ _ _ _ _ H1).2.2.2.2.1 b (by simpa [K6,zq,hw0] using hlt) (fun j Er h1 h2=>by
   obtain ⟨pi,_,rfl⟩:=LB h1
   have:=(anA.1 h2).2
   rw [aM.2 hb] at this
   simp at this)
  simpa [K6,zq,hw0] using this
 have hrow':∀q∈dU, @Ow fr (hp w') R0.own (fun _=>False) (.sl e kk) (tb q.1) [q.2.1] q.2.2:=fun q hq=>
  bz (fun _ h=>h.elim) (fun _ h=>h) (fun b hb=>hsame b (anU.2 ⟨q,hq,hb⟩)) (hrow q hq)
 have J9:∀b∈aR qB,b∈aR dU:=fun b hb=>by
  obtain ⟨q,hq,h⟩:=anU.1 hb
  exact anU.2 ⟨q,ZT q hq,h⟩
 have hnP:(aR qB).Nodup:=Gg qN.2.1 hnd (l:=qB) ZT hall
 have hmB:∀b∈dK.fo (ay 0),Ow.mine (K6 cx (aR dU)) w' b:=fun b hb=>QW b (by rw [hblk1]; exact hb)
 have XH:∀b,Ow.mine (K6 cx (aR dU)) w' b→Ow.mine cx w' b:=fun b hb=>⟨hb.1,hb.2.imp (fun h=>h) (fun ⟨j,Er,h1,h2⟩=>by
  obtain ⟨pi,h3,rfl⟩:=LB h1
  exact ⟨j,pi,h3,(anA.1 h2).1⟩)⟩
 have TB:∀b∈aR dU,Ow.mine cx w' b:=fun b hb=>by
  obtain ⟨m1,m2⟩:=K0.mine b (JZ b hb)
  exact ⟨by omega,m2⟩
 have FT:∀{r R},aP (AJ (lJ R0.k y R0.own wt R0.k.tys)) r R→r=ay 0∧R=lJ R0.k y R0.own wt R0.k.tys:=fun h=>qz h.1
 have Ms:blk (CF (α.loc (ay 0)) (dK.hdr (ay 0)) (dK.fo (ay 0)++aR qB)) (lJ R0.k y R0.own wt R0.k.tys) (ay 0)=dK.fo (ay 0)++aR qB:=rfl
 have PR:=abT
 rw [hblk1] at PR
 have hf1:=@Rel.frame (gJ fr iI h0 hs) _ _ _ _ _ _ H1
 have Z8:R0.k.size=Q.k.size:=hP.size.symm
 have XL:∀j p ts v,cx.ptrs j p ts v→ay j=ay 0:=fun j p ts v h=>by
  obtain ⟨_,R,f1,_⟩:=H.vU j p ts v h
  refine anF fun e=>?_
  rw [nS _ e] at f1
  simp at f1
 have hdf:=@Rel.defs (gJ fr iI h0 hs) _ _ _ _ _ _ H1
 have hsz0:=@Rel.sz (gJ fr iI h0 hs) _ _ _ _ _ _ H1
 have hsz1:cx.nt≤a1.tmps.size:=hsz0
 have acH:=@Rel.uu (gJ fr iI h0 hs) _ _ _ _ _ _ H1
 have akh:=@Rel.vV (gJ fr iI h0 hs) _ _ _ _ _ _ H1
 refine ⟨hdf,hsz1, ?_, ?_,fun s=>trivial,fun s=>trivial, ?_, ?_, ?_,fun b hb=>by simp at hb,List.nodup_nil,fun r R hr b hb h=>by simp at h, ?_, ?_, ?_, ?_, ?_⟩
 ·intro j pi b o n hj hb
  obtain ⟨R,f1,f2,_⟩:=H.lQ j pi b o n hj hb
  obtain ⟨_,rfl⟩:=R6 _ R f1
  rw [Cq] at f2
  simp at f2
 ·intro r R hr hk
  obtain ⟨rfl,rfl⟩:=FT hr
  simp [lJ] at hk
 ·intro r R hr
  obtain ⟨rfl,rfl⟩:=FT hr
  refine ⟨fun _=>?_,by show (dK.hdr (ay 0)).length=R0.k.size; rw [Wp,Z8],fun b o hb=>by simp [dV,lJ] at hb, ?_,fun b hb=>?_⟩
  ·have o1 : @Ow (gJ fr iI h0 hs) (hp w') R0.own (fun _=>False) Q.k Q.x (dK.hdr (ay 0)) (dK.fo (ay 0)):=by
    have hk1:∀t∈Q.k.tys,az t Q.own=true:=fun t ht=>hQo t (by rw [←hQk]; exact ht)
    have hk2:∀t∈Q.k.tys,az t R0.own=true:=fun t ht=>hown' t (by rw [←hQk]; exact ht)
    exact @gF (gJ fr iI h0 hs) _ _ _ _ _ _ _ _ (dA hk2) (@Iq (gJ fr iI h0 hs) _ _ _ _ _ _ _ _ (fun t ht=>by rw [hk1 t ht,hk2 t ht]) (abU hQv))
   have o2:=Nn (fr:=fr) (gJ fr iI h0 hs) hown hP o1 (fun q hq=>⟨hrow' q (ZT q hq),hid q (ZT q hq)⟩)
   exact gF (dA hown) o2
  ·rw [Ms]
   exact ano.2 ⟨PR,hnP,fun b hb c hc ebc=>by subst ebc; exact hno b (J9 b hc) (hmB b hb)⟩
  ·rw [Ms] at hb
   rcases anq.1 hb with h | h
   ·exact XH b (hmB b h)
   ·exact TB b (J9 b h)
 ·intro r R hr
  obtain ⟨rfl,rfl⟩:=qz hr
  exact ⟨fun t ht=>by simp [lJ] at ht,oH 0,fun n hn=>by simp [lJ] at hn⟩
 ·intro r R r' R' hr hr' hne
  exact absurd ((FT hr).1.trans (FT hr').1.symm) hne
 ·obtain ⟨f1,f2,f3,f4,f5,f6⟩:=hf1
  refine ⟨f1,f2,f3,f4,fun b hb hnb=>f5 b hb (fun j Er h1 h2=>?_),fun j pi b o n hj hb=>?_⟩
  ·obtain ⟨pi,h3,rfl⟩:=LB h1
   exact hnb j pi h3 (anA.1 h2).1
  ·exact f6 j { pi with bl:=pi.bl.filter fun b=>!az b (aR dU) } b o n (by simp [K6,zq,hj]) hb
 ·intro j pi hj hkp
  obtain ⟨R,f1,_⟩:=H.uu j pi hj hkp
  have ej:ay j=ay 0:=anF fun ne=>by rw [nS _ ne] at f1; simp at f1
  refine ⟨lJ R0.k y R0.own wt R0.k.tys,by rw [ej]; exact uh,fun _ b hb hnb=>?_⟩
  have hone:∀q Q,aP (AJ (lJ R0.k y R0.own wt R0.k.tys)) q Q→b∈blk (CF (α.loc (ay 0)) (dK.hdr (ay 0)) (dK.fo (ay 0)++aR qB)) Q q→q=ay j:=fun q Q hq _=>by rw [(FT hq).1,ej]
  by_cases hbt:b∈aR dU
  ·exact .inr ⟨by rw [hw0]; exact hsame b hbt,by simp,hone⟩
  ·obtain ⟨R1,q1,q2⟩:=acH j { pi with bl:=pi.bl.filter fun b=>!az b (aR dU) } (by simp [K6,zq,hj]) hkp
   have eR:R1=Q:=by rw [ej,hQ] at q1; exact (anS q1).symm
   subst eR
   rcases q2 hQv.1 b (anA.2 ⟨hb,by rw [aV.2 hbt]; rfl⟩) (fun h=>hnb (JB.1 h)) with ⟨t,t1,t2⟩ | ⟨t1,t2,_⟩
   ·exact .inl ⟨t,t1, .inl (t2.elim (jG.1 hwt.1 t) (jG.1 hwt.2 t))⟩
   ·exact .inr ⟨t1,by simp,hone⟩
 ·refine ⟨fun j pi hj b hb=>H.oM.1 j pi hj b hb,fun b hb=>H.oM.2.1 b hb,fun b hb=>H.oM.2.2 b hb⟩
 ·intro j p ts v hv
  have ej:=XL j p ts v hv
  have ej0:j=0:=by unfold ay at ej; omega
  obtain ⟨g1,R,f1,f2⟩:=H.vU j p ts v hv
  have hts:=FU j p ts v hv ej0
  refine ⟨g1,lJ R0.k y R0.own wt R0.k.tys,by rw [ej]; exact uh,fun hno'=>?_⟩
  refine ⟨g1,fun R' hR' _ _ _ hsome=>?_⟩
  rw [ej] at hR'
  obtain ⟨_,rfl⟩:=qz hR'
  have hsome:(aQ p R0.k y).isSome=true:=hsome
  cases p with
  | nil=>
   have hRR:R=R0:=by rw [ej,hR0.1] at f1; exact (anS f1).symm
   obtain ⟨_,cs,b,o,hn,ev⟩:=(f2 (fun t ht=>by rw [hts] at ht; simp [dY] at ht)).2 R0 (by rw [ej]; exact hR0.1) hv0 (by unfold dY clean; simp [az]) (fun t ht=>by simp [ah] at ht) rfl
   rw [ej] at hn
   simp only [bG,anh,ant] at hn
   have h2:=hn.2
   unfold dV at h2
   rw [Cq] at h2
   simp at h2
  | cons s p=>
   cases s with
   | fJ m=>
    rw [hk0] at hts
    have:aQ (.fJ m :: p) R0.k y=none:=by
     have hg:∀(k:K) (z:El k),k=.sl e1 k1→aQ (.fJ m :: p) k z=none:=by
      intro k z hk; subst hk; rfl
     exact hg _ y hk0
    rw [this] at hsome; simp at hsome
   | idx i=>
    exfalso
    refine hno' e1 ?_ ?_
    ·rw [hts,hk0]; simp [dY,ah]
    ·show e1∈R0.k.tys
     rw [hk0]; simp [K.tys]
 ·intro j v hv
  obtain ⟨⟨R,f1⟩,f2⟩:=H.vV j v hv
  have ej:ay j=ay 0:=anF fun ne=>by rw [nS _ ne] at f1; simp at f1
  obtain ⟨_,q2⟩:=akh j v hv
  rw [ej] at q2 ⊢
  refine ⟨⟨_,uh⟩,fun R' hR' _=>?_⟩
  obtain ⟨_,rfl⟩:=FT hR'
  obtain ⟨z1,z2⟩:=q2 Q hlv1 hQg
  refine ⟨rfl, ?_⟩
  show VC R0.k v (dK.hdr (ay 0))
  rw [hk0]
  rw [hQk] at z2
  exact WC z2
end
theorem Ya [fr:Fr] {e e1 e2:TypeId} {kk k1 k2:K} {P:Program} {n:Nat} {f:FuncId} {ow wt rZ:List TypeId} {rest:List dG}
  {F:Nat→Cont (kin (.jK (.sl e1 k1) ow wt :: rest))→Option (Cont (iB [.into 0 []]++kD (.jK (.sl e1 k1) ow wt :: rest)))} {F':Nat→Cont (kin (.jK (.sl e2 k2) ow rZ :: rest))→Option (Cont (iB [.into 0 []]++kD (.jK (.sl e2 k2) ow rZ :: rest)))}
  (hrest:fG rest=true) (hown:∀t∈(K.sl e1 k1).tys,az t ow=true) (hown':∀t∈(K.sl e2 k2).tys,az t ow=true) (Ty:∀t∈(K.sl e kk).tys,az t ow=true)
  (hE:∀fr:Fr, @ak fr P n ⟨f, .jK (.sl e2 k2) ow rZ :: rest,[.into 0 []],F'⟩) (hwt:mO rZ wt=true)
  (hF:∀c out,F n c=some out→∃(x':El (.sl e2 k2)) (ns ms:List Nat) (tb:Nat→List (El kk)) (out':Cont (iB [.into 0 []]++kD (.jK (.sl e2 k2) ow rZ :: rest))),Rw e kk false tb (.sl e1 k1) (.sl e2 k2) c.1 x' ns∧ns.Nodup∧0∉ns∧F' n (x',c.2)=some out'∧
   (show Int from out.1)=(show Int from out'.1)∧Rw e kk true tb (.sl e1 k1) (.sl e2 k2) out.2.1 out'.2.1 ms∧ms.Nodup∧∀m∈ms,m∈ns) :
  ak P n ⟨f, .jK (.sl e1 k1) ow wt :: rest,[.into 0 []],F⟩:=by
 intro c out hout cx α args w hnt hw hsz hP H
 obtain ⟨x',ns,ms,tb,out',hR,hnd,hn0,hF',hRI,hRP,hmm,hsub⟩:=hF c out hout
 have ha:((K.sl e1 k1).tys.all fun t=>az t ow)=true:=anx.2 hown
 have ha':((K.sl e2 k2).tys.all fun t=>az t ow)=true:=anx.2 hown'
 have CJ:∀r,(bX (.jK (.sl e1 k1) ow wt :: rest) c).roots r=bif Nat.beq r (ay 0) then some { aL (.sl e1 k1) c.1 ow [] .anon true with fixed:=true } else none:=fun r=>by
  show gI (gG (.jK (.sl e1 k1) ow wt :: rest) 0 c) r=_
  simp only [gG,sV hrest,gI,ha,cond_true]
  rfl
 have hR0:aP (bX (.jK (.sl e1 k1) ow wt :: rest) c) (ay 0) { aL (.sl e1 k1) c.1 ow [] .anon true with fixed:=true }:=⟨by rw [CJ]; simp,rfl⟩
 have nS:∀r,r≠ay 0→(bX (.jK (.sl e1 k1) ow wt :: rest) c).roots r=none:=fun r hr=>by
  rw [CJ]
  have:Nat.beq r (ay 0)=false:=by
   cases hb:Nat.beq r (ay 0) with
   | true=>exact absurd (anl hb) hr
   | false=>rfl
  rw [this]; rfl
 have hs0:(bX (.jK (.sl e1 k1) ow wt :: rest) c).slots 0=.one (.ref (ay 0) 0):=rfl
 have hsl:∀s,s≠0→DL ((bX (.jK (.sl e1 k1) ow wt :: rest) c).slots s):=fun s hs=>by
  show DL (rR (jE (.jK (.sl e1 k1) ow wt :: rest) 0 c) s)
  simp only [jE,rR]
  cases hb:Nat.beq s 0 with
  | true=>exact absurd (anl hb) hs
  | false=>exact zK hrest s
 obtain ⟨dU,dH,iI,i0,is,g1,g2,g3,g4,Xo⟩:=Sc H hw (R0:={ aL (.sl e1 k1) c.1 ow [] .anon true with fixed:=true }) rfl hR0 nS rfl rfl hown (Ty e (by simp [K.tys])) hs0 hsl (x':=x') hR hnd hn0 hown' rfl
 have hst:au (bX (.jK (.sl e1 k1) ow wt :: rest) c) (ay 0) { ({ aL (.sl e1 k1) c.1 ow [] .anon true with fixed:=true }:Root) with k:=.sl e2 k2,x:=x' }=bX (.jK (.sl e2 k2) ow rZ :: rest) (x',c.2):=by
  unfold au bX
  congr 1
  funext r
  show upd (bX (.jK (.sl e1 k1) ow wt :: rest) c).roots (ay 0) _ r=gI (gG (.jK (.sl e2 k2) ow rZ :: rest) 0 (x',c.2)) r
  simp only [gG,sV hrest,gI,ha',cond_true]
  unfold upd
  cases hb:Nat.beq r (ay 0) with
  | true=>rfl
  | false=>simp only [cond_false]; rw [CJ,hb]; rfl
 rw [hst] at Xo
 have TA:∀j,(∃k,xN (.jK (.sl e1 k1) ow wt :: rest) j k)→∃k,xN (.jK (.sl e2 k2) ow rZ :: rest) j k:=by
  rintro j ⟨k0,o1,o2,o3,h⟩
  cases j with
  | zero=>exact ⟨.sl e2 k2,ow,rZ,[], .inr rfl⟩
  | succ j=>exact ⟨k0,o1,o2,o3,by simpa using h⟩
 have hP':Fw (K6 cx (aR dU)) (.jK (.sl e2 k2) ow rZ :: rest):=by
  refine ⟨fun j Er hj hkp=>?_,fun j p ts v h=>h.elim,fun j v h=>TA j (hP.ref j v h)⟩
  obtain ⟨pi,hj',rfl⟩:=nP (cx:=cx) hj
  exact TA j (hP.par j pi hj' hkp)
 have h:=hE (gJ fr iI i0 is) (x',c.2) out' hF' (K6 cx (aR dU)) _ args w hnt hw hsz hP' Xo
 have hpost:∀v w', @Post (gJ fr iI i0 is) (K6 cx (aR dU)) (.jK (.sl e2 k2) ow rZ :: rest) [.into 0 []] out' v w'→@Post fr cx (.jK (.sl e1 k1) ow wt :: rest) [.into 0 []] out v w':=by
  rintro v w' ⟨σ1,dK,F1,a1,vs,bD,H1,rfl,hL,hfn,QM,hOut,_⟩
  obtain ⟨Q,q1,q2,⟨ek,ey⟩,q4,q5,_⟩:=hOut
  have hRQ:=Tj ek ey hRP
  obtain ⟨qB,t3,t4⟩:=select (dU:=dU) (ns:=ms) (fun m hm=>by rw [g1]; exact hsub m hm)
  have xR:=q5
  unfold Cr at xR
  simp only [ann] at xR
  obtain ⟨⟨⟨⟨l1,l2⟩,_⟩,_⟩,l5⟩:=xR
  have hg0:Q.g=0:=anl l5
  have htr:∀{l:List Nat},mO l rZ=true→mO l wt=true:=fun hl=>jG.2 fun t ht=>jG.1 hwt t (jG.1 hl t ht)
  cases vs with
  | nil=>exact hL.elim
  | cons v vs=>
   cases bD with
   | nil=>exact hL.elim
   | cons fo bD=>
    obtain ⟨⟨rfl,_,b,m,cp,e3,e4,e5⟩,hL2⟩:=hL
    cases vs with
    | cons _ _=>cases bD <;> exact hL2.elim
    | nil=>
     cases bD with
     | cons _ _=>exact hL2.elim
     | nil=>
      obtain ⟨hQn,hQV⟩:=e5 Q ⟨q1,q2.1⟩ hg0
      have r1:=Vr (fr:=fr) H hw (R0:={ aL (.sl e1 k1) c.1 ow [] .anon true with fixed:=true }) rfl hR0 nS rfl rfl ⟨rfl,rfl⟩ hown hown' Ty g2 (by rw [g1]; exact hnd) g3 g4 H1 q1 q2 ek (fun t ht=>by
        have:=anx.1 q4 t ht
        rw [hown' t ht] at this
        simpa using this) hQn hg0 (wt:=wt) ⟨htr l1,htr l2⟩ (y:=out.2.1) (qB:=qB) (by rw [t3]; exact hRQ) t4 (by rw [t3]; exact hmm) (fun j p ts v h hj=>by
         obtain ⟨k0,⟨o1,o2,o3,h1⟩,h2⟩:=hP.ptr j p ts v h
         subst hj
         rcases h1 with h1 | h1
         ·simp at h1
         ·simp only [List.getElem?_cons_zero,anh,dG.jK.injEq] at h1
          rw [h2, ←h1.1]; rfl)
      refine ⟨_,_,[],a1,[v],[[]],r1,rfl,⟨⟨rfl,rfl,b,m,cp, ?_, ?_, ?_⟩,trivial⟩,by simp,by simp,⟨_,uh,⟨rfl,rfl⟩,⟨rfl,rfl⟩, ?_, ?_, .inl ha⟩,EB hrest⟩
      ·have hI:(show Int from (Cont.fst (iB [lU.into 0 []]) _ out).1)=(show Int from (Cont.fst (iB [lU.into 0 []]) _ out').1):=hRI
       rw [hI]; exact e3
      ·have hI:(show Int from (Cont.fst (iB [lU.into 0 []]) _ out).1)=(show Int from (Cont.fst (iB [lU.into 0 []]) _ out').1):=hRI
       rw [hI]; exact e4
      ·intro R' hR' _
       obtain ⟨_,rfl⟩:=qz hR'.1
       refine ⟨rfl, ?_⟩
       have ek:Q.k=.sl e2 k2:=ek
       rw [ek] at hQV
       exact WC hQV
      ·exact anx.2 fun t _=>by simp [lJ]; rfl
      ·unfold Cr lJ
       simp only [mO,List.all_nil,ann,anx]
       exact ⟨⟨⟨⟨fun x hx=>aM.2 hx,trivial⟩,fun x hx=>aM.2 hx⟩,fun x hx=>aM.2 hx⟩,rfl⟩
 rcases h with ⟨h1,h2⟩ | ⟨v,w',h1,h2⟩
 ·refine .inl ⟨h1,h2.mono ?_⟩
  rintro e w' ⟨v,rfl,hv⟩
  exact ⟨v,rfl,hpost v w' hv⟩
 ·exact .inr ⟨v,w',h1,hpost v w' h2⟩
end
end Go.Proofs.YtailcbngagacaabGreat.Ow
