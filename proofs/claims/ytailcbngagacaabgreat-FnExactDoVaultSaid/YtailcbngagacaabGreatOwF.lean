/- A verified reading of translated code: values in place of memory; part F of 6, spaces and remarks taken out. No condition. Own work of this seat. -/
import Derived.Test.YtailcbngagacaabGreatOwE
import Derived.Test.YtailcbngagacaabGreatOwC
import Derived.Conc.MuLone
import Derived.ChangeArms
import Derived.ChangeReads
import Derived.ChangeOld
import Derived.ChangeSame
import Derived.DataShut
set_option linter.unusedSectionVars false
set_option linter.unusedVariables false
set_option linter.unusedSimpArgs false
namespace Go.Proofs.YtailcbngagacaabGreat.Ow
section
open Go
variable [Fr]
section
variable {P:Program} {T:iV} {cx:Cx} {σ σ':St} {α:dL} {F:List Nat} {a:Act} {w:World} {jf:Rn} {rs:List Nat}
theorem YZ (H:Rel cx σ α F a w) (hP:Ro cx jf) (hB:Pf σ jf rs σ'):Rel cx σ' α F a w:=by
 have Vx:∀{r:Nat} {R':Root},aP σ' r R'→∃R,CP σ jf rs r R R':=fun h=>by
  obtain ⟨_,_,R,h⟩:=hB.roots _ _ h.1
  exact ⟨R,h⟩
 have xW:∀{j:Nat} {q},je (ay j) jf=some q→∃R R',σ'.roots (ay j)=some R'∧CP σ jf rs (ay j) R R':=fun h=>by
  obtain ⟨R',hR'⟩:=hB.made _ (hB.jf _ _ h)
  obtain ⟨_,_,R,h⟩:=hB.roots _ _ hR'
  exact ⟨R,R',hR',h⟩
 have hsame:∀{τ:St} {r:Nat} {R Q:Root},τ.roots r=some R→τ.roots r=some Q→Q=R:=fun h1 h2=>by rw [h1] at h2; simpa using h2.symm
 refine ⟨H.defs,H.sz, ?_, ?_, ?_, ?_, ?_, ?_, ?_,H.fl,H.zG, ?_,H.frame, ?_,H.oP, ?_, ?_⟩
 ·intro j pi b o n hj hb
  obtain ⟨Q,hQ,hk,hl,hs⟩:=H.kI j pi b o n hj hb
  obtain ⟨q,hq⟩:=hP.par j pi hj (.inr ⟨_,hb⟩)
  obtain ⟨R,R',hR',h1⟩:=xW hq
  have:=hsame hQ.1 h1.live.1
  subst this
  obtain ⟨k1,k2,_,_,_,k6⟩:=h1.kind
  exact ⟨R',⟨hR',k6.trans hQ.2⟩,k1.trans hk,hl,by rw [k2]; exact hs⟩
 ·intro r R' hr hk
  obtain ⟨R,h1⟩:=Vx hr
  exact H.EE r R h1.live (h1.kind.1.symm.trans hk)
 ·intro s
  rcases hB.slots s with h | ⟨sh,av,d,h1,h2,h3,h4⟩
  ·rw [h]; trivial
  ·rw [h3]
   have:=H.slots s
   rw [h1] at this
   exact (hB.av H h2 h4 this).1
 ·intro s
  rcases hB.slots s with h | ⟨sh,av,d,h1,h2,h3,h4⟩
  ·rw [h]; trivial
  ·rw [h3]
   have:=H.slots s
   rw [h1] at this
   exact (hB.av H h2 h4 this).2
 ·intro r R' hr
  obtain ⟨R,h1⟩:=Vx hr
  have O:=H.roots r R h1.live
  have hb:=(CP.blk (α:=α) h1).1
  have hw:=(CP.blk (α:=α) h1).2
  have ht:=h1.tags
  have hv:=h1.valid
  obtain ⟨ow,tg,ew,eh,rfl,hown⟩:=h1.form
  refine ⟨fun _=>rQ hown (bz (fun _ _=>rfl) (fun b hb2=>?_) (fun _ _=>rfl) (O.ow hv)),O.len, ?_, ?_, ?_⟩
  ·exact hB.iQ (fun t h hi=>⟨0,ht t h hi⟩) hb2
  ·rw [hw]; exact O.mem
  ·rw [hb]; exact O.nd
  ·rw [hb]; exact O.mine
 ·intro r R' hr
  obtain ⟨g1,g2,R,h1⟩:=hB.roots r R' hr
  refine ⟨fun t ht=>?_,g2,fun n hn=>(h1.abS _ hn).2.2 rfl⟩
  obtain ⟨f1,f2,_⟩:=h1.abS t ht
  rcases f2 with h | h
  ·exact .inl h
  ·obtain ⟨Q,hQ⟩:=hB.made _ h
   exact .inr ⟨Q,hQ, .inr (by rw [f1]; exact aov _)⟩
 ·intro r R1 r' R2 h1 h2 hne b hb
  obtain ⟨Q1,g1⟩:=Vx h1
  obtain ⟨Q2,g2⟩:=Vx h2
  rw [(CP.blk (α:=α) g1).1] at hb
  rw [(CP.blk (α:=α) g2).1]
  exact H.IK r Q1 r' Q2 g1.live g2.live hne b hb
 ·intro r R' hr b hb
  obtain ⟨R,h1⟩:=Vx hr
  rw [(CP.blk (α:=α) h1).1] at hb
  exact H.iX r R h1.live b hb
 ·intro j pi hj hk
  obtain ⟨⟨k,wt,ht⟩,hq⟩:=hP.par j pi hj (.inl hk)
  obtain ⟨R,R',hR',h1⟩:=xW hq
  obtain ⟨l1,l2,l3,l4,l5,l6,l7,l8⟩:=h1.log k wt ht hq
  obtain ⟨Q,hQ,hk2⟩:=H.uE j pi hj hk
  have:=hsame h1.live.1 hQ
  subst this
  refine ⟨R',hR',fun _ b hb hnb=>?_⟩
  rcases hk2 h1.live.2 b hb hnb with ⟨e,e1,e2⟩ | ⟨g1,g2,g3⟩
  ·refine .inl ⟨e,e1, .inr ?_⟩
   rw [l2]
   rcases e2 with h | h
   ·exact l4 e h
   ·exact l5 e h
  ·refine .inr ⟨g1,g2,fun q Q hQ hbq=>?_⟩
   obtain ⟨Q0,h2⟩:=Vx hQ
   rw [(CP.blk (α:=α) h2).1] at hbq
   exact g3 q Q0 h2.live hbq
 ·intro j p ts v hv
  obtain ⟨k,⟨wt,ht⟩,hq,hts⟩:=hP.ptr j p ts v hv
  obtain ⟨R,R',hR',h1⟩:=xW hq
  obtain ⟨l1,l2,l3,l4,l5,l6,l7,l8⟩:=h1.log k wt ht hq
  obtain ⟨f1,Q,hQ,f2⟩:=H.wo j p ts v hv
  have:=hsame h1.live.1 hQ
  subst this
  refine ⟨f1,R',hR',fun hno=>?_⟩
  rw [l3] at hno
  have XN:=f2 (fun t h1 h2=>hno t h1 (l7 t h2))
  refine ⟨f1,fun Q2 hQ2 _ _ hpt hg=>?_⟩
  have:=hsame hR' hQ2
  subst this
  have hw:=(CP.blk (α:=α) h1).2
  have hv1:=h1.valid
  have hr1:=h1.live.1
  obtain ⟨ow,tg,ew,eh,rfl,hown⟩:=h1.form
  obtain ⟨q1,q2⟩:=XN.2 Q hr1 hv1 (by
    unfold clean
    rw [aoc]
    intro t ht1
    have h3:t∈Q.h:=List.mem_of_mem_take ht1
    simp only [Bool.not_eq_true',aV]
    rw [l1, ←hts]
    exact fun h4=>hno t h4 (l6 t h3))
   (fun t ht=>by rw [←hown t (oQ p t ht)]; exact hpt t ht) hg
  exact ⟨q1,by rw [hw]; exact q2⟩
 ·intro j v hv
  obtain ⟨⟨k,wt,ht⟩,hq⟩:=hP.ref j v hv
  obtain ⟨R,R',hR',h1⟩:=xW hq
  obtain ⟨l1,l2,l3,l4,l5,l6,l7,l8⟩:=h1.log k wt ht hq
  obtain ⟨_,f2⟩:=H.wu j v hv
  refine ⟨⟨R',hR'⟩,fun Q2 hQ2 _=>?_⟩
  have:=hsame hR' hQ2.1
  subst this
  obtain ⟨q1,q2⟩:=f2 R h1.live l8
  obtain ⟨k1,k2,_⟩:=h1.kind
  exact ⟨k1.trans q1,by rw [k2]; exact q2⟩
structure afL (jf:Rn) (rs:List Nat) (s:PSt):Prop where
 slots:∀q∈s.ss,∀i∈q.2.idl,Bb rs i
 roots:∀q∈s.rs,q.1∈rs∧fJ q.1=false∧(∀i∈q.2.ids,Bb rs i∧i≠q.1)∧q.2.log=je q.1 jf
 keys:∀r∈rs,∃q∈s.rs,q.1=r
 jf:∀r q,je r jf=some q→r∈rs
theorem SE:∀{l:List (Nat×OT)} {c:Cont (VM l)},ctS σ rs l=some c→∀n,mkS l c n=.one .undef∨∃sh av d,(n,sh)∈l∧σ.slots n=.one av∧U8 σ rs sh av=some d∧mkS l c n=.one (mkA sh d)
 | [],_,_,_=>.inl rfl
 | (s,sh) :: l,c,h,n=>by
  simp only [ctS] at h
  split at h
  ·rename_i av hs
   split at h
   ·rename_i x y hx hy
    have h2:Cont.app sh.ks (VM l) x y=c:=aow h
    subst h2
    simp only [mkS]
    rw [Ej,EY]
    cases hb:Nat.beq n s with
    | true=>
     have:=an1 hb
     subst this
     exact .inr ⟨sh,av,x,by simp,hs,hx,rfl⟩
    | false=>
     rcases SE hy n with h | ⟨sh',av',d,g1,g2,g3,g4⟩
     ·exact .inl h
     ·exact .inr ⟨sh',av',d, .tail _ g1,g2,g3,g4⟩
   ·simp at h
  ·split at h
   ·split at h
    ·rename_i d hd
     have h2:d=c:=aow h
     subst h2
     simp only [mkS]
     cases hb:Nat.beq n s with
     | true=>exact .inl rfl
     | false=>
      rcases SE hd n with h | ⟨sh',av',d,g1,g2,g3,g4⟩
      ·exact .inl h
      ·exact .inr ⟨sh',av',d, .tail _ g1,g2,g3,g4⟩
    ·simp at h
   ·simp at h
theorem Y2 {a b:GH} (h:Y1 a b=true):a=b:=by
 cases a <;> cases b <;> simp_all [Y1]
theorem YJ:∀{l:List (Nat×Pg)} {c:Cont (Zv l)},ctR σ rs l=some c→∀n R',mkR l c n=some R'→∃sh R,(n,sh)∈l∧σ.roots n=some R∧bu σ R∧mQ (oL rs R.tags) sh.ids=true∧adD R sh.log=true∧
   (∀t∈R.k.tys,az t sh.own=az t R.own)∧R'={ R with own:=sh.own,tags:=sh.ids.map fun r=>(r,0),w:=[],h:=[],g:=0,ew:=ag0 sh.log,eh:=agZ sh.log }
 | [],_,_,_,_,h=>by simp [mkR] at h
 | (r,sh) :: l,c,h,n,R',hm=>by
  simp only [ctR] at h
  split at h
  ·rename_i R hR
   obtain ⟨hb,h⟩:=uy h
   split at h
   ·rename_i x y hx hy
    have h2:(x,y)=c:=aow h
    subst h2
    simp only [mkR] at hm
    cases hn:Nat.beq n r with
    | false=>
     rw [hn] at hm
     obtain ⟨sh',R2,g1,g2⟩:=YJ hy n R' hm
     exact ⟨sh',R2, .tail _ g1,g2⟩
    | true=>
     rw [hn] at hm
     have:=an1 hn
     subst this
     simp only [an3] at hb
     obtain ⟨⟨⟨⟨⟨⟨⟨b1,b2⟩,b3⟩,b4⟩,b5⟩,b6⟩,b7⟩,b8⟩:=hb
     obtain ⟨e,ex⟩:=bM hx
     refine ⟨sh,R,by simp,hR,⟨by simpa using b7,b1⟩,b2,b8,fun t ht=>?_, ?_⟩
     ·have:=aoc.1 b3 t (e▸ht)
      simp only [beq_iff_eq] at this
      exact this.symm
     ·have b4':=Y2 b4
      have b5':R.fixed=sh.fixed:=by simpa using b5
      have b6':R.keep=sh.keep:=by simpa using b6
      obtain ⟨k,ow,ids,kd,fx,kp,lg⟩:=sh
      simp only at e ex b4' b5' b6'
      obtain ⟨Rk,Rx,acG,WY,Rw,Rh,Rg,WX,ajP,WW,Rew,Reh⟩:=R
      simp only at e ex b4' b5' b6'
      subst e b4' b5' b6'
      simp only at ex
      subst ex
      simp only [cond_true,anX] at hm
      exact hm.symm
   ·simp at h
  ·simp at h
theorem Qu:∀{l:List (Nat×Pg)} (c:Cont (Zv l)) {r:Nat},(∃q∈l,q.1=r)→∃R',mkR l c r=some R'
 | [],_,_,h=>by obtain ⟨q,h,_⟩:=h; simp at h
 | (s,sh) :: l,c,r,h=>by
  simp only [mkR]
  cases hb:Nat.beq r s with
  | true=>exact ⟨_,rfl⟩
  | false=>
   refine Qu c.2 ?_
   obtain ⟨q,h1,h2⟩:=h
   rcases an9.1 h1 with h | h
   ·subst h; simp only at h2; subst h2; simp at hb
   ·exact ⟨q,h,h2⟩
theorem Pf.of {s:PSt} (hs:afL jf rs s) {c:s.V} (h:U9 rs s σ=some c):Pf σ jf rs (Ot s c):=by
 unfold U9 at h
 split at h
 ·rename_i x y hx hy
  have h2:Cont.app (VM s.ss) (Zv s.rs) x y=c:=aow h
  subst h2
  have e1:(Ot s (Cont.app (VM s.ss) (Zv s.rs) x y)).slots=mkS s.ss x:=by unfold Ot; rw [Ej]
  have e2:(Ot s (Cont.app (VM s.ss) (Zv s.rs) x y)).roots=mkR s.rs y:=by unfold Ot; rw [EY]
  refine ⟨fun r R' hr=>?_,fun r hr=>?_,fun n=>?_,hs.jf⟩
  ·rw [e2] at hr
   obtain ⟨sh,R,g1,g2,g3,g4,g5,g6,g7⟩:=YJ hy r R' hr
   obtain ⟨f1,f2,f3,f4⟩:=hs.roots _ g1
   refine ⟨f1,f2,R,⟨g2,g3.1⟩,g3,⟨_,_,_,_,g7,g6⟩, ?_, ?_, ?_⟩
   ·intro t ht hi
    rw [g7]
    obtain ⟨n,hn⟩:=aaQ g4 t ht hi
    obtain ⟨i,hi1,hi2⟩:=aox.1 hn
    simp only [an8] at hi2
    have h0:n=0:=hi2.2.symm
    subst h0
    exact hn
   ·intro t ht
    rw [g7] at ht
    obtain ⟨i,h1,rfl⟩:=aox.1 ht
    exact ⟨rfl,f3 i h1⟩
   ·intro k wt ht hq
    simp only at f4
    rw [f4,hq] at g5 g7
    simp only [adD,CE,an3,jM] at g5
    obtain ⟨p1,⟨⟨⟨p2,p3⟩,p4⟩,p5⟩,p6⟩:=g5
    subst g7
    exact ⟨K.eq_of_beq p1,rfl,rfl,p2,p3,p4,p5,an1 p6⟩
  ·rw [e2]
   exact Qu y (hs.keys r hr)
  ·rw [e1]
   rcases SE hx n with h | ⟨sh,av,d,g1,g2,g3,g4⟩
   ·exact .inl h
   ·exact .inr ⟨sh,av,d,g2,g3,g4,hs.slots _ g1⟩
 ·simp at h
theorem K8:∀{l:List (TypeId×Dat×List Tag)},∀i∈(K7 rs l).flatMap (fun c=>c.2.2),Bb rs i
 | [],i,h=>by simp [K7] at h
 | (t,d,tags) :: l,i,h=>by
  simp only [K7,List.flatMap_cons,an6] at h
  rcases h with h | h
  ·exact (vJ.1 h).2
  ·exact K8 i h
theorem PV {rs ex:List Nat}:∀i∈XB rs ex,Bb rs i:=by
 intro i hi
 unfold XB at hi
 rw [aoe,Bool.or_eq_true,aM] at hi
 exact hi.2
theorem aaO {ex:List Nat} {av:AV}:∀i∈(shA rs ex av).idl,Bb rs i:=by
 intro i hi
 cases av <;> simp only [shA,OT.idl,List.not_mem_nil] at hi
 ·rcases an6.1 hi with hi | hi
  ·exact (vJ.1 hi).2
  ·exact PV i hi
 ·exact (vJ.1 hi).2
 ·exact K8 i hi
theorem Ux {wd:List (Nat×List Nat)}:∀{l:List Nat},∀q∈shS wd rs σ l,∀i∈q.2.idl,Bb rs i
 | [],q,h,_,_=>by simp [shS] at h
 | s :: l,q,h,i,hi=>by
  simp only [shS,an9] at h
  rcases h with h | h
  ·subst h
   split at hi
   ·exact aaO i hi
   ·simp [OT.idl] at hi
  ·exact Ux q h i hi
theorem Y7 {wd:List (Nat×List Nat)}:∀{l:List Nat} {q:List (Nat×Pg)},shR wd jf rs σ l=some q→(∀z∈q,z.1∈l∧∃R,σ.roots z.1=some R∧z.2.ids=oL rs R.tags++(XB rs (vW (2 * z.1+1) wd)).filter (fun q=>!Nat.beq q z.1)∧z.2.log=je z.1 jf)∧∀r∈l,∃z∈q,z.1=r
 | [],q,h=>by simp [shR] at h; subst h; simp
 | r :: l,q,h=>by
  simp only [shR] at h
  split at h
  ·rename_i R q' hR hq
   obtain ⟨i1,i2⟩:=Y7 hq
   simp only [anX] at h
   subst h
   refine ⟨fun z hz=>?_,fun r' hr=>?_⟩
   ·rcases an9.1 hz with h | h
    ·subst h; exact ⟨by simp,R,hR,rfl,rfl⟩
    ·obtain ⟨f1,f2⟩:=i1 z h
     exact ⟨.tail _ f1,f2⟩
   ·rcases an9.1 hr with h | h
    ·exact ⟨_,aot,h.symm⟩
    ·obtain ⟨z,z1,z2⟩:=i2 r' h
     exact ⟨z, .tail _ z1,z2⟩
  ·simp at h
theorem GQ:∀{l:Rn} {r:Nat} {q},je r l=some q→∃p∈l,p.1=r
 | [],_,_,h=>by simp [je] at h
 | (s,p) :: l,r,q,h=>by
  simp only [je] at h
  cases hb:Nat.beq r s with
  | true=>exact ⟨_,aot,(an1 hb).symm⟩
  | false=>
   rw [hb] at h
   obtain ⟨p',h1,h2⟩:=GQ h
   exact ⟨p', .tail _ h1,h2⟩
theorem aaP {wd:List (Nat×List Nat)} (H:Rel cx σ α F a w) {ss:List Nat} {s:PSt} (h:adQ wd jf ss rs σ=some s):afL jf rs s:=by
 unfold adQ at h
 split at h
 ·rename_i q hq
  obtain ⟨hb,h⟩:=uy h
  simp only [anX] at h
  subst h
  obtain ⟨i1,i2⟩:=Y7 hq
  refine ⟨Ux,fun z hz=>?_,i2,fun r q hf=>?_⟩
  ·obtain ⟨f1,R,f2,f3,f4⟩:=i1 z hz
   obtain ⟨_,g2,g3⟩:=H.dz _ R f2
   refine ⟨f1,g2,fun i hi=>?_,f4⟩
   rw [f3] at hi
   rcases an6.1 hi with hi | hi
   ·obtain ⟨⟨n,hn⟩,h2⟩:=vJ.1 hi
    exact ⟨h2,fun e=>g3 n (e▸hn)⟩
   ·rw [aoe] at hi
    refine ⟨PV i hi.1,fun e=>?_⟩
    subst e
    have:=hi.2
    simp at this
  ·obtain ⟨p,p1,p2⟩:=GQ hf
   have:=aoc.1 hb p p1
   rw [←p2]
   exact aM.1 this
 ·simp at h
end
end
section
open Go
variable [Fr]
def exC:Exit→Option Ex
 | .normal=>some .normal
 | .exit i=>some (.exit i)
 | .ret=>some .ret
 | _=>none
section
variable {P:Program} {T:iV} {hi:Hint} {n:Nat} {cx:Cx} {σ:St} {α:dL} {F:List Nat} {a:Act} {w:World} {R:Type} {r:R} {ag:Option R→Option R→Option R}
def QK (cx:Cx) (K:Ex→St→Option R) (r:R) (e:Exit) (a:Act) (w:World):Prop:=∃x σ α F,exC e=some x∧K x σ=some r∧Rel cx σ α F a w
theorem least {p:Nat→Prop} (h:∃n,p n):∃m,p m∧∀k,p k→m≤k:=by
 obtain ⟨n,hn⟩:=h
 induction n using Nat.strongRecOn with
 | _ n ih=>
  by_cases hk:∃k,k<n∧p k
  ·obtain ⟨k,h1,h2⟩:=hk
   exact ih k h1 h2
  ·exact ⟨n,hn,fun k h=>Nat.le_of_not_lt fun hlt=>hk ⟨k,hlt,h⟩⟩
theorem acO (hag:∀{a b z},ag a b=some z→a=some z∧b=some z) (hm:P.follows .mixedOrders=true) (hT:eF P T) (hSt:LA P T) (hC:uZ P n hi) (hnt:hi.nt=cx.nt) (hP:Ro cx hi.jf) :
  ∀(code:Code) (b:Nat) {σ:St} {α:dL} {F:List Nat} {a:Act} {w:World} {K:Ex→St→Option R},den T hi n ag b code σ K=some r→Rel cx σ α F a w→code.wp P (QK cx K r) a w:=by
 intro code
 induction code with
 | skip=>intro b σ α F a w K h H; exact wp_skip ⟨_,_,_,_,rfl,h,H⟩
 | exit id=>intro b σ α F a w K h H; exact wp_exit ⟨_,_,_,_,rfl,h,H⟩
 | ret=>intro b σ α F a w K h H; exact wp_ret ⟨_,_,_,_,rfl,h,H⟩
 | seq x y ihx ihy=>
  intro b σ α F a w K h H
  refine wp_seq (wp_mono (ihx b h H) ?_)
  rintro e a' w' ⟨ex,σ',α',F',h1,h2,h3⟩
  cases e <;> simp only [exC,anX,reduceCtorEq] at h1
  ·subst h1; exact ihy b h2 h3
  ·subst h1; exact ⟨_,_,_,_,rfl,h2,h3⟩
  ·subst h1; exact ⟨_,_,_,_,rfl,h2,h3⟩
 | cond c x y ihx ihy=>
  intro b σ α F a w K h H
  simp only [den] at h
  obtain ⟨v0,h1,h2⟩:=wN _ h
  obtain ⟨v,g1,g2,g3⟩:=bR H h1
  have ev:v0=v:=g3
  subst ev
  have hplain:((asBool v0 .ret).run σ fun t=>if t=true then den T hi n ag b x σ K else den T hi n ag b y σ K)=some r→Code.wp P (.cond c x y) (QK cx K r) a w:=by
   intro h2
   obtain ⟨t,h3,h4⟩:=wN _ h2
   obtain ⟨b',e1,e2⟩:=Jq g1 h3
   have e2':t=b':=e2
   subst e2'
   refine wp_cond (t:=t) e1 ?_
   cases t with
   | true=>exact ihx b h4 H
   | false=>exact ihy b h4 H
  cases v0 with
  | Av e=>
   simp only at h2
   obtain ⟨b',e1,e2⟩:=g1
   refine wp_cond (t:=b') e1 ?_
   cases b' with
   | true=>
    rw [if_pos (e2 rfl)] at h2
    exact ihx b (hag h2).1 H
   | false=>
    split at h2
    ·exact ihy b (hag h2).2 H
    ·exact ihy b h2 H
  | _=>exact hplain h2
 | block id x ih=>
  intro b σ α F a w K h H
  simp only [den] at h
  refine wp_block (wp_mono (ih id h H) ?_)
  rintro e a' w' ⟨ex,σ',α',F',h1,h2,h3⟩
  cases e <;> simp only [exC,anX,reduceCtorEq] at h1
  ·subst h1; exact ⟨_,_,_,_,rfl,h2,h3⟩
  ·rename_i i
   subst h1
   simp only at h2
   unfold Exit.inBlock
   simp only
   cases hb:Nat.beq i id with
   | true=>
    rw [hb] at h2
    rw [if_pos (an1 hb)]
    exact ⟨_,_,_,_,rfl,h2,h3⟩
   | false=>
    rw [hb] at h2
    rw [if_neg (Nat.ne_of_beq_eq_false hb)]
    exact ⟨_,_,_,_,rfl,h2,h3⟩
  ·subst h1; exact ⟨_,_,_,_,rfl,h2,h3⟩
 | loop x ih=>
  intro b σ α F a w K h H
  simp only [den] at h
  split at h
  ·rename_i ss rs hf
   split at h
   ·rename_i s hs
    obtain ⟨αl,Hl⟩:=Oj hi rs H
    have hok:=aaP Hl hs
    split at h
    ·rename_i c hc
     have H0:=YZ Hl hP (Pf.of hok hc)
     generalize hB:(fun (L:s.V→Option R) v=>den T hi n ag b x (Ot s v) fun
      | .normal,σ'=>match U9 rs s (Db hi rs σ') with
       | some v'=>L v'
       | none=>none
      | e,σ'=>K e σ')=B at h
     have hBi:∀(L:s.V→Option R) v,B L v=den T hi n ag b x (Ot s v) fun
      | .normal,σ'=>match U9 rs s (Db hi rs σ') with
       | some v'=>L v'
       | none=>none
      | e,σ'=>K e σ':=fun L v=>by rw [←hB]
     let I:Nat→Act→World→Prop:=fun m a w=>∃v α F,rounds B m v=some r∧Rel cx (Ot s v) α F a w
     have hex:∀{m:Nat} {a:Act} {w:World},I m a w→∃m,I m a w:=fun h=>⟨_,h⟩
     classical
     refine wp_loop (fun a w=>∃m,I m a w) (fun a w=>if h:∃m,I m a w then Classical.choose (least h) else 0) ⟨_,_,_,_,h,H0⟩ ?_
     intro a w hI
     rw [dif_pos hI]
     have hI2:=(Classical.choose_spec (least hI)).1
     generalize Classical.choose (least hI)=m at hI2
     obtain ⟨v,α,F,h1,h2⟩:=hI2
     cases m with
     | zero=>simp [rounds] at h1
     | succ m=>
      have h1':B (rounds B m) v=some r:=h1
      rw [hBi] at h1'
      refine wp_mono (ih b h1' h2) ?_
      rintro e a' w' ⟨ex,σ',α',F',g1,g2,g3⟩
      cases e <;> simp only [exC,anX,reduceCtorEq] at g1
      ·subst g1
       simp only at g2
       split at g2
       ·rename_i v' hv'
        obtain ⟨αm,Hm⟩:=Oj hi rs g3
        have hI':I m a' w':=⟨v',_,_,g2,YZ Hm hP (Pf.of hok hv')⟩
        refine ⟨⟨m,hI'⟩, ?_⟩
        rw [dif_pos ⟨m,hI'⟩]
        exact Nat.lt_succ_of_le ((Classical.choose_spec (least ⟨m,hI'⟩)).2 m hI')
       ·simp at g2
      ·subst g1; exact ⟨_,_,_,_,rfl,g2,g3⟩
      ·subst g1; exact ⟨_,_,_,_,rfl,g2,g3⟩
    ·simp at h
   ·simp at h
  ·simp at h
 | region id ops draw=>
  intro b σ α F a w K h H
  simp only [den] at h
  cases draw with
  | true=>
   have H':Rel cx σ α F a { w with drawn:=w.drawn+1 }:=H.drawn (w.drawn+1)
   exact wp_region_any hm (XC hT hSt hC hnt (fun σ' α' F' a' w' h1 h2=>⟨_,_,_,_,rfl,h1,h2⟩) h H')
  | false=>
   refine wp_region ?_
   have:=Sb (P:=P) (Q:=QK cx K r) hT hSt hC hnt (fun σ' α' F' a' w' h1 h2=>⟨_,_,_,_,rfl,h1,h2⟩) ops.toList 0 (by simp) h H
   rw [Array.length_toList, ←List.range_eq_range'] at this
   exact this
 | _=>intro b σ α F a w K h; simp [den] at h
end
end
section
open Go
variable [Fr]
def We (a:Act):ResultVar→Sem Value
 | .tmp t=>pure (a.tmps.getD t undef)
 | .cell x t=>do loadVar t (←asAddr (a.tmps.getD x undef))
section
variable {P:Program} {T:iV} {cx:Cx} {σ:St} {α:dL} {F:List Nat} {a:Act} {w:World} {A:Type} {z:A}
theorem VT (hT:eF P T) (H:Rel cx σ α F a w) {t:TypeId} {x:AV} {v:Value} {sV:Bool} {k:AV→Prog A} (h1:bI cx σ α F w x v) (h2:rR σ x) (h:(Eu T sV t x k).ends σ z) :
  ∃y u,(do loadVar t (←asAddr v):Sem Value).run P w=.ok u w∧bI cx σ α F w y u∧rR σ y∧(k y).ends σ z:=by
 have Qi:∀{b o:Nat} {u:Value},(Instr.loadAt t (.pointer (some ⟨b,o,none⟩))).run P w=.ok u w→v=.pointer (some ⟨b,o,none⟩)→(do loadVar t (←asAddr v):Sem Value).run P w=.ok u w:=by
  intro b o u h e
  subst e
  exact h
 unfold Eu at h
 split at h
 ·exact h.elim
 ·rename_i kk hty
  have ht:=hT.ty t kk hty
  obtain ⟨s1,s2,s3⟩:=ht.shape
  split at h
  ·rename_i r g k0 p
   obtain ⟨u,b,off,k1,e,hq,hC,ho1,hR⟩:=h1
   obtain ⟨R,hr,hv,h⟩:=cB h
   rcases aA h with ⟨hc,h⟩ | ⟨_,h⟩
   ·simp only [an3] at hc
    cases hg:aS p R.k R.x with
    | none=>rw [hg] at h; exact h.elim
    | some dd=>
     rw [hg] at h
     simp only at h
     obtain ⟨dk,dx⟩:=dd
     rcases beq_true h with ⟨ek,h5⟩ | ⟨_,h⟩
     ·simp only at ek
      subst ek
      have hk0:=K.eq_of_beq hc.1.2
      subst hk0
      obtain ⟨hka,En⟩:=hR R hr (an1 hc.1.1)
      rw [En.cells] at hC
      have hwn:dU α R r=none:=by unfold dU; rw [hka]
      obtain ⟨g1,g2,g3,g4,g5⟩:=J5 (h:=hp w) p hg ho1 (H.roots r R hr).len
      simp only at g1
      subst g1
      have hown:∀t∈ah p R.k,az t R.own=true:=fun t ht=>by rw [g5] at ht; simp at ht
      have hn:bG (hp w) p R.k (α.hdr r) (dU α R r)=some (((α.hdr r).drop off).take k1.size,none):=by rw [hwn]; exact g3
      obtain ⟨fP,hO,hf⟩:=vE H hr hv hg g4 hown hn
      have hV:=oN H hr hO hf
      have hcs:Cells (hp w) b off (((α.hdr r).drop off).take k1.size):=by
       intro i hi
       have hi':i<k1.size:=by rw [Ce g2] at hi; exact hi
       have:=hC (off+i) (by omega)
       rw [Nat.zero_add] at this
       rw [this,List.getElem?_take_of_lt hi',List.getElem?_drop]
      obtain ⟨u',hu⟩:=VC.mk s1 s2 s3 hV
      have hrun:=tJ (P:=P) ht hcs (lN hV) hu
      rcases aA h5 with ⟨hf,h6⟩ | ⟨_,h6⟩
      ·exact ⟨.val k1 dx [],u',Qi hrun e,fun _=>⟨_,hu,iy hf hV⟩,(fun t ht=>by simp at ht),h6⟩
      ·exact ⟨.sV r p R.wR,u',Qi hrun e,AY (cx:=cx) (F:=F) hr hg g4 hown hn hu,⟨R,hr.1, .inr (aod _)⟩,h6⟩
     ·exact h.elim
   ·exact h.elim
  rcases zi H h1 h2 h with ⟨r,R,p,dd,cs,b,q,hr,hv,hg,fT,hown,hn,e,h⟩ | ⟨bt,dd,Tg,b,q,cs,hw,e,hcs,hV,hok,hb,h⟩
  ·obtain ⟨hC,⟨fP,hO,hf⟩,_⟩:=qd H hr hv hg fT hown hn
   obtain ⟨dk,dx⟩:=dd
   rcases beq_true h with ⟨ek,h5⟩ | ⟨_,h⟩
   ·simp only at ek
    subst ek
    clear h
    have h:=h5
    clear h5
    have hV:=oN H hr hO hf
    obtain ⟨u,hu⟩:=VC.mk s1 s2 s3 hV
    have hrun:=tJ (P:=P) ht hC (lN hV) hu
    rcases aA h with ⟨_,h⟩ | ⟨_,h⟩
    ·exact ⟨.sV r p R.wR,u,Qi hrun e,AY (cx:=cx) (F:=F) hr hg fT hown hn hu,⟨R,hr.1, .inr (aod _)⟩,h⟩
    ·exact ⟨_,u,Qi hrun e,(show bI cx σ α F w (.val dk dx _) u from fun _=>⟨cs,hu,hV⟩),MZ H hr _,h⟩
   ·exact h.elim
  ·obtain ⟨dk,dx⟩:=dd
   rcases beq_true h with ⟨ek,h5⟩ | ⟨_,h⟩
   ·simp only at ek
    subst ek
    clear h
    have h:=h5
    clear h5
    obtain ⟨u,hu⟩:=VC.mk s1 s2 s3 hV
    have hrun:=tJ (P:=P) ht hcs (lN hV) hu
    refine ⟨_,u,Qi hrun e,(show bI cx σ α F w (.val dk dx _) u from fun _=>⟨cs,hu, ?_⟩), ?_,h⟩
    ·cases hf:dk.flat with
     | true=>exact iy hf hV
     | false=>exact hV
    ·cases hf:dk.flat with
     | true=>intro t ht; simp at ht
     | false=>exact hw
   ·exact h.elim
theorem EL (hT:eF P T) (H:Rel cx σ α F a w) {own:Bool} {rv:ResultVar} {k:AV→Prog A} (h:(SQ T own rv k).ends σ z):∃y u,(We a rv).run P w=.ok u w∧bI cx σ α F w y u∧rR σ y∧(k y).ends σ z:=by
 cases rv with
 | tmp t=>
  obtain ⟨v,h1,h2,h3⟩:=bR H h
  exact ⟨v,_,rfl,h1,h2,h3⟩
 | cell t ty=>
  obtain ⟨v,h1,h2,h3⟩:=bR H h
  exact VT hT H h1 h2 h3
def Re (P:Program) (cx:Cx) (σ:St) (α:dL) (F:List Nat) (a:Act) (w:World):(rs:List kJ)→List ResultVar→Cont (gZ rs)→List Value→List (Value×iD)→List (List Tag)→Prop
 | [],[],_,[],[],[]=>True
 | .val k exts iA :: rs,rv :: xJ,c,v :: vs,its,tg :: Dx=>((We a rv).run P w=.ok v w∧(k.flat=true∨qD exts iA tg=true)∧ZW cx σ α F a w k c.1 tg v)∧Re P cx σ α F a w rs xJ c.2 vs its Dx
 | .own k ow exts iA :: rs,rv :: xJ,c,v :: vs,it :: its,Dx=>((We a rv).run P w=.ok v w∧it.1=v∧xm cx σ α F w v it.2∧(∃e:it.2.k=k,c.1=e▸it.2.x)∧mQ (k.tys.filter fun t=>az t ow) it.2.own=true∧
   ((k.tys.all fun t=>az t ow)=true∨qD exts iA it.2.tags=true))∧Re P cx σ α F a w rs xJ c.2 vs its Dx
 | _,_,_,_,_,_=>False
theorem XE (hT:eF P T) (H:Rel cx σ α F a w):∀{rs:List kJ} {xJ:List ResultVar} {k:Cont (gZ rs)→List iD→List (List Tag)→Prog A},(PY T rs xJ k).ends σ z→
  ∃c vs its Dx,Re P cx σ α F a w rs xJ c vs its Dx∧(k c (its.map (·.2)) Dx).ends σ z:=by
 intro rs
 induction rs with
 | nil=>
  intro xJ k h
  cases xJ with
  | nil=>exact ⟨(),[],[],[],trivial,h⟩
  | cons _ _=>exact h.elim
 | cons r rs ih=>
  intro xJ k h
  cases xJ with
  | nil=>cases r <;> exact h.elim
  | cons rv xJ=>
   cases r with
   | into _ _=>exact h.elim
   | ptr _ _ _ _=>exact h.elim
   | val kk exts iA=>
    simp only [PY] at h
    obtain ⟨y,u,g1,g2,g3,h⟩:=EL hT H h
    have hgo:∀(x:El kk) (tags:List Tag),ZW cx σ α F a w kk x tags u→(bif kk.flat || qD exts iA tags then PY T rs xJ fun c ts tg=>k (x,c) ts (tags :: tg) else .fail).ends σ z→
      ∃c vs its Dx,Re P cx σ α F a w (.val kk exts iA :: rs) (rv :: xJ) c vs its Dx∧(k c (its.map (·.2)) Dx).ends σ z:=by
     intro x tags hv h
     rcases aA h with ⟨hb,h⟩ | ⟨_,h⟩
     ·obtain ⟨c,vs,its,Dx,f1,f2⟩:=ih h
      exact ⟨(x,c),u :: vs,its,tags :: Dx,⟨⟨g1,by simpa using hb,hv⟩,f1⟩,f2⟩
     ·exact h.elim
    have hval:(uX y fun k' x tags=>match bP k' kk x with
      | some y=>(bif kk.flat || qD exts iA (bif kk.flat then [] else tags) then PY T rs xJ fun c ts tg=>k (y,c) ts ((bif kk.flat then [] else tags) :: tg) else .fail)
      | none=>.fail).ends σ z→∃c vs its Dx,Re P cx σ α F a w (.val kk exts iA :: rs) (rv :: xJ) c vs its Dx∧(k c (its.map (·.2)) Dx).ends σ z:=by
     intro h
     obtain ⟨k',x,Tg,f1,f5⟩:=Jr H g2 g3 h
     cases hc:bP k' kk x with
     | none=>rw [hc] at f5; exact f5.elim
     | some y'=>
      rw [hc] at f5
      obtain ⟨ek,ey⟩:=bM hc
      subst ek
      simp only at ey
      subst ey
      cases hf:k'.flat with
      | true=>
       rw [hf] at f5
       exact hgo _ _ (f1.flat hf H) (by rw [hf]; exact f5)
      | false=>
       rw [hf] at f5
       exact hgo _ _ f1 (by rw [hf]; exact f5)
    cases y with
    | iP=>
     cases kk with
     | sl e kk=>
      obtain ⟨b,rfl⟩:=g2
      exact hgo [] [] ⟨[.slice b 0 0],BH,fun _ _ _ _=>⟨b,0,0,rfl,rfl,aod _,fun h=>by omega⟩⟩ h
     | _=>exact h.elim
    | undef=>exact hval h
    | val _ _ _=>exact hval h
    | ref _ _=>exact hval h
    | sV _ _ _=>exact hval h
    | ptr _ _ _=>exact hval h
    | jg _ _ _ _=>exact hval h
    | JK _ _ _ _=>exact hval h
    | Av _=>exact hval h
    | part _ _ _ _ _=>exact hval h
    | xY _ _ _ _=>exact hval h
    | app _ _ _ _=>exact hval h
    | su=>exact hval h
    | fn _ _=>exact hval h
   | own kk ow exts iA=>
    simp only [PY] at h
    obtain ⟨y,u,g1,g2,g3,h⟩:=EL hT H h
    obtain ⟨tk,htk,h⟩:=qO H g2 g3 h
    cases hc:bP tk.k kk tk.x with
    | none=>rw [hc] at h; exact h.elim
    | some y'=>
     rw [hc] at h
     rcases aA h with ⟨hb,h⟩ | ⟨_,h⟩
     ·simp only [an3,Bool.or_eq_true] at hb
      obtain ⟨c,vs,its,Dx,f1,f2⟩:=ih h
      exact ⟨(y',c),u :: vs,(u,tk) :: its,Dx,⟨⟨g1,rfl,htk,bM hc,hb.1,hb.2⟩,f1⟩,f2⟩
     ·exact h.elim
theorem Vk {σ1:St} {dK:dL} {F1:List Nat} (H1:Rel cx σ1 dK F1 a w) (hV:Views cx σ α F w σ1 dK F1 w):∀{rs:List kJ} {xJ:List ResultVar} {c:Cont (gZ rs)} {vs:List Value} {its:List (Value×iD)} {Dx:List (List Tag)} {hs:List (List Value×List Nat)},
  Re P cx σ α F a w rs xJ c vs its Dx→rG cx σ1 dK F1 w its hs→(∀t∈Dx.flatten,Same σ α σ1 dK t.1)→
  ∃bD,Jg cx σ1 dK F1 w rs c vs bD∧bD.flatten=hs.flatMap (·.2)∧(∀b∈bD.flatten,b∈F1)∧(xJ.mapM (We a)).run P w=.ok vs w:=by
 intro rs
 induction rs with
 | nil=>
  intro xJ c vs its Dx hs h hh _
  cases xJ <;> cases vs <;> cases its <;> cases Dx <;> first | exact h.elim | skip
  cases hs with
  | nil=>exact ⟨[],trivial,rfl,by simp,by simp⟩
  | cons _ _=>exact hh.elim
 | cons r rs ih=>
  intro xJ c vs its Dx hs h hh hS
  cases r with
  | into _ _=>cases xJ <;> cases vs <;> exact h.elim
  | ptr _ _ _ _=>cases xJ <;> cases vs <;> exact h.elim
  | val kk exts iA=>
   cases xJ <;> cases vs <;> cases Dx <;> first | exact h.elim | skip
   rename_i rv xJ v vs tg Dx
   obtain ⟨⟨h1,h2,cs,h3,h4⟩,h5⟩:=h
   obtain ⟨bD,f1,f2,f3,f4⟩:=ih h5 hh (fun t ht=>hS t (by simp only [List.flatten_cons,an6]; exact .inr ht))
   refine ⟨[] :: bD,⟨⟨rfl,tg,cs,h2,h3,h4 σ1 dK F1 ⟨H1,hV,fun t ht=>hS t (by simp only [List.flatten_cons,an6]; exact .inl ht)⟩⟩,f1⟩,by simpa using f2,by simpa using f3, ?_⟩
   simp [List.mapM_cons,h1,f4,Result.andThen]
  | own kk ow exts iA=>
   cases xJ <;> cases vs <;> cases its <;> first | exact h.elim | skip
   rename_i rv xJ v vs it its
   obtain ⟨⟨h1,h2,h3,⟨e,ex⟩,h4,h5⟩,h6⟩:=h
   cases hs with
   | nil=>exact hh.elim
   | cons q hs=>
    obtain ⟨⟨q1,q2,q3⟩,hh⟩:=hh
    obtain ⟨bD,f1,f2,f3,f4⟩:=ih h6 hh hS
    refine ⟨q.2 :: bD,⟨⟨it.2.tags,q.1,it.2.own,h5, ?_, ?_, ?_⟩,f1⟩,by simp [f2], ?_, ?_⟩
    ·intro t ht hm
     exact aM.2 (jM.1 h4 t (aoe.2 ⟨ht,hm⟩))
    ·rw [←h2]; subst e; exact q1
    ·subst e
     rw [ex]
     exact q2.ow q3
    ·intro b hb
     rw [List.flatten_cons] at hb
     rcases an6.1 hb with h | h
     ·exact q2.sub b h
     ·exact f3 b h
    ·simp [List.mapM_cons,h1,f4,Result.andThen]
end
end
section
open Go
variable [Fr]
section
variable {P:Program} {T:iV} {hi:Hint} {n:Nat} {cx:Cx} {σ:St} {α:dL} {F:List Nat} {a:Act} {w:World}
theorem GN {i:Nat} {R:Root} (h:IL σ i=some R):σ.roots (ay i)=some R∧bu σ R:=by
 unfold IL at h
 split at h
 ·rename_i Q hQ
  cases hb:Q.aX || !bq σ Q.Co Q.tags with
  | true=>rw [hb] at h; simp at h
  | false=>
   rw [hb] at h
   simp only [cond_false,anX] at h
   subst h
   simp only [Bool.or_eq_false_iff,Bool.not_eq_false'] at hb
   exact ⟨hQ,hb⟩
 ·simp at h
theorem FY:∀{ps:List dF} {i:Nat} {d:Cont (jL ps)},lT σ ps i=some d→DZ σ ps i d:=by
 intro ps
 induction ps with
 | nil=>intro i d _; trivial
 | cons p ps ih=>
  intro i d h
  cases p with
  | val k iA=>exact ih (show lT σ ps (i+1)=some d from h)
  | ro k=>exact ih (show lT σ ps (i+1)=some d from h)
  | own k ow=>exact ih (show lT σ ps (i+1)=some d from h)
  | fn f ks=>exact ih (show lT σ ps (i+1)=some d from h)
  | into j q=>exact ih (show lT σ ps (i+1)=some d from h)
  | rw k ow wt ht=>
   simp only [lT] at h
   split at h
   ·rename_i R d' hR hd
    obtain ⟨hb,h⟩:=uy h
    simp only [an3,Bool.or_eq_true] at hb
    obtain ⟨⟨b1,b2⟩,b3⟩:=hb
    obtain ⟨r1,r2⟩:=GN hR
    split at h
    ·rename_i x hx
     have h2:(x,d')=d:=aow h
     subst h2
     exact ⟨⟨R,r1,r2,bM hx,b1,b2,b3⟩,ih hd⟩
    ·simp at h
   ·simp at h
  | jC k ow wt=>
   simp only [lT] at h
   split at h
   ·rename_i R d' hR hd
    obtain ⟨hb,h⟩:=uy h
    simp only [an3,Bool.or_eq_true] at hb
    obtain ⟨⟨b1,b2⟩,b3⟩:=hb
    obtain ⟨r1,r2⟩:=GN hR
    split at h
    ·rename_i x hx
     have h2:(x,d')=d:=aow h
     subst h2
     exact ⟨⟨R,r1,r2,bM hx,b1,b2,b3⟩,ih hd⟩
    ·simp at h
   ·simp at h
theorem BC {fn:Func} {vs:List Value} (h:(fn.results.toList.mapM (We a)).run P w=.ok vs w):(results fn a.tmps).run P w=.ok (Zh vs) w:=by
 have h2:results fn a.tmps=(do
   let vs ←fn.results.mapM (We a)
   pure (if h:vs.size=1 then vs[0] else .tuple vs)):=by
  unfold results
  congr 1
 rw [h2,Array.mapM_eq_mapM_toList]
 simp only [aom,map_eq_pure_bind,h,aof,aor]
 match vs with
 | []=>rfl
 | [v]=>rfl
 | v :: u :: vs=>simp [Zh]
theorem acR (hT:eF P T) (H:Rel cx σ α F a w) {ps:List dF} {rs:List kJ} {fn:Func} {out:Cont (gZ rs++jL ps)} (h:fin T ps rs fn.results.toList σ=some out) :
  ∃v,(results fn a.tmps).run P w=.ok v w∧Post cx ps rs out v w:=by
 unfold fin at h
 obtain ⟨q,h1,h2⟩:=wN _ h
 obtain ⟨c,vs,its,Dx,f1,f2⟩:=XE (P:=P) hT H h1
 rcases aA f2 with ⟨hb,f2⟩ | ⟨_,f2⟩
 ·have f2:q=_:=f2
  subst f2
  have e1:(its.map (·.2)).flatMap (·.ws)=uJ its:=by simp [uJ,List.flatMap_map]
  have e2:(its.map (·.2)).flatMap (·.tags)=qP its:=by simp [qP,List.flatMap_map]
  rw [e1,e2] at hb
  simp only [e1] at h2
  unfold E9 AU at hb
  simp only [an3,vT,aoc,Bool.not_eq_true',aV] at hb
  obtain ⟨b1,b2⟩:=hb
  have TS:∀{rs:List kJ} {xJ:List ResultVar} {c:Cont (gZ rs)} {vs:List Value} {its:List (Value×iD)} {Dx:List (List Tag)},Re P cx σ α F a w rs xJ c vs its Dx→∀it∈its,xm cx σ α F w it.1 it.2:=by
   intro rs
   induction rs with
   | nil=>intro xJ c vs its Dx h it hi; cases xJ <;> cases vs <;> cases its <;> first | exact h.elim | simp at hi
   | cons r rs ih=>
    intro xJ c vs its Dx h it hi
    cases r with
    | into _ _=>cases xJ <;> cases vs <;> exact h.elim
    | ptr _ _ _ _=>cases xJ <;> cases vs <;> exact h.elim
    | val kk exts iA=>
     cases xJ <;> cases vs <;> cases Dx <;> first | exact h.elim | exact ih h.2 it hi
    | own kk ow exts iA=>
     cases xJ <;> cases vs <;> cases its <;> first | exact h.elim | skip
     rcases an9.1 hi with h3 | h3
     ·subst h3; rw [h.1.2.1]; exact h.1.2.2.1
     ·exact ih h.2 it h3
  obtain ⟨dK,F1,hs,H1,g1,g2,g3,g4,g5,g6,g7,g8,g9⟩:=takes its H (TS f1) b1 (fun t ht=>b2 t (an2 _ ht))
  obtain ⟨bD,k1,k2,k3,k4⟩:=Vk H1 g7 f1 g1 (fun t ht=>g5 t.1 (b2 t (anZ _ ht)))
  split at h2
  ·rename_i d hd
   simp only [anX] at h2
   subst h2
   refine ⟨Zh vs,BC k4,_,dK,F1,a,vs,bD,H1,rfl,by rw [Ej]; exact k1,by rw [k2]; exact g2,k3,by rw [EY]; exact FY hd⟩
  ·simp at h2
 ·exact f2.elim
theorem YV {A:Type} {z:A} {t:TypeId} {kk:K} {ow:List TypeId} {exts:List Nat} {x:AV} {v:Value} {k:El kk→Nat→Prog A} (hx:bI cx σ α F w x v) (h:(aaI t kk ow exts x k).ends σ z) :
  ∃r R y b o,aP σ r R∧bu σ R∧R.kind=.var t∧mQ (kk.tys.filter fun t=>az t ow) R.own=true∧((kk.tys.all fun t=>az t ow)=true∨qD exts [] R.tags=true)∧(∃e:R.k=kk,y=e▸R.x)∧dU α R r=some (b,o)∧v=.pointer (some ⟨b,o,none⟩)∧(k y r).ends σ z:=by
 cases x with
 | ptr r p n=>
  cases p with
  | cons s p=>exact h.elim
  | nil=>
   unfold aaI at h
   obtain ⟨R,hr,hv,h⟩:=cB h
   rcases aA h with ⟨hb,h⟩ | ⟨_,h⟩
   ·simp only [an3,Bool.or_eq_true] at hb
    obtain ⟨⟨b1,b2⟩,b3⟩:=hb
    have hk:R.kind=.var t:=by
     unfold Root.Yn at b1
     split at b1
     ·rename_i u hu; rw [hu,an1 b1]
     ·simp at b1
    cases hc:bP R.k kk R.x with
    | none=>rw [hc] at h; exact h.elim
    | some y=>
     rw [hc] at h
     obtain ⟨_,cs,b,o,hn,e⟩:=hx.2 R hr.1 hv (by unfold dY clean; simp [az]) (fun t ht=>by simp [ah] at ht) rfl
     simp only [bG,anX,an8] at hn
     exact ⟨r,R,y,b,o,hr,hv,hk,b2,b3,bM hc,hn.2,e,h⟩
   ·exact h.elim
 | _=>exact h.elim
theorem Xt (H:Rel cx σ α F a w) {j:Nat} {x:AV} {v:Value} {m:Int} (hx:bI cx σ α F w x v) (h:(cutV j x fun m=>(.ret m:Prog Int)).ends σ m) :
  ∃b n cp,v=.slice b m.toNat cp∧m.toNat≤n∧bI cx σ α F w (.ref (ay j) 0) (.slice b n cp):=by
 cases x with
 | ref r g=>
  simp only [cutV] at h
  rcases aA h with ⟨hc,h5⟩ | ⟨_,h5⟩
  ·clear h
   simp only [an3] at hc
   have e1:=an1 hc.1
   have e2:=an1 hc.2
   subst e1 e2
   obtain ⟨R,hr,hv,h⟩:=cB h5
   rcases aA h with ⟨hg,h⟩ | ⟨_,h⟩
   ·obtain ⟨h1,h2⟩:=hx R hr (an1 hg)
    have hO:=(H.roots _ R hr).ow hv
    have hK:∀q:Dat,(⟨R.k,R.x⟩:Dat)=q→(match q.1,q.2 with
      | .sl _ kk,xs=>(.ret ((show List (El kk) from xs).length:Int):Prog Int)
      | _,_=>.fail).ends σ m→∃b n cp,v=.slice b m.toNat cp∧m.toNat≤n∧bI cx σ α F w (.ref (ay j) 0) (.slice b n cp):=by
     intro q hq hh
     obtain ⟨qk,qx⟩:=q
     cases qk with
     | sl e kk=>
      have hm:m=((show List (El kk) from qx).length:Int):=hh
      have hV:=kW (fun _=>True) (fun _ _=>trivial) (fun _ _=>trivial) hO
      have hV:=cast (congrArg (fun q:Dat=>Vw (hp w) (fun _=>True) q.1 q.2 (α.hdr (ay j))) hq) hV
      have FZ:=cast (congrArg (fun q:Dat=>VC q.1 v (α.hdr (ay j))) hq) h2
      obtain ⟨b,n,c,g1,g2,g3,_⟩:=hV
      have FZ:VC (.sl e kk) v (α.hdr (ay j)):=FZ
      have g1:α.hdr (ay j)=[.slice b n c]:=g1
      have h3:=FZ.1
      rw [g1] at h3
      simp only [List.cons.injEq,and_true] at h3
      have g2:n=(show List (El kk) from qx).length:=g2
      refine ⟨b,n,c,by rw [hm, ←g2]; simpa using h3.symm,by rw [hm, ←g2]; simp,by rw [h3]; exact hx⟩
     | _=>exact hh.elim
    exact hK _ rfl h
   ·exact h.elim
  ·exact h5.elim
 | part r g lo hi sz=>
  simp only [cutV] at h
  rcases aA h with ⟨hc,h5⟩ | ⟨_,h5⟩
  ·clear h
   simp only [an3] at hc
   have e1:=an1 hc.1.1
   have e2:=an1 hc.1.2
   have e3:=an1 hc.2
   subst e1 e2 e3
   have hm:m=(hi:Int):=h5
   obtain ⟨b',b,n,c,g1,g2,g3,g4,g5,g6⟩:=hx
   have hb:b'=b:=by rw [g2 (.inl rfl)]; simp [add_zero]
   subst hb
   exact ⟨b',n,c,by rw [g1,hm]; simp,by rw [hm]; simpa using g4,g6⟩
  ·exact h5.elim
 | _=>exact h.elim
theorem aac (hT:eF P T) (H:Rel cx σ α F a w) {ps:List dF} {rs:List kJ} {fn:Func} {out:Cont (gZ rs++jL ps)} (h:aab T ps rs fn.results.toList σ=some out) :
  ∃v,(results fn a.tmps).run P w=.ok v w∧Post cx ps rs out v w:=by
 obtain ⟨xJ,hrv⟩:∃xJ,fn.results.toList=xJ:=⟨_,rfl⟩
 rw [hrv] at h
 have other:fin T ps rs xJ σ=some out→∃v,(results fn a.tmps).run P w=.ok v w∧Post cx ps rs out v w:=fun h=>acR hT H (by rw [hrv]; exact h)
 cases rs with
 | nil=>exact other h
 | cons q rs=>
  cases q with
  | val _ _ _=>exact other h
  | own _ _ _ _=>exact other h
  | into j q=>
   cases rs with
   | cons _ _=>cases q <;> exact other h
   | nil=>
    cases q with
    | cons _ _=>exact other h
    | nil=>
     match xJ,hrv,h,other with
     | [],_,h,other=>exact other h
     | _ :: _ :: _,_,h,other=>exact other h
     | [rv],hrv,h,_=>
      have h:((SQ T false rv fun a=>cutV j a fun m=>.ret m:Prog Int).run σ fun m=>
        match lT σ ps 0 with
        | some d=>some (m,d)
        | none=>none)=some out:=h
      obtain ⟨m,h1,h2⟩:=wN _ h
      obtain ⟨y,u,g1,g2,_,h1⟩:=EL hT H h1
      obtain ⟨b,n,cp,e1,e2,e3⟩:=Xt H g2 h1
      split at h2
      ·rename_i d hd
       have h2:some ((m,d):Cont (gZ [kJ.into j []]++jL ps))=some out:=h2
       have h2:=aow h2
       subst h2
       exact ⟨_,BC (vs:=[_]) (by rw [hrv]; simp [List.mapM_cons,g1,Result.andThen]),_,_,_,a,[_],[[]],H,rfl,⟨⟨rfl,rfl,b,n,cp,e1,e2,e3⟩,trivial⟩,by simp,by simp,FY hd⟩
      ·simp at h2
  | ptr t kk ow exts=>
   cases rs with
   | cons _ _=>exact other h
   | nil=>
    match xJ,hrv,h,other with
    | [],_,h,other=>exact other h
    | _ :: _ :: _,_,h,other=>exact other h
    | [rv],hrv,h,_=>
     have h:((SQ T false rv fun a=>aaI t kk ow exts a fun y r=>.ret (y,r):Prog (El kk×Nat)).run σ fun q=>
       match lT (aB [.r q.2 none] σ) ps 0 with
       | some d=>some (q.1,d)
       | none=>none)=some out:=h
     obtain ⟨q,h1,h2⟩:=wN _ h
     obtain ⟨y,u,g1,g2,_,h1⟩:=EL hT H h1
     obtain ⟨r,R,x,b,o,hr,hv,hk,b2,b3,ex,zJ,rfl,h1⟩:=YV g2 h1
     have h1:q=(x,r):=h1
     subst h1
     obtain ⟨k1,k2,k3,k4⟩:=agY H hr (by rw [hk]; simp) hv
     have hblk:blk α R r=b :: α.fo r:=by unfold blk; rw [zJ]; rfl
     have K:=H.roots r R hr
     have hnd:=K.nd
     rw [hblk] at hnd
     split at h2
     ·rename_i d hd
      have h2:some ((x,d):Cont (gZ [kJ.ptr t kk ow exts]++jL ps))=some out:=h2
      have h2:=aow h2
      subst h2
      refine ⟨_,BC (vs:=[_]) (by rw [hrv]; simp [List.mapM_cons,g1,Result.andThen]),_,_,_,a,[_],[b :: α.fo r],k1,rfl,⟨⟨b,o,R.tags,α.hdr r,R.own,α.fo r,rfl,rfl,b3, ?_, ?_, ?_⟩,trivial⟩,by simpa using hnd, ?_,FY hd⟩
      ·intro u hu hm
       exact aM.2 (jM.1 b2 u (aoe.2 ⟨hu,hm⟩))
      ·obtain ⟨m1,arr,e,lo,hi,m2,m3,m4,m5⟩:=K.mem b o zJ
       obtain ⟨ek,_⟩:=ex
       exact ⟨m1,arr,e,lo,hi,m2,m3,by rw [←ek]; exact m4,m5 t hk⟩
      ·obtain ⟨ek,ey⟩:=ex
       subst ek
       simp only at ey
       subst ey
       exact k3.ow k4
      ·intro c hc
       simp only [List.flatten_cons,List.flatten_nil,aoq] at hc
       exact an2 _ (by rw [hblk]; exact hc)
     ·simp at h2
def Cx.YO (cx:Cx) (m:Nat):Cx:={ cx with nt:=m }
theorem FT {m:Nat}:∀{cs:List (TypeId×Dat×List Tag)} {vs:List Value},kG (cx.YO m) σ α F w cs vs↔kG cx σ α F w cs vs
 | [],[]=>Iff.rfl
 | c :: cs,v :: vs=>and_congr Iff.rfl FT
 | [],_ :: _=>Iff.rfl
 | _ :: _,[]=>Iff.rfl
theorem Tz {m:Nat} {x:AV} {v:Value}:bI (cx.YO m) σ α F w x v↔bI cx σ α F w x v:=by
 cases x with
 | fn f cs=>
  constructor
  ·rintro ⟨vs,h1,h2⟩; exact ⟨vs,h1,FT.1 h2⟩
  ·rintro ⟨vs,h1,h2⟩; exact ⟨vs,h1,FT.2 h2⟩
 | _=>exact Iff.rfl
theorem yE {m:Nat}:∀{l:List AV} {vs:List Value},dR (cx.YO m) σ α F w l vs↔dR cx σ α F w l vs
 | [],[]=>Iff.rfl
 | c :: cs,v :: vs=>and_congr Tz yE
 | [],_ :: _=>Iff.rfl
 | _ :: _,[]=>Iff.rfl
theorem Wz {m:Nat} {x:xP} {v:Value}:iT (cx.YO m) σ α F w x v↔iT cx σ α F w x v:=by
 cases x with
 | one x=>exact Tz
 | Lc l=>
  constructor
  ·rintro ⟨vs,h1,h2⟩; exact ⟨vs,h1,yE.1 h2⟩
  ·rintro ⟨vs,h1,h2⟩; exact ⟨vs,h1,yE.2 h2⟩
 | lit _ _ l=>
  constructor
  ·rintro ⟨vs,cs,h1,h2⟩; exact ⟨vs,cs,h1,yE.1 h2⟩
  ·rintro ⟨vs,cs,h1,h2⟩; exact ⟨vs,cs,h1,yE.2 h2⟩
theorem Rel.YO {a':Act} (H:Rel cx σ α F a w) {m:Nat} (hd:a'.defers=[]) (hm:m≤a'.tmps.size) (hs:∀s,a'.tmps.getD s undef=a.tmps.getD s undef):Rel (cx.YO m) σ α F a' w where
 defs:=hd
 sz:=hm
 kI:=H.kI
 EE:=H.EE
 slots:=fun s=>by rw [hs s]; exact Wz.2 (H.slots s)
 sF:=H.sF
 roots:=fun r R hr=>by
  obtain ⟨o1,o2,o3,o4,o5⟩:=H.roots r R hr
  exact ⟨o1,o2,o3,o4,o5⟩
 dz:=H.dz
 IK:=H.IK
 fl:=H.fl
 zG:=H.zG
 iX:=H.iX
 frame:=H.frame
 uE:=H.uE
 oP:=H.oP
 wo:=H.wo
 wu:=H.wu
theorem Qk:∀{ps:List dF} {i:Nat} {c:Cont (kin ps)} {r:Nat} {R:Root},gK (gI ps i c) r=some R→∃j p cj,r=ay (i+j)∧ps[j]?=some p∧dO p (i+j) cj=some R:=by
 intro ps
 induction ps with
 | nil=>intro i c r R h; simp [gI,gK] at h
 | cons p ps ih=>
  intro i c r R h
  rw [vZ,yF] at h
  have hrec:gK (gI ps (i+1) (tlC p ps c)) r=some R→∃j q cj,r=ay (i+j)∧(p :: ps)[j]?=some q∧dO q (i+j) cj=some R:=by
   intro h
   obtain ⟨j,q,cj,h1,h2,h3⟩:=ih h
   have e:i+1+j=i+(j+1):=by omega
   exact ⟨j+1,q,cj,by rw [h1,e],by simpa using h2,by rw [←e]; exact h3⟩
  cases hr:dO p i (XQ p ps c) with
  | none=>rw [hr] at h; exact hrec h
  | some Q=>
   rw [hr] at h
   simp only [gK] at h
   cases hb:Nat.beq r (ay i) with
   | true=>
    rw [hb] at h
    have h':Q=R:=by simpa using h
    exact ⟨0,p,XQ p ps c,an1 hb,rfl,by rw [←h']; exact hr⟩
   | false=>rw [hb] at h; exact hrec h
theorem Sd:∀{ps:List dF} {i j:Nat} {k:K},xR ps j k→∃l,je (ay (i+j)) (wG ps i)=some (k,l):=by
 intro ps
 induction ps with
 | nil=>intro i j k h; obtain ⟨ow,wt,ht,h | h⟩:=h <;> simp at h
 | cons p ps ih=>
  intro i j k h
  have hne:∀j,Nat.beq (ay (i+(j+1))) (ay i)=false:=fun j=>by
   cases h:Nat.beq (ay (i+(j+1))) (ay i) with
   | true=>
    have:=an1 h
    unfold ay at this
    omega
   | false=>rfl
  cases j with
  | zero=>
   obtain ⟨ow,wt,ht,h | h⟩:=h
   ·simp only [List.getElem?_cons_zero,anX] at h
    subst h
    exact ⟨(wt,ht),by simp [wG,je]⟩
   ·simp only [List.getElem?_cons_zero,anX] at h
    subst h
    exact ⟨(wt,k.tys),by simp [wG,je]⟩
  | succ j=>
   have h':xR ps j k:=by
    obtain ⟨ow,wt,ht,h⟩:=h
    exact ⟨ow,wt,ht,by simpa using h⟩
   obtain ⟨l,hl⟩:=ih (i:=i+1) h'
   have e:i+1+j=i+(j+1):=by omega
   rw [e] at hl
   cases p <;> first | exact ⟨l,by simp only [wG,je,hne j,cond_false]; exact hl⟩ | exact ⟨l,hl⟩
theorem QD {ps:List dF} {c:Cont (kin ps)} (hP:FK cx ps) (H:Rel cx (bV ps c) α F a w) (m:Nat):Ro (cx.YO m) (wG ps 0):=by
 have hf:∀{j:Nat} {k:K},xR ps j k→∃l,je (ay j) (wG ps 0)=some (k,l):=fun {j} {k} h=>by
  have:=Sd (i:=0) h
  simpa using this
 refine ⟨fun j pi hj h=>?_,fun j p ts v hv=>?_,fun j v hv=>?_⟩
 ·rcases h with h | ⟨⟨b,o,n⟩,h⟩
  ·obtain ⟨k,hk⟩:=hP.par j pi hj h
   obtain ⟨l,hl⟩:=hf hk
   exact ⟨_,hl⟩
  ·obtain ⟨R,hR,hk,_⟩:=H.kI j pi b o n hj h
   obtain ⟨j',p,cj,h1,h2,h3⟩:=Qk (show gK (gI ps 0 c) (ay j)=some R from hR.1)
   have e:j=j':=by unfold ay at h1; omega
   subst e
   have:∃k,xR ps j k:=by
    cases p with
    | rw k ow wt ht=>exact ⟨k,ow,wt,ht, .inl h2⟩
    | jC k ow wt=>exact ⟨k,ow,wt,[], .inr h2⟩
    | own k ow=>
     have h4:=aow h3
     rw [←h4] at hk
     simp [aL] at hk
    | _=>simp [dO] at h3
   obtain ⟨k,hk⟩:=this
   obtain ⟨l,hl⟩:=hf hk
   exact ⟨_,hl⟩
 ·obtain ⟨k,hk,e⟩:=hP.ptr j p ts v hv
  obtain ⟨l,hl⟩:=hf hk
  exact ⟨k,l,hl,e⟩
 ·obtain ⟨k,hk⟩:=hP.ref j v hv
  obtain ⟨l,hl⟩:=hf hk
  exact ⟨_,hl⟩
theorem RV (hm:P.follows .mixedOrders=true) (hT:eF P T) (hSt:LA P T) {E:Entry} {fn:Func} (hf:P.funcs[E.f]?=some fn) (hname:(fn.name == "runtime.NumGoroutine")=false) {m:Nat} (hC:uZ P m hi)
  (hF:∀c out,E.F n c=some out→Z5 T hi fn E.ps E.rs m c=some out):aj P n E:=by
 intro c out hout cx α args w hnt hw hsz hP H
 have h:=hF c out hout
 unfold Z5 at h
 cases hb:fn.body with
 | none=>rw [hb] at h; simp at h
 | some code=>
  rw [hb] at h
  simp only at h
  refine .inl ⟨Go.MuLone.run_callFunc_enter hf hname hb args w,calls_of_wp hf hb ?_⟩
  have H2:Rel (cx.YO fn.ntmps) (bV E.ps c) α [] { tmps:=args++Array.replicate (fn.ntmps - args.size) undef,defers:=[] } w:=by
   refine H.YO rfl (by simp; omega) fun s=>?_
   simp only [Array.getD_eq_getD_getElem?]
   rw [Array.getElem?_append]
   split
   ·rfl
   ·rename_i hlt
    rw [Array.getElem?_eq_none (by omega:args.size≤s)]
    rw [Array.getElem?_replicate]
    split <;> rfl
  have hC':uZ P m { hi with nt:=fn.ntmps,jf:=wG E.ps 0 }:=hC
  refine wp_mono (acO Xg hm hT hSt hC' rfl (QD hP H _) code 0 h H2) ?_
  have hend:∀{σ':St} {α':dL} {F':List Nat} {a':Act} {w':World},aab T E.ps E.rs fn.results.toList σ'=some out→Rel (cx.YO fn.ntmps) σ' α' F' a' w'→
    a'.defers=[]∧∃v,(results fn a'.tmps).run P w'=.ok v w'∧∃v',Ending.returned v=.returned v'∧Post cx E.ps E.rs out v' w':=by
   intro σ' α' F' a' w' h1 H3
   have H4:Rel cx σ' α' F' a' w':=by
    have:=H3.YO (m:=0) (a':=a') H3.defs (aov _) (fun _=>rfl)
    obtain ⟨nt,w0,ext,par,ptrs,refs⟩:=cx
    simp only at hnt
    subst hnt
    exact this
   obtain ⟨v,v1,v2⟩:=aac (P:=P) hT H4 h1
   exact ⟨H3.defs,v,v1,v,rfl,v2⟩
  rintro e a' w' ⟨ex,σ',α',F',h1,h2,h3⟩
  cases e <;> simp only [exC,anX,reduceCtorEq] at h1
  ·subst h1; exact hend h2 h3
  ·subst h1; simp at h2
  ·subst h1; exact hend h2 h3
end
end
section
open Go
variable [Fr]
def Ji (W:World):(ps:List dF)→Cont (kin ps)→List Value→Prop
 | [],_,[]=>True
 | .val k [] :: ps,c,v :: vs=>(∃cs,VC k v cs∧Vw (hp W) (fun b=>b<W.heap.size) k c.1 cs)∧Ji W ps c.2 vs
 | _,_,_=>False
def Pd (W W':World):Prop:=W'.os=W.os∧W'.output=W.output∧W.heap.size≤W'.heap.size∧∀b,b<W.heap.size→hp W' b=hp W b
def Bf (W:World):Cx:={ nt:=0,w0:=W,ext:=fun _ b=>b<W.heap.size,par:=fun _=>none,ptrs:=fun _ _ _ _=>False,refs:=fun _ _=>False }
def YM:dL:={ loc:=fun _=>(0,0),hdr:=fun _=>[],fo:=fun _=>[] }
section
variable {P:Program} {W:World}
theorem Ji.roots:∀{ps:List dF} {c:Cont (kin ps)} {vs:List Value} {i:Nat},Ji W ps c vs→gI ps i c=[]∧vs.length=ps.length
 | [],_,[],_,_=>⟨rfl,rfl⟩
 | [],_,_ :: _,_,h=>h.elim
 | .val k [] :: ps,c,v :: vs,i,h=>by
  obtain ⟨h1,h2⟩:=Ji.roots (i:=i+1) h.2
  exact ⟨h1,by simp [h2]⟩
 | .val k (_ :: _) :: ps,c,vs,_,h=>by cases vs <;> exact h.elim
 | .val k [] :: ps,c,[],_,h=>h.elim
 | .ro _ :: _,_,vs,_,h=>by cases vs <;> exact h.elim
 | .rw _ _ _ _ :: _,_,vs,_,h=>by cases vs <;> exact h.elim
 | .jC _ _ _ :: _,_,vs,_,h=>by cases vs <;> exact h.elim
 | .own _ _ :: _,_,vs,_,h=>by cases vs <;> exact h.elim
 | .fn _ _ :: _,_,vs,_,h=>by cases vs <;> exact h.elim
 | .into _ _ :: _,_,vs,_,h=>by cases vs <;> exact h.elim
theorem Ji.slots {σ:St} (hσ:∀r R,¬aP σ r R):∀{ps:List dF} {c:Cont (kin ps)} {vs:List Value} {i:Nat},Ji W ps c vs→∀s,(∀v,vs[s - i]?=some v→i≤s→iT (Bf W) σ YM [] W (iF (eP ps i c) s) v)∧((vs[s - i]?=none∨s<i)→iF (eP ps i c) s=.one .undef)∧xS σ (iF (eP ps i c) s)
 | [],_,[],_,_=>fun s=>⟨fun v h=>by simp at h,fun _=>rfl,trivial⟩
 | [],_,_ :: _,_,h=>h.elim
 | .val k [] :: ps,c,v :: vs,i,h=>by
  intro s
  have ih:=Ji.slots hσ (i:=i+1) h.2 s
  simp only [eP,iF]
  cases hb:Nat.beq s i with
  | true=>
   have:=an1 hb
   subst this
   simp only [Nat.sub_self,List.getElem?_cons_zero,anX,cond_true]
   refine ⟨fun u hu _=>?_,fun h=>by rcases h with h | h; simp at h; omega, ?_⟩
   ·subst hu
    intro _
    obtain ⟨cs,h1,h2⟩:=h.1
    refine ⟨cs,h1, ?_⟩
    cases hf:k.flat with
    | true=>exact iy hf h2
    | false=>
     refine gy (fun _ _=>rfl) (fun b hb=>⟨hb,by simp, ?_,fun r R hr=>absurd hr (hσ r R),fun _=>.inl ⟨s,0,by simp,hb⟩⟩) h2
     rintro ⟨j,pi,o,n,h3,_⟩
     simp [Bf] at h3
   ·intro t ht
    cases hf:k.flat with
    | true=>rw [hf] at ht; simp at ht
    | false=>
     rw [hf] at ht
     simp only [cond_false,List.map_nil,aog] at ht
     subst ht
     exact .inl (iN s)
  | false=>
   have hne:=Nat.ne_of_beq_eq_false hb
   simp only [cond_false]
   refine ⟨fun u hu hle=>?_,fun hh=>?_,ih.2.2⟩
   ·refine ih.1 u ?_ (by omega)
    have e:s - i=(s - (i+1))+1:=by omega
    rw [e] at hu
    simpa using hu
   ·refine ih.2.1 ?_
    rcases hh with hh | hh
    ·by_cases hlt:s<i
     ·exact .inr (by omega)
     ·have e:s - i=(s - (i+1))+1:=by omega
      rw [e] at hh
      exact .inl (by simpa using hh)
    ·exact .inr (by omega)
 | .val k (_ :: _) :: ps,c,vs,_,h=>by cases vs <;> exact h.elim
 | .val k [] :: ps,c,[],_,h=>h.elim
 | .ro _ :: _,_,vs,_,h=>by cases vs <;> exact h.elim
 | .rw _ _ _ _ :: _,_,vs,_,h=>by cases vs <;> exact h.elim
 | .jC _ _ _ :: _,_,vs,_,h=>by cases vs <;> exact h.elim
 | .own _ _ :: _,_,vs,_,h=>by cases vs <;> exact h.elim
 | .fn _ _ :: _,_,vs,_,h=>by cases vs <;> exact h.elim
 | .into _ _ :: _,_,vs,_,h=>by cases vs <;> exact h.elim
theorem adC (hfr:∀b,Fr.free b→b<W.heap.size∧hp W b=Fr.obj b) {ps:List dF} {c:Cont (kin ps)} {args:Array Value} (hV:Ji W ps c args.toList):Rel (Bf W) (bV ps c) YM [] ⟨args,[]⟩ W:=by
 have hr0:∀r,(bV ps c).roots r=none:=fun r=>by
  show gK (gI ps 0 c) r=none
  rw [(hV.roots (i:=0)).1]
  rfl
 have hno:∀r R,¬aP (bV ps c) r R:=fun r R h=>by have h2:=h.1; rw [hr0 r] at h2; simp at h2
 have hs:=fun s=>Ji.slots hno (i:=0) hV s
 refine ⟨rfl,aov _,fun j pi b o n h=>by simp [Bf] at h,fun r R h=>absurd h (hno r R),fun s=>?_,fun s=>(hs s).2.2,fun r R h=>absurd h (hno r R),fun r R h=>by rw [hr0 r] at h; simp at h,
  fun r R _ _ h=>absurd h (hno r R),fun b h=>by simp at h,List.nodup_nil,fun r R h=>absurd h (hno r R),⟨rfl,rfl,rfl,aod _,fun _ _ _=>rfl,fun j pi b o n h=>by simp [Bf] at h⟩,
  fun j pi h=>by simp [Bf] at h,⟨fun j pi h=>by simp [Bf] at h,fun b hb=>⟨(hfr b hb).1,fun j pi h=>by simp [Bf] at h⟩,fun b hb=>(hfr b hb).2⟩,fun j p ts v h=>h.elim,fun j v h=>h.elim⟩
 obtain ⟨h1,h2,_⟩:=hs s
 cases hv:args.toList[s]? with
 | none=>
  have:=h2 (.inl (by simpa using hv))
  rw [show (bV ps c).slots s=.one .undef from this]
  trivial
 | some v=>
  have:=h1 v (by simpa using hv) (aov _)
  have e:args.getD s undef=v:=by
   rw [Array.getElem?_toList] at hv
   simp [Array.getD_eq_getD_getElem?,hv]
  show iT _ _ _ _ _ _ (args.getD s undef)
  rw [e]
  exact this
theorem Yt (hfr:∀b,Fr.free b→b<W.heap.size∧hp W b=Fr.obj b) {f:FuncId} {ps:List dF} {F:Nat→Cont (kin ps)→Option (Cont (gZ [.val .bool [] []]++jL ps))} {n:Nat} (hE:aj P n ⟨f,ps,[.val .bool [] []],F⟩)
  {c:Cont (kin ps)} {out:Cont (gZ [.val .bool [] []]++jL ps)} (hF:F n c=some out) (ht:out.1=true) {args:Array Value} (hV:Ji W ps c args.toList) (hcall:(callFunc f args).run P W=.ok (.enter f args) W) :
  Calls P f args W fun e W'=>e=.returned (.bool true)∧Pd W W':=by
 have h:=hE c out hF (Bf W) YM args W rfl rfl (by rw [←Array.length_toList,(hV.roots (i:=0)).2]) ⟨fun j pi h=>by simp [Bf] at h,fun j p ts v h=>h.elim,fun j v h=>h.elim⟩ (adC hfr hV)
 rcases h with ⟨_,h⟩ | ⟨v,w',h,_⟩
 ·refine h.mono ?_
  rintro e W' ⟨v,rfl,σ,α,F',a,vs,bD,H,rfl,hR,_⟩
  refine ⟨?_,H.frame.1,H.frame.2.2.1,H.frame.2.2.2.1,fun b hb=>H.frame.2.2.2.2.1 b hb (fun j pi h=>by simp [Bf] at h)⟩
  cases vs with
  | nil=>exact hR.elim
  | cons v vs=>
   cases bD with
   | nil=>exact hR.elim
   | cons fo bD=>
    obtain ⟨⟨_,T,cs,_,hv,hw⟩,hr⟩:=hR
    cases vs with
    | cons _ _=>exact hr.elim
    | nil=>
     obtain ⟨e1,_⟩:=hv
     have e2:cs=[.bool out.1]:=hw
     rw [e1,ht] at e2
     simp only [List.cons.injEq,and_true] at e2
     subst e2
     rfl
 ·rw [hcall] at h
  simp at h
end
end
section
open Go
mutual
def Zt {H:Type}:DataW H→Nat
 | .lit (.string bytes)=>bytes.length+1
 | .lit _=>1
 | .nil=>1
 | .ptr d=>Zt d+1
 | .slice elems spare=>Ib elems+Ib spare+1
 | .agg parts=>Ib parts+1
 | .iface _ d=>Zt d+1
 | .map _=>1
 | .held _=>1
def Ib {H:Type}:List (DataW H)→Nat
 | []=>0
 | d :: r=>Zt d+Ib r
end
def Ug:(k:K)→El k→Nat
 | .int _,_=>1
 | .bool,_=>1
 | .str,s=>(show List Int from s).length+1
 | .sl _ k,xs=>((show List (El k) from xs).map (Ug k)).sum+1
 | .unit,_=>0
 | .pair a b,x=>Ug a x.1+Ug b x.2
 | .st f,x=>Ug f x+1
 | .gap _,_=>0
 | .id _,_=>1
def yD:(k:K)→El k→Prop
 | .int ik,x=>G9 ik x
 | .str,s=>(show List Int from s).length≤9223372036854775807∧∀b∈(show List Int from s),0≤b∧b<256
 | .sl _ k,xs=>(show List (El k) from xs).length≤9223372036854775807∧∀x∈(show List (El k) from xs),yD k x
 | .pair a b,x=>yD a x.1∧yD b x.2
 | .st f,x=>yD f x
 | _,_=>True
theorem GJ {A:Type} {p:Nat→A→Prop}:∀{n:Nat},(∀i,i<n→∃x,p i x)→∃xs:List A,xs.length=n∧∀i (h:i<xs.length),p i xs[i]:=by
 intro n h
 induction n with
 | zero=>exact ⟨[],rfl,fun i h=>by simp at h⟩
 | succ n ih=>
  obtain ⟨xs,h1,h2⟩:=ih (fun i hi=>h i (by omega))
  obtain ⟨x,hx⟩:=h n (by omega)
  refine ⟨xs++[x],by simp [h1],fun i hi=>?_⟩
  rw [List.getElem_append]
  split
  ·exact h2 i _
  ·have:i=n:=by simp [h1] at hi; omega
   subst this
   simpa using hx
theorem Zc {A H:Type} {f:A→Nat}:∀{xs:List A} {ds:List (DataW H)},xs.length=ds.length→(∀i (h:i<xs.length) (h':i<ds.length),f xs[i]≤Zt ds[i])→(xs.map f).sum≤Ib ds
 | [],[],_,_=>aod _
 | x :: xs,d :: ds,hl,h=>by
  simp only [List.map_cons,List.sum_cons,Ib]
  have h0:=h 0 (by simp) (by simp)
  have:=Zc (xs:=xs) (ds:=ds) (by simpa using hl) (fun i h1 h2=>by
   have:=h (i+1) (by simp; omega) (by simp; omega)
   simpa using this)
  simp only [List.getElem_cons_zero] at h0
  omega
 | [],_ :: _,hl,_=>by simp at hl
 | _ :: _,[],hl,_=>by simp at hl
section
variable {P:Program} {T:iV} {W:World} {H:Type} {enc:TypeId×Value→H}
def afG [Fr] (W:World) (k:K) (cs:List Value) (d:DataW H):Prop:=∃x:El k,Vw (hp W) (fun b=>b<W.heap.size) k x cs∧Ug k x≤Zt d∧yD k x
theorem zK {t:TypeId} {k:K} (h:sP P t k):P.cellsOf t=k.size:=by
 obtain ⟨i,h1,h2,_⟩:=h
 simp [Program.cellsOf,h1,h2]
theorem Wt [Fr] (hid:T.ids=false) (hfr:∀b,b<W.heap.size→Fr.free b):∀(k:K),
  (∀t n cs d ps,(jT P T k).1 t→DataW.trod enc P W 0 (fun _=>true) true n t cs=some (d,ps)→afG W k cs d)∧
  (∀(fs:List Field) off n (cs:List Value) (xs:List (DataW H×List MemPlace)),(jT P T k).2 fs off→cs.length=off+k.size→xs.length=fs.length→
   (∀(i:Nat) f,fs[i]?=some f→DataW.trod enc P W 0 (fun _=>true) true n f.type ((cs.drop f.offset).take (P.cellsOf f.type))=xs[i]?)→
   ∃x:El k,Vw (hp W) (fun b=>b<W.heap.size) k x (cs.drop off)∧Ug k x≤Ib (xs.map (·.1))∧yD k x):=by
 intro k
 induction k with
 | int ik=>
  refine ⟨fun t n cs d ps ht h=>?_,fun _ _ _ _ _ h=>h.elim⟩
  obtain ⟨m,rfl,e,hw⟩:=DataW.trod_int ht.1 h
  simp only [an8] at e
  obtain ⟨rfl,rfl⟩:=e
  have hr:G9 ik m:=by
   cases ik <;> simp [G9]
   simp [Lit.wf,IntKind.min,IntKind.max,IntKind.signed,IntKind.bits] at hw
   omega
  exact ⟨m,⟨rfl,hr⟩,aod _,hr⟩
 | bool=>
  refine ⟨fun t n cs d ps ht h=>?_,fun _ _ _ _ _ h=>h.elim⟩
  obtain ⟨b,rfl,e⟩:=DataW.trod_bool ht.1 h
  simp only [an8] at e
  obtain ⟨rfl,rfl⟩:=e
  exact ⟨b,rfl,aod _,trivial⟩
 | str=>
  refine ⟨fun t n cs d ps ht h=>?_,fun _ _ _ _ _ h=>h.elim⟩
  obtain ⟨s,rfl,e,hsz⟩:=DataW.trod_string ht.1 h
  simp only [an8] at e
  obtain ⟨rfl,rfl⟩:=e
  exact ⟨bytesOf s,⟨s,rfl,rfl⟩,by simp [Ug,Zt,bytesOf],by
   unfold maxLen at hsz
   have:(bytesOf s).length=s.size:=by simp [bytesOf]
   refine ⟨(show (bytesOf s).length≤9223372036854775807 by omega),fun b hb=>?_⟩
   have hb':b∈bytesOf s:=hb
   unfold bytesOf at hb'
   obtain ⟨x,_,rfl⟩:=aox.1 hb'
   have:=x.toNat_lt
   omega⟩
 | unit=>exact ⟨fun _ _ _ _ _ h=>h.elim,fun fs off n cs xs _ hl hx hf=>⟨(),by
   have:cs.drop off=[]:=List.drop_eq_nil_of_le (by simp [K.size] at hl; omega)
   exact this,aov _,trivial⟩⟩
 | gap n=>exact ⟨fun _ _ _ _ _ h=>h.elim,fun _ _ _ _ _ h=>h.elim⟩
 | id e=>exact ⟨fun t n cs d ps ht h=>by have:=ht.2.2; rw [hid] at this; simp at this,fun _ _ _ _ _ h=>h.elim⟩
 | sl e k ih=>
  refine ⟨fun t n cs d ps ht h=>?_,fun _ _ _ _ _ h=>h.elim⟩
  obtain ⟨hu,_,hte,hk0,_⟩:=ht
  have hce:P.cellsOf e=k.size:=zK (fK.info hte)
  rcases DataW.trod_slice hu h with ⟨rfl,e1⟩ | ⟨a,len,cap,elems,rest,m,rfl,rfl,e1,_,hlc,hmx,hle,hel,_,_⟩
  ·simp only [an8] at e1
   obtain ⟨rfl,rfl⟩:=e1
   exact ⟨[],⟨none,0,0,rfl,rfl,aod _,fun h=>by omega⟩,by simp [Ug,Zt],⟨aov _,fun x hx=>by simp at hx⟩⟩
  ·simp only [an8] at e1
   obtain ⟨rfl,rfl⟩:=e1
   have hone:∀i (hi:i<len),∃x:El k,∃ds,W.cells? 0 (a.add (i * k.size)) k.size=some ds∧Vw (hp W) (fun b=>b<W.heap.size) k x ds∧(∀(h':i<elems.length),Ug k x≤Zt elems[i].1)∧yD k x:=by
    intro i hi
    have h1:=hel i hi
    have hi':i<elems.length:=by omega
    rw [hce,aob hi'] at h1
    obtain ⟨ds,h2,h3⟩:=Option.bind_eq_some_iff.1 h1
    obtain ⟨x,h4,h5,h6⟩:=ih.1 e m ds _ _ hte h3
    exact ⟨x,ds,h2,h4,fun _=>h5,h6⟩
   obtain ⟨xs,hl,hxs⟩:=GJ hone
   refine ⟨xs,⟨some a,len,cap,rfl,hl.symm,hlc,fun h0=>?_⟩, ?_, ?_⟩
   ·obtain ⟨b,o,sp⟩:=a
    have h0':0<xs.length:=by omega
    obtain ⟨ds0,h2,h3,_⟩:=hxs 0 h0'
    have hb:=World.cells?_block h2 hk0
    obtain ⟨_,g1,g2⟩:=World.cells?_some h2
    have hsp:sp=none:=by
     have:=g2 0 hk0
     rw [aob (by omega)] at this
     simp only [Nat.zero_mul,Addr.add,if_true,World.cell?] at this
     cases sp with
     | none=>rfl
     | some q=>split at this <;> simp at this
    subst hsp
    have hb':b<W.heap.size:=by
     rw [addr_add] at hb
     exact hb
    refine ⟨b,o,rfl,hb', .inr (hfr b hb'),fun i hi=>?_⟩
    obtain ⟨ds,h2,h3,_⟩:=hxs i hi
    obtain ⟨_,g1,g2⟩:=World.cells?_some h2
    refine ⟨ds,fun j hj=>?_,h3⟩
    have:=g2 j (by omega)
    rw [addr_add,addr_add,zq] at this
    exact this
   ·simp only [Ug,Zt]
    have:=Zc (H:=H) (f:=Ug k) (xs:=xs) (ds:=elems.map (·.1)) (by simp; omega) (fun i h1 h2=>by
     obtain ⟨ds,_,_,h5,_⟩:=hxs i h1
     simpa using h5 (by simpa using h2))
    omega
   ·unfold maxLen at hmx
    refine ⟨show xs.length≤_ by omega,fun x hx=>?_⟩
    obtain ⟨i,hi,rfl⟩:=List.mem_iff_getElem.1 hx
    obtain ⟨_,_,_,_,h6⟩:=hxs i hi
    exact h6
 | pair a b iha ihb=>
  refine ⟨fun _ _ _ _ _ h=>h.elim,fun fs off n cs xs ht hl hx hf=>?_⟩
  cases fs with
  | nil=>exact ht.elim
  | cons f fs=>
   cases xs with
   | nil=>simp at hx
   | cons x0 xs=>
    obtain ⟨h1,h2,h3,h4⟩:=ht
    have hca:P.cellsOf f.type=a.size:=zK (fK.info h2)
    have h5:=hf 0 f rfl
    rw [h1,hca] at h5
    simp only [List.getElem?_cons_zero] at h5
    obtain ⟨x,g1,g2,l1⟩:=iha.1 f.type n _ x0.1 x0.2 h2 h5
    obtain ⟨y,g3,g4,l2⟩:=ihb.2 fs (off+a.size) n cs xs h4 (by simp [K.size] at hl; omega) (by simpa using hx) (fun i f' hi=>by
     have:=hf (i+1) f' (by simpa using hi)
     simpa using this)
    refine ⟨(x,y),⟨(cs.drop off).take a.size,cs.drop (off+a.size), ?_,g1,g3⟩, ?_,l1,l2⟩
    ·rw [←List.drop_drop,List.take_append_drop]
    ·simp only [Ug,List.map_cons,Ib]
     omega
 | st c ih=>
  refine ⟨fun t n cs d ps ht h=>?_,fun _ _ _ _ _ h=>h.elim⟩
  obtain ⟨⟨fs,hu,hfs⟩,hinfo⟩:=ht
  obtain ⟨xs,m,rfl,e1,hl,hlen,hf⟩:=DataW.trod_struct hu h
  simp only [an8] at e1
  obtain ⟨rfl,rfl⟩:=e1
  obtain ⟨x,g1,g2,l1⟩:=ih.2 fs.toList 0 m cs xs hfs (by rw [hl,zK hinfo]; simp [K.size]) (by simpa using hlen) (fun i f hi=>hf i f (by simpa using hi))
  refine ⟨x,by simp only [List.drop_zero] at g1; exact g1, ?_,l1⟩
  simp only [Ug,Zt]
  omega
theorem XD:∀{k:K} {fs:List Field} {off:Nat},(jT P T k).2 fs off→∀f∈fs,∃k',(jT P T k').1 f.type:=by
 intro k
 induction k with
 | pair a b iha ihb=>
  intro fs off h f hf
  cases fs with
  | nil=>simp at hf
  | cons f0 fs=>
   rcases an9.1 hf with h1 | h1
   ·subst h1; exact ⟨a,h.2.1⟩
   ·exact ihb h.2.2.2 f h1
 | unit=>intro fs off h f hf; rw [show fs=[] from h] at hf; simp at hf
 | _=>intro fs off h; exact h.elim
theorem aaU [Fr] (hid:T.ids=false) {sp:Nat→Bool} (hsp:∀b,b<W.heap.size→sp b=true):∀(n:Nat) (t:TypeId) (k:K) (cs:List Value) (x:DataW H×List MemPlace),(jT P T k).1 t→DataW.trod enc P W 0 (fun _=>true) true n t cs=some x→DataW.trod enc P W 0 sp true n t cs=some x:=by
 intro n
 induction n with
 | zero=>intro t k cs x _ h; simp [DataW.trod] at h
 | succ n ih=>
  intro t k cs x ht h
  cases k with
  | int ik=>obtain ⟨m,rfl,rfl,hw⟩:=DataW.trod_int ht.1 h; simp [DataW.trod,ht.1,hw]
  | bool=>obtain ⟨m,rfl,rfl⟩:=DataW.trod_bool ht.1 h; simp [DataW.trod,ht.1]
  | str=>obtain ⟨m,rfl,rfl,hw⟩:=DataW.trod_string ht.1 h; simp [DataW.trod,ht.1,hw]
  | unit=>exact ht.elim
  | gap n=>exact ht.elim
  | id e=>have:=ht.2.2; rw [hid] at this; simp at this
  | pair a b=>exact ht.elim
  | st c=>
   obtain ⟨⟨fs,hu,hfs⟩,_⟩:=ht
   obtain ⟨xs,m,e,rfl,hl,hlen,hf⟩:=DataW.trod_struct hu h
   have e':m=n:=by omega
   subst e'
   refine ChangeShapes.trod_struct_mk hu hl (mapM_some_of_get _ _ (by simpa using hlen) fun i f hi=>?_)
   have hi':i<xs.length:=by
    have:=(List.getElem?_eq_some_iff.1 hi).1
    simp at this
    omega
   have h1:=hf i f (by simpa using hi)
   rw [aob hi'] at h1 ⊢
   obtain ⟨k',hk'⟩:=XD hfs f (List.mem_of_getElem? hi)
   exact ih f.type k' _ _ hk' h1
  | sl e k=>
   obtain ⟨hu,_,hte,hk0,_⟩:=ht
   have hce:P.cellsOf e=k.size:=zK (fK.info hte)
   rcases DataW.trod_slice hu h with ⟨rfl,rfl⟩ | ⟨a,len,cap,_,_,_,_,rfl,_⟩
   ·simp [DataW.trod,hu]
   ·unfold DataW.trod at h ⊢
    rw [hu] at h ⊢
    simp only [hce] at h ⊢
    split at h
    ·rename_i hc
     rw [if_pos hc]
     obtain ⟨elems,he,h⟩:=Option.bind_eq_some_iff.1 h
     obtain ⟨rest,hr,hd⟩:=Option.map_eq_some_iff.1 h
     have hstep:∀i y,(W.cells? 0 (a.add (i * k.size)) k.size).bind (DataW.trod enc P W 0 (fun _=>true) true n e)=some y→(W.cells? 0 (a.add (i * k.size)) k.size).bind (DataW.trod enc P W 0 sp true n e)=some y:=by
      intro i y h
      obtain ⟨ds,h1,h2⟩:=Option.bind_eq_some_iff.1 h
      exact Option.bind_eq_some_iff.2 ⟨ds,h1,ih e k ds y hte h2⟩
     refine Option.bind_eq_some_iff.2 ⟨elems,mapM_carry he (fun i y _ _ hy=>hstep i y hy),Option.map_eq_some_iff.2 ⟨rest, ?_,hd⟩⟩
     simp only [if_true] at hr
     cases hs:sp a.block with
     | true=>
      simp only [if_true]
      exact mapM_carry hr (fun i y _ _ hy=>hstep _ y hy)
     | false=>
      simp only [an0,if_false]
      cases hcl:cap - len with
      | zero=>rw [hcl] at hr; simpa using hr
      | succ m=>
       exfalso
       rw [hcl] at hr
       have h1:=mapM_some_get hr 0 0 (by simp)
       have hlr:rest.length=m+1:=by simpa using mapM_some_length hr
       rw [aob (by omega)] at h1
       obtain ⟨ds,h2,_⟩:=Option.bind_eq_some_iff.1 h1
       have h3:=World.cells?_block h2 hk0
       have h4:(a.add ((len+0) * k.size)).block=a.block:=by unfold Addr.add; split <;> rfl
       rw [h4] at h3
       rw [hsp _ h3] at hs
       simp at hs
    ·simp at h
end
end
section
open Go
section
variable {P:Program} {T:iV} {W W':World} {H:Type} {enc:TypeId×Value→H}
def Jf (P:Program) (T:iV):List dF→List TypeId→Prop
 | [],[]=>True
 | .val k [] :: ps,t :: ts=>fK P T t k∧Jf P T ps ts
 | _,_=>False
def szC:(ps:List dF)→Cont (kin ps)→Nat
 | .val k _ :: ps,c=>Ug k c.1+szC ps c.2
 | _,_=>0
def aaB:(ps:List dF)→Cont (kin ps)→Prop
 | .val k _ :: ps,c=>yD k c.1∧aaB ps c.2
 | _,_=>True
theorem ahi [Fr] {t:TypeId} {k:K} {v:Value} {base:Nat} {x:El k} {ok:Nat→Prop} (ht:fK P T t k) (hv:Value.okWide P W .any base t v) (hV:Vw (hp W) ok k x v.cells.toList):VC k v v.cells.toList:=by
 have hplain:∀{u:Value},(∀y,v≠.agg y)→v.cells.toList=[u]→VC k v v.cells.toList∨∃c,k=.st c:=by
  intro u hn hu
  cases k with
  | st c=>exact .inr ⟨c,rfl⟩
  | _=>
   refine .inl ⟨?_,hn⟩
   cases v <;> first | rfl | exact absurd rfl (hn _)
 unfold fK jT at ht
 cases k with
 | st c=>
  obtain ⟨⟨fs,hu,_⟩,_⟩:=ht
  unfold Value.okWide at hv
  rw [hu] at hv
  obtain ⟨cs,rfl,_⟩:=hv
  show Value.agg cs=.agg (cs.toList).toArray
  simp
 | unit=>exact ht.elim
 | pair a b=>exact ht.elim
 | gap n=>exact ht.elim
 | int ik=>
  unfold Value.okWide at hv
  rw [ht.1] at hv
  refine ⟨?_, ?_⟩ <;> cases v <;> simp_all [Cell.okWide,Cell.ok,Value.cells]
 | bool=>
  unfold Value.okWide at hv
  rw [ht.1] at hv
  refine ⟨?_, ?_⟩ <;> cases v <;> simp_all [Cell.okWide,Cell.ok,Value.cells]
 | id e=>
  unfold Value.okWide at hv
  rw [ht.1] at hv
  refine ⟨?_, ?_⟩ <;> cases v <;> simp_all [Cell.okWide,Cell.ok,Value.cells]
 | str=>
  unfold Value.okWide at hv
  rw [ht.1] at hv
  refine ⟨?_, ?_⟩ <;> cases v <;> simp_all [Cell.okWide,Cell.ok,Value.cells]
 | sl e k=>
  unfold Value.okWide at hv
  rw [ht.1] at hv
  refine ⟨?_, ?_⟩ <;> cases v <;> simp_all [Cell.okWide,Cell.ok,Value.cells]
theorem MX [Fr] (hid:T.ids=false) (hfr:∀b,b<W.heap.size→Fr.free b):∀{ps:List dF} {ts:List TypeId} {vs:List Value} {ds:List (DataW H)} {p:List MemPlace} {base:Nat},Jf P T ps ts→DataW.TrodAll enc P W 0 (fun _=>true) true ts vs ds p→
  (∀(j:Nat) t v,ts[j]?=some t→vs[j]?=some v→Value.okWide P W .any base t v)→∃c,Ji W ps c vs∧szC ps c≤Ib ds∧ds.length=ps.length∧aaB ps c
 | [],[],vs,ds,p,_,_,h,_=>by
  obtain ⟨rfl,rfl,_⟩:=ChangeShapes.trodAll_nil h
  exact ⟨(),trivial,aod _,rfl,trivial⟩
 | .val k [] :: ps,t :: ts,vs,ds,p,base,hp1,h,hv=>by
  obtain ⟨v,vs',d,ds',p1,q,rfl,rfl,rfl,⟨n,h1⟩,h2⟩:=ChangeShapes.trodAll_cons h
  obtain ⟨c,g1,g2,g3,g4⟩:=MX hid hfr hp1.2 h2 (fun j t v ht hv'=>hv (j+1) t v (by simpa using ht) (by simpa using hv'))
  obtain ⟨x,f1,f2,f3⟩:=(Wt (T:=T) (enc:=enc) hid hfr k).1 t n _ d p1 hp1.1 h1
  refine ⟨(x,c),⟨⟨_,ahi hp1.1 (hv 0 t v rfl rfl) f1,f1⟩,g1⟩, ?_,by simp [g3],f3,g4⟩
  simp only [szC,Ib]
  omega
 | [],_ :: _,_,_,_,_,h,_,_=>h.elim
 | .val _ [] :: _,[],_,_,_,_,h,_,_=>h.elim
 | .val _ (_ :: _) :: _,ts,_,_,_,_,h,_,_=>by cases ts <;> exact h.elim
 | .ro _ :: _,ts,_,_,_,_,h,_,_=>by cases ts <;> exact h.elim
 | .rw _ _ _ _ :: _,ts,_,_,_,_,h,_,_=>by cases ts <;> exact h.elim
 | .jC _ _ _ :: _,ts,_,_,_,_,h,_,_=>by cases ts <;> exact h.elim
 | .own _ _ :: _,ts,_,_,_,_,h,_,_=>by cases ts <;> exact h.elim
 | .fn _ _ :: _,ts,_,_,_,_,h,_,_=>by cases ts <;> exact h.elim
 | .into _ _ :: _,ts,_,_,_,_,h,_,_=>by cases ts <;> exact h.elim
theorem SY (hO:Pd W W') {p:MemPlace} (hp1:p.block<W.heap.size):W.sameAt W' p:=by
 have h:=hO.2.2.2 p.block hp1
 cases p with
 | cell b off=>
  have h':W'.heap[b]?=W.heap[b]?:=h
  show W'.cell? _=W.cell? _
  unfold World.cell?
  simp only [h']
 | map b=>exact h
theorem KQ [Fr] (hid:T.ids=false) (hO:Pd W W') {sp:Nat→Bool} (hsp:∀b,b<W.heap.size→sp b=true):∀{ps:List dF} {ts:List TypeId} {vs:List Value} {ds:List (DataW H)} {p:List MemPlace},Jf P T ps ts→DataW.TrodAll enc P W 0 (fun _=>true) true ts vs ds p→
  DataW.TrodAll enc P W' 0 sp true ts vs ds p
 | [],[],vs,ds,p,_,h=>by
  obtain ⟨rfl,rfl,rfl⟩:=ChangeShapes.trodAll_nil h
  exact rfl
 | .val k [] :: ps,t :: ts,vs,ds,p,hp1,h=>by
  obtain ⟨v,vs',d,ds',p1,q,rfl,rfl,rfl,⟨n,h1⟩,h2⟩:=ChangeShapes.trodAll_cons h
  have h3:=KQ hid hO hsp hp1.2 h2
  have h4:=aaU hid hsp n t k _ _ hp1.1 h1
  exact ⟨p1,q,⟨n,DataW.trod_carry n t _ _ h4 (fun p hp2=>SY hO (DataW.trod_lt n t _ _ h1 p hp2))⟩,h3,rfl⟩
 | [],_ :: _,_,_,_,h,_=>h.elim
 | .val _ [] :: _,[],_,_,_,h,_=>h.elim
 | .val _ (_ :: _) :: _,ts,_,_,_,h,_=>by cases ts <;> exact h.elim
 | .ro _ :: _,ts,_,_,_,h,_=>by cases ts <;> exact h.elim
 | .rw _ _ _ _ :: _,ts,_,_,_,h,_=>by cases ts <;> exact h.elim
 | .jC _ _ _ :: _,ts,_,_,_,h,_=>by cases ts <;> exact h.elim
 | .own _ _ :: _,ts,_,_,_,h,_=>by cases ts <;> exact h.elim
 | .fn _ _ :: _,ts,_,_,_,h,_=>by cases ts <;> exact h.elim
 | .into _ _ :: _,ts,_,_,_,h,_=>by cases ts <;> exact h.elim
theorem Yr (hO:Pd W W') (may:MemPlace→Prop):W.keptBut W' may:=by
 refine ⟨hO.1,hO.2.1,fun i hi=>?_⟩
 have h:W'.heap[i]?=W.heap[i]?:=hO.2.2.2 i hi
 rw [h]
 cases W.heap[i]? with
 | none=>rfl
 | some o=>
  cases o with
  | cells c t fr=>exact ⟨rfl,rfl,rfl,fun _ _=>rfl⟩
  | map es clock=>exact .inr ⟨rfl,rfl⟩
  | _=>rfl
abbrev acS (W:World):Fr:=⟨fun b=>b<W.heap.size,hp W,fun _=>.slice none 0 0,rfl,fun _=>⟨none,0,0,rfl⟩⟩
theorem Oi {f:FuncId} {fn:Func} {code:Code} {ps:List dF} {F:Nat→Cont (kin ps)→Option (Cont (gZ [.val .bool [] []]++jL ps))} {s:ChangeSpec} {tb:TypeId} {N:Nat}
  (hf:P.funcs[f]?=some fn) (hname:(fn.name == "runtime.NumGoroutine")=false) (hbody:fn.body=some code) (hps:Jf P T ps fn.params.toList) (hres:fn.resultTypes=#[tb]) (htb:P.underlying tb=some .bool)
  (hE:letI:=acS W; ∀n,aj P n ⟨f,ps,[.val .bool [] []],F⟩) (akV:∀c:Cont (kin ps),aaB ps c→szC ps c≤N→∃n out,F n c=some out∧out.1=true)
  (hvars:s.vars=[]) (hspec:∀ds:List (DataW H),ds.length=ps.length→s.fn H ds={ results:=[.lit (.bool true)],args:=ds })
  {base:Nat} {args:Array Value} {ds gs:List (DataW H)} {before:List MemPlace}
  (hval:∀(j:Nat) t v,fn.params[j]?=some t→args[j]?=some v→Value.okWide P W .any base t v)
  (hW:DataW.Whole enc P fn.params.toList s.vars false W args.toList ds gs before) (hb:Ib (ds++gs)≤N) (hid:T.ids=false:=by rfl) :
  Calls P f args W fun e W'=>∃v,e=.returned v∧s.post enc P fn false true false false W args v W':=by
 letI fr:Fr:=acS W
 have hW':=hW
 obtain ⟨p,q,hA,hV,hpq,hfz,hnd⟩:=hW
 rw [hvars] at hV
 obtain ⟨rfl,rfl⟩:=ChangeShapes.trodVars_none hV
 rw [aoq] at hb
 obtain ⟨c,h1,h2,h3,h6⟩:=MX (T:=T) hid (fun b hb=>hb) hps hA (fun j t v ht hv=>hval j t v (by simpa using ht) (by simpa using hv))
 obtain ⟨n,out,h4,h5⟩:=akV c h6 (by omega)
 refine (Yt (fun b hb=>⟨hb,rfl⟩) (hE n) h4 h5 h1 (Go.MuLone.run_callFunc_enter hf hname hbody args W)).mono ?_
 rintro e W' ⟨rfl,hO⟩
 have hsp:=hspec ds h3
 rw [aoq] at hpq
 refine ⟨_,rfl,ds,[],before,[],p,[],hW', ?_, ?_, ?_,Yr hO _,fun h=>by simp at h⟩
 ·rw [aoq,hsp,hres]
  exact ⟨[],[],⟨1,by simp [DataW.trod,Value.cells,htb]⟩,rfl,rfl⟩
 ·rw [aoq,hsp]
  exact KQ hid hO (fun b hb=>by simpa using hb) hps hA
 ·rw [aoq,hsp,hvars]
  exact rfl
end
end
section
open Go
structure Wy where
 ty:List (TypeId×K)
 bytes:List (TypeId×Nat)
 ptr:List TypeId
 ids:Bool:=false
def look {A:Type} (n:Nat):List (Nat×A)→Option A
 | []=>none
 | (m,a) :: l=>bif Nat.beq n m then some a else look n l
def abF (n:Nat):List (Nat×Nat)→Nat
 | []=>0
 | (m,a) :: l=>bif Nat.beq n m then a else abF n l
def Wy.tab (L:Wy):iV:={ ty:=fun t=>look t L.ty,bytes:=fun t=>abF t L.bytes,ptr:=fun t=>az t L.ptr,eq:=fun _=>false,ids:=L.ids }
def Yo:K→Value→Bool
 | .int ik, .int jk (.ofNat 0)=>Ad ik jk
 | .bool, .bool false=>true
 | .str, .string s=>Nat.beq s.data.size 0
 | .sl _ _, .slice none 0 0=>true
 | .id _, .slice none 0 0=>true
 | _,_=>false
def Oh:K→List Value→Option (List Value)
 | .pair a b,l=>match Oh a l with
  | some m=>Oh b m
  | none=>none
 | .unit,l=>some l
 | .st f,l=>Oh f l
 | .gap _,_=>none
 | k,v :: l=>bif Yo k v then some l else none
 | _,[]=>none
def isZ:K→Value→Bool
 | .st f, .agg arr=>match Oh f arr.toList with
  | some []=>true
  | _=>false
 | .st _,_=>false
 | k,v=>Yo k v
def xy (P:Program) (t:TypeId) (k:K):Bool:=match P.info? t with
 | some i=>Nat.beq i.size k.size && (match i.zero with
  | some v=>isZ k v
  | none=>false)
 | none=>false
def lZ (P:Program) (T:iV):K→(TypeId→Bool)×(List Field→Nat→Bool)
 | .int ik=>(fun t=>(match P.underlying t with
  | some (.int jk)=>Ad ik jk
  | _=>false) && xy P t (.int ik),fun _ _=>false)
 | .bool=>(fun t=>(match P.underlying t with
  | some .bool=>true
  | _=>false) && xy P t .bool,fun _ _=>false)
 | .str=>(fun t=>(match P.underlying t with
  | some .string=>true
  | _=>false) && xy P t .str,fun _ _=>false)
 | .sl e k=>(fun t=>(match P.underlying t with
  | some (.slice e')=>Nat.beq e e'
  | _=>false) && xy P t (.sl e k) && (lZ P T k).1 e && Nat.blt 0 k.size && (match P.info? e with
  | some i=>Nat.beq i.bytes (T.bytes e) && Nat.blt 0 i.bytes
  | none=>false),fun _ _=>false)
 | .unit=>(fun _=>false,fun fs _=>fs.isEmpty)
 | .pair a b=>(fun _=>false,fun fs off=>match fs with
  | []=>false
  | f :: fs=>Nat.beq f.offset off && (lZ P T a).1 f.type && Nat.blt 0 a.size && (lZ P T b).2 fs (off+a.size))
 | .st c=>(fun t=>(match P.underlying t with
  | some (.struct fs)=>(lZ P T c).2 fs.toList 0
  | _=>false) && xy P t (.st c),fun _ _=>false)
 | .gap _=>(fun _=>false,fun _ _=>false)
 | .id e=>(fun t=>(match P.underlying t with
  | some (.slice e')=>Nat.beq e e'
  | _=>false) && xy P t (.id e) && T.ids,fun _ _=>false)
def BI (P:Program) (L:Wy):Bool:=L.ty.all (fun q=>(lZ P L.tab q.2).1 q.1) && L.ptr.all fun t=>match P.underlying t with
 | some (.pointer _)=>true
 | _=>false
section
variable [Fr] {P:Program} {T:iV}
theorem Ue {k:K} {v:Value} (h:Yo k v=true):bK k=[v]∧sJ k=v:=by
 unfold Yo at h
 split at h
 ·have:=Bc h; subst this; exact ⟨rfl,rfl⟩
 ·exact ⟨rfl,rfl⟩
 ·rename_i s
  have:s=ByteArray.empty:=by
   have h1:=an1 h
   obtain ⟨d⟩:=s
   have:d=#[]:=Array.eq_empty_of_size_eq_zero h1
   subst this
   rfl
  subst this
  exact ⟨rfl,rfl⟩
 ·exact ⟨rfl,rfl⟩
 ·exact ⟨rfl,rfl⟩
 ·simp at h
theorem aaz:∀{k:K} {l m:List Value},Oh k l=some m→l=bK k++m:=by
 intro k
 have one:∀{k:K} {l m:List Value},(match l with | v :: l=>(bif Yo k v then some l else none) | []=>none)=some m→l=bK k++m:=by
  intro k l m h
  cases l with
  | nil=>simp at h
  | cons v l=>
   obtain ⟨hb,h⟩:=uy h
   simp only [anX] at h
   subst h
   rw [(Ue hb).1]
   rfl
 induction k with
 | pair a b iha ihb=>
  intro l m h
  simp only [Oh] at h
  split at h
  ·rename_i q hq
   rw [iha hq,ihb h]
   simp [bK]
  ·simp at h
 | unit=>intro l m h; simp only [Oh,anX] at h; subst h; rfl
 | st f ih=>intro l m h; exact ih (show Oh f l=some m from h)
 | gap n=>intro l m h; simp [Oh] at h
 | int ik=>intro l m h; exact one (k:=.int ik) (by cases l <;> exact h)
 | bool=>intro l m h; exact one (k:=.bool) (by cases l <;> exact h)
 | id e=>intro l m h; exact one (k:=.id e) (by cases l <;> exact h)
 | str=>intro l m h; exact one (k:=.str) (by cases l <;> exact h)
 | sl e k _=>intro l m h; exact one (k:=.sl e k) (by cases l <;> exact h)
theorem ady {k:K} {v:Value} (h:isZ k v=true):sJ k=v:=by
 unfold isZ at h
 split at h
 ·rename_i f arr
  split at h
  ·rename_i hz
   have:=aaz hz
   simp only [aoq] at this
   show Value.agg (bK f).toArray=.agg arr
   rw [←this]
  ·simp at h
 ·simp at h
 ·exact (Ue h).2
theorem tC {t:TypeId} {k:K} (h:xy P t k=true):sP P t k:=by
 unfold xy at h
 split at h
 ·rename_i i hi
  simp only [an3] at h
  obtain ⟨h1,h2⟩:=h
  split at h2
  ·rename_i v hv
   exact ⟨i,hi,an1 h1,by rw [hv,ady h2]⟩
  ·simp at h2
 ·simp at h
theorem RG {a b:Nat} (h:Nat.blt a b=true):a<b:=by
 unfold Nat.blt at h
 exact Nat.le_of_ble_eq_true h
theorem Zj:∀{k:K},(∀t,(lZ P T k).1 t=true→(jT P T k).1 t)∧∀fs off,(lZ P T k).2 fs off=true→(jT P T k).2 fs off:=by
 intro k
 induction k with
 | int ik=>
  refine ⟨fun t h=>?_,fun fs off h=>by simp [lZ] at h⟩
  simp only [lZ,an3] at h
  obtain ⟨h1,h2⟩:=h
  split at h1
  ·rename_i jk hu
   have:=Bc h1; subst this
   exact ⟨hu,tC h2⟩
  ·simp at h1
 | bool=>
  refine ⟨fun t h=>?_,fun fs off h=>by simp [lZ] at h⟩
  simp only [lZ,an3] at h
  obtain ⟨h1,h2⟩:=h
  split at h1
  ·rename_i hu; exact ⟨hu,tC h2⟩
  ·simp at h1
 | str=>
  refine ⟨fun t h=>?_,fun fs off h=>by simp [lZ] at h⟩
  simp only [lZ,an3] at h
  obtain ⟨h1,h2⟩:=h
  split at h1
  ·rename_i hu; exact ⟨hu,tC h2⟩
  ·simp at h1
 | sl e k ih=>
  refine ⟨fun t h=>?_,fun fs off h=>by simp [lZ] at h⟩
  simp only [lZ,an3] at h
  obtain ⟨⟨⟨⟨h1,h2⟩,h3⟩,h4⟩,h5⟩:=h
  split at h1
  ·rename_i e' hu
   have:=an1 h1; subst this
   split at h5
   ·rename_i i hi
    simp only [an3] at h5
    exact ⟨hu,tC h2,ih.1 e h3,RG h4,i,hi,an1 h5.1,RG h5.2⟩
   ·simp at h5
  ·simp at h1
 | unit=>exact ⟨fun t h=>by simp [lZ] at h,fun fs off h=>show fs=[] by simpa [lZ] using h⟩
 | gap n=>exact ⟨fun t h=>by simp [lZ] at h,fun fs off h=>by simp [lZ] at h⟩
 | id e=>
  refine ⟨fun t h=>?_,fun fs off h=>by simp [lZ] at h⟩
  simp only [lZ,an3] at h
  obtain ⟨⟨h1,h2⟩,h3⟩:=h
  split at h1
  ·rename_i e' hu
   have:=an1 h1; subst this
   exact ⟨hu,tC h2,h3⟩
  ·simp at h1
 | pair a b iha ihb=>
  refine ⟨fun t h=>by simp [lZ] at h,fun fs off h=>?_⟩
  cases fs with
  | nil=>simp [lZ] at h
  | cons f fs=>
   simp only [lZ,an3] at h
   obtain ⟨⟨⟨h1,h2⟩,h3⟩,h4⟩:=h
   exact ⟨an1 h1,iha.1 _ h2,RG h3,ihb.2 _ _ h4⟩
 | st c ih=>
  refine ⟨fun t h=>?_,fun fs off h=>by simp [lZ] at h⟩
  simp only [lZ,an3] at h
  obtain ⟨h1,h2⟩:=h
  split at h1
  ·rename_i fs hu
   exact ⟨⟨fs,hu,ih.2 _ _ h1⟩,tC h2⟩
  ·simp at h1
theorem Qq {A:Type} {n:Nat} {a:A}:∀{l:List (Nat×A)},look n l=some a→(n,a)∈l
 | [],h=>by simp [look] at h
 | (m,b) :: l,h=>by
  simp only [look] at h
  cases hb:Nat.beq n m with
  | true=>
   rw [hb] at h
   have:=an1 hb
   simp only [cond_true,anX] at h
   subst this h
   simp
  | false=>
   rw [hb] at h
   exact .tail _ (Qq h)
theorem Tj {L:Wy} (h:BI P L=true):eF P L.tab:=by
 unfold BI at h
 simp only [an3,aoc] at h
 refine ⟨fun t k ht=>Zj.1 t (h.1 (t,k) (Qq ht)),fun t ht=>?_⟩
 have:=h.2 t (aM.1 ht)
 split at this
 ·rename_i e he; exact ⟨e,he⟩
 ·simp at this
theorem adK {L:Wy}:LA P L.tab:=fun t c x y u v w hp1 hp2 ok1 ok2 _ he=>by simp [Wy.tab] at he
end
end
section
open Go
abbrev DOk (T:iV) (hi:Hint) (fn:Func) (E:Entry):Prop:=∀n (c:Cont (kin E.ps)),Z5 T hi fn E.ps E.rs n c=E.F n c
variable [Fr] {P:Program} {n:Nat}
theorem aD:∀q∈([]:List (Nat×Option Nat×Entry)),aj P n q.2.2:=by simp
theorem aa {f:Nat} {d:Option Nat} {E:Entry} {l:List (Nat×Option Nat×Entry)} (h:aj P n E) (t:∀q∈l,aj P n q.2.2):∀q∈(f,d,E) :: l,aj P n q.2.2:=by
 intro q hq
 rcases an9.1 hq with rfl | hq
 ·exact h
 ·exact t q hq
theorem ak (hm:P.follows .mixedOrders=true) {L:Wy} (hL:BI P L=true) {E:Entry} {fn:Func} (hf:P.funcs[E.f]?=some fn) (hname:(fn.name == "runtime.NumGoroutine")=false) {hi:Hint} (hC:∀q∈hi.calls,aj P n q.2.2)
  (hD:∀n (c:Cont (kin E.ps)),Z5 L.tab hi fn E.ps E.rs n c=E.F n c):aj P n E:=
 RV hm (Tj hL) adK hf hname hC (fun c out h=>by rw [hD]; exact h)
end
section
open Go
def iY {A:Type} (xs:List A) (i:Nat) (d:A) (f:A→A):List A:=xs.set i (f (xs.getD i d))
def dm {R:Type} (step:Nat→Option R) (fin:R):Nat→Nat→R
 | 0,_=>fin
 | m+1,i=>match step i with
  | some r=>r
  | none=>dm step fin m (i+1)
theorem SV {V R:Type} {B:(V→Option R)→V→Option R} (S:Nat→V) (step:Nat→Option (Option R)) (fin:Option R) {m:Nat} (h1:∀L i,i<m→(∀j,j<i→step j=none)→B L (S i)=match step i with | some r=>r | none=>L (S (i+1))) (h2:∀L,(∀j,j<m→step j=none)→B L (S m)=fin) :
  ∀(d i n:Nat),i+d=m→d<n→(∀j,j<i→step j=none)→rounds B n (S i)=dm step fin d i:=by
 intro d
 induction d with
 | zero=>
  intro i n hi hn hp
  cases n with
  | zero=>omega
  | succ n=>
   have:i=m:=by omega
   subst this
   exact h2 _ hp
 | succ d ih=>
  intro i n hi hn hp
  cases n with
  | zero=>omega
  | succ n=>
   show B (rounds B n) (S i)=_
   rw [h1 _ i (by omega) hp]
   unfold dm
   cases hs:step i with
   | some r=>rfl
   | none=>exact ih (i+1) n (by omega) (by omega) (fun j hj=>by
     by_cases e:j=i
     ·rw [e,hs]
     ·exact hp j (by omega))
theorem aQ {V R:Type} {B:(V→Option R)→V→Option R} {v0:V} (S:Nat→V) (step:Nat→Option (Option R)) (fin:Option R) {m n:Nat} (h0:v0=S 0) (hn:m<n) (h1:∀L i,i<m→(∀j,j<i→step j=none)→B L (S i)=match step i with | some r=>r | none=>L (S (i+1))) (h2:∀L,(∀j,j<m→step j=none)→B L (S m)=fin) :
  rounds B n v0=dm step fin m 0:=by
 rw [h0]
 exact SV S step fin h1 h2 m 0 n (by omega) hn (fun j h=>by omega)
theorem U7 {A:Type} (d:A) {xs:List A} {i:Nat} (h:i<xs.length):(xs.take i++List.replicate (xs.length - i) d).set ((i:Int).toNat) xs[i]=xs.take (i+1)++List.replicate (xs.length - (i+1)) d:=by
 rw [an7]
 apply List.ext_getElem
 ·simp; omega
 ·intro j h1 h2
  rw [List.getElem_set]
  split
  ·rename_i e
   subst e
   rw [List.getElem_append_left (by simp; omega)]
   simp
  ·rename_i e
   simp only [List.getElem_append,List.length_take,List.getElem_take,List.getElem_replicate]
   split <;> split <;> first | rfl | omega
theorem dW {A:Type} {l:List A} {i:Nat} (h:i<l.length) (d:A):l.getD ((i:Int).toNat) d=l[i]:=by
 simp [h]
theorem bL {R:Type} {step:Nat→Option R} {fin:R}:∀{m i:Nat},(∀j,i≤j→j<i+m→step j=none)→dm step fin m i=fin:=by
 intro m
 induction m with
 | zero=>intro i _; rfl
 | succ m ih=>
  intro i h
  unfold dm
  rw [h i (aod _) (by omega)]
  exact ih (fun j h1 h2=>h j (by omega) (by omega))
theorem N9 {R:Type} {s1 s2:Nat→Option R} {f1 f2:R} (hf:f1=f2):∀{m i:Nat},(∀j,i≤j→j<i+m→s1 j=s2 j)→dm s1 f1 m i=dm s2 f2 m i:=by
 intro m
 induction m with
 | zero=>intro i _; exact hf
 | succ m ih=>
  intro i h
  unfold dm
  rw [h i (aod _) (by omega)]
  cases s2 i with
  | some r=>rfl
  | none=>exact ih (fun j h1 h2=>h j (by omega) (by omega))
theorem Eh {R:Type} {step:Nat→Option R} {fin r:R} (hc:∀j,step j=none∨step j=some r):∀{m i:Nat},dm step fin m i=r∨dm step fin m i=fin:=by
 intro m
 induction m with
 | zero=>intro i; exact .inr rfl
 | succ m ih=>
  intro i
  unfold dm
  rcases hc i with h | h
  ·rw [h]; exact ih
  ·rw [h]; exact .inl rfl
theorem wrap_i64 {x:Int} (h1 : -9223372036854775808≤x) (h2:x≤9223372036854775807):IntKind.i64.wrap x=x:=by
 simp [IntKind.wrap,IntKind.bits,IntKind.signed]
 omega
theorem aR {i:Nat} {n:Nat} (h:i<n) (hn:n≤9223372036854775807):IntKind.i64.wrap ((i:Int)+1)=((i+1:Nat):Int):=by
 rw [wrap_i64 (by omega) (by omega)]
 omega
theorem aH {i n:Nat} (h:i<n):aK (i:Int) n:=⟨by omega,by omega⟩
end
section
open Go
variable [Fr]
section
variable {P:Program} {cx:Cx} {σ:St} {α:dL} {F:List Nat} {a:Act} {w w':World}
theorem Rel.grown (H:Rel cx σ α F a w) (hO:Pd w w') (ht:w'.tape=w.tape):Rel cx σ α F a w':=H.XH hO.1 hO.2.1 hO.2.2.1 hO.2.2.2 ht
end
end
section
open Go
variable [Fr]
section
variable {P:Program} {cx:Cx} {σ:St} {α:dL} {F:List Nat} {a:Act} {w w':World}
theorem Rel.acT (H:Rel cx σ α F a w) (hO:Pd w w') (ht:w'.tape=w.tape) (G:List Nat) (hG:∀b∈G,w.heap.size≤b∧b<w'.heap.size) (hnd:G.Nodup):Rel cx σ α (G++F) a w':=by
 have hs:∀r,Same σ α σ α r:=fun r=>⟨rfl,rfl,rfl,rfl⟩
 have hch:∀b,b<w.heap.size→hp w' b=hp w b:=hO.2.2.2
 have T:mJ cx σ α F w σ α (G++F) w' (fun _=>[]) (fun _=>[]):=by
  refine ⟨rfl,⟨hO.1,ht,hO.2.1⟩,hO.2.2.1,fun r R hr=>⟨R,hr, ?_⟩,fun r R' _ h=>absurd (hs r) h,fun r R' h1 h2=>by rw [h1] at h2; simp at h2,fun b hb hne=>absurd (hch b hb) hne, ?_, ?_,
   fun r R' _ h=>absurd (hs r) h,fun r R r' R' _ _ _ h=>absurd (hs r) h, ?_,fun r R R' h1 h2 _=>by rw [h1] at h2; simp only [anX] at h2; subst h2; exact ⟨rfl,rfl⟩⟩
  ·cases hd:R.aX with
   | true=>exact .inl ⟨rfl,fun hk=>by unfold Root.aX at hd; rw [hk] at hd; simp at hd⟩
   | false=>exact .inr ⟨rfl,rfl,rfl,aod _,rfl,rfl,fun _=>rfl, .inr ⟨rfl,rfl,hs r⟩⟩
  ·rintro b (⟨r,R,h1,h2,h3⟩ | h)
   ·exact absurd ⟨R,h1,h2⟩ h3
   ·rcases an6.1 h with h | h
    ·exact .inr (.inl (hG b h))
    ·exact .inl h
  ·refine an4.2 ⟨hnd,H.zG,fun b h1 c h2 e=>?_⟩
   have:=(hG b h1).1
   have:=(H.fl c h2).1
   omega
  ·intro j pi b o n h1 h2 hne
   obtain ⟨R,hR,hk,hl,_⟩:=H.kI j pi b o n h1 h2
   exact absurd (hch b ((H.roots _ R hR).mine b (by simp [blk,dU,hk,hl])).1) hne
 exact H.turn T (fun r R _ h=>absurd (hs r) h) (fun r R _ h=>absurd (hs r) h) (fun r R _ h=>absurd (hs r) h)
def O0:(ps:List dF)→Cont (kin ps)→List Value→Prop
 | [],_,[]=>True
 | .val k _ :: ps,c,v :: vs=>(∃cs,VC k v cs∧Vw (fun _=>none) (fun _=>False) k c.1 cs)∧O0 ps c.2 vs
 | .fn f [] :: ps,c,v :: vs=>v=.func (.func f) #[] #[]∧O0 ps c vs
 | .into _ [] :: ps,c,v :: vs=>(∃b,v=.slice b 0 0)∧O0 ps c vs
 | _,_,_=>False
def jU:List dF→Bool
 | []=>true
 | .val k _ :: ps=>k.flat && jU ps
 | .fn _ [] :: ps=>jU ps
 | .into _ [] :: ps=>jU ps
 | _=>false
theorem zF:∀{ps:List dF} {i:Nat} {c:Cont (kin ps)} {vs:List Value},jU ps=true→vs.length=ps.length→(∀j v,vs[j]?=some v→iT cx σ α F w (iF (eP ps i c) (i+j)) v)→O0 ps c vs
 | [],_,_,[],_,_,_=>trivial
 | [],_,_,_ :: _,_,h,_=>by simp at h
 | .val k l :: ps,i,c,[],_,h,_=>by simp at h
 | .val k l :: ps,i,c,v :: vs,hf,hl,h=>by
  simp only [jU,an3] at hf
  have h0:=h 0 v rfl
  have e0:iF (eP (.val k l :: ps) i c) (i+0)=.one (.val k c.1 (bif k.flat then [] else (pV i,0) :: l.map fun j=>(ay j,0))):=by
   simp only [eP,iF,Nat.add_zero]
   rw [show Nat.beq i i=true from Nat.beq_refl i]
   rfl
  rw [e0] at h0
  obtain ⟨cs,h1,h2⟩:=h0 (.inl hf.1)
  refine ⟨⟨cs,h1,iy hf.1 h2⟩,zF (i:=i+1) hf.2 (by simpa using hl) fun j u hu=>?_⟩
  have hj:=h (j+1) u (by simpa using hu)
  have e1:iF (eP (.val k l :: ps) i c) (i+(j+1))=iF (eP ps (i+1) c.2) (i+1+j):=by
   simp only [eP,iF]
   have hb:Nat.beq (i+(j+1)) i=false:=by
    cases hb:Nat.beq (i+(j+1)) i with
    | true=>have:=an1 hb; omega
    | false=>rfl
   rw [hb,show i+(j+1)=i+1+j by omega]
   rfl
  rw [e1] at hj
  exact hj
 | .fn f [] :: ps,i,c,[],_,h,_=>by simp at h
 | .fn f [] :: ps,i,c,v :: vs,hf,hl,h=>by
  have hf':jU ps=true:=hf
  have h0:=h 0 v rfl
  have e0:iF (eP (.fn f [] :: ps) i c) (i+0)=.one (.fn f []):=by
   simp only [eP,iF,Nat.add_zero]
   rw [show Nat.beq i i=true from Nat.beq_refl i]
   rfl
  rw [e0] at h0
  obtain ⟨us,h1,h2⟩:=h0
  refine ⟨?_,zF (i:=i+1) hf' (by simpa using hl) fun j u hu=>?_⟩
  ·cases us with
   | nil=>exact h1
   | cons u us=>exact h2.elim
  ·have hj:=h (j+1) u (by simpa using hu)
   have e1:iF (eP (.fn f [] :: ps) i c) (i+(j+1))=iF (eP ps (i+1) c) (i+1+j):=by
    simp only [eP,iF]
    have hb:Nat.beq (i+(j+1)) i=false:=by
     cases hb:Nat.beq (i+(j+1)) i with
     | true=>have:=an1 hb; omega
     | false=>rfl
    rw [hb,show i+(j+1)=i+1+j by omega]
    rfl
   rw [e1] at hj
   exact hj
 | .fn f (_ :: _) :: _,_,_,_,hf,_,_=>by simp [jU] at hf
 | .ro _ :: _,_,_,_,hf,_,_=>by simp [jU] at hf
 | .rw _ _ _ _ :: _,_,_,_,hf,_,_=>by simp [jU] at hf
 | .jC _ _ _ :: _,_,_,_,hf,_,_=>by simp [jU] at hf
 | .own _ _ :: _,_,_,_,hf,_,_=>by simp [jU] at hf
 | .into _ [] :: ps,i,c,[],_,h,_=>by simp at h
 | .into m [] :: ps,i,c,v :: vs,hf,hl,h=>by
  have hf':jU ps=true:=hf
  have h0:=h 0 v rfl
  have e0:iF (eP (.into m [] :: ps) i c) (i+0)=.one .iP:=by
   simp only [eP,iF,Nat.add_zero]
   rw [show Nat.beq i i=true from Nat.beq_refl i]
   rfl
  rw [e0] at h0
  refine ⟨h0,zF (i:=i+1) hf' (by simpa using hl) fun j u hu=>?_⟩
  have hj:=h (j+1) u (by simpa using hu)
  have e1:iF (eP (.into m [] :: ps) i c) (i+(j+1))=iF (eP ps (i+1) c) (i+1+j):=by
   simp only [eP,iF]
   have hb:Nat.beq (i+(j+1)) i=false:=by
    cases hb:Nat.beq (i+(j+1)) i with
    | true=>have:=an1 hb; omega
    | false=>rfl
   rw [hb,show i+(j+1)=i+1+j by omega]
   rfl
  rw [e1] at hj
  exact hj
 | .into _ (_ :: _) :: _,_,_,_,hf,_,_=>by simp [jU] at hf
theorem yA {σ:St}:∀{ps:List dF} {i:Nat} {c:Cont (jL ps)},jU ps=true→DZ σ ps i c
 | [],_,_,_=>trivial
 | .val k l :: ps,i,c,hf=>by
  simp only [jU,an3] at hf
  exact yA (ps:=ps) (i:=i+1) (c:=c) hf.2
 | .fn f [] :: ps,i,c,hf=>yA (ps:=ps) (i:=i+1) (c:=c) hf
 | .fn f (_ :: _) :: _,_,_,hf=>by simp [jU] at hf
 | .ro _ :: _,_,_,hf=>by simp [jU] at hf
 | .rw _ _ _ _ :: _,_,_,hf=>by simp [jU] at hf
 | .jC _ _ _ :: _,_,_,hf=>by simp [jU] at hf
 | .own _ _ :: _,_,_,hf=>by simp [jU] at hf
 | .into _ [] :: ps,i,c,hf=>yA (ps:=ps) (i:=i+1) (c:=c) hf
 | .into _ (_ :: _) :: _,_,_,hf=>by simp [jU] at hf
def WT (w w':World) (t:TypeId) (k:K) (xs:List (El k)) (v:Value):Prop:=
 (∃p,v=.slice p 0 0∧xs=[])∨∃g cap cur,v=.slice (some ⟨g,0,none⟩) xs.length cap∧w.heap.size≤g∧hp w' g=some (.cells cur t (0,0))∧xs.length≤cap∧cap * k.size≤cur.size∧
  ∀(i:Nat) (hi:i<xs.length),∃ds,Cells (hp w') g (i * k.size) ds∧Vw (fun _=>none) (fun _=>False) k xs[i] ds
theorem NR {n:Nat} {f:FuncId} {ps:List dF} {t:TypeId} {k:K} {E:Nat→Cont (kin ps)→Option (Cont (gZ [.own (.sl t k) [t] [] []]++jL ps))} (hps:jU ps=true) (hk:k.flat=true)
  (h:∀c out,E n c=some out→∀(args:Array Value) (w:World),(∀b,Fr.free b→hp w b=Fr.obj b)→O0 ps c args.toList→Fe P f args w fun v w'=>Pd w w'∧w'.tape=w.tape∧WT w w' t k out.1 v) :
  aj P n ⟨f,ps,[.own (.sl t k) [t] [] []],E⟩:=by
 intro c out hout cx α args w _ _ hsz _ H
 have hA:=zF (cx:=cx) (σ:=bV ps c) (α:=α) (F:=[]) (w:=w) (i:=0) (c:=c) (vs:=args.toList) hps (by simpa using hsz) (fun j v hv=>by
  have:=H.slots j
  rw [Array.getElem?_toList] at hv
  rw [Array.getD_eq_getD_getElem?,hv] at this
  rw [Nat.zero_add]
  exact this)
 have hkt:k.tys=[]:=vX hk
 have hpost:∀v w',(Pd w w'∧w'.tape=w.tape∧WT w w' t k out.1 v)→Post cx ps [.own (.sl t k) [t] [] []] out v w':=by
  rintro v w' ⟨h1,h2,h3⟩
  have hall:((K.sl t k).tys.all fun u=>az u [t])=true:=by simp [K.tys,hkt,az]
  rcases h3 with ⟨p,rfl,hx⟩ | ⟨g,cap,cur,rfl,g1,g2,g3,g4,g5⟩
  ·refine ⟨_,α,[],_,[_],[[]],H.grown h1 h2,rfl,⟨⟨[],[.slice p 0 0],[t], .inl hall,fun _ _ h=>h,BH, ?_⟩,trivial⟩,by simp,fun b hb=>by simp at hb,yA hps⟩
   have e:(Cont.fst (gZ [kJ.own (.sl t k) [t] [] []]) (jL ps) out).1=([]:List (El k)):=hx
   rw [e]
   exact yG
  ·have hlt:g<w'.heap.size:=agB g2
   refine ⟨_,α,[g],_,[_],[[g]],H.acT h1 h2 [g] (fun b hb=>by simp only [aog] at hb; subst hb; exact ⟨g1,hlt⟩) (by simp),rfl,⟨⟨[],[.slice (some ⟨g,0,none⟩) _ cap],[t], .inl hall,fun _ _ h=>h,⟨rfl,by simp⟩, ?_⟩,trivial⟩,by simp,fun b hb=>by simpa using hb,yA hps⟩
   have e:(Cont.fst (gZ [kJ.own (.sl t k) [t] [] []]) (jL ps) out).1=out.1:=rfl
   rw [e]
   unfold Ow
   rw [if_pos (by simp [az])]
   refine ⟨some ⟨g,0,none⟩,_,cap,rfl,rfl,g3, .inr ⟨g,0,cur,0,0,rfl,g2,fun i _=>by omega,by omega,List.replicate (@List.length (El k) out.1) [],by simp,by simp,fun i hi=>?_⟩⟩
   obtain ⟨ds,d1,d2⟩:=g5 i hi
   refine ⟨ds,by rw [Nat.zero_add]; exact d1, ?_⟩
   have:(List.replicate (@List.length (El k) out.1) ([]:List Nat)).getD i []=[]:=by
    rw [aoa,List.getElem?_replicate]
    split <;> rfl
   rw [this]
   exact oG (fun u hu=>by rw [hkt] at hu; simp at hu) (iy hk d2)
 rcases h c out hout args w (fun b hb=>H.fixed hb) hA with ⟨h1,h2⟩ | ⟨v,w',h1,h2⟩
 ·refine .inl ⟨h1,h2.mono ?_⟩
  rintro e w' ⟨v,rfl,hv⟩
  exact ⟨v,rfl,hpost v w' hv⟩
 ·exact .inr ⟨v,w',h1,hpost v w' h2⟩
end
end
section
open Go
variable [Fr]
section
variable {P:Program} {cx:Cx} {σ:St} {α:dL} {F:List Nat} {a:Act} {w w':World}
end
end
section
open Go
section
variable {e:TypeId} {kk:K}
def Rw (e:TypeId) (kk:K) (z:Bool) (tb:Nat→List (El kk)):(k k':K)→El k→El k'→List Nat→Prop
 | .sl f k, .id f',xs,i,ns=>f=e∧f'=e∧∃h:k=kk,h▸(show List (El k) from xs)=tb i∧((i≠(0:Nat)∧ns=[i])∨(z=true∧i=(0:Nat)∧tb 0=[]∧ns=[]))
 | .sl f k, .sl f' k',xs,ys,ns=>f=f'∧k'.size=k.size∧(show List (El k) from xs).length=(show List (El k') from ys).length∧∃nss:List (List Nat),nss.length=(show List (El k) from xs).length∧ns=nss.flatten∧
   ∀(i:Nat) (h1:i<(show List (El k) from xs).length) (h2:i<(show List (El k') from ys).length),Rw e kk z tb k k' ((show List (El k) from xs)[i]) ((show List (El k') from ys)[i]) (nss.getD i [])
 | .pair a b, .pair a' b',x,y,ns=>∃n1 n2,ns=n1++n2∧Rw e kk z tb a a' x.1 y.1 n1∧Rw e kk z tb b b' x.2 y.2 n2
 | .st f, .st f',x,y,ns=>Rw e kk z tb f f' x y ns
 | .int ik, .int jk,x,y,ns=>ik=jk∧(show Int from x)=y∧ns=[]
 | .bool, .bool,x,y,ns=>(show Bool from x)=y∧ns=[]
 | .str, .str,x,y,ns=>(show List Int from x)=y∧ns=[]
 | .unit, .unit,_,_,ns=>ns=[]
 | _,_,_,_,_=>False
theorem Rw.size {z:Bool} {tb:Nat→List (El kk)}:∀{k k':K} {x:El k} {y:El k'} {ns:List Nat},Rw e kk z tb k k' x y ns→k'.size=k.size:=by
 intro k
 induction k with
 | sl f k ih=>intro k' x y ns h; cases k' <;> first | rfl | exact h.elim
 | pair a b iha ihb=>
  intro k' x y ns h
  cases k' with
  | pair a' b'=>unfold Rw at h; obtain ⟨n1,n2,_,h1,h2⟩:=h; simp [K.size,iha h1,ihb h2]
  | _=>exact h.elim
 | st f ih=>
  intro k' x y ns h
  cases k' with
  | st f'=>unfold Rw at h; exact ih (k':=f') (x:=x) (y:=y) (ns:=ns) h
  | _=>exact h.elim
 | int ik=>intro k' x y ns h; cases k' <;> first | rfl | exact h.elim
 | bool=>intro k' x y ns h; cases k' <;> first | rfl | exact h.elim
 | str=>intro k' x y ns h; cases k' <;> first | rfl | exact h.elim
 | unit=>intro k' x y ns h; cases k' <;> first | rfl | exact h.elim
 | gap n=>intro k' x y ns h; cases k' <;> exact h.elim
 | id f=>intro k' x y ns h; cases k' <;> exact h.elim
abbrev Mk:=Nat×Value×List Nat
def aT (l:List Mk):List Nat:=l.flatMap (·.2.2)
theorem Du:∀(l:List (List Mk)),aT l.flatten=(l.map aT).flatten
 | []=>rfl
 | a :: l=>by
  simp only [List.flatten_cons,List.map_cons]
  unfold aT at *
  rw [List.flatMap_append]
  congr 1
  exact Du l
theorem Di {A:Type}:∀{bD fs gs:List (List A)},fs.length=bD.length→gs.length=bD.length→(∀i,i<bD.length→(bD.getD i []).Perm (fs.getD i []++gs.getD i []))→bD.flatten.Perm (fs.flatten++gs.flatten)
 | [],[],[],_,_,_=>.refl _
 | f :: bD,[],_,h,_,_=>by simp at h
 | f :: bD,_ :: _,[],_,h,_=>by simp at h
 | [],_ :: _,_,h,_,_=>by simp at h
 | [],[],_ :: _,_,h,_=>by simp at h
 | f :: bD,a :: fs,b :: gs,h1,h2,h=>by
  have h0:=h 0 (by simp)
  have ht:=Di (bD:=bD) (fs:=fs) (gs:=gs) (by simpa using h1) (by simpa using h2) (fun i hi=>by have:=h (i+1) (by simpa using hi); simpa using this)
  simp only [List.flatten_cons]
  have h0':f.Perm (a++b):=by simpa using h0
  refine (h0'.append ht).trans ?_
  simp only [aoi]
  refine List.Perm.append_left a ?_
  rw [←aoi, ←aoi]
  exact List.Perm.append_right _ List.perm_append_comm
variable [fr:Fr]
abbrev gL (fr:Fr) (iM:Nat→Value) (h0:iM 0=.slice none 0 0) (hs:∀i,∃a n c,iM i=.slice a n c):Fr:=⟨fr.free,fr.obj,iM,h0,hs⟩
theorem Pe {h:Heap} {own:List TypeId} {ok:Nat→Prop} {tb:Nat→List (El kk)}:∀{k k':K} {x:El k} {y:El k'} {ns:List Nat} {cs:List Value} {fo:List Nat},(∀t∈k.tys,az t own=true)→
  Rw e kk false tb k k' x y ns→Ow h own ok k x cs fo→
  ∃(dS:List Mk) (dH:List Nat),dS.map (·.1)=ns∧fo.Perm (dH++aT dS)∧(∀q∈dS,Ow h own ok (.sl e kk) (tb q.1) [q.2.1] q.2.2)∧
   ∀fr':Fr,fr'.free=fr.free→(∀q∈dS,fr'.iM q.1=q.2.1)→@Ow fr' h own ok k' y cs dH:=by
 intro k
 induction k with
 | sl f k ih=>
  intro k' x y ns cs fo hown hR hO
  cases k' with
  | id f'=>
   obtain ⟨rfl,rfl,hk,hx,hi⟩:=hR
   subst hk
   rcases hi with ⟨_,rfl⟩ | ⟨hz,_⟩
   ·have Kb:=hO
    unfold Ow at hO
    rw [if_pos (hown f' (by simp [K.tys]))] at hO
    obtain ⟨a,n,c,rfl,_⟩:=hO
    refine ⟨[(y, .slice a n c,fo)],[],rfl,by simp [aT],fun q hq=>?_,fun fr' _ akP=>⟨rfl, ?_⟩⟩
    ·simp only [aog] at hq
     subst hq
     show Ow h own ok (.sl f' k) (tb y:List (El k)) _ _
     rw [←hx]
     exact Kb
    ·show _=[fr'.iM y]
     rw [akP _ (aog.2 rfl)]
   ·simp at hz
  | sl f' k'=>
   obtain ⟨rfl,hsz,hl,nss,hnl,rfl,hat⟩:=hR
   have hf:az f own=true:=hown f (by simp [K.tys])
   unfold Ow at hO
   rw [if_pos hf] at hO
   obtain ⟨a,n,c,rfl,hn,hnc,hO⟩:=hO
   rcases hO with ⟨hc,rfl⟩ | ⟨b,o,arr,lo,hi,rfl,hb,hfz,hoc,bD,hfl,hfo,hel⟩
   ·have h0:(show List (El k) from x).length=0:=by omega
    refine ⟨[],[], ?_,by simp [aT],fun q hq=>by simp at hq,fun fr' _ _=>?_⟩
    ·have:nss=[]:=List.length_eq_zero_iff.1 (by omega)
     rw [this]; rfl
    ·unfold Ow
     rw [if_pos hf]
     exact ⟨a,n,c,rfl,by omega,hnc, .inl ⟨hc,rfl⟩⟩
   ·have hone:∀i,i<(show List (El k) from x).length→∃q:List Mk×List Nat,∀(h1:i<(show List (El k) from x).length) (h2:i<(show List (El k') from y).length),q.1.map (·.1)=nss.getD i []∧(bD.getD i []).Perm (q.2++aT q.1)∧(∀t∈q.1,Ow h own ok (.sl e kk) (tb t.1) [t.2.1] t.2.2)∧
      ∀fr':Fr,fr'.free=fr.free→(∀t∈q.1,fr'.iM t.1=t.2.1)→∃ds, @Cells h b (o+i * k.size) ds∧@Ow fr' h own ok k' ((show List (El k') from y)[i]) ds q.2:=by
     intro i h1
     obtain ⟨ds,g1,g2⟩:=hel i h1
     obtain ⟨dS,dH,f1,f2,f3,f4⟩:=ih (fun t ht=>hown t (by simp [K.tys,ht])) (hat i h1 (by omega)) g2
     exact ⟨(dS,dH),fun _ _=>⟨f1,f2,f3,fun fr' e1 e2=>⟨ds,g1,f4 fr' e1 e2⟩⟩⟩
    obtain ⟨qs,hql,hq⟩:=GJ hone
    refine ⟨(qs.map (·.1)).flatten,b :: (qs.map (·.2)).flatten, ?_, ?_, ?_,fun fr' e1 e2=>?_⟩
    ·rw [List.map_flatten,List.map_map]
     congr 1
     apply List.ext_getElem
     ·simp; omega
     ·intro i h1 h2
      have hi:i<qs.length:=by simpa using h1
      have:=(hq i hi (by omega) (by omega)).1
      simp only [List.getElem_map,Function.comp_apply]
      rw [this,aoa,aob h2]
      rfl
    ·refine hfo.trans ?_
     rw [Du,List.cons_append]
     refine List.Perm.cons b (Di (by simp; omega) (by simp; omega) fun i hi=>?_)
     have hi':i<qs.length:=by omega
     have:=(hq i hi' (by omega) (by omega)).2.1
     simp only [aoa,List.getElem?_map,aob hi',Option.map_some,Option.getD_some,List.map_map,Function.comp_apply] at this ⊢
     exact this
    ·intro t ht
     obtain ⟨l,hl,ht⟩:=List.mem_flatten.1 ht
     obtain ⟨q,hq',rfl⟩:=aox.1 hl
     obtain ⟨i,hi,rfl⟩:=List.getElem_of_mem hq'
     exact (hq i hi (by omega) (by omega)).2.2.1 t ht
    ·unfold Ow
     rw [if_pos hf]
     refine ⟨_,n,c,rfl,by omega,hnc, .inr ⟨b,o,arr,lo,hi,rfl,hb,hfz, ?_,qs.map (·.2),by rw [List.length_map,hql]; exact hl, .refl _,fun i hi'=>?_⟩⟩
     ·rw [hsz]; exact hoc
     ·have hiq:i<qs.length:=by omega
      obtain ⟨ds,g1,g2⟩:=(hq i hiq (by omega) hi').2.2.2 fr' e1 (fun t ht=>e2 t (List.mem_flatten.2 ⟨_,aox.2 ⟨qs[i],aop hiq,rfl⟩,ht⟩))
      refine ⟨ds, ?_, ?_⟩
      ·rw [hsz]; exact g1
      ·have:(qs.map (·.2)).getD i []=qs[i].2:=by simp [aoa,List.getElem?_map,aob hiq]
       rw [this]
       exact g2
  | _=>exact hR.elim
 | pair a b iha ihb=>
  intro k' x y ns cs fo hown hR hO
  cases k' with
  | pair a' b'=>
   obtain ⟨n1,n2,rfl,r1,r2⟩:=hR
   obtain ⟨c1,c2,f1,f2,rfl,hp,o1,o2⟩:=hO
   obtain ⟨t1,g1,p1,p2,p3,p4⟩:=iha (fun t ht=>hown t (by simp [K.tys,ht])) r1 o1
   obtain ⟨t2,g2,q1,q2,q3,q4⟩:=ihb (fun t ht=>hown t (by simp [K.tys,ht])) r2 o2
   refine ⟨t1++t2,g1++g2,by rw [List.map_append,p1,q1], ?_,fun q hq=>?_,fun fr' e1 e2=>⟨c1,c2,g1,g2,rfl, .refl _,p4 fr' e1 (fun q hq=>e2 q (an2 _ hq)),q4 fr' e1 (fun q hq=>e2 q (anZ _ hq))⟩⟩
   ·refine hp.trans ((p2.append q2).trans ?_)
    have:aT (t1++t2)=aT t1++aT t2:=by simp [aT]
    rw [this]
    simp only [aoi]
    refine List.Perm.append_left g1 ?_
    rw [←aoi, ←aoi]
    exact List.Perm.append_right _ List.perm_append_comm
   ·rcases an6.1 hq with hq | hq
    ·exact p3 q hq
    ·exact q3 q hq
  | _=>exact hR.elim
 | st f ih=>
  intro k' x y ns cs fo hown hR hO
  cases k' with
  | st f'=>
   obtain ⟨dS,dH,f1,f2,f3,f4⟩:=ih (k':=f') (x:=x) (y:=y) (ns:=ns) (cs:=cs) (fo:=fo) hown hR hO
   exact ⟨dS,dH,f1,f2,f3,fun fr' e1 e2=>f4 fr' e1 e2⟩
  | _=>exact hR.elim
 | int ik=>
  intro k' x y ns cs fo hown hR hO
  cases k' with
  | int jk=>
   obtain ⟨rfl,rfl,rfl⟩:=hR
   exact ⟨[],fo,rfl,by simp [aT],fun q hq=>by simp at hq,fun _ _ _=>hO⟩
  | _=>exact hR.elim
 | bool=>
  intro k' x y ns cs fo hown hR hO
  cases k' with
  | bool=>
   obtain ⟨rfl,rfl⟩:=hR
   exact ⟨[],fo,rfl,by simp [aT],fun q hq=>by simp at hq,fun _ _ _=>hO⟩
  | _=>exact hR.elim
 | str=>
  intro k' x y ns cs fo hown hR hO
  cases k' with
  | str=>
   obtain ⟨rfl,rfl⟩:=hR
   exact ⟨[],fo,rfl,by simp [aT],fun q hq=>by simp at hq,fun _ _ _=>hO⟩
  | _=>exact hR.elim
 | unit=>
  intro k' x y ns cs fo hown hR hO
  cases k' with
  | unit=>
   have:ns=[]:=hR
   subst this
   exact ⟨[],fo,rfl,by simp [aT],fun q hq=>by simp at hq,fun _ _ _=>hO⟩
  | _=>exact hR.elim
 | gap n=>intro k' x y ns cs fo _ hR; cases k' <;> exact hR.elim
 | id f=>intro k' x y ns cs fo _ hR; cases k' <;> exact hR.elim
theorem Nf {A B:Type} (f:A→B):∀{nss:List (List B)} {l:List A},l.map f=nss.flatten→∃OW:List (List A),OW.flatten=l∧OW.map (·.map f)=nss
 | [],l,h=>by
  have:l=[]:=by simpa using h
  exact ⟨[],by simp [this],rfl⟩
 | ns :: nss,l,h=>by
  rw [List.flatten_cons,List.map_eq_append_iff] at h
  obtain ⟨l1,l2,rfl,h1,h2⟩:=h
  obtain ⟨OW,g1,g2⟩:=Nf f h2
  exact ⟨l1 :: OW,by simp [g1],by simp [h1,g2]⟩
theorem NC {h:Heap} {own:List TypeId} {ok:Nat→Prop} {tb:Nat→List (El kk)} (fr':Fr):∀{k k':K} {x:El k} {y:El k'} {dS:List Mk} {cs:List Value} {dH:List Nat},(∀t∈k.tys,az t own=true)→
  Rw e kk true tb k k' x y (dS.map (·.1))→@Ow fr' h own ok k' y cs dH→(∀q∈dS, @Ow fr h own ok (.sl e kk) (tb q.1) [q.2.1] q.2.2∧fr'.iM q.1=q.2.1)→@Ow fr h own ok k x cs (dH++aT dS):=by
 intro k
 induction k with
 | sl f k ih=>
  intro k' x y dS cs dH hown hR hO htr
  cases k' with
  | id f'=>
   obtain ⟨rfl,rfl,hk,hx,hi⟩:=hR
   subst hk
   obtain ⟨rfl,hcs⟩:=hO
   have hcs:cs=[fr'.iM y]:=hcs
   subst hcs
   rcases hi with ⟨_,hns⟩ | ⟨_,h0,hx0,hns⟩
   ·cases dS with
    | nil=>simp at hns
    | cons q l=>
     cases l with
     | cons _ _=>simp at hns
     | nil=>
      simp only [List.map_cons,List.map_nil,List.cons.injEq,and_true] at hns
      obtain ⟨g1,g2⟩:=htr q (by simp)
      rw [hns] at g1 g2
      have hx':(show List (El k) from x)=tb y:=hx
      show @Ow fr h own ok (.sl f' k) (show List (El k) from x) _ _
      rw [hx',g2]
      simpa [aT] using g1
   ·have ht:dS=[]:=by simpa using hns
    subst ht
    have hy:y=(0:Nat):=h0
    subst hy
    have hx':(show List (El k) from x)=[]:=hx.trans hx0
    rw [fr'.adx]
    unfold Ow
    rw [if_pos (hown f' (by simp [K.tys]))]
    exact ⟨none,0,0,rfl,by rw [hx']; rfl,aod _, .inl ⟨rfl,rfl⟩⟩
  | sl f' k'=>
   obtain ⟨rfl,hsz,hl,nss,hnl,hns,hat⟩:=hR
   have hf:az f own=true:=hown f (by simp [K.tys])
   unfold Ow at hO ⊢
   rw [if_pos hf] at hO ⊢
   obtain ⟨a,n,c,rfl,hn,hnc,hO⟩:=hO
   obtain ⟨OW,rfl,hts⟩:=Nf (fun q:Mk=>q.1) hns
   have htl:OW.length=nss.length:=by rw [←hts,List.length_map]
   rcases hO with ⟨hc,rfl⟩ | ⟨b,o,arr,lo,hi,rfl,hb,hfz,hoc,bD,hfl,hfo,hel⟩
   ·have h0:(show List (El k) from x).length=0:=by omega
    have:OW=[]:=List.length_eq_zero_iff.1 (by omega)
    subst this
    exact ⟨a,n,c,rfl,by omega,hnc, .inl ⟨hc,rfl⟩⟩
   ·have hone:∀i (hi1:i<(show List (El k) from x).length),∃ds,Cells h b (o+i * k.size) ds∧@Ow fr h own ok k ((show List (El k) from x)[i]) ds (bD.getD i []++aT (OW.getD i [])):=by
     intro i h1
     obtain ⟨ds,g1,g2⟩:=hel i (by omega)
     have hti:i<OW.length:=by omega
     have e1:OW.getD i []=OW[i]:=by simp [hti]
     have e2:nss.getD i []=(OW[i]).map (·.1):=by
      rw [←hts]
      simp [hti]
     have hR':=hat i h1 (by omega)
     rw [e2] at hR'
     refine ⟨ds,by rw [←hsz]; exact g1, ?_⟩
     rw [e1]
     exact ih (fun t ht=>hown t (by simp [K.tys,ht])) hR' g2 (fun q hq=>htr q (List.mem_flatten.2 ⟨_,aop hti,hq⟩))
    refine ⟨_,n,c,rfl,by omega,hnc, .inr ⟨b,o,arr,lo,hi,rfl,hb,hfz,by rw [←hsz]; exact hoc,(List.range (show List (El k) from x).length).map fun i=>bD.getD i []++aT (OW.getD i []),by simp, ?_,fun i h1=>?_⟩⟩
    ·refine (hfo.append_right _).trans ?_
     rw [List.cons_append]
     refine List.Perm.cons b ?_
     rw [Du]
     refine (Di (bD:=(List.range (show List (El k) from x).length).map fun i=>bD.getD i []++aT (OW.getD i [])) (fs:=bD) (gs:=OW.map aT) (by rw [List.length_map,List.length_range]; omega) (by rw [List.length_map,List.length_map,List.length_range]; omega) fun i hi1=>?_).symm
     have hi2:i<(show List (El k) from x).length:=by simpa using hi1
     have hti:i<OW.length:=by omega
     simp [aoa,List.getElem?_map,List.getElem?_range,hi2,hti]
    ·obtain ⟨ds,g1,g2⟩:=hone i h1
     refine ⟨ds,g1, ?_⟩
     have:((List.range (show List (El k) from x).length).map fun i=>bD.getD i []++aT (OW.getD i [])).getD i []=bD.getD i []++aT (OW.getD i []):=by
      simp [aoa,List.getElem?_map,List.getElem?_range,h1]
     rw [this]
     exact g2
  | _=>exact hR.elim
 | pair a b iha ihb=>
  intro k' x y dS cs dH hown hR hO htr
  cases k' with
  | pair a' b'=>
   obtain ⟨n1,n2,hns,r1,r2⟩:=hR
   obtain ⟨c1,c2,f1,f2,rfl,hp,o1,o2⟩:=hO
   rw [List.map_eq_append_iff] at hns
   obtain ⟨t1,t2,rfl,rfl,rfl⟩:=hns
   refine ⟨c1,c2,f1++aT t1,f2++aT t2,rfl, ?_,iha (fun t ht=>hown t (by simp [K.tys,ht])) r1 o1 (fun q hq=>htr q (an2 _ hq)),ihb (fun t ht=>hown t (by simp [K.tys,ht])) r2 o2 (fun q hq=>htr q (anZ _ hq))⟩
   refine (hp.append_right _).trans ?_
   have:aT (t1++t2)=aT t1++aT t2:=by simp [aT]
   rw [this]
   simp only [aoi]
   refine List.Perm.append_left f1 ?_
   rw [←aoi, ←aoi]
   exact List.Perm.append_right _ List.perm_append_comm
  | _=>exact hR.elim
 | st f ih=>
  intro k' x y dS cs dH hown hR hO htr
  cases k' with
  | st f'=>exact ih (k':=f') (x:=x) (y:=y) (dS:=dS) (cs:=cs) (dH:=dH) hown hR hO htr
  | _=>exact hR.elim
 | int ik=>
  intro k' x y dS cs dH hown hR hO htr
  cases k' with
  | int jk=>
   obtain ⟨rfl,rfl,hns⟩:=hR
   have:dS=[]:=by simpa using hns
   subst this
   have e0:dH++aT []=dH:=aoq _
   rw [e0]
   exact hO
  | _=>exact hR.elim
 | bool=>
  intro k' x y dS cs dH hown hR hO htr
  cases k' with
  | bool=>
   obtain ⟨rfl,hns⟩:=hR
   have:dS=[]:=by simpa using hns
   subst this
   have e0:dH++aT []=dH:=aoq _
   rw [e0]
   exact hO
  | _=>exact hR.elim
 | str=>
  intro k' x y dS cs dH hown hR hO htr
  cases k' with
  | str=>
   obtain ⟨rfl,hns⟩:=hR
   have:dS=[]:=by simpa using hns
   subst this
   have e0:dH++aT []=dH:=aoq _
   rw [e0]
   exact hO
  | _=>exact hR.elim
 | unit=>
  intro k' x y dS cs dH hown hR hO htr
  cases k' with
  | unit=>
   have hns:dS.map (·.1)=[]:=hR
   have:dS=[]:=by simpa using hns
   subst this
   have e0:dH++aT []=dH:=aoq _
   rw [e0]
   exact hO
  | _=>exact hR.elim
 | gap n=>intro k' x y dS cs dH _ hR; cases k' <;> exact hR.elim
 | id f=>intro k' x y dS cs dH _ hR; cases k' <;> exact hR.elim
def Dh:K→Bool
 | .id _=>false
 | .sl _ k=>Dh k
 | .pair a b=>Dh a && Dh b
 | .st f=>Dh f
 | _=>true
theorem Xb {h:Heap} {ok:Nat→Prop} (fr':Fr) (hf:fr'.free=fr.free):∀{k:K} {x:El k} {cs:List Value},Dh k=true→@Vw fr h ok k x cs→@Vw fr' h ok k x cs:=by
 intro k
 induction k with
 | sl f k ih=>
  intro x cs hk H
  obtain ⟨a,n,c,e1,e2,e3,H⟩:=H
  refine ⟨a,n,c,e1,e2,e3,fun hn=>?_⟩
  obtain ⟨b,o,ea,hb,ht,H⟩:=H hn
  refine ⟨b,o,ea,hb,ht.imp id (fun h=>by rw [hf]; exact h),fun i hi=>?_⟩
  obtain ⟨ds,h1,h2⟩:=H i hi
  exact ⟨ds,h1,ih hk h2⟩
 | pair a b iha ihb=>
  intro x cs hk H
  simp only [Dh,an3] at hk
  obtain ⟨c1,c2,e,h1,h2⟩:=H
  exact ⟨c1,c2,e,iha hk.1 h1,ihb hk.2 h2⟩
 | st f ih=>intro x cs hk H; exact ih (x:=x) (cs:=cs) hk H
 | id f=>intro x cs hk; simp [Dh] at hk
 | int ik=>intro x cs _ H; exact H
 | bool=>intro x cs _ H; exact H
 | str=>intro x cs _ H; exact H
 | unit=>intro x cs _ H; exact H
 | gap n=>intro x cs _ H; exact H
def zB (cx:Cx) (bad:List Nat):Cx:={ cx with
 par:=fun j=>(cx.par j).map fun pi=>{ pi with bl:=pi.bl.filter fun b=>!az b bad }
 ptrs:=fun _ _ _ _=>False
 refs:=fun _ _=>False }
theorem nQ {cx:Cx} {bad:List Nat} {j:Nat} {EF:UN} (h:(zB cx bad).par j=some EF):∃pi,cx.par j=some pi∧EF={ pi with bl:=pi.bl.filter fun b=>!az b bad }:=by
 simp only [zB,Option.map_eq_some_iff] at h
 obtain ⟨pi,h1,h2⟩:=h
 exact ⟨pi,h1,h2.symm⟩
theorem JL {cx:Cx} {bad:List Nat} {b:Nat}:lU (zB cx bad) b↔lU cx b:=by
 constructor
 ·rintro ⟨j,EF,o,n,h1,h2⟩
  obtain ⟨pi,g1,rfl⟩:=nQ h1
  exact ⟨j,pi,o,n,g1,h2⟩
 ·rintro ⟨j,pi,o,n,h1,h2⟩
  exact ⟨j,{ pi with bl:=pi.bl.filter fun b=>!az b bad },o,n,by simp [zB,h1],h2⟩
def Sc (T:List Tag):Prop:=∀t∈T,fJ t.1=true
def D6:xP→Prop
 | .one .undef=>True
 | .one (.ptr r p n)=>r=ay 0∧p=[]∧n=0
 | .one (.val k _ T)=>Dh k=true∧Sc T
 | .one (.fn _ cs)=>∀c∈cs,Dh c.2.1.1=true∧Sc c.2.2∧c.1=SENT
 | _=>False
section
variable {cx:Cx} {σ:St} {α:dL} {a:Act} {w:World}
theorem YQ {R0 R1:Root} {dH bad:List Nat} (h0:∀r R,aP σ r R→r=ay 0∧R=R0) (h1:aP σ (ay 0) R0) (hk:R1.kind=R0.kind) (hsub:∀b∈dH,b∈α.fo (ay 0)) (hbad:∀b∈bad,b∈α.fo (ay 0)) {T:List Tag} (hT:Sc T) {b:Nat} (h:iQ cx σ α [] w T b) :
  iQ (zB cx bad) (au σ (ay 0) R1) (aG α (ay 0) (α.loc (ay 0)) (α.hdr (ay 0)) dH) [] w T b:=by
 obtain ⟨g1,g2,g3,g4,g5⟩:=h
 refine ⟨g1,g2,fun hb=>g3 (JL.1 hb),fun r R hr hb=>?_,fun hlt=>?_⟩
 ·rcases jw hr with ⟨rfl,rfl,_⟩ | ⟨e,hr'⟩
  ·rw [eG] at hb
   refine g4 _ R0 h1 ?_
   rw [bW]
   unfold iE at hb ⊢
   rw [hk] at hb
   rcases an6.1 hb with h | h
   ·exact an2 _ h
   ·exact anZ _ (hsub b h)
  ·exact absurd (h0 r R hr').1 e
 ·rcases g5 hlt with ⟨j,n,f1,f2⟩ | ⟨j,pi,f1,f2⟩
  ·exact .inl ⟨j,n,f1,f2⟩
  ·refine .inr ⟨j,{ pi with bl:=pi.bl.filter fun b=>!az b bad },by simp [zB,f1], ?_⟩
   refine aoe.2 ⟨f2, ?_⟩
   cases hm:az b bad with
   | false=>rfl
   | true=>
    have hb:=hbad b (aM.1 hm)
    obtain ⟨n,hn⟩:=g4 _ R0 h1 (by rw [bW]; exact anZ _ hb)
    have:=hT _ hn
    rw [oK] at this
    simp at this
theorem JI {σ:St} {tys:List TypeId} {T:List Tag} (h:Sc T):bq σ tys T=true:=oI.2 fun t ht=>.inl (h t ht)
structure Cv (cx:Cx) (σ:St) (α:dL) (R0 R1:Root) (dH bad:List Nat):Prop where
 only:∀r R,aP σ r R→r=ay 0∧R=R0
 lv:aP σ (ay 0) R0
 kind:R1.kind=R0.kind
 tags:R0.tags=[]
 sub:∀b∈dH,b∈α.fo (ay 0)
 bad:∀b∈bad,b∈α.fo (ay 0)
theorem Cv.iQ {R0 R1:Root} {dH bad:List Nat} (L:Cv cx σ α R0 R1 dH bad) {T:List Tag} (hT:Sc T) {b:Nat} (h:Ow.iQ cx σ α [] w T b) :
  Ow.iQ (zB cx bad) (au σ (ay 0) R1) (aG α (ay 0) (α.loc (ay 0)) (α.hdr (ay 0)) dH) [] w T b:=YQ L.only L.lv L.kind L.sub L.bad hT h
theorem Cv.wh {R0 R1:Root} {dH bad:List Nat} (L:Cv cx σ α R0 R1 dH bad):dU (aG α (ay 0) (α.loc (ay 0)) (α.hdr (ay 0)) dH) R1 (ay 0)=dU α R0 (ay 0):=by
 rw [jN]
 unfold wU dU
 rw [L.kind] <;> cases R0.kind <;> rfl
theorem Cv.av (fr':Fr) (hf:fr'.free=fr.free) {R0 R1:Root} {dH bad:List Nat} (L:Cv cx σ α R0 R1 dH bad) {x:xP} {v:Value} (hx:D6 x) (h : @iT fr cx σ α [] w x v) :
  @iT fr' (zB cx bad) (au σ (ay 0) R1) (aG α (ay 0) (α.loc (ay 0)) (α.hdr (ay 0)) dH) [] w x v:=by
 have hv0:bu σ R0:=⟨L.lv.2,by rw [L.tags]; rfl⟩
 cases x with
 | Lc l=>exact hx.elim
 | lit _ _ _=>exact hx.elim
 | one x=>
  cases x with
  | undef=>trivial
  | ptr r p n=>
   obtain ⟨rfl,rfl,rfl⟩:=hx
   refine ⟨h.1,fun R hR _ _ _ _=>?_⟩
   rw [aI] at hR
   have hR:=aow hR
   subst hR
   obtain ⟨_,cs,b,o,hn,e⟩:=h.2 R0 L.lv.1 hv0 (by unfold dY clean; simp [az]) (fun t ht=>by simp [ah] at ht) rfl
   simp only [bG,anX,an8] at hn
   refine ⟨trivial,α.hdr (ay 0),b,o, ?_,e⟩
   simp only [bG]
   rw [L.wh,hn.2]
   simp [aG,upd_same]
  | val k x T=>
   intro _
   obtain ⟨cs,h1,h2⟩:=h (.inr (JI hx.2))
   exact ⟨cs,h1, @Xb fr _ _ fr' hf _ _ _ hx.1 (@gy fr _ _ _ _ (fun _ _=>rfl) (fun b hb=>L.iQ hx.2 hb) _ _ _ h2)⟩
  | fn f cs=>
   obtain ⟨vs,e,hc⟩:=h
   refine ⟨vs,e, ?_⟩
   clear e
   have key:∀(cs:List (TypeId×Dat×List Tag)) (vs:List Value),(∀c∈cs,Dh c.2.1.1=true∧Sc c.2.2∧c.1=SENT)→@kG fr cx σ α [] w cs vs→@kG fr' (zB cx bad) (au σ (ay 0) R1) (aG α (ay 0) (α.loc (ay 0)) (α.hdr (ay 0)) dH) [] w cs vs:=by
    intro cs
    induction cs with
    | nil=>intro vs _ h; cases vs <;> exact h
    | cons c cs ih=>
     intro vs hc h
     cases vs with
     | nil=>exact h
     | cons v vs=>
      obtain ⟨⟨h1,h2⟩,h3⟩:=h
      obtain ⟨g1,g2,g3⟩:=hc c (by simp)
      refine ⟨⟨h1,fun _=>?_⟩,ih vs (fun c hc'=>hc c (by simp [hc'])) h3⟩
      obtain ⟨b,o,ds,e,q1,q2,⟨q3,q4,q5⟩,_⟩:=h2 (JI g2)
      refine ⟨b,o,ds,e,q1, @Xb fr _ _ fr' hf _ _ _ g1 (@gy fr _ _ _ _ (fun _ _=>rfl) (fun b hb=>L.iQ g2 hb) _ _ _ q2),⟨q3,q4,fun r R hr hb=>?_⟩, .inl ⟨g3,g2⟩⟩
      rcases jw hr with ⟨rfl,rfl,_⟩ | ⟨e,hr'⟩
      ·rw [eG] at hb
       refine q5 _ R0 L.lv ?_
       rw [bW]
       unfold iE at hb ⊢
       rw [L.kind] at hb
       rcases an6.1 hb with h | h
       ·exact an2 _ h
       ·exact anZ _ (L.sub b h)
      ·exact absurd (L.only r R hr').1 e
   exact key cs vs hx hc
  | _=>exact hx.elim
theorem Sv:∀{dS:List Mk},(dS.map (·.1)).Nodup→0∉dS.map (·.1)→(∀q∈dS,∃a n c,q.2.1=Value.slice a n c)→∃iM:Nat→Value,iM 0=.slice none 0 0∧(∀i,∃a n c,iM i=.slice a n c)∧∀q∈dS,iM q.1=q.2.1
 | [],_,_,_=>⟨fun _=>.slice none 0 0,rfl,fun _=>⟨none,0,0,rfl⟩,fun q hq=>by simp at hq⟩
 | q :: l,hn,h0,hs=>by
  rw [List.map_cons,aou] at hn
  rw [List.map_cons,an9,not_or] at h0
  obtain ⟨iM,g1,g2,g3⟩:=Sv hn.2 h0.2 (fun q hq=>hs q (by simp [hq]))
  refine ⟨fun i=>if i=q.1 then q.2.1 else iM i,by simp only [if_neg h0.1]; exact g1,fun i=>?_,fun t ht=>?_⟩
  ·by_cases h:i=q.1
   ·simp only [if_pos h]; exact hs q (by simp)
   ·simp only [if_neg h]; exact g2 i
  ·rcases an9.1 ht with rfl | ht
   ·simp only [if_true]
   ·have hne:¬t.1=q.1:=fun e=>hn.1 (aox.2 ⟨t,ht,e⟩)
    simp only [if_neg hne]; exact g3 t ht
theorem Uu {h:Heap} {own:List TypeId} {ok:Nat→Prop} {xs:List (El kk)} {v:Value} {fo:List Nat} (he:az e own=true) (H:Ow h own ok (.sl e kk) xs [v] fo):∃a n c,v=.slice a n c:=by
 unfold Ow at H
 rw [if_pos he] at H
 obtain ⟨a,n,c,hv,_⟩:=H
 simp only [List.cons.injEq,and_true] at hv
 exact ⟨a,n,c,hv⟩
theorem VO (H:Rel cx σ α [] a w) (hw0:cx.w0=w) {R0:Root} (hR0:aP σ (ay 0) R0) (nT:∀r,r≠ay 0→σ.roots r=none) (hpar:R0.kind=.par) (rW:R0.tags=[]) (hown:∀t∈R0.k.tys,az t R0.own=true) (he:az e R0.own=true)
  (hsl:∀s,D6 (σ.slots s)) {k':K} {x':El k'} {tb:Nat→List (El kk)} {ns:List Nat} (hR:Rw e kk false tb R0.k k' R0.x x' ns) (hnd:ns.Nodup) (hn0:0∉ns) (hown':∀t∈k'.tys,az t R0.own=true) :
  ∃(dS:List Mk) (dH:List Nat) (iM:Nat→Value) (h0:iM 0=.slice none 0 0) (hs:∀i,∃a n c,iM i=.slice a n c),dS.map (·.1)=ns∧(α.fo (ay 0)).Perm (dH++aT dS)∧
   (∀q∈dS, @Ow fr (hp w) R0.own (fun _=>False) (.sl e kk) (tb q.1) [q.2.1] q.2.2)∧(∀q∈dS,iM q.1=q.2.1)∧
   @Rel (gL fr iM h0 hs) (zB cx (aT dS)) (au σ (ay 0) { R0 with k:=k',x:=x' }) (aG α (ay 0) (α.loc (ay 0)) (α.hdr (ay 0)) dH) [] a w:=by
 have K:=H.roots _ R0 hR0
 have hv0:bu σ R0:=⟨hR0.2,by rw [rW]; rfl⟩
 have hO:Ow (hp w) R0.own (fun _=>False) R0.k R0.x (α.hdr (ay 0)) (α.fo (ay 0)):=gH (dA hown) (K.ow hv0)
 obtain ⟨dS,dH,g1,g2,g3,g4⟩:=Pe hown hR hO
 obtain ⟨iM,i1,i2,i3⟩:=Sv (dS:=dS) (by rw [g1]; exact hnd) (by rw [g1]; exact hn0) (fun q hq=>Uu he (g3 q hq))
 refine ⟨dS,dH,iM,i1,i2,g1,g2,g3,i3, ?_⟩
 have hblk:blk α R0 (ay 0)=(α.loc (ay 0)).1 :: α.fo (ay 0):=by unfold blk dU; rw [hpar]; rfl
 have hsub:∀b∈dH,b∈α.fo (ay 0):=fun b hb=>g2.mem_iff.2 (an2 _ hb)
 have hbad:∀b∈aT dS,b∈α.fo (ay 0):=fun b hb=>g2.mem_iff.2 (anZ _ hb)
 have L:Cv cx σ α R0 { R0 with k:=k',x:=x' } dH (aT dS):=⟨fun r R hr=>by
  by_cases e:r=ay 0
  ·subst e; refine ⟨rfl, ?_⟩; have:=hr.1; rw [hR0.1] at this; exact (aow this).symm
  ·have:=hr.1; rw [nT r e] at this; simp at this,hR0,rfl,rW,hsub,hbad⟩
 have sI:=K.nd
 rw [hblk] at sI
 have Em:=aou.1 sI
 have qR:=an4.1 (g2.nodup Em.2)
 have hlv:∀{q Q},aP (au σ (ay 0) { R0 with k:=k',x:=x' }) q Q→q=ay 0∧Q={ R0 with k:=k',x:=x' }:=fun {q Q} hq=>by
  rcases jw hq with ⟨rfl,rfl,_⟩ | ⟨e,hq'⟩
  ·exact ⟨rfl,rfl⟩
  ·exact absurd (L.only q Q hq').1 e
 have hlv1:aP (au σ (ay 0) { R0 with k:=k',x:=x' }) (ay 0) { R0 with k:=k',x:=x' }:=⟨aI ..,hR0.2⟩
 have hblk':blk (aG α (ay 0) (α.loc (ay 0)) (α.hdr (ay 0)) dH) { R0 with k:=k',x:=x' } (ay 0)=(α.loc (ay 0)).1 :: dH:=by
  rw [eG]; unfold iE; simp only [hpar]; rfl
 have jJ:∀b∈(α.loc (ay 0)).1 :: dH,Ow.mine (zB cx (aT dS)) w b:=fun b hb=>by
  have hb0:b∈blk α R0 (ay 0):=by
   rw [hblk]
   rcases an9.1 hb with h | h
   ·rw [h]; exact aot
   ·exact aol _ (hsub b h)
  obtain ⟨m1,m2⟩:=K.mine b hb0
  refine ⟨m1, ?_⟩
  rcases m2 with m2 | ⟨j,pi,m2,m3⟩
  ·exact .inl m2
  ·refine .inr ⟨j,{ pi with bl:=pi.bl.filter fun b=>!az b (aT dS) },by simp [zB,m2],aoe.2 ⟨m3, ?_⟩⟩
   have:az b (aT dS)=false:=by
    rw [aV]
    intro hm
    rcases an9.1 hb with h | h
    ·subst h; exact Em.1 (hbad _ hm)
    ·exact qR.2.2 b h b hm rfl
   rw [this]; rfl
 have hpl:=H.oP
 refine @Rel.mk (gL fr iM i1 i2) _ _ _ _ _ _ H.defs H.sz ?_ ?_ ?_ ?_ ?_ ?_ ?_ (fun b hb=>by simp at hb) List.nodup_nil (fun r R hr b hb h=>by simp at h) ?_ ?_ ?_ (fun j p ts v h=>h.elim) (fun j v h=>h.elim)
 ·intro j EF b o n hj hb
  obtain ⟨pi,hj',rfl⟩:=nQ hj
  obtain ⟨R,f1,f2,f3,f4⟩:=H.kI j pi b o n hj' hb
  obtain ⟨e1,rfl⟩:=L.only _ R f1
  rw [e1] at f3 ⊢
  exact ⟨_,hlv1,hpar,by simp [aG,upd_same,f3],by show k'.size=n; rw [hR.size]; exact f4⟩
 ·intro r R hr hk
  obtain ⟨rfl,rfl⟩:=hlv hr
  obtain ⟨j,pi,n,f1,f2,f3⟩:=H.EE _ R0 hR0 hpar
  exact ⟨j,{ pi with bl:=pi.bl.filter fun b=>!az b (aT dS) },n,f1,by simp [zB,f2],by simp [aG,upd_same,f3]⟩
 ·intro s
  exact Cv.av (fr:=fr) (gL fr iM i1 i2) rfl L (hsl s) (H.slots s)
 ·intro s
  have hs:=hsl s
  show xS _ (σ.slots s)
  cases hx:σ.slots s with
  | Lc l=>rw [hx] at hs; exact hs.elim
  | lit _ _ _=>rw [hx] at hs; exact hs.elim
  | one x=>
   rw [hx] at hs
   cases x with
   | undef=>trivial
   | ptr r p n=>obtain ⟨rfl,rfl,rfl⟩:=hs; exact ⟨_,aI .., .inr (aov _)⟩
   | val k x T=>exact fun t ht=>.inl (hs.2 t ht)
   | fn f cs=>exact fun c hc t ht=>.inl ((hs c hc).2.1 t ht)
   | _=>exact hs.elim
 ·intro r R hr
  obtain ⟨rfl,rfl⟩:=hlv hr
  refine @uQ.mk (gL fr iM i1 i2) _ _ _ _ _ _ _ (fun _=>?_) ?_ ?_ ?_ ?_
  ·have e1:(aG α (ay 0) (α.loc (ay 0)) (α.hdr (ay 0)) dH).hdr (ay 0)=α.hdr (ay 0):=by simp [aG,upd_same]
   have e2:(aG α (ay 0) (α.loc (ay 0)) (α.hdr (ay 0)) dH).fo (ay 0)=dH:=by simp [aG,upd_same]
   rw [e1,e2]
   exact @gH (gL fr iM i1 i2) _ _ _ _ _ _ _ _ (dA hown') (g4 (gL fr iM i1 i2) rfl i3)
  ·show ((aG α (ay 0) (α.loc (ay 0)) (α.hdr (ay 0)) dH).hdr (ay 0)).length=k'.size
   rw [hR.size]
   simpa [aG,upd_same] using K.len
  ·intro b o hb
   rw [L.wh] at hb
   obtain ⟨m1,arr,e',lo,hi,m2,m3,m4,m5⟩:=K.mem b o hb
   refine ⟨by simpa [aG,upd_same] using m1,arr,e',lo,hi,m2,m3,by show o+k'.size≤_; rw [hR.size]; exact m4,m5⟩
  ·rw [hblk']
   exact aou.2 ⟨fun h=>Em.1 (hsub _ h),qR.1⟩
  ·intro b hb
   rw [hblk'] at hb
   exact jJ b hb
 ·intro r R hr
  by_cases e:r=ay 0
  ·subst e
   rw [aI] at hr
   have hr:=aow hr
   subst hr
   exact ⟨fun t ht=>by rw [show ({ R0 with k:=k',x:=x' }:Root).tags=R0.tags from rfl,rW] at ht; simp at ht,oK 0,fun n hn=>by rw [show ({ R0 with k:=k',x:=x' }:Root).tags=R0.tags from rfl,rW] at hn; simp at hn⟩
  ·rw [bU _ _ e,nT r e] at hr; simp at hr
 ·intro r R r' R' hr hr' hne
  exact absurd ((hlv hr).1.trans (hlv hr').1.symm) hne
 ·obtain ⟨f1,f2,f3,f4,f5,f6⟩:=H.frame
  refine ⟨f1,f2,f3,f4,fun b _ _=>by show hp w b=hp cx.w0 b; rw [hw0],fun j EF b o n hj hb=>?_⟩
  obtain ⟨pi,hj',rfl⟩:=nQ hj
  exact f6 j pi b o n hj' hb
 ·intro j EF hj hkp
  obtain ⟨pi,hj',rfl⟩:=nQ hj
  obtain ⟨R,f1,f2⟩:=H.uE j pi hj' hkp
  by_cases e:ay j=ay 0
  ·refine ⟨_,by rw [e]; exact aI ..,fun _ b hb hnb=>.inr ⟨by show hp w b=hp cx.w0 b; rw [hw0],by simp,fun q Q hq _=>by rw [(hlv hq).1,e]⟩⟩
  ·rw [nT _ e] at f1; simp at f1
 ·refine ⟨fun j EF hj b hb=>?_,fun b hb=>⟨?_,fun j EF hj hbl=>?_⟩,fun b hb=>hpl.2.2 b hb⟩
  ·obtain ⟨pi,hj',rfl⟩:=nQ hj
   exact hpl.1 j pi hj' b (aoe.1 hb).1
  ·exact (hpl.2.1 b hb).1
  ·obtain ⟨pi,hj',rfl⟩:=nQ hj
   exact (hpl.2.1 b hb).2 j pi hj' (aoe.1 hbl).1
theorem II {h:Heap} {own own':List TypeId} {ok:Nat→Prop}:∀{k:K} {x:El k} {cs:List Value} {fo:List Nat},(∀t∈k.tys,az t own=az t own')→Ow h own ok k x cs fo→Ow h own' ok k x cs fo:=by
 intro k
 induction k with
 | sl f k ih=>
  intro x cs fo ht H
  have hf:=ht f (by simp [K.tys])
  unfold Ow at H ⊢
  cases hm:az f own with
  | true=>
   rw [if_pos hm] at H
   rw [if_pos (by rw [←hf]; exact hm)]
   obtain ⟨a,n,c,e1,e2,e3,H⟩:=H
   refine ⟨a,n,c,e1,e2,e3, ?_⟩
   rcases H with H | ⟨b,o,arr,lo,hi,ea,hb,hz,hs,bD,hl,hp,H⟩
   ·exact .inl H
   ·refine .inr ⟨b,o,arr,lo,hi,ea,hb,hz,hs,bD,hl,hp,fun i hi=>?_⟩
    obtain ⟨ds,h1,h2⟩:=H i hi
    exact ⟨ds,h1,ih (fun t h=>ht t (by simp [K.tys,h])) h2⟩
  | false=>
   rw [if_neg (by rw [hm]; simp)] at H
   rw [if_neg (by rw [←hf,hm]; simp)]
   exact H
 | pair a b iha ihb=>
  intro x cs fo ht H
  obtain ⟨c1,c2,f1,f2,e,hp,h1,h2⟩:=H
  exact ⟨c1,c2,f1,f2,e,hp,iha (fun t h=>ht t (by simp [K.tys,h])) h1,ihb (fun t h=>ht t (by simp [K.tys,h])) h2⟩
 | st f ih=>intro x cs fo ht H; exact ih (x:=x) ht H
 | int ik=>intro x cs fo _ H; exact H
 | bool=>intro x cs fo _ H; exact H
 | id e=>intro x cs fo _ H; exact H
 | str=>intro x cs fo _ H; exact H
 | unit=>intro x cs fo _ H; exact H
 | gap n=>intro x cs fo _ H; exact H
theorem afM {z:Bool} {tb:Nat→List (El kk)} {k k':K} {x:El k} {y:El k'} {ns:List Nat} {v:Value} {cs:List Value} (hR:Rw e kk z tb k k' x y ns) (h:VC k' v cs):VC k v cs:=by
 cases k <;> cases k' <;> first | exact hR.elim | exact h
def RwR (e:TypeId) (kk:K) (tb:Nat→List (El kk)):(rs rs':List kJ)→Cont (gZ rs)→Cont (gZ rs')→List Nat→Prop
 | [],[],_,_,ns=>ns=[]
 | .val k _ _ :: rs, .val k' _ _ :: rs',c,c',ns=>(∃h:k=k',k.flat=true∧Dh k=true∧h▸c.1=c'.1)∧RwR e kk tb rs rs' c.2 c'.2 ns
 | .own k ow _ _ :: rs, .own k' ow' _ _ :: rs',c,c',ns=>∃n1 n2,ns=n1++n2∧((k.tys.all fun t=>az t ow)=true∧(k'.tys.all fun t=>az t ow')=true∧Rw e kk true tb k k' c.1 c'.1 n1)∧RwR e kk tb rs rs' c.2 c'.2 n2
 | _,_,_,_,_=>False
theorem select {dS:List Mk}:∀{ns:List Nat},(∀n∈ns,n∈dS.map (·.1))→∃l:List Mk,l.map (·.1)=ns∧∀q∈l,q∈dS
 | [],_=>⟨[],rfl,fun q hq=>by simp at hq⟩
 | n :: ns,h=>by
  obtain ⟨l,h1,h2⟩:=select (ns:=ns) (fun n hn=>h n (by simp [hn]))
  obtain ⟨q,hq,e⟩:=aox.1 (h n (by simp))
  exact ⟨q :: l,by simp [h1,e],fun t ht=>by
   rcases an9.1 ht with rfl | ht
   ·exact hq
   ·exact h2 t ht⟩
theorem Gr:∀{dS:List Mk},(aT dS).Nodup→(dS.map (·.1)).Nodup→∀q∈dS,q.2.2.Nodup∧∀q'∈dS,q.1≠q'.1→∀b∈q.2.2,b∉q'.2.2
 | [],_,_,q,hq=>by simp at hq
 | t :: l,hn,hm,q,hq=>by
  have e:aT (t :: l)=t.2.2++aT l:=rfl
  rw [e] at hn
  obtain ⟨n1,n2,n3⟩:=an4.1 hn
  rw [List.map_cons,aou] at hm
  have hin:∀q∈l,∀b∈q.2.2,b∈aT l:=fun q hq b hb=>aoy.2 ⟨q,hq,hb⟩
  rcases an9.1 hq with rfl | hql
  ·refine ⟨n1,fun q' hq' hne b hb hb'=>?_⟩
   rcases an9.1 hq' with rfl | hq'
   ·exact hne rfl
   ·exact n3 b hb b (hin q' hq' b hb') rfl
  ·obtain ⟨g1,g2⟩:=Gr n2 hm.2 q hql
   refine ⟨g1,fun q' hq' hne b hb hb'=>?_⟩
   rcases an9.1 hq' with rfl | hq'
   ·exact n3 b hb' b (hin q hql b hb) rfl
   ·exact g2 q' hq' hne b hb hb'
theorem Gs {dS:List Mk} (hn:(aT dS).Nodup) (hm:(dS.map (·.1)).Nodup):∀{l:List Mk},(∀q∈l,q∈dS)→(l.map (·.1)).Nodup→(aT l).Nodup
 | [],_,_=>List.nodup_nil
 | t :: l,hs,hl=>by
  have e:aT (t :: l)=t.2.2++aT l:=rfl
  rw [e]
  rw [List.map_cons,aou] at hl
  refine an4.2 ⟨(Gr hn hm t (hs t (by simp))).1,Gs hn hm (fun q hq=>hs q (by simp [hq])) hl.2,fun b hb c hc ebc=>?_⟩
  subst ebc
  obtain ⟨q,hq,hb'⟩:=aoy.1 hc
  exact (Gr hn hm t (hs t (by simp))).2 q (hs q (by simp [hq])) (fun e=>hl.1 (aox.2 ⟨q,hq,e.symm⟩)) b hb hb'
theorem Yy (fr':Fr) (hf:fr'.free=fr.free) {cx':Cx} {σ':St} {α':dL} {F':List Nat} {w':World} {tb:Nat→List (El kk)} {O:List TypeId} (hO:∀t∈(K.sl e kk).tys,az t O=true)  :
  ∀{rs rs':List kJ} {c:Cont (gZ rs)} {c':Cont (gZ rs')} {vs:List Value} {bD:List (List Nat)} {dS:List Mk},RwR e kk tb rs rs' c c' (dS.map (·.1))→@Jg fr' cx' σ' α' F' w' rs' c' vs bD→
   (∀q∈dS, @Ow fr (hp w') O (fun _=>False) (.sl e kk) (tb q.1) [q.2.1] q.2.2∧fr'.iM q.1=q.2.1)→
   ∃Vn,(∀σ1 dK F1, @Jg fr cx σ1 dK F1 w' rs c vs Vn)∧Vn.flatten.Perm (bD.flatten++aT dS):=by
 intro rs
 induction rs with
 | nil=>
  intro rs' c c' vs bD dS hR hL htr
  cases rs' with
  | cons _ _=>exact hR.elim
  | nil=>
   have ht:dS=[]:=by simpa using (show dS.map (·.1)=[] from hR)
   subst ht
   cases vs with
   | cons _ _=>exact hL.elim
   | nil=>cases bD with
    | cons _ _=>exact hL.elim
    | nil=>exact ⟨[],fun _ _ _=>trivial, .refl _⟩
 | cons r rs ih=>
  intro rs' c c' vs bD dS hR hL htr
  cases rs' with
  | nil=>cases r <;> exact hR.elim
  | cons r' rs'=>
   cases r with
   | into _ _=>exact hR.elim
   | ptr _ _ _ _=>exact hR.elim
   | val k ex pr=>
    cases r' with
    | val k' ex' pr'=>
     obtain ⟨⟨hk,h1,h2,h3⟩,hR⟩:=hR
     subst hk
     cases vs with
     | nil=>exact hL.elim
     | cons v vs=>
      cases bD with
      | nil=>exact hL.elim
      | cons fo bD=>
       obtain ⟨⟨rfl,T,cs,g1,g2,g3⟩,hL⟩:=hL
       obtain ⟨Vn,q1,q2⟩:=ih hR hL htr
       refine ⟨[] :: Vn,fun σ1 dK F1=>⟨⟨rfl,[],cs, .inl h1,g2, ?_⟩,q1 σ1 dK F1⟩,by simpa using q2⟩
       have h3:c.1=c'.1:=h3
       rw [h3]
       exact @iy fr _ _ _ _ _ _ _ h1 (@Xb fr' _ _ fr hf.symm _ _ _ h2 g3)
    | _=>exact hR.elim
   | own k ow ex pr=>
    cases r' with
    | own k' ow' ex' pr'=>
     obtain ⟨n1,n2,hns,⟨a1,a2,a3⟩,hR⟩:=hR
     rw [List.map_eq_append_iff] at hns
     obtain ⟨t1,t2,rfl,rfl,rfl⟩:=hns
     cases vs with
     | nil=>exact hL.elim
     | cons v vs=>
      cases bD with
      | nil=>exact hL.elim
      | cons fo bD=>
       obtain ⟨⟨T,cs,alo,g1,g2,g3,g4⟩,hL⟩:=hL
       obtain ⟨Vn,q1,q2⟩:=ih hR hL (fun q hq=>htr q (anZ _ hq))
       have hk':∀t∈k'.tys,az t alo=true:=fun t ht=>g2 t ht (aoc.1 a2 t ht)
       let O2:List TypeId:=O++k.tys++k'.tys
       have m1:∀t∈k.tys,az t O2=true:=fun t ht=>aM.2 (an2 _ (anZ _ ht))
       have m2:∀t∈k'.tys,az t O2=true:=fun t ht=>aM.2 (anZ _ ht)
       have m3:∀t∈(K.sl e kk).tys,az t O2=true:=fun t ht=>aM.2 (an2 _ (an2 _ (aM.1 (hO t ht))))
       have g5 : @Ow fr' (hp w') O2 (fun _=>False) k' c'.1 cs fo:=@gH fr' _ _ _ _ _ _ _ _ (dA m2) (@II fr' _ _ _ _ _ _ _ _ (fun t ht=>by rw [hk' t ht,m2 t ht]) g4)
       have g6:=NC (fr:=fr) fr' m1 a3 g5 (fun q hq=>by
        obtain ⟨f1,f2⟩:=htr q (an2 _ hq)
        exact ⟨@II fr _ _ _ _ _ _ _ _ (fun t ht=>by rw [hO t ht,m3 t ht]) f1,f2⟩)
       refine ⟨(fo++aT t1) :: Vn,fun σ1 dK F1=>⟨⟨[],cs,O2, .inl a1,fun t ht _=>m1 t ht,afM a3 g3, @gH fr _ _ _ _ _ _ _ _ (dA m1) g6⟩,q1 σ1 dK F1⟩, ?_⟩
       simp only [List.flatten_cons]
       have et:aT (t1++t2)=aT t1++aT t2:=by simp [aT]
       rw [et]
       refine (q2.append_left (fo++aT t1)).trans ?_
       simp only [aoi]
       refine List.Perm.append_left fo ?_
       rw [←aoi, ←aoi]
       exact List.Perm.append_right _ List.perm_append_comm
    | _=>exact hR.elim
end
end
end
section
open Go
section
variable {e:TypeId} {kk:K} [fr:Fr]
variable {cx:Cx} {σ:St} {α:dL} {a:Act} {w:World}
def nR (k:K) (x:El k) (ow wt ht:List TypeId):Root:={ k,x,own:=ow,tags:=[],w:=wt,h:=ht,g:=0,kind:=.par,fixed:=false,keep:=true,ew:=[],eh:=ht }
def AZ (R:Root):St:=⟨fun _=>.one .undef,fun r=>bif Nat.beq r (ay 0) then some R else none⟩
def CU (loc:Nat×Nat) (hdr:List Value) (fo:List Nat):dL:=⟨fun _=>loc,fun _=>hdr,fun _=>fo⟩
theorem qC {R:Root} {r:Nat} {Q:Root} (h:(AZ R).roots r=some Q):r=ay 0∧Q=R:=by
 unfold AZ at h
 simp only at h
 cases hb:Nat.beq r (ay 0) with
 | true=>rw [hb] at h; exact ⟨an1 hb,(aow h).symm⟩
 | false=>rw [hb] at h; simp at h
theorem uz {R:Root}:(AZ R).roots (ay 0)=some R:=by simp [AZ]
theorem Yx (H:Rel cx σ α [] a w) (hw0:cx.w0=w) {R0:Root} (hR0:aP σ (ay 0) R0) (nT:∀r,r≠ay 0→σ.roots r=none) (hpar:R0.kind=.par) (hg0:R0.g=0) (hv0:bu σ R0)
  (hown:∀t∈R0.k.tys,az t R0.own=true) {k':K} (hown':∀t∈k'.tys,az t R0.own=true) (TT:∀t∈(K.sl e kk).tys,az t R0.own=true)
  {tb:Nat→List (El kk)} {dS:List Mk} {dH:List Nat} {iM:Nat→Value} {h0:iM 0=.slice none 0 0} {hs:∀i,∃a n c,iM i=.slice a n c}
  (hperm:(α.fo (ay 0)).Perm (dH++aT dS)) (hnd:(dS.map (·.1)).Nodup) (hrow:∀q∈dS, @Ow fr (hp w) R0.own (fun _=>False) (.sl e kk) (tb q.1) [q.2.1] q.2.2) (hid:∀q∈dS,iM q.1=q.2.1)
  {σ1:St} {dK:dL} {F1:List Nat} {a1:Act} {w':World} (H1 : @Rel (gL fr iM h0 hs) (zB cx (aT dS)) σ1 dK F1 a1 w') {Q:Root} (hQ:σ1.roots (ay 0)=some Q) (hQv:bu σ1 Q) (hQk:Q.k=k') (hQo:∀t∈k'.tys,az t Q.own=true)
  {wt ht:List TypeId} (hwt:mQ Q.w wt=true∧mQ Q.ew wt=true) (hwk:∀t∈(K.sl e kk).tys,t∈wt) (XX:qz∈ht)
  {y:El R0.k} {qE:List Mk} (hP:Rw e kk true tb R0.k Q.k y Q.x (qE.map (·.1))) (hPs:∀q∈qE,q∈dS)
  {rs rs':List kJ} {c:Cont (gZ rs)} {c':Cont (gZ rs')} {vs:List Value} {bD:List (List Nat)} {Gt:List Mk} (hRs:∀q∈Gt,q∈dS) (hRR:RwR e kk tb rs rs' c c' (Gt.map (·.1)))
  (hL : @Jg (gL fr iM h0 hs) (zB cx (aT dS)) σ1 dK F1 w' rs' c' vs bD) (hfn:bD.flatten.Nodup) (Q8:∀b∈bD.flatten,b∈F1) (hall:((Gt++qE).map (·.1)).Nodup)
  (F6:∀j p ts v,cx.ptrs j p ts v→∃k,ts=dY p k) :
  ∃zV J7,Rel cx (AZ (nR R0.k y R0.own wt ht)) zV J7.flatten a1 w'∧Jg cx (AZ (nR R0.k y R0.own wt ht)) zV J7.flatten w' rs c vs J7∧J7.flatten.Nodup:=by
 have K0:=H.roots _ R0 hR0
 have hlv1:aP σ1 (ay 0) Q:=⟨hQ,hQv.1⟩
 have K1:=@Rel.roots (gL fr iM h0 hs) _ _ _ _ _ _ H1 _ Q hlv1
 have acr:=@uQ.ow (gL fr iM h0 hs) _ _ _ _ _ _ _ K1
 have WN:=@uQ.len (gL fr iM h0 hs) _ _ _ _ _ _ _ K1
 have afa:=@uQ.mem (gL fr iM h0 hs) _ _ _ _ _ _ _ K1
 have acp:=@uQ.nd (gL fr iM h0 hs) _ _ _ _ _ _ _ K1
 have Rj:=@uQ.mine (gL fr iM h0 hs) _ _ _ _ _ _ _ K1
 have Su:∀r R,aP σ r R→r=ay 0∧R=R0:=fun r R hr=>by
  by_cases e:r=ay 0
  ·subst e; refine ⟨rfl, ?_⟩; have:=hr.1; rw [hR0.1] at this; exact (aow this).symm
  ·have:=hr.1; rw [nT r e] at this; simp at this
 obtain ⟨j0,pi0,n0,p1,p2,p3⟩:=H.EE _ R0 hR0 hpar
 obtain ⟨Q',q1,q2,q3,q4⟩:=@Rel.kI (gL fr iM h0 hs) _ _ _ _ _ _ H1 j0 { pi0 with bl:=pi0.bl.filter fun b=>!az b (aT dS) } (α.loc (ay 0)).1 (α.loc (ay 0)).2 n0 (by simp [zB,p2]) p3
 rw [←p1] at q1 q3
 have eQ:Q'=Q:=by have:=q1.1; rw [hQ] at this; exact (aow this).symm
 subst eQ
 have Qb:blk α R0 (ay 0)=(α.loc (ay 0)).1 :: α.fo (ay 0):=by unfold blk dU; rw [hpar]; rfl
 have hblk1:blk dK Q' (ay 0)=(α.loc (ay 0)).1 :: dK.fo (ay 0):=by unfold blk dU; rw [q2]; simp [q3]
 have hsize:w.heap.size≤w'.heap.size:=by have:=(@Rel.frame (gL fr iM h0 hs) _ _ _ _ _ _ H1).2.2.2.1; simpa [zB,hw0] using this
 have sI:=K0.nd
 rw [Qb] at sI
 have Em:=aou.1 sI
 have qR:=an4.1 (hperm.nodup Em.2)
 have hbad:∀b∈aT dS,b∈α.fo (ay 0):=fun b hb=>hperm.mem_iff.2 (anZ _ hb)
 have Kc:∀b∈aT dS,b∈blk α R0 (ay 0):=fun b hb=>by rw [Qb]; exact aol _ (hbad b hb)
 have hno:∀b∈aT dS,¬Ow.mine (zB cx (aT dS)) w' b:=fun b hb hm=>by
  have hlt:=(K0.mine b (Kc b hb)).1
  rcases hm.2 with h | ⟨j,EF,h1,h2⟩
  ·have:w.heap.size≤b:=by simpa [zB,hw0] using h
   omega
  ·obtain ⟨pi,_,rfl⟩:=nQ h1
   have:=(aoe.1 h2).2
   rw [aM.2 hb] at this
   simp at this
 have hsame:∀b∈aT dS,hp w' b=hp w b:=fun b hb=>by
  have hlt:=(K0.mine b (Kc b hb)).1
  have:=(@Rel.frame (gL fr iM h0 hs) _ _ _ _ _ _ H1).2.2.2.2.1 b (by simpa [zB,hw0] using hlt) (fun j EF h1 h2=>by
   obtain ⟨pi,_,rfl⟩:=nQ h1
   have:=(aoe.1 h2).2
   rw [aM.2 hb] at this
   simp at this)
  simpa [zB,hw0] using this
 have hrow':∀q∈dS, @Ow fr (hp w') R0.own (fun _=>False) (.sl e kk) (tb q.1) [q.2.1] q.2.2:=fun q hq=>
  bz (fun _ h=>h.elim) (fun _ h=>h) (fun b hb=>hsame b (aoy.2 ⟨q,hq,hb⟩)) (hrow q hq)
 obtain ⟨J7,r1,r2⟩:=Yy (fr:=fr) (cx:=cx) (gL fr iM h0 hs) rfl TT hRR hL (fun q hq=>⟨hrow' q (hRs q hq),hid q (hRs q hq)⟩)
 have Ub:∀b∈aT Gt,b∈aT dS:=fun b hb=>by
  obtain ⟨q,hq,h⟩:=aoy.1 hb
  exact aoy.2 ⟨q,hRs q hq,h⟩
 have Km:∀b∈aT qE,b∈aT dS:=fun b hb=>by
  obtain ⟨q,hq,h⟩:=aoy.1 hb
  exact aoy.2 ⟨q,hPs q hq,h⟩
 have hsel:(aT Gt++aT qE).Nodup:=by
  have:=Gs qR.2.1 hnd (l:=Gt++qE) (fun q hq=>(an6.1 hq).elim (hRs q) (hPs q)) hall
  have e:aT (Gt++qE)=aT Gt++aT qE:=by simp [aT]
  rwa [e] at this
 obtain ⟨hnR,hnP,hRP⟩:=an4.1 hsel
 have hmF:∀b∈F1,Ow.mine (zB cx (aT dS)) w' b:=@Rel.fl (gL fr iM h0 hs) _ _ _ _ _ _ H1
 have hmB:∀b∈(α.loc (ay 0)).1 :: dK.fo (ay 0),Ow.mine (zB cx (aT dS)) w' b:=fun b hb=>Rj b (by rw [hblk1]; exact hb)
 have X5:∀b,Ow.mine (zB cx (aT dS)) w' b→Ow.mine cx w' b:=fun b hb=>⟨hb.1,hb.2.imp (fun h=>h) (fun ⟨j,EF,h1,h2⟩=>by
  obtain ⟨pi,h3,rfl⟩:=nQ h1
  exact ⟨j,pi,h3,(aoe.1 h2).1⟩)⟩
 have TW:∀b∈aT dS,Ow.mine cx w' b:=fun b hb=>by
  obtain ⟨m1,m2⟩:=K0.mine b (Kc b hb)
  exact ⟨by omega,m2⟩
 have agx:J7.flatten.Nodup:=r2.nodup_iff.2 (an4.2 ⟨hfn,hnR,fun b hb c hc ebc=>by subst ebc; exact hno b (Ub b hc) (hmF b (Q8 b hb))⟩)
 have hFm:∀b∈J7.flatten,b∈bD.flatten∨b∈aT Gt:=fun b hb=>an6.1 (r2.mem_iff.1 hb)
 refine ⟨CU (α.loc (ay 0)) (dK.hdr (ay 0)) (dK.fo (ay 0)++aT qE),J7, ?_,r1 _ _ _,agx⟩
 have F5:∀{r R},aP (AZ (nR R0.k y R0.own wt ht)) r R→r=ay 0∧R=nR R0.k y R0.own wt ht:=fun h=>qC h.1
 have MI:blk (CU (α.loc (ay 0)) (dK.hdr (ay 0)) (dK.fo (ay 0)++aT qE)) (nR R0.k y R0.own wt ht) (ay 0)=(α.loc (ay 0)).1 :: (dK.fo (ay 0)++aT qE):=rfl
 have Qc:=acp
 rw [hblk1] at Qc
 have agw:=aou.1 Qc
 have hf1:=@Rel.frame (gL fr iM h0 hs) _ _ _ _ _ _ H1
 have hfd1:=@Rel.iX (gL fr iM h0 hs) _ _ _ _ _ _ H1
 have zJ:∀b o,dU (CU (α.loc (ay 0)) (dK.hdr (ay 0)) (dK.fo (ay 0)++aT qE)) (nR R0.k y R0.own wt ht) (ay 0)=some (b,o)→α.loc (ay 0)=(b,o):=fun b o h=>aow h
 have aau:R0.k.size=Q'.k.size:=hP.size.symm
 have X9:∀j p ts v,cx.ptrs j p ts v→ay j=ay 0:=fun j p ts v h=>by
  obtain ⟨_,R,f1,_⟩:=H.wo j p ts v h
  refine aoj fun e=>?_
  rw [nT _ e] at f1
  simp at f1
 have hdf:=@Rel.defs (gL fr iM h0 hs) _ _ _ _ _ _ H1
 have hsz0:=@Rel.sz (gL fr iM h0 hs) _ _ _ _ _ _ H1
 have hsz1:cx.nt≤a1.tmps.size:=hsz0
 have adb:=@Rel.uE (gL fr iM h0 hs) _ _ _ _ _ _ H1
 refine ⟨hdf,hsz1, ?_, ?_,fun s=>trivial,fun s=>trivial, ?_, ?_, ?_, ?_,agx, ?_, ?_, ?_, ?_, ?_, ?_⟩
 ·intro j pi b o n hj hb
  obtain ⟨R,f1,f2,f3,f4⟩:=H.kI j pi b o n hj hb
  obtain ⟨e1,rfl⟩:=Su _ R f1
  rw [e1] at f3 ⊢
  exact ⟨_,⟨uz,rfl⟩,rfl,f3,f4⟩
 ·intro r R hr _
  obtain ⟨rfl,rfl⟩:=F5 hr
  exact ⟨j0,pi0,n0,p1,p2,p3⟩
 ·intro r R hr
  obtain ⟨rfl,rfl⟩:=F5 hr
  refine ⟨fun _=>?_,by show (dK.hdr (ay 0)).length=R0.k.size; rw [WN,aau],fun b o hb=>?_, ?_,fun b hb=>?_⟩
  ·have o1 : @Ow (gL fr iM h0 hs) (hp w') R0.own (fun _=>False) Q'.k Q'.x (dK.hdr (ay 0)) (dK.fo (ay 0)):=by
    have hk1:∀t∈Q'.k.tys,az t Q'.own=true:=fun t ht=>hQo t (by rw [←hQk]; exact ht)
    have hk2:∀t∈Q'.k.tys,az t R0.own=true:=fun t ht=>hown' t (by rw [←hQk]; exact ht)
    exact @gH (gL fr iM h0 hs) _ _ _ _ _ _ _ _ (dA hk2) (@II (gL fr iM h0 hs) _ _ _ _ _ _ _ _ (fun t ht=>by rw [hk1 t ht,hk2 t ht]) (acr hQv))
   have o2:=NC (fr:=fr) (gL fr iM h0 hs) hown hP o1 (fun q hq=>⟨hrow' q (hPs q hq),hid q (hPs q hq)⟩)
   exact gH (dA hown) o2
  ·have hbo:=zJ b o hb
   obtain ⟨m1,arr,e',lo,hi,m2,m3,m4,m5⟩:=afa b o (by unfold dU; rw [q2]; simp [q3,hbo])
   exact ⟨m1,arr,e',lo,hi,m2,m3,by show o+R0.k.size≤_; rw [aau]; exact m4,fun t ht=>by simp [nR] at ht⟩
  ·rw [MI]
   refine aou.2 ⟨fun h=>?_,an4.2 ⟨agw.2,hnP,fun b hb c hc ebc=>by subst ebc; exact hno b (Km b hc) (hmB b (aol _ hb))⟩⟩
   rcases an6.1 h with h | h
   ·exact agw.1 h
   ·exact hno _ (Km _ h) (hmB _ aot)
  ·rw [MI] at hb
   rcases an9.1 hb with h | h
   ·exact X5 b (hmB b (by rw [h]; exact aot))
   ·rcases an6.1 h with h | h
    ·exact X5 b (hmB b (aol _ h))
    ·exact TW b (Km b h)
 ·intro r R hr
  obtain ⟨rfl,rfl⟩:=qC hr
  exact ⟨fun t ht=>by simp [nR] at ht,oK 0,fun n hn=>by simp [nR] at hn⟩
 ·intro r R r' R' hr hr' hne
  exact absurd ((F5 hr).1.trans (F5 hr').1.symm) hne
 ·intro b hb
  rcases hFm b hb with h | h
  ·exact X5 b (hmF b (Q8 b h))
  ·exact TW b (Ub b h)
 ·intro r R hr b hb Ie
  obtain ⟨rfl,rfl⟩:=F5 hr
  rw [MI] at hb
  have hc1:b∈(α.loc (ay 0)).1 :: dK.fo (ay 0)∨b∈aT qE:=by
   rcases an9.1 hb with h | h
   ·exact .inl (by rw [h]; exact aot)
   ·exact (an6.1 h).imp (fun h=>aol _ h) id
  rcases hc1 with h | h
  ·rcases hFm b Ie with g | g
   ·exact hfd1 _ Q' hlv1 b (by rw [hblk1]; exact h) (Q8 b g)
   ·exact hno b (Ub b g) (hmB b h)
  ·rcases hFm b Ie with g | g
   ·exact hno b (Km b h) (hmF b (Q8 b g))
   ·exact hRP b g b h rfl
 ·obtain ⟨f1,f2,f3,f4,f5,f6⟩:=hf1
  refine ⟨f1,f2,f3,f4,fun b hb hnb=>f5 b hb (fun j EF h1 h2=>?_),fun j pi b o n hj hb=>?_⟩
  ·obtain ⟨pi,h3,rfl⟩:=nQ h1
   exact hnb j pi h3 (aoe.1 h2).1
  ·exact f6 j { pi with bl:=pi.bl.filter fun b=>!az b (aT dS) } b o n (by simp [zB,hj]) hb
 ·intro j pi hj hkp
  obtain ⟨R,f1,_⟩:=H.uE j pi hj hkp
  have ej:ay j=ay 0:=aoj fun ne=>by rw [nT _ ne] at f1; simp at f1
  refine ⟨nR R0.k y R0.own wt ht,by rw [ej]; exact uz,fun _ b hb hnb=>?_⟩
  have hone:∀q Q,aP (AZ (nR R0.k y R0.own wt ht)) q Q→b∈blk (CU (α.loc (ay 0)) (dK.hdr (ay 0)) (dK.fo (ay 0)++aT qE)) Q q→q=ay j:=fun q Q hq _=>by rw [(F5 hq).1,ej]
  by_cases hbt:b∈aT dS
  ·by_cases hbR:b∈aT Gt
   ·obtain ⟨q,hq,h⟩:=aoy.1 hbR
    obtain ⟨t,t1,_,t3⟩:=uu (hrow q (hRs q hq)) b h
    exact .inl ⟨t,by rw [hw0]; exact t3, .inl (hwk t t1)⟩
   ·refine .inr ⟨by rw [hw0]; exact hsame b hbt,fun hF=>?_,hone⟩
    rcases hFm b hF with g | g
    ·exact hno b hbt (hmF b (Q8 b g))
    ·exact hbR g
  ·obtain ⟨R1,k1,k2⟩:=adb j { pi with bl:=pi.bl.filter fun b=>!az b (aT dS) } (by simp [zB,hj]) hkp
   have eR:R1=Q':=by rw [ej,hQ] at k1; exact (aow k1).symm
   subst eR
   rcases k2 hQv.1 b (aoe.2 ⟨hb,by rw [aV.2 hbt]; rfl⟩) (fun h=>hnb (JL.1 h)) with ⟨t,t1,t2⟩ | ⟨t1,t2,_⟩
   ·exact .inl ⟨t,t1, .inl (t2.elim (jM.1 hwt.1 t) (jM.1 hwt.2 t))⟩
   ·refine .inr ⟨t1,fun hF=>?_,hone⟩
    rcases hFm b hF with g | g
    ·exact t2 (Q8 b g)
    ·exact hbt (Ub b g)
 ·refine ⟨fun j pi hj b hb=>H.oP.1 j pi hj b hb,fun b hb=>H.oP.2.1 b hb,fun b hb=>H.oP.2.2 b hb⟩
 ·intro j p ts v hv
  have ej:=X9 j p ts v hv
  obtain ⟨g1,R,f1,f2⟩:=H.wo j p ts v hv
  obtain ⟨k0,rfl⟩:=F6 j p ts v hv
  refine ⟨g1,nR R0.k y R0.own wt ht,by rw [ej]; exact uz,fun hts=>?_⟩
  cases p with
  | cons s p=>exact absurd XX (hts qz (by simp [dY]))
  | nil=>
   refine ⟨g1,fun R' hR' _ _ _ _=>?_⟩
   rw [ej] at hR'
   obtain ⟨_,rfl⟩:=qC hR'
   obtain ⟨_,cs,b,o,hn,ev⟩:=(f2 (fun t ht=>by simp [dY] at ht)).2 R0 (by rw [ej]; exact hR0.1) hv0 (by unfold dY clean; simp [az]) (fun t ht=>by simp [ah] at ht) rfl
   rw [ej] at hn
   simp only [bG,anX,an8] at hn
   refine ⟨trivial,dK.hdr (ay 0),b,o, ?_,ev⟩
   have h2:=hn.2
   unfold dU at h2
   rw [hpar] at h2
   rw [ej]
   simp only [bG]
   exact congrArg (fun z=>some (dK.hdr (ay 0),z)) h2
 ·intro j v hv
  obtain ⟨⟨R,f1⟩,f2⟩:=H.wu j v hv
  have ej:ay j=ay 0:=aoj fun ne=>by rw [nT _ ne] at f1; simp at f1
  rw [ej] at f2
  have:=(f2 R0 hR0 hg0).1
  rw [hpar] at this
  simp at this
end
end
section
open Go
def fH:List dF→Bool
 | []=>true
 | .val k [] :: l=>Dh k && fH l
 | .fn _ ks :: l=>ks.all Dh && fH l
 | _=>false
section
variable [Fr]
theorem tH:∀{ps:List dF} {i:Nat} {c:Cont (kin ps)},fH ps=true→gI ps i c=[]
 | [],_,_,_=>rfl
 | .val k [] :: ps,i,c,h=>by
  simp only [fH,an3] at h
  exact tH (ps:=ps) (i:=i+1) (c:=c.2) h.2
 | .fn f ks :: ps,i,c,h=>by
  simp only [fH,an3] at h
  exact tH (ps:=ps) (i:=i+1) (c:=Cont.snd ks (kin ps) c) h.2
 | .val _ (_ :: _) :: _,_,_,h=>by simp [fH] at h
 | .ro _ :: _,_,_,h=>by simp [fH] at h
 | .rw _ _ _ _ :: _,_,_,h=>by simp [fH] at h
 | .jC _ _ _ :: _,_,_,h=>by simp [fH] at h
 | .own _ _ :: _,_,_,h=>by simp [fH] at h
 | .into _ _ :: _,_,_,h=>by simp [fH] at h
theorem TP (i:Nat):∀{ks:List K} {c:Cont ks},ks.all Dh=true→∀q∈eP.zn i ks c,Dh q.2.1.1=true∧Sc q.2.2∧q.1=SENT
 | [],_,_,q,hq=>by simp [eP.zn] at hq
 | k :: ks,c,h,q,hq=>by
  simp only [List.all_cons,an3] at h
  simp only [eP.zn] at hq
  rcases an9.1 hq with rfl | hq
  ·exact ⟨h.1,fun t ht=>by simp only [aog] at ht; subst ht; exact iN i,rfl⟩
  ·exact TP i h.2 q hq
theorem zS:∀{ps:List dF} {i:Nat} {c:Cont (kin ps)},fH ps=true→∀s,D6 (iF (eP ps i c) s)
 | [],_,_,_,s=>trivial
 | .val k [] :: ps,i,c,h,s=>by
  simp only [fH,an3] at h
  simp only [eP,iF]
  cases Nat.beq s i with
  | true=>
   refine ⟨h.1,fun t ht=>?_⟩
   cases hf:k.flat with
   | true=>rw [hf] at ht; simp at ht
   | false=>rw [hf] at ht; simp at ht; subst ht; exact iN i
  | false=>exact zS (ps:=ps) (i:=i+1) (c:=c.2) h.2 s
 | .fn f ks :: ps,i,c,h,s=>by
  simp only [fH,an3] at h
  simp only [eP,iF]
  cases Nat.beq s i with
  | true=>exact TP i h.1
  | false=>exact zS (ps:=ps) (i:=i+1) (c:=Cont.snd ks (kin ps) c) h.2 s
 | .val _ (_ :: _) :: _,_,_,h,_=>by simp [fH] at h
 | .ro _ :: _,_,_,h,_=>by simp [fH] at h
 | .rw _ _ _ _ :: _,_,_,h,_=>by simp [fH] at h
 | .jC _ _ _ :: _,_,_,h,_=>by simp [fH] at h
 | .own _ _ :: _,_,_,h,_=>by simp [fH] at h
 | .into _ _ :: _,_,_,h,_=>by simp [fH] at h
theorem EM {σ:St}:∀{ps:List dF} {i:Nat} {c:Cont (jL ps)},fH ps=true→DZ σ ps i c
 | [],_,_,_=>trivial
 | .val k [] :: ps,i,c,h=>by
  simp only [fH,an3] at h
  exact EM (ps:=ps) (i:=i+1) (c:=c) h.2
 | .fn f ks :: ps,i,c,h=>by
  simp only [fH,an3] at h
  exact EM (ps:=ps) (i:=i+1) (c:=c) h.2
 | .val _ (_ :: _) :: _,_,_,h=>by simp [fH] at h
 | .ro _ :: _,_,_,h=>by simp [fH] at h
 | .rw _ _ _ _ :: _,_,_,h=>by simp [fH] at h
 | .jC _ _ _ :: _,_,_,h=>by simp [fH] at h
 | .own _ _ :: _,_,_,h=>by simp [fH] at h
 | .into _ _ :: _,_,_,h=>by simp [fH] at h
theorem TH {e:TypeId} {kk:K} {z:Bool} {tb:Nat→List (El kk)} {k k1 k2:K} {x:El k} {y1:El k1} {y2:El k2} {ns:List Nat} (ek:k1=k2) (ey:y2=ek▸y1) (h:Rw e kk z tb k k2 x y2 ns):Rw e kk z tb k k1 x y1 ns:=by
 subst ek
 simp only at ey
 subst ey
 exact h
end
theorem Ui [fr:Fr] {e:TypeId} {kk:K} {P:Program} {n:Nat} {f:FuncId} {k k':K} {ow wt ht sG ht':List TypeId} {rest:List dF} {rs rs':List kJ}
  {F:Nat→Cont (kin (.rw k ow wt ht :: rest))→Option (Cont (gZ rs++jL (.rw k ow wt ht :: rest)))} {F':Nat→Cont (kin (.rw k' ow sG ht' :: rest))→Option (Cont (gZ rs'++jL (.rw k' ow sG ht' :: rest)))}
  (hrest:fH rest=true) (hown:∀t∈k.tys,az t ow=true) (hown':∀t∈k'.tys,az t ow=true) (TT:∀t∈(K.sl e kk).tys,az t ow=true)
  (hE:∀fr:Fr, @aj fr P n ⟨f, .rw k' ow sG ht' :: rest,rs',F'⟩) (hwt:mQ sG wt=true) (hwk:∀t∈(K.sl e kk).tys,t∈wt) (XX:qz∈ht)
  (hF:∀c out,F n c=some out→∃(x':El k') (ns ms1 ms2:List Nat) (tb:Nat→List (El kk)) (out':Cont (gZ rs'++jL (.rw k' ow sG ht' :: rest))),Rw e kk false tb k k' c.1 x' ns∧ns.Nodup∧0∉ns∧F' n (x',c.2)=some out'∧
   RwR e kk tb rs rs' (Cont.fst _ _ out) (Cont.fst _ _ out') ms1∧Rw e kk true tb k k' (Cont.snd _ _ out).1 (Cont.snd _ _ out').1 ms2∧(ms1++ms2).Nodup∧∀m∈ms1++ms2,m∈ns) :
  aj P n ⟨f, .rw k ow wt ht :: rest,rs,F⟩:=by
 intro c out hout cx α args w hnt hw hsz hP H
 obtain ⟨x',ns,ms1,ms2,tb,out',hR,hnd,hn0,hF',hRR,hRP,hmm,hsub⟩:=hF c out hout
 have ha:(k.tys.all fun t=>az t ow)=true:=aoc.2 hown
 have ha':(k'.tys.all fun t=>az t ow)=true:=aoc.2 hown'
 have CW:∀r,(bV (.rw k ow wt ht :: rest) c).roots r=bif Nat.beq r (ay 0) then some (aL k c.1 ow [] .par true) else none:=fun r=>by
  show gK (gI (.rw k ow wt ht :: rest) 0 c) r=_
  simp only [gI,tH hrest,gK,ha,cond_true]
 have hR0:aP (bV (.rw k ow wt ht :: rest) c) (ay 0) (aL k c.1 ow [] .par true):=⟨by rw [CW]; simp,rfl⟩
 have nT:∀r,r≠ay 0→(bV (.rw k ow wt ht :: rest) c).roots r=none:=fun r hr=>by
  rw [CW]
  have:Nat.beq r (ay 0)=false:=by
   cases hb:Nat.beq r (ay 0) with
   | true=>exact absurd (an1 hb) hr
   | false=>rfl
  rw [this]; rfl
 have hsl:∀s,D6 ((bV (.rw k ow wt ht :: rest) c).slots s):=fun s=>by
  show D6 (iF (eP (.rw k ow wt ht :: rest) 0 c) s)
  simp only [eP,iF]
  cases Nat.beq s 0 with
  | true=>exact ⟨rfl,rfl,rfl⟩
  | false=>exact zS hrest s
 obtain ⟨dS,dH,iM,i0,is,g1,g2,g3,g4,XK⟩:=VO H hw hR0 nT rfl rfl hown (TT e (by simp [K.tys])) hsl (k':=k') (x':=x') hR hnd hn0 hown'
 have hst:au (bV (.rw k ow wt ht :: rest) c) (ay 0) { aL k c.1 ow [] .par true with k:=k',x:=x' }=bV (.rw k' ow sG ht' :: rest) (x',c.2):=by
  unfold au bV
  congr 1
  funext r
  show upd (bV (.rw k ow wt ht :: rest) c).roots (ay 0) _ r=gK (gI (.rw k' ow sG ht' :: rest) 0 (x',c.2)) r
  simp only [gI,tH hrest,gK,ha',cond_true]
  unfold upd
  cases hb:Nat.beq r (ay 0) with
  | true=>rfl
  | false=>simp only [cond_false]; rw [CW,hb]; rfl
 rw [hst] at XK
 have hP':FK (zB cx (aT dS)) (.rw k' ow sG ht' :: rest):=by
  refine ⟨fun j EF hj hkp=>?_,fun j p ts v h=>h.elim,fun j v h=>h.elim⟩
  obtain ⟨pi,hj',rfl⟩:=nQ hj
  obtain ⟨k0,o1,o2,o3,h⟩:=hP.par j pi hj' hkp
  cases j with
  | zero=>exact ⟨k',ow,sG,ht', .inl rfl⟩
  | succ j=>exact ⟨k0,o1,o2,o3,by simpa using h⟩
 have h:=hE (gL fr iM i0 is) (x',c.2) out' hF' (zB cx (aT dS)) _ args w hnt hw hsz hP' XK
 have hpost:∀v w', @Post (gL fr iM i0 is) (zB cx (aT dS)) (.rw k' ow sG ht' :: rest) rs' out' v w'→@Post fr cx (.rw k ow wt ht :: rest) rs out v w':=by
  rintro v w' ⟨σ1,dK,F1,a1,vs,bD,H1,rfl,hL,hfn,Q8,hOut,_⟩
  obtain ⟨Q,q1,q2,⟨ek,ey⟩,q4,q5,_⟩:=hOut
  have hRQ:=TH ek ey hRP
  obtain ⟨Gt,t1,t2⟩:=select (dS:=dS) (ns:=ms1) (fun m hm=>by rw [g1]; exact hsub m (an2 _ hm))
  obtain ⟨qE,t3,t4⟩:=select (dS:=dS) (ns:=ms2) (fun m hm=>by rw [g1]; exact hsub m (anZ _ hm))
  have xW:=q5
  unfold CE at xW
  simp only [an3] at xW
  obtain ⟨⟨⟨⟨l1,l2⟩,_⟩,_⟩,_⟩:=xW
  have htr:∀{l:List Nat},mQ l sG=true→mQ l wt=true:=fun hl=>jM.2 fun t ht=>jM.1 hwt t (jM.1 hl t ht)
  obtain ⟨zV,J7,r1,r2,r3⟩:=Yx (fr:=fr) H hw hR0 nT rfl rfl ⟨rfl,rfl⟩ hown hown' TT g2 (by rw [g1]; exact hnd) g3 g4 H1 q1 q2 ek (fun t ht=>by
    have:=aoc.1 q4 t ht
    rw [hown' t ht] at this
    simpa using this) (wt:=wt) (ht:=ht) ⟨htr l1,htr l2⟩ hwk XX (y:=(Cont.snd _ _ out).1) (qE:=qE) (by rw [t3]; exact hRQ) t4 (Gt:=Gt) t2 (by rw [t1]; exact hRR) hL hfn Q8
    (by rw [List.map_append,t1,t3]; exact hmm) (fun j p ts v h=>by obtain ⟨k0,_,h⟩:=hP.ptr j p ts v h; exact ⟨k0,h⟩)
  refine ⟨_,zV,J7.flatten,a1,vs,J7,r1,rfl,r2,r3,fun b hb=>hb,⟨_,uz,⟨rfl,rfl⟩,⟨rfl,rfl⟩, ?_, ?_, .inl ha⟩,EM hrest⟩
  ·exact aoc.2 fun t _=>by simp [nR]; rfl
  ·unfold CE nR
   simp only [mQ,List.all_nil,an3,aoc]
   exact ⟨⟨⟨⟨fun x hx=>aM.2 hx,trivial⟩,fun x hx=>aM.2 hx⟩,fun x hx=>aM.2 hx⟩,rfl⟩
 rcases h with ⟨h1,h2⟩ | ⟨v,w',h1,h2⟩
 ·refine .inl ⟨h1,h2.mono ?_⟩
  rintro e w' ⟨v,rfl,hv⟩
  exact ⟨v,rfl,hpost v w' hv⟩
 ·exact .inr ⟨v,w',h1,hpost v w' h2⟩
end
section
open Go
theorem Jh {e:TypeId} {kk:K} {z:Bool} {tb:Nat→List (El kk)} {k k':K} {t:TypeId} {C:Type} (hsz:k'.size=k.size) (l:List C) (f:C→El k) (g:C→El k') (q:C→List Nat)
  (h:∀c∈l,Rw e kk z tb k k' (f c) (g c) (q c)):Rw e kk z tb (.sl t k) (.sl t k') (l.map f) (l.map g) (l.map q).flatten:=by
 unfold Rw
 refine ⟨rfl,hsz,by simp,l.map q,by simp,rfl,fun i h1 h2=>?_⟩
 have hi:i<l.length:=by simpa using h1
 have:=h l[i] (aop hi)
 simpa [aoa,hi] using this
theorem pM {C:Type} (xs:List C):((xs.zipIdx 1).map (·.2)).Nodup∧0∉(xs.zipIdx 1).map (·.2):=by
 rw [List.zipIdx_map_snd]
 exact ⟨List.nodup_range',by simp⟩
theorem EB {C:Type} (xs:List C):(xs.zipIdx 1).map (·.1)=xs:=List.zipIdx_map_fst ..
theorem Ou {C R:Type} {xs:List C} {m:C→R} {d:R} {x:C} {i:Nat} (h:(x,i)∈xs.zipIdx 1):((xs[i - 1]?).map m).getD d=m x∧i≠0:=by
 obtain ⟨h1,h2,h3⟩:=List.mem_zipIdx h
 have hi:i - 1<xs.length:=by omega
 exact ⟨by simp [hi,h3],by omega⟩
end
section
open Go
section
variable {e:TypeId} {kk:K} [fr:Fr]
variable {cx:Cx} {σ:St} {α:dL} {a:Act} {w:World}
def Li (cx:Cx) (bad:List Nat):Cx:={ zB cx bad with refs:=cx.refs }
theorem Pz {bad:List Nat} {σ':St} {α':dL} {F':List Nat}:∀{cs:List (TypeId×Dat×List Tag)} {vs:List Value},kG (zB cx bad) σ' α' F' w cs vs→kG (Li cx bad) σ' α' F' w cs vs
 | [],[],_=>trivial
 | _ :: _,_ :: _,h=>⟨h.1,Pz h.2⟩
 | [],_ :: _,h=>h.elim
 | _ :: _,[],h=>h.elim
theorem abV {bad:List Nat} {σ':St} {α':dL} {F':List Nat} {x:AV} {v:Value} (h:bI (zB cx bad) σ' α' F' w x v):bI (Li cx bad) σ' α' F' w x v:=by
 cases x with
 | fn f cs=>obtain ⟨vs,h1,h2⟩:=h; exact ⟨vs,h1,Pz h2⟩
 | _=>exact h
theorem W9 {e1 e2:TypeId} {k1 k2:K} {v:Value} {cs:List Value} (h:VC (.sl e1 k1) v cs):VC (.sl e2 k2) v cs:=h
def lQ (k:K) (x:El k) (ow wt ht:List TypeId):Root:={ k,x,own:=ow,tags:=[],w:=wt,h:=ht,g:=0,kind:=.anon,fixed:=true,keep:=true,ew:=[],eh:=ht }
theorem SA (H:Rel cx σ α [] a w) (hw0:cx.w0=w) {R0:Root} {e1:TypeId} {k1:K} (hk0:R0.k=.sl e1 k1) (hR0:aP σ (ay 0) R0) (nT:∀r,r≠ay 0→σ.roots r=none) (CB:R0.kind=.anon) (rW:R0.tags=[]) (hown:∀t∈R0.k.tys,az t R0.own=true) (he:az e R0.own=true)
  (hs0:σ.slots 0=.one (.ref (ay 0) 0)) (hsl:∀s,s≠0→D6 (σ.slots s)) {e2:TypeId} {k2:K} {x':El (.sl e2 k2)} {tb:Nat→List (El kk)} {ns:List Nat} (hR:Rw e kk false tb R0.k (.sl e2 k2) R0.x x' ns) (hnd:ns.Nodup) (hn0:0∉ns) (hown':∀t∈(K.sl e2 k2).tys,az t R0.own=true) (hg0:R0.g=0) :
  ∃(dS:List Mk) (dH:List Nat) (iM:Nat→Value) (h0:iM 0=.slice none 0 0) (hs:∀i,∃a n c,iM i=.slice a n c),dS.map (·.1)=ns∧(α.fo (ay 0)).Perm (dH++aT dS)∧
   (∀q∈dS, @Ow fr (hp w) R0.own (fun _=>False) (.sl e kk) (tb q.1) [q.2.1] q.2.2)∧(∀q∈dS,iM q.1=q.2.1)∧
   @Rel (gL fr iM h0 hs) (Li cx (aT dS)) (au σ (ay 0) { R0 with k:=.sl e2 k2,x:=x' }) (aG α (ay 0) (α.loc (ay 0)) (α.hdr (ay 0)) dH) [] a w:=by
 have KR:=H.roots _ R0 hR0
 have hv0:bu σ R0:=⟨hR0.2,by rw [rW]; rfl⟩
 have hO:Ow (hp w) R0.own (fun _=>False) R0.k R0.x (α.hdr (ay 0)) (α.fo (ay 0)):=gH (dA hown) (KR.ow hv0)
 obtain ⟨dS,dH,g1,g2,g3,g4⟩:=Pe hown hR hO
 obtain ⟨iM,i1,i2,i3⟩:=Sv (dS:=dS) (by rw [g1]; exact hnd) (by rw [g1]; exact hn0) (fun q hq=>Uu he (g3 q hq))
 refine ⟨dS,dH,iM,i1,i2,g1,g2,g3,i3, ?_⟩
 have hblk:blk α R0 (ay 0)=α.fo (ay 0):=by unfold blk dU; rw [CB]; rfl
 have hsub:∀b∈dH,b∈α.fo (ay 0):=fun b hb=>g2.mem_iff.2 (an2 _ hb)
 have hbad:∀b∈aT dS,b∈α.fo (ay 0):=fun b hb=>g2.mem_iff.2 (anZ _ hb)
 have L:Cv cx σ α R0 { R0 with k:=.sl e2 k2,x:=x' } dH (aT dS):=⟨fun r R hr=>by
  by_cases e:r=ay 0
  ·subst e; refine ⟨rfl, ?_⟩; have:=hr.1; rw [hR0.1] at this; exact (aow this).symm
  ·have:=hr.1; rw [nT r e] at this; simp at this,hR0,rfl,rW,hsub,hbad⟩
 have sI:=KR.nd
 rw [hblk] at sI
 have qR:=an4.1 (g2.nodup sI)
 have hlv:∀{q Q},aP (au σ (ay 0) { R0 with k:=.sl e2 k2,x:=x' }) q Q→q=ay 0∧Q={ R0 with k:=.sl e2 k2,x:=x' }:=fun {q Q} hq=>by
  rcases jw hq with ⟨rfl,rfl,_⟩ | ⟨e,hq'⟩
  ·exact ⟨rfl,rfl⟩
  ·exact absurd (L.only q Q hq').1 e
 have hlv1:aP (au σ (ay 0) { R0 with k:=.sl e2 k2,x:=x' }) (ay 0) { R0 with k:=.sl e2 k2,x:=x' }:=⟨aI ..,hR0.2⟩
 have hblk':blk (aG α (ay 0) (α.loc (ay 0)) (α.hdr (ay 0)) dH) { R0 with k:=.sl e2 k2,x:=x' } (ay 0)=dH:=by
  rw [eG]; unfold iE; simp only [CB]; rfl
 have Cn:∀v,bI cx σ α [] w (.ref (ay 0) 0) v→@bI (gL fr iM i1 i2) (Li cx (aT dS)) (au σ (ay 0) { R0 with k:=.sl e2 k2,x:=x' }) (aG α (ay 0) (α.loc (ay 0)) (α.hdr (ay 0)) dH) [] w (.ref (ay 0) 0) v:=by
  intro v hv Q hQ _
  obtain ⟨_,rfl⟩:=hlv hQ
  obtain ⟨h1,h2⟩:=hv R0 hR0 hg0
  refine ⟨CB, ?_⟩
  rw [hk0] at h2
  simp only [aG,upd_same]
  exact W9 h2
 have XN:∀{x:xP} {v:Value},D6 x→@iT fr cx σ α [] w x v→@iT (gL fr iM i1 i2) (Li cx (aT dS)) (au σ (ay 0) { R0 with k:=.sl e2 k2,x:=x' }) (aG α (ay 0) (α.loc (ay 0)) (α.hdr (ay 0)) dH) [] w x v:=fun hx h=>by
  have h1:=Cv.av (fr:=fr) (gL fr iM i1 i2) rfl L hx h
  rename_i x v
  cases x with
  | Lc l=>exact hx.elim
  | lit _ _ _=>exact hx.elim
  | one x=>exact @abV (gL fr iM i1 i2) _ _ _ _ _ _ _ _ h1
 have jJ:∀b∈dH,Ow.mine (Li cx (aT dS)) w b:=fun b hb=>by
  obtain ⟨m1,m2⟩:=KR.mine b (by rw [hblk]; exact hsub b hb)
  refine ⟨m1, ?_⟩
  rcases m2 with m2 | ⟨j,pi,m2,m3⟩
  ·exact .inl m2
  ·refine .inr ⟨j,{ pi with bl:=pi.bl.filter fun b=>!az b (aT dS) },by simp [Li,zB,m2],aoe.2 ⟨m3, ?_⟩⟩
   have:az b (aT dS)=false:=by
    rw [aV]
    intro hm
    exact qR.2.2 b hb b hm rfl
   rw [this]; rfl
 have LU:∀{j:Nat} {EF:UN},(Li cx (aT dS)).par j=some EF→∃pi,cx.par j=some pi∧EF={ pi with bl:=pi.bl.filter fun b=>!az b (aT dS) }:=fun h=>nQ (cx:=cx) h
 have hpl:=H.oP
 refine @Rel.mk (gL fr iM i1 i2) _ _ _ _ _ _ H.defs H.sz ?_ ?_ ?_ ?_ ?_ ?_ ?_ (fun b hb=>by simp at hb) List.nodup_nil (fun r R hr b hb h=>by simp at h) ?_ ?_ ?_ (fun j p ts v h=>h.elim) ?_
 ·intro j EF b o n hj hb
  obtain ⟨pi,hj',rfl⟩:=LU hj
  obtain ⟨R,f1,f2,_⟩:=H.kI j pi b o n hj' hb
  obtain ⟨_,rfl⟩:=L.only _ R f1
  rw [CB] at f2
  simp at f2
 ·intro r R hr hk
  obtain ⟨rfl,rfl⟩:=hlv hr
  have hk:R0.kind=.par:=hk
  rw [CB] at hk
  simp at hk
 ·intro s
  show @iT (gL fr iM i1 i2) _ _ _ _ _ (σ.slots s) _
  by_cases h0:s=0
  ·subst h0
   have:=H.slots 0
   rw [hs0] at this ⊢
   exact Cn _ this
  ·exact XN (hsl s h0) (H.slots s)
 ·intro s
  show xS _ (σ.slots s)
  by_cases h0:s=0
  ·subst h0
   rw [hs0]
   exact ⟨_,aI .., .inr (aov _)⟩
  have hs:=hsl s h0
  cases hx:σ.slots s with
  | Lc l=>rw [hx] at hs; exact hs.elim
  | lit _ _ _=>rw [hx] at hs; exact hs.elim
  | one x=>
   rw [hx] at hs
   cases x with
   | undef=>trivial
   | ptr r p n=>obtain ⟨rfl,rfl,rfl⟩:=hs; exact ⟨_,aI .., .inr (aov _)⟩
   | val k x T=>exact fun t ht=>.inl (hs.2 t ht)
   | fn f cs=>exact fun c hc t ht=>.inl ((hs c hc).2.1 t ht)
   | _=>exact hs.elim
 ·intro r R hr
  obtain ⟨rfl,rfl⟩:=hlv hr
  refine @uQ.mk (gL fr iM i1 i2) _ _ _ _ _ _ _ (fun _=>?_) ?_ ?_ ?_ ?_
  ·have e1:(aG α (ay 0) (α.loc (ay 0)) (α.hdr (ay 0)) dH).hdr (ay 0)=α.hdr (ay 0):=by simp [aG,upd_same]
   have e2:(aG α (ay 0) (α.loc (ay 0)) (α.hdr (ay 0)) dH).fo (ay 0)=dH:=by simp [aG,upd_same]
   rw [e1,e2]
   exact @gH (gL fr iM i1 i2) _ _ _ _ _ _ _ _ (dA hown') (g4 (gL fr iM i1 i2) rfl i3)
  ·show ((aG α (ay 0) (α.loc (ay 0)) (α.hdr (ay 0)) dH).hdr (ay 0)).length=(K.sl e2 k2).size
   rw [hR.size]
   simpa [aG,upd_same] using KR.len
  ·intro b o hb
   rw [L.wh] at hb
   unfold dU at hb
   rw [CB] at hb
   simp at hb
  ·rw [hblk']
   exact qR.1
  ·intro b hb
   rw [hblk'] at hb
   exact jJ b hb
 ·intro r R hr
  by_cases e:r=ay 0
  ·subst e
   rw [aI] at hr
   have hr:=aow hr
   subst hr
   exact ⟨fun t ht=>by rw [show ({ R0 with k:=.sl e2 k2,x:=x' }:Root).tags=R0.tags from rfl,rW] at ht; simp at ht,oK 0,fun n hn=>by rw [show ({ R0 with k:=.sl e2 k2,x:=x' }:Root).tags=R0.tags from rfl,rW] at hn; simp at hn⟩
  ·rw [bU _ _ e,nT r e] at hr; simp at hr
 ·intro r R r' R' hr hr' hne
  exact absurd ((hlv hr).1.trans (hlv hr').1.symm) hne
 ·obtain ⟨f1,f2,f3,f4,f5,f6⟩:=H.frame
  refine ⟨f1,f2,f3,f4,fun b _ _=>by show hp w b=hp cx.w0 b; rw [hw0],fun j EF b o n hj hb=>?_⟩
  obtain ⟨pi,hj',rfl⟩:=LU hj
  exact f6 j pi b o n hj' hb
 ·intro j EF hj hkp
  obtain ⟨pi,hj',rfl⟩:=LU hj
  obtain ⟨R,f1,f2⟩:=H.uE j pi hj' hkp
  by_cases e:ay j=ay 0
  ·refine ⟨_,by rw [e]; exact aI ..,fun _ b hb hnb=>.inr ⟨by show hp w b=hp cx.w0 b; rw [hw0],by simp,fun q Q hq _=>by rw [(hlv hq).1,e]⟩⟩
  ·rw [nT _ e] at f1; simp at f1
 ·refine ⟨fun j EF hj b hb=>?_,fun b hb=>⟨?_,fun j EF hj hbl=>?_⟩,fun b hb=>hpl.2.2 b hb⟩
  ·obtain ⟨pi,hj',rfl⟩:=LU hj
   exact hpl.1 j pi hj' b (aoe.1 hb).1
  ·exact (hpl.2.1 b hb).1
  ·obtain ⟨pi,hj',rfl⟩:=LU hj
   exact (hpl.2.1 b hb).2 j pi hj' (aoe.1 hbl).1
 ·intro j v hv
  have hv:cx.refs j v:=hv
  obtain ⟨⟨R,f1⟩,f2⟩:=H.wu j v hv
  have ej:ay j=ay 0:=aoj fun ne=>by rw [nT _ ne] at f1; simp at f1
  rw [ej] at f2 ⊢
  exact ⟨⟨_,aI ..⟩,Cn v f2⟩
theorem VN (H:Rel cx σ α [] a w) (hw0:cx.w0=w) {R0:Root} {e1:TypeId} {k1:K} (hk0:R0.k=.sl e1 k1) (hR0:aP σ (ay 0) R0) (nT:∀r,r≠ay 0→σ.roots r=none) (CB:R0.kind=.anon) (hg0:R0.g=0) (hv0:bu σ R0)
  (hown:∀t∈R0.k.tys,az t R0.own=true) {e2:TypeId} {k2:K} (hown':∀t∈(K.sl e2 k2).tys,az t R0.own=true) (TT:∀t∈(K.sl e kk).tys,az t R0.own=true)
  {tb:Nat→List (El kk)} {dS:List Mk} {dH:List Nat} {iM:Nat→Value} {h0:iM 0=.slice none 0 0} {hs:∀i,∃a n c,iM i=.slice a n c}
  (hperm:(α.fo (ay 0)).Perm (dH++aT dS)) (hnd:(dS.map (·.1)).Nodup) (hrow:∀q∈dS, @Ow fr (hp w) R0.own (fun _=>False) (.sl e kk) (tb q.1) [q.2.1] q.2.2) (hid:∀q∈dS,iM q.1=q.2.1)
  {σ1:St} {dK:dL} {F1:List Nat} {a1:Act} {w':World} (H1 : @Rel (gL fr iM h0 hs) (Li cx (aT dS)) σ1 dK F1 a1 w') {Q:Root} (hQ:σ1.roots (ay 0)=some Q) (hQv:bu σ1 Q) (hQk:Q.k=.sl e2 k2) (hQo:∀t∈(K.sl e2 k2).tys,az t Q.own=true) (hQn:Q.kind=.anon) (hQg:Q.g=0)
  {wt:List TypeId} (hwt:mQ Q.w wt=true∧mQ Q.ew wt=true)
  {y:El R0.k} {qE:List Mk} (hP:Rw e kk true tb R0.k Q.k y Q.x (qE.map (·.1))) (hPs:∀q∈qE,q∈dS) (hall:(qE.map (·.1)).Nodup)
  (F6:∀j p ts v,cx.ptrs j p ts v→j=0→ts=dY p R0.k) :
  Rel cx (AZ (lQ R0.k y R0.own wt R0.k.tys)) (CU (α.loc (ay 0)) (dK.hdr (ay 0)) (dK.fo (ay 0)++aT qE)) [] a1 w':=by
 have K0:=H.roots _ R0 hR0
 have hlv1:aP σ1 (ay 0) Q:=⟨hQ,hQv.1⟩
 have K1:=@Rel.roots (gL fr iM h0 hs) _ _ _ _ _ _ H1 _ Q hlv1
 have acr:=@uQ.ow (gL fr iM h0 hs) _ _ _ _ _ _ _ K1
 have WN:=@uQ.len (gL fr iM h0 hs) _ _ _ _ _ _ _ K1
 have acp:=@uQ.nd (gL fr iM h0 hs) _ _ _ _ _ _ _ K1
 have Rj:=@uQ.mine (gL fr iM h0 hs) _ _ _ _ _ _ _ K1
 have Su:∀r R,aP σ r R→r=ay 0∧R=R0:=fun r R hr=>by
  by_cases e:r=ay 0
  ·subst e; refine ⟨rfl, ?_⟩; have:=hr.1; rw [hR0.1] at this; exact (aow this).symm
  ·have:=hr.1; rw [nT r e] at this; simp at this
 have Qb:blk α R0 (ay 0)=α.fo (ay 0):=by unfold blk dU; rw [CB]; rfl
 have hblk1:blk dK Q (ay 0)=dK.fo (ay 0):=by unfold blk dU; rw [hQn]; rfl
 have hsize:w.heap.size≤w'.heap.size:=by have:=(@Rel.frame (gL fr iM h0 hs) _ _ _ _ _ _ H1).2.2.2.1; simpa [Li,zB,hw0] using this
 have sI:=K0.nd
 rw [Qb] at sI
 have qR:=an4.1 (hperm.nodup sI)
 have hbad:∀b∈aT dS,b∈α.fo (ay 0):=fun b hb=>hperm.mem_iff.2 (anZ _ hb)
 have Kc:∀b∈aT dS,b∈blk α R0 (ay 0):=fun b hb=>by rw [Qb]; exact hbad b hb
 have LU:∀{j:Nat} {EF:UN},(Li cx (aT dS)).par j=some EF→∃pi,cx.par j=some pi∧EF={ pi with bl:=pi.bl.filter fun b=>!az b (aT dS) }:=fun h=>nQ (cx:=cx) h
 have hno:∀b∈aT dS,¬Ow.mine (Li cx (aT dS)) w' b:=fun b hb hm=>by
  have hlt:=(K0.mine b (Kc b hb)).1
  rcases hm.2 with h | ⟨j,EF,h1,h2⟩
  ·have:w.heap.size≤b:=by simpa [Li,zB,hw0] using h
   omega
  ·obtain ⟨pi,_,rfl⟩:=LU h1
   have:=(aoe.1 h2).2
   rw [aM.2 hb] at this
   simp at this
 have hsame:∀b∈aT dS,hp w' b=hp w b:=fun b hb=>by
  have hlt:=(K0.mine b (Kc b hb)).1
  have:=(@Rel.frame (gL fr iM h0 hs) _ _ _ _ _ _ H1).2.2.2.2.1 b (by simpa [Li,zB,hw0] using hlt) (fun j EF h1 h2=>by
   obtain ⟨pi,_,rfl⟩:=LU h1
   have:=(aoe.1 h2).2
   rw [aM.2 hb] at this
   simp at this)
  simpa [Li,zB,hw0] using this
 have hrow':∀q∈dS, @Ow fr (hp w') R0.own (fun _=>False) (.sl e kk) (tb q.1) [q.2.1] q.2.2:=fun q hq=>
  bz (fun _ h=>h.elim) (fun _ h=>h) (fun b hb=>hsame b (aoy.2 ⟨q,hq,hb⟩)) (hrow q hq)
 have Km:∀b∈aT qE,b∈aT dS:=fun b hb=>by
  obtain ⟨q,hq,h⟩:=aoy.1 hb
  exact aoy.2 ⟨q,hPs q hq,h⟩
 have hnP:(aT qE).Nodup:=Gs qR.2.1 hnd (l:=qE) hPs hall
 have hmB:∀b∈dK.fo (ay 0),Ow.mine (Li cx (aT dS)) w' b:=fun b hb=>Rj b (by rw [hblk1]; exact hb)
 have X5:∀b,Ow.mine (Li cx (aT dS)) w' b→Ow.mine cx w' b:=fun b hb=>⟨hb.1,hb.2.imp (fun h=>h) (fun ⟨j,EF,h1,h2⟩=>by
  obtain ⟨pi,h3,rfl⟩:=LU h1
  exact ⟨j,pi,h3,(aoe.1 h2).1⟩)⟩
 have TW:∀b∈aT dS,Ow.mine cx w' b:=fun b hb=>by
  obtain ⟨m1,m2⟩:=K0.mine b (Kc b hb)
  exact ⟨by omega,m2⟩
 have F5:∀{r R},aP (AZ (lQ R0.k y R0.own wt R0.k.tys)) r R→r=ay 0∧R=lQ R0.k y R0.own wt R0.k.tys:=fun h=>qC h.1
 have MI:blk (CU (α.loc (ay 0)) (dK.hdr (ay 0)) (dK.fo (ay 0)++aT qE)) (lQ R0.k y R0.own wt R0.k.tys) (ay 0)=dK.fo (ay 0)++aT qE:=rfl
 have Qc:=acp
 rw [hblk1] at Qc
 have hf1:=@Rel.frame (gL fr iM h0 hs) _ _ _ _ _ _ H1
 have aau:R0.k.size=Q.k.size:=hP.size.symm
 have X9:∀j p ts v,cx.ptrs j p ts v→ay j=ay 0:=fun j p ts v h=>by
  obtain ⟨_,R,f1,_⟩:=H.wo j p ts v h
  refine aoj fun e=>?_
  rw [nT _ e] at f1
  simp at f1
 have hdf:=@Rel.defs (gL fr iM h0 hs) _ _ _ _ _ _ H1
 have hsz0:=@Rel.sz (gL fr iM h0 hs) _ _ _ _ _ _ H1
 have hsz1:cx.nt≤a1.tmps.size:=hsz0
 have adb:=@Rel.uE (gL fr iM h0 hs) _ _ _ _ _ _ H1
 have akU:=@Rel.wu (gL fr iM h0 hs) _ _ _ _ _ _ H1
 refine ⟨hdf,hsz1, ?_, ?_,fun s=>trivial,fun s=>trivial, ?_, ?_, ?_,fun b hb=>by simp at hb,List.nodup_nil,fun r R hr b hb h=>by simp at h, ?_, ?_, ?_, ?_, ?_⟩
 ·intro j pi b o n hj hb
  obtain ⟨R,f1,f2,_⟩:=H.kI j pi b o n hj hb
  obtain ⟨_,rfl⟩:=Su _ R f1
  rw [CB] at f2
  simp at f2
 ·intro r R hr hk
  obtain ⟨rfl,rfl⟩:=F5 hr
  simp [lQ] at hk
 ·intro r R hr
  obtain ⟨rfl,rfl⟩:=F5 hr
  refine ⟨fun _=>?_,by show (dK.hdr (ay 0)).length=R0.k.size; rw [WN,aau],fun b o hb=>by simp [dU,lQ] at hb, ?_,fun b hb=>?_⟩
  ·have o1 : @Ow (gL fr iM h0 hs) (hp w') R0.own (fun _=>False) Q.k Q.x (dK.hdr (ay 0)) (dK.fo (ay 0)):=by
    have hk1:∀t∈Q.k.tys,az t Q.own=true:=fun t ht=>hQo t (by rw [←hQk]; exact ht)
    have hk2:∀t∈Q.k.tys,az t R0.own=true:=fun t ht=>hown' t (by rw [←hQk]; exact ht)
    exact @gH (gL fr iM h0 hs) _ _ _ _ _ _ _ _ (dA hk2) (@II (gL fr iM h0 hs) _ _ _ _ _ _ _ _ (fun t ht=>by rw [hk1 t ht,hk2 t ht]) (acr hQv))
   have o2:=NC (fr:=fr) (gL fr iM h0 hs) hown hP o1 (fun q hq=>⟨hrow' q (hPs q hq),hid q (hPs q hq)⟩)
   exact gH (dA hown) o2
  ·rw [MI]
   exact an4.2 ⟨Qc,hnP,fun b hb c hc ebc=>by subst ebc; exact hno b (Km b hc) (hmB b hb)⟩
  ·rw [MI] at hb
   rcases an6.1 hb with h | h
   ·exact X5 b (hmB b h)
   ·exact TW b (Km b h)
 ·intro r R hr
  obtain ⟨rfl,rfl⟩:=qC hr
  exact ⟨fun t ht=>by simp [lQ] at ht,oK 0,fun n hn=>by simp [lQ] at hn⟩
 ·intro r R r' R' hr hr' hne
  exact absurd ((F5 hr).1.trans (F5 hr').1.symm) hne
 ·obtain ⟨f1,f2,f3,f4,f5,f6⟩:=hf1
  refine ⟨f1,f2,f3,f4,fun b hb hnb=>f5 b hb (fun j EF h1 h2=>?_),fun j pi b o n hj hb=>?_⟩
  ·obtain ⟨pi,h3,rfl⟩:=LU h1
   exact hnb j pi h3 (aoe.1 h2).1
  ·exact f6 j { pi with bl:=pi.bl.filter fun b=>!az b (aT dS) } b o n (by simp [Li,zB,hj]) hb
 ·intro j pi hj hkp
  obtain ⟨R,f1,_⟩:=H.uE j pi hj hkp
  have ej:ay j=ay 0:=aoj fun ne=>by rw [nT _ ne] at f1; simp at f1
  refine ⟨lQ R0.k y R0.own wt R0.k.tys,by rw [ej]; exact uz,fun _ b hb hnb=>?_⟩
  have hone:∀q Q,aP (AZ (lQ R0.k y R0.own wt R0.k.tys)) q Q→b∈blk (CU (α.loc (ay 0)) (dK.hdr (ay 0)) (dK.fo (ay 0)++aT qE)) Q q→q=ay j:=fun q Q hq _=>by rw [(F5 hq).1,ej]
  by_cases hbt:b∈aT dS
  ·exact .inr ⟨by rw [hw0]; exact hsame b hbt,by simp,hone⟩
  ·obtain ⟨R1,q1,q2⟩:=adb j { pi with bl:=pi.bl.filter fun b=>!az b (aT dS) } (by simp [Li,zB,hj]) hkp
   have eR:R1=Q:=by rw [ej,hQ] at q1; exact (aow q1).symm
   subst eR
   rcases q2 hQv.1 b (aoe.2 ⟨hb,by rw [aV.2 hbt]; rfl⟩) (fun h=>hnb (JL.1 h)) with ⟨t,t1,t2⟩ | ⟨t1,t2,_⟩
   ·exact .inl ⟨t,t1, .inl (t2.elim (jM.1 hwt.1 t) (jM.1 hwt.2 t))⟩
   ·exact .inr ⟨t1,by simp,hone⟩
 ·refine ⟨fun j pi hj b hb=>H.oP.1 j pi hj b hb,fun b hb=>H.oP.2.1 b hb,fun b hb=>H.oP.2.2 b hb⟩
 ·intro j p ts v hv
  have ej:=X9 j p ts v hv
  have ej0:j=0:=by unfold ay at ej; omega
  obtain ⟨g1,R,f1,f2⟩:=H.wo j p ts v hv
  have hts:=F6 j p ts v hv ej0
  refine ⟨g1,lQ R0.k y R0.own wt R0.k.tys,by rw [ej]; exact uz,fun hno'=>?_⟩
  refine ⟨g1,fun R' hR' _ _ _ hsome=>?_⟩
  rw [ej] at hR'
  obtain ⟨_,rfl⟩:=qC hR'
  have hsome:(aS p R0.k y).isSome=true:=hsome
  cases p with
  | nil=>
   have hRR:R=R0:=by rw [ej,hR0.1] at f1; exact (aow f1).symm
   obtain ⟨_,cs,b,o,hn,ev⟩:=(f2 (fun t ht=>by rw [hts] at ht; simp [dY] at ht)).2 R0 (by rw [ej]; exact hR0.1) hv0 (by unfold dY clean; simp [az]) (fun t ht=>by simp [ah] at ht) rfl
   rw [ej] at hn
   simp only [bG,anX,an8] at hn
   have h2:=hn.2
   unfold dU at h2
   rw [CB] at h2
   simp at h2
  | cons s p=>
   cases s with
   | fO m=>
    rw [hk0] at hts
    have:aS (.fO m :: p) R0.k y=none:=by
     have hg:∀(k:K) (z:El k),k=.sl e1 k1→aS (.fO m :: p) k z=none:=by
      intro k z hk; subst hk; rfl
     exact hg _ y hk0
    rw [this] at hsome; simp at hsome
   | idx i=>
    exfalso
    refine hno' e1 ?_ ?_
    ·rw [hts,hk0]; simp [dY,ah]
    ·show e1∈R0.k.tys
     rw [hk0]; simp [K.tys]
 ·intro j v hv
  obtain ⟨⟨R,f1⟩,f2⟩:=H.wu j v hv
  have ej:ay j=ay 0:=aoj fun ne=>by rw [nT _ ne] at f1; simp at f1
  obtain ⟨_,q2⟩:=akU j v hv
  rw [ej] at q2 ⊢
  refine ⟨⟨_,uz⟩,fun R' hR' _=>?_⟩
  obtain ⟨_,rfl⟩:=F5 hR'
  obtain ⟨z1,z2⟩:=q2 Q hlv1 hQg
  refine ⟨rfl, ?_⟩
  show VC R0.k v (dK.hdr (ay 0))
  rw [hk0]
  rw [hQk] at z2
  exact W9 z2
end
theorem Yw [fr:Fr] {e e1 e2:TypeId} {kk k1 k2:K} {P:Program} {n:Nat} {f:FuncId} {ow wt sG:List TypeId} {rest:List dF}
  {F:Nat→Cont (kin (.jC (.sl e1 k1) ow wt :: rest))→Option (Cont (gZ [.into 0 []]++jL (.jC (.sl e1 k1) ow wt :: rest)))} {F':Nat→Cont (kin (.jC (.sl e2 k2) ow sG :: rest))→Option (Cont (gZ [.into 0 []]++jL (.jC (.sl e2 k2) ow sG :: rest)))}
  (hrest:fH rest=true) (hown:∀t∈(K.sl e1 k1).tys,az t ow=true) (hown':∀t∈(K.sl e2 k2).tys,az t ow=true) (TT:∀t∈(K.sl e kk).tys,az t ow=true)
  (hE:∀fr:Fr, @aj fr P n ⟨f, .jC (.sl e2 k2) ow sG :: rest,[.into 0 []],F'⟩) (hwt:mQ sG wt=true)
  (hF:∀c out,F n c=some out→∃(x':El (.sl e2 k2)) (ns ms:List Nat) (tb:Nat→List (El kk)) (out':Cont (gZ [.into 0 []]++jL (.jC (.sl e2 k2) ow sG :: rest))),Rw e kk false tb (.sl e1 k1) (.sl e2 k2) c.1 x' ns∧ns.Nodup∧0∉ns∧F' n (x',c.2)=some out'∧
   (show Int from out.1)=(show Int from out'.1)∧Rw e kk true tb (.sl e1 k1) (.sl e2 k2) out.2.1 out'.2.1 ms∧ms.Nodup∧∀m∈ms,m∈ns) :
  aj P n ⟨f, .jC (.sl e1 k1) ow wt :: rest,[.into 0 []],F⟩:=by
 intro c out hout cx α args w hnt hw hsz hP H
 obtain ⟨x',ns,ms,tb,out',hR,hnd,hn0,hF',hRI,hRP,hmm,hsub⟩:=hF c out hout
 have ha:((K.sl e1 k1).tys.all fun t=>az t ow)=true:=aoc.2 hown
 have ha':((K.sl e2 k2).tys.all fun t=>az t ow)=true:=aoc.2 hown'
 have CW:∀r,(bV (.jC (.sl e1 k1) ow wt :: rest) c).roots r=bif Nat.beq r (ay 0) then some { aL (.sl e1 k1) c.1 ow [] .anon true with fixed:=true } else none:=fun r=>by
  show gK (gI (.jC (.sl e1 k1) ow wt :: rest) 0 c) r=_
  simp only [gI,tH hrest,gK,ha,cond_true]
  rfl
 have hR0:aP (bV (.jC (.sl e1 k1) ow wt :: rest) c) (ay 0) { aL (.sl e1 k1) c.1 ow [] .anon true with fixed:=true }:=⟨by rw [CW]; simp,rfl⟩
 have nT:∀r,r≠ay 0→(bV (.jC (.sl e1 k1) ow wt :: rest) c).roots r=none:=fun r hr=>by
  rw [CW]
  have:Nat.beq r (ay 0)=false:=by
   cases hb:Nat.beq r (ay 0) with
   | true=>exact absurd (an1 hb) hr
   | false=>rfl
  rw [this]; rfl
 have hs0:(bV (.jC (.sl e1 k1) ow wt :: rest) c).slots 0=.one (.ref (ay 0) 0):=rfl
 have hsl:∀s,s≠0→D6 ((bV (.jC (.sl e1 k1) ow wt :: rest) c).slots s):=fun s hs=>by
  show D6 (iF (eP (.jC (.sl e1 k1) ow wt :: rest) 0 c) s)
  simp only [eP,iF]
  cases hb:Nat.beq s 0 with
  | true=>exact absurd (an1 hb) hs
  | false=>exact zS hrest s
 obtain ⟨dS,dH,iM,i0,is,g1,g2,g3,g4,XK⟩:=SA H hw (R0:={ aL (.sl e1 k1) c.1 ow [] .anon true with fixed:=true }) rfl hR0 nT rfl rfl hown (TT e (by simp [K.tys])) hs0 hsl (x':=x') hR hnd hn0 hown' rfl
 have hst:au (bV (.jC (.sl e1 k1) ow wt :: rest) c) (ay 0) { ({ aL (.sl e1 k1) c.1 ow [] .anon true with fixed:=true }:Root) with k:=.sl e2 k2,x:=x' }=bV (.jC (.sl e2 k2) ow sG :: rest) (x',c.2):=by
  unfold au bV
  congr 1
  funext r
  show upd (bV (.jC (.sl e1 k1) ow wt :: rest) c).roots (ay 0) _ r=gK (gI (.jC (.sl e2 k2) ow sG :: rest) 0 (x',c.2)) r
  simp only [gI,tH hrest,gK,ha',cond_true]
  unfold upd
  cases hb:Nat.beq r (ay 0) with
  | true=>rfl
  | false=>simp only [cond_false]; rw [CW,hb]; rfl
 rw [hst] at XK
 have TV:∀j,(∃k,xR (.jC (.sl e1 k1) ow wt :: rest) j k)→∃k,xR (.jC (.sl e2 k2) ow sG :: rest) j k:=by
  rintro j ⟨k0,o1,o2,o3,h⟩
  cases j with
  | zero=>exact ⟨.sl e2 k2,ow,sG,[], .inr rfl⟩
  | succ j=>exact ⟨k0,o1,o2,o3,by simpa using h⟩
 have hP':FK (Li cx (aT dS)) (.jC (.sl e2 k2) ow sG :: rest):=by
  refine ⟨fun j EF hj hkp=>?_,fun j p ts v h=>h.elim,fun j v h=>TV j (hP.ref j v h)⟩
  obtain ⟨pi,hj',rfl⟩:=nQ (cx:=cx) hj
  exact TV j (hP.par j pi hj' hkp)
 have h:=hE (gL fr iM i0 is) (x',c.2) out' hF' (Li cx (aT dS)) _ args w hnt hw hsz hP' XK
 have hpost:∀v w', @Post (gL fr iM i0 is) (Li cx (aT dS)) (.jC (.sl e2 k2) ow sG :: rest) [.into 0 []] out' v w'→@Post fr cx (.jC (.sl e1 k1) ow wt :: rest) [.into 0 []] out v w':=by
  rintro v w' ⟨σ1,dK,F1,a1,vs,bD,H1,rfl,hL,hfn,Q8,hOut,_⟩
  obtain ⟨Q,q1,q2,⟨ek,ey⟩,q4,q5,_⟩:=hOut
  have hRQ:=TH ek ey hRP
  obtain ⟨qE,t3,t4⟩:=select (dS:=dS) (ns:=ms) (fun m hm=>by rw [g1]; exact hsub m hm)
  have xW:=q5
  unfold CE at xW
  simp only [an3] at xW
  obtain ⟨⟨⟨⟨l1,l2⟩,_⟩,_⟩,l5⟩:=xW
  have hg0:Q.g=0:=an1 l5
  have htr:∀{l:List Nat},mQ l sG=true→mQ l wt=true:=fun hl=>jM.2 fun t ht=>jM.1 hwt t (jM.1 hl t ht)
  cases vs with
  | nil=>exact hL.elim
  | cons v vs=>
   cases bD with
   | nil=>exact hL.elim
   | cons fo bD=>
    obtain ⟨⟨rfl,_,b,m,cp,e3,e4,e5⟩,hL2⟩:=hL
    cases vs with
    | cons _ _=>cases bD <;> exact hL2.elim
    | nil=>
     cases bD with
     | cons _ _=>exact hL2.elim
     | nil=>
      obtain ⟨hQn,hQV⟩:=e5 Q ⟨q1,q2.1⟩ hg0
      have r1:=VN (fr:=fr) H hw (R0:={ aL (.sl e1 k1) c.1 ow [] .anon true with fixed:=true }) rfl hR0 nT rfl rfl ⟨rfl,rfl⟩ hown hown' TT g2 (by rw [g1]; exact hnd) g3 g4 H1 q1 q2 ek (fun t ht=>by
        have:=aoc.1 q4 t ht
        rw [hown' t ht] at this
        simpa using this) hQn hg0 (wt:=wt) ⟨htr l1,htr l2⟩ (y:=out.2.1) (qE:=qE) (by rw [t3]; exact hRQ) t4 (by rw [t3]; exact hmm) (fun j p ts v h hj=>by
         obtain ⟨k0,⟨o1,o2,o3,h1⟩,h2⟩:=hP.ptr j p ts v h
         subst hj
         rcases h1 with h1 | h1
         ·simp at h1
         ·simp only [List.getElem?_cons_zero,anX,dF.jC.injEq] at h1
          rw [h2, ←h1.1]; rfl)
      refine ⟨_,_,[],a1,[v],[[]],r1,rfl,⟨⟨rfl,rfl,b,m,cp, ?_, ?_, ?_⟩,trivial⟩,by simp,by simp,⟨_,uz,⟨rfl,rfl⟩,⟨rfl,rfl⟩, ?_, ?_, .inl ha⟩,EM hrest⟩
      ·have hI:(show Int from (Cont.fst (gZ [kJ.into 0 []]) _ out).1)=(show Int from (Cont.fst (gZ [kJ.into 0 []]) _ out').1):=hRI
       rw [hI]; exact e3
      ·have hI:(show Int from (Cont.fst (gZ [kJ.into 0 []]) _ out).1)=(show Int from (Cont.fst (gZ [kJ.into 0 []]) _ out').1):=hRI
       rw [hI]; exact e4
      ·intro R' hR' _
       obtain ⟨_,rfl⟩:=qC hR'.1
       refine ⟨rfl, ?_⟩
       have ek:Q.k=.sl e2 k2:=ek
       rw [ek] at hQV
       exact W9 hQV
      ·exact aoc.2 fun t _=>by simp [lQ]; rfl
      ·unfold CE lQ
       simp only [mQ,List.all_nil,an3,aoc]
       exact ⟨⟨⟨⟨fun x hx=>aM.2 hx,trivial⟩,fun x hx=>aM.2 hx⟩,fun x hx=>aM.2 hx⟩,rfl⟩
 rcases h with ⟨h1,h2⟩ | ⟨v,w',h1,h2⟩
 ·refine .inl ⟨h1,h2.mono ?_⟩
  rintro e w' ⟨v,rfl,hv⟩
  exact ⟨v,rfl,hpost v w' hv⟩
 ·exact .inr ⟨v,w',h1,hpost v w' h2⟩
end
end Go.Proofs.YtailcbngagacaabGreat.Ow
