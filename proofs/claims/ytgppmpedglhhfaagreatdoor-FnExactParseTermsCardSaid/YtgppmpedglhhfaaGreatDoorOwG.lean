/- A verified reading of translated code, part G of 7. No condition. -/
import Derived.Test.YtgppmpedglhhfaaGreatDoorOwF
import Derived.Conc.MuLone
import Derived.ChangeArms
import Derived.ChangeReads
import Derived.ChangeOld
import Derived.ChangeSame
import Derived.DataShut
set_option linter.unusedSectionVars false
set_option linter.unusedVariables false
set_option linter.unusedSimpArgs false
namespace Go.Proofs.YtgppmpedglhhfaaGreatDoor.Ow
section
open Go
variable [Fr]
section
variable {P:Program}{T:bF}{cx:Cx}{Z Z':St}{J:aF}{F:List Nat}{a:Act}{w:World}{eX:yI}{rs:List Nat}
theorem ZY(H:Rel cx Z J F a w)(hP:Lp cx eX)(hB:nP Z eX rs Z'):Rel cx Z' J F a w:=by
 have Bh:∀{r:Nat} {R':Root},aU Z' r R'->∃R,oZ Z eX rs r R R':=λh=>by
  obtain⟨_,_,R,h⟩:=hB.roots _ _ h.1
  exact⟨R,h⟩
 have kC:∀{j:Nat} {q},mJ (aC j) eX=some q->∃R R',Z'.roots (aC j)=some R'/\oZ Z eX rs (aC j) R R':=λh=>by
  obtain⟨R',hR'⟩:=hB.made _ (hB.eX _ _ h)
  obtain⟨_,_,R,h⟩:=hB.roots _ _ hR'
  exact⟨R,R',hR',h⟩
 have hsame:∀{τ:St} {r:Nat} {R Q:Root},τ.roots r=some R->τ.roots r=some Q->Q=R:=λh1 h2=>by rw[h1]at h2;simpa using h2.symm
 refine⟨H.defs,H.sz,?_,?_,?_,?_,?_,?_,?_,H.fl,H.gD,?_,H.frame,?_,H.pJ,?_,?_⟩
 ·intro j pi b o n hj hb
  obtain⟨Q,hQ,hk,hl,hs⟩:=H.jT j pi b o n hj hb
  obtain⟨q,hq⟩:=hP.par j pi hj (.inr ⟨_,hb⟩)
  obtain⟨R,R',hR',h1⟩:=kC hq
  have:=hsame hQ.1 h1.live.1
  subst this
  obtain⟨k1,k2,_,_,_,k6⟩:=h1.kind
  exact⟨R',⟨hR',k6.trans hQ.2⟩,k1.trans hk,hl,by rw[k2];exact hs⟩
 ·intro r R' hr hk
  obtain⟨R,h1⟩:=Bh hr
  exact H.rP r R h1.live (h1.kind.1.symm.trans hk)
 ·intro s
  rcases hB.slots s with h|⟨sh,av,d,h1,h2,h3,h4⟩
  ·rw[h];trivial
  ·rw[h3]
   have:=H.slots s
   rw[h1]at this
   exact(hB.av H h2 h4 this).1
 ·intro s
  rcases hB.slots s with h|⟨sh,av,d,h1,h2,h3,h4⟩
  ·rw[h];trivial
  ·rw[h3]
   have:=H.slots s
   rw[h1]at this
   exact(hB.av H h2 h4 this).2
 ·intro r R' hr
  obtain⟨R,h1⟩:=Bh hr
  have O:=H.roots r R h1.live
  have hb:=(oZ.blk (J:=J) h1).1
  have hw:=(oZ.blk (J:=J) h1).2
  have ht:=h1.tags
  have hv:=h1.valid
  obtain⟨ow,tg,ew,eh,rfl,hown⟩:=h1.form
  refine⟨λ_=>q8 hown (dK (λ_ _=>rfl) (λb hb2=>?_) (λ_ _=>rfl) (O.ow hv)),O.len,?_,?_,?_⟩
  ·exact hB.aO (λt h hi=>⟨0,ht t h hi⟩) hb2
  ·rw[hw];exact O.mem
  ·rw[hb];exact O.nd
  ·rw[hb];exact O.mine
 ·intro r R' hr
  obtain⟨g1,g2,R,h1⟩:=hB.roots r R' hr
  refine⟨λt ht=>?_,g2,λn hn=>(h1.aaE _ hn).2.2 rfl⟩
  obtain⟨f1,f2,_⟩:=h1.aaE t ht
  rcases f2 with h|h
  ·exact .inl h
  ·obtain⟨Q,hQ⟩:=hB.made _ h
   exact .inr ⟨Q,hQ,.inr (by rw[f1];exact dY _)⟩
 ·intro r R1 r' R2 h1 h2 hne b hb
  obtain⟨Q1,g1⟩:=Bh h1
  obtain⟨Q2,g2⟩:=Bh h2
  rw[(oZ.blk (J:=J) g1).1]at hb
  rw[(oZ.blk (J:=J) g2).1]
  exact H.jc r Q1 r' Q2 g1.live g2.live hne b hb
 ·intro r R' hr b hb
  obtain⟨R,h1⟩:=Bh hr
  rw[(oZ.blk (J:=J) h1).1]at hb
  exact H.dM r R h1.live b hb
 ·intro j pi hj hk
  obtain⟨⟨k,wt,ht⟩,hq⟩:=hP.par j pi hj (.inl hk)
  obtain⟨R,R',hR',h1⟩:=kC hq
  obtain⟨l1,l2,l3,l4,l5,l6,l7,l8⟩:=h1.log k wt ht hq
  obtain⟨Q,hQ,hk2⟩:=H.rG j pi hj hk
  have:=hsame h1.live.1 hQ
  subst this
  refine⟨R',hR',λ_ b hb hnb=>?_⟩
  rcases hk2 h1.live.2 b hb hnb with⟨e,e1,e2⟩|⟨g1,g2,g3⟩
  ·refine .inl ⟨e,e1,.inr ?_⟩
   rw[l2]
   rcases e2 with h|h
   ·exact l4 e h
   ·exact l5 e h
  ·refine .inr ⟨g1,g2,λq Q hQ hbq=>?_⟩
   obtain⟨Q0,h2⟩:=Bh hQ
   rw[(oZ.blk (J:=J) h2).1]at hbq
   exact g3 q Q0 h2.live hbq
 ·intro j p ts v hv
  obtain⟨k,⟨wt,ht⟩,hq,hts⟩:=hP.ptr j p ts v hv
  obtain⟨R,R',hR',h1⟩:=kC hq
  obtain⟨l1,l2,l3,l4,l5,l6,l7,l8⟩:=h1.log k wt ht hq
  obtain⟨f1,Q,hQ,f2⟩:=H.sV j p ts v hv
  have:=hsame h1.live.1 hQ
  subst this
  refine⟨f1,R',hR',λhno=>?_⟩
  rw[l3]at hno
  have vO:=f2 (λt h1 h2=>hno t h1 (l7 t h2))
  refine⟨f1,λQ2 sO _ _ hpt hg=>?_⟩
  have:=hsame hR' sO
  subst this
  have hw:=(oZ.blk (J:=J) h1).2
  have hv1:=h1.valid
  have hr1:=h1.live.1
  obtain⟨ow,tg,ew,eh,rfl,hown⟩:=h1.form
  obtain⟨q1,q2⟩:=vO.2 Q hr1 hv1 (by
    unfold clean
    rw[dX]
    intro t ht1
    have h3:t∈Q.h:=Li ht1
    simp only[jU,gq]
    rw[l1,<-hts]
    exact λh4=>hno t h4 (l6 t h3))
   (λt ht=>by rw[<-hown t (xO p t ht)];exact hpt t ht) hg
  exact⟨q1,by rw[hw];exact q2⟩
 ·intro j v hv
  obtain⟨⟨k,wt,ht⟩,hq⟩:=hP.ref j v hv
  obtain⟨R,R',hR',h1⟩:=kC hq
  obtain⟨l1,l2,l3,l4,l5,l6,l7,l8⟩:=h1.log k wt ht hq
  obtain⟨_,f2⟩:=H.sW j v hv
  refine⟨⟨R',hR'⟩,λQ2 sO _=>?_⟩
  have:=hsame hR' sO.1
  subst this
  obtain⟨q1,q2⟩:=f2 R h1.live l8
  obtain⟨k1,k2,_⟩:=h1.kind
  exact⟨k1.trans q1,by rw[k2];exact q2⟩
structure TB(eX:yI)(rs:List Nat)(s:wO):Prop where
 slots:∀q∈s.ss,∀i∈q.2.zB,nW rs i
 roots:∀q∈s.rs,q.1∈rs/\fO q.1=false/\(∀i∈q.2.ids,nW rs i/\i≠q.1)/\q.2.log=mJ q.1 eX
 keys:∀r∈rs,∃q∈s.rs,q.1=r
 eX:∀r q,mJ r eX=some q->r∈rs
theorem P6:∀{l:List (Nat×mX)} {c:Cont (qP l)},Dr Z rs l=some c->∀n,mkS l c n=.one .undef\/∃sh av d,(n,sh)∈l/\Z.slots n=.one av/\qH Z rs sh av=some d/\mkS l c n=.one (E_ sh d)
 | [],_,_,_=>.inl rfl
 |(s,sh) :: l,c,h,n=>by
  simp only[Dr]at h
  split at h
  ·rename_i av hs
   split at h
   ·rename_i x y hx hy
    have h2:Cont.app sh.ks (qP l) x y=c:=jV h
    subst h2
    simp only[mkS]
    rw[A_,Ch]
    cases hb:Nat.beq n s with
    |true=>
     have:=a_ hb
     subst this
     exact .inr ⟨sh,av,x,by simp,hs,hx,rfl⟩
    |false=>
     rcases P6 hy n with h|⟨sh',LV,d,g1,g2,g3,g4⟩
     ·exact .inl h
     ·exact .inr ⟨sh',LV,d,.tail _ g1,g2,g3,g4⟩
   ·simp at h
  ·split at h
   ·split at h
    ·rename_i d hd
     have h2:d=c:=jV h
     subst h2
     simp only[mkS]
     cases hb:Nat.beq n s with
     |true=>exact .inl rfl
     |false=>
      rcases P6 hd n with h|⟨sh',LV,d,g1,g2,g3,g4⟩
      ·exact .inl h
      ·exact .inr ⟨sh',LV,d,.tail _ g1,g2,g3,g4⟩
    ·simp at h
   ·simp at h
theorem anK{a b:wR}(h:Qj a b=true):a=b:=by
 cases a<;>cases b<;>simp_all[Qj]
theorem Y5:∀{l:List (Nat×wT)} {c:Cont (uL l)},Ic Z rs l=some c->∀n R',xL l c n=some R'->∃sh R,(n,sh)∈l/\Z.roots n=some R/\cz Z R/\lZ (kD rs R.tags) sh.ids=true/\PO R sh.log=true/\
   (∀t∈R.k.tys,ah t sh.own=ah t R.own)/\R'={ R with own:=sh.own,tags:=sh.ids.map λr=>(r,0),w:=[],h:=[],g:=0,ew:=YW sh.log,eh:=YV sh.log }
 | [],_,_,_,_,h=>by simp[xL]at h
 |(r,sh) :: l,c,h,n,R',hm=>by
  simp only[Ic]at h
  split at h
  ·rename_i R hR
   obtain⟨hb,h⟩:=wZ h
   split at h
   ·rename_i x y hx hy
    have h2:(x,y)=c:=jV h
    subst h2
    simp only[xL]at hm
    cases hn:Nat.beq n r with
    |false=>
     rw[hn]at hm
     obtain⟨sh',R2,g1,g2⟩:=Y5 hy n R' hm
     exact⟨sh',R2,.tail _ g1,g2⟩
    |true=>
     rw[hn]at hm
     have:=a_ hn
     subst this
     simp only[bg]at hb
     obtain⟨⟨⟨⟨⟨⟨⟨b1,b2⟩,b3⟩,b4⟩,b5⟩,b6⟩,b7⟩,b8⟩:=hb
     obtain⟨e,ex⟩:=iw hx
     refine⟨sh,R,by simp,hR,⟨by simpa using b7,b1⟩,b2,b8,λt ht=>?_,?_⟩
     ·have:=dX.1 b3 t (e▸ht)
      simp only[beq_iff_eq]at this
      exact this.symm
     ·have LW:=anK b4
      have LX:R.fixed=sh.fixed:=by simpa using b5
      have LZ:R.keep=sh.keep:=by simpa using b6
      obtain⟨k,ow,ids,kd,fx,kp,lg⟩:=sh
      simp only at e ex LW LX LZ
      obtain⟨Rk,Rx,Lx,LA,Rw,Rh,Rg,Lv,ao1,Lu,Lt,Ls⟩:=R
      simp only at e ex LW LX LZ
      subst e LW LX LZ
      simp only at ex
      subst ex
      simp only[fJ,aa]at hm
      exact hm.symm
   ·simp at h
  ·simp at h
theorem Y6:∀{l:List (Nat×wT)} (c:Cont (uL l)) {r:Nat},(∃q∈l,q.1=r)->∃R',xL l c r=some R'
 | [],_,_,h=>by obtain⟨q,h,_⟩:=h;simp at h
 |(s,sh) :: l,c,r,h=>by
  simp only[xL]
  cases hb:Nat.beq r s with
  |true=>exact⟨_,rfl⟩
  |false=>
   refine Y6 c.2 ?_
   obtain⟨q,h1,h2⟩:=h
   rcases bH.1 h1 with h|h
   ·subst h;simp only at h2;subst h2;simp at hb
   ·exact⟨q,h,h2⟩
theorem nP.of{s:wO}(hs:TB eX rs s){c:s.V}(h:AQ rs s Z=some c):nP Z eX rs (wo s c):=by
 unfold AQ at h
 split at h
 ·rename_i x y hx hy
  have h2:Cont.app (qP s.ss) (uL s.rs) x y=c:=jV h
  subst h2
  have e1:(wo s (Cont.app (qP s.ss) (uL s.rs) x y)).slots=mkS s.ss x:=by unfold wo;rw[A_]
  have e2:(wo s (Cont.app (qP s.ss) (uL s.rs) x y)).roots=xL s.rs y:=by unfold wo;rw[Ch]
  refine⟨λr R' hr=>?_,λr hr=>?_,λn=>?_,hs.eX⟩
  ·rw[e2]at hr
   obtain⟨sh,R,g1,g2,g3,g4,g5,g6,g7⟩:=Y5 hy r R' hr
   obtain⟨f1,f2,f3,f4⟩:=hs.roots _ g1
   refine⟨f1,f2,R,⟨g2,g3.1⟩,g3,⟨_,_,_,_,g7,g6⟩,?_,?_,?_⟩
   ·intro t ht hi
    rw[g7]
    obtain⟨n,hn⟩:=Kc g4 t ht hi
    obtain⟨i,hi1,hi2⟩:=eD.1 hn
    simp only[bK]at hi2
    have h0:n=0:=hi2.2.symm
    subst h0
    exact hn
   ·intro t ht
    rw[g7]at ht
    obtain⟨i,h1,rfl⟩:=eD.1 ht
    exact⟨rfl,f3 i h1⟩
   ·intro k wt ht hq
    simp only at f4
    rw[f4,hq]at g5 g7
    simp only[PO,zI,bg,Cj]at g5
    obtain⟨p1,⟨⟨⟨p2,p3⟩,p4⟩,p5⟩,p6⟩:=g5
    subst g7
    exact⟨K.eq_of_beq p1,rfl,rfl,p2,p3,p4,p5,a_ p6⟩
  ·rw[e2]
   exact Y6 y (hs.keys r hr)
  ·rw[e1]
   rcases P6 hx n with h|⟨sh,av,d,g1,g2,g3,g4⟩
   ·exact .inl h
   ·exact .inr ⟨sh,av,d,g2,g3,g4,hs.slots _ g1⟩
 ·simp at h
theorem aap:∀{l:List (TypeId×Dat×List Tag)},∀i∈(FI rs l).flatMap (λc=>c.2.2),nW rs i
 | [],i,h=>by simp[FI]at h
 |(t,d,tags) :: l,i,h=>by
  simp only[FI,kK,cZ]at h
  rcases h with h|h
  ·exact(BG.1 h).2
  ·exact aap i h
theorem U2{rs ex:List Nat}:∀i∈Dx rs ex,nW rs i:=by
 intro i hi
 unfold Dx at hi
 rw[iU,nI,fA]at hi
 exact hi.2
theorem aon{ex:List Nat}{av:AV}:∀i∈(Qw rs ex av).zB,nW rs i:=by
 intro i hi
 cases av<;>simp only[Qw,mX.zB,Ak]at hi
 ·rcases cZ.1 hi with hi|hi
  ·exact(BG.1 hi).2
  ·exact U2 i hi
 ·exact(BG.1 hi).2
 ·exact aap i hi
theorem aar{wd:List (Nat×List Nat)}:∀{l:List Nat},∀q∈FK wd rs Z l,∀i∈q.2.zB,nW rs i
 | [],q,h,_,_=>by simp[FK]at h
 |s :: l,q,h,i,hi=>by
  simp only[FK,bH]at h
  rcases h with h|h
  ·subst h
   split at hi
   ·exact aon i hi
   ·simp[mX.zB]at hi
  ·exact aar q h i hi
theorem aaq{wd:List (Nat×List Nat)}:∀{l:List Nat} {q:List (Nat×wT)},FJ wd eX rs Z l=some q->(∀z∈q,z.1∈l/\∃R,Z.roots z.1=some R/\z.2.ids=kD rs R.tags++(Dx rs (yZ (2*z.1+1) wd)).filter (λq=>!Nat.beq q z.1)/\z.2.log=mJ z.1 eX)/\∀r∈l,∃z∈q,z.1=r
 | [],q,h=>by simp[FJ]at h;subst h;simp
 |r :: l,q,h=>by
  simp only[FJ]at h
  split at h
  ·rename_i R q' hR hq
   obtain⟨i1,i2⟩:=aaq hq
   simp only[aa]at h
   subst h
   refine⟨λz hz=>?_,λr' hr=>?_⟩
   ·rcases bH.1 hz with h|h
    ·subst h;exact⟨by simp,R,hR,rfl,rfl⟩
    ·obtain⟨f1,f2⟩:=i1 z h
     exact⟨.tail _ f1,f2⟩
   ·rcases bH.1 hr with h|h
    ·exact⟨_,jl,h.symm⟩
    ·obtain⟨z,z1,z2⟩:=i2 r' h
     exact⟨z,.tail _ z1,z2⟩
  ·simp at h
theorem U7:∀{l:yI} {r:Nat} {q},mJ r l=some q->∃p∈l,p.1=r
 | [],_,_,h=>by simp[mJ]at h
 |(s,p) :: l,r,q,h=>by
  simp only[mJ]at h
  cases hb:Nat.beq r s with
  |true=>exact⟨_,jl,(a_ hb).symm⟩
  |false=>
   rw[hb]at h
   obtain⟨p',h1,h2⟩:=U7 h
   exact⟨p',.tail _ h1,h2⟩
theorem aoo{wd:List (Nat×List Nat)}(H:Rel cx Z J F a w){ss:List Nat}{s:wO}(h:Qy wd eX ss rs Z=some s):TB eX rs s:=by
 unfold Qy at h
 split at h
 ·rename_i q hq
  obtain⟨hb,h⟩:=wZ h
  simp only[aa]at h
  subst h
  obtain⟨i1,i2⟩:=aaq hq
  refine⟨aar,λz hz=>?_,i2,λr q hf=>?_⟩
  ·obtain⟨f1,R,f2,f3,f4⟩:=i1 z hz
   obtain⟨_,g2,g3⟩:=H.fu _ R f2
   refine⟨f1,g2,λi hi=>?_,f4⟩
   rw[f3]at hi
   rcases cZ.1 hi with hi|hi
   ·obtain⟨⟨n,hn⟩,h2⟩:=BG.1 hi
    exact⟨h2,λe=>g3 n (e▸hn)⟩
   ·rw[iU]at hi
    refine⟨U2 i hi.1,λe=>?_⟩
    subst e
    have:=hi.2
    simp at this
  ·obtain⟨p,p1,p2⟩:=U7 hf
   have:=dX.1 hb p p1
   rw[<-p2]
   exact fA.1 this
 ·simp at h
end
end
section
open Go
variable [Fr]
def Dw:Exit->Option Ex
 |.normal=>some .normal
 |.exit i=>some (.exit i)
 |.ret=>some .ret
 |_=>none
section
variable {P:Program}{T:bF}{hi:Hint}{n:Nat}{cx:Cx}{Z:St}{J:aF}{F:List Nat}{a:Act}{w:World}{R:Type}{r:R}{ag:Option R->Option R->Option R}
def QK(cx:Cx)(K:Ex->St->Option R)(r:R)(e:Exit)(a:Act)(w:World):Prop:=∃x Z J F,Dw e=some x/\K x Z=some r/\Rel cx Z J F a w
theorem least{p:Nat->Prop}(h:∃n,p n):∃m,p m/\∀k,p k->m<=k:=by
 obtain⟨n,hn⟩:=h
 induction n using Nat.strongRecOn with
 |_ n ih=>
  by_cases hk:∃k,k<n/\p k
  ·obtain⟨k,h1,h2⟩:=hk
   exact ih k h1 h2
  ·exact⟨n,hn,λk h=>Nat.le_of_not_lt λhlt=>hk ⟨k,hlt,h⟩⟩
theorem aeK(hag:∀{a b z},ag a b=some z->a=some z/\b=some z)(hm:P.follows .mixedOrders=true)(hT:eG P T)(hSt:uy P T)(hC:uV P n hi)(hnt:hi.nt=cx.nt)(hP:Lp cx hi.eX) :
  ∀(code:Code) (b:Nat) {Z:St} {J:aF} {F:List Nat} {a:Act} {w:World} {K:Ex->St->Option R},den T hi n ag b code Z K=some r->Rel cx Z J F a w->code.wp P (QK cx K r) a w:=by
 intro code
 induction code with
 |skip=>intro b Z J F a w K h H;exact wp_skip ⟨_,_,_,_,rfl,h,H⟩
 |exit id=>intro b Z J F a w K h H;exact wp_exit ⟨_,_,_,_,rfl,h,H⟩
 |ret=>intro b Z J F a w K h H;exact wp_ret ⟨_,_,_,_,rfl,h,H⟩
 |seq x y IV Ee=>
  intro b Z J F a w K h H
  refine wp_seq (wp_mono (IV b h H) ?_)
  rintro e a' w' ⟨ex,Z',J',F',h1,h2,h3⟩
  cases e<;>simp only[Dw,aa,reduceCtorEq]at h1
  ·subst h1;exact Ee b h2 h3
  ·subst h1;exact⟨_,_,_,_,rfl,h2,h3⟩
  ·subst h1;exact⟨_,_,_,_,rfl,h2,h3⟩
 |cond c x y IV Ee=>
  intro b Z J F a w K h H
  simp only[den]at h
  obtain⟨v0,h1,h2⟩:=xP _ h
  obtain⟨v,g1,g2,g3⟩:=iW H h1
  have ev:v0=v:=g3
  subst ev
  have hplain:((asBool v0 .ret).run Z λt=>if t=true then den T hi n ag b x Z K else den T hi n ag b y Z K)=some r->Code.wp P (.cond c x y) (QK cx K r) a w:=by
   intro h2
   obtain⟨t,h3,h4⟩:=xP _ h2
   obtain⟨b',e1,e2⟩:=T_ g1 h3
   have e2':t=b':=e2
   subst e2'
   refine wp_cond (t:=t) e1 ?_
   cases t with
   |true=>exact IV b h4 H
   |false=>exact Ee b h4 H
  cases v0 with
  |nG e=>
   simp only at h2
   obtain⟨b',e1,e2⟩:=g1
   refine wp_cond (t:=b') e1 ?_
   cases b' with
   |true=>
    rw[ak (e2 rfl)]at h2
    exact IV b (hag h2).1 H
   |false=>
    split at h2
    ·exact Ee b (hag h2).2 H
    ·exact Ee b h2 H
  |_=>exact hplain h2
 |block id x ih=>
  intro b Z J F a w K h H
  simp only[den]at h
  refine wp_block (wp_mono (ih id h H) ?_)
  rintro e a' w' ⟨ex,Z',J',F',h1,h2,h3⟩
  cases e<;>simp only[Dw,aa,reduceCtorEq]at h1
  ·subst h1;exact⟨_,_,_,_,rfl,h2,h3⟩
  ·rename_i i
   subst h1
   simp only at h2
   unfold Exit.inBlock
   simp only
   cases hb:Nat.beq i id with
   |true=>
    rw[hb]at h2
    rw[ak (a_ hb)]
    exact⟨_,_,_,_,rfl,h2,h3⟩
   |false=>
    rw[hb]at h2
    rw[aj (GZ hb)]
    exact⟨_,_,_,_,rfl,h2,h3⟩
  ·subst h1;exact⟨_,_,_,_,rfl,h2,h3⟩
 |loop x ih=>
  intro b Z J F a w K h H
  simp only[den]at h
  split at h
  ·rename_i ss rs hf
   split at h
   ·rename_i s hs
    obtain⟨αl,Hl⟩:=PU hi rs H
    have hok:=aoo Hl hs
    split at h
    ·rename_i c hc
     have H0:=ZY Hl hP (nP.of hok hc)
     generalize hB:(λ(L:s.V->Option R) v=>den T hi n ag b x (wo s v) fun
      |.normal,Z'=>match AQ rs s (zK hi rs Z')with
       |some v'=>L v'
       |none=>none
      |e,Z'=>K e Z')=B at h
     have hBi:∀(L:s.V->Option R) v,B L v=den T hi n ag b x (wo s v) fun
      |.normal,Z'=>match AQ rs s (zK hi rs Z')with
       |some v'=>L v'
       |none=>none
      |e,Z'=>K e Z':=λL v=>by rw[<-hB]
     let I:Nat->Act->World->Prop:=λm a w=>∃v J F,rounds B m v=some r/\Rel cx (wo s v) J F a w
     have hex:∀{m:Nat} {a:Act} {w:World},I m a w->∃m,I m a w:=λh=>⟨_,h⟩
     classical
     refine wp_loop (λa w=>∃m,I m a w) (λa w=>if h:∃m,I m a w then Classical.choose (least h)else 0) ⟨_,_,_,_,h,H0⟩ ?_
     intro a w hI
     rw[dif_pos hI]
     have hI2:=(Classical.choose_spec (least hI)).1
     generalize Classical.choose (least hI)=m at hI2
     obtain⟨v,J,F,h1,h2⟩:=hI2
     cases m with
     |zero=>simp[rounds]at h1
     |succ m=>
      have h1':B (rounds B m) v=some r:=h1
      rw[hBi]at h1'
      refine wp_mono (ih b h1' h2) ?_
      rintro e a' w' ⟨ex,Z',J',F',g1,g2,g3⟩
      cases e<;>simp only[Dw,aa,reduceCtorEq]at g1
      ·subst g1
       simp only at g2
       split at g2
       ·rename_i v' hv'
        obtain⟨αm,Hm⟩:=PU hi rs g3
        have hI':I m a' w':=⟨v',_,_,g2,ZY Hm hP (nP.of hok hv')⟩
        refine⟨⟨m,hI'⟩,?_⟩
        rw[dif_pos ⟨m,hI'⟩]
        exact Nat.lt_succ_of_le ((Classical.choose_spec (least ⟨m,hI'⟩)).2 m hI')
       ·simp at g2
      ·subst g1;exact⟨_,_,_,_,rfl,g2,g3⟩
      ·subst g1;exact⟨_,_,_,_,rfl,g2,g3⟩
    ·simp at h
   ·simp at h
  ·simp at h
 |region id ops draw=>
  intro b Z J F a w K h H
  simp only[den]at h
  cases draw with
  |true=>
   have H':Rel cx Z J F a { w with drawn:=w.drawn+1 }:=H.drawn (w.drawn+1)
   exact wp_region_any hm (afL hT hSt hC hnt (λZ' J' F' a' w' h1 h2=>⟨_,_,_,_,rfl,h1,h2⟩) h H')
  |false=>
   refine wp_region ?_
   have:=afM (P:=P) (Q:=QK cx K r) hT hSt hC hnt (λZ' J' F' a' w' h1 h2=>⟨_,_,_,_,rfl,h1,h2⟩) ops.toList 0 (by simp) h H
   rw[Ky,<-List.range_eq_range']at this
   exact this
 |_=>intro b Z J F a w K h;simp[den]at h
end
end
section
open Go
variable [Fr]
def Ca(a:Act):ResultVar->Sem Value
 |.tmp t=>pure (a.tmps.getD t undef)
 |.cell x t=>do loadVar t (<-asAddr (a.tmps.getD x undef))
section
variable {P:Program}{T:bF}{cx:Cx}{Z:St}{J:aF}{F:List Nat}{a:Act}{w:World}{A:Type}{z:A}
theorem amE(hT:eG P T)(H:Rel cx Z J F a w){t:TypeId}{x:AV}{v:Value}{dJ:Bool}{k:AV->Prog A}(h1:aR cx Z J F w x v)(h2:dB Z x)(h:(vY T dJ t x k).ends Z z) :
  ∃y u,(do loadVar t (<-asAddr v):Sem Value).run P w=.ok u w/\aR cx Z J F w y u/\dB Z y/\(k y).ends Z z:=by
 have Ea:∀{b o:Nat} {u:Value},(Instr.loadAt t (.pointer (some ⟨b,o,none⟩))).run P w=.ok u w->v=.pointer (some ⟨b,o,none⟩)->(do loadVar t (<-asAddr v):Sem Value).run P w=.ok u w:=by
  intro b o u h e
  subst e
  exact h
 unfold vY at h
 split at h
 ·exact h.elim
 ·rename_i kk hty
  have ht:=hT.ty t kk hty
  obtain⟨s1,s2,s3⟩:=ht.shape
  split at h
  ·rename_i r g k0 p
   obtain⟨u,b,off,k1,e,hq,hC,ho1,hR⟩:=h1
   obtain⟨R,hr,hv,h⟩:=gJ h
   rcases bz h with⟨hc,h⟩|⟨_,h⟩
   ·simp only[bg]at hc
    cases hg:aA p R.k R.x with
    |none=>rw[hg]at h;exact h.elim
    |some dd=>
     rw[hg]at h
     simp only at h
     obtain⟨dk,dx⟩:=dd
     rcases beq_true h with⟨ek,h5⟩|⟨_,h⟩
     ·simp only at ek
      subst ek
      have hk0:=K.eq_of_beq hc.1.2
      subst hk0
      obtain⟨hka,jm⟩:=hR R hr (a_ hc.1.1)
      rw[jm.cells]at hC
      have hwn:aK J R r=none:=by unfold aK;rw[hka]
      obtain⟨g1,g2,g3,g4,g5⟩:=Vb (h:=hp w) p hg ho1 (H.roots r R hr).len
      simp only at g1
      subst g1
      have hown:∀t∈az p R.k,ah t R.own=true:=λt ht=>by rw[g5]at ht;simp at ht
      have hn:aN (hp w) p R.k (J.hdr r) (aK J R r)=some (((J.hdr r).drop off).take k1.size,none):=by rw[hwn];exact g3
      obtain⟨aS,hO,hf⟩:=tT H hr hv hg g4 hown hn
      have hV:=tL H hr hO hf
      have hcs:Cells (hp w) b off (((J.hdr r).drop off).take k1.size):=by
       intro i hi
       have hi':i<k1.size:=by rw[Ke g2]at hi;exact hi
       have:=hC (off+i) (by omega)
       rw[jN]at this
       rw[this,CZ hi',yD]
      obtain⟨u',hu⟩:=VC.mk s1 s2 s3 hV
      have hrun:=Ce (P:=P) ht hcs (lQ hV) hu
      rcases bz h5 with⟨hf,h6⟩|⟨_,h6⟩
      ·exact⟨.val k1 dx [],u',Ea hrun e,λ_=>⟨_,hu,kL hf hV⟩,(λt ht=>by simp at ht),h6⟩
      ·exact⟨.dJ r p R.dF,u',Ea hrun e,Dm (cx:=cx) (F:=F) hr hg g4 hown hn hu,⟨R,hr.1,.inr (bT _)⟩,h6⟩
     ·exact h.elim
   ·exact h.elim
  rcases Ht H h1 h2 h with⟨r,R,p,dd,cs,b,q,hr,hv,hg,b_,hown,hn,e,h⟩|⟨bt,dd,Tg,b,q,cs,hw,e,hcs,hV,hok,hb,h⟩
  ·obtain⟨hC,⟨aS,hO,hf⟩,_⟩:=tQ H hr hv hg b_ hown hn
   obtain⟨dk,dx⟩:=dd
   rcases beq_true h with⟨ek,h5⟩|⟨_,h⟩
   ·simp only at ek
    subst ek
    clear h
    have h:=h5
    clear h5
    have hV:=tL H hr hO hf
    obtain⟨u,hu⟩:=VC.mk s1 s2 s3 hV
    have hrun:=Ce (P:=P) ht hC (lQ hV) hu
    rcases bz h with⟨_,h⟩|⟨_,h⟩
    ·exact⟨.dJ r p R.dF,u,Ea hrun e,Dm (cx:=cx) (F:=F) hr hg b_ hown hn hu,⟨R,hr.1,.inr (bT _)⟩,h⟩
    ·exact⟨_,u,Ea hrun e,(show aR cx Z J F w (.val dk dx _) u from λ_=>⟨cs,hu,hV⟩),BR H hr _,h⟩
   ·exact h.elim
  ·obtain⟨dk,dx⟩:=dd
   rcases beq_true h with⟨ek,h5⟩|⟨_,h⟩
   ·simp only at ek
    subst ek
    clear h
    have h:=h5
    clear h5
    obtain⟨u,hu⟩:=VC.mk s1 s2 s3 hV
    have hrun:=Ce (P:=P) ht hcs (lQ hV) hu
    refine⟨_,u,Ea hrun e,(show aR cx Z J F w (.val dk dx _) u from λ_=>⟨cs,hu,?_⟩),?_,h⟩
    ·cases hf:dk.flat with
     |true=>exact kL hf hV
     |false=>exact hV
    ·cases hf:dk.flat with
     |true=>intro t ht;simp at ht
     |false=>exact hw
   ·exact h.elim
theorem FD(hT:eG P T)(H:Rel cx Z J F a w){own:Bool}{rv:ResultVar}{k:AV->Prog A}(h:(wB T own rv k).ends Z z):∃y u,(Ca a rv).run P w=.ok u w/\aR cx Z J F w y u/\dB Z y/\(k y).ends Z z:=by
 cases rv with
 |tmp t=>
  obtain⟨v,h1,h2,h3⟩:=iW H h
  exact⟨v,_,rfl,h1,h2,h3⟩
 |cell t ty=>
  obtain⟨v,h1,h2,h3⟩:=iW H h
  exact amE hT H h1 h2 h3
def yA(P:Program)(cx:Cx)(Z:St)(J:aF)(F:List Nat)(a:Act)(w:World):(rs:List eF)->List ResultVar->Cont (iq rs)->List Value->List (Value×dS)->List (List Tag)->Prop
 | [],[],_,[],[],[]=>True
 |.val k exts bB :: rs,rv :: fE,c,v :: vs,its,tg :: jg=>((Ca a rv).run P w=.ok v w/\(k.flat=true\/oN exts bB tg=true)/\vE cx Z J F a w k c.1 tg v)/\yA P cx Z J F a w rs fE c.2 vs its jg
 |.own k ow exts bB :: rs,rv :: fE,c,v :: vs,it :: its,jg=>((Ca a rv).run P w=.ok v w/\it.1=v/\p_ cx Z J F w v it.2/\(∃e:it.2.k=k,c.1=e▸it.2.x)/\lZ (k.tys.filter λt=>ah t ow) it.2.own=true/\
   ((k.tys.all λt=>ah t ow)=true\/oN exts bB it.2.tags=true))/\yA P cx Z J F a w rs fE c.2 vs its jg
 |_,_,_,_,_,_=>False
theorem afT(hT:eG P T)(H:Rel cx Z J F a w):∀{rs:List eF} {fE:List ResultVar} {k:Cont (iq rs)->List dS->List (List Tag)->Prog A},(xk T rs fE k).ends Z z->
  ∃c vs its jg,yA P cx Z J F a w rs fE c vs its jg/\(k c (its.map (·.2)) jg).ends Z z:=by
 intro rs
 induction rs with
 |nil=>
  intro fE k h
  cases fE with
  |nil=>exact⟨(),[],[],[],trivial,h⟩
  |cons _ _=>exact h.elim
 |cons r rs ih=>
  intro fE k h
  cases fE with
  |nil=>cases r<;>exact h.elim
  |cons rv fE=>
   cases r with
   |into _ _=>exact h.elim
   |ptr _ _ _ _=>exact h.elim
   |val kk exts bB=>
    simp only[xk]at h
    obtain⟨y,u,g1,g2,g3,h⟩:=FD hT H h
    have hgo:∀(x:El kk) (tags:List Tag),vE cx Z J F a w kk x tags u->(bif kk.flat||oN exts bB tags then xk T rs fE λc ts tg=>k (x,c) ts (tags :: tg)else .fail).ends Z z->
      ∃c vs its jg,yA P cx Z J F a w (.val kk exts bB :: rs) (rv :: fE) c vs its jg/\(k c (its.map (·.2)) jg).ends Z z:=by
     intro x tags hv h
     rcases bz h with⟨hb,h⟩|⟨_,h⟩
     ·obtain⟨c,vs,its,jg,f1,f2⟩:=ih h
      exact⟨(x,c),u :: vs,its,tags :: jg,⟨⟨g1,by simpa using hb,hv⟩,f1⟩,f2⟩
     ·exact h.elim
    have hval:(oD y λk' x tags=>match bR k' kk x with
      |some y=>(bif kk.flat||oN exts bB (bif kk.flat then []else tags)then xk T rs fE λc ts tg=>k (y,c) ts ((bif kk.flat then []else tags) :: tg)else .fail)
      |none=>.fail).ends Z z->∃c vs its jg,yA P cx Z J F a w (.val kk exts bB :: rs) (rv :: fE) c vs its jg/\(k c (its.map (·.2)) jg).ends Z z:=by
     intro h
     obtain⟨k',x,Tg,f1,f5⟩:=Ua H g2 g3 h
     cases hc:bR k' kk x with
     |none=>rw[hc]at f5;exact f5.elim
     |some y'=>
      rw[hc]at f5
      obtain⟨ek,ey⟩:=iw hc
      subst ek
      simp only at ey
      subst ey
      cases hf:k'.flat with
      |true=>
       rw[hf]at f5
       exact hgo _ _ (f1.flat hf H) (by rw[hf];exact f5)
      |false=>
       rw[hf]at f5
       exact hgo _ _ f1 (by rw[hf];exact f5)
    cases y with
    |eH=>
     cases kk with
     |sl e kk=>
      obtain⟨b,rfl⟩:=g2
      exact hgo [] [] ⟨[.slice b 0 0],Ka,λ_ _ _ _=>⟨b,0,0,rfl,rfl,bT _,λh=>by omega⟩⟩ h
     |_=>exact h.elim
    |undef=>exact hval h
    |val _ _ _=>exact hval h
    |ref _ _=>exact hval h
    |dJ _ _ _=>exact hval h
    |ptr _ _ _=>exact hval h
    |eY _ _ _ _=>exact hval h
    |ko _ _ _ _=>exact hval h
    |nG _=>exact hval h
    |part _ _ _ _ _=>exact hval h
    |lH _ _ _ _=>exact hval h
    |sub _ _ _ _ _ _=>exact hval h
    |sel _ _ _ _ _ _=>exact hval h
    |app _ _ _ _=>exact hval h
    |iI=>exact hval h
    |fn _ _=>exact hval h
   |own kk ow exts bB=>
    simp only[xk]at h
    obtain⟨y,u,g1,g2,g3,h⟩:=FD hT H h
    obtain⟨tk,htk,h⟩:=xS H g2 g3 h
    cases hc:bR tk.k kk tk.x with
    |none=>rw[hc]at h;exact h.elim
    |some y'=>
     rw[hc]at h
     rcases bz h with⟨hb,h⟩|⟨_,h⟩
     ·simp only[bg,nI]at hb
      obtain⟨c,vs,its,jg,f1,f2⟩:=ih h
      exact⟨(y',c),u :: vs,(u,tk) :: its,jg,⟨⟨g1,rfl,htk,iw hc,hb.1,hb.2⟩,f1⟩,f2⟩
     ·exact h.elim
theorem afU{Z1:St}{aV:aF}{F1:List Nat}(H1:Rel cx Z1 aV F1 a w)(hV:Views cx Z J F w Z1 aV F1 w):∀{rs:List eF} {fE:List ResultVar} {c:Cont (iq rs)} {vs:List Value} {its:List (Value×dS)} {jg:List (List Tag)} {hs:List (List Value×List Nat)},
  yA P cx Z J F a w rs fE c vs its jg->sw cx Z1 aV F1 w its hs->(∀t∈jg.flatten,Same Z J Z1 aV t.1)->
  ∃au,wS cx Z1 aV F1 w rs c vs au/\au.flatten=hs.flatMap (·.2)/\(∀b∈au.flatten,b∈F1)/\(fE.mapM (Ca a)).run P w=.ok vs w:=by
 intro rs
 induction rs with
 |nil=>
  intro fE c vs its jg hs h hh _
  cases fE<;>cases vs<;>cases its<;>cases jg<;>first|exact h.elim|skip
  cases hs with
  |nil=>exact⟨[],trivial,rfl,by simp,by simp⟩
  |cons _ _=>exact hh.elim
 |cons r rs ih=>
  intro fE c vs its jg hs h hh hS
  cases r with
  |into _ _=>cases fE<;>cases vs<;>exact h.elim
  |ptr _ _ _ _=>cases fE<;>cases vs<;>exact h.elim
  |val kk exts bB=>
   cases fE<;>cases vs<;>cases jg<;>first|exact h.elim|skip
   rename_i rv fE v vs tg jg
   obtain⟨⟨h1,h2,cs,h3,h4⟩,h5⟩:=h
   obtain⟨au,f1,f2,f3,f4⟩:=ih h5 hh (λt ht=>hS t (by simp only[oW,cZ];exact .inr ht))
   refine⟨[] :: au,⟨⟨rfl,tg,cs,h2,h3,h4 Z1 aV F1 ⟨H1,hV,λt ht=>hS t (by simp only[oW,cZ];exact .inl ht)⟩⟩,f1⟩,by simpa using f2,by simpa using f3,?_⟩
   simp[C8,h1,f4,Result.andThen]
  |own kk ow exts bB=>
   cases fE<;>cases vs<;>cases its<;>first|exact h.elim|skip
   rename_i rv fE v vs it its
   obtain⟨⟨h1,h2,h3,⟨e,ex⟩,h4,h5⟩,h6⟩:=h
   cases hs with
   |nil=>exact hh.elim
   |cons q hs=>
    obtain⟨⟨q1,q2,q3⟩,hh⟩:=hh
    obtain⟨au,f1,f2,f3,f4⟩:=ih h6 hh hS
    refine⟨q.2 :: au,⟨⟨it.2.tags,q.1,it.2.own,h5,?_,?_,?_⟩,f1⟩,by simp[f2],?_,?_⟩
    ·intro t ht hm
     exact fA.2 (Cj.1 h4 t (iU.2 ⟨ht,hm⟩))
    ·rw[<-h2];subst e;exact q1
    ·subst e
     rw[ex]
     exact q2.ow q3
    ·intro b hb
     rw[oW]at hb
     rcases cZ.1 hb with h|h
     ·exact q2.sub b h
     ·exact f3 b h
    ·simp[C8,h1,f4,Result.andThen]
end
end
section
open Go
variable [Fr]
section
variable {P:Program}{T:bF}{hi:Hint}{n:Nat}{cx:Cx}{Z:St}{J:aF}{F:List Nat}{a:Act}{w:World}
theorem U5{i:Nat}{R:Root}(h:Ij Z i=some R):Z.roots (aC i)=some R/\cz Z R:=by
 unfold Ij at h
 split at h
 ·rename_i Q hQ
  cases hb:Q.bV || !cu Z Q.oO Q.tags with
  |true=>rw[hb]at h;simp at h
  |false=>
   rw[hb]at h
   simp only[jr,aa]at h
   subst h
   simp only[Kz,Bool.not_eq_false']at hb
   exact⟨hQ,hb⟩
 ·simp at h
theorem Ii:∀{ps:List aH} {i:Nat} {d:Cont (gF ps)},kP Z ps i=some d->m_ Z ps i d:=by
 intro ps
 induction ps with
 |nil=>intro i d _;trivial
 |cons p ps ih=>
  intro i d h
  cases p with
  |val k bB=>exact ih (show kP Z ps (i+1)=some d from h)
  |ro k=>exact ih (show kP Z ps (i+1)=some d from h)
  |own k ow=>exact ih (show kP Z ps (i+1)=some d from h)
  |fn f ks=>exact ih (show kP Z ps (i+1)=some d from h)
  |into j q=>exact ih (show kP Z ps (i+1)=some d from h)
  |rw k ow wt ht=>
   simp only[kP]at h
   split at h
   ·rename_i R d' hR hd
    obtain⟨hb,h⟩:=wZ h
    simp only[bg,nI]at hb
    obtain⟨⟨b1,b2⟩,b3⟩:=hb
    obtain⟨r1,r2⟩:=U5 hR
    split at h
    ·rename_i x hx
     have h2:(x,d')=d:=jV h
     subst h2
     exact⟨⟨R,r1,r2,iw hx,b1,b2,b3⟩,ih hd⟩
    ·simp at h
   ·simp at h
  |dH k ow wt=>
   simp only[kP]at h
   split at h
   ·rename_i R d' hR hd
    obtain⟨hb,h⟩:=wZ h
    simp only[bg,nI]at hb
    obtain⟨⟨b1,b2⟩,b3⟩:=hb
    obtain⟨r1,r2⟩:=U5 hR
    split at h
    ·rename_i x hx
     have h2:(x,d')=d:=jV h
     subst h2
     exact⟨⟨R,r1,r2,iw hx,b1,b2,b3⟩,ih hd⟩
    ·simp at h
   ·simp at h
theorem J8{fn:Func}{vs:List Value}(h:(fn.results.toList.mapM (Ca a)).run P w=.ok vs w):(results fn a.tmps).run P w=.ok (tY vs) w:=by
 have h2:results fn a.tmps=(do
   let vs <-fn.results.mapM (Ca a)
   pure (if h:vs.size=1 then vs[0]else .tuple vs)):=by
  unfold results
  congr 1
 rw[h2,Array.mapM_eq_mapM_toList]
 simp only[dG,map_eq_pure_bind,h,eZ,dW]
 match vs with
 | []=>rfl
 | [v]=>rfl
 |v :: u :: vs=>simp[tY]
theorem afV(hT:eG P T)(H:Rel cx Z J F a w){ps:List aH}{rs:List eF}{fn:Func}{out:Cont (iq rs++gF ps)}(h:fin T ps rs fn.results.toList Z=some out) :
  ∃v,(results fn a.tmps).run P w=.ok v w/\Post cx ps rs out v w:=by
 unfold fin at h
 obtain⟨q,h1,h2⟩:=xP _ h
 obtain⟨c,vs,its,jg,f1,f2⟩:=afT (P:=P) hT H h1
 rcases bz f2 with⟨hb,f2⟩|⟨_,f2⟩
 ·have f2:q=_:=f2
  subst f2
  have e1:(its.map (·.2)).flatMap (·.ws)=cO its:=by simp[cO,List.flatMap_map]
  have e2:(its.map (·.2)).flatMap (·.tags)=l_ its:=by simp[l_,List.flatMap_map]
  rw[e1,e2]at hb
  simp only[e1]at h2
  unfold qw wX at hb
  simp only[bg,Dk,dX,jU,gq]at hb
  obtain⟨b1,b2⟩:=hb
  have qh:∀{rs:List eF} {fE:List ResultVar} {c:Cont (iq rs)} {vs:List Value} {its:List (Value×dS)} {jg:List (List Tag)},yA P cx Z J F a w rs fE c vs its jg->∀it∈its,p_ cx Z J F w it.1 it.2:=by
   intro rs
   induction rs with
   |nil=>intro fE c vs its jg h it hi;cases fE<;>cases vs<;>cases its<;>first|exact h.elim|simp at hi
   |cons r rs ih=>
    intro fE c vs its jg h it hi
    cases r with
    |into _ _=>cases fE<;>cases vs<;>exact h.elim
    |ptr _ _ _ _=>cases fE<;>cases vs<;>exact h.elim
    |val kk exts bB=>
     cases fE<;>cases vs<;>cases jg<;>first|exact h.elim|exact ih h.2 it hi
    |own kk ow exts bB=>
     cases fE<;>cases vs<;>cases its<;>first|exact h.elim|skip
     rcases bH.1 hi with h3|h3
     ·subst h3;rw[h.1.2.1];exact h.1.2.2.1
     ·exact ih h.2 it h3
  obtain⟨aV,F1,hs,H1,g1,g2,g3,g4,g5,g6,g7,g8,g9⟩:=takes its H (qh f1) b1 (λt ht=>b2 t (bP _ ht))
  obtain⟨au,k1,k2,k3,k4⟩:=afU H1 g7 f1 g1 (λt ht=>g5 t.1 (b2 t (bD _ ht)))
  split at h2
  ·rename_i d hd
   simp only[aa]at h2
   subst h2
   refine⟨tY vs,J8 k4,_,aV,F1,a,vs,au,H1,rfl,by rw[A_];exact k1,by rw[k2];exact g2,k3,by rw[Ch];exact Ii hd⟩
  ·simp at h2
 ·exact f2.elim
theorem anx{A:Type}{z:A}{t:TypeId}{kk:K}{ow:List TypeId}{exts:List Nat}{x:AV}{v:Value}{k:El kk->Nat->Prog A}(hx:aR cx Z J F w x v)(h:(JZ t kk ow exts x k).ends Z z) :
  ∃r R y b o,aU Z r R/\cz Z R/\R.kind=.var t/\lZ (kk.tys.filter λt=>ah t ow) R.own=true/\((kk.tys.all λt=>ah t ow)=true\/oN exts [] R.tags=true)/\(∃e:R.k=kk,y=e▸R.x)/\aK J R r=some (b,o)/\v=.pointer (some ⟨b,o,none⟩)/\(k y r).ends Z z:=by
 cases x with
 |ptr r p n=>
  cases p with
  |cons s p=>exact h.elim
  |nil=>
   unfold JZ at h
   obtain⟨R,hr,hv,h⟩:=gJ h
   rcases bz h with⟨hb,h⟩|⟨_,h⟩
   ·simp only[bg,nI]at hb
    obtain⟨⟨b1,b2⟩,b3⟩:=hb
    have hk:R.kind=.var t:=by
     unfold Root.WK at b1
     split at b1
     ·rename_i u hu;rw[hu,a_ b1]
     ·simp at b1
    cases hc:bR R.k kk R.x with
    |none=>rw[hc]at h;exact h.elim
    |some y=>
     rw[hc]at h
     obtain⟨_,cs,b,o,hn,e⟩:=hx.2 R hr.1 hv (by unfold iD clean;simp[ah]) (λt ht=>by simp[az]at ht) rfl
     simp only[aN,aa,bK]at hn
     exact⟨r,R,y,b,o,hr,hv,hk,b2,b3,iw hc,hn.2,e,h⟩
   ·exact h.elim
 |_=>exact h.elim
theorem aeB(H:Rel cx Z J F a w){j:Nat}{x:AV}{v:Value}{m:Int}(hx:aR cx Z J F w x v)(h:(cutV j x λm=>(.ret m:Prog Int)).ends Z m) :
  ∃b n cp,v=.slice b m.toNat cp/\m.toNat<=n/\aR cx Z J F w (.ref (aC j) 0) (.slice b n cp):=by
 cases x with
 |ref r g=>
  simp only[cutV]at h
  rcases bz h with⟨hc,h5⟩|⟨_,h5⟩
  ·clear h
   simp only[bg]at hc
   have e1:=a_ hc.1
   have e2:=a_ hc.2
   subst e1 e2
   obtain⟨R,hr,hv,h⟩:=gJ h5
   rcases bz h with⟨hg,h⟩|⟨_,h⟩
   ·obtain⟨h1,h2⟩:=hx R hr (a_ hg)
    have hO:=(H.roots _ R hr).ow hv
    have hK:∀q:Dat,(⟨R.k,R.x⟩:Dat)=q->(match q.1,q.2 with
      |.sl _ kk,xs=>(.ret ((show List (El kk)from xs).length:Int):Prog Int)
      |_,_=>.fail).ends Z m->∃b n cp,v=.slice b m.toNat cp/\m.toNat<=n/\aR cx Z J F w (.ref (aC j) 0) (.slice b n cp):=by
     intro q hq hh
     obtain⟨qk,qx⟩:=q
     cases qk with
     |sl e kk=>
      have hm:m=((show List (El kk)from qx).length:Int):=hh
      have hV:=oC (λ_=>True) (λ_ _=>trivial) (λ_ _=>trivial) hO
      have hV:=cast (congrArg (λq:Dat=>Vw (hp w) (λ_=>True) q.1 q.2 (J.hdr (aC j))) hq) hV
      have iX:=cast (congrArg (λq:Dat=>VC q.1 v (J.hdr (aC j))) hq) h2
      obtain⟨b,n,c,g1,g2,g3,_⟩:=hV
      have iX:VC (.sl e kk) v (J.hdr (aC j)):=iX
      have g1:J.hdr (aC j)=[.slice b n c]:=g1
      have h3:=iX.1
      rw[g1]at h3
      simp only[gQ,dZ]at h3
      have g2:n=(show List (El kk)from qx).length:=g2
      refine⟨b,n,c,by rw[hm,<-g2];simpa using h3.symm,by rw[hm,<-g2];simp,by rw[h3];exact hx⟩
     |_=>exact hh.elim
    exact hK _ rfl h
   ·exact h.elim
  ·exact h5.elim
 |part r g lo hi sz=>
  simp only[cutV]at h
  rcases bz h with⟨hc,h5⟩|⟨_,h5⟩
  ·clear h
   simp only[bg]at hc
   have e1:=a_ hc.1.1
   have e2:=a_ hc.1.2
   have e3:=a_ hc.2
   subst e1 e2 e3
   have hm:m=(hi:Int):=h5
   obtain⟨b',b,n,c,g1,g2,g3,g4,g5,g6⟩:=hx
   have hb:b'=b:=by rw[g2 (.inl rfl)];simp[add_zero]
   subst hb
   exact⟨b',n,c,by rw[g1,hm];simp,by rw[hm];simpa using g4,g6⟩
  ·exact h5.elim
 |_=>exact h.elim
theorem aaG:∀{p:List (Option Nat)} {q:List Stp},l9 p q=some none->∀m,ql p m=q
 | [],[],_,_=>rfl
 | [],_ :: _,h,_=>by simp[l9]at h
 |some n :: p,[],h,_=>by simp[l9]at h
 |some n :: p,.idx i :: q,h,_=>by simp[l9]at h
 |some n :: p,.aP m :: q,h,k=>by
  have h':(bif Nat.beq n m then l9 p q else none)=some none:=h
  cases hb:Nat.beq n m with
  |false=>rw[hb]at h';simp at h'
  |true=>
   rw[hb]at h'
   have:=a_ hb
   subst this
   show Stp.aP n :: ql p k=_
   rw[aaG (p:=p) (q:=q) h']
 |none :: p,[],h,_=>by simp[l9]at h
 |none :: p,.aP i :: q,h,_=>by simp[l9]at h
 |none :: p,.idx i :: q,h,_=>by
  simp only[l9]at h
  split at h<;>simp at h
theorem aaH:∀{p:List (Option Nat)} {q:List Stp} {i:Int},l9 p q=some (some i)->ql p i=q/\∀{k:K} {x:El k},(aA q k x).isSome=true->az q k≠[]
 | [],[],_,h=>by simp[l9]at h
 | [],_ :: _,_,h=>by simp[l9]at h
 |some n :: p,[],_,h=>by simp[l9]at h
 |some n :: p,.idx i :: q,_,h=>by simp[l9]at h
 |some n :: p,.aP m :: q,i,h=>by
  have h':(bif Nat.beq n m then l9 p q else none)=some (some i):=h
  cases hb:Nat.beq n m with
  |false=>rw[hb]at h';simp at h'
  |true=>
   rw[hb]at h'
   have:=a_ hb
   subst this
   obtain⟨g1,g2⟩:=aaH (p:=p) (q:=q) h'
   refine⟨by show Stp.aP n :: ql p i=_;rw[g1],λ{k} {x} hx=>?_⟩
   cases k with
   |st c=>
    simp only[aA]at hx
    cases hg:aM n c x with
    |none=>rw[hg]at hx;simp at hx
    |some s=>
     rw[hg]at hx
     simp only[az,jK n hg]
     exact g2 hx
   |_=>simp[aA]at hx
 |none :: p,[],_,h=>by simp[l9]at h
 |none :: p,.aP i :: q,_,h=>by simp[l9]at h
 |none :: p,.idx i :: q,j,h=>by
  simp only[l9]at h
  split at h
  ·rename_i h2
   simp only[aa]at h
   subst h
   refine⟨by show Stp.idx i :: ql p i=_;rw[aaG h2],λ{k} {x} hx=>?_⟩
   cases k with
   |sl e k=>simp[az]
   |_=>simp[aA]at hx
  ·simp at h
theorem ail{j:Nat}{p:List (Option Nat)}{x:AV}{v:Value}{m:Int}(hx:aR cx Z J F w x v)(h:(I1 j p x λm=>(.ret m:Prog Int)).ends Z m):K_ Z J w j p m v:=by
 cases x with
 |iI=>
  have hm:m=-1:=h
  exact .inl ⟨by omega,hx⟩
 |ptr r q n=>
  simp only[I1]at h
  rcases bz h with⟨hc,h⟩|⟨_,h⟩
  ·have e1:=a_ hc
   subst e1
   obtain⟨R,hr,hv,h⟩:=gJ h
   rcases bz h with⟨hc,h⟩|⟨_,h⟩
   ·simp only[bg]at hc
    obtain⟨⟨c1,c2⟩,c3⟩:=hc
    split at h
    ·rename_i i ht
     obtain⟨h0,h⟩:=h
     have hm:m=i:=h
     subst hm
     obtain⟨g1,g2⟩:=aaH ht
     obtain⟨b_,cs,b,o,hn,ev⟩:=hx.2 R hr.1 hv c1 (mQ c2) c3
     exact .inr ⟨h0,R,cs,b,o,hr,by rw[g1];exact b_,by rw[g1];exact g2 c3,by rw[g1];exact hn,ev⟩
    ·exact h.elim
   ·exact h.elim
  ·exact h.elim
 |_=>exact h.elim
theorem afS(hT:eG P T)(H:Rel cx Z J F a w){ps:List aH}{rs:List eF}{fn:Func}{out:Cont (iq rs++gF ps)}(h:Ih T ps rs fn.results.toList Z=some out) :
  ∃v,(results fn a.tmps).run P w=.ok v w/\Post cx ps rs out v w:=by
 obtain⟨fE,sS⟩:∃fE,fn.results.toList=fE:=⟨_,rfl⟩
 rw[sS]at h
 have other:fin T ps rs fE Z=some out->∃v,(results fn a.tmps).run P w=.ok v w/\Post cx ps rs out v w:=λh=>afV hT H (by rw[sS];exact h)
 cases rs with
 |nil=>exact other h
 |cons q rs=>
  cases q with
  |val _ _ _=>exact other h
  |own _ _ _ _=>exact other h
  |into j q=>
   cases rs with
   |cons _ _=>cases q<;>exact other h
   |nil=>
    cases q with
    |cons t q=>
     match fE,sS,h,other with
     | [],_,h,other=>exact other h
     |_ :: _ :: _,_,h,other=>exact other h
     | [rv],sS,h,_=>
      have h:((wB T false rv λa=>I1 j (t :: q) a λm=>.ret m:Prog Int).run Z λm=>
        match kP Z ps 0 with
        |some d=>some (m,d)
        |none=>none)=some out:=h
      obtain⟨m,h1,h2⟩:=xP _ h
      obtain⟨y,u,g1,g2,_,h1⟩:=FD hT H h1
      have hI:=ail g2 h1
      split at h2
      ·rename_i d hd
       have h2:some ((m,d):Cont (iq [eF.into j (t :: q)]++gF ps))=some out:=h2
       have h2:=jV h2
       subst h2
       exact⟨_,J8 (vs:=[_]) (by rw[sS];simp[C8,g1,Result.andThen]),_,_,_,a,[_],[[]],H,rfl,⟨⟨rfl,.inr ⟨by simp,hI⟩⟩,trivial⟩,by simp,by simp,Ii hd⟩
      ·simp at h2
    |nil=>
     match fE,sS,h,other with
     | [],_,h,other=>exact other h
     |_ :: _ :: _,_,h,other=>exact other h
     | [rv],sS,h,_=>
      have h:((wB T false rv λa=>cutV j a λm=>.ret m:Prog Int).run Z λm=>
        match kP Z ps 0 with
        |some d=>some (m,d)
        |none=>none)=some out:=h
      obtain⟨m,h1,h2⟩:=xP _ h
      obtain⟨y,u,g1,g2,_,h1⟩:=FD hT H h1
      obtain⟨b,n,cp,e1,e2,e3⟩:=aeB H g2 h1
      split at h2
      ·rename_i d hd
       have h2:some ((m,d):Cont (iq [eF.into j []]++gF ps))=some out:=h2
       have h2:=jV h2
       subst h2
       exact⟨_,J8 (vs:=[_]) (by rw[sS];simp[C8,g1,Result.andThen]),_,_,_,a,[_],[[]],H,rfl,⟨⟨rfl,.inl ⟨rfl,b,n,cp,e1,e2,e3⟩⟩,trivial⟩,by simp,by simp,Ii hd⟩
      ·simp at h2
  |ptr t kk ow exts=>
   cases rs with
   |cons _ _=>exact other h
   |nil=>
    match fE,sS,h,other with
    | [],_,h,other=>exact other h
    |_ :: _ :: _,_,h,other=>exact other h
    | [rv],sS,h,_=>
     have h:((wB T false rv λa=>JZ t kk ow exts a λy r=>.ret (y,r):Prog (El kk×Nat)).run Z λq=>
       match kP (aB [.r q.2 none] Z) ps 0 with
       |some d=>some (q.1,d)
       |none=>none)=some out:=h
     obtain⟨q,h1,h2⟩:=xP _ h
     obtain⟨y,u,g1,g2,_,h1⟩:=FD hT H h1
     obtain⟨r,R,x,b,o,hr,hv,hk,b2,b3,ex,fM,rfl,h1⟩:=anx g2 h1
     have h1:q=(x,r):=h1
     subst h1
     obtain⟨k1,k2,k3,k4⟩:=al3 H hr (by rw[hk];simp) hv
     have hblk:blk J R r=b :: J.fo r:=by unfold blk;rw[fM];rfl
     have K:=H.roots r R hr
     have hnd:=K.nd
     rw[hblk]at hnd
     split at h2
     ·rename_i d hd
      have h2:some ((x,d):Cont (iq [eF.ptr t kk ow exts]++gF ps))=some out:=h2
      have h2:=jV h2
      subst h2
      refine⟨_,J8 (vs:=[_]) (by rw[sS];simp[C8,g1,Result.andThen]),_,_,_,a,[_],[b :: J.fo r],k1,rfl,⟨⟨b,o,R.tags,J.hdr r,R.own,J.fo r,rfl,rfl,b3,?_,?_,?_⟩,trivial⟩,by simpa using hnd,?_,Ii hd⟩
      ·intro u hu hm
       exact fA.2 (Cj.1 b2 u (iU.2 ⟨hu,hm⟩))
      ·obtain⟨m1,arr,e,lo,hi,m2,m3,m4,m5⟩:=K.mem b o fM
       obtain⟨ek,_⟩:=ex
       exact⟨m1,arr,e,lo,hi,m2,m3,by rw[<-ek];exact m4,m5 t hk⟩
      ·obtain⟨ek,ey⟩:=ex
       subst ek
       simp only at ey
       subst ey
       exact k3.ow k4
      ·intro c hc
       simp only[oW,GQ,jJ]at hc
       exact bP _ (by rw[hblk];exact hc)
     ·simp at h2
def Cx.tC(cx:Cx)(m:Nat):Cx:={ cx with nt:=m }
theorem Mj{m:Nat}:∀{cs:List (TypeId×Dat×List Tag)} {vs:List Value},mH (cx.tC m) Z J F w cs vs↔mH cx Z J F w cs vs
 | [],[]=>Iff.rfl
 |c :: cs,v :: vs=>and_congr Iff.rfl Mj
 | [],_ :: _=>Iff.rfl
 |_ :: _,[]=>Iff.rfl
theorem Q5{m:Nat}{x:AV}{v:Value}:aR (cx.tC m) Z J F w x v↔aR cx Z J F w x v:=by
 cases x with
 |fn f cs=>
  constructor
  ·rintro⟨vs,h1,h2⟩;exact⟨vs,h1,Mj.1 h2⟩
  ·rintro⟨vs,h1,h2⟩;exact⟨vs,h1,Mj.2 h2⟩
 |_=>exact Iff.rfl
theorem EY{m:Nat}:∀{l:List AV} {vs:List Value},gU (cx.tC m) Z J F w l vs↔gU cx Z J F w l vs
 | [],[]=>Iff.rfl
 |c :: cs,v :: vs=>and_congr Q5 EY
 | [],_ :: _=>Iff.rfl
 |_ :: _,[]=>Iff.rfl
theorem aaY{m:Nat}{x:fQ}{v:Value}:iL (cx.tC m) Z J F w x v↔iL cx Z J F w x v:=by
 cases x with
 |one x=>exact Q5
 |mg l=>
  constructor
  ·rintro⟨vs,h1,h2⟩;exact⟨vs,h1,EY.1 h2⟩
  ·rintro⟨vs,h1,h2⟩;exact⟨vs,h1,EY.2 h2⟩
 |lit _ _ l=>
  constructor
  ·rintro⟨vs,cs,h1,h2⟩;exact⟨vs,cs,h1,EY.1 h2⟩
  ·rintro⟨vs,cs,h1,h2⟩;exact⟨vs,cs,h1,EY.2 h2⟩
theorem Rel.tC{a':Act}(H:Rel cx Z J F a w){m:Nat}(hd:a'.defers=[])(hm:m<=a'.tmps.size)(hs:∀s,a'.tmps.getD s undef=a.tmps.getD s undef):Rel (cx.tC m) Z J F a' w where
 defs:=hd
 sz:=hm
 jT:=H.jT
 rP:=H.rP
 slots:=λs=>by rw[hs s];exact aaY.2 (H.slots s)
 qy:=H.qy
 roots:=λr R hr=>by
  obtain⟨o1,o2,o3,o4,o5⟩:=H.roots r R hr
  exact⟨o1,o2,o3,o4,o5⟩
 fu:=H.fu
 jc:=H.jc
 fl:=H.fl
 gD:=H.gD
 dM:=H.dM
 frame:=H.frame
 rG:=H.rG
 pJ:=H.pJ
 sV:=H.sV
 sW:=H.sW
theorem aij:∀{ps:List aH} {i:Nat} {c:Cont (kin ps)} {r:Nat} {R:Root},iY (jd ps i c) r=some R->∃j p cj,r=aC (i+j)/\ps[j]?=some p/\jF p (i+j) cj=some R:=by
 intro ps
 induction ps with
 |nil=>intro i c r R h;simp[jd,iY]at h
 |cons p ps ih=>
  intro i c r R h
  rw[Ei,E8]at h
  have hrec:iY (jd ps (i+1) (xU p ps c)) r=some R->∃j q cj,r=aC (i+j)/\(p :: ps)[j]?=some q/\jF q (i+j) cj=some R:=by
   intro h
   obtain⟨j,q,cj,h1,h2,h3⟩:=ih h
   have e:i+1+j=i+(j+1):=by omega
   exact⟨j+1,q,cj,by rw[h1,e],by simpa using h2,by rw[<-e];exact h3⟩
  cases hr:jF p i (sP p ps c)with
  |none=>rw[hr]at h;exact hrec h
  |some Q=>
   rw[hr]at h
   simp only[iY]at h
   cases hb:Nat.beq r (aC i)with
   |true=>
    rw[hb]at h
    have h':Q=R:=by simpa using h
    exact⟨0,p,sP p ps c,a_ hb,rfl,by rw[<-h'];exact hr⟩
   |false=>rw[hb]at h;exact hrec h
theorem afY:∀{ps:List aH} {i j:Nat} {k:K},wK ps j k->∃l,mJ (aC (i+j)) (tO ps i)=some (k,l):=by
 intro ps
 induction ps with
 |nil=>intro i j k h;obtain⟨ow,wt,ht,h|h⟩:=h<;>simp at h
 |cons p ps ih=>
  intro i j k h
  have hne:∀j,Nat.beq (aC (i+(j+1))) (aC i)=false:=λj=>by
   cases h:Nat.beq (aC (i+(j+1))) (aC i)with
   |true=>
    have:=a_ h
    unfold aC at this
    omega
   |false=>rfl
  cases j with
  |zero=>
   obtain⟨ow,wt,ht,h|h⟩:=h
   ·simp only[qC,aa]at h
    subst h
    exact⟨(wt,ht),by simp[tO,mJ]⟩
   ·simp only[qC,aa]at h
    subst h
    exact⟨(wt,k.tys),by simp[tO,mJ]⟩
  |succ j=>
   have h':wK ps j k:=by
    obtain⟨ow,wt,ht,h⟩:=h
    exact⟨ow,wt,ht,by simpa using h⟩
   obtain⟨l,hl⟩:=ih (i:=i+1) h'
   have e:i+1+j=i+(j+1):=by omega
   rw[e]at hl
   cases p<;>first|exact⟨l,by simp only[tO,mJ,hne j,jr];exact hl⟩|exact⟨l,hl⟩
theorem ann{ps:List aH}{c:Cont (kin ps)}(hP:G9 cx ps)(H:Rel cx (f_ ps c) J F a w)(m:Nat):Lp (cx.tC m) (tO ps 0):=by
 have hf:∀{j:Nat} {k:K},wK ps j k->∃l,mJ (aC j) (tO ps 0)=some (k,l):=λ{j} {k} h=>by
  have:=afY (i:=0) h
  simpa using this
 refine⟨λj pi hj h=>?_,λj p ts v hv=>?_,λj v hv=>?_⟩
 ·rcases h with h|⟨⟨b,o,n⟩,h⟩
  ·obtain⟨k,hk⟩:=hP.par j pi hj h
   obtain⟨l,hl⟩:=hf hk
   exact⟨_,hl⟩
  ·obtain⟨R,hR,hk,_⟩:=H.jT j pi b o n hj h
   obtain⟨j',p,cj,h1,h2,h3⟩:=aij (show iY (jd ps 0 c) (aC j)=some R from hR.1)
   have e:j=j':=by unfold aC at h1;omega
   subst e
   have:∃k,wK ps j k:=by
    cases p with
    |rw k ow wt ht=>exact⟨k,ow,wt,ht,.inl h2⟩
    |dH k ow wt=>exact⟨k,ow,wt,[],.inr h2⟩
    |own k ow=>
     have h4:=jV h3
     rw[<-h4]at hk
     simp[bL]at hk
    |_=>simp[jF]at h3
   obtain⟨k,hk⟩:=this
   obtain⟨l,hl⟩:=hf hk
   exact⟨_,hl⟩
 ·obtain⟨k,hk,e⟩:=hP.ptr j p ts v hv
  obtain⟨l,hl⟩:=hf hk
  exact⟨k,l,hl,e⟩
 ·obtain⟨k,hk⟩:=hP.ref j v hv
  obtain⟨l,hl⟩:=hf hk
  exact⟨_,hl⟩
theorem UG(hm:P.follows .mixedOrders=true)(hT:eG P T)(hSt:uy P T){E:Entry}{fn:Func}(hf:P.funcs[E.f]?=some fn)(hname:(fn.name == "runtime.NumGoroutine")=false){m:Nat}(hC:uV P m hi)
  (hF:∀c out,E.F n c=some out->vK T hi fn E.ps E.rs m c=some out):bC P n E:=by
 intro c out hout cx J args w hnt hw hsz hP H
 have h:=hF c out hout
 unfold vK at h
 cases hb:fn.body with
 |none=>rw[hb]at h;simp at h
 |some code=>
  rw[hb]at h
  simp only at h
  refine .inl ⟨Go.MuLone.run_callFunc_enter hf hname hb args w,calls_of_wp hf hb ?_⟩
  have H2:Rel (cx.tC fn.ntmps) (f_ E.ps c) J [] { tmps:=args++Array.replicate (fn.ntmps-args.size) undef,defers:=[] } w:=by
   refine H.tC rfl (by simp;omega) λs=>?_
   simp only[x9]
   rw[Array.getElem?_append]
   split
   ·rfl
   ·rename_i hlt
    rw[Array.getElem?_eq_none (by omega:args.size<=s)]
    rw[Array.getElem?_replicate]
    split<;>rfl
  have hC':uV P m { hi with nt:=fn.ntmps,eX:=tO E.ps 0 }:=hC
  refine wp_mono (aeK adI hm hT hSt hC' rfl (ann hP H _) code 0 h H2) ?_
  have hend:∀{Z':St} {J':aF} {F':List Nat} {a':Act} {w':World},Ih T E.ps E.rs fn.results.toList Z'=some out->Rel (cx.tC fn.ntmps) Z' J' F' a' w'->
    a'.defers=[]/\∃v,(results fn a'.tmps).run P w'=.ok v w'/\∃v',Ending.returned v=.returned v'/\Post cx E.ps E.rs out v' w':=by
   intro Z' J' F' a' w' h1 H3
   have H4:Rel cx Z' J' F' a' w':=by
    have:=H3.tC (m:=0) (a':=a') H3.defs (dY _) (λ_=>rfl)
    obtain⟨nt,w0,ext,par,ptrs,refs⟩:=cx
    simp only at hnt
    subst hnt
    exact this
   obtain⟨v,v1,v2⟩:=afS (P:=P) hT H4 h1
   exact⟨H3.defs,v,v1,v,rfl,v2⟩
  rintro e a' w' ⟨ex,Z',J',F',h1,h2,h3⟩
  cases e<;>simp only[Dw,aa,reduceCtorEq]at h1
  ·subst h1;exact hend h2 h3
  ·subst h1;simp at h2
  ·subst h1;exact hend h2 h3
end
end
section
open Go
variable [Fr]
def sI(W:World):(ps:List aH)->Cont (kin ps)->List Value->Prop
 | [],_,[]=>True
 |.val k [] :: ps,c,v :: vs=>(∃cs,VC k v cs/\Vw (hp W) (λb=>b<W.heap.size) k c.1 cs)/\sI W ps c.2 vs
 |_,_,_=>False
def pY(W W':World):Prop:=W'.os=W.os/\W'.output=W.output/\W.heap.size<=W'.heap.size/\∀b,b<W.heap.size->hp W' b=hp W b
def sZ(W:World):Cx:={ nt:=0,w0:=W,ext:=λ_ b=>b<W.heap.size,par:=λ_=>none,ptrs:=λ_ _ _ _=>False,refs:=λ_ _=>False }
def Qa:aF:={ loc:=λ_=>(0,0),hdr:=λ_=>[],fo:=λ_=>[] }
section
variable {P:Program}{W:World}
theorem sI.roots:∀{ps:List aH} {c:Cont (kin ps)} {vs:List Value} {i:Nat},sI W ps c vs->jd ps i c=[]/\vs.length=ps.length
 | [],_,[],_,_=>⟨rfl,rfl⟩
 | [],_,_ :: _,_,h=>h.elim
 |.val k [] :: ps,c,v :: vs,i,h=>by
  obtain⟨h1,h2⟩:=sI.roots (i:=i+1) h.2
  exact⟨h1,by simp[h2]⟩
 |.val k (_ :: _) :: ps,c,vs,_,h=>by cases vs<;>exact h.elim
 |.val k [] :: ps,c,[],_,h=>h.elim
 |.ro _ :: _,_,vs,_,h=>by cases vs<;>exact h.elim
 |.rw _ _ _ _ :: _,_,vs,_,h=>by cases vs<;>exact h.elim
 |.dH _ _ _ :: _,_,vs,_,h=>by cases vs<;>exact h.elim
 |.own _ _ :: _,_,vs,_,h=>by cases vs<;>exact h.elim
 |.fn _ _ :: _,_,vs,_,h=>by cases vs<;>exact h.elim
 |.into _ _ :: _,_,vs,_,h=>by cases vs<;>exact h.elim
theorem sI.slots{Z:St}(hσ:∀r R,¬aU Z r R):∀{ps:List aH} {c:Cont (kin ps)} {vs:List Value} {i:Nat},sI W ps c vs->∀s,(∀v,vs[s-i]?=some v->i<=s->iL (sZ W) Z Qa [] W (gG (eU ps i c) s) v)/\((vs[s-i]?=none\/s<i)->gG (eU ps i c) s=.one .undef)/\mG Z (gG (eU ps i c) s)
 | [],_,[],_,_=>λs=>⟨λv h=>by simp at h,λ_=>rfl,trivial⟩
 | [],_,_ :: _,_,h=>h.elim
 |.val k [] :: ps,c,v :: vs,i,h=>by
  intro s
  have ih:=sI.slots hσ (i:=i+1) h.2 s
  simp only[eU,gG]
  cases hb:Nat.beq s i with
  |true=>
   have:=a_ hb
   subst this
   simp only[Ao,qC,aa,fJ]
   refine⟨λu hu _=>?_,λh=>by rcases h with h|h;simp at h;omega,?_⟩
   ·subst hu
    intro _
    obtain⟨cs,h1,h2⟩:=h.1
    refine⟨cs,h1,?_⟩
    cases hf:k.flat with
    |true=>exact kL hf h2
    |false=>
     refine jO (λ_ _=>rfl) (λb hb=>⟨hb,by simp,?_,λr R hr=>absurd hr (hσ r R),λ_=>.inl ⟨s,0,by simp,hb⟩⟩) h2
     rintro⟨j,pi,o,n,h3,_⟩
     simp[sZ]at h3
   ·intro t ht
    cases hf:k.flat with
    |true=>rw[hf]at ht;simp at ht
    |false=>
     rw[hf]at ht
     simp only[jr,List.map_nil,gW]at ht
     subst ht
     exact .inl (sU s)
  |false=>
   have hne:=GZ hb
   simp only[jr]
   refine⟨λu hu hle=>?_,λhh=>?_,ih.2.2⟩
   ·refine ih.1 u ?_ (by omega)
    have e:s-i=(s-(i+1))+1:=by omega
    rw[e]at hu
    simpa using hu
   ·refine ih.2.1 ?_
    rcases hh with hh|hh
    ·by_cases hlt:s<i
     ·exact .inr (by omega)
     ·have e:s-i=(s-(i+1))+1:=by omega
      rw[e]at hh
      exact .inl (by simpa using hh)
    ·exact .inr (by omega)
 |.val k (_ :: _) :: ps,c,vs,_,h=>by cases vs<;>exact h.elim
 |.val k [] :: ps,c,[],_,h=>h.elim
 |.ro _ :: _,_,vs,_,h=>by cases vs<;>exact h.elim
 |.rw _ _ _ _ :: _,_,vs,_,h=>by cases vs<;>exact h.elim
 |.dH _ _ _ :: _,_,vs,_,h=>by cases vs<;>exact h.elim
 |.own _ _ :: _,_,vs,_,h=>by cases vs<;>exact h.elim
 |.fn _ _ :: _,_,vs,_,h=>by cases vs<;>exact h.elim
 |.into _ _ :: _,_,vs,_,h=>by cases vs<;>exact h.elim
theorem amd(hfr:∀b,Fr.free b->b<W.heap.size/\hp W b=Fr.obj b){ps:List aH}{c:Cont (kin ps)}{args:Array Value}(hV:sI W ps c args.toList):Rel (sZ W) (f_ ps c) Qa [] ⟨args,[]⟩ W:=by
 have hr0:∀r,(f_ ps c).roots r=none:=λr=>by
  show iY (jd ps 0 c) r=none
  rw[(hV.roots (i:=0)).1]
  rfl
 have hno:∀r R,¬aU (f_ ps c) r R:=λr R h=>by have h2:=h.1;rw[hr0 r]at h2;simp at h2
 have hs:=λs=>sI.slots hno (i:=0) hV s
 refine⟨rfl,dY _,λj pi b o n h=>by simp[sZ]at h,λr R h=>absurd h (hno r R),λs=>?_,λs=>(hs s).2.2,λr R h=>absurd h (hno r R),λr R h=>by rw[hr0 r]at h;simp at h,
  λr R _ _ h=>absurd h (hno r R),λb h=>by simp at h,lM,λr R h=>absurd h (hno r R),⟨rfl,rfl,rfl,bT _,λ_ _ _=>rfl,λj pi b o n h=>by simp[sZ]at h⟩,
  λj pi h=>by simp[sZ]at h,⟨λj pi h=>by simp[sZ]at h,λb hb=>⟨(hfr b hb).1,λj pi h=>by simp[sZ]at h⟩,λb hb=>(hfr b hb).2⟩,λj p ts v h=>h.elim,λj v h=>h.elim⟩
 obtain⟨h1,h2,_⟩:=hs s
 cases hv:args.toList[s]? with
 |none=>
  have:=h2 (.inl (by simpa using hv))
  rw[show(f_ ps c).slots s=.one .undef from this]
  trivial
 |some v=>
  have:=h1 v (by simpa using hv) (dY _)
  have e:args.getD s undef=v:=by
   rw[qW]at hv
   simp[x9,hv]
  show iL _ _ _ _ _ _ (args.getD s undef)
  rw[e]
  exact this
theorem ame(hfr:∀b,Fr.free b->b<W.heap.size/\hp W b=Fr.obj b){f:FuncId}{ps:List aH}{F:Nat->Cont (kin ps)->Option (Cont (iq [.val .bool [] []]++gF ps))}{n:Nat}(hE:bC P n ⟨f,ps,[.val .bool [] []],F⟩)
  {c:Cont (kin ps)} {out:Cont (iq [.val .bool [] []]++gF ps)} (hF:F n c=some out) (ht:out.1=true) {args:Array Value} (hV:sI W ps c args.toList) (hcall:(callFunc f args).run P W=.ok (.enter f args) W) :
  Calls P f args W λe W'=>e=.returned (.bool true)/\pY W W':=by
 have h:=hE c out hF (sZ W) Qa args W rfl rfl (by rw[<-Ky,(hV.roots (i:=0)).2]) ⟨λj pi h=>by simp[sZ]at h,λj p ts v h=>h.elim,λj v h=>h.elim⟩ (amd hfr hV)
 rcases h with⟨_,h⟩|⟨v,w',h,_⟩
 ·refine h.mono ?_
  rintro e W' ⟨v,rfl,Z,J,F',a,vs,au,H,rfl,hR,_⟩
  refine⟨?_,H.frame.1,H.frame.2.2.1,H.frame.2.2.2.1,λb hb=>H.frame.2.2.2.2.1 b hb (λj pi h=>by simp[sZ]at h)⟩
  cases vs with
  |nil=>exact hR.elim
  |cons v vs=>
   cases au with
   |nil=>exact hR.elim
   |cons fo au=>
    obtain⟨⟨_,T,cs,_,hv,hw⟩,hr⟩:=hR
    cases vs with
    |cons _ _=>exact hr.elim
    |nil=>
     obtain⟨e1,_⟩:=hv
     have e2:cs=[.bool out.1]:=hw
     rw[e1,ht]at e2
     simp only[gQ,dZ]at e2
     subst e2
     rfl
 ·rw[hcall]at h
  simp at h
end
end
section
open Go
mutual
def uG{H:Type}:DataW H->Nat
 |.lit (.string bytes)=>bytes.length+1
 |.lit _=>1
 |.nil=>1
 |.ptr d=>uG d+1
 |.slice elems spare=>ru elems+ru spare+1
 |.agg parts=>ru parts+1
 |.iface _ d=>uG d+1
 |.map _=>1
 |.held _=>1
def ru{H:Type}:List (DataW H)->Nat
 | []=>0
 |d :: r=>uG d+ru r
end
def qj:(k:K)->El k->Nat
 |.int _,_=>1
 |.bool,_=>1
 |.str,s=>(show List Int from s).length+1
 |.sl _ k,xs=>((show List (El k)from xs).map (qj k)).sum+1
 |.unit,_=>0
 |.pair a b,x=>qj a x.1+qj b x.2
 |.st f,x=>qj f x+1
 |.gap _,_=>0
 |.id _,_=>1
def xJ:(k:K)->El k->Prop
 |.int ik,x=>kI ik x
 |.str,s=>(show List Int from s).length<=9223372036854775807/\∀b∈(show List Int from s),0<=b/\b<256
 |.sl _ k,xs=>(show List (El k)from xs).length<=9223372036854775807/\∀x∈(show List (El k)from xs),xJ k x
 |.pair a b,x=>xJ a x.1/\xJ b x.2
 |.st f,x=>xJ f x
 |_,_=>True
theorem aes{A:Type}{p:Nat->A->Prop}:∀{n:Nat},(∀i,i<n->∃x,p i x)->∃xs:List A,xs.length=n/\∀i (h:i<xs.length),p i xs[i]:=by
 intro n h
 induction n with
 |zero=>exact⟨[],rfl,λi h=>by simp at h⟩
 |succ n ih=>
  obtain⟨xs,h1,h2⟩:=ih (λi hi=>h i (by omega))
  obtain⟨x,hx⟩:=h n (by omega)
  refine⟨xs++[x],by simp[h1],λi hi=>?_⟩
  rw[List.getElem_append]
  split
  ·exact h2 i _
  ·have:i=n:=by simp[h1]at hi;omega
   subst this
   simpa using hx
theorem aaB{A H:Type}{f:A->Nat}:∀{xs:List A} {ds:List (DataW H)},xs.length=ds.length->(∀i (h:i<xs.length) (h':i<ds.length),f xs[i]<=uG ds[i])->(xs.map f).sum<=ru ds
 | [],[],_,_=>bT _
 |x :: xs,d :: ds,hl,h=>by
  simp only[jh,List.sum_cons,ru]
  have h0:=h 0 (by simp) (by simp)
  have:=aaB (xs:=xs) (ds:=ds) (by simpa using hl) (λi h1 h2=>by
   have:=h (i+1) (by simp;omega) (by simp;omega)
   simpa using this)
  simp only[List.getElem_cons_zero]at h0
  omega
 | [],_ :: _,hl,_=>by simp at hl
 |_ :: _,[],hl,_=>by simp at hl
section
variable {P:Program}{T:bF}{W:World}{H:Type}{enc:TypeId×Value->H}
def ads[Fr](W:World)(k:K)(cs:List Value)(d:DataW H):Prop:=∃x:El k,Vw (hp W) (λb=>b<W.heap.size) k x cs/\qj k x<=uG d/\xJ k x
theorem IX{t:TypeId}{k:K}(h:qA P t k):P.cellsOf t=k.size:=by
 obtain⟨i,h1,h2,_⟩:=h
 simp[Program.cellsOf,h1,h2]
theorem aoE[Fr](hid:T.ids=false)(hfr:∀b,b<W.heap.size->Fr.free b):∀(k:K),
  (∀t n cs d ps,(iV P T k).1 t->DataW.trod enc P W 0 (λ_=>true) true n t cs=some (d,ps)->ads W k cs d)/\
  (∀(fs:List Field) off n (cs:List Value) (xs:List (DataW H×List MemPlace)),(iV P T k).2 fs off->cs.length=off+k.size->xs.length=fs.length->
   (∀(i:Nat) f,fs[i]?=some f->DataW.trod enc P W 0 (λ_=>true) true n f.type ((cs.drop f.offset).take (P.cellsOf f.type))=xs[i]?)->
   ∃x:El k,Vw (hp W) (λb=>b<W.heap.size) k x (cs.drop off)/\qj k x<=ru (xs.map (·.1))/\xJ k x):=by
 intro k
 induction k with
 |int ik=>
  refine⟨λt n cs d ps ht h=>?_,λ_ _ _ _ _ h=>h.elim⟩
  obtain⟨m,rfl,e,hw⟩:=DataW.trod_int ht.1 h
  simp only[bK]at e
  obtain⟨rfl,rfl⟩:=e
  have hr:kI ik m:=by
   cases ik<;>simp[kI]
   simp[Lit.wf,IntKind.min,IntKind.max,IntKind.signed,IntKind.bits]at hw
   omega
  exact⟨m,⟨rfl,hr⟩,bT _,hr⟩
 |bool=>
  refine⟨λt n cs d ps ht h=>?_,λ_ _ _ _ _ h=>h.elim⟩
  obtain⟨b,rfl,e⟩:=DataW.trod_bool ht.1 h
  simp only[bK]at e
  obtain⟨rfl,rfl⟩:=e
  exact⟨b,rfl,bT _,trivial⟩
 |str=>
  refine⟨λt n cs d ps ht h=>?_,λ_ _ _ _ _ h=>h.elim⟩
  obtain⟨s,rfl,e,hsz⟩:=DataW.trod_string ht.1 h
  simp only[bK]at e
  obtain⟨rfl,rfl⟩:=e
  exact⟨bytesOf s,⟨s,rfl,rfl⟩,by simp[qj,uG,bytesOf],by
   unfold maxLen at hsz
   have:(bytesOf s).length=s.size:=by simp[bytesOf]
   refine⟨(show(bytesOf s).length<=9223372036854775807 by omega),λb hb=>?_⟩
   have hb':b∈bytesOf s:=hb
   unfold bytesOf at hb'
   obtain⟨x,_,rfl⟩:=eD.1 hb'
   have:=x.toNat_lt
   omega⟩
 |unit=>exact⟨λ_ _ _ _ _ h=>h.elim,λfs off n cs xs _ hl hx hf=>⟨(),by
   have:cs.drop off=[]:=List.drop_eq_nil_of_le (by simp[K.size]at hl;omega)
   exact this,dY _,trivial⟩⟩
 |gap n=>exact⟨λ_ _ _ _ _ h=>h.elim,λ_ _ _ _ _ h=>h.elim⟩
 |id e=>exact⟨λt n cs d ps ht h=>by have:=ht.2.2;rw[hid]at this;simp at this,λ_ _ _ _ _ h=>h.elim⟩
 |sl e k ih=>
  refine⟨λt n cs d ps ht h=>?_,λ_ _ _ _ _ h=>h.elim⟩
  obtain⟨hu,_,hte,hk0,_⟩:=ht
  have hce:P.cellsOf e=k.size:=IX (cK.info hte)
  rcases DataW.trod_slice hu h with⟨rfl,e1⟩|⟨a,len,cap,elems,rest,m,rfl,rfl,e1,_,hlc,hmx,hle,hel,_,_⟩
  ·simp only[bK]at e1
   obtain⟨rfl,rfl⟩:=e1
   exact⟨[],⟨none,0,0,rfl,rfl,bT _,λh=>by omega⟩,by simp[qj,uG],⟨dY _,λx hx=>by simp at hx⟩⟩
  ·simp only[bK]at e1
   obtain⟨rfl,rfl⟩:=e1
   have hone:∀i (hi:i<len),∃x:El k,∃ds,W.cells? 0 (a.add (i*k.size)) k.size=some ds/\Vw (hp W) (λb=>b<W.heap.size) k x ds/\(∀(h':i<elems.length),qj k x<=uG elems[i].1)/\xJ k x:=by
    intro i hi
    have h1:=hel i hi
    have hi':i<elems.length:=by omega
    rw[hce,gK hi']at h1
    obtain⟨ds,h2,h3⟩:=C_.1 h1
    obtain⟨x,h4,h5,h6⟩:=ih.1 e m ds _ _ hte h3
    exact⟨x,ds,h2,h4,λ_=>h5,h6⟩
   obtain⟨xs,hl,hxs⟩:=aes hone
   refine⟨xs,⟨some a,len,cap,rfl,hl.symm,hlc,λh0=>?_⟩,?_,?_⟩
   ·obtain⟨b,o,sp⟩:=a
    have h0':0<xs.length:=by omega
    obtain⟨ds0,h2,h3,_⟩:=hxs 0 h0'
    have hb:=World.cells?_block h2 hk0
    obtain⟨_,g1,g2⟩:=World.cells?_some h2
    have hsp:sp=none:=by
     have:=g2 0 hk0
     rw[gK (by omega)]at this
     simp only[Nat.zero_mul,Addr.add,bQ,World.cell?]at this
     cases sp with
     |none=>rfl
     |some q=>split at this<;>simp at this
    subst hsp
    have hb':b<W.heap.size:=by
     rw[addr_add]at hb
     exact hb
    refine⟨b,o,rfl,hb',.inr (hfr b hb'),λi hi=>?_⟩
    obtain⟨ds,h2,h3,_⟩:=hxs i hi
    obtain⟨_,g1,g2⟩:=World.cells?_some h2
    refine⟨ds,λj hj=>?_,h3⟩
    have:=g2 j (by omega)
    rw[addr_add,addr_add,uC]at this
    exact this
   ·simp only[qj,uG]
    have:=aaB (H:=H) (f:=qj k) (xs:=xs) (ds:=elems.map (·.1)) (by simp;omega) (λi h1 h2=>by
     obtain⟨ds,_,_,h5,_⟩:=hxs i h1
     simpa using h5 (by simpa using h2))
    omega
   ·unfold maxLen at hmx
    refine⟨show xs.length<=_ by omega,λx hx=>?_⟩
    obtain⟨i,hi,rfl⟩:=u_.1 hx
    obtain⟨_,_,_,_,h6⟩:=hxs i hi
    exact h6
 |pair a b iha ihb=>
  refine⟨λ_ _ _ _ _ h=>h.elim,λfs off n cs xs ht hl hx hf=>?_⟩
  cases fs with
  |nil=>exact ht.elim
  |cons f fs=>
   cases xs with
   |nil=>simp at hx
   |cons x0 xs=>
    obtain⟨h1,h2,h3,h4⟩:=ht
    have hca:P.cellsOf f.type=a.size:=IX (cK.info h2)
    have h5:=hf 0 f rfl
    rw[h1,hca]at h5
    simp only[qC]at h5
    obtain⟨x,g1,g2,l1⟩:=iha.1 f.type n _ x0.1 x0.2 h2 h5
    obtain⟨y,g3,g4,l2⟩:=ihb.2 fs (off+a.size) n cs xs h4 (by simp[K.size]at hl;omega) (by simpa using hx) (λi f' hi=>by
     have:=hf (i+1) f' (by simpa using hi)
     simpa using this)
    refine⟨(x,y),⟨(cs.drop off).take a.size,cs.drop (off+a.size),?_,g1,g3⟩,?_,l1,l2⟩
    ·rw[<-uZ,Am]
    ·simp only[qj,jh,ru]
     omega
 |st c ih=>
  refine⟨λt n cs d ps ht h=>?_,λ_ _ _ _ _ h=>h.elim⟩
  obtain⟨⟨fs,hu,hfs⟩,hinfo⟩:=ht
  obtain⟨xs,m,rfl,e1,hl,hlen,hf⟩:=DataW.trod_struct hu h
  simp only[bK]at e1
  obtain⟨rfl,rfl⟩:=e1
  obtain⟨x,g1,g2,l1⟩:=ih.2 fs.toList 0 m cs xs hfs (by rw[hl,IX hinfo];simp[K.size]) (by simpa using hlen) (λi f hi=>hf i f (by simpa using hi))
  refine⟨x,by simp only[u6]at g1;exact g1,?_,l1⟩
  simp only[qj,uG]
  omega
theorem afR:∀{k:K} {fs:List Field} {off:Nat},(iV P T k).2 fs off->∀f∈fs,∃k',(iV P T k').1 f.type:=by
 intro k
 induction k with
 |pair a b iha ihb=>
  intro fs off h f hf
  cases fs with
  |nil=>simp at hf
  |cons f0 fs=>
   rcases bH.1 hf with h1|h1
   ·subst h1;exact⟨a,h.2.1⟩
   ·exact ihb h.2.2.2 f h1
 |unit=>intro fs off h f hf;rw[show fs=[]from h]at hf;simp at hf
 |_=>intro fs off h;exact h.elim
theorem aoF[Fr](hid:T.ids=false){sp:Nat->Bool}(hsp:∀b,b<W.heap.size->sp b=true):∀(n:Nat) (t:TypeId) (k:K) (cs:List Value) (x:DataW H×List MemPlace),(iV P T k).1 t->DataW.trod enc P W 0 (λ_=>true) true n t cs=some x->DataW.trod enc P W 0 sp true n t cs=some x:=by
 intro n
 induction n with
 |zero=>intro t k cs x _ h;simp[DataW.trod]at h
 |succ n ih=>
  intro t k cs x ht h
  cases k with
  |int ik=>obtain⟨m,rfl,rfl,hw⟩:=DataW.trod_int ht.1 h;simp[DataW.trod,ht.1,hw]
  |bool=>obtain⟨m,rfl,rfl⟩:=DataW.trod_bool ht.1 h;simp[DataW.trod,ht.1]
  |str=>obtain⟨m,rfl,rfl,hw⟩:=DataW.trod_string ht.1 h;simp[DataW.trod,ht.1,hw]
  |unit=>exact ht.elim
  |gap n=>exact ht.elim
  |id e=>have:=ht.2.2;rw[hid]at this;simp at this
  |pair a b=>exact ht.elim
  |st c=>
   obtain⟨⟨fs,hu,hfs⟩,_⟩:=ht
   obtain⟨xs,m,e,rfl,hl,hlen,hf⟩:=DataW.trod_struct hu h
   have e':m=n:=by omega
   subst e'
   refine ChangeShapes.trod_struct_mk hu hl (mapM_some_of_get _ _ (by simpa using hlen) λi f hi=>?_)
   have hi':i<xs.length:=by
    have:=(nL.1 hi).1
    simp at this
    omega
   have h1:=hf i f (by simpa using hi)
   rw[gK hi']at h1 ⊢
   obtain⟨k',hk'⟩:=afR hfs f (pX hi)
   exact ih f.type k' _ _ hk' h1
  |sl e k=>
   obtain⟨hu,_,hte,hk0,_⟩:=ht
   have hce:P.cellsOf e=k.size:=IX (cK.info hte)
   rcases DataW.trod_slice hu h with⟨rfl,rfl⟩|⟨a,len,cap,_,_,_,_,rfl,_⟩
   ·simp[DataW.trod,hu]
   ·unfold DataW.trod at h ⊢
    rw[hu]at h ⊢
    simp only[hce]at h ⊢
    split at h
    ·rename_i hc
     rw[ak hc]
     obtain⟨elems,he,h⟩:=C_.1 h
     obtain⟨rest,hr,hd⟩:=Option.map_eq_some_iff.1 h
     have hstep:∀i y,(W.cells? 0 (a.add (i*k.size)) k.size).bind (DataW.trod enc P W 0 (λ_=>true) true n e)=some y->(W.cells? 0 (a.add (i*k.size)) k.size).bind (DataW.trod enc P W 0 sp true n e)=some y:=by
      intro i y h
      obtain⟨ds,h1,h2⟩:=C_.1 h
      exact C_.2 ⟨ds,h1,ih e k ds y hte h2⟩
     refine C_.2 ⟨elems,mapM_carry he (λi y _ _ hy=>hstep i y hy),Option.map_eq_some_iff.2 ⟨rest,?_,hd⟩⟩
     simp only[bQ]at hr
     cases hs:sp a.block with
     |true=>
      simp only[bQ]
      exact mapM_carry hr (λi y _ _ hy=>hstep _ y hy)
     |false=>
      simp only[bY,bO]
      cases hcl:cap-len with
      |zero=>rw[hcl]at hr;simpa using hr
      |succ m=>
       exfalso
       rw[hcl]at hr
       have h1:=mapM_some_get hr 0 0 (by simp)
       have hlr:rest.length=m+1:=by simpa using mapM_some_length hr
       rw[gK (by omega)]at h1
       obtain⟨ds,h2,_⟩:=C_.1 h1
       have h3:=World.cells?_block h2 hk0
       have h4:(a.add ((len+0)*k.size)).block=a.block:=by unfold Addr.add;split<;>rfl
       rw[h4]at h3
       rw[hsp _ h3]at hs
       simp at hs
    ·simp at h
end
end
section
open Go
section
variable {P:Program}{T:bF}{W W':World}{H:Type}{enc:TypeId×Value->H}
def Db(P:Program)(T:bF):List aH->List TypeId->Prop
 | [],[]=>True
 |.val k [] :: ps,t :: ts=>cK P T t k/\Db P T ps ts
 |_,_=>False
def FP:(ps:List aH)->Cont (kin ps)->Nat
 |.val k _ :: ps,c=>qj k c.1+FP ps c.2
 |_,_=>0
def JK:(ps:List aH)->Cont (kin ps)->Prop
 |.val k _ :: ps,c=>xJ k c.1/\JK ps c.2
 |_,_=>True
theorem aoJ[Fr]{t:TypeId}{k:K}{v:Value}{base:Nat}{x:El k}{ok:Nat->Prop}(ht:cK P T t k)(hv:Value.okWide P W .any base t v)(hV:Vw (hp W) ok k x v.cells.toList):VC k v v.cells.toList:=by
 have hplain:∀{u:Value},(∀y,v≠.agg y)->v.cells.toList=[u]->VC k v v.cells.toList\/∃c,k=.st c:=by
  intro u hn hu
  cases k with
  |st c=>exact .inr ⟨c,rfl⟩
  |_=>
   refine .inl ⟨?_,hn⟩
   cases v<;>first|rfl|exact absurd rfl (hn _)
 unfold cK iV at ht
 cases k with
 |st c=>
  obtain⟨⟨fs,hu,_⟩,_⟩:=ht
  unfold Value.okWide at hv
  rw[hu]at hv
  obtain⟨cs,rfl,_⟩:=hv
  show Value.agg cs=.agg (cs.toList).toArray
  simp
 |unit=>exact ht.elim
 |pair a b=>exact ht.elim
 |gap n=>exact ht.elim
 |int ik=>
  unfold Value.okWide at hv
  rw[ht.1]at hv
  refine⟨?_,?_⟩<;>cases v<;>simp_all[Cell.okWide,Cell.ok,Value.cells]
 |bool=>
  unfold Value.okWide at hv
  rw[ht.1]at hv
  refine⟨?_,?_⟩<;>cases v<;>simp_all[Cell.okWide,Cell.ok,Value.cells]
 |id e=>
  unfold Value.okWide at hv
  rw[ht.1]at hv
  refine⟨?_,?_⟩<;>cases v<;>simp_all[Cell.okWide,Cell.ok,Value.cells]
 |str=>
  unfold Value.okWide at hv
  rw[ht.1]at hv
  refine⟨?_,?_⟩<;>cases v<;>simp_all[Cell.okWide,Cell.ok,Value.cells]
 |sl e k=>
  unfold Value.okWide at hv
  rw[ht.1]at hv
  refine⟨?_,?_⟩<;>cases v<;>simp_all[Cell.okWide,Cell.ok,Value.cells]
theorem Zp[Fr](hid:T.ids=false)(hfr:∀b,b<W.heap.size->Fr.free b):∀{ps:List aH} {ts:List TypeId} {vs:List Value} {ds:List (DataW H)} {p:List MemPlace} {base:Nat},Db P T ps ts->DataW.TrodAll enc P W 0 (λ_=>true) true ts vs ds p->
  (∀(j:Nat) t v,ts[j]?=some t->vs[j]?=some v->Value.okWide P W .any base t v)->∃c,sI W ps c vs/\FP ps c<=ru ds/\ds.length=ps.length/\JK ps c
 | [],[],vs,ds,p,_,_,h,_=>by
  obtain⟨rfl,rfl,_⟩:=ChangeShapes.trodAll_nil h
  exact⟨(),trivial,bT _,rfl,trivial⟩
 |.val k [] :: ps,t :: ts,vs,ds,p,base,hp1,h,hv=>by
  obtain⟨v,vs',d,ds',p1,q,rfl,rfl,rfl,⟨n,h1⟩,h2⟩:=ChangeShapes.trodAll_cons h
  obtain⟨c,g1,g2,g3,g4⟩:=Zp hid hfr hp1.2 h2 (λj t v ht hv'=>hv (j+1) t v (by simpa using ht) (by simpa using hv'))
  obtain⟨x,f1,f2,f3⟩:=(aoE (T:=T) (enc:=enc) hid hfr k).1 t n _ d p1 hp1.1 h1
  refine⟨(x,c),⟨⟨_,aoJ hp1.1 (hv 0 t v rfl rfl) f1,f1⟩,g1⟩,?_,by simp[g3],f3,g4⟩
  simp only[FP,ru]
  omega
 | [],_ :: _,_,_,_,_,h,_,_=>h.elim
 |.val _ [] :: _,[],_,_,_,_,h,_,_=>h.elim
 |.val _ (_ :: _) :: _,ts,_,_,_,_,h,_,_=>by cases ts<;>exact h.elim
 |.ro _ :: _,ts,_,_,_,_,h,_,_=>by cases ts<;>exact h.elim
 |.rw _ _ _ _ :: _,ts,_,_,_,_,h,_,_=>by cases ts<;>exact h.elim
 |.dH _ _ _ :: _,ts,_,_,_,_,h,_,_=>by cases ts<;>exact h.elim
 |.own _ _ :: _,ts,_,_,_,_,h,_,_=>by cases ts<;>exact h.elim
 |.fn _ _ :: _,ts,_,_,_,_,h,_,_=>by cases ts<;>exact h.elim
 |.into _ _ :: _,ts,_,_,_,_,h,_,_=>by cases ts<;>exact h.elim
theorem aog(hO:pY W W'){p:MemPlace}(hp1:p.block<W.heap.size):W.sameAt W' p:=by
 have h:=hO.2.2.2 p.block hp1
 cases p with
 |cell b off=>
  have h':W'.heap[b]?=W.heap[b]?:=h
  show W'.cell? _=W.cell? _
  unfold World.cell?
  simp only[h']
 |map b=>exact h
theorem ZW[Fr](hid:T.ids=false)(hO:pY W W'){sp:Nat->Bool}(hsp:∀b,b<W.heap.size->sp b=true):∀{ps:List aH} {ts:List TypeId} {vs:List Value} {ds:List (DataW H)} {p:List MemPlace},Db P T ps ts->DataW.TrodAll enc P W 0 (λ_=>true) true ts vs ds p->
  DataW.TrodAll enc P W' 0 sp true ts vs ds p
 | [],[],vs,ds,p,_,h=>by
  obtain⟨rfl,rfl,rfl⟩:=ChangeShapes.trodAll_nil h
  exact rfl
 |.val k [] :: ps,t :: ts,vs,ds,p,hp1,h=>by
  obtain⟨v,vs',d,ds',p1,q,rfl,rfl,rfl,⟨n,h1⟩,h2⟩:=ChangeShapes.trodAll_cons h
  have h3:=ZW hid hO hsp hp1.2 h2
  have h4:=aoF hid hsp n t k _ _ hp1.1 h1
  exact⟨p1,q,⟨n,DataW.trod_carry n t _ _ h4 (λp hp2=>aog hO (DataW.trod_lt n t _ _ h1 p hp2))⟩,h3,rfl⟩
 | [],_ :: _,_,_,_,h,_=>h.elim
 |.val _ [] :: _,[],_,_,_,h,_=>h.elim
 |.val _ (_ :: _) :: _,ts,_,_,_,h,_=>by cases ts<;>exact h.elim
 |.ro _ :: _,ts,_,_,_,h,_=>by cases ts<;>exact h.elim
 |.rw _ _ _ _ :: _,ts,_,_,_,h,_=>by cases ts<;>exact h.elim
 |.dH _ _ _ :: _,ts,_,_,_,h,_=>by cases ts<;>exact h.elim
 |.own _ _ :: _,ts,_,_,_,h,_=>by cases ts<;>exact h.elim
 |.fn _ _ :: _,ts,_,_,_,h,_=>by cases ts<;>exact h.elim
 |.into _ _ :: _,ts,_,_,_,h,_=>by cases ts<;>exact h.elim
theorem al1(hO:pY W W')(may:MemPlace->Prop):W.keptBut W' may:=by
 refine⟨hO.1,hO.2.1,λi hi=>?_⟩
 have h:W'.heap[i]?=W.heap[i]?:=hO.2.2.2 i hi
 rw[h]
 cases W.heap[i]? with
 |none=>rfl
 |some o=>
  cases o with
  |cells c t fr=>exact⟨rfl,rfl,rfl,λ_ _=>rfl⟩
  |map es clock=>exact .inr ⟨rfl,rfl⟩
  |_=>rfl
abbrev y_(W:World):Fr:=⟨λb=>b<W.heap.size,hp W,λ_=>.slice none 0 0,rfl,λ_=>⟨none,0,0,rfl⟩⟩
theorem amf{f:FuncId}{fn:Func}{code:Code}{ps:List aH}{F:Nat->Cont (kin ps)->Option (Cont (iq [.val .bool [] []]++gF ps))}{s:ChangeSpec}{tb:TypeId}{N:Nat}
  (hf:P.funcs[f]?=some fn) (hname:(fn.name == "runtime.NumGoroutine")=false) (hbody:fn.body=some code) (hps:Db P T ps fn.params.toList) (hres:fn.resultTypes=#[tb]) (htb:P.underlying tb=some .bool)
  (hE:letI:=y_ W; ∀n,bC P n ⟨f,ps,[.val .bool [] []],F⟩) (ahq:∀c:Cont (kin ps),JK ps c->FP ps c<=N->∃n out,F n c=some out/\out.1=true)
  (hvars:s.vars=[]) (hspec:∀ds:List (DataW H),ds.length=ps.length->s.fn H ds={ results:=[.lit (.bool true)],args:=ds })
  {base:Nat} {args:Array Value} {ds gs:List (DataW H)} {before:List MemPlace}
  (hval:∀(j:Nat) t v,fn.params[j]?=some t->args[j]?=some v->Value.okWide P W .any base t v)
  (hW:DataW.Whole enc P fn.params.toList s.vars false W args.toList ds gs before) (hb:ru (ds++gs)<=N) (hid:T.ids=false:=by rfl) :
  Calls P f args W λe W'=>∃v,e=.returned v/\s.post enc P fn false true false false W args v W':=by
 letI fr:Fr:=y_ W
 have hW':=hW
 obtain⟨p,q,hA,hV,hpq,hfz,hnd⟩:=hW
 rw[hvars]at hV
 obtain⟨rfl,rfl⟩:=ChangeShapes.trodVars_none hV
 rw[jJ]at hb
 obtain⟨c,h1,h2,h3,h6⟩:=Zp (T:=T) hid (λb hb=>hb) hps hA (λj t v ht hv=>hval j t v (by simpa using ht) (by simpa using hv))
 obtain⟨n,out,h4,h5⟩:=ahq c h6 (by omega)
 refine(ame (λb hb=>⟨hb,rfl⟩) (hE n) h4 h5 h1 (Go.MuLone.run_callFunc_enter hf hname hbody args W)).mono ?_
 rintro e W' ⟨rfl,hO⟩
 have hsp:=hspec ds h3
 rw[jJ]at hpq
 refine⟨_,rfl,ds,[],before,[],p,[],hW',?_,?_,?_,al1 hO _,λh=>by simp at h⟩
 ·rw[jJ,hsp,hres]
  exact⟨[],[],⟨1,by simp[DataW.trod,Value.cells,htb]⟩,rfl,rfl⟩
 ·rw[jJ,hsp]
  exact ZW hid hO (λb hb=>by simpa using hb) hps hA
 ·rw[jJ,hsp,hvars]
  exact rfl
end
end
section
open Go
structure vD where
 ty:List (TypeId×K)
 bytes:List (TypeId×Nat)
 ptr:List TypeId
 ids:Bool:=false
def look{A:Type}(n:Nat):List (Nat×A)->Option A
 | []=>none
 |(m,a) :: l=>bif Nat.beq n m then some a else look n l
def YX(n:Nat):List (Nat×Nat)->Nat
 | []=>0
 |(m,a) :: l=>bif Nat.beq n m then a else YX n l
def vD.tab(L:vD):bF:={ ty:=λt=>look t L.ty,bytes:=λt=>YX t L.bytes,ptr:=λt=>ah t L.ptr,eq:=λ_=>false,ids:=L.ids }
def Eo:K->Value->Bool
 |.int ik,.int jk (.ofNat 0)=>rF ik jk
 |.bool,.bool false=>true
 |.str,.string s=>Nat.beq s.data.size 0
 |.sl _ _,.slice none 0 0=>true
 |.id _,.slice none 0 0=>true
 |_,_=>false
def vX:K->List Value->Option (List Value)
 |.pair a b,l=>match vX a l with
  |some m=>vX b m
  |none=>none
 |.unit,l=>some l
 |.st f,l=>vX f l
 |.gap _,_=>none
 |k,v :: l=>bif Eo k v then some l else none
 |_,[]=>none
def N9:K->Value->Bool
 |.st f,.agg arr=>match vX f arr.toList with
  |some []=>true
  |_=>false
 |.st _,_=>false
 |k,v=>Eo k v
def xH(P:Program)(t:TypeId)(k:K):Bool:=match P.info? t with
 |some i=>Nat.beq i.size k.size&&(match i.zero with
  |some v=>N9 k v
  |none=>false)
 |none=>false
def jM(P:Program)(T:bF):K->(TypeId->Bool)×(List Field->Nat->Bool)
 |.int ik=>(λt=>(match P.underlying t with
  |some (.int jk)=>rF ik jk
  |_=>false)&&xH P t (.int ik),λ_ _=>false)
 |.bool=>(λt=>(match P.underlying t with
  |some .bool=>true
  |_=>false)&&xH P t .bool,λ_ _=>false)
 |.str=>(λt=>(match P.underlying t with
  |some .string=>true
  |_=>false)&&xH P t .str,λ_ _=>false)
 |.sl e k=>(λt=>(match P.underlying t with
  |some (.slice e')=>Nat.beq e e'
  |_=>false)&&xH P t (.sl e k)&&(jM P T k).1 e&&Nat.blt 0 k.size&&(match P.info? e with
  |some i=>Nat.beq i.bytes (T.bytes e)&&Nat.blt 0 i.bytes
  |none=>false),λ_ _=>false)
 |.unit=>(λ_=>false,λfs _=>fs.isEmpty)
 |.pair a b=>(λ_=>false,λfs off=>match fs with
  | []=>false
  |f :: fs=>Nat.beq f.offset off&&(jM P T a).1 f.type&&Nat.blt 0 a.size&&(jM P T b).2 fs (off+a.size))
 |.st c=>(λt=>(match P.underlying t with
  |some (.struct fs)=>(jM P T c).2 fs.toList 0
  |_=>false)&&xH P t (.st c),λ_ _=>false)
 |.gap _=>(λ_=>false,λ_ _=>false)
 |.id e=>(λt=>(match P.underlying t with
  |some (.slice e')=>Nat.beq e e'
  |_=>false)&&xH P t (.id e)&&T.ids,λ_ _=>false)
def FQ(P:Program)(L:vD):Bool:=L.ty.all (λq=>(jM P L.tab q.2).1 q.1)&&L.ptr.all λt=>match P.underlying t with
 |some (.pointer _)=>true
 |_=>false
section
variable [Fr]{P:Program}{T:bF}
theorem WL{k:K}{v:Value}(h:Eo k v=true):dI k=[v]/\iK k=v:=by
 unfold Eo at h
 split at h
 ·have:=Ef h;subst this;exact⟨rfl,rfl⟩
 ·exact⟨rfl,rfl⟩
 ·rename_i s
  have:s=ByteArray.empty:=by
   have h1:=a_ h
   obtain⟨d⟩:=s
   have:d=#[]:=Q6 h1
   subst this
   rfl
  subst this
  exact⟨rfl,rfl⟩
 ·exact⟨rfl,rfl⟩
 ·exact⟨rfl,rfl⟩
 ·simp at h
theorem aio:∀{k:K} {l m:List Value},vX k l=some m->l=dI k++m:=by
 intro k
 have one:∀{k:K} {l m:List Value},(match l with|v :: l=>(bif Eo k v then some l else none) | []=>none)=some m->l=dI k++m:=by
  intro k l m h
  cases l with
  |nil=>simp at h
  |cons v l=>
   obtain⟨hb,h⟩:=wZ h
   simp only[aa]at h
   subst h
   rw[(WL hb).1]
   rfl
 induction k with
 |pair a b iha ihb=>
  intro l m h
  simp only[vX]at h
  split at h
  ·rename_i q hq
   rw[iha hq,ihb h]
   simp[dI]
  ·simp at h
 |unit=>intro l m h;simp only[vX,aa]at h;subst h;rfl
 |st f ih=>intro l m h;exact ih (show vX f l=some m from h)
 |gap n=>intro l m h;simp[vX]at h
 |int ik=>intro l m h;exact one (k:=.int ik) (by cases l<;>exact h)
 |bool=>intro l m h;exact one (k:=.bool) (by cases l<;>exact h)
 |id e=>intro l m h;exact one (k:=.id e) (by cases l<;>exact h)
 |str=>intro l m h;exact one (k:=.str) (by cases l<;>exact h)
 |sl e k _=>intro l m h;exact one (k:=.sl e k) (by cases l<;>exact h)
theorem aip{k:K}{v:Value}(h:N9 k v=true):iK k=v:=by
 unfold N9 at h
 split at h
 ·rename_i f arr
  split at h
  ·rename_i hz
   have:=aio hz
   simp only[jJ]at this
   show Value.agg (dI f).toArray=.agg arr
   rw[<-this]
  ·simp at h
 ·simp at h
 ·exact(WL h).2
theorem BF{t:TypeId}{k:K}(h:xH P t k=true):qA P t k:=by
 unfold xH at h
 split at h
 ·rename_i i hi
  simp only[bg]at h
  obtain⟨h1,h2⟩:=h
  split at h2
  ·rename_i v hv
   exact⟨i,hi,a_ h1,by rw[hv,aip h2]⟩
  ·simp at h2
 ·simp at h
theorem L_{a b:Nat}(h:Nat.blt a b=true):a<b:=by
 unfold Nat.blt at h
 exact GY h
theorem aoG:∀{k:K},(∀t,(jM P T k).1 t=true->(iV P T k).1 t)/\∀fs off,(jM P T k).2 fs off=true->(iV P T k).2 fs off:=by
 intro k
 induction k with
 |int ik=>
  refine⟨λt h=>?_,λfs off h=>by simp[jM]at h⟩
  simp only[jM,bg]at h
  obtain⟨h1,h2⟩:=h
  split at h1
  ·rename_i jk hu
   have:=Ef h1;subst this
   exact⟨hu,BF h2⟩
  ·simp at h1
 |bool=>
  refine⟨λt h=>?_,λfs off h=>by simp[jM]at h⟩
  simp only[jM,bg]at h
  obtain⟨h1,h2⟩:=h
  split at h1
  ·rename_i hu;exact⟨hu,BF h2⟩
  ·simp at h1
 |str=>
  refine⟨λt h=>?_,λfs off h=>by simp[jM]at h⟩
  simp only[jM,bg]at h
  obtain⟨h1,h2⟩:=h
  split at h1
  ·rename_i hu;exact⟨hu,BF h2⟩
  ·simp at h1
 |sl e k ih=>
  refine⟨λt h=>?_,λfs off h=>by simp[jM]at h⟩
  simp only[jM,bg]at h
  obtain⟨⟨⟨⟨h1,h2⟩,h3⟩,h4⟩,h5⟩:=h
  split at h1
  ·rename_i e' hu
   have:=a_ h1;subst this
   split at h5
   ·rename_i i hi
    simp only[bg]at h5
    exact⟨hu,BF h2,ih.1 e h3,L_ h4,i,hi,a_ h5.1,L_ h5.2⟩
   ·simp at h5
  ·simp at h1
 |unit=>exact⟨λt h=>by simp[jM]at h,λfs off h=>show fs=[] by simpa[jM]using h⟩
 |gap n=>exact⟨λt h=>by simp[jM]at h,λfs off h=>by simp[jM]at h⟩
 |id e=>
  refine⟨λt h=>?_,λfs off h=>by simp[jM]at h⟩
  simp only[jM,bg]at h
  obtain⟨⟨h1,h2⟩,h3⟩:=h
  split at h1
  ·rename_i e' hu
   have:=a_ h1;subst this
   exact⟨hu,BF h2,h3⟩
  ·simp at h1
 |pair a b iha ihb=>
  refine⟨λt h=>by simp[jM]at h,λfs off h=>?_⟩
  cases fs with
  |nil=>simp[jM]at h
  |cons f fs=>
   simp only[jM,bg]at h
   obtain⟨⟨⟨h1,h2⟩,h3⟩,h4⟩:=h
   exact⟨a_ h1,iha.1 _ h2,L_ h3,ihb.2 _ _ h4⟩
 |st c ih=>
  refine⟨λt h=>?_,λfs off h=>by simp[jM]at h⟩
  simp only[jM,bg]at h
  obtain⟨h1,h2⟩:=h
  split at h1
  ·rename_i fs hu
   exact⟨⟨fs,hu,ih.2 _ _ h1⟩,BF h2⟩
  ·simp at h1
theorem Y0{A:Type}{n:Nat}{a:A}:∀{l:List (Nat×A)},look n l=some a->(n,a)∈l
 | [],h=>by simp[look]at h
 |(m,b) :: l,h=>by
  simp only[look]at h
  cases hb:Nat.beq n m with
  |true=>
   rw[hb]at h
   have:=a_ hb
   simp only[fJ,aa]at h
   subst this h
   simp
  |false=>
   rw[hb]at h
   exact .tail _ (Y0 h)
theorem QI{L:vD}(h:FQ P L=true):eG P L.tab:=by
 unfold FQ at h
 simp only[bg,dX]at h
 refine⟨λt k ht=>aoG.1 t (h.1 (t,k) (Y0 ht)),λt ht=>?_⟩
 have:=h.2 t (fA.1 ht)
 split at this
 ·rename_i e he;exact⟨e,he⟩
 ·simp at this
theorem Zb{L:vD}:uy P L.tab:=λt c x y u v w hp1 hp2 ok1 Zj _ he=>by simp[vD.tab]at he
end
end
section
open Go
abbrev DOk(T:bF)(hi:Hint)(fn:Func)(E:Entry):Prop:=∀n (c:Cont (kin E.ps)),vK T hi fn E.ps E.rs n c=E.F n c
variable [Fr]{P:Program}{n:Nat}
theorem bU:∀q∈([]:List (Nat×Option Nat×Entry)),bC P n q.2.2:=by simp
theorem aI{f:Nat}{d:Option Nat}{E:Entry}{l:List (Nat×Option Nat×Entry)}(h:bC P n E)(t:∀q∈l,bC P n q.2.2):∀q∈(f,d,E) :: l,bC P n q.2.2:=by
 intro q hq
 rcases bH.1 hq with rfl|hq
 ·exact h
 ·exact t q hq
theorem bW(hm:P.follows .mixedOrders=true){L:vD}(hL:FQ P L=true){E:Entry}{fn:Func}(hf:P.funcs[E.f]?=some fn)(hname:(fn.name == "runtime.NumGoroutine")=false){hi:Hint}(hC:∀q∈hi.calls,bC P n q.2.2)
  (hD:∀n (c:Cont (kin E.ps)),vK L.tab hi fn E.ps E.rs n c=E.F n c):bC P n E:=
 UG hm (QI hL) Zb hf hname hC (λc out h=>by rw[hD];exact h)
end
section
open Go
def gI{A:Type}(xs:List A)(i:Nat)(d:A)(f:A->A):List A:=xs.set i (f (xs.getD i d))
def ny{R:Type}(step:Nat->Option R)(fin:R):Nat->Nat->R
 |0,_=>fin
 |m+1,i=>match step i with
  |some r=>r
  |none=>ny step fin m (i+1)
theorem anL{V R:Type}{B:(V->Option R)->V->Option R}(S:Nat->V)(step:Nat->Option (Option R))(fin:Option R){m:Nat}(h1:∀L i,i<m->(∀j,j<i->step j=none)->B L (S i)=match step i with|some r=>r|none=>L (S (i+1)))(h2:∀L,(∀j,j<m->step j=none)->B L (S m)=fin) :
  ∀(d i n:Nat),i+d=m->d<n->(∀j,j<i->step j=none)->rounds B n (S i)=ny step fin d i:=by
 intro d
 induction d with
 |zero=>
  intro i n hi hn hp
  cases n with
  |zero=>omega
  |succ n=>
   have:i=m:=by omega
   subst this
   exact h2 _ hp
 |succ d ih=>
  intro i n hi hn hp
  cases n with
  |zero=>omega
  |succ n=>
   show B (rounds B n) (S i)=_
   rw[h1 _ i (by omega) hp]
   unfold ny
   cases hs:step i with
   |some r=>rfl
   |none=>exact ih (i+1) n (by omega) (by omega) (λj hj=>by
     by_cases e:j=i
     ·rw[e,hs]
     ·exact hp j (by omega))
theorem pK{V R:Type}{B:(V->Option R)->V->Option R}{v0:V}(S:Nat->V)(step:Nat->Option (Option R))(fin:Option R){m n:Nat}(h0:v0=S 0)(hn:m<n)(h1:∀L i,i<m->(∀j,j<i->step j=none)->B L (S i)=match step i with|some r=>r|none=>L (S (i+1)))(h2:∀L,(∀j,j<m->step j=none)->B L (S m)=fin) :
  rounds B n v0=ny step fin m 0:=by
 rw[h0]
 exact anL S step fin h1 h2 m 0 n (by omega) hn (λj h=>by omega)
theorem o9{A:Type}{l:List A}{i:Nat}(h:i<l.length)(d:A):l.getD ((i:Int).toNat) d=l[i]:=by
 simp[h]
theorem DD{R:Type}{step:Nat->Option R}{fin:R}:∀{m i:Nat},(∀j,i<=j->j<i+m->step j=none)->ny step fin m i=fin:=by
 intro m
 induction m with
 |zero=>intro i _;rfl
 |succ m ih=>
  intro i h
  unfold ny
  rw[h i (bT _) (by omega)]
  exact ih (λj h1 h2=>h j (by omega) (by omega))
theorem wrap_i64{x:Int}(h1 : -9223372036854775808<=x)(h2:x<=9223372036854775807):IntKind.i64.wrap x=x:=by
 simp[IntKind.wrap,IntKind.bits,IntKind.signed]
 omega
theorem kY{i:Nat}{n:Nat}(h:i<n)(hn:n<=9223372036854775807):IntKind.i64.wrap ((i:Int)+1)=((i+1:Nat):Int):=by
 rw[wrap_i64 (by omega) (by omega)]
 omega
theorem ig{i n:Nat}(h:i<n):aX (i:Int) n:=⟨by omega,by omega⟩
end
section
open Go
variable [Fr]
section
variable {P:Program}{cx:Cx}{Z:St}{J:aF}{F:List Nat}{a:Act}{w w':World}
theorem Rel.grown(H:Rel cx Z J F a w)(hO:pY w w')(ht:w'.tape=w.tape):Rel cx Z J F a w':=H.Vh hO.1 hO.2.1 hO.2.2.1 hO.2.2.2 ht
def K8:(ps:List aH)->Cont (kin ps)->List Value->Prop
 | [],_,[]=>True
 |.val k _ :: ps,c,v :: vs=>(∃cs,VC k v cs/\Vw (λ_=>none) (λ_=>False) k c.1 cs)/\K8 ps c.2 vs
 |_,_,_=>False
def nA:List aH->Bool
 | []=>true
 |.val k _ :: ps=>k.flat&&nA ps
 |_=>false
def wJ:(rs:List eF)->Cont (iq rs)->List Value->Prop
 | [],_,[]=>True
 |.val k _ _ :: rs,c,v :: vs=>k.flat=true/\(∃cs,VC k v cs/\Vw (λ_=>none) (λ_=>False) k c.1 cs)/\wJ rs c.2 vs
 |_,_,_=>False
theorem U_:∀{ps:List aH} {i:Nat} {c:Cont (kin ps)} {vs:List Value},nA ps=true->vs.length=ps.length->(∀j v,vs[j]?=some v->iL cx Z J F w (gG (eU ps i c) (i+j)) v)->K8 ps c vs
 | [],_,_,[],_,_,_=>trivial
 | [],_,_,_ :: _,_,h,_=>by simp at h
 |.val k l :: ps,i,c,[],_,h,_=>by simp at h
 |.val k l :: ps,i,c,v :: vs,hf,hl,h=>by
  simp only[nA,bg]at hf
  have h0:=h 0 v rfl
  have e0:gG (eU (.val k l :: ps) i c) (i+0)=.one (.val k c.1 (bif k.flat then []else(gB i,0) :: l.map λj=>(aC j,0))):=by
   simp only[eU,gG,lN]
   rw[show Nat.beq i i=true from Nat.beq_refl i]
   rfl
  rw[e0]at h0
  obtain⟨cs,h1,h2⟩:=h0 (.inl hf.1)
  refine⟨⟨cs,h1,kL hf.1 h2⟩,U_ (i:=i+1) hf.2 (by simpa using hl) λj u hu=>?_⟩
  have hj:=h (j+1) u (by simpa using hu)
  have e1:gG (eU (.val k l :: ps) i c) (i+(j+1))=gG (eU ps (i+1) c.2) (i+1+j):=by
   simp only[eU,gG]
   have hb:Nat.beq (i+(j+1)) i=false:=by
    cases hb:Nat.beq (i+(j+1)) i with
    |true=>have:=a_ hb;omega
    |false=>rfl
   rw[hb,show i+(j+1)=i+1+j by omega]
   rfl
  rw[e1]at hj
  exact hj
 |.ro _ :: _,_,_,_,hf,_,_=>by simp[nA]at hf
 |.rw _ _ _ _ :: _,_,_,_,hf,_,_=>by simp[nA]at hf
 |.dH _ _ _ :: _,_,_,_,hf,_,_=>by simp[nA]at hf
 |.own _ _ :: _,_,_,_,hf,_,_=>by simp[nA]at hf
 |.fn _ _ :: _,_,_,_,hf,_,_=>by simp[nA]at hf
 |.into _ _ :: _,_,_,_,hf,_,_=>by simp[nA]at hf
theorem Va{Z:St}:∀{ps:List aH} {i:Nat} {c:Cont (gF ps)},nA ps=true->m_ Z ps i c
 | [],_,_,_=>trivial
 |.val k l :: ps,i,c,hf=>by
  simp only[nA,bg]at hf
  exact Va (ps:=ps) (i:=i+1) (c:=c) hf.2
 |.ro _ :: _,_,_,hf=>by simp[nA]at hf
 |.rw _ _ _ _ :: _,_,_,hf=>by simp[nA]at hf
 |.dH _ _ _ :: _,_,_,hf=>by simp[nA]at hf
 |.own _ _ :: _,_,_,hf=>by simp[nA]at hf
 |.fn _ _ :: _,_,_,hf=>by simp[nA]at hf
 |.into _ _ :: _,_,_,hf=>by simp[nA]at hf
theorem MV:∀{rs:List eF} {c:Cont (iq rs)} {vs:List Value},wJ rs c vs->∃au,wS cx Z J F w rs c vs au/\au.flatten=[]
 | [],_,[],_=>⟨[],trivial,rfl⟩
 | [],_,_ :: _,h=>h.elim
 |.val k e p :: rs,c,[],h=>h.elim
 |.val k e p :: rs,c,v :: vs,⟨h0,⟨cs,h1,h2⟩,h3⟩=>by
  obtain⟨au,g1,g2⟩:=MV h3
  exact⟨[] :: au,⟨⟨rfl,[],cs,.inl h0,h1,kL h0 h2⟩,g1⟩,by simpa using g2⟩
 |.own _ _ _ _ :: _,_,vs,h=>by cases vs<;>exact h.elim
 |.ptr _ _ _ _ :: _,_,vs,h=>by cases vs<;>exact h.elim
 |.into _ _ :: _,_,vs,h=>by cases vs<;>exact h.elim
theorem Mr{n:Nat}{E:Entry}(hps:nA E.ps=true)(h:∀c out,E.F n c=some out->∀(args:Array Value) (w:World),(∀b,Fr.free b->hp w b=Fr.obj b)->K8 E.ps c args.toList->
  uh P E.f args w λv w'=>∃vs,v=tY vs/\wJ E.rs (Cont.fst _ _ out) vs/\pY w w'/\w'.tape=w.tape):bC P n E:=by
 intro c out hout cx J args w _ _ hsz _ H
 have hA:=U_ (cx:=cx) (Z:=f_ E.ps c) (J:=J) (F:=[]) (w:=w) (i:=0) (c:=c) (vs:=args.toList) hps (by simpa using hsz) (λj v hv=>by
  have:=H.slots j
  rw[qW]at hv
  rw[x9,hv]at this
  rw[jN]
  exact this)
 have hpost:∀v w',(∃vs,v=tY vs/\wJ E.rs (Cont.fst _ _ out) vs/\pY w w'/\w'.tape=w.tape)->Post cx E.ps E.rs out v w':=by
  rintro v w' ⟨vs,h1,h2,h3,h4⟩
  obtain⟨au,g1,g2⟩:=MV (cx:=cx) (Z:=f_ E.ps c) (J:=J) (F:=[]) (w:=w') h2
  exact⟨_,J,[],_,vs,au,H.grown h3 h4,h1,g1,by rw[g2];exact lM,λb hb=>by rw[g2]at hb;simp at hb,Va hps⟩
 rcases h c out hout args w (λb hb=>H.fixed hb) hA with⟨h1,h2⟩|⟨v,w',h1,h2⟩
 ·refine .inl ⟨h1,h2.mono ?_⟩
  rintro e w' ⟨v,rfl,hv⟩
  exact⟨v,rfl,hpost v w' hv⟩
 ·exact .inr ⟨v,w',h1,hpost v w' h2⟩
end
end
section
open Go
variable [Fr]
section
variable {P:Program}{cx:Cx}{Z:St}{J:aF}{F:List Nat}{a:Act}{w w':World}
def CR:(ps:List aH)->Cont (kin ps)->List Value->Prop
 | [],_,[]=>True
 |.val k _ :: ps,c,v :: vs=>(∃cs,VC k v cs/\Vw (λ_=>none) (λ_=>False) k c.1 cs)/\CR ps c.2 vs
 |.fn f [] :: ps,c,v :: vs=>v=.func (.func f) #[] #[]/\CR ps c vs
 |.into _ [] :: ps,c,v :: vs=>(∃b,v=.slice b 0 0)/\CR ps c vs
 |_,_,_=>False
def kQ:List aH->Bool
 | []=>true
 |.val k _ :: ps=>k.flat&&kQ ps
 |.fn _ [] :: ps=>kQ ps
 |.into _ [] :: ps=>kQ ps
 |_=>false
theorem Ik:∀{ps:List aH} {i:Nat} {c:Cont (kin ps)} {vs:List Value},kQ ps=true->vs.length=ps.length->(∀j v,vs[j]?=some v->iL cx Z J F w (gG (eU ps i c) (i+j)) v)->CR ps c vs
 | [],_,_,[],_,_,_=>trivial
 | [],_,_,_ :: _,_,h,_=>by simp at h
 |.val k l :: ps,i,c,[],_,h,_=>by simp at h
 |.val k l :: ps,i,c,v :: vs,hf,hl,h=>by
  simp only[kQ,bg]at hf
  have h0:=h 0 v rfl
  have e0:gG (eU (.val k l :: ps) i c) (i+0)=.one (.val k c.1 (bif k.flat then []else(gB i,0) :: l.map λj=>(aC j,0))):=by
   simp only[eU,gG,lN]
   rw[show Nat.beq i i=true from Nat.beq_refl i]
   rfl
  rw[e0]at h0
  obtain⟨cs,h1,h2⟩:=h0 (.inl hf.1)
  refine⟨⟨cs,h1,kL hf.1 h2⟩,Ik (i:=i+1) hf.2 (by simpa using hl) λj u hu=>?_⟩
  have hj:=h (j+1) u (by simpa using hu)
  have e1:gG (eU (.val k l :: ps) i c) (i+(j+1))=gG (eU ps (i+1) c.2) (i+1+j):=by
   simp only[eU,gG]
   have hb:Nat.beq (i+(j+1)) i=false:=by
    cases hb:Nat.beq (i+(j+1)) i with
    |true=>have:=a_ hb;omega
    |false=>rfl
   rw[hb,show i+(j+1)=i+1+j by omega]
   rfl
  rw[e1]at hj
  exact hj
 |.fn f [] :: ps,i,c,[],_,h,_=>by simp at h
 |.fn f [] :: ps,i,c,v :: vs,hf,hl,h=>by
  have hf':kQ ps=true:=hf
  have h0:=h 0 v rfl
  have e0:gG (eU (.fn f [] :: ps) i c) (i+0)=.one (.fn f []):=by
   simp only[eU,gG,lN]
   rw[show Nat.beq i i=true from Nat.beq_refl i]
   rfl
  rw[e0]at h0
  obtain⟨us,h1,h2⟩:=h0
  refine⟨?_,Ik (i:=i+1) hf' (by simpa using hl) λj u hu=>?_⟩
  ·cases us with
   |nil=>exact h1
   |cons u us=>exact h2.elim
  ·have hj:=h (j+1) u (by simpa using hu)
   have e1:gG (eU (.fn f [] :: ps) i c) (i+(j+1))=gG (eU ps (i+1) c) (i+1+j):=by
    simp only[eU,gG]
    have hb:Nat.beq (i+(j+1)) i=false:=by
     cases hb:Nat.beq (i+(j+1)) i with
     |true=>have:=a_ hb;omega
     |false=>rfl
    rw[hb,show i+(j+1)=i+1+j by omega]
    rfl
   rw[e1]at hj
   exact hj
 |.fn f (_ :: _) :: _,_,_,_,hf,_,_=>by simp[kQ]at hf
 |.ro _ :: _,_,_,_,hf,_,_=>by simp[kQ]at hf
 |.rw _ _ _ _ :: _,_,_,_,hf,_,_=>by simp[kQ]at hf
 |.dH _ _ _ :: _,_,_,_,hf,_,_=>by simp[kQ]at hf
 |.own _ _ :: _,_,_,_,hf,_,_=>by simp[kQ]at hf
 |.into _ [] :: ps,i,c,[],_,h,_=>by simp at h
 |.into m [] :: ps,i,c,v :: vs,hf,hl,h=>by
  have hf':kQ ps=true:=hf
  have h0:=h 0 v rfl
  have e0:gG (eU (.into m [] :: ps) i c) (i+0)=.one .eH:=by
   simp only[eU,gG,lN]
   rw[show Nat.beq i i=true from Nat.beq_refl i]
   rfl
  rw[e0]at h0
  refine⟨h0,Ik (i:=i+1) hf' (by simpa using hl) λj u hu=>?_⟩
  have hj:=h (j+1) u (by simpa using hu)
  have e1:gG (eU (.into m [] :: ps) i c) (i+(j+1))=gG (eU ps (i+1) c) (i+1+j):=by
   simp only[eU,gG]
   have hb:Nat.beq (i+(j+1)) i=false:=by
    cases hb:Nat.beq (i+(j+1)) i with
    |true=>have:=a_ hb;omega
    |false=>rfl
   rw[hb,show i+(j+1)=i+1+j by omega]
   rfl
  rw[e1]at hj
  exact hj
 |.into _ (_ :: _) :: _,_,_,_,hf,_,_=>by simp[kQ]at hf
theorem DF{Z:St}:∀{ps:List aH} {i:Nat} {c:Cont (gF ps)},kQ ps=true->m_ Z ps i c
 | [],_,_,_=>trivial
 |.val k l :: ps,i,c,hf=>by
  simp only[kQ,bg]at hf
  exact DF (ps:=ps) (i:=i+1) (c:=c) hf.2
 |.fn f [] :: ps,i,c,hf=>DF (ps:=ps) (i:=i+1) (c:=c) hf
 |.fn f (_ :: _) :: _,_,_,hf=>by simp[kQ]at hf
 |.ro _ :: _,_,_,hf=>by simp[kQ]at hf
 |.rw _ _ _ _ :: _,_,_,hf=>by simp[kQ]at hf
 |.dH _ _ _ :: _,_,_,hf=>by simp[kQ]at hf
 |.own _ _ :: _,_,_,hf=>by simp[kQ]at hf
 |.into _ [] :: ps,i,c,hf=>DF (ps:=ps) (i:=i+1) (c:=c) hf
 |.into _ (_ :: _) :: _,_,_,hf=>by simp[kQ]at hf
def Tq(w w':World)(t:TypeId)(k:K)(xs:List (El k))(v:Value):Prop:=
 (∃p,v=.slice p 0 0/\xs=[])\/∃g cap cur,v=.slice (some ⟨g,0,none⟩) xs.length cap/\w.heap.size<=g/\hp w' g=some (.cells cur t (0,0))/\xs.length<=cap/\cap*k.size<=cur.size/\
  ∀(i:Nat) (hi:i<xs.length),∃ds,Cells (hp w') g (i*k.size) ds/\Vw (λ_=>none) (λ_=>False) k xs[i] ds
end
end
section
open Go
variable [Fr]
section
variable {P:Program}{cx:Cx}{Z:St}{J:aF}{F:List Nat}{a:Act}{w w':World}
def LF(w:World):(ps:List aH)->Cont (kin ps)->List Value->Prop
 | [],_,[]=>True
 |.val k _ :: ps,c,v :: vs=>(∃cs,VC k v cs/\Vw (hp w) (λb=>b<w.heap.size) k c.1 cs)/\LF w ps c.2 vs
 |_,_,_=>False
def mW:List aH->Bool
 | []=>true
 |.val _ [] :: ps=>mW ps
 |_=>false
theorem aaP:∀{ps:List aH} {i:Nat} {c:Cont (kin ps)} {vs:List Value},mW ps=true->vs.length=ps.length->(∀j v,vs[j]?=some v->iL cx Z J F w (gG (eU ps i c) (i+j)) v)->LF w ps c vs
 | [],_,_,[],_,_,_=>trivial
 | [],_,_,_ :: _,_,h,_=>by simp at h
 |.val k (_ :: _) :: ps,i,c,vs,hf,_,_=>by simp[mW]at hf
 |.val k [] :: ps,i,c,[],_,h,_=>by simp at h
 |.val k [] :: ps,i,c,v :: vs,hf,hl,h=>by
  have hf':mW ps=true:=hf
  have h0:=h 0 v rfl
  have e0:gG (eU (.val k [] :: ps) i c) (i+0)=.one (.val k c.1 (bif k.flat then []else [(gB i,0)])):=by
   simp only[eU,gG,lN]
   rw[show Nat.beq i i=true from Nat.beq_refl i]
   rfl
  rw[e0]at h0
  have hcl:cu Z k.tys (bif k.flat then []else [(gB i,0)])=true:=by
   cases k.flat with
   |true=>rfl
   |false=>
    show cu Z k.tys [(gB i,0)]=true
    rw[vG]
    intro t ht
    simp only[gW]at ht
    subst ht
    exact .inl (by simp[fO,gB])
  obtain⟨cs,h1,h2⟩:=h0 (.inr hcl)
  refine⟨⟨cs,h1,jO (λ_ _=>rfl) (λb hb=>hb.1) h2⟩,aaP (i:=i+1) hf' (by simpa using hl) λj u hu=>?_⟩
  have hj:=h (j+1) u (by simpa using hu)
  have e1:gG (eU (.val k [] :: ps) i c) (i+(j+1))=gG (eU ps (i+1) c.2) (i+1+j):=by
   simp only[eU,gG]
   have hb:Nat.beq (i+(j+1)) i=false:=by
    cases hb:Nat.beq (i+(j+1)) i with
    |true=>have:=a_ hb;omega
    |false=>rfl
   rw[hb,show i+(j+1)=i+1+j by omega]
   rfl
  rw[e1]at hj
  exact hj
 |.ro _ :: _,_,_,_,hf,_,_=>by simp[mW]at hf
 |.rw _ _ _ _ :: _,_,_,_,hf,_,_=>by simp[mW]at hf
 |.dH _ _ _ :: _,_,_,_,hf,_,_=>by simp[mW]at hf
 |.own _ _ :: _,_,_,_,hf,_,_=>by simp[mW]at hf
 |.fn _ _ :: _,_,_,_,hf,_,_=>by simp[mW]at hf
 |.into _ _ :: _,_,_,_,hf,_,_=>by simp[mW]at hf
theorem aaQ{Z:St}:∀{ps:List aH} {i:Nat} {c:Cont (gF ps)},mW ps=true->m_ Z ps i c
 | [],_,_,_=>trivial
 |.val k (_ :: _) :: ps,i,c,hf=>by simp[mW]at hf
 |.val k [] :: ps,i,c,hf=>aaQ (ps:=ps) (i:=i+1) (c:=c) hf
 |.ro _ :: _,_,_,hf=>by simp[mW]at hf
 |.rw _ _ _ _ :: _,_,_,hf=>by simp[mW]at hf
 |.dH _ _ _ :: _,_,_,hf=>by simp[mW]at hf
 |.own _ _ :: _,_,_,hf=>by simp[mW]at hf
 |.fn _ _ :: _,_,_,hf=>by simp[mW]at hf
 |.into _ _ :: _,_,_,hf=>by simp[mW]at hf
theorem Ms{n:Nat}{E:Entry}(hps:mW E.ps=true)(h:∀c out,E.F n c=some out->∀(args:Array Value) (w:World),(∀b,Fr.free b->hp w b=Fr.obj b)->LF w E.ps c args.toList->
  uh P E.f args w λv w'=>∃vs,v=tY vs/\wJ E.rs (Cont.fst _ _ out) vs/\pY w w'/\w'.tape=w.tape):bC P n E:=by
 intro c out hout cx J args w _ _ hsz _ H
 have hA:=aaP (cx:=cx) (Z:=f_ E.ps c) (J:=J) (F:=[]) (w:=w) (i:=0) (c:=c) (vs:=args.toList) hps (by simpa using hsz) (λj v hv=>by
  have:=H.slots j
  rw[qW]at hv
  rw[x9,hv]at this
  rw[jN]
  exact this)
 have hpost:∀v w',(∃vs,v=tY vs/\wJ E.rs (Cont.fst _ _ out) vs/\pY w w'/\w'.tape=w.tape)->Post cx E.ps E.rs out v w':=by
  rintro v w' ⟨vs,h1,h2,h3,h4⟩
  obtain⟨au,g1,g2⟩:=MV (cx:=cx) (Z:=f_ E.ps c) (J:=J) (F:=[]) (w:=w') h2
  exact⟨_,J,[],_,vs,au,H.grown h3 h4,h1,g1,by rw[g2];exact lM,λb hb=>by rw[g2]at hb;simp at hb,aaQ hps⟩
 rcases h c out hout args w (λb hb=>H.fixed hb) hA with⟨h1,h2⟩|⟨v,w',h1,h2⟩
 ·refine .inl ⟨h1,h2.mono ?_⟩
  rintro e w' ⟨v,rfl,hv⟩
  exact⟨v,rfl,hpost v w' hv⟩
 ·exact .inr ⟨v,w',h1,hpost v w' h2⟩
theorem Kt{E:Entry}(h:∀c,E.F 0 c=none):bC P 0 E:=λc out hout=>by rw[h c]at hout;simp at hout
theorem J5{n:Nat}(hm:P.follows .mixedOrders=true){L:vD}(hL:FQ P L=true){E:Entry}{fn:Func}(hf:P.funcs[E.f]?=some fn)(hname:(fn.name == "runtime.NumGoroutine")=false){hi:Hint}(hC:∀q∈hi.calls,bC P n q.2.2)
  (hD:∀(c:Cont (kin E.ps)),vK L.tab hi fn E.ps E.rs n c=E.F (n+1) c):bC P (n+1) E:=
 UG hm (QI hL) Zb hf hname hC (λc out h=>by rw[hD];exact h)
end
end
section
open Go
section
variable {e:TypeId}{kk:K}
def Rw(e:TypeId)(kk:K)(z:Bool)(tb:Nat->List (El kk)):(k k':K)->El k->El k'->List Nat->Prop
 |.sl f k,.id f',xs,i,ns=>f=e/\f'=e/\∃h:k=kk,h▸(show List (El k)from xs)=tb i/\((i≠(0:Nat)/\ns=[i])\/(z=true/\i=(0:Nat)/\tb 0=[]/\ns=[]))
 |.sl f k,.sl f' k',xs,ys,ns=>f=f'/\k'.size=k.size/\(show List (El k)from xs).length=(show List (El k')from ys).length/\∃nss:List (List Nat),nss.length=(show List (El k)from xs).length/\ns=nss.flatten/\
   ∀(i:Nat) (h1:i<(show List (El k)from xs).length) (h2:i<(show List (El k')from ys).length),Rw e kk z tb k k' ((show List (El k)from xs)[i]) ((show List (El k')from ys)[i]) (nss.getD i [])
 |.pair a b,.pair a' b',x,y,ns=>∃n1 n2,ns=n1++n2/\Rw e kk z tb a a' x.1 y.1 n1/\Rw e kk z tb b b' x.2 y.2 n2
 |.st f,.st f',x,y,ns=>Rw e kk z tb f f' x y ns
 |.int ik,.int jk,x,y,ns=>ik=jk/\(show Int from x)=y/\ns=[]
 |.bool,.bool,x,y,ns=>(show Bool from x)=y/\ns=[]
 |.str,.str,x,y,ns=>(show List Int from x)=y/\ns=[]
 |.unit,.unit,_,_,ns=>ns=[]
 |_,_,_,_,_=>False
theorem Rw.size{z:Bool}{tb:Nat->List (El kk)}:∀{k k':K} {x:El k} {y:El k'} {ns:List Nat},Rw e kk z tb k k' x y ns->k'.size=k.size:=by
 intro k
 induction k with
 |sl f k ih=>intro k' x y ns h;cases k'<;>first|rfl|exact h.elim
 |pair a b iha ihb=>
  intro k' x y ns h
  cases k' with
  |pair a' b'=>unfold Rw at h;obtain⟨n1,n2,_,h1,h2⟩:=h;simp[K.size,iha h1,ihb h2]
  |_=>exact h.elim
 |st f ih=>
  intro k' x y ns h
  cases k' with
  |st f'=>unfold Rw at h;exact ih (k':=f') (x:=x) (y:=y) (ns:=ns) h
  |_=>exact h.elim
 |int ik=>intro k' x y ns h;cases k'<;>first|rfl|exact h.elim
 |bool=>intro k' x y ns h;cases k'<;>first|rfl|exact h.elim
 |str=>intro k' x y ns h;cases k'<;>first|rfl|exact h.elim
 |unit=>intro k' x y ns h;cases k'<;>first|rfl|exact h.elim
 |gap n=>intro k' x y ns h;cases k'<;>exact h.elim
 |id f=>intro k' x y ns h;cases k'<;>exact h.elim
variable [fr:Fr]
def uN:K->Bool
 |.id _=>false
 |.sl _ k=>uN k
 |.pair a b=>uN a&&uN b
 |.st f=>uN f
 |_=>true
theorem TH{h:Heap}{ok:Nat->Prop}(fr':Fr)(hf:fr'.free=fr.free):∀{k:K} {x:El k} {cs:List Value},uN k=true->@Vw fr h ok k x cs->@Vw fr' h ok k x cs:=by
 intro k
 induction k with
 |sl f k ih=>
  intro x cs hk H
  obtain⟨a,n,c,e1,e2,e3,H⟩:=H
  refine⟨a,n,c,e1,e2,e3,λhn=>?_⟩
  obtain⟨b,o,ea,hb,ht,H⟩:=H hn
  refine⟨b,o,ea,hb,ht.imp id (λh=>by rw[hf];exact h),λi hi=>?_⟩
  obtain⟨ds,h1,h2⟩:=H i hi
  exact⟨ds,h1,ih hk h2⟩
 |pair a b iha ihb=>
  intro x cs hk H
  simp only[uN,bg]at hk
  obtain⟨c1,c2,e,h1,h2⟩:=H
  exact⟨c1,c2,e,iha hk.1 h1,ihb hk.2 h2⟩
 |st f ih=>intro x cs hk H;exact ih (x:=x) (cs:=cs) hk H
 |id f=>intro x cs hk;simp[uN]at hk
 |int ik=>intro x cs _ H;exact H
 |bool=>intro x cs _ H;exact H
 |str=>intro x cs _ H;exact H
 |unit=>intro x cs _ H;exact H
 |gap n=>intro x cs _ H;exact H
def vJ(cx:Cx)(bad:List Nat):Cx:={ cx with
 par:=λj=>(cx.par j).map λpi=>{ pi with bl:=pi.bl.filter λb=>!ah b bad }
 ptrs:=λ_ _ _ _=>False
 refs:=λ_ _=>False }
theorem aeF{cx:Cx}{bad:List Nat}{j:Nat}{Qg:G8}(h:(vJ cx bad).par j=some Qg):∃pi,cx.par j=some pi/\Qg={ pi with bl:=pi.bl.filter λb=>!ah b bad }:=by
 simp only[vJ,Option.map_eq_some_iff]at h
 obtain⟨pi,h1,h2⟩:=h
 exact⟨pi,h1,h2.symm⟩
theorem aeE{cx:Cx}{bad:List Nat}{b:Nat}:kV (vJ cx bad) b↔kV cx b:=by
 constructor
 ·rintro⟨j,Qg,o,n,h1,h2⟩
  obtain⟨pi,g1,rfl⟩:=aeF h1
  exact⟨j,pi,o,n,g1,h2⟩
 ·rintro⟨j,pi,o,n,h1,h2⟩
  exact⟨j,{ pi with bl:=pi.bl.filter λb=>!ah b bad },o,n,by simp[vJ,h1],h2⟩
def AZ(T:List Tag):Prop:=∀t∈T,fO t.1=true
def adE:fQ->Prop
 |.one .undef=>True
 |.one (.ptr r p n)=>r=aC 0/\p=[]/\n=0
 |.one (.val k _ T)=>uN k=true/\AZ T
 |.one (.fn _ cs)=>∀c∈cs,uN c.2.1.1=true/\AZ c.2.2/\c.1=SENT
 |_=>False
section
variable {cx:Cx}{Z:St}{J:aF}{a:Act}{w:World}
theorem anf{R0 R1:Root}{bE bad:List Nat}(h0:∀r R,aU Z r R->r=aC 0/\R=R0)(h1:aU Z (aC 0) R0)(hk:R1.kind=R0.kind)(hsub:∀b∈bE,b∈J.fo (aC 0))(hbad:∀b∈bad,b∈J.fo (aC 0)){T:List Tag}(hT:AZ T){b:Nat}(h:aO cx Z J [] w T b) :
  aO (vJ cx bad) (aL Z (aC 0) R1) (aW J (aC 0) (J.loc (aC 0)) (J.hdr (aC 0)) bE) [] w T b:=by
 obtain⟨g1,g2,g3,g4,g5⟩:=h
 refine⟨g1,g2,λhb=>g3 (aeE.1 hb),λr R hr hb=>?_,λhlt=>?_⟩
 ·rcases tq hr with⟨rfl,rfl,_⟩|⟨e,hr'⟩
  ·rw[o8]at hb
   refine g4 _ R0 h1 ?_
   rw[iN]
   unfold iF at hb ⊢
   rw[hk]at hb
   rcases cZ.1 hb with h|h
   ·exact bP _ h
   ·exact bD _ (hsub b h)
  ·exact absurd (h0 r R hr').1 e
 ·rcases g5 hlt with⟨j,n,f1,f2⟩|⟨j,pi,f1,f2⟩
  ·exact .inl ⟨j,n,f1,f2⟩
  ·refine .inr ⟨j,{ pi with bl:=pi.bl.filter λb=>!ah b bad },by simp[vJ,f1],?_⟩
   refine iU.2 ⟨f2,?_⟩
   cases hm:ah b bad with
   |false=>rfl
   |true=>
    have hb:=hbad b (fA.1 hm)
    obtain⟨n,hn⟩:=g4 _ R0 h1 (by rw[iN];exact bD _ hb)
    have:=hT _ hn
    rw[En]at this
    simp at this
theorem Uu{Z:St}{tys:List TypeId}{T:List Tag}(h:AZ T):cu Z tys T=true:=vG.2 λt ht=>.inl (h t ht)
structure Ag(cx:Cx)(Z:St)(J:aF)(R0 R1:Root)(bE bad:List Nat):Prop where
 only:∀r R,aU Z r R->r=aC 0/\R=R0
 lv:aU Z (aC 0) R0
 kind:R1.kind=R0.kind
 tags:R0.tags=[]
 sub:∀b∈bE,b∈J.fo (aC 0)
 bad:∀b∈bad,b∈J.fo (aC 0)
theorem Ag.aO{R0 R1:Root}{bE bad:List Nat}(L:Ag cx Z J R0 R1 bE bad){T:List Tag}(hT:AZ T){b:Nat}(h:Ow.aO cx Z J [] w T b) :
  Ow.aO (vJ cx bad) (aL Z (aC 0) R1) (aW J (aC 0) (J.loc (aC 0)) (J.hdr (aC 0)) bE) [] w T b:=anf L.only L.lv L.kind L.sub L.bad hT h
theorem Ag.wh{R0 R1:Root}{bE bad:List Nat}(L:Ag cx Z J R0 R1 bE bad):aK (aW J (aC 0) (J.loc (aC 0)) (J.hdr (aC 0)) bE) R1 (aC 0)=aK J R0 (aC 0):=by
 rw[t_]
 unfold kX aK
 rw[L.kind]<;>cases R0.kind<;>rfl
theorem Ag.av(fr':Fr)(hf:fr'.free=fr.free){R0 R1:Root}{bE bad:List Nat}(L:Ag cx Z J R0 R1 bE bad){x:fQ}{v:Value}(hx:adE x)(h : @iL fr cx Z J [] w x v) :
  @iL fr' (vJ cx bad) (aL Z (aC 0) R1) (aW J (aC 0) (J.loc (aC 0)) (J.hdr (aC 0)) bE) [] w x v:=by
 have hv0:cz Z R0:=⟨L.lv.2,by rw[L.tags];rfl⟩
 cases x with
 |mg l=>exact hx.elim
 |lit _ _ _=>exact hx.elim
 |one x=>
  cases x with
  |undef=>trivial
  |ptr r p n=>
   obtain⟨rfl,rfl,rfl⟩:=hx
   refine⟨h.1,λR hR _ _ _ _=>?_⟩
   rw[fF]at hR
   have hR:=jV hR
   subst hR
   obtain⟨_,cs,b,o,hn,e⟩:=h.2 R0 L.lv.1 hv0 (by unfold iD clean;simp[ah]) (λt ht=>by simp[az]at ht) rfl
   simp only[aN,aa,bK]at hn
   refine⟨trivial,J.hdr (aC 0),b,o,?_,e⟩
   simp only[aN]
   rw[L.wh,hn.2]
   simp[aW,upd_same]
  |val k x T=>
   intro _
   obtain⟨cs,h1,h2⟩:=h (.inr (Uu hx.2))
   exact⟨cs,h1,@TH fr _ _ fr' hf _ _ _ hx.1 (@jO fr _ _ _ _ (λ_ _=>rfl) (λb hb=>L.aO hx.2 hb) _ _ _ h2)⟩
  |fn f cs=>
   obtain⟨vs,e,hc⟩:=h
   refine⟨vs,e,?_⟩
   clear e
   have key:∀(cs:List (TypeId×Dat×List Tag)) (vs:List Value),(∀c∈cs,uN c.2.1.1=true/\AZ c.2.2/\c.1=SENT)->@mH fr cx Z J [] w cs vs->@mH fr' (vJ cx bad) (aL Z (aC 0) R1) (aW J (aC 0) (J.loc (aC 0)) (J.hdr (aC 0)) bE) [] w cs vs:=by
    intro cs
    induction cs with
    |nil=>intro vs _ h;cases vs<;>exact h
    |cons c cs ih=>
     intro vs hc h
     cases vs with
     |nil=>exact h
     |cons v vs=>
      obtain⟨⟨h1,h2⟩,h3⟩:=h
      obtain⟨g1,g2,g3⟩:=hc c (by simp)
      refine⟨⟨h1,λ_=>?_⟩,ih vs (λc hc'=>hc c (by simp[hc'])) h3⟩
      obtain⟨b,o,ds,e,q1,q2,⟨q3,q4,q5⟩,_⟩:=h2 (Uu g2)
      refine⟨b,o,ds,e,q1,@TH fr _ _ fr' hf _ _ _ g1 (@jO fr _ _ _ _ (λ_ _=>rfl) (λb hb=>L.aO g2 hb) _ _ _ q2),⟨q3,q4,λr R hr hb=>?_⟩,.inl ⟨g3,g2⟩⟩
      rcases tq hr with⟨rfl,rfl,_⟩|⟨e,hr'⟩
      ·rw[o8]at hb
       refine q5 _ R0 L.lv ?_
       rw[iN]
       unfold iF at hb ⊢
       rw[L.kind]at hb
       rcases cZ.1 hb with h|h
       ·exact bP _ h
       ·exact bD _ (L.sub b h)
      ·exact absurd (L.only r R hr').1 e
   exact key cs vs hx hc
  |_=>exact hx.elim
end
end
end
section
open Go
section
variable {e:TypeId}{kk:K}[fr:Fr]
variable {cx:Cx}{Z:St}{J:aF}{a:Act}{w:World}
end
end
section
open Go
section
variable [Fr]
end
end
section
open Go
end
section
open Go
section
variable {e:TypeId}{kk:K}[fr:Fr]
variable {cx:Cx}{Z:St}{J:aF}{a:Act}{w:World}
end
end
end Go.Proofs.YtgppmpedglhhfaaGreatDoor.Ow
