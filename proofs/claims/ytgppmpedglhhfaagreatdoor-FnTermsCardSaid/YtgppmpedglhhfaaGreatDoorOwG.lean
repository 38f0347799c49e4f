/- A verified reading of translated code, part G of 7. No condition. -/
import Derived.Test.YtgppmpedglhhfaaGreatDoorOwF
import Derived.Conc.MuLone
import Derived.ChangeArms
import Derived.ChangeReads
import Derived.ChangeOld
import Derived.ChangeSame
import Derived.DataShut
set_option linter.unusedSectionVars false
set_option linter.unusedVariables false
set_option linter.unusedSimpArgs false
namespace Go.Proofs.YtgppmpedglhhfaaGreatDoor.Ow
section
open Go
variable [Fr]
section
variable {P:Program}{T:bK}{cx:Cx}{Z Z':St}{J:aJ}{F:List Nat}{a:Act}{w:World}{fB:Ag}{rs:List Nat}
theorem ah0(H:Rel cx Z J F a w)(hP:QI cx fB)(hB:oz Z fB rs Z'):Rel cx Z' J F a w:=by
 have Dy:∀{r:Nat} {R':Root},aY Z' r R'->∃R,p_ Z fB rs r R R':=λh=>by
  obtain⟨_,_,R,h⟩:=hB.roots _ _ h.1
  exact⟨R,h⟩
 have kV:∀{j:Nat} {q},ng (aG j) fB=some q->∃R R',Z'.roots (aG j)=some R'/\p_ Z fB rs (aG j) R R':=λh=>by
  obtain⟨R',hR'⟩:=hB.made _ (hB.fB _ _ h)
  obtain⟨_,_,R,h⟩:=hB.roots _ _ hR'
  exact⟨R,R',hR',h⟩
 have hsame:∀{τ:St} {r:Nat} {R Q:Root},τ.roots r=some R->τ.roots r=some Q->Q=R:=λh1 h2=>by rw[h1]at h2;simpa using h2.symm
 refine⟨H.defs,H.sz,?_,?_,?_,?_,?_,?_,?_,H.fl,H.gL,?_,H.frame,?_,H.ql,?_,?_⟩
 ·intro j pi b o n hj hb
  obtain⟨Q,hQ,hk,hl,hs⟩:=H.kG j pi b o n hj hb
  obtain⟨q,hq⟩:=hP.par j pi hj (.inr ⟨_,hb⟩)
  obtain⟨R,R',hR',h1⟩:=kV hq
  have:=hsame hQ.1 h1.live.1
  subst this
  obtain⟨k1,k2,_,_,_,k6⟩:=h1.kind
  exact⟨R',⟨hR',k6.trans hQ.2⟩,k1.trans hk,hl,by rw[k2];exact hs⟩
 ·intro r R' hr hk
  obtain⟨R,h1⟩:=Dy hr
  exact H.tK r R h1.live (h1.kind.1.symm.trans hk)
 ·intro s
  rcases hB.slots s with h|⟨sh,av,d,h1,h2,h3,h4⟩
  ·rw[h];trivial
  ·rw[h3]
   have:=H.slots s
   rw[h1]at this
   exact(hB.av H h2 h4 this).1
 ·intro s
  rcases hB.slots s with h|⟨sh,av,d,h1,h2,h3,h4⟩
  ·rw[h];trivial
  ·rw[h3]
   have:=H.slots s
   rw[h1]at this
   exact(hB.av H h2 h4 this).2
 ·intro r R' hr
  obtain⟨R,h1⟩:=Dy hr
  have O:=H.roots r R h1.live
  have hb:=(p_.blk (J:=J) h1).1
  have hw:=(p_.blk (J:=J) h1).2
  have ht:=h1.tags
  have hv:=h1.valid
  obtain⟨ow,tg,ew,eh,rfl,hown⟩:=h1.form
  refine⟨λ_=>sw hown (dR (λ_ _=>rfl) (λb hb2=>?_) (λ_ _=>rfl) (O.ow hv)),O.len,?_,?_,?_⟩
  ·exact hB.aN (λt h hi=>⟨0,ht t h hi⟩) hb2
  ·rw[hw];exact O.mem
  ·rw[hb];exact O.nd
  ·rw[hb];exact O.mine
 ·intro r R' hr
  obtain⟨g1,g2,R,h1⟩:=hB.roots r R' hr
  refine⟨λt ht=>?_,g2,λn hn=>(h1.aiI _ hn).2.2 rfl⟩
  obtain⟨f1,f2,_⟩:=h1.aiI t ht
  rcases f2 with h|h
  ·exact .inl h
  ·obtain⟨Q,hQ⟩:=hB.made _ h
   exact .inr ⟨Q,hQ,.inr (by rw[f1];exact dW _)⟩
 ·intro r R1 r' R2 h1 h2 hne b hb
  obtain⟨Q1,g1⟩:=Dy h1
  obtain⟨Q2,g2⟩:=Dy h2
  rw[(p_.blk (J:=J) g1).1]at hb
  rw[(p_.blk (J:=J) g2).1]
  exact H.jr r Q1 r' Q2 g1.live g2.live hne b hb
 ·intro r R' hr b hb
  obtain⟨R,h1⟩:=Dy hr
  rw[(p_.blk (J:=J) h1).1]at hb
  exact H.dU r R h1.live b hb
 ·intro j pi hj hk
  obtain⟨⟨k,wt,ht⟩,hq⟩:=hP.par j pi hj (.inl hk)
  obtain⟨R,R',hR',h1⟩:=kV hq
  obtain⟨l1,l2,l3,l4,l5,l6,l7,l8⟩:=h1.log k wt ht hq
  obtain⟨Q,hQ,hk2⟩:=H.sW j pi hj hk
  have:=hsame h1.live.1 hQ
  subst this
  refine⟨R',hR',λ_ b hb hnb=>?_⟩
  rcases hk2 h1.live.2 b hb hnb with⟨e,e1,e2⟩|⟨g1,g2,g3⟩
  ·refine .inl ⟨e,e1,.inr ?_⟩
   rw[l2]
   rcases e2 with h|h
   ·exact l4 e h
   ·exact l5 e h
  ·refine .inr ⟨g1,g2,λq Q hQ hbq=>?_⟩
   obtain⟨Q0,h2⟩:=Dy hQ
   rw[(p_.blk (J:=J) h2).1]at hbq
   exact g3 q Q0 h2.live hbq
 ·intro j p ts v hv
  obtain⟨k,⟨wt,ht⟩,hq,hts⟩:=hP.ptr j p ts v hv
  obtain⟨R,R',hR',h1⟩:=kV hq
  obtain⟨l1,l2,l3,l4,l5,l6,l7,l8⟩:=h1.log k wt ht hq
  obtain⟨f1,Q,hQ,f2⟩:=H.uI j p ts v hv
  have:=hsame h1.live.1 hQ
  subst this
  refine⟨f1,R',hR',λhno=>?_⟩
  rw[l3]at hno
  have xg:=f2 (λt h1 h2=>hno t h1 (l7 t h2))
  refine⟨f1,λQ2 uC _ _ hpt hg=>?_⟩
  have:=hsame hR' uC
  subst this
  have hw:=(p_.blk (J:=J) h1).2
  have hv1:=h1.valid
  have hr1:=h1.live.1
  obtain⟨ow,tg,ew,eh,rfl,hown⟩:=h1.form
  obtain⟨q1,q2⟩:=xg.2 Q hr1 hv1 (by
    unfold clean
    rw[dV]
    intro t ht1
    have h3:t∈Q.h:=La ht1
    simp only[jN,gF]
    rw[l1,<-hts]
    exact λh4=>hno t h4 (l6 t h3))
   (λt ht=>by rw[<-hown t (zw p t ht)];exact hpt t ht) hg
  exact⟨q1,by rw[hw];exact q2⟩
 ·intro j v hv
  obtain⟨⟨k,wt,ht⟩,hq⟩:=hP.ref j v hv
  obtain⟨R,R',hR',h1⟩:=kV hq
  obtain⟨l1,l2,l3,l4,l5,l6,l7,l8⟩:=h1.log k wt ht hq
  obtain⟨_,f2⟩:=H.uJ j v hv
  refine⟨⟨R',hR'⟩,λQ2 uC _=>?_⟩
  have:=hsame hR' uC.1
  subst this
  obtain⟨q1,q2⟩:=f2 R h1.live l8
  obtain⟨k1,k2,_⟩:=h1.kind
  exact⟨k1.trans q1,by rw[k2];exact q2⟩
structure Zy(fB:Ag)(rs:List Nat)(s:yg):Prop where
 slots:∀q∈s.ss,∀i∈q.2.Bf,oJ rs i
 roots:∀q∈s.rs,q.1∈rs/\fV q.1=false/\(∀i∈q.2.ids,oJ rs i/\i≠q.1)/\q.2.log=ng q.1 fB
 keys:∀r∈rs,∃q∈s.rs,q.1=r
 fB:∀r q,ng r fB=some q->r∈rs
theorem Wx:∀{l:List (Nat×nH)} {c:Cont (rQ l)},GK Z rs l=some c->∀n,mkS l c n=.one .undef\/∃sh av d,(n,sh)∈l/\Z.slots n=.one av/\rG Z rs sh av=some d/\mkS l c n=.one (JP sh d)
 | [],_,_,_=>.inl rfl
 |(s,sh) :: l,c,h,n=>by
  simp only[GK]at h
  split at h
  ·rename_i av hs
   split at h
   ·rename_i x y hx hy
    have h2:Cont.app sh.ks (rQ l) x y=c:=kJ h
    subst h2
    simp only[mkS]
    rw[Dp,Fx]
    cases hb:Nat.beq n s with
    |true=>
     have:=bu hb
     subst this
     exact .inr ⟨sh,av,x,by simp,hs,hx,rfl⟩
    |false=>
     rcases Wx hy n with h|⟨sh',Ra,d,g1,g2,g3,g4⟩
     ·exact .inl h
     ·exact .inr ⟨sh',Ra,d,.tail _ g1,g2,g3,g4⟩
   ·simp at h
  ·split at h
   ·split at h
    ·rename_i d hd
     have h2:d=c:=kJ h
     subst h2
     simp only[mkS]
     cases hb:Nat.beq n s with
     |true=>exact .inl rfl
     |false=>
      rcases Wx hd n with h|⟨sh',Ra,d,g1,g2,g3,g4⟩
      ·exact .inl h
      ·exact .inr ⟨sh',Ra,d,.tail _ g1,g2,g3,g4⟩
    ·simp at h
   ·simp at h
theorem axN{a b:yl}(h:WS a b=true):a=b:=by
 cases a<;>cases b<;>simp_all[WS]
theorem agZ:∀{l:List (Nat×yt)} {c:Cont (wo l)},LQ Z rs l=some c->∀n R',zo l c n=some R'->∃sh R,(n,sh)∈l/\Z.roots n=some R/\cZ Z R/\mM (kW rs R.tags) sh.ids=true/\Wo R sh.log=true/\
   (∀t∈R.k.tys,ay t sh.own=ay t R.own)/\R'={ R with own:=sh.own,tags:=sh.ids.map λr=>(r,0),w:=[],h:=[],g:=0,ew:=agR sh.log,eh:=agQ sh.log }
 | [],_,_,_,_,h=>by simp[zo]at h
 |(r,sh) :: l,c,h,n,R',hm=>by
  simp only[LQ]at h
  split at h
  ·rename_i R hR
   obtain⟨hb,h⟩:=yA h
   split at h
   ·rename_i x y hx hy
    have h2:(x,y)=c:=kJ h
    subst h2
    simp only[zo]at hm
    cases hn:Nat.beq n r with
    |false=>
     rw[hn]at hm
     obtain⟨sh',R2,g1,g2⟩:=agZ hy n R' hm
     exact⟨sh',R2,.tail _ g1,g2⟩
    |true=>
     rw[hn]at hm
     have:=bu hn
     subst this
     simp only[bf]at hb
     obtain⟨⟨⟨⟨⟨⟨⟨b1,b2⟩,b3⟩,b4⟩,b5⟩,b6⟩,b7⟩,b8⟩:=hb
     obtain⟨e,ex⟩:=iJ hx
     refine⟨sh,R,by simp,hR,⟨by simpa using b7,b1⟩,b2,b8,λt ht=>?_,?_⟩
     ·have:=dV.1 b3 t (e▸ht)
      simp only[beq_iff_eq]at this
      exact this.symm
     ·have Rb:=axN b4
      have Rc:R.fixed=sh.fixed:=by simpa using b5
      have Ri:R.keep=sh.keep:=by simpa using b6
      obtain⟨k,ow,ids,kd,fx,kp,lg⟩:=sh
      simp only at e ex Rb Rc Ri
      obtain⟨Rk,Rx,QT,QU,Rw,Rh,Rg,QS,ayX,QO,QN,QM⟩:=R
      simp only at e ex Rb Rc Ri
      subst e Rb Rc Ri
      simp only at ex
      subst ex
      simp only[fT,ak]at hm
      exact hm.symm
   ·simp at h
  ·simp at h
theorem ag0:∀{l:List (Nat×yt)} (c:Cont (wo l)) {r:Nat},(∃q∈l,q.1=r)->∃R',zo l c r=some R'
 | [],_,_,h=>by obtain⟨q,h,_⟩:=h;simp at h
 |(s,sh) :: l,c,r,h=>by
  simp only[zo]
  cases hb:Nat.beq r s with
  |true=>exact⟨_,rfl⟩
  |false=>
   refine ag0 c.2 ?_
   obtain⟨q,h1,h2⟩:=h
   rcases bM.1 h1 with h|h
   ·subst h;simp only at h2;subst h2;simp at hb
   ·exact⟨q,h,h2⟩
theorem oz.of{s:yg}(hs:Zy fB rs s){c:s.V}(h:Dc rs s Z=some c):oz Z fB rs (xH s c):=by
 unfold Dc at h
 split at h
 ·rename_i x y hx hy
  have h2:Cont.app (rQ s.ss) (wo s.rs) x y=c:=kJ h
  subst h2
  have e1:(xH s (Cont.app (rQ s.ss) (wo s.rs) x y)).slots=mkS s.ss x:=by unfold xH;rw[Dp]
  have e2:(xH s (Cont.app (rQ s.ss) (wo s.rs) x y)).roots=zo s.rs y:=by unfold xH;rw[Fx]
  refine⟨λr R' hr=>?_,λr hr=>?_,λn=>?_,hs.fB⟩
  ·rw[e2]at hr
   obtain⟨sh,R,g1,g2,g3,g4,g5,g6,g7⟩:=agZ hy r R' hr
   obtain⟨f1,f2,f3,f4⟩:=hs.roots _ g1
   refine⟨f1,f2,R,⟨g2,g3.1⟩,g3,⟨_,_,_,_,g7,g6⟩,?_,?_,?_⟩
   ·intro t ht hi
    rw[g7]
    obtain⟨n,hn⟩:=Pj g4 t ht hi
    obtain⟨i,hi1,hi2⟩:=d_.1 hn
    simp only[bS]at hi2
    have h0:n=0:=hi2.2.symm
    subst h0
    exact hn
   ·intro t ht
    rw[g7]at ht
    obtain⟨i,h1,rfl⟩:=d_.1 ht
    exact⟨rfl,f3 i h1⟩
   ·intro k wt ht hq
    simp only at f4
    rw[f4,hq]at g5 g7
    simp only[Wo,BI,bf,Fz]at g5
    obtain⟨p1,⟨⟨⟨p2,p3⟩,p4⟩,p5⟩,p6⟩:=g5
    subst g7
    exact⟨K.eq_of_beq p1,rfl,rfl,p2,p3,p4,p5,bu p6⟩
  ·rw[e2]
   exact ag0 y (hs.keys r hr)
  ·rw[e1]
   rcases Wx hx n with h|⟨sh,av,d,g1,g2,g3,g4⟩
   ·exact .inl h
   ·exact .inr ⟨sh,av,d,g2,g3,g4,hs.slots _ g1⟩
 ·simp at h
theorem aiq:∀{l:List (TypeId×Dat×List Tag)},∀i∈(J_ rs l).flatMap (λc=>c.2.2),oJ rs i
 | [],i,h=>by simp[J_]at h
 |(t,d,tags) :: l,i,h=>by
  simp only[J_,kP,dh]at h
  rcases h with h|h
  ·exact(EP.1 h).2
  ·exact aiq i h
theorem aaU{rs ex:List Nat}:∀i∈GX rs ex,oJ rs i:=by
 intro i hi
 unfold GX at hi
 rw[jg,og,fF]at hi
 exact hi.2
theorem aye{ex:List Nat}{av:AV}:∀i∈(Xe rs ex av).Bf,oJ rs i:=by
 intro i hi
 cases av<;>simp only[Xe,nH.Bf,vF]at hi
 ·rcases dh.1 hi with hi|hi
  ·exact(EP.1 hi).2
  ·exact aaU i hi
 ·exact(EP.1 hi).2
 ·exact aiq i hi
theorem ais{wd:List (Nat×List Nat)}:∀{l:List Nat},∀q∈Kb wd rs Z l,∀i∈q.2.Bf,oJ rs i
 | [],q,h,_,_=>by simp[Kb]at h
 |s :: l,q,h,i,hi=>by
  simp only[Kb,bM]at h
  rcases h with h|h
  ·subst h
   split at hi
   ·exact aye i hi
   ·simp[nH.Bf]at hi
  ·exact ais q h i hi
theorem air{wd:List (Nat×List Nat)}:∀{l:List Nat} {q:List (Nat×yt)},Ka wd fB rs Z l=some q->(∀z∈q,z.1∈l/\∃R,Z.roots z.1=some R/\z.2.ids=kW rs R.tags++(GX rs (AJ (2*z.1+1) wd)).filter (λq=>!Nat.beq q z.1)/\z.2.log=ng z.1 fB)/\∀r∈l,∃z∈q,z.1=r
 | [],q,h=>by simp[Ka]at h;subst h;simp
 |r :: l,q,h=>by
  simp only[Ka]at h
  split at h
  ·rename_i R q' hR hq
   obtain⟨i1,i2⟩:=air hq
   simp only[ak]at h
   subst h
   refine⟨λz hz=>?_,λr' hr=>?_⟩
   ·rcases bM.1 hz with h|h
    ·subst h;exact⟨by simp,R,hR,rfl,rfl⟩
    ·obtain⟨f1,f2⟩:=i1 z h
     exact⟨.tail _ f1,f2⟩
   ·rcases bM.1 hr with h|h
    ·exact⟨_,jE,h.symm⟩
    ·obtain⟨z,z1,z2⟩:=i2 r' h
     exact⟨z,.tail _ z1,z2⟩
  ·simp at h
theorem aaY:∀{l:Ag} {r:Nat} {q},ng r l=some q->∃p∈l,p.1=r
 | [],_,_,h=>by simp[ng]at h
 |(s,p) :: l,r,q,h=>by
  simp only[ng]at h
  cases hb:Nat.beq r s with
  |true=>exact⟨_,jE,(bu hb).symm⟩
  |false=>
   rw[hb]at h
   obtain⟨p',h1,h2⟩:=aaY h
   exact⟨p',.tail _ h1,h2⟩
theorem ayf{wd:List (Nat×List Nat)}(H:Rel cx Z J F a w){ss:List Nat}{s:yg}(h:Xg wd fB ss rs Z=some s):Zy fB rs s:=by
 unfold Xg at h
 split at h
 ·rename_i q hq
  obtain⟨hb,h⟩:=yA h
  simp only[ak]at h
  subst h
  obtain⟨i1,i2⟩:=air hq
  refine⟨ais,λz hz=>?_,i2,λr q hf=>?_⟩
  ·obtain⟨f1,R,f2,f3,f4⟩:=i1 z hz
   obtain⟨_,g2,g3⟩:=H.fE _ R f2
   refine⟨f1,g2,λi hi=>?_,f4⟩
   rw[f3]at hi
   rcases dh.1 hi with hi|hi
   ·obtain⟨⟨n,hn⟩,h2⟩:=EP.1 hi
    exact⟨h2,λe=>g3 n (e▸hn)⟩
   ·rw[jg]at hi
    refine⟨aaU i hi.1,λe=>?_⟩
    subst e
    have:=hi.2
    simp at this
  ·obtain⟨p,p1,p2⟩:=aaY hf
   have:=dV.1 hb p p1
   rw[<-p2]
   exact fF.1 this
 ·simp at h
end
end
section
open Go
variable [Fr]
def GV:Exit->Option Ex
 |.normal=>some .normal
 |.exit i=>some (.exit i)
 |.ret=>some .ret
 |_=>none
section
variable {P:Program}{T:bK}{hi:Hint}{n:Nat}{cx:Cx}{Z:St}{J:aJ}{F:List Nat}{a:Act}{w:World}{R:Type}{r:R}{ag:Option R->Option R->Option R}
def QK(cx:Cx)(K:Ex->St->Option R)(r:R)(e:Exit)(a:Act)(w:World):Prop:=∃x Z J F,GV e=some x/\K x Z=some r/\Rel cx Z J F a w
theorem least{p:Nat->Prop}(h:∃n,p n):∃m,p m/\∀k,p k->m<=k:=by
 obtain⟨n,hn⟩:=h
 induction n using Nat.strongRecOn with
 |_ n ih=>
  by_cases hk:∃k,k<n/\p k
  ·obtain⟨k,h1,h2⟩:=hk
   exact ih k h1 h2
  ·exact⟨n,hn,λk h=>Nat.le_of_not_lt λhlt=>hk ⟨k,hlt,h⟩⟩
theorem am0(hag:∀{a b z},ag a b=some z->a=some z/\b=some z)(hm:P.follows .mixedOrders=true)(hT:eU P T)(hSt:vJ P T)(hC:wI P n hi)(hnt:hi.nt=cx.nt)(hP:QI cx hi.fB) :
  ∀(code:Code) (b:Nat) {Z:St} {J:aJ} {F:List Nat} {a:Act} {w:World} {K:Ex->St->Option R},den T hi n ag b code Z K=some r->Rel cx Z J F a w->code.wp P (QK cx K r) a w:=by
 intro code
 induction code with
 |skip=>intro b Z J F a w K h H;exact wp_skip ⟨_,_,_,_,rfl,h,H⟩
 |exit id=>intro b Z J F a w K h H;exact wp_exit ⟨_,_,_,_,rfl,h,H⟩
 |ret=>intro b Z J F a w K h H;exact wp_ret ⟨_,_,_,_,rfl,h,H⟩
 |seq x y MC Ic=>
  intro b Z J F a w K h H
  refine wp_seq (wp_mono (MC b h H) ?_)
  rintro e a' w' ⟨ex,Z',J',F',h1,h2,h3⟩
  cases e<;>simp only[GV,ak,reduceCtorEq]at h1
  ·subst h1;exact Ic b h2 h3
  ·subst h1;exact⟨_,_,_,_,rfl,h2,h3⟩
  ·subst h1;exact⟨_,_,_,_,rfl,h2,h3⟩
 |cond c x y MC Ic=>
  intro b Z J F a w K h H
  simp only[den]at h
  obtain⟨v0,h1,h2⟩:=zA _ h
  obtain⟨v,g1,g2,g3⟩:=jh H h1
  have ev:v0=v:=g3
  subst ev
  have hplain:((asBool v0 .ret).run Z λt=>if t=true then den T hi n ag b x Z K else den T hi n ag b y Z K)=some r->Code.wp P (.cond c x y) (QK cx K r) a w:=by
   intro h2
   obtain⟨t,h3,h4⟩:=zA _ h2
   obtain⟨b',e1,e2⟩:=ZX g1 h3
   have e2':t=b':=e2
   subst e2'
   refine wp_cond (t:=t) e1 ?_
   cases t with
   |true=>exact MC b h4 H
   |false=>exact Ic b h4 H
  cases v0 with
  |nZ e=>
   simp only at h2
   obtain⟨b',e1,e2⟩:=g1
   refine wp_cond (t:=b') e1 ?_
   cases b' with
   |true=>
    rw[aj (e2 rfl)]at h2
    exact MC b (hag h2).1 H
   |false=>
    split at h2
    ·exact Ic b (hag h2).2 H
    ·exact Ic b h2 H
  |_=>exact hplain h2
 |block id x ih=>
  intro b Z J F a w K h H
  simp only[den]at h
  refine wp_block (wp_mono (ih id h H) ?_)
  rintro e a' w' ⟨ex,Z',J',F',h1,h2,h3⟩
  cases e<;>simp only[GV,ak,reduceCtorEq]at h1
  ·subst h1;exact⟨_,_,_,_,rfl,h2,h3⟩
  ·rename_i i
   subst h1
   simp only at h2
   unfold Exit.inBlock
   simp only
   cases hb:Nat.beq i id with
   |true=>
    rw[hb]at h2
    rw[aj (bu hb)]
    exact⟨_,_,_,_,rfl,h2,h3⟩
   |false=>
    rw[hb]at h2
    rw[ah (Lc hb)]
    exact⟨_,_,_,_,rfl,h2,h3⟩
  ·subst h1;exact⟨_,_,_,_,rfl,h2,h3⟩
 |loop x ih=>
  intro b Z J F a w K h H
  simp only[den]at h
  split at h
  ·rename_i ss rs hf
   split at h
   ·rename_i s hs
    obtain⟨αl,Hl⟩:=Wt hi rs H
    have hok:=ayf Hl hs
    split at h
    ·rename_i c hc
     have H0:=ah0 Hl hP (oz.of hok hc)
     generalize hB:(λ(L:s.V->Option R) v=>den T hi n ag b x (xH s v) fun
      |.normal,Z'=>match Dc rs s (BK hi rs Z')with
       |some v'=>L v'
       |none=>none
      |e,Z'=>K e Z')=B at h
     have hBi:∀(L:s.V->Option R) v,B L v=den T hi n ag b x (xH s v) fun
      |.normal,Z'=>match Dc rs s (BK hi rs Z')with
       |some v'=>L v'
       |none=>none
      |e,Z'=>K e Z':=λL v=>by rw[<-hB]
     let I:Nat->Act->World->Prop:=λm a w=>∃v J F,rounds B m v=some r/\Rel cx (xH s v) J F a w
     have hex:∀{m:Nat} {a:Act} {w:World},I m a w->∃m,I m a w:=λh=>⟨_,h⟩
     classical
     refine wp_loop (λa w=>∃m,I m a w) (λa w=>if h:∃m,I m a w then Classical.choose (least h)else 0) ⟨_,_,_,_,h,H0⟩ ?_
     intro a w hI
     rw[dif_pos hI]
     have hI2:=(Classical.choose_spec (least hI)).1
     generalize Classical.choose (least hI)=m at hI2
     obtain⟨v,J,F,h1,h2⟩:=hI2
     cases m with
     |zero=>simp[rounds]at h1
     |succ m=>
      have h1':B (rounds B m) v=some r:=h1
      rw[hBi]at h1'
      refine wp_mono (ih b h1' h2) ?_
      rintro e a' w' ⟨ex,Z',J',F',g1,g2,g3⟩
      cases e<;>simp only[GV,ak,reduceCtorEq]at g1
      ·subst g1
       simp only at g2
       split at g2
       ·rename_i v' hv'
        obtain⟨αm,Hm⟩:=Wt hi rs g3
        have hI':I m a' w':=⟨v',_,_,g2,ah0 Hm hP (oz.of hok hv')⟩
        refine⟨⟨m,hI'⟩,?_⟩
        rw[dif_pos ⟨m,hI'⟩]
        exact Nat.lt_succ_of_le ((Classical.choose_spec (least ⟨m,hI'⟩)).2 m hI')
       ·simp at g2
      ·subst g1;exact⟨_,_,_,_,rfl,g2,g3⟩
      ·subst g1;exact⟨_,_,_,_,rfl,g2,g3⟩
    ·simp at h
   ·simp at h
  ·simp at h
 |region id ops draw=>
  intro b Z J F a w K h H
  simp only[den]at h
  cases draw with
  |true=>
   have H':Rel cx Z J F a { w with drawn:=w.drawn+1 }:=H.drawn (w.drawn+1)
   exact wp_region_any hm (an5 hT hSt hC hnt (λZ' J' F' a' w' h1 h2=>⟨_,_,_,_,rfl,h1,h2⟩) h H')
  |false=>
   refine wp_region ?_
   have:=an6 (P:=P) (Q:=QK cx K r) hT hSt hC hnt (λZ' J' F' a' w' h1 h2=>⟨_,_,_,_,rfl,h1,h2⟩) ops.toList 0 (by simp) h H
   rw[PI,<-List.range_eq_range']at this
   exact this
 |_=>intro b Z J F a w K h;simp[den]at h
end
end
section
open Go
variable [Fr]
def Fj(a:Act):ResultVar->Sem Value
 |.tmp t=>pure (a.tmps.getD t undef)
 |.cell x t=>do loadVar t (<-asAddr (a.tmps.getD x undef))
section
variable {P:Program}{T:bK}{cx:Cx}{Z:St}{J:aJ}{F:List Nat}{a:Act}{w:World}{A:Type}{z:A}
theorem awH(hT:eU P T)(H:Rel cx Z J F a w){t:TypeId}{x:AV}{v:Value}{dP:Bool}{k:AV->Prog A}(h1:aW cx Z J F w x v)(h2:dK Z x)(h:(xD T dP t x k).ends Z z) :
  ∃y u,(do loadVar t (<-asAddr v):Sem Value).run P w=.ok u w/\aW cx Z J F w y u/\dK Z y/\(k y).ends Z z:=by
 have H9:∀{b o:Nat} {u:Value},(Instr.loadAt t (.pointer (some ⟨b,o,none⟩))).run P w=.ok u w->v=.pointer (some ⟨b,o,none⟩)->(do loadVar t (<-asAddr v):Sem Value).run P w=.ok u w:=by
  intro b o u h e
  subst e
  exact h
 unfold xD at h
 split at h
 ·exact h.elim
 ·rename_i kk hty
  have ht:=hT.ty t kk hty
  obtain⟨s1,s2,s3⟩:=ht.shape
  split at h
  ·rename_i r g k0 p
   obtain⟨u,b,off,k1,e,hq,hC,ho1,hR⟩:=h1
   obtain⟨R,hr,hv,h⟩:=gH h
   rcases bB h with⟨hc,h⟩|⟨_,h⟩
   ·simp only[bf]at hc
    cases hg:aD p R.k R.x with
    |none=>rw[hg]at h;exact h.elim
    |some dd=>
     rw[hg]at h
     simp only at h
     obtain⟨dk,dx⟩:=dd
     rcases beq_true h with⟨ek,h5⟩|⟨_,h⟩
     ·simp only at ek
      subst ek
      have hk0:=K.eq_of_beq hc.1.2
      subst hk0
      obtain⟨hka,jF⟩:=hR R hr (bu hc.1.1)
      rw[jF.cells]at hC
      have hwn:aL J R r=none:=by unfold aL;rw[hka]
      obtain⟨g1,g2,g3,g4,g5⟩:=aa5 (h:=hp w) p hg ho1 (H.roots r R hr).len
      simp only at g1
      subst g1
      have hown:∀t∈aC p R.k,ay t R.own=true:=λt ht=>by rw[g5]at ht;simp at ht
      have hn:aR (hp w) p R.k (J.hdr r) (aL J R r)=some (((J.hdr r).drop off).take k1.size,none):=by rw[hwn];exact g3
      obtain⟨aT,hO,hf⟩:=tL H hr hv hg g4 hown hn
      have hV:=tJ H hr hO hf
      have hcs:Cells (hp w) b off (((J.hdr r).drop off).take k1.size):=by
       intro i hi
       have hi':i<k1.size:=by rw[Pk g2]at hi;exact hi
       have:=hC (off+i) (by omega)
       rw[jq]at this
       rw[this,Gl hi',CG]
      obtain⟨u',hu⟩:=VC.mk s1 s2 s3 hV
      have hrun:=Fu (P:=P) ht hcs (lD hV) hu
      rcases bB h5 with⟨hf,h6⟩|⟨_,h6⟩
      ·exact⟨.val k1 dx [],u',H9 hrun e,λ_=>⟨_,hu,lC hf hV⟩,(λt ht=>by simp at ht),h6⟩
      ·exact⟨.dP r p R.dM,u',H9 hrun e,GD (cx:=cx) (F:=F) hr hg g4 hown hn hu,⟨R,hr.1,.inr (bZ _)⟩,h6⟩
     ·exact h.elim
   ·exact h.elim
  rcases Lu H h1 h2 h with⟨r,R,p,dd,cs,b,q,hr,hv,hg,cK,hown,hn,e,h⟩|⟨bt,dd,Tg,b,q,cs,hw,e,hcs,hV,hok,hb,h⟩
  ·obtain⟨hC,⟨aT,hO,hf⟩,_⟩:=uU H hr hv hg cK hown hn
   obtain⟨dk,dx⟩:=dd
   rcases beq_true h with⟨ek,h5⟩|⟨_,h⟩
   ·simp only at ek
    subst ek
    clear h
    have h:=h5
    clear h5
    have hV:=tJ H hr hO hf
    obtain⟨u,hu⟩:=VC.mk s1 s2 s3 hV
    have hrun:=Fu (P:=P) ht hC (lD hV) hu
    rcases bB h with⟨_,h⟩|⟨_,h⟩
    ·exact⟨.dP r p R.dM,u,H9 hrun e,GD (cx:=cx) (F:=F) hr hg cK hown hn hu,⟨R,hr.1,.inr (bZ _)⟩,h⟩
    ·exact⟨_,u,H9 hrun e,(show aW cx Z J F w (.val dk dx _) u from λ_=>⟨cs,hu,hV⟩),E8 H hr _,h⟩
   ·exact h.elim
  ·obtain⟨dk,dx⟩:=dd
   rcases beq_true h with⟨ek,h5⟩|⟨_,h⟩
   ·simp only at ek
    subst ek
    clear h
    have h:=h5
    clear h5
    obtain⟨u,hu⟩:=VC.mk s1 s2 s3 hV
    have hrun:=Fu (P:=P) ht hcs (lD hV) hu
    refine⟨_,u,H9 hrun e,(show aW cx Z J F w (.val dk dx _) u from λ_=>⟨cs,hu,?_⟩),?_,h⟩
    ·cases hf:dk.flat with
     |true=>exact lC hf hV
     |false=>exact hV
    ·cases hf:dk.flat with
     |true=>intro t ht;simp at ht
     |false=>exact hw
   ·exact h.elim
theorem J7(hT:eU P T)(H:Rel cx Z J F a w){own:Bool}{rv:ResultVar}{k:AV->Prog A}(h:(xM T own rv k).ends Z z):∃y u,(Fj a rv).run P w=.ok u w/\aW cx Z J F w y u/\dK Z y/\(k y).ends Z z:=by
 cases rv with
 |tmp t=>
  obtain⟨v,h1,h2,h3⟩:=jh H h
  exact⟨v,_,rfl,h1,h2,h3⟩
 |cell t ty=>
  obtain⟨v,h1,h2,h3⟩:=jh H h
  exact awH hT H h1 h2 h3
def zZ(P:Program)(cx:Cx)(Z:St)(J:aJ)(F:List Nat)(a:Act)(w:World):(rs:List gJ)->List ResultVar->Cont (iI rs)->List Value->List (Value×dS)->List (List Tag)->Prop
 | [],[],_,[],[],[]=>True
 |.val k exts bE :: rs,rv :: fO,c,v :: vs,its,tg :: jB=>((Fj a rv).run P w=.ok v w/\(k.flat=true\/pK exts bE tg=true)/\wT cx Z J F a w k c.1 tg v)/\zZ P cx Z J F a w rs fO c.2 vs its jB
 |.own k ow exts bE :: rs,rv :: fO,c,v :: vs,it :: its,jB=>((Fj a rv).run P w=.ok v w/\it.1=v/\qa cx Z J F w v it.2/\(∃e:it.2.k=k,c.1=e▸it.2.x)/\mM (k.tys.filter λt=>ay t ow) it.2.own=true/\
   ((k.tys.all λt=>ay t ow)=true\/pK exts bE it.2.tags=true))/\zZ P cx Z J F a w rs fO c.2 vs its jB
 |_,_,_,_,_,_=>False
theorem aoc(hT:eU P T)(H:Rel cx Z J F a w):∀{rs:List gJ} {fO:List ResultVar} {k:Cont (iI rs)->List dS->List (List Tag)->Prog A},(yL T rs fO k).ends Z z->
  ∃c vs its jB,zZ P cx Z J F a w rs fO c vs its jB/\(k c (its.map (·.2)) jB).ends Z z:=by
 intro rs
 induction rs with
 |nil=>
  intro fO k h
  cases fO with
  |nil=>exact⟨(),[],[],[],trivial,h⟩
  |cons _ _=>exact h.elim
 |cons r rs ih=>
  intro fO k h
  cases fO with
  |nil=>cases r<;>exact h.elim
  |cons rv fO=>
   cases r with
   |into _ _=>exact h.elim
   |ptr _ _ _ _=>exact h.elim
   |val kk exts bE=>
    simp only[yL]at h
    obtain⟨y,u,g1,g2,g3,h⟩:=J7 hT H h
    have hgo:∀(x:El kk) (tags:List Tag),wT cx Z J F a w kk x tags u->(bif kk.flat||pK exts bE tags then yL T rs fO λc ts tg=>k (x,c) ts (tags :: tg)else .fail).ends Z z->
      ∃c vs its jB,zZ P cx Z J F a w (.val kk exts bE :: rs) (rv :: fO) c vs its jB/\(k c (its.map (·.2)) jB).ends Z z:=by
     intro x tags hv h
     rcases bB h with⟨hb,h⟩|⟨_,h⟩
     ·obtain⟨c,vs,its,jB,f1,f2⟩:=ih h
      exact⟨(x,c),u :: vs,its,tags :: jB,⟨⟨g1,by simpa using hb,hv⟩,f1⟩,f2⟩
     ·exact h.elim
    have hval:(oZ y λk' x tags=>match b_ k' kk x with
      |some y=>(bif kk.flat||pK exts bE (bif kk.flat then []else tags)then yL T rs fO λc ts tg=>k (y,c) ts ((bif kk.flat then []else tags) :: tg)else .fail)
      |none=>.fail).ends Z z->∃c vs its jB,zZ P cx Z J F a w (.val kk exts bE :: rs) (rv :: fO) c vs its jB/\(k c (its.map (·.2)) jB).ends Z z:=by
     intro h
     obtain⟨k',x,Tg,f1,f5⟩:=ZY H g2 g3 h
     cases hc:b_ k' kk x with
     |none=>rw[hc]at f5;exact f5.elim
     |some y'=>
      rw[hc]at f5
      obtain⟨ek,ey⟩:=iJ hc
      subst ek
      simp only at ey
      subst ey
      cases hf:k'.flat with
      |true=>
       rw[hf]at f5
       exact hgo _ _ (f1.flat hf H) (by rw[hf];exact f5)
      |false=>
       rw[hf]at f5
       exact hgo _ _ f1 (by rw[hf];exact f5)
    cases y with
    |eX=>
     cases kk with
     |sl e kk=>
      obtain⟨b,rfl⟩:=g2
      exact hgo [] [] ⟨[.slice b 0 0],Pf,λ_ _ _ _=>⟨b,0,0,rfl,rfl,bZ _,λh=>by omega⟩⟩ h
     |_=>exact h.elim
    |undef=>exact hval h
    |val _ _ _=>exact hval h
    |ref _ _=>exact hval h
    |dP _ _ _=>exact hval h
    |ptr _ _ _=>exact hval h
    |fC _ _ _ _=>exact hval h
    |kS _ _ _ _=>exact hval h
    |nZ _=>exact hval h
    |part _ _ _ _ _=>exact hval h
    |l9 _ _ _ _=>exact hval h
    |sub _ _ _ _ _ _=>exact hval h
    |sel _ _ _ _ _ _=>exact hval h
    |app _ _ _ _=>exact hval h
    |iW=>exact hval h
    |fn _ _=>exact hval h
   |own kk ow exts bE=>
    simp only[yL]at h
    obtain⟨y,u,g1,g2,g3,h⟩:=J7 hT H h
    obtain⟨tk,htk,h⟩:=xP H g2 g3 h
    cases hc:b_ tk.k kk tk.x with
    |none=>rw[hc]at h;exact h.elim
    |some y'=>
     rw[hc]at h
     rcases bB h with⟨hb,h⟩|⟨_,h⟩
     ·simp only[bf,og]at hb
      obtain⟨c,vs,its,jB,f1,f2⟩:=ih h
      exact⟨(y',c),u :: vs,(u,tk) :: its,jB,⟨⟨g1,rfl,htk,iJ hc,hb.1,hb.2⟩,f1⟩,f2⟩
     ·exact h.elim
theorem aod{Z1:St}{a_:aJ}{F1:List Nat}(H1:Rel cx Z1 a_ F1 a w)(hV:Views cx Z J F w Z1 a_ F1 w):∀{rs:List gJ} {fO:List ResultVar} {c:Cont (iI rs)} {vs:List Value} {its:List (Value×dS)} {jB:List (List Tag)} {hs:List (List Value×List Nat)},
  zZ P cx Z J F a w rs fO c vs its jB->uj cx Z1 a_ F1 w its hs->(∀t∈jB.flatten,Same Z J Z1 a_ t.1)->
  ∃az,ym cx Z1 a_ F1 w rs c vs az/\az.flatten=hs.flatMap (·.2)/\(∀b∈az.flatten,b∈F1)/\(fO.mapM (Fj a)).run P w=.ok vs w:=by
 intro rs
 induction rs with
 |nil=>
  intro fO c vs its jB hs h hh _
  cases fO<;>cases vs<;>cases its<;>cases jB<;>first|exact h.elim|skip
  cases hs with
  |nil=>exact⟨[],trivial,rfl,by simp,by simp⟩
  |cons _ _=>exact hh.elim
 |cons r rs ih=>
  intro fO c vs its jB hs h hh hS
  cases r with
  |into _ _=>cases fO<;>cases vs<;>exact h.elim
  |ptr _ _ _ _=>cases fO<;>cases vs<;>exact h.elim
  |val kk exts bE=>
   cases fO<;>cases vs<;>cases jB<;>first|exact h.elim|skip
   rename_i rv fO v vs tg jB
   obtain⟨⟨h1,h2,cs,h3,h4⟩,h5⟩:=h
   obtain⟨az,f1,f2,f3,f4⟩:=ih h5 hh (λt ht=>hS t (by simp only[pX,dh];exact .inr ht))
   refine⟨[] :: az,⟨⟨rfl,tg,cs,h2,h3,h4 Z1 a_ F1 ⟨H1,hV,λt ht=>hS t (by simp only[pX,dh];exact .inl ht)⟩⟩,f1⟩,by simpa using f2,by simpa using f3,?_⟩
   simp[Gm,h1,f4,Result.andThen]
  |own kk ow exts bE=>
   cases fO<;>cases vs<;>cases its<;>first|exact h.elim|skip
   rename_i rv fO v vs it its
   obtain⟨⟨h1,h2,h3,⟨e,ex⟩,h4,h5⟩,h6⟩:=h
   cases hs with
   |nil=>exact hh.elim
   |cons q hs=>
    obtain⟨⟨q1,q2,q3⟩,hh⟩:=hh
    obtain⟨az,f1,f2,f3,f4⟩:=ih h6 hh hS
    refine⟨q.2 :: az,⟨⟨it.2.tags,q.1,it.2.own,h5,?_,?_,?_⟩,f1⟩,by simp[f2],?_,?_⟩
    ·intro t ht hm
     exact fF.2 (Fz.1 h4 t (jg.2 ⟨ht,hm⟩))
    ·rw[<-h2];subst e;exact q1
    ·subst e
     rw[ex]
     exact q2.ow q3
    ·intro b hb
     rw[pX]at hb
     rcases dh.1 hb with h|h
     ·exact q2.sub b h
     ·exact f3 b h
    ·simp[Gm,h1,f4,Result.andThen]
end
end
section
open Go
variable [Fr]
section
variable {P:Program}{T:bK}{hi:Hint}{n:Nat}{cx:Cx}{Z:St}{J:aJ}{F:List Nat}{a:Act}{w:World}
theorem aaW{i:Nat}{R:Root}(h:L6 Z i=some R):Z.roots (aG i)=some R/\cZ Z R:=by
 unfold L6 at h
 split at h
 ·rename_i Q hQ
  cases hb:Q.cu || !cO Z Q.pO Q.tags with
  |true=>rw[hb]at h;simp at h
  |false=>
   rw[hb]at h
   simp only[jI,ak]at h
   subst h
   simp only[PK,Bool.not_eq_false']at hb
   exact⟨hQ,hb⟩
 ·simp at h
theorem LZ:∀{ps:List aM} {i:Nat} {d:Cont (gM ps)},lG Z ps i=some d->nN Z ps i d:=by
 intro ps
 induction ps with
 |nil=>intro i d _;trivial
 |cons p ps ih=>
  intro i d h
  cases p with
  |val k bE=>exact ih (show lG Z ps (i+1)=some d from h)
  |ro k=>exact ih (show lG Z ps (i+1)=some d from h)
  |own k ow=>exact ih (show lG Z ps (i+1)=some d from h)
  |fn f ks=>exact ih (show lG Z ps (i+1)=some d from h)
  |into j q=>exact ih (show lG Z ps (i+1)=some d from h)
  |rw k ow wt ht=>
   simp only[lG]at h
   split at h
   ·rename_i R d' hR hd
    obtain⟨hb,h⟩:=yA h
    simp only[bf,og]at hb
    obtain⟨⟨b1,b2⟩,b3⟩:=hb
    obtain⟨r1,r2⟩:=aaW hR
    split at h
    ·rename_i x hx
     have h2:(x,d')=d:=kJ h
     subst h2
     exact⟨⟨R,r1,r2,iJ hx,b1,b2,b3⟩,ih hd⟩
    ·simp at h
   ·simp at h
  |dQ k ow wt=>
   simp only[lG]at h
   split at h
   ·rename_i R d' hR hd
    obtain⟨hb,h⟩:=yA h
    simp only[bf,og]at hb
    obtain⟨⟨b1,b2⟩,b3⟩:=hb
    obtain⟨r1,r2⟩:=aaW hR
    split at h
    ·rename_i x hx
     have h2:(x,d')=d:=kJ h
     subst h2
     exact⟨⟨R,r1,r2,iJ hx,b1,b2,b3⟩,ih hd⟩
    ·simp at h
   ·simp at h
theorem Pb{fn:Func}{vs:List Value}(h:(fn.results.toList.mapM (Fj a)).run P w=.ok vs w):(results fn a.tmps).run P w=.ok (uY vs) w:=by
 have h2:results fn a.tmps=(do
   let vs <-fn.results.mapM (Fj a)
   pure (if h:vs.size=1 then vs[0]else .tuple vs)):=by
  unfold results
  congr 1
 rw[h2,Array.mapM_eq_mapM_toList]
 simp only[dH,map_eq_pure_bind,h,eZ,eH]
 match vs with
 | []=>rfl
 | [v]=>rfl
 |v :: u :: vs=>simp[uY]
theorem aoe(hT:eU P T)(H:Rel cx Z J F a w){ps:List aM}{rs:List gJ}{fn:Func}{out:Cont (iI rs++gM ps)}(h:fin T ps rs fn.results.toList Z=some out) :
  ∃v,(results fn a.tmps).run P w=.ok v w/\Post cx ps rs out v w:=by
 unfold fin at h
 obtain⟨q,h1,h2⟩:=zA _ h
 obtain⟨c,vs,its,jB,f1,f2⟩:=aoc (P:=P) hT H h1
 rcases bB f2 with⟨hb,f2⟩|⟨_,f2⟩
 ·have f2:q=_:=f2
  subst f2
  have e1:(its.map (·.2)).flatMap (·.ws)=dA its:=by simp[dA,List.flatMap_map]
  have e2:(its.map (·.2)).flatMap (·.tags)=mP its:=by simp[mP,List.flatMap_map]
  rw[e1,e2]at hb
  simp only[e1]at h2
  unfold qZ yx at hb
  simp only[bf,Gy,dV,jN,gF]at hb
  obtain⟨b1,b2⟩:=hb
  have qP:∀{rs:List gJ} {fO:List ResultVar} {c:Cont (iI rs)} {vs:List Value} {its:List (Value×dS)} {jB:List (List Tag)},zZ P cx Z J F a w rs fO c vs its jB->∀it∈its,qa cx Z J F w it.1 it.2:=by
   intro rs
   induction rs with
   |nil=>intro fO c vs its jB h it hi;cases fO<;>cases vs<;>cases its<;>first|exact h.elim|simp at hi
   |cons r rs ih=>
    intro fO c vs its jB h it hi
    cases r with
    |into _ _=>cases fO<;>cases vs<;>exact h.elim
    |ptr _ _ _ _=>cases fO<;>cases vs<;>exact h.elim
    |val kk exts bE=>
     cases fO<;>cases vs<;>cases jB<;>first|exact h.elim|exact ih h.2 it hi
    |own kk ow exts bE=>
     cases fO<;>cases vs<;>cases its<;>first|exact h.elim|skip
     rcases bM.1 hi with h3|h3
     ·subst h3;rw[h.1.2.1];exact h.1.2.2.1
     ·exact ih h.2 it h3
  obtain⟨a_,F1,hs,H1,g1,g2,g3,g4,g5,g6,g7,g8,g9⟩:=takes its H (qP f1) b1 (λt ht=>b2 t (bV _ ht))
  obtain⟨az,k1,k2,k3,k4⟩:=aod H1 g7 f1 g1 (λt ht=>g5 t.1 (b2 t (bG _ ht)))
  split at h2
  ·rename_i d hd
   simp only[ak]at h2
   subst h2
   refine⟨uY vs,Pb k4,_,a_,F1,a,vs,az,H1,rfl,by rw[Dp];exact k1,by rw[k2];exact g2,k3,by rw[Fx];exact LZ hd⟩
  ·simp at h2
 ·exact f2.elim
theorem axw{A:Type}{z:A}{t:TypeId}{kk:K}{ow:List TypeId}{exts:List Nat}{x:AV}{v:Value}{k:El kk->Nat->Prog A}(hx:aW cx Z J F w x v)(h:(O6 t kk ow exts x k).ends Z z) :
  ∃r R y b o,aY Z r R/\cZ Z R/\R.kind=.var t/\mM (kk.tys.filter λt=>ay t ow) R.own=true/\((kk.tys.all λt=>ay t ow)=true\/pK exts [] R.tags=true)/\(∃e:R.k=kk,y=e▸R.x)/\aL J R r=some (b,o)/\v=.pointer (some ⟨b,o,none⟩)/\(k y r).ends Z z:=by
 cases x with
 |ptr r p n=>
  cases p with
  |cons s p=>exact h.elim
  |nil=>
   unfold O6 at h
   obtain⟨R,hr,hv,h⟩:=gH h
   rcases bB h with⟨hb,h⟩|⟨_,h⟩
   ·simp only[bf,og]at hb
    obtain⟨⟨b1,b2⟩,b3⟩:=hb
    have hk:R.kind=.var t:=by
     unfold Root.acB at b1
     split at b1
     ·rename_i u hu;rw[hu,bu b1]
     ·simp at b1
    cases hc:b_ R.k kk R.x with
    |none=>rw[hc]at h;exact h.elim
    |some y=>
     rw[hc]at h
     obtain⟨_,cs,b,o,hn,e⟩:=hx.2 R hr.1 hv (by unfold iR clean;simp[ay]) (λt ht=>by simp[aC]at ht) rfl
     simp only[aR,ak,bS]at hn
     exact⟨r,R,y,b,o,hr,hv,hk,b2,b3,iJ hc,hn.2,e,h⟩
   ·exact h.elim
 |_=>exact h.elim
theorem amP(H:Rel cx Z J F a w){j:Nat}{x:AV}{v:Value}{m:Int}(hx:aW cx Z J F w x v)(h:(cutV j x λm=>(.ret m:Prog Int)).ends Z m) :
  ∃b n cp,v=.slice b m.toNat cp/\m.toNat<=n/\aW cx Z J F w (.ref (aG j) 0) (.slice b n cp):=by
 cases x with
 |ref r g=>
  simp only[cutV]at h
  rcases bB h with⟨hc,h5⟩|⟨_,h5⟩
  ·clear h
   simp only[bf]at hc
   have e1:=bu hc.1
   have e2:=bu hc.2
   subst e1 e2
   obtain⟨R,hr,hv,h⟩:=gH h5
   rcases bB h with⟨hg,h⟩|⟨_,h⟩
   ·obtain⟨h1,h2⟩:=hx R hr (bu hg)
    have hO:=(H.roots _ R hr).ow hv
    have hK:∀q:Dat,(⟨R.k,R.x⟩:Dat)=q->(match q.1,q.2 with
      |.sl _ kk,xs=>(.ret ((show List (El kk)from xs).length:Int):Prog Int)
      |_,_=>.fail).ends Z m->∃b n cp,v=.slice b m.toNat cp/\m.toNat<=n/\aW cx Z J F w (.ref (aG j) 0) (.slice b n cp):=by
     intro q hq hh
     obtain⟨qk,qx⟩:=q
     cases qk with
     |sl e kk=>
      have hm:m=((show List (El kk)from qx).length:Int):=hh
      have hV:=oV (λ_=>True) (λ_ _=>trivial) (λ_ _=>trivial) hO
      have hV:=cast (congrArg (λq:Dat=>Vw (hp w) (λ_=>True) q.1 q.2 (J.hdr (aG j))) hq) hV
      have ji:=cast (congrArg (λq:Dat=>VC q.1 v (J.hdr (aG j))) hq) h2
      obtain⟨b,n,c,g1,g2,g3,_⟩:=hV
      have ji:VC (.sl e kk) v (J.hdr (aG j)):=ji
      have g1:J.hdr (aG j)=[.slice b n c]:=g1
      have h3:=ji.1
      rw[g1]at h3
      simp only[gW,eO]at h3
      have g2:n=(show List (El kk)from qx).length:=g2
      refine⟨b,n,c,by rw[hm,<-g2];simpa using h3.symm,by rw[hm,<-g2];simp,by rw[h3];exact hx⟩
     |_=>exact hh.elim
    exact hK _ rfl h
   ·exact h.elim
  ·exact h5.elim
 |part r g lo hi sz=>
  simp only[cutV]at h
  rcases bB h with⟨hc,h5⟩|⟨_,h5⟩
  ·clear h
   simp only[bf]at hc
   have e1:=bu hc.1.1
   have e2:=bu hc.1.2
   have e3:=bu hc.2
   subst e1 e2 e3
   have hm:m=(hi:Int):=h5
   obtain⟨b',b,n,c,g1,g2,g3,g4,g5,g6⟩:=hx
   have hb:b'=b:=by rw[g2 (.inl rfl)];simp[add_zero]
   subst hb
   exact⟨b',n,c,by rw[g1,hm];simp,by rw[hm];simpa using g4,g6⟩
  ·exact h5.elim
 |_=>exact h.elim
theorem aiK:∀{p:List (Option Nat)} {q:List Stp},mO p q=some none->∀m,qU p m=q
 | [],[],_,_=>rfl
 | [],_ :: _,h,_=>by simp[mO]at h
 |some n :: p,[],h,_=>by simp[mO]at h
 |some n :: p,.idx i :: q,h,_=>by simp[mO]at h
 |some n :: p,.aU m :: q,h,k=>by
  have h':(bif Nat.beq n m then mO p q else none)=some none:=h
  cases hb:Nat.beq n m with
  |false=>rw[hb]at h';simp at h'
  |true=>
   rw[hb]at h'
   have:=bu hb
   subst this
   show Stp.aU n :: qU p k=_
   rw[aiK (p:=p) (q:=q) h']
 |none :: p,[],h,_=>by simp[mO]at h
 |none :: p,.aU i :: q,h,_=>by simp[mO]at h
 |none :: p,.idx i :: q,h,_=>by
  simp only[mO]at h
  split at h<;>simp at h
theorem aiL:∀{p:List (Option Nat)} {q:List Stp} {i:Int},mO p q=some (some i)->qU p i=q/\∀{k:K} {x:El k},(aD q k x).isSome=true->aC q k≠[]
 | [],[],_,h=>by simp[mO]at h
 | [],_ :: _,_,h=>by simp[mO]at h
 |some n :: p,[],_,h=>by simp[mO]at h
 |some n :: p,.idx i :: q,_,h=>by simp[mO]at h
 |some n :: p,.aU m :: q,i,h=>by
  have h':(bif Nat.beq n m then mO p q else none)=some (some i):=h
  cases hb:Nat.beq n m with
  |false=>rw[hb]at h';simp at h'
  |true=>
   rw[hb]at h'
   have:=bu hb
   subst this
   obtain⟨g1,g2⟩:=aiL (p:=p) (q:=q) h'
   refine⟨by show Stp.aU n :: qU p i=_;rw[g1],λ{k} {x} hx=>?_⟩
   cases k with
   |st c=>
    simp only[aD]at hx
    cases hg:aP n c x with
    |none=>rw[hg]at hx;simp at hx
    |some s=>
     rw[hg]at hx
     simp only[aC,kg n hg]
     exact g2 hx
   |_=>simp[aD]at hx
 |none :: p,[],_,h=>by simp[mO]at h
 |none :: p,.aU i :: q,_,h=>by simp[mO]at h
 |none :: p,.idx i :: q,j,h=>by
  simp only[mO]at h
  split at h
  ·rename_i h2
   simp only[ak]at h
   subst h
   refine⟨by show Stp.idx i :: qU p i=_;rw[aiK h2],λ{k} {x} hx=>?_⟩
   cases k with
   |sl e k=>simp[aC]
   |_=>simp[aD]at hx
  ·simp at h
theorem aqE{j:Nat}{p:List (Option Nat)}{x:AV}{v:Value}{m:Int}(hx:aW cx Z J F w x v)(h:(MI j p x λm=>(.ret m:Prog Int)).ends Z m):Qu Z J w j p m v:=by
 cases x with
 |iW=>
  have hm:m=-1:=h
  exact .inl ⟨by omega,hx⟩
 |ptr r q n=>
  simp only[MI]at h
  rcases bB h with⟨hc,h⟩|⟨_,h⟩
  ·have e1:=bu hc
   subst e1
   obtain⟨R,hr,hv,h⟩:=gH h
   rcases bB h with⟨hc,h⟩|⟨_,h⟩
   ·simp only[bf]at hc
    obtain⟨⟨c1,c2⟩,c3⟩:=hc
    split at h
    ·rename_i i ht
     obtain⟨h0,h⟩:=h
     have hm:m=i:=h
     subst hm
     obtain⟨g1,g2⟩:=aiL ht
     obtain⟨cK,cs,b,o,hn,ev⟩:=hx.2 R hr.1 hv c1 (nA c2) c3
     exact .inr ⟨h0,R,cs,b,o,hr,by rw[g1];exact cK,by rw[g1];exact g2 c3,by rw[g1];exact hn,ev⟩
    ·exact h.elim
   ·exact h.elim
  ·exact h.elim
 |_=>exact h.elim
theorem aob(hT:eU P T)(H:Rel cx Z J F a w){ps:List aM}{rs:List gJ}{fn:Func}{out:Cont (iI rs++gM ps)}(h:LY T ps rs fn.results.toList Z=some out) :
  ∃v,(results fn a.tmps).run P w=.ok v w/\Post cx ps rs out v w:=by
 obtain⟨fO,uF⟩:∃fO,fn.results.toList=fO:=⟨_,rfl⟩
 rw[uF]at h
 have other:fin T ps rs fO Z=some out->∃v,(results fn a.tmps).run P w=.ok v w/\Post cx ps rs out v w:=λh=>aoe hT H (by rw[uF];exact h)
 cases rs with
 |nil=>exact other h
 |cons q rs=>
  cases q with
  |val _ _ _=>exact other h
  |own _ _ _ _=>exact other h
  |into j q=>
   cases rs with
   |cons _ _=>cases q<;>exact other h
   |nil=>
    cases q with
    |cons t q=>
     match fO,uF,h,other with
     | [],_,h,other=>exact other h
     |_ :: _ :: _,_,h,other=>exact other h
     | [rv],uF,h,_=>
      have h:((xM T false rv λa=>MI j (t :: q) a λm=>.ret m:Prog Int).run Z λm=>
        match lG Z ps 0 with
        |some d=>some (m,d)
        |none=>none)=some out:=h
      obtain⟨m,h1,h2⟩:=zA _ h
      obtain⟨y,u,g1,g2,_,h1⟩:=J7 hT H h1
      have hI:=aqE g2 h1
      split at h2
      ·rename_i d hd
       have h2:some ((m,d):Cont (iI [gJ.into j (t :: q)]++gM ps))=some out:=h2
       have h2:=kJ h2
       subst h2
       exact⟨_,Pb (vs:=[_]) (by rw[uF];simp[Gm,g1,Result.andThen]),_,_,_,a,[_],[[]],H,rfl,⟨⟨rfl,.inr ⟨by simp,hI⟩⟩,trivial⟩,by simp,by simp,LZ hd⟩
      ·simp at h2
    |nil=>
     match fO,uF,h,other with
     | [],_,h,other=>exact other h
     |_ :: _ :: _,_,h,other=>exact other h
     | [rv],uF,h,_=>
      have h:((xM T false rv λa=>cutV j a λm=>.ret m:Prog Int).run Z λm=>
        match lG Z ps 0 with
        |some d=>some (m,d)
        |none=>none)=some out:=h
      obtain⟨m,h1,h2⟩:=zA _ h
      obtain⟨y,u,g1,g2,_,h1⟩:=J7 hT H h1
      obtain⟨b,n,cp,e1,e2,e3⟩:=amP H g2 h1
      split at h2
      ·rename_i d hd
       have h2:some ((m,d):Cont (iI [gJ.into j []]++gM ps))=some out:=h2
       have h2:=kJ h2
       subst h2
       exact⟨_,Pb (vs:=[_]) (by rw[uF];simp[Gm,g1,Result.andThen]),_,_,_,a,[_],[[]],H,rfl,⟨⟨rfl,.inl ⟨rfl,b,n,cp,e1,e2,e3⟩⟩,trivial⟩,by simp,by simp,LZ hd⟩
      ·simp at h2
  |ptr t kk ow exts=>
   cases rs with
   |cons _ _=>exact other h
   |nil=>
    match fO,uF,h,other with
    | [],_,h,other=>exact other h
    |_ :: _ :: _,_,h,other=>exact other h
    | [rv],uF,h,_=>
     have h:((xM T false rv λa=>O6 t kk ow exts a λy r=>.ret (y,r):Prog (El kk×Nat)).run Z λq=>
       match lG (aF [.r q.2 none] Z) ps 0 with
       |some d=>some (q.1,d)
       |none=>none)=some out:=h
     obtain⟨q,h1,h2⟩:=zA _ h
     obtain⟨y,u,g1,g2,_,h1⟩:=J7 hT H h1
     obtain⟨r,R,x,b,o,hr,hv,hk,b2,b3,ex,fM,rfl,h1⟩:=axw g2 h1
     have h1:q=(x,r):=h1
     subst h1
     obtain⟨k1,k2,k3,k4⟩:=av1 H hr (by rw[hk];simp) hv
     have hblk:blk J R r=b :: J.fo r:=by unfold blk;rw[fM];rfl
     have K:=H.roots r R hr
     have hnd:=K.nd
     rw[hblk]at hnd
     split at h2
     ·rename_i d hd
      have h2:some ((x,d):Cont (iI [gJ.ptr t kk ow exts]++gM ps))=some out:=h2
      have h2:=kJ h2
      subst h2
      refine⟨_,Pb (vs:=[_]) (by rw[uF];simp[Gm,g1,Result.andThen]),_,_,_,a,[_],[b :: J.fo r],k1,rfl,⟨⟨b,o,R.tags,J.hdr r,R.own,J.fo r,rfl,rfl,b3,?_,?_,?_⟩,trivial⟩,by simpa using hnd,?_,LZ hd⟩
      ·intro u hu hm
       exact fF.2 (Fz.1 b2 u (jg.2 ⟨hu,hm⟩))
      ·obtain⟨m1,arr,e,lo,hi,m2,m3,m4,m5⟩:=K.mem b o fM
       obtain⟨ek,_⟩:=ex
       exact⟨m1,arr,e,lo,hi,m2,m3,by rw[<-ek];exact m4,m5 t hk⟩
      ·obtain⟨ek,ey⟩:=ex
       subst ek
       simp only at ey
       subst ey
       exact k3.ow k4
      ·intro c hc
       simp only[pX,K7,jf]at hc
       exact bV _ (by rw[hblk];exact hc)
     ·simp at h2
def Cx.uO(cx:Cx)(m:Nat):Cx:={ cx with nt:=m }
theorem Rz{m:Nat}:∀{cs:List (TypeId×Dat×List Tag)} {vs:List Value},m_ (cx.uO m) Z J F w cs vs↔m_ cx Z J F w cs vs
 | [],[]=>Iff.rfl
 |c :: cs,v :: vs=>and_congr Iff.rfl Rz
 | [],_ :: _=>Iff.rfl
 |_ :: _,[]=>Iff.rfl
theorem XI{m:Nat}{x:AV}{v:Value}:aW (cx.uO m) Z J F w x v↔aW cx Z J F w x v:=by
 cases x with
 |fn f cs=>
  constructor
  ·rintro⟨vs,h1,h2⟩;exact⟨vs,h1,Rz.1 h2⟩
  ·rintro⟨vs,h1,h2⟩;exact⟨vs,h1,Rz.2 h2⟩
 |_=>exact Iff.rfl
theorem JK{m:Nat}:∀{l:List AV} {vs:List Value},h_ (cx.uO m) Z J F w l vs↔h_ cx Z J F w l vs
 | [],[]=>Iff.rfl
 |c :: cs,v :: vs=>and_congr XI JK
 | [],_ :: _=>Iff.rfl
 |_ :: _,[]=>Iff.rfl
theorem ai7{m:Nat}{x:f_}{v:Value}:iZ (cx.uO m) Z J F w x v↔iZ cx Z J F w x v:=by
 cases x with
 |one x=>exact XI
 |mQ l=>
  constructor
  ·rintro⟨vs,h1,h2⟩;exact⟨vs,h1,JK.1 h2⟩
  ·rintro⟨vs,h1,h2⟩;exact⟨vs,h1,JK.2 h2⟩
 |lit _ _ l=>
  constructor
  ·rintro⟨vs,cs,h1,h2⟩;exact⟨vs,cs,h1,JK.1 h2⟩
  ·rintro⟨vs,cs,h1,h2⟩;exact⟨vs,cs,h1,JK.2 h2⟩
theorem Rel.uO{a':Act}(H:Rel cx Z J F a w){m:Nat}(hd:a'.defers=[])(hm:m<=a'.tmps.size)(hs:∀s,a'.tmps.getD s undef=a.tmps.getD s undef):Rel (cx.uO m) Z J F a' w where
 defs:=hd
 sz:=hm
 kG:=H.kG
 tK:=H.tK
 slots:=λs=>by rw[hs s];exact ai7.2 (H.slots s)
 q8:=H.q8
 roots:=λr R hr=>by
  obtain⟨o1,o2,o3,o4,o5⟩:=H.roots r R hr
  exact⟨o1,o2,o3,o4,o5⟩
 fE:=H.fE
 jr:=H.jr
 fl:=H.fl
 gL:=H.gL
 dU:=H.dU
 frame:=H.frame
 sW:=H.sW
 ql:=H.ql
 uI:=H.uI
 uJ:=H.uJ
theorem aqC:∀{ps:List aM} {i:Nat} {c:Cont (kin ps)} {r:Nat} {R:Root},jl (jv ps i c) r=some R->∃j p cj,r=aG (i+j)/\ps[j]?=some p/\jU p (i+j) cj=some R:=by
 intro ps
 induction ps with
 |nil=>intro i c r R h;simp[jv,jl]at h
 |cons p ps ih=>
  intro i c r R h
  rw[Ii,JN]at h
  have hrec:jl (jv ps (i+1) (zD p ps c)) r=some R->∃j q cj,r=aG (i+j)/\(p :: ps)[j]?=some q/\jU q (i+j) cj=some R:=by
   intro h
   obtain⟨j,q,cj,h1,h2,h3⟩:=ih h
   have e:i+1+j=i+(j+1):=by omega
   exact⟨j+1,q,cj,by rw[h1,e],by simpa using h2,by rw[<-e];exact h3⟩
  cases hr:jU p i (uD p ps c)with
  |none=>rw[hr]at h;exact hrec h
  |some Q=>
   rw[hr]at h
   simp only[jl]at h
   cases hb:Nat.beq r (aG i)with
   |true=>
    rw[hb]at h
    have h':Q=R:=by simpa using h
    exact⟨0,p,uD p ps c,bu hb,rfl,by rw[<-h'];exact hr⟩
   |false=>rw[hb]at h;exact hrec h
theorem aoh:∀{ps:List aM} {i j:Nat} {k:K},x8 ps j k->∃l,ng (aG (i+j)) (uT ps i)=some (k,l):=by
 intro ps
 induction ps with
 |nil=>intro i j k h;obtain⟨ow,wt,ht,h|h⟩:=h<;>simp at h
 |cons p ps ih=>
  intro i j k h
  have hne:∀j,Nat.beq (aG (i+(j+1))) (aG i)=false:=λj=>by
   cases h:Nat.beq (aG (i+(j+1))) (aG i)with
   |true=>
    have:=bu h
    unfold aG at this
    omega
   |false=>rfl
  cases j with
  |zero=>
   obtain⟨ow,wt,ht,h|h⟩:=h
   ·simp only[rA,ak]at h
    subst h
    exact⟨(wt,ht),by simp[uT,ng]⟩
   ·simp only[rA,ak]at h
    subst h
    exact⟨(wt,k.tys),by simp[uT,ng]⟩
  |succ j=>
   have h':x8 ps j k:=by
    obtain⟨ow,wt,ht,h⟩:=h
    exact⟨ow,wt,ht,by simpa using h⟩
   obtain⟨l,hl⟩:=ih (i:=i+1) h'
   have e:i+1+j=i+(j+1):=by omega
   rw[e]at hl
   cases p<;>first|exact⟨l,by simp only[uT,ng,hne j,jI];exact hl⟩|exact⟨l,hl⟩
theorem axm{ps:List aM}{c:Cont (kin ps)}(hP:Li cx ps)(H:Rel cx (gD ps c) J F a w)(m:Nat):QI (cx.uO m) (uT ps 0):=by
 have hf:∀{j:Nat} {k:K},x8 ps j k->∃l,ng (aG j) (uT ps 0)=some (k,l):=λ{j} {k} h=>by
  have:=aoh (i:=0) h
  simpa using this
 refine⟨λj pi hj h=>?_,λj p ts v hv=>?_,λj v hv=>?_⟩
 ·rcases h with h|⟨⟨b,o,n⟩,h⟩
  ·obtain⟨k,hk⟩:=hP.par j pi hj h
   obtain⟨l,hl⟩:=hf hk
   exact⟨_,hl⟩
  ·obtain⟨R,hR,hk,_⟩:=H.kG j pi b o n hj h
   obtain⟨j',p,cj,h1,h2,h3⟩:=aqC (show jl (jv ps 0 c) (aG j)=some R from hR.1)
   have e:j=j':=by unfold aG at h1;omega
   subst e
   have:∃k,x8 ps j k:=by
    cases p with
    |rw k ow wt ht=>exact⟨k,ow,wt,ht,.inl h2⟩
    |dQ k ow wt=>exact⟨k,ow,wt,[],.inr h2⟩
    |own k ow=>
     have h4:=kJ h3
     rw[<-h4]at hk
     simp[bU]at hk
    |_=>simp[jU]at h3
   obtain⟨k,hk⟩:=this
   obtain⟨l,hl⟩:=hf hk
   exact⟨_,hl⟩
 ·obtain⟨k,hk,e⟩:=hP.ptr j p ts v hv
  obtain⟨l,hl⟩:=hf hk
  exact⟨k,l,hl,e⟩
 ·obtain⟨k,hk⟩:=hP.ref j v hv
  obtain⟨l,hl⟩:=hf hk
  exact⟨_,hl⟩
theorem aaA(hm:P.follows .mixedOrders=true)(hT:eU P T)(hSt:vJ P T){E:Entry}{fn:Func}(hf:P.funcs[E.f]?=some fn)(hname:(fn.name == "runtime.NumGoroutine")=false){m:Nat}(hC:wI P m hi)
  (hF:∀c out,E.F n c=some out->sJ T hi fn E.ps E.rs m c=some out):bg P n E:=by
 intro c out hout cx J args w hnt hw hsz hP H
 have h:=hF c out hout
 unfold sJ at h
 cases hb:fn.body with
 |none=>rw[hb]at h;simp at h
 |some code=>
  rw[hb]at h
  simp only at h
  refine .inl ⟨Go.MuLone.run_callFunc_enter hf hname hb args w,calls_of_wp hf hb ?_⟩
  have H2:Rel (cx.uO fn.ntmps) (gD E.ps c) J [] { tmps:=args++Array.replicate (fn.ntmps-args.size) undef,defers:=[] } w:=by
   refine H.uO rfl (by simp;omega) λs=>?_
   simp only[zL]
   rw[Array.getElem?_append]
   split
   ·rfl
   ·rename_i hlt
    rw[Array.getElem?_eq_none (by omega:args.size<=s)]
    rw[Array.getElem?_replicate]
    split<;>rfl
  have hC':wI P m { hi with nt:=fn.ntmps,fB:=uT E.ps 0 }:=hC
  refine wp_mono (am0 alQ hm hT hSt hC' rfl (axm hP H _) code 0 h H2) ?_
  have hend:∀{Z':St} {J':aJ} {F':List Nat} {a':Act} {w':World},LY T E.ps E.rs fn.results.toList Z'=some out->Rel (cx.uO fn.ntmps) Z' J' F' a' w'->
    a'.defers=[]/\∃v,(results fn a'.tmps).run P w'=.ok v w'/\∃v',Ending.returned v=.returned v'/\Post cx E.ps E.rs out v' w':=by
   intro Z' J' F' a' w' h1 H3
   have H4:Rel cx Z' J' F' a' w':=by
    have:=H3.uO (m:=0) (a':=a') H3.defs (dW _) (λ_=>rfl)
    obtain⟨nt,w0,ext,par,ptrs,refs⟩:=cx
    simp only at hnt
    subst hnt
    exact this
   obtain⟨v,v1,v2⟩:=aob (P:=P) hT H4 h1
   exact⟨H3.defs,v,v1,v,rfl,v2⟩
  rintro e a' w' ⟨ex,Z',J',F',h1,h2,h3⟩
  cases e<;>simp only[GV,ak,reduceCtorEq]at h1
  ·subst h1;exact hend h2 h3
  ·subst h1;simp at h2
  ·subst h1;exact hend h2 h3
end
end
section
open Go
variable [Fr]
def uw(W:World):(ps:List aM)->Cont (kin ps)->List Value->Prop
 | [],_,[]=>True
 |.val k [] :: ps,c,v :: vs=>(∃cs,VC k v cs/\Vw (hp W) (λb=>b<W.heap.size) k c.1 cs)/\uw W ps c.2 vs
 |_,_,_=>False
def qH(W W':World):Prop:=W'.os=W.os/\W'.output=W.output/\W.heap.size<=W'.heap.size/\∀b,b<W.heap.size->hp W' b=hp W b
def uL(W:World):Cx:={ nt:=0,w0:=W,ext:=λ_ b=>b<W.heap.size,par:=λ_=>none,ptrs:=λ_ _ _ _=>False,refs:=λ_ _=>False }
def WC:aJ:={ loc:=λ_=>(0,0),hdr:=λ_=>[],fo:=λ_=>[] }
section
variable {P:Program}{W:World}
theorem uw.roots:∀{ps:List aM} {c:Cont (kin ps)} {vs:List Value} {i:Nat},uw W ps c vs->jv ps i c=[]/\vs.length=ps.length
 | [],_,[],_,_=>⟨rfl,rfl⟩
 | [],_,_ :: _,_,h=>h.elim
 |.val k [] :: ps,c,v :: vs,i,h=>by
  obtain⟨h1,h2⟩:=uw.roots (i:=i+1) h.2
  exact⟨h1,by simp[h2]⟩
 |.val k (_ :: _) :: ps,c,vs,_,h=>by cases vs<;>exact h.elim
 |.val k [] :: ps,c,[],_,h=>h.elim
 |.ro _ :: _,_,vs,_,h=>by cases vs<;>exact h.elim
 |.rw _ _ _ _ :: _,_,vs,_,h=>by cases vs<;>exact h.elim
 |.dQ _ _ _ :: _,_,vs,_,h=>by cases vs<;>exact h.elim
 |.own _ _ :: _,_,vs,_,h=>by cases vs<;>exact h.elim
 |.fn _ _ :: _,_,vs,_,h=>by cases vs<;>exact h.elim
 |.into _ _ :: _,_,vs,_,h=>by cases vs<;>exact h.elim
theorem uw.slots{Z:St}(hσ:∀r R,¬aY Z r R):∀{ps:List aM} {c:Cont (kin ps)} {vs:List Value} {i:Nat},uw W ps c vs->∀s,(∀v,vs[s-i]?=some v->i<=s->iZ (uL W) Z WC [] W (gN (fA ps i c) s) v)/\((vs[s-i]?=none\/s<i)->gN (fA ps i c) s=.one .undef)/\mZ Z (gN (fA ps i c) s)
 | [],_,[],_,_=>λs=>⟨λv h=>by simp at h,λ_=>rfl,trivial⟩
 | [],_,_ :: _,_,h=>h.elim
 |.val k [] :: ps,c,v :: vs,i,h=>by
  intro s
  have ih:=uw.slots hσ (i:=i+1) h.2 s
  simp only[fA,gN]
  cases hb:Nat.beq s i with
  |true=>
   have:=bu hb
   subst this
   simp only[Ad,rA,ak,fT]
   refine⟨λu hu _=>?_,λh=>by rcases h with h|h;simp at h;omega,?_⟩
   ·subst hu
    intro _
    obtain⟨cs,h1,h2⟩:=h.1
    refine⟨cs,h1,?_⟩
    cases hf:k.flat with
    |true=>exact lC hf h2
    |false=>
     refine ku (λ_ _=>rfl) (λb hb=>⟨hb,by simp,?_,λr R hr=>absurd hr (hσ r R),λ_=>.inl ⟨s,0,by simp,hb⟩⟩) h2
     rintro⟨j,pi,o,n,h3,_⟩
     simp[uL]at h3
   ·intro t ht
    cases hf:k.flat with
    |true=>rw[hf]at ht;simp at ht
    |false=>
     rw[hf]at ht
     simp only[jI,List.map_nil,gY]at ht
     subst ht
     exact .inl (uG s)
  |false=>
   have hne:=Lc hb
   simp only[jI]
   refine⟨λu hu hle=>?_,λhh=>?_,ih.2.2⟩
   ·refine ih.1 u ?_ (by omega)
    have e:s-i=(s-(i+1))+1:=by omega
    rw[e]at hu
    simpa using hu
   ·refine ih.2.1 ?_
    rcases hh with hh|hh
    ·by_cases hlt:s<i
     ·exact .inr (by omega)
     ·have e:s-i=(s-(i+1))+1:=by omega
      rw[e]at hh
      exact .inl (by simpa using hh)
    ·exact .inr (by omega)
 |.val k (_ :: _) :: ps,c,vs,_,h=>by cases vs<;>exact h.elim
 |.val k [] :: ps,c,[],_,h=>h.elim
 |.ro _ :: _,_,vs,_,h=>by cases vs<;>exact h.elim
 |.rw _ _ _ _ :: _,_,vs,_,h=>by cases vs<;>exact h.elim
 |.dQ _ _ _ :: _,_,vs,_,h=>by cases vs<;>exact h.elim
 |.own _ _ :: _,_,vs,_,h=>by cases vs<;>exact h.elim
 |.fn _ _ :: _,_,vs,_,h=>by cases vs<;>exact h.elim
 |.into _ _ :: _,_,vs,_,h=>by cases vs<;>exact h.elim
theorem awc(hfr:∀b,Fr.free b->b<W.heap.size/\hp W b=Fr.obj b){ps:List aM}{c:Cont (kin ps)}{args:Array Value}(hV:uw W ps c args.toList):Rel (uL W) (gD ps c) WC [] ⟨args,[]⟩ W:=by
 have hr0:∀r,(gD ps c).roots r=none:=λr=>by
  show jl (jv ps 0 c) r=none
  rw[(hV.roots (i:=0)).1]
  rfl
 have hno:∀r R,¬aY (gD ps c) r R:=λr R h=>by have h2:=h.1;rw[hr0 r]at h2;simp at h2
 have hs:=λs=>uw.slots hno (i:=0) hV s
 refine⟨rfl,dW _,λj pi b o n h=>by simp[uL]at h,λr R h=>absurd h (hno r R),λs=>?_,λs=>(hs s).2.2,λr R h=>absurd h (hno r R),λr R h=>by rw[hr0 r]at h;simp at h,
  λr R _ _ h=>absurd h (hno r R),λb h=>by simp at h,mq,λr R h=>absurd h (hno r R),⟨rfl,rfl,rfl,bZ _,λ_ _ _=>rfl,λj pi b o n h=>by simp[uL]at h⟩,
  λj pi h=>by simp[uL]at h,⟨λj pi h=>by simp[uL]at h,λb hb=>⟨(hfr b hb).1,λj pi h=>by simp[uL]at h⟩,λb hb=>(hfr b hb).2⟩,λj p ts v h=>h.elim,λj v h=>h.elim⟩
 obtain⟨h1,h2,_⟩:=hs s
 cases hv:args.toList[s]? with
 |none=>
  have:=h2 (.inl (by simpa using hv))
  rw[show(gD ps c).slots s=.one .undef from this]
  trivial
 |some v=>
  have:=h1 v (by simpa using hv) (dW _)
  have e:args.getD s undef=v:=by
   rw[rX]at hv
   simp[zL,hv]
  show iZ _ _ _ _ _ _ (args.getD s undef)
  rw[e]
  exact this
theorem awd(hfr:∀b,Fr.free b->b<W.heap.size/\hp W b=Fr.obj b){f:FuncId}{ps:List aM}{F:Nat->Cont (kin ps)->Option (Cont (iI [.val .bool [] []]++gM ps))}{n:Nat}(hE:bg P n ⟨f,ps,[.val .bool [] []],F⟩)
  {c:Cont (kin ps)} {out:Cont (iI [.val .bool [] []]++gM ps)} (hF:F n c=some out) (ht:out.1=true) {args:Array Value} (hV:uw W ps c args.toList) (hcall:(callFunc f args).run P W=.ok (.enter f args) W) :
  Calls P f args W λe W'=>e=.returned (.bool true)/\qH W W':=by
 have h:=hE c out hF (uL W) WC args W rfl rfl (by rw[<-PI,(hV.roots (i:=0)).2]) ⟨λj pi h=>by simp[uL]at h,λj p ts v h=>h.elim,λj v h=>h.elim⟩ (awc hfr hV)
 rcases h with⟨_,h⟩|⟨v,w',h,_⟩
 ·refine h.mono ?_
  rintro e W' ⟨v,rfl,Z,J,F',a,vs,az,H,rfl,hR,_⟩
  refine⟨?_,H.frame.1,H.frame.2.2.1,H.frame.2.2.2.1,λb hb=>H.frame.2.2.2.2.1 b hb (λj pi h=>by simp[uL]at h)⟩
  cases vs with
  |nil=>exact hR.elim
  |cons v vs=>
   cases az with
   |nil=>exact hR.elim
   |cons fo az=>
    obtain⟨⟨_,T,cs,_,hv,hw⟩,hr⟩:=hR
    cases vs with
    |cons _ _=>exact hr.elim
    |nil=>
     obtain⟨e1,_⟩:=hv
     have e2:cs=[.bool out.1]:=hw
     rw[e1,ht]at e2
     simp only[gW,eO]at e2
     subst e2
     rfl
 ·rw[hcall]at h
  simp at h
end
end
section
open Go
mutual
def vQ{H:Type}:DataW H->Nat
 |.lit (.string bytes)=>bytes.length+1
 |.lit _=>1
 |.nil=>1
 |.ptr d=>vQ d+1
 |.slice elems spare=>sK elems+sK spare+1
 |.agg parts=>sK parts+1
 |.iface _ d=>vQ d+1
 |.map _=>1
 |.held _=>1
def sK{H:Type}:List (DataW H)->Nat
 | []=>0
 |d :: r=>vQ d+sK r
end
def qR:(k:K)->El k->Nat
 |.int _,_=>1
 |.bool,_=>1
 |.str,s=>(show List Int from s).length+1
 |.sl _ k,xs=>((show List (El k)from xs).map (qR k)).sum+1
 |.unit,_=>0
 |.pair a b,x=>qR a x.1+qR b x.2
 |.st f,x=>qR f x+1
 |.gap _,_=>0
 |.id _,_=>1
def zl:(k:K)->El k->Prop
 |.int ik,x=>lq ik x
 |.str,s=>(show List Int from s).length<=9223372036854775807/\∀b∈(show List Int from s),0<=b/\b<256
 |.sl _ k,xs=>(show List (El k)from xs).length<=9223372036854775807/\∀x∈(show List (El k)from xs),zl k x
 |.pair a b,x=>zl a x.1/\zl b x.2
 |.st f,x=>zl f x
 |_,_=>True
theorem amH{A:Type}{p:Nat->A->Prop}:∀{n:Nat},(∀i,i<n->∃x,p i x)->∃xs:List A,xs.length=n/\∀i (h:i<xs.length),p i xs[i]:=by
 intro n h
 induction n with
 |zero=>exact⟨[],rfl,λi h=>by simp at h⟩
 |succ n ih=>
  obtain⟨xs,h1,h2⟩:=ih (λi hi=>h i (by omega))
  obtain⟨x,hx⟩:=h n (by omega)
  refine⟨xs++[x],by simp[h1],λi hi=>?_⟩
  rw[List.getElem_append]
  split
  ·exact h2 i _
  ·have:i=n:=by simp[h1]at hi;omega
   subst this
   simpa using hx
theorem aiC{A H:Type}{f:A->Nat}:∀{xs:List A} {ds:List (DataW H)},xs.length=ds.length->(∀i (h:i<xs.length) (h':i<ds.length),f xs[i]<=vQ ds[i])->(xs.map f).sum<=sK ds
 | [],[],_,_=>bZ _
 |x :: xs,d :: ds,hl,h=>by
  simp only[jo,List.sum_cons,sK]
  have h0:=h 0 (by simp) (by simp)
  have:=aiC (xs:=xs) (ds:=ds) (by simpa using hl) (λi h1 h2=>by
   have:=h (i+1) (by simp;omega) (by simp;omega)
   simpa using this)
  simp only[List.getElem_cons_zero]at h0
  omega
 | [],_ :: _,hl,_=>by simp at hl
 |_ :: _,[],hl,_=>by simp at hl
section
variable {P:Program}{T:bK}{W:World}{H:Type}{enc:TypeId×Value->H}
def alA[Fr](W:World)(k:K)(cs:List Value)(d:DataW H):Prop:=∃x:El k,Vw (hp W) (λb=>b<W.heap.size) k x cs/\qR k x<=vQ d/\zl k x
theorem MF{t:TypeId}{k:K}(h:ry P t k):P.cellsOf t=k.size:=by
 obtain⟨i,h1,h2,_⟩:=h
 simp[Program.cellsOf,h1,h2]
theorem ayz[Fr](hid:T.ids=false)(hfr:∀b,b<W.heap.size->Fr.free b):∀(k:K),
  (∀t n cs d ps,(jc P T k).1 t->DataW.trod enc P W 0 (λ_=>true) true n t cs=some (d,ps)->alA W k cs d)/\
  (∀(fs:List Field) off n (cs:List Value) (xs:List (DataW H×List MemPlace)),(jc P T k).2 fs off->cs.length=off+k.size->xs.length=fs.length->
   (∀(i:Nat) f,fs[i]?=some f->DataW.trod enc P W 0 (λ_=>true) true n f.type ((cs.drop f.offset).take (P.cellsOf f.type))=xs[i]?)->
   ∃x:El k,Vw (hp W) (λb=>b<W.heap.size) k x (cs.drop off)/\qR k x<=sK (xs.map (·.1))/\zl k x):=by
 intro k
 induction k with
 |int ik=>
  refine⟨λt n cs d ps ht h=>?_,λ_ _ _ _ _ h=>h.elim⟩
  obtain⟨m,rfl,e,hw⟩:=DataW.trod_int ht.1 h
  simp only[bS]at e
  obtain⟨rfl,rfl⟩:=e
  have hr:lq ik m:=by
   cases ik<;>simp[lq]
   simp[Lit.wf,IntKind.min,IntKind.max,IntKind.signed,IntKind.bits]at hw
   omega
  exact⟨m,⟨rfl,hr⟩,bZ _,hr⟩
 |bool=>
  refine⟨λt n cs d ps ht h=>?_,λ_ _ _ _ _ h=>h.elim⟩
  obtain⟨b,rfl,e⟩:=DataW.trod_bool ht.1 h
  simp only[bS]at e
  obtain⟨rfl,rfl⟩:=e
  exact⟨b,rfl,bZ _,trivial⟩
 |str=>
  refine⟨λt n cs d ps ht h=>?_,λ_ _ _ _ _ h=>h.elim⟩
  obtain⟨s,rfl,e,hsz⟩:=DataW.trod_string ht.1 h
  simp only[bS]at e
  obtain⟨rfl,rfl⟩:=e
  exact⟨bytesOf s,⟨s,rfl,rfl⟩,by simp[qR,vQ,bytesOf],by
   unfold maxLen at hsz
   have:(bytesOf s).length=s.size:=by simp[bytesOf]
   refine⟨(show(bytesOf s).length<=9223372036854775807 by omega),λb hb=>?_⟩
   have hb':b∈bytesOf s:=hb
   unfold bytesOf at hb'
   obtain⟨x,_,rfl⟩:=d_.1 hb'
   have:=x.toNat_lt
   omega⟩
 |unit=>exact⟨λ_ _ _ _ _ h=>h.elim,λfs off n cs xs _ hl hx hf=>⟨(),by
   have:cs.drop off=[]:=List.drop_eq_nil_of_le (by simp[K.size]at hl;omega)
   exact this,dW _,trivial⟩⟩
 |gap n=>exact⟨λ_ _ _ _ _ h=>h.elim,λ_ _ _ _ _ h=>h.elim⟩
 |id e=>exact⟨λt n cs d ps ht h=>by have:=ht.2.2;rw[hid]at this;simp at this,λ_ _ _ _ _ h=>h.elim⟩
 |sl e k ih=>
  refine⟨λt n cs d ps ht h=>?_,λ_ _ _ _ _ h=>h.elim⟩
  obtain⟨hu,_,hte,hk0,_⟩:=ht
  have hce:P.cellsOf e=k.size:=MF (dz.info hte)
  rcases DataW.trod_slice hu h with⟨rfl,e1⟩|⟨a,len,cap,elems,rest,m,rfl,rfl,e1,_,hlc,hmx,hle,hel,_,_⟩
  ·simp only[bS]at e1
   obtain⟨rfl,rfl⟩:=e1
   exact⟨[],⟨none,0,0,rfl,rfl,bZ _,λh=>by omega⟩,by simp[qR,vQ],⟨dW _,λx hx=>by simp at hx⟩⟩
  ·simp only[bS]at e1
   obtain⟨rfl,rfl⟩:=e1
   have hone:∀i (hi:i<len),∃x:El k,∃ds,W.cells? 0 (a.add (i*k.size)) k.size=some ds/\Vw (hp W) (λb=>b<W.heap.size) k x ds/\(∀(h':i<elems.length),qR k x<=vQ elems[i].1)/\zl k x:=by
    intro i hi
    have h1:=hel i hi
    have hi':i<elems.length:=by omega
    rw[hce,fG hi']at h1
    obtain⟨ds,h2,h3⟩:=Gq.1 h1
    obtain⟨x,h4,h5,h6⟩:=ih.1 e m ds _ _ hte h3
    exact⟨x,ds,h2,h4,λ_=>h5,h6⟩
   obtain⟨xs,hl,hxs⟩:=amH hone
   refine⟨xs,⟨some a,len,cap,rfl,hl.symm,hlc,λh0=>?_⟩,?_,?_⟩
   ·obtain⟨b,o,sp⟩:=a
    have h0':0<xs.length:=by omega
    obtain⟨ds0,h2,h3,_⟩:=hxs 0 h0'
    have hb:=World.cells?_block h2 hk0
    obtain⟨_,g1,g2⟩:=World.cells?_some h2
    have hsp:sp=none:=by
     have:=g2 0 hk0
     rw[fG (by omega)]at this
     simp only[Nat.zero_mul,Addr.add,bL,World.cell?]at this
     cases sp with
     |none=>rfl
     |some q=>split at this<;>simp at this
    subst hsp
    have hb':b<W.heap.size:=by
     rw[addr_add]at hb
     exact hb
    refine⟨b,o,rfl,hb',.inr (hfr b hb'),λi hi=>?_⟩
    obtain⟨ds,h2,h3,_⟩:=hxs i hi
    obtain⟨_,g1,g2⟩:=World.cells?_some h2
    refine⟨ds,λj hj=>?_,h3⟩
    have:=g2 j (by omega)
    rw[addr_add,addr_add,vN]at this
    exact this
   ·simp only[qR,vQ]
    have:=aiC (H:=H) (f:=qR k) (xs:=xs) (ds:=elems.map (·.1)) (by simp;omega) (λi h1 h2=>by
     obtain⟨ds,_,_,h5,_⟩:=hxs i h1
     simpa using h5 (by simpa using h2))
    omega
   ·unfold maxLen at hmx
    refine⟨show xs.length<=_ by omega,λx hx=>?_⟩
    obtain⟨i,hi,rfl⟩:=wQ.1 hx
    obtain⟨_,_,_,_,h6⟩:=hxs i hi
    exact h6
 |pair a b iha ihb=>
  refine⟨λ_ _ _ _ _ h=>h.elim,λfs off n cs xs ht hl hx hf=>?_⟩
  cases fs with
  |nil=>exact ht.elim
  |cons f fs=>
   cases xs with
   |nil=>simp at hx
   |cons x0 xs=>
    obtain⟨h1,h2,h3,h4⟩:=ht
    have hca:P.cellsOf f.type=a.size:=MF (dz.info h2)
    have h5:=hf 0 f rfl
    rw[h1,hca]at h5
    simp only[rA]at h5
    obtain⟨x,g1,g2,l1⟩:=iha.1 f.type n _ x0.1 x0.2 h2 h5
    obtain⟨y,g3,g4,l2⟩:=ihb.2 fs (off+a.size) n cs xs h4 (by simp[K.size]at hl;omega) (by simpa using hx) (λi f' hi=>by
     have:=hf (i+1) f' (by simpa using hi)
     simpa using this)
    refine⟨(x,y),⟨(cs.drop off).take a.size,cs.drop (off+a.size),?_,g1,g3⟩,?_,l1,l2⟩
    ·rw[<-wO,Ab]
    ·simp only[qR,jo,sK]
     omega
 |st c ih=>
  refine⟨λt n cs d ps ht h=>?_,λ_ _ _ _ _ h=>h.elim⟩
  obtain⟨⟨fs,hu,hfs⟩,hinfo⟩:=ht
  obtain⟨xs,m,rfl,e1,hl,hlen,hf⟩:=DataW.trod_struct hu h
  simp only[bS]at e1
  obtain⟨rfl,rfl⟩:=e1
  obtain⟨x,g1,g2,l1⟩:=ih.2 fs.toList 0 m cs xs hfs (by rw[hl,MF hinfo];simp[K.size]) (by simpa using hlen) (λi f hi=>hf i f (by simpa using hi))
  refine⟨x,by simp only[vD]at g1;exact g1,?_,l1⟩
  simp only[qR,vQ]
  omega
theorem aoa:∀{k:K} {fs:List Field} {off:Nat},(jc P T k).2 fs off->∀f∈fs,∃k',(jc P T k').1 f.type:=by
 intro k
 induction k with
 |pair a b iha ihb=>
  intro fs off h f hf
  cases fs with
  |nil=>simp at hf
  |cons f0 fs=>
   rcases bM.1 hf with h1|h1
   ·subst h1;exact⟨a,h.2.1⟩
   ·exact ihb h.2.2.2 f h1
 |unit=>intro fs off h f hf;rw[show fs=[]from h]at hf;simp at hf
 |_=>intro fs off h;exact h.elim
theorem ayA[Fr](hid:T.ids=false){sp:Nat->Bool}(hsp:∀b,b<W.heap.size->sp b=true):∀(n:Nat) (t:TypeId) (k:K) (cs:List Value) (x:DataW H×List MemPlace),(jc P T k).1 t->DataW.trod enc P W 0 (λ_=>true) true n t cs=some x->DataW.trod enc P W 0 sp true n t cs=some x:=by
 intro n
 induction n with
 |zero=>intro t k cs x _ h;simp[DataW.trod]at h
 |succ n ih=>
  intro t k cs x ht h
  cases k with
  |int ik=>obtain⟨m,rfl,rfl,hw⟩:=DataW.trod_int ht.1 h;simp[DataW.trod,ht.1,hw]
  |bool=>obtain⟨m,rfl,rfl⟩:=DataW.trod_bool ht.1 h;simp[DataW.trod,ht.1]
  |str=>obtain⟨m,rfl,rfl,hw⟩:=DataW.trod_string ht.1 h;simp[DataW.trod,ht.1,hw]
  |unit=>exact ht.elim
  |gap n=>exact ht.elim
  |id e=>have:=ht.2.2;rw[hid]at this;simp at this
  |pair a b=>exact ht.elim
  |st c=>
   obtain⟨⟨fs,hu,hfs⟩,_⟩:=ht
   obtain⟨xs,m,e,rfl,hl,hlen,hf⟩:=DataW.trod_struct hu h
   have e':m=n:=by omega
   subst e'
   refine ChangeShapes.trod_struct_mk hu hl (mapM_some_of_get _ _ (by simpa using hlen) λi f hi=>?_)
   have hi':i<xs.length:=by
    have:=(oh.1 hi).1
    simp at this
    omega
   have h1:=hf i f (by simpa using hi)
   rw[fG hi']at h1 ⊢
   obtain⟨k',hk'⟩:=aoa hfs f (p9 hi)
   exact ih f.type k' _ _ hk' h1
  |sl e k=>
   obtain⟨hu,_,hte,hk0,_⟩:=ht
   have hce:P.cellsOf e=k.size:=MF (dz.info hte)
   rcases DataW.trod_slice hu h with⟨rfl,rfl⟩|⟨a,len,cap,_,_,_,_,rfl,_⟩
   ·simp[DataW.trod,hu]
   ·unfold DataW.trod at h ⊢
    rw[hu]at h ⊢
    simp only[hce]at h ⊢
    split at h
    ·rename_i hc
     rw[aj hc]
     obtain⟨elems,he,h⟩:=Gq.1 h
     obtain⟨rest,hr,hd⟩:=Option.map_eq_some_iff.1 h
     have hstep:∀i y,(W.cells? 0 (a.add (i*k.size)) k.size).bind (DataW.trod enc P W 0 (λ_=>true) true n e)=some y->(W.cells? 0 (a.add (i*k.size)) k.size).bind (DataW.trod enc P W 0 sp true n e)=some y:=by
      intro i y h
      obtain⟨ds,h1,h2⟩:=Gq.1 h
      exact Gq.2 ⟨ds,h1,ih e k ds y hte h2⟩
     refine Gq.2 ⟨elems,mapM_carry he (λi y _ _ hy=>hstep i y hy),Option.map_eq_some_iff.2 ⟨rest,?_,hd⟩⟩
     simp only[bL]at hr
     cases hs:sp a.block with
     |true=>
      simp only[bL]
      exact mapM_carry hr (λi y _ _ hy=>hstep _ y hy)
     |false=>
      simp only[bP,bI]
      cases hcl:cap-len with
      |zero=>rw[hcl]at hr;simpa using hr
      |succ m=>
       exfalso
       rw[hcl]at hr
       have h1:=mapM_some_get hr 0 0 (by simp)
       have hlr:rest.length=m+1:=by simpa using mapM_some_length hr
       rw[fG (by omega)]at h1
       obtain⟨ds,h2,_⟩:=Gq.1 h1
       have h3:=World.cells?_block h2 hk0
       have h4:(a.add ((len+0)*k.size)).block=a.block:=by unfold Addr.add;split<;>rfl
       rw[h4]at h3
       rw[hsp _ h3]at hs
       simp at hs
    ·simp at h
end
end
section
open Go
section
variable {P:Program}{T:bK}{W W':World}{H:Type}{enc:TypeId×Value->H}
def Gs(P:Program)(T:bK):List aM->List TypeId->Prop
 | [],[]=>True
 |.val k [] :: ps,t :: ts=>dz P T t k/\Gs P T ps ts
 |_,_=>False
def Ki:(ps:List aM)->Cont (kin ps)->Nat
 |.val k _ :: ps,c=>qR k c.1+Ki ps c.2
 |_,_=>0
def OG:(ps:List aM)->Cont (kin ps)->Prop
 |.val k _ :: ps,c=>zl k c.1/\OG ps c.2
 |_,_=>True
theorem ayI[Fr]{t:TypeId}{k:K}{v:Value}{base:Nat}{x:El k}{ok:Nat->Prop}(ht:dz P T t k)(hv:Value.okWide P W .any base t v)(hV:Vw (hp W) ok k x v.cells.toList):VC k v v.cells.toList:=by
 have hplain:∀{u:Value},(∀y,v≠.agg y)->v.cells.toList=[u]->VC k v v.cells.toList\/∃c,k=.st c:=by
  intro u hn hu
  cases k with
  |st c=>exact .inr ⟨c,rfl⟩
  |_=>
   refine .inl ⟨?_,hn⟩
   cases v<;>first|rfl|exact absurd rfl (hn _)
 unfold dz jc at ht
 cases k with
 |st c=>
  obtain⟨⟨fs,hu,_⟩,_⟩:=ht
  unfold Value.okWide at hv
  rw[hu]at hv
  obtain⟨cs,rfl,_⟩:=hv
  show Value.agg cs=.agg (cs.toList).toArray
  simp
 |unit=>exact ht.elim
 |pair a b=>exact ht.elim
 |gap n=>exact ht.elim
 |int ik=>
  unfold Value.okWide at hv
  rw[ht.1]at hv
  refine⟨?_,?_⟩<;>cases v<;>simp_all[Cell.okWide,Cell.ok,Value.cells]
 |bool=>
  unfold Value.okWide at hv
  rw[ht.1]at hv
  refine⟨?_,?_⟩<;>cases v<;>simp_all[Cell.okWide,Cell.ok,Value.cells]
 |id e=>
  unfold Value.okWide at hv
  rw[ht.1]at hv
  refine⟨?_,?_⟩<;>cases v<;>simp_all[Cell.okWide,Cell.ok,Value.cells]
 |str=>
  unfold Value.okWide at hv
  rw[ht.1]at hv
  refine⟨?_,?_⟩<;>cases v<;>simp_all[Cell.okWide,Cell.ok,Value.cells]
 |sl e k=>
  unfold Value.okWide at hv
  rw[ht.1]at hv
  refine⟨?_,?_⟩<;>cases v<;>simp_all[Cell.okWide,Cell.ok,Value.cells]
theorem ahi[Fr](hid:T.ids=false)(hfr:∀b,b<W.heap.size->Fr.free b):∀{ps:List aM} {ts:List TypeId} {vs:List Value} {ds:List (DataW H)} {p:List MemPlace} {base:Nat},Gs P T ps ts->DataW.TrodAll enc P W 0 (λ_=>true) true ts vs ds p->
  (∀(j:Nat) t v,ts[j]?=some t->vs[j]?=some v->Value.okWide P W .any base t v)->∃c,uw W ps c vs/\Ki ps c<=sK ds/\ds.length=ps.length/\OG ps c
 | [],[],vs,ds,p,_,_,h,_=>by
  obtain⟨rfl,rfl,_⟩:=ChangeShapes.trodAll_nil h
  exact⟨(),trivial,bZ _,rfl,trivial⟩
 |.val k [] :: ps,t :: ts,vs,ds,p,base,hp1,h,hv=>by
  obtain⟨v,vs',d,ds',p1,q,rfl,rfl,rfl,⟨n,h1⟩,h2⟩:=ChangeShapes.trodAll_cons h
  obtain⟨c,g1,g2,g3,g4⟩:=ahi hid hfr hp1.2 h2 (λj t v ht hv'=>hv (j+1) t v (by simpa using ht) (by simpa using hv'))
  obtain⟨x,f1,f2,f3⟩:=(ayz (T:=T) (enc:=enc) hid hfr k).1 t n _ d p1 hp1.1 h1
  refine⟨(x,c),⟨⟨_,ayI hp1.1 (hv 0 t v rfl rfl) f1,f1⟩,g1⟩,?_,by simp[g3],f3,g4⟩
  simp only[Ki,sK]
  omega
 | [],_ :: _,_,_,_,_,h,_,_=>h.elim
 |.val _ [] :: _,[],_,_,_,_,h,_,_=>h.elim
 |.val _ (_ :: _) :: _,ts,_,_,_,_,h,_,_=>by cases ts<;>exact h.elim
 |.ro _ :: _,ts,_,_,_,_,h,_,_=>by cases ts<;>exact h.elim
 |.rw _ _ _ _ :: _,ts,_,_,_,_,h,_,_=>by cases ts<;>exact h.elim
 |.dQ _ _ _ :: _,ts,_,_,_,_,h,_,_=>by cases ts<;>exact h.elim
 |.own _ _ :: _,ts,_,_,_,_,h,_,_=>by cases ts<;>exact h.elim
 |.fn _ _ :: _,ts,_,_,_,_,h,_,_=>by cases ts<;>exact h.elim
 |.into _ _ :: _,ts,_,_,_,_,h,_,_=>by cases ts<;>exact h.elim
theorem ax9(hO:qH W W'){p:MemPlace}(hp1:p.block<W.heap.size):W.sameAt W' p:=by
 have h:=hO.2.2.2 p.block hp1
 cases p with
 |cell b off=>
  have h':W'.heap[b]?=W.heap[b]?:=h
  show W'.cell? _=W.cell? _
  unfold World.cell?
  simp only[h']
 |map b=>exact h
theorem ahY[Fr](hid:T.ids=false)(hO:qH W W'){sp:Nat->Bool}(hsp:∀b,b<W.heap.size->sp b=true):∀{ps:List aM} {ts:List TypeId} {vs:List Value} {ds:List (DataW H)} {p:List MemPlace},Gs P T ps ts->DataW.TrodAll enc P W 0 (λ_=>true) true ts vs ds p->
  DataW.TrodAll enc P W' 0 sp true ts vs ds p
 | [],[],vs,ds,p,_,h=>by
  obtain⟨rfl,rfl,rfl⟩:=ChangeShapes.trodAll_nil h
  exact rfl
 |.val k [] :: ps,t :: ts,vs,ds,p,hp1,h=>by
  obtain⟨v,vs',d,ds',p1,q,rfl,rfl,rfl,⟨n,h1⟩,h2⟩:=ChangeShapes.trodAll_cons h
  have h3:=ahY hid hO hsp hp1.2 h2
  have h4:=ayA hid hsp n t k _ _ hp1.1 h1
  exact⟨p1,q,⟨n,DataW.trod_carry n t _ _ h4 (λp hp2=>ax9 hO (DataW.trod_lt n t _ _ h1 p hp2))⟩,h3,rfl⟩
 | [],_ :: _,_,_,_,h,_=>h.elim
 |.val _ [] :: _,[],_,_,_,h,_=>h.elim
 |.val _ (_ :: _) :: _,ts,_,_,_,h,_=>by cases ts<;>exact h.elim
 |.ro _ :: _,ts,_,_,_,h,_=>by cases ts<;>exact h.elim
 |.rw _ _ _ _ :: _,ts,_,_,_,h,_=>by cases ts<;>exact h.elim
 |.dQ _ _ _ :: _,ts,_,_,_,h,_=>by cases ts<;>exact h.elim
 |.own _ _ :: _,ts,_,_,_,h,_=>by cases ts<;>exact h.elim
 |.fn _ _ :: _,ts,_,_,_,h,_=>by cases ts<;>exact h.elim
 |.into _ _ :: _,ts,_,_,_,h,_=>by cases ts<;>exact h.elim
theorem avZ(hO:qH W W')(may:MemPlace->Prop):W.keptBut W' may:=by
 refine⟨hO.1,hO.2.1,λi hi=>?_⟩
 have h:W'.heap[i]?=W.heap[i]?:=hO.2.2.2 i hi
 rw[h]
 cases W.heap[i]? with
 |none=>rfl
 |some o=>
  cases o with
  |cells c t fr=>exact⟨rfl,rfl,rfl,λ_ _=>rfl⟩
  |map es clock=>exact .inr ⟨rfl,rfl⟩
  |_=>rfl
abbrev AQ(W:World):Fr:=⟨λb=>b<W.heap.size,hp W,λ_=>.slice none 0 0,rfl,λ_=>⟨none,0,0,rfl⟩⟩
theorem awe{f:FuncId}{fn:Func}{code:Code}{ps:List aM}{F:Nat->Cont (kin ps)->Option (Cont (iI [.val .bool [] []]++gM ps))}{s:ChangeSpec}{tb:TypeId}{N:Nat}
  (hf:P.funcs[f]?=some fn) (hname:(fn.name == "runtime.NumGoroutine")=false) (hbody:fn.body=some code) (hps:Gs P T ps fn.params.toList) (hres:fn.resultTypes=#[tb]) (htb:P.underlying tb=some .bool)
  (hE:letI:=AQ W; ∀n,bg P n ⟨f,ps,[.val .bool [] []],F⟩) (apH:∀c:Cont (kin ps),OG ps c->Ki ps c<=N->∃n out,F n c=some out/\out.1=true)
  (hvars:s.vars=[]) (hspec:∀ds:List (DataW H),ds.length=ps.length->s.fn H ds={ results:=[.lit (.bool true)],args:=ds })
  {base:Nat} {args:Array Value} {ds gs:List (DataW H)} {before:List MemPlace}
  (hval:∀(j:Nat) t v,fn.params[j]?=some t->args[j]?=some v->Value.okWide P W .any base t v)
  (hW:DataW.Whole enc P fn.params.toList s.vars false W args.toList ds gs before) (hb:sK (ds++gs)<=N) (hid:T.ids=false:=by rfl) :
  Calls P f args W λe W'=>∃v,e=.returned v/\s.post enc P fn false true false false W args v W':=by
 letI fr:Fr:=AQ W
 have hW':=hW
 obtain⟨p,q,hA,hV,hpq,hfz,hnd⟩:=hW
 rw[hvars]at hV
 obtain⟨rfl,rfl⟩:=ChangeShapes.trodVars_none hV
 rw[jf]at hb
 obtain⟨c,h1,h2,h3,h6⟩:=ahi (T:=T) hid (λb hb=>hb) hps hA (λj t v ht hv=>hval j t v (by simpa using ht) (by simpa using hv))
 obtain⟨n,out,h4,h5⟩:=apH c h6 (by omega)
 refine(awd (λb hb=>⟨hb,rfl⟩) (hE n) h4 h5 h1 (Go.MuLone.run_callFunc_enter hf hname hbody args W)).mono ?_
 rintro e W' ⟨rfl,hO⟩
 have hsp:=hspec ds h3
 rw[jf]at hpq
 refine⟨_,rfl,ds,[],before,[],p,[],hW',?_,?_,?_,avZ hO _,λh=>by simp at h⟩
 ·rw[jf,hsp,hres]
  exact⟨[],[],⟨1,by simp[DataW.trod,Value.cells,htb]⟩,rfl,rfl⟩
 ·rw[jf,hsp]
  exact ahY hid hO (λb hb=>by simpa using hb) hps hA
 ·rw[jf,hsp,hvars]
  exact rfl
end
end
section
open Go
structure yu where
 ty:List (TypeId×K)
 bytes:List (TypeId×Nat)
 ptr:List TypeId
 ids:Bool:=false
 eqs:List TypeId:=[]
def look{A:Type}(n:Nat):List (Nat×A)->Option A
 | []=>none
 |(m,a) :: l=>bif Nat.beq n m then some a else look n l
def agS(n:Nat):List (Nat×Nat)->Nat
 | []=>0
 |(m,a) :: l=>bif Nat.beq n m then a else agS n l
def yu.tab(L:yu):bK:={ ty:=λt=>look t L.ty,bytes:=λt=>agS t L.bytes,ptr:=λt=>ay t L.ptr,eq:=λt=>ay t L.eqs,ids:=L.ids }
def Im:K->Value->Bool
 |.int ik,.int jk (.ofNat 0)=>sV ik jk
 |.bool,.bool false=>true
 |.str,.string s=>Nat.beq s.data.size 0
 |.sl _ _,.slice none 0 0=>true
 |.id _,.slice none 0 0=>true
 |_,_=>false
def xy:K->List Value->Option (List Value)
 |.pair a b,l=>match xy a l with
  |some m=>xy b m
  |none=>none
 |.unit,l=>some l
 |.st f,l=>xy f l
 |.gap _,_=>none
 |k,v :: l=>bif Im k v then some l else none
 |_,[]=>none
def TJ:K->Value->Bool
 |.st f,.agg arr=>match xy f arr.toList with
  |some []=>true
  |_=>false
 |.st _,_=>false
 |k,v=>Im k v
def yY(P:Program)(t:TypeId)(k:K):Bool:=match P.info? t with
 |some i=>Nat.beq i.size k.size&&(match i.zero with
  |some v=>TJ k v
  |none=>false)
 |none=>false
def ko(P:Program)(T:bK):K->(TypeId->Bool)×(List Field->Nat->Bool)
 |.int ik=>(λt=>(match P.underlying t with
  |some (.int jk)=>sV ik jk
  |_=>false)&&yY P t (.int ik),λ_ _=>false)
 |.bool=>(λt=>(match P.underlying t with
  |some .bool=>true
  |_=>false)&&yY P t .bool,λ_ _=>false)
 |.str=>(λt=>(match P.underlying t with
  |some .string=>true
  |_=>false)&&yY P t .str,λ_ _=>false)
 |.sl e k=>(λt=>(match P.underlying t with
  |some (.slice e')=>Nat.beq e e'
  |_=>false)&&yY P t (.sl e k)&&(ko P T k).1 e&&Nat.blt 0 k.size&&(match P.info? e with
  |some i=>Nat.beq i.bytes (T.bytes e)&&Nat.blt 0 i.bytes
  |none=>false),λ_ _=>false)
 |.unit=>(λ_=>false,λfs _=>fs.isEmpty)
 |.pair a b=>(λ_=>false,λfs off=>match fs with
  | []=>false
  |f :: fs=>Nat.beq f.offset off&&(ko P T a).1 f.type&&Nat.blt 0 a.size&&(ko P T b).2 fs (off+a.size))
 |.st c=>(λt=>(match P.underlying t with
  |some (.struct fs)=>(ko P T c).2 fs.toList 0
  |_=>false)&&yY P t (.st c),λ_ _=>false)
 |.gap _=>(λ_=>false,λ_ _=>false)
 |.id e=>(λt=>(match P.underlying t with
  |some (.slice e')=>Nat.beq e e'
  |_=>false)&&yY P t (.id e)&&T.ids,λ_ _=>false)
def Az(P:Program):K->TypeId->Bool
 |.int _,t=>match P.underlying t with
  |some (.int _)=>true
  |_=>false
 |.bool,t=>match P.underlying t with
  |some .bool=>true
  |_=>false
 |.str,t=>match P.underlying t with
  |some .string=>true
  |_=>false
 |_,_=>false
def Ay(P:Program):K->List Field->Bool
 |.unit,[]=>true
 |.pair a b,f :: fs=>f.name != "_" && Az P a f.type&&Ay P b fs
 |_,_=>false
def aaQ(P:Program)(c:K)(t:TypeId):Bool:=(match P.underlying t with
 |some (.struct fs)=>Ay P c fs.toList
 |_=>false) && !P.stoodInHeld t && !P.eqGuardType P.depth t
def BX(P:Program)(L:yu):Bool:=L.ty.all (λq=>(ko P L.tab q.2).1 q.1)&&(L.ptr.all λt=>match P.underlying t with
 |some (.pointer _)=>true
 |_=>false)&&L.eqs.all λt=>match look t L.ty with
  |some (.st c)=>aaQ P c t
  |_=>false
section
variable [Fr]{P:Program}{T:bK}
theorem acC{k:K}{v:Value}(h:Im k v=true):dO k=[v]/\iY k=v:=by
 unfold Im at h
 split at h
 ·have:=Ie h;subst this;exact⟨rfl,rfl⟩
 ·exact⟨rfl,rfl⟩
 ·rename_i s
  have:s=ByteArray.empty:=by
   have h1:=bu h
   obtain⟨d⟩:=s
   have:d=#[]:=XJ h1
   subst this
   rfl
  subst this
  exact⟨rfl,rfl⟩
 ·exact⟨rfl,rfl⟩
 ·exact⟨rfl,rfl⟩
 ·simp at h
theorem aqH:∀{k:K} {l m:List Value},xy k l=some m->l=dO k++m:=by
 intro k
 have one:∀{k:K} {l m:List Value},(match l with|v :: l=>(bif Im k v then some l else none) | []=>none)=some m->l=dO k++m:=by
  intro k l m h
  cases l with
  |nil=>simp at h
  |cons v l=>
   obtain⟨hb,h⟩:=yA h
   simp only[ak]at h
   subst h
   rw[(acC hb).1]
   rfl
 induction k with
 |pair a b iha ihb=>
  intro l m h
  simp only[xy]at h
  split at h
  ·rename_i q hq
   rw[iha hq,ihb h]
   simp[dO]
  ·simp at h
 |unit=>intro l m h;simp only[xy,ak]at h;subst h;rfl
 |st f ih=>intro l m h;exact ih (show xy f l=some m from h)
 |gap n=>intro l m h;simp[xy]at h
 |int ik=>intro l m h;exact one (k:=.int ik) (by cases l<;>exact h)
 |bool=>intro l m h;exact one (k:=.bool) (by cases l<;>exact h)
 |id e=>intro l m h;exact one (k:=.id e) (by cases l<;>exact h)
 |str=>intro l m h;exact one (k:=.str) (by cases l<;>exact h)
 |sl e k _=>intro l m h;exact one (k:=.sl e k) (by cases l<;>exact h)
theorem aqI{k:K}{v:Value}(h:TJ k v=true):iY k=v:=by
 unfold TJ at h
 split at h
 ·rename_i f arr
  split at h
  ·rename_i hz
   have:=aqH hz
   simp only[jf]at this
   show Value.agg (dO f).toArray=.agg arr
   rw[<-this]
  ·simp at h
 ·simp at h
 ·exact(acC h).2
theorem D5{t:TypeId}{k:K}(h:yY P t k=true):ry P t k:=by
 unfold yY at h
 split at h
 ·rename_i i hi
  simp only[bf]at h
  obtain⟨h1,h2⟩:=h
  split at h2
  ·rename_i v hv
   exact⟨i,hi,bu h1,by rw[hv,aqI h2]⟩
  ·simp at h2
 ·simp at h
theorem Ro{a b:Nat}(h:Nat.blt a b=true):a<b:=by
 unfold Nat.blt at h
 exact Lb h
theorem ayF:∀{k:K},(∀t,(ko P T k).1 t=true->(jc P T k).1 t)/\∀fs off,(ko P T k).2 fs off=true->(jc P T k).2 fs off:=by
 intro k
 induction k with
 |int ik=>
  refine⟨λt h=>?_,λfs off h=>by simp[ko]at h⟩
  simp only[ko,bf]at h
  obtain⟨h1,h2⟩:=h
  split at h1
  ·rename_i jk hu
   have:=Ie h1;subst this
   exact⟨hu,D5 h2⟩
  ·simp at h1
 |bool=>
  refine⟨λt h=>?_,λfs off h=>by simp[ko]at h⟩
  simp only[ko,bf]at h
  obtain⟨h1,h2⟩:=h
  split at h1
  ·rename_i hu;exact⟨hu,D5 h2⟩
  ·simp at h1
 |str=>
  refine⟨λt h=>?_,λfs off h=>by simp[ko]at h⟩
  simp only[ko,bf]at h
  obtain⟨h1,h2⟩:=h
  split at h1
  ·rename_i hu;exact⟨hu,D5 h2⟩
  ·simp at h1
 |sl e k ih=>
  refine⟨λt h=>?_,λfs off h=>by simp[ko]at h⟩
  simp only[ko,bf]at h
  obtain⟨⟨⟨⟨h1,h2⟩,h3⟩,h4⟩,h5⟩:=h
  split at h1
  ·rename_i e' hu
   have:=bu h1;subst this
   split at h5
   ·rename_i i hi
    simp only[bf]at h5
    exact⟨hu,D5 h2,ih.1 e h3,Ro h4,i,hi,bu h5.1,Ro h5.2⟩
   ·simp at h5
  ·simp at h1
 |unit=>exact⟨λt h=>by simp[ko]at h,λfs off h=>show fs=[] by simpa[ko]using h⟩
 |gap n=>exact⟨λt h=>by simp[ko]at h,λfs off h=>by simp[ko]at h⟩
 |id e=>
  refine⟨λt h=>?_,λfs off h=>by simp[ko]at h⟩
  simp only[ko,bf]at h
  obtain⟨⟨h1,h2⟩,h3⟩:=h
  split at h1
  ·rename_i e' hu
   have:=bu h1;subst this
   exact⟨hu,D5 h2,h3⟩
  ·simp at h1
 |pair a b iha ihb=>
  refine⟨λt h=>by simp[ko]at h,λfs off h=>?_⟩
  cases fs with
  |nil=>simp[ko]at h
  |cons f fs=>
   simp only[ko,bf]at h
   obtain⟨⟨⟨h1,h2⟩,h3⟩,h4⟩:=h
   exact⟨bu h1,iha.1 _ h2,Ro h3,ihb.2 _ _ h4⟩
 |st c ih=>
  refine⟨λt h=>?_,λfs off h=>by simp[ko]at h⟩
  simp only[ko,bf]at h
  obtain⟨h1,h2⟩:=h
  split at h1
  ·rename_i fs hu
   exact⟨⟨fs,hu,ih.2 _ _ h1⟩,D5 h2⟩
  ·simp at h1
theorem agV{A:Type}{n:Nat}{a:A}:∀{l:List (Nat×A)},look n l=some a->(n,a)∈l
 | [],h=>by simp[look]at h
 |(m,b) :: l,h=>by
  simp only[look]at h
  cases hb:Nat.beq n m with
  |true=>
   rw[hb]at h
   have:=bu hb
   simp only[fT,ak]at h
   subst this h
   simp
  |false=>
   rw[hb]at h
   exact .tail _ (agV h)
theorem Pn{L:yu}(h:BX P L=true):eU P L.tab:=by
 unfold BX at h
 simp only[bf,dV]at h
 refine⟨λt k ht=>ayF.1 t (h.1.1 (t,k) (agV ht)),λt ht=>?_⟩
 have:=h.1.2 t (fF.1 ht)
 split at this
 ·rename_i e he;exact⟨e,he⟩
 ·simp at this
theorem aom(a b:K)(x y:El (.pair a b)):o8 (.pair a b) x y=(o8 a x.1 y.1&&o8 b x.2 y.2):=by
 cases b<;>cases a<;>simp[o8]
theorem ax3{a:K}{t:TypeId}(h:Az P a t=true){hp1 hp2:Heap}{ok1 xI:Nat->Prop}{x y:El a}{cs1 cs2:List Value}(h1:Vw hp1 ok1 a x cs1)(h2:Vw hp2 xI a y cs2)(w:World) :
  ∃u v,cs1=[u]/\cs2=[v]/\(∀z,u≠.agg z)/\(∀z,v≠.agg z)/\(Op.equalIn 9999 t u v).run P w=.ok (o8 a x y) w:=by
 cases a with
 |int ik=>
  simp only[Az]at h
  split at h
  ·rename_i jk hu
   exact⟨_,_,h1.1,h2.1,by simp,by simp,run_equalIn_int w 9998 t ik jk x y hu⟩
  ·simp at h
 |bool=>
  simp only[Az]at h
  split at h
  ·rename_i hu
   exact⟨_,_,h1,h2,by simp,by simp,run_equalIn_bool w 9998 t x y hu⟩
  ·simp at h
 |str=>
  simp only[Az]at h
  split at h
  ·rename_i hu
   obtain⟨A,e1,f1⟩:=h1
   obtain⟨B,e2,f2⟩:=h2
   refine⟨_,_,e1,e2,by simp,by simp,?_⟩
   have h:=run_equalIn_string w 9998 t A B hu
   rw[GG,<-show(show List Int from x)=bytesOf A from f1,<-show(show List Int from y)=bytesOf B from f2]at h
   exact h
  ·simp at h
 |_=>simp[Az]at h
theorem ax2:∀(c:K) {fs:List Field} {off:Nat} {hp1 hp2:Heap} {ok1 xI:Nat->Prop} {x y:El c} {p1 p2 cs1 cs2:List Value},(jc P T c).2 fs off->Ay P c fs=true->Vw hp1 ok1 c x cs1->Vw hp2 xI c y cs2->
  p1.length=off->p2.length=off->∀w:World,(Op.eqFields 9999 (p1++cs1).toArray (p2++cs2).toArray fs).run P w=.ok (o8 c x y) w:=by
 intro c
 induction c with
 |unit=>
  intro fs off hp1 hp2 ok1 xI x y p1 p2 cs1 cs2 ht he h1 h2 l1 l2 w
  cases fs with
  |nil=>rfl
  |cons f fs=>simp[Ay]at he
 |pair a b iha ihb=>
  intro fs off hp1 hp2 ok1 xI x y p1 p2 cs1 cs2 ht he h1 h2 l1 l2 w
  cases fs with
  |nil=>simp[Ay]at he
  |cons f fs=>
   simp only[Ay,bf]at he
   obtain⟨t1,t2,t3,t4⟩:=ht
   obtain⟨c1,d1,rfl,v1,w1⟩:=h1
   obtain⟨c2,d2,rfl,v2,w2⟩:=h2
   obtain⟨u,v,rfl,rfl,n1,n2,hr⟩:=ax3 he.1.2 v1 v2 w
   have hs:a.size=1:=by rw[<-lD v1];rfl
   have hn:f.name≠"_":=by simpa using he.1.1
   obtain⟨u',g1,g2⟩:=W9 (w:=w) t2 t3 (cs:=p1++([u]++d1)) (off:=off) (by simp;omega)
   obtain⟨v',k1,k2⟩:=W9 (w:=w) t2 t3 (cs:=p2++([v]++d2)) (off:=off) (by simp;omega)
   have t2:dz P T f.type a:=t2
   have hst:jV a=false:=by
    cases a<;>first|rfl|simp[Az]at he
   have eu:u'=u:=by
    have h:=g1
    unfold part at h
    simp only[dH,t2.isAgg w,Result.andThen,hst]at h
    rw[show((p1++([u]++d1)).toArray)[off]?=some u by rw[<-l1];simp]at h
    simpa using h.symm
   have ev:v'=v:=by
    have h:=k1
    unfold part at h
    simp only[dH,t2.isAgg w,Result.andThen,hst]at h
    rw[show((p2++([v]++d2)).toArray)[off]?=some v by rw[<-l2];simp]at h
    simpa using h.symm
   rw[eu]at g1
   rw[ev]at k1
   rw[aom]
   simp only[Op.eqFields,aj hn,dH,t1,g1,k1,eZ,hr]
   cases hq:o8 a x.1 y.1 with
   |false=>simp
   |true=>
    simp only[gI,bP,bI,Bool.true_and]
    have:=ihb (p1:=p1++[u]) (p2:=p2++[v]) t4 he.2 w1 w2 (by simp[hs,l1]) (by simp[hs,l2]) w
    simpa using this
 |_=>
  intro fs off hp1 hp2 ok1 xI x y p1 p2 cs1 cs2 ht he
  cases fs<;>simp[Ay]at he
theorem aiH{L:yu}(hL:BX P L=true):vJ P L.tab:=by
 intro t c x y u v w hp1 hp2 ok1 xI ht he _ h1 h2
 have hok:=(Pn hL).ty t _ ht
 unfold BX at hL
 simp only[bf,dV]at hL
 have he:=hL.2 t (fF.1 he)
 rw[show look t L.ty=some (.st c)from ht]at he
 simp only[aaQ,bf,jN]at he
 obtain⟨⟨e1,e2⟩,e3⟩:=he
 obtain⟨⟨fs,hu,hf⟩,_⟩:=hok
 rw[hu]at e1
 refine⟨?_,λx y op=>run_eqGuard_agg w op t x y u v e3⟩
 have hfo:P.fieldsOf t=fs:=by simp[Program.fieldsOf,hu]
 show(Op.equalIn (9999+1) t (.agg u) (.agg v)).run P w=_
 rw[run_equalIn_struct w 9999 t u v (by rw[hfo];exact hu) e2,hfo]
 exact ax2 c (p1:=[]) (p2:=[]) hf e1 h1 h2 rfl rfl w
end
end
section
open Go
abbrev DOk(T:bK)(hi:Hint)(fn:Func)(E:Entry):Prop:=∀n (c:Cont (kin E.ps)),sJ T hi fn E.ps E.rs n c=E.F n c
variable [Fr]{P:Program}{n:Nat}
theorem bT:∀q∈([]:List (Nat×Option Nat×Entry)),bg P n q.2.2:=by simp
theorem aH{f:Nat}{d:Option Nat}{E:Entry}{l:List (Nat×Option Nat×Entry)}(h:bg P n E)(t:∀q∈l,bg P n q.2.2):∀q∈(f,d,E) :: l,bg P n q.2.2:=by
 intro q hq
 rcases bM.1 hq with rfl|hq
 ·exact h
 ·exact t q hq
theorem bX(hm:P.follows .mixedOrders=true){L:yu}(hL:BX P L=true){E:Entry}{fn:Func}(hf:P.funcs[E.f]?=some fn)(hname:(fn.name == "runtime.NumGoroutine")=false){hi:Hint}(hC:∀q∈hi.calls,bg P n q.2.2)
  (hD:∀n (c:Cont (kin E.ps)),sJ L.tab hi fn E.ps E.rs n c=E.F n c):bg P n E:=
 aaA hm (Pn hL) (aiH hL) hf hname hC (λc out h=>by rw[hD];exact h)
end
section
open Go
def xO{A:Type}(xs:List A)(i:Nat)(d:A)(f:A->A):List A:=xs.set i (f (xs.getD i d))
def nT{R:Type}(step:Nat->Option R)(fin:R):Nat->Nat->R
 |0,_=>fin
 |m+1,i=>match step i with
  |some r=>r
  |none=>nT step fin m (i+1)
theorem axP{V R:Type}{B:(V->Option R)->V->Option R}(S:Nat->V)(step:Nat->Option (Option R))(fin:Option R){m:Nat}(h1:∀L i,i<m->(∀j,j<i->step j=none)->B L (S i)=match step i with|some r=>r|none=>L (S (i+1)))(h2:∀L,(∀j,j<m->step j=none)->B L (S m)=fin) :
  ∀(d i n:Nat),i+d=m->d<n->(∀j,j<i->step j=none)->rounds B n (S i)=nT step fin d i:=by
 intro d
 induction d with
 |zero=>
  intro i n hi hn hp
  cases n with
  |zero=>omega
  |succ n=>
   have:i=m:=by omega
   subst this
   exact h2 _ hp
 |succ d ih=>
  intro i n hi hn hp
  cases n with
  |zero=>omega
  |succ n=>
   show B (rounds B n) (S i)=_
   rw[h1 _ i (by omega) hp]
   unfold nT
   cases hs:step i with
   |some r=>rfl
   |none=>exact ih (i+1) n (by omega) (by omega) (λj hj=>by
     by_cases e:j=i
     ·rw[e,hs]
     ·exact hp j (by omega))
theorem qp{V R:Type}{B:(V->Option R)->V->Option R}{v0:V}(S:Nat->V)(step:Nat->Option (Option R))(fin:Option R){m n:Nat}(h0:v0=S 0)(hn:m<n)(h1:∀L i,i<m->(∀j,j<i->step j=none)->B L (S i)=match step i with|some r=>r|none=>L (S (i+1)))(h2:∀L,(∀j,j<m->step j=none)->B L (S m)=fin) :
  rounds B n v0=nT step fin m 0:=by
 rw[h0]
 exact axP S step fin h1 h2 m 0 n (by omega) hn (λj h=>by omega)
theorem uB{A:Type}{l:List A}{i:Nat}(h:i<l.length)(d:A):l.getD ((i:Int).toNat) d=l[i]:=by
 simp[h]
theorem G6{R:Type}{step:Nat->Option R}{fin:R}:∀{m i:Nat},(∀j,i<=j->j<i+m->step j=none)->nT step fin m i=fin:=by
 intro m
 induction m with
 |zero=>intro i _;rfl
 |succ m ih=>
  intro i h
  unfold nT
  rw[h i (bZ _) (by omega)]
  exact ih (λj h1 h2=>h j (by omega) (by omega))
theorem wrap_i64{x:Int}(h1 : -9223372036854775808<=x)(h2:x<=9223372036854775807):IntKind.i64.wrap x=x:=by
 simp[IntKind.wrap,IntKind.bits,IntKind.signed]
 omega
theorem mR{i:Nat}{n:Nat}(h:i<n)(hn:n<=9223372036854775807):IntKind.i64.wrap ((i:Int)+1)=((i+1:Nat):Int):=by
 rw[wrap_i64 (by omega) (by omega)]
 omega
theorem fu{i n:Nat}(h:i<n):aZ (i:Int) n:=⟨by omega,by omega⟩
end
section
open Go
variable [Fr]
section
variable {P:Program}{cx:Cx}{Z:St}{J:aJ}{F:List Nat}{a:Act}{w w':World}
theorem Rel.grown(H:Rel cx Z J F a w)(hO:qH w w')(ht:w'.tape=w.tape):Rel cx Z J F a w':=H.aa_ hO.1 hO.2.1 hO.2.2.1 hO.2.2.2 ht
def Qt:(ps:List aM)->Cont (kin ps)->List Value->Prop
 | [],_,[]=>True
 |.val k _ :: ps,c,v :: vs=>(∃cs,VC k v cs/\Vw (λ_=>none) (λ_=>False) k c.1 cs)/\Qt ps c.2 vs
 |_,_,_=>False
def nU:List aM->Bool
 | []=>true
 |.val k _ :: ps=>k.flat&&nU ps
 |_=>false
def xZ:(rs:List gJ)->Cont (iI rs)->List Value->Prop
 | [],_,[]=>True
 |.val k _ _ :: rs,c,v :: vs=>k.flat=true/\(∃cs,VC k v cs/\Vw (λ_=>none) (λ_=>False) k c.1 cs)/\xZ rs c.2 vs
 |_,_,_=>False
theorem aa3:∀{ps:List aM} {i:Nat} {c:Cont (kin ps)} {vs:List Value},nU ps=true->vs.length=ps.length->(∀j v,vs[j]?=some v->iZ cx Z J F w (gN (fA ps i c) (i+j)) v)->Qt ps c vs
 | [],_,_,[],_,_,_=>trivial
 | [],_,_,_ :: _,_,h,_=>by simp at h
 |.val k l :: ps,i,c,[],_,h,_=>by simp at h
 |.val k l :: ps,i,c,v :: vs,hf,hl,h=>by
  simp only[nU,bf]at hf
  have h0:=h 0 v rfl
  have e0:gN (fA (.val k l :: ps) i c) (i+0)=.one (.val k c.1 (bif k.flat then []else(gK i,0) :: l.map λj=>(aG j,0))):=by
   simp only[fA,gN,mD]
   rw[show Nat.beq i i=true from Nat.beq_refl i]
   rfl
  rw[e0]at h0
  obtain⟨cs,h1,h2⟩:=h0 (.inl hf.1)
  refine⟨⟨cs,h1,lC hf.1 h2⟩,aa3 (i:=i+1) hf.2 (by simpa using hl) λj u hu=>?_⟩
  have hj:=h (j+1) u (by simpa using hu)
  have e1:gN (fA (.val k l :: ps) i c) (i+(j+1))=gN (fA ps (i+1) c.2) (i+1+j):=by
   simp only[fA,gN]
   have hb:Nat.beq (i+(j+1)) i=false:=by
    cases hb:Nat.beq (i+(j+1)) i with
    |true=>have:=bu hb;omega
    |false=>rfl
   rw[hb,show i+(j+1)=i+1+j by omega]
   rfl
  rw[e1]at hj
  exact hj
 |.ro _ :: _,_,_,_,hf,_,_=>by simp[nU]at hf
 |.rw _ _ _ _ :: _,_,_,_,hf,_,_=>by simp[nU]at hf
 |.dQ _ _ _ :: _,_,_,_,hf,_,_=>by simp[nU]at hf
 |.own _ _ :: _,_,_,_,hf,_,_=>by simp[nU]at hf
 |.fn _ _ :: _,_,_,_,hf,_,_=>by simp[nU]at hf
 |.into _ _ :: _,_,_,_,hf,_,_=>by simp[nU]at hf
theorem aa4{Z:St}:∀{ps:List aM} {i:Nat} {c:Cont (gM ps)},nU ps=true->nN Z ps i c
 | [],_,_,_=>trivial
 |.val k l :: ps,i,c,hf=>by
  simp only[nU,bf]at hf
  exact aa4 (ps:=ps) (i:=i+1) (c:=c) hf.2
 |.ro _ :: _,_,_,hf=>by simp[nU]at hf
 |.rw _ _ _ _ :: _,_,_,hf=>by simp[nU]at hf
 |.dQ _ _ _ :: _,_,_,hf=>by simp[nU]at hf
 |.own _ _ :: _,_,_,hf=>by simp[nU]at hf
 |.fn _ _ :: _,_,_,hf=>by simp[nU]at hf
 |.into _ _ :: _,_,_,hf=>by simp[nU]at hf
theorem Sg:∀{rs:List gJ} {c:Cont (iI rs)} {vs:List Value},xZ rs c vs->∃az,ym cx Z J F w rs c vs az/\az.flatten=[]
 | [],_,[],_=>⟨[],trivial,rfl⟩
 | [],_,_ :: _,h=>h.elim
 |.val k e p :: rs,c,[],h=>h.elim
 |.val k e p :: rs,c,v :: vs,⟨h0,⟨cs,h1,h2⟩,h3⟩=>by
  obtain⟨az,g1,g2⟩:=Sg h3
  exact⟨[] :: az,⟨⟨rfl,[],cs,.inl h0,h1,lC h0 h2⟩,g1⟩,by simpa using g2⟩
 |.own _ _ _ _ :: _,_,vs,h=>by cases vs<;>exact h.elim
 |.ptr _ _ _ _ :: _,_,vs,h=>by cases vs<;>exact h.elim
 |.into _ _ :: _,_,vs,h=>by cases vs<;>exact h.elim
theorem RI{n:Nat}{E:Entry}(hps:nU E.ps=true)(h:∀c out,E.F n c=some out->∀(args:Array Value) (w:World),(∀b,Fr.free b->hp w b=Fr.obj b)->Qt E.ps c args.toList->
  ve P E.f args w λv w'=>∃vs,v=uY vs/\xZ E.rs (Cont.fst _ _ out) vs/\qH w w'/\w'.tape=w.tape):bg P n E:=by
 intro c out hout cx J args w _ _ hsz _ H
 have hA:=aa3 (cx:=cx) (Z:=gD E.ps c) (J:=J) (F:=[]) (w:=w) (i:=0) (c:=c) (vs:=args.toList) hps (by simpa using hsz) (λj v hv=>by
  have:=H.slots j
  rw[rX]at hv
  rw[zL,hv]at this
  rw[jq]
  exact this)
 have hpost:∀v w',(∃vs,v=uY vs/\xZ E.rs (Cont.fst _ _ out) vs/\qH w w'/\w'.tape=w.tape)->Post cx E.ps E.rs out v w':=by
  rintro v w' ⟨vs,h1,h2,h3,h4⟩
  obtain⟨az,g1,g2⟩:=Sg (cx:=cx) (Z:=gD E.ps c) (J:=J) (F:=[]) (w:=w') h2
  exact⟨_,J,[],_,vs,az,H.grown h3 h4,h1,g1,by rw[g2];exact mq,λb hb=>by rw[g2]at hb;simp at hb,aa4 hps⟩
 rcases h c out hout args w (λb hb=>H.fixed hb) hA with⟨h1,h2⟩|⟨v,w',h1,h2⟩
 ·refine .inl ⟨h1,h2.mono ?_⟩
  rintro e w' ⟨v,rfl,hv⟩
  exact⟨v,rfl,hpost v w' hv⟩
 ·exact .inr ⟨v,w',h1,hpost v w' h2⟩
end
end
section
open Go
variable [Fr]
section
variable {P:Program}{cx:Cx}{Z:St}{J:aJ}{F:List Nat}{a:Act}{w w':World}
def Gb:(ps:List aM)->Cont (kin ps)->List Value->Prop
 | [],_,[]=>True
 |.val k _ :: ps,c,v :: vs=>(∃cs,VC k v cs/\Vw (λ_=>none) (λ_=>False) k c.1 cs)/\Gb ps c.2 vs
 |.fn f [] :: ps,c,v :: vs=>v=.func (.func f) #[] #[]/\Gb ps c vs
 |.into _ [] :: ps,c,v :: vs=>(∃b,v=.slice b 0 0)/\Gb ps c vs
 |_,_,_=>False
def lH:List aM->Bool
 | []=>true
 |.val k _ :: ps=>k.flat&&lH ps
 |.fn _ [] :: ps=>lH ps
 |.into _ [] :: ps=>lH ps
 |_=>false
theorem L8:∀{ps:List aM} {i:Nat} {c:Cont (kin ps)} {vs:List Value},lH ps=true->vs.length=ps.length->(∀j v,vs[j]?=some v->iZ cx Z J F w (gN (fA ps i c) (i+j)) v)->Gb ps c vs
 | [],_,_,[],_,_,_=>trivial
 | [],_,_,_ :: _,_,h,_=>by simp at h
 |.val k l :: ps,i,c,[],_,h,_=>by simp at h
 |.val k l :: ps,i,c,v :: vs,hf,hl,h=>by
  simp only[lH,bf]at hf
  have h0:=h 0 v rfl
  have e0:gN (fA (.val k l :: ps) i c) (i+0)=.one (.val k c.1 (bif k.flat then []else(gK i,0) :: l.map λj=>(aG j,0))):=by
   simp only[fA,gN,mD]
   rw[show Nat.beq i i=true from Nat.beq_refl i]
   rfl
  rw[e0]at h0
  obtain⟨cs,h1,h2⟩:=h0 (.inl hf.1)
  refine⟨⟨cs,h1,lC hf.1 h2⟩,L8 (i:=i+1) hf.2 (by simpa using hl) λj u hu=>?_⟩
  have hj:=h (j+1) u (by simpa using hu)
  have e1:gN (fA (.val k l :: ps) i c) (i+(j+1))=gN (fA ps (i+1) c.2) (i+1+j):=by
   simp only[fA,gN]
   have hb:Nat.beq (i+(j+1)) i=false:=by
    cases hb:Nat.beq (i+(j+1)) i with
    |true=>have:=bu hb;omega
    |false=>rfl
   rw[hb,show i+(j+1)=i+1+j by omega]
   rfl
  rw[e1]at hj
  exact hj
 |.fn f [] :: ps,i,c,[],_,h,_=>by simp at h
 |.fn f [] :: ps,i,c,v :: vs,hf,hl,h=>by
  have hf':lH ps=true:=hf
  have h0:=h 0 v rfl
  have e0:gN (fA (.fn f [] :: ps) i c) (i+0)=.one (.fn f []):=by
   simp only[fA,gN,mD]
   rw[show Nat.beq i i=true from Nat.beq_refl i]
   rfl
  rw[e0]at h0
  obtain⟨us,h1,h2⟩:=h0
  refine⟨?_,L8 (i:=i+1) hf' (by simpa using hl) λj u hu=>?_⟩
  ·cases us with
   |nil=>exact h1
   |cons u us=>exact h2.elim
  ·have hj:=h (j+1) u (by simpa using hu)
   have e1:gN (fA (.fn f [] :: ps) i c) (i+(j+1))=gN (fA ps (i+1) c) (i+1+j):=by
    simp only[fA,gN]
    have hb:Nat.beq (i+(j+1)) i=false:=by
     cases hb:Nat.beq (i+(j+1)) i with
     |true=>have:=bu hb;omega
     |false=>rfl
    rw[hb,show i+(j+1)=i+1+j by omega]
    rfl
   rw[e1]at hj
   exact hj
 |.fn f (_ :: _) :: _,_,_,_,hf,_,_=>by simp[lH]at hf
 |.ro _ :: _,_,_,_,hf,_,_=>by simp[lH]at hf
 |.rw _ _ _ _ :: _,_,_,_,hf,_,_=>by simp[lH]at hf
 |.dQ _ _ _ :: _,_,_,_,hf,_,_=>by simp[lH]at hf
 |.own _ _ :: _,_,_,_,hf,_,_=>by simp[lH]at hf
 |.into _ [] :: ps,i,c,[],_,h,_=>by simp at h
 |.into m [] :: ps,i,c,v :: vs,hf,hl,h=>by
  have hf':lH ps=true:=hf
  have h0:=h 0 v rfl
  have e0:gN (fA (.into m [] :: ps) i c) (i+0)=.one .eX:=by
   simp only[fA,gN,mD]
   rw[show Nat.beq i i=true from Nat.beq_refl i]
   rfl
  rw[e0]at h0
  refine⟨h0,L8 (i:=i+1) hf' (by simpa using hl) λj u hu=>?_⟩
  have hj:=h (j+1) u (by simpa using hu)
  have e1:gN (fA (.into m [] :: ps) i c) (i+(j+1))=gN (fA ps (i+1) c) (i+1+j):=by
   simp only[fA,gN]
   have hb:Nat.beq (i+(j+1)) i=false:=by
    cases hb:Nat.beq (i+(j+1)) i with
    |true=>have:=bu hb;omega
    |false=>rfl
   rw[hb,show i+(j+1)=i+1+j by omega]
   rfl
  rw[e1]at hj
  exact hj
 |.into _ (_ :: _) :: _,_,_,_,hf,_,_=>by simp[lH]at hf
theorem G7{Z:St}:∀{ps:List aM} {i:Nat} {c:Cont (gM ps)},lH ps=true->nN Z ps i c
 | [],_,_,_=>trivial
 |.val k l :: ps,i,c,hf=>by
  simp only[lH,bf]at hf
  exact G7 (ps:=ps) (i:=i+1) (c:=c) hf.2
 |.fn f [] :: ps,i,c,hf=>G7 (ps:=ps) (i:=i+1) (c:=c) hf
 |.fn f (_ :: _) :: _,_,_,hf=>by simp[lH]at hf
 |.ro _ :: _,_,_,hf=>by simp[lH]at hf
 |.rw _ _ _ _ :: _,_,_,hf=>by simp[lH]at hf
 |.dQ _ _ _ :: _,_,_,hf=>by simp[lH]at hf
 |.own _ _ :: _,_,_,hf=>by simp[lH]at hf
 |.into _ [] :: ps,i,c,hf=>G7 (ps:=ps) (i:=i+1) (c:=c) hf
 |.into _ (_ :: _) :: _,_,_,hf=>by simp[lH]at hf
def Zq(w w':World)(t:TypeId)(k:K)(xs:List (El k))(v:Value):Prop:=
 (∃p,v=.slice p 0 0/\xs=[])\/∃g cap cur,v=.slice (some ⟨g,0,none⟩) xs.length cap/\w.heap.size<=g/\hp w' g=some (.cells cur t (0,0))/\xs.length<=cap/\cap*k.size<=cur.size/\
  ∀(i:Nat) (hi:i<xs.length),∃ds,Cells (hp w') g (i*k.size) ds/\Vw (λ_=>none) (λ_=>False) k xs[i] ds
end
end
section
open Go
variable [Fr]
section
variable {P:Program}{cx:Cx}{Z:St}{J:aJ}{F:List Nat}{a:Act}{w w':World}
def QY(w:World):(ps:List aM)->Cont (kin ps)->List Value->Prop
 | [],_,[]=>True
 |.val k _ :: ps,c,v :: vs=>(∃cs,VC k v cs/\Vw (hp w) (λb=>b<w.heap.size) k c.1 cs)/\QY w ps c.2 vs
 |_,_,_=>False
def nG:List aM->Bool
 | []=>true
 |.val _ [] :: ps=>nG ps
 |_=>false
theorem aiW:∀{ps:List aM} {i:Nat} {c:Cont (kin ps)} {vs:List Value},nG ps=true->vs.length=ps.length->(∀j v,vs[j]?=some v->iZ cx Z J F w (gN (fA ps i c) (i+j)) v)->QY w ps c vs
 | [],_,_,[],_,_,_=>trivial
 | [],_,_,_ :: _,_,h,_=>by simp at h
 |.val k (_ :: _) :: ps,i,c,vs,hf,_,_=>by simp[nG]at hf
 |.val k [] :: ps,i,c,[],_,h,_=>by simp at h
 |.val k [] :: ps,i,c,v :: vs,hf,hl,h=>by
  have hf':nG ps=true:=hf
  have h0:=h 0 v rfl
  have e0:gN (fA (.val k [] :: ps) i c) (i+0)=.one (.val k c.1 (bif k.flat then []else [(gK i,0)])):=by
   simp only[fA,gN,mD]
   rw[show Nat.beq i i=true from Nat.beq_refl i]
   rfl
  rw[e0]at h0
  have hcl:cO Z k.tys (bif k.flat then []else [(gK i,0)])=true:=by
   cases k.flat with
   |true=>rfl
   |false=>
    show cO Z k.tys [(gK i,0)]=true
    rw[wW]
    intro t ht
    simp only[gY]at ht
    subst ht
    exact .inl (by simp[fV,gK])
  obtain⟨cs,h1,h2⟩:=h0 (.inr hcl)
  refine⟨⟨cs,h1,ku (λ_ _=>rfl) (λb hb=>hb.1) h2⟩,aiW (i:=i+1) hf' (by simpa using hl) λj u hu=>?_⟩
  have hj:=h (j+1) u (by simpa using hu)
  have e1:gN (fA (.val k [] :: ps) i c) (i+(j+1))=gN (fA ps (i+1) c.2) (i+1+j):=by
   simp only[fA,gN]
   have hb:Nat.beq (i+(j+1)) i=false:=by
    cases hb:Nat.beq (i+(j+1)) i with
    |true=>have:=bu hb;omega
    |false=>rfl
   rw[hb,show i+(j+1)=i+1+j by omega]
   rfl
  rw[e1]at hj
  exact hj
 |.ro _ :: _,_,_,_,hf,_,_=>by simp[nG]at hf
 |.rw _ _ _ _ :: _,_,_,_,hf,_,_=>by simp[nG]at hf
 |.dQ _ _ _ :: _,_,_,_,hf,_,_=>by simp[nG]at hf
 |.own _ _ :: _,_,_,_,hf,_,_=>by simp[nG]at hf
 |.fn _ _ :: _,_,_,_,hf,_,_=>by simp[nG]at hf
 |.into _ _ :: _,_,_,_,hf,_,_=>by simp[nG]at hf
theorem aiX{Z:St}:∀{ps:List aM} {i:Nat} {c:Cont (gM ps)},nG ps=true->nN Z ps i c
 | [],_,_,_=>trivial
 |.val k (_ :: _) :: ps,i,c,hf=>by simp[nG]at hf
 |.val k [] :: ps,i,c,hf=>aiX (ps:=ps) (i:=i+1) (c:=c) hf
 |.ro _ :: _,_,_,hf=>by simp[nG]at hf
 |.rw _ _ _ _ :: _,_,_,hf=>by simp[nG]at hf
 |.dQ _ _ _ :: _,_,_,hf=>by simp[nG]at hf
 |.own _ _ :: _,_,_,hf=>by simp[nG]at hf
 |.fn _ _ :: _,_,_,hf=>by simp[nG]at hf
 |.into _ _ :: _,_,_,hf=>by simp[nG]at hf
theorem RJ{n:Nat}{E:Entry}(hps:nG E.ps=true)(h:∀c out,E.F n c=some out->∀(args:Array Value) (w:World),(∀b,Fr.free b->hp w b=Fr.obj b)->QY w E.ps c args.toList->
  ve P E.f args w λv w'=>∃vs,v=uY vs/\xZ E.rs (Cont.fst _ _ out) vs/\qH w w'/\w'.tape=w.tape):bg P n E:=by
 intro c out hout cx J args w _ _ hsz _ H
 have hA:=aiW (cx:=cx) (Z:=gD E.ps c) (J:=J) (F:=[]) (w:=w) (i:=0) (c:=c) (vs:=args.toList) hps (by simpa using hsz) (λj v hv=>by
  have:=H.slots j
  rw[rX]at hv
  rw[zL,hv]at this
  rw[jq]
  exact this)
 have hpost:∀v w',(∃vs,v=uY vs/\xZ E.rs (Cont.fst _ _ out) vs/\qH w w'/\w'.tape=w.tape)->Post cx E.ps E.rs out v w':=by
  rintro v w' ⟨vs,h1,h2,h3,h4⟩
  obtain⟨az,g1,g2⟩:=Sg (cx:=cx) (Z:=gD E.ps c) (J:=J) (F:=[]) (w:=w') h2
  exact⟨_,J,[],_,vs,az,H.grown h3 h4,h1,g1,by rw[g2];exact mq,λb hb=>by rw[g2]at hb;simp at hb,aiX hps⟩
 rcases h c out hout args w (λb hb=>H.fixed hb) hA with⟨h1,h2⟩|⟨v,w',h1,h2⟩
 ·refine .inl ⟨h1,h2.mono ?_⟩
  rintro e w' ⟨v,rfl,hv⟩
  exact⟨v,rfl,hpost v w' hv⟩
 ·exact .inr ⟨v,w',h1,hpost v w' h2⟩
theorem Cf{E:Entry}(h:∀c,E.F 0 c=none):bg P 0 E:=λc out hout=>by rw[h c]at hout;simp at hout
theorem BR{n:Nat}(hm:P.follows .mixedOrders=true){L:yu}(hL:BX P L=true){E:Entry}{fn:Func}(hf:P.funcs[E.f]?=some fn)(hname:(fn.name == "runtime.NumGoroutine")=false){hi:Hint}(hC:∀q∈hi.calls,bg P n q.2.2)
  (hD:∀(c:Cont (kin E.ps)),sJ L.tab hi fn E.ps E.rs n c=E.F (n+1) c):bg P (n+1) E:=
 aaA hm (Pn hL) (aiH hL) hf hname hC (λc out h=>by rw[hD];exact h)
end
end
section
open Go
section
variable {e:TypeId}{kk:K}
def Rw(e:TypeId)(kk:K)(z:Bool)(tb:Nat->List (El kk)):(k k':K)->El k->El k'->List Nat->Prop
 |.sl f k,.id f',xs,i,ns=>f=e/\f'=e/\∃h:k=kk,h▸(show List (El k)from xs)=tb i/\((i≠(0:Nat)/\ns=[i])\/(z=true/\i=(0:Nat)/\tb 0=[]/\ns=[]))
 |.sl f k,.sl f' k',xs,ys,ns=>f=f'/\k'.size=k.size/\(show List (El k)from xs).length=(show List (El k')from ys).length/\∃nss:List (List Nat),nss.length=(show List (El k)from xs).length/\ns=nss.flatten/\
   ∀(i:Nat) (h1:i<(show List (El k)from xs).length) (h2:i<(show List (El k')from ys).length),Rw e kk z tb k k' ((show List (El k)from xs)[i]) ((show List (El k')from ys)[i]) (nss.getD i [])
 |.pair a b,.pair a' b',x,y,ns=>∃n1 n2,ns=n1++n2/\Rw e kk z tb a a' x.1 y.1 n1/\Rw e kk z tb b b' x.2 y.2 n2
 |.st f,.st f',x,y,ns=>Rw e kk z tb f f' x y ns
 |.int ik,.int jk,x,y,ns=>ik=jk/\(show Int from x)=y/\ns=[]
 |.bool,.bool,x,y,ns=>(show Bool from x)=y/\ns=[]
 |.str,.str,x,y,ns=>(show List Int from x)=y/\ns=[]
 |.unit,.unit,_,_,ns=>ns=[]
 |_,_,_,_,_=>False
theorem Rw.size{z:Bool}{tb:Nat->List (El kk)}:∀{k k':K} {x:El k} {y:El k'} {ns:List Nat},Rw e kk z tb k k' x y ns->k'.size=k.size:=by
 intro k
 induction k with
 |sl f k ih=>intro k' x y ns h;cases k'<;>first|rfl|exact h.elim
 |pair a b iha ihb=>
  intro k' x y ns h
  cases k' with
  |pair a' b'=>unfold Rw at h;obtain⟨n1,n2,_,h1,h2⟩:=h;simp[K.size,iha h1,ihb h2]
  |_=>exact h.elim
 |st f ih=>
  intro k' x y ns h
  cases k' with
  |st f'=>unfold Rw at h;exact ih (k':=f') (x:=x) (y:=y) (ns:=ns) h
  |_=>exact h.elim
 |int ik=>intro k' x y ns h;cases k'<;>first|rfl|exact h.elim
 |bool=>intro k' x y ns h;cases k'<;>first|rfl|exact h.elim
 |str=>intro k' x y ns h;cases k'<;>first|rfl|exact h.elim
 |unit=>intro k' x y ns h;cases k'<;>first|rfl|exact h.elim
 |gap n=>intro k' x y ns h;cases k'<;>exact h.elim
 |id f=>intro k' x y ns h;cases k'<;>exact h.elim
variable [fr:Fr]
def wB:K->Bool
 |.id _=>false
 |.sl _ k=>wB k
 |.pair a b=>wB a&&wB b
 |.st f=>wB f
 |_=>true
theorem ZE{h:Heap}{ok:Nat->Prop}(fr':Fr)(hf:fr'.free=fr.free):∀{k:K} {x:El k} {cs:List Value},wB k=true->@Vw fr h ok k x cs->@Vw fr' h ok k x cs:=by
 intro k
 induction k with
 |sl f k ih=>
  intro x cs hk H
  obtain⟨a,n,c,e1,e2,e3,H⟩:=H
  refine⟨a,n,c,e1,e2,e3,λhn=>?_⟩
  obtain⟨b,o,ea,hb,ht,H⟩:=H hn
  refine⟨b,o,ea,hb,ht.imp id (λh=>by rw[hf];exact h),λi hi=>?_⟩
  obtain⟨ds,h1,h2⟩:=H i hi
  exact⟨ds,h1,ih hk h2⟩
 |pair a b iha ihb=>
  intro x cs hk H
  simp only[wB,bf]at hk
  obtain⟨c1,c2,e,h1,h2⟩:=H
  exact⟨c1,c2,e,iha hk.1 h1,ihb hk.2 h2⟩
 |st f ih=>intro x cs hk H;exact ih (x:=x) (cs:=cs) hk H
 |id f=>intro x cs hk;simp[wB]at hk
 |int ik=>intro x cs _ H;exact H
 |bool=>intro x cs _ H;exact H
 |str=>intro x cs _ H;exact H
 |unit=>intro x cs _ H;exact H
 |gap n=>intro x cs _ H;exact H
def wZ(cx:Cx)(bad:List Nat):Cx:={ cx with
 par:=λj=>(cx.par j).map λpi=>{ pi with bl:=pi.bl.filter λb=>!ay b bad }
 ptrs:=λ_ _ _ _=>False
 refs:=λ_ _=>False }
theorem amT{cx:Cx}{bad:List Nat}{j:Nat}{WH:Lh}(h:(wZ cx bad).par j=some WH):∃pi,cx.par j=some pi/\WH={ pi with bl:=pi.bl.filter λb=>!ay b bad }:=by
 simp only[wZ,Option.map_eq_some_iff]at h
 obtain⟨pi,h1,h2⟩:=h
 exact⟨pi,h1,h2.symm⟩
theorem amS{cx:Cx}{bad:List Nat}{b:Nat}:lM (wZ cx bad) b↔lM cx b:=by
 constructor
 ·rintro⟨j,WH,o,n,h1,h2⟩
  obtain⟨pi,g1,rfl⟩:=amT h1
  exact⟨j,pi,o,n,g1,h2⟩
 ·rintro⟨j,pi,o,n,h1,h2⟩
  exact⟨j,{ pi with bl:=pi.bl.filter λb=>!ay b bad },o,n,by simp[wZ,h1],h2⟩
def Dk(T:List Tag):Prop:=∀t∈T,fV t.1=true
def alM:f_->Prop
 |.one .undef=>True
 |.one (.ptr r p n)=>r=aG 0/\p=[]/\n=0
 |.one (.val k _ T)=>wB k=true/\Dk T
 |.one (.fn _ cs)=>∀c∈cs,wB c.2.1.1=true/\Dk c.2.2/\c.1=SENT
 |_=>False
section
variable {cx:Cx}{Z:St}{J:aJ}{a:Act}{w:World}
theorem axb{R0 R1:Root}{bH bad:List Nat}(h0:∀r R,aY Z r R->r=aG 0/\R=R0)(h1:aY Z (aG 0) R0)(hk:R1.kind=R0.kind)(hsub:∀b∈bH,b∈J.fo (aG 0))(hbad:∀b∈bad,b∈J.fo (aG 0)){T:List Tag}(hT:Dk T){b:Nat}(h:aN cx Z J [] w T b) :
  aN (wZ cx bad) (aO Z (aG 0) R1) (bn J (aG 0) (J.loc (aG 0)) (J.hdr (aG 0)) bH) [] w T b:=by
 obtain⟨g1,g2,g3,g4,g5⟩:=h
 refine⟨g1,g2,λhb=>g3 (amS.1 hb),λr R hr hb=>?_,λhlt=>?_⟩
 ·rcases uM hr with⟨rfl,rfl,_⟩|⟨e,hr'⟩
  ·rw[qc]at hb
   refine g4 _ R0 h1 ?_
   rw[jd]
   unfold iV at hb ⊢
   rw[hk]at hb
   rcases dh.1 hb with h|h
   ·exact bV _ h
   ·exact bG _ (hsub b h)
  ·exact absurd (h0 r R hr').1 e
 ·rcases g5 hlt with⟨j,n,f1,f2⟩|⟨j,pi,f1,f2⟩
  ·exact .inl ⟨j,n,f1,f2⟩
  ·refine .inr ⟨j,{ pi with bl:=pi.bl.filter λb=>!ay b bad },by simp[wZ,f1],?_⟩
   refine jg.2 ⟨f2,?_⟩
   cases hm:ay b bad with
   |false=>rfl
   |true=>
    have hb:=hbad b (fF.1 hm)
    obtain⟨n,hn⟩:=g4 _ R0 h1 (by rw[jd];exact bG _ hb)
    have:=hT _ hn
    rw[Il]at this
    simp at this
theorem aal{Z:St}{tys:List TypeId}{T:List Tag}(h:Dk T):cO Z tys T=true:=wW.2 λt ht=>.inl (h t ht)
structure CE(cx:Cx)(Z:St)(J:aJ)(R0 R1:Root)(bH bad:List Nat):Prop where
 only:∀r R,aY Z r R->r=aG 0/\R=R0
 lv:aY Z (aG 0) R0
 kind:R1.kind=R0.kind
 tags:R0.tags=[]
 sub:∀b∈bH,b∈J.fo (aG 0)
 bad:∀b∈bad,b∈J.fo (aG 0)
theorem CE.aN{R0 R1:Root}{bH bad:List Nat}(L:CE cx Z J R0 R1 bH bad){T:List Tag}(hT:Dk T){b:Nat}(h:Ow.aN cx Z J [] w T b) :
  Ow.aN (wZ cx bad) (aO Z (aG 0) R1) (bn J (aG 0) (J.loc (aG 0)) (J.hdr (aG 0)) bH) [] w T b:=axb L.only L.lv L.kind L.sub L.bad hT h
theorem CE.wh{R0 R1:Root}{bH bad:List Nat}(L:CE cx Z J R0 R1 bH bad):aL (bn J (aG 0) (J.loc (aG 0)) (J.hdr (aG 0)) bH) R1 (aG 0)=aL J R0 (aG 0):=by
 rw[u6]
 unfold lQ aL
 rw[L.kind]<;>cases R0.kind<;>rfl
theorem CE.av(fr':Fr)(hf:fr'.free=fr.free){R0 R1:Root}{bH bad:List Nat}(L:CE cx Z J R0 R1 bH bad){x:f_}{v:Value}(hx:alM x)(h : @iZ fr cx Z J [] w x v) :
  @iZ fr' (wZ cx bad) (aO Z (aG 0) R1) (bn J (aG 0) (J.loc (aG 0)) (J.hdr (aG 0)) bH) [] w x v:=by
 have hv0:cZ Z R0:=⟨L.lv.2,by rw[L.tags];rfl⟩
 cases x with
 |mQ l=>exact hx.elim
 |lit _ _ _=>exact hx.elim
 |one x=>
  cases x with
  |undef=>trivial
  |ptr r p n=>
   obtain⟨rfl,rfl,rfl⟩:=hx
   refine⟨h.1,λR hR _ _ _ _=>?_⟩
   rw[fQ]at hR
   have hR:=kJ hR
   subst hR
   obtain⟨_,cs,b,o,hn,e⟩:=h.2 R0 L.lv.1 hv0 (by unfold iR clean;simp[ay]) (λt ht=>by simp[aC]at ht) rfl
   simp only[aR,ak,bS]at hn
   refine⟨trivial,J.hdr (aG 0),b,o,?_,e⟩
   simp only[aR]
   rw[L.wh,hn.2]
   simp[bn,upd_same]
  |val k x T=>
   intro _
   obtain⟨cs,h1,h2⟩:=h (.inr (aal hx.2))
   exact⟨cs,h1,@ZE fr _ _ fr' hf _ _ _ hx.1 (@ku fr _ _ _ _ (λ_ _=>rfl) (λb hb=>L.aN hx.2 hb) _ _ _ h2)⟩
  |fn f cs=>
   obtain⟨vs,e,hc⟩:=h
   refine⟨vs,e,?_⟩
   clear e
   have key:∀(cs:List (TypeId×Dat×List Tag)) (vs:List Value),(∀c∈cs,wB c.2.1.1=true/\Dk c.2.2/\c.1=SENT)->@m_ fr cx Z J [] w cs vs->@m_ fr' (wZ cx bad) (aO Z (aG 0) R1) (bn J (aG 0) (J.loc (aG 0)) (J.hdr (aG 0)) bH) [] w cs vs:=by
    intro cs
    induction cs with
    |nil=>intro vs _ h;cases vs<;>exact h
    |cons c cs ih=>
     intro vs hc h
     cases vs with
     |nil=>exact h
     |cons v vs=>
      obtain⟨⟨h1,h2⟩,h3⟩:=h
      obtain⟨g1,g2,g3⟩:=hc c (by simp)
      refine⟨⟨h1,λ_=>?_⟩,ih vs (λc hc'=>hc c (by simp[hc'])) h3⟩
      obtain⟨b,o,ds,e,q1,q2,⟨q3,q4,q5⟩,_⟩:=h2 (aal g2)
      refine⟨b,o,ds,e,q1,@ZE fr _ _ fr' hf _ _ _ g1 (@ku fr _ _ _ _ (λ_ _=>rfl) (λb hb=>L.aN g2 hb) _ _ _ q2),⟨q3,q4,λr R hr hb=>?_⟩,.inl ⟨g3,g2⟩⟩
      rcases uM hr with⟨rfl,rfl,_⟩|⟨e,hr'⟩
      ·rw[qc]at hb
       refine q5 _ R0 L.lv ?_
       rw[jd]
       unfold iV at hb ⊢
       rw[L.kind]at hb
       rcases dh.1 hb with h|h
       ·exact bV _ h
       ·exact bG _ (L.sub b h)
      ·exact absurd (L.only r R hr').1 e
   exact key cs vs hx hc
  |_=>exact hx.elim
end
end
end
section
open Go
section
variable {e:TypeId}{kk:K}[fr:Fr]
variable {cx:Cx}{Z:St}{J:aJ}{a:Act}{w:World}
end
end
section
open Go
section
variable [Fr]
end
end
section
open Go
end
section
open Go
section
variable {e:TypeId}{kk:K}[fr:Fr]
variable {cx:Cx}{Z:St}{J:aJ}{a:Act}{w:World}
end
end
end Go.Proofs.YtgppmpedglhhfaaGreatDoor.Ow
