/- A verified reading of translated code, part G of 7. No condition. -/
import Derived.Test.YtailcbngagacaabGreatOwF
import Derived.Conc.MuLone
import Derived.ChangeArms
import Derived.ChangeReads
import Derived.ChangeOld
import Derived.ChangeSame
import Derived.DataShut
set_option linter.unusedSectionVars false
set_option linter.unusedVariables false
set_option linter.unusedSimpArgs false
namespace Go.Proofs.YtailcbngagacaabGreat.Ow
section
open Go
variable [Fr]
def FR (a:Act):ResultVar->Sem Value
 | .tmp t=>pure (a.tmps.getD t undef)
 | .cell x t=>do loadVar t (<-asAddr (a.tmps.getD x undef))
section
variable {P:Program} {T:bI} {cx:Cx} {Z:St} {J:aH} {F:List Nat} {a:Act} {w:World} {A:Type} {z:A}
theorem aml (hT:fM P T) (H:Rel cx Z J F a w) {t:TypeId} {x:AV} {v:Value} {d_:Bool} {k:AV->Prog A} (h1:aW cx Z J F w x v) (h2:dQ Z x) (h:(yz T d_ t x k).ends Z z) :
  ∃y u,(do loadVar t (<-asAddr v):Sem Value).run P w=.ok u w/\aW cx Z J F w y u/\dQ Z y/\(k y).ends Z z:=by
 have I_:∀{b o:Nat} {u:Value},(Instr.loadAt t (.pointer (some ⟨b,o,none⟩))).run P w=.ok u w->v=.pointer (some ⟨b,o,none⟩)->(do loadVar t (<-asAddr v):Sem Value).run P w=.ok u w:=by
  intro b o u h e
  subst e
  exact h
 unfold yz at h
 split at h
 ·exact h.elim
 ·rename_i kk hty
  have ht:=hT.ty t kk hty
  obtain ⟨s1,s2,s3⟩:=ht.shape
  split at h
  ·rename_i r g k0 p
   obtain ⟨u,b,off,k1,e,hq,hC,ho1,hR⟩:=h1
   obtain ⟨R,hr,hv,h⟩:=iR h
   rcases bD h with ⟨hc,h⟩ | ⟨_,h⟩
   ·simp only [bg] at hc
    cases hg:aB p R.k R.x with
    | none=>rw [hg] at h; exact h.elim
    | some dd=>
     rw [hg] at h
     simp only at h
     obtain ⟨dk,dx⟩:=dd
     rcases beq_true h with ⟨ek,h5⟩ | ⟨_,h⟩
     ·simp only at ek
      subst ek
      have hk0:=K.eq_of_beq hc.1.2
      subst hk0
      obtain ⟨hka,kE⟩:=hR R hr (bB hc.1.1)
      rw [kE.cells] at hC
      have hwn:aM J R r=none:=by unfold aM; rw [hka]
      obtain ⟨g1,g2,g3,g4,g5⟩:=YP (h:=hp w) p hg ho1 (H.roots r R hr).len
      simp only at g1
      subst g1
      have hown:∀t∈az p R.k,aa t R.own=true:=fun t ht=>by rw [g5] at ht; simp at ht
      have hn:aT (hp w) p R.k (J.hdr r) (aM J R r)=some (((J.hdr r).drop off).take k1.size,none):=by rw [hwn]; exact g3
      obtain ⟨aX,hO,hf⟩:=wo H hr hv hg g4 hown hn
      have hV:=vZ H hr hO hf
      have hcs:Cells (hp w) b off (((J.hdr r).drop off).take k1.size):=by
       intro i hi
       have hi':i<k1.size:=by rw [Oc g2] at hi; exact hi
       have:=hC (off+i) (by omega)
       rw [og] at this
       rw [this,Mc hi',Bq]
      obtain ⟨u',hu⟩:=VC.mk s1 s2 s3 hV
      have hrun:=FX (P:=P) ht hcs (nP hV) hu
      rcases bD h5 with ⟨hf,h6⟩ | ⟨_,h6⟩
      ·exact ⟨.val k1 dx [],u',I_ hrun e,fun _=>⟨_,hu,nk hf hV⟩,(fun t ht=>by simp at ht),h6⟩
      ·exact ⟨.d_ r p R.dN,u',I_ hrun e,Ij (cx:=cx) (F:=F) hr hg g4 hown hn hu,⟨R,hr.1, .inr (bP _)⟩,h6⟩
     ·exact h.elim
   ·exact h.elim
  rcases MB H h1 h2 h with ⟨r,R,p,dd,cs,b,q,hr,hv,hg,dh,hown,hn,e,h⟩ | ⟨bt,dd,Tg,b,q,cs,hw,e,hcs,hV,hok,hb,h⟩
  ·obtain ⟨hC,⟨aX,hO,hf⟩,_⟩:=xw H hr hv hg dh hown hn
   obtain ⟨dk,dx⟩:=dd
   rcases beq_true h with ⟨ek,h5⟩ | ⟨_,h⟩
   ·simp only at ek
    subst ek
    clear h
    have h:=h5
    clear h5
    have hV:=vZ H hr hO hf
    obtain ⟨u,hu⟩:=VC.mk s1 s2 s3 hV
    have hrun:=FX (P:=P) ht hC (nP hV) hu
    rcases bD h with ⟨_,h⟩ | ⟨_,h⟩
    ·exact ⟨.d_ r p R.dN,u,I_ hrun e,Ij (cx:=cx) (F:=F) hr hg dh hown hn hu,⟨R,hr.1, .inr (bP _)⟩,h⟩
    ·exact ⟨_,u,I_ hrun e,(show aW cx Z J F w (.val dk dx _) u from fun _=>⟨cs,hu,hV⟩),FL H hr _,h⟩
   ·exact h.elim
  ·obtain ⟨dk,dx⟩:=dd
   rcases beq_true h with ⟨ek,h5⟩ | ⟨_,h⟩
   ·simp only at ek
    subst ek
    clear h
    have h:=h5
    clear h5
    obtain ⟨u,hu⟩:=VC.mk s1 s2 s3 hV
    have hrun:=FX (P:=P) ht hcs (nP hV) hu
    refine ⟨_,u,I_ hrun e,(show aW cx Z J F w (.val dk dx _) u from fun _=>⟨cs,hu, ?_⟩), ?_,h⟩
    ·cases hf:dk.flat with
     | true=>exact nk hf hV
     | false=>exact hV
    ·cases hf:dk.flat with
     | true=>intro t ht; simp at ht
     | false=>exact hw
   ·exact h.elim
theorem NY (hT:fM P T) (H:Rel cx Z J F a w) {own:Bool} {rv:ResultVar} {k:AV->Prog A} (h:(CV T own rv k).ends Z z):∃y u,(FR a rv).run P w=.ok u w/\aW cx Z J F w y u/\dQ Z y/\(k y).ends Z z:=by
 cases rv with
 | tmp t=>
  obtain ⟨v,h1,h2,h3⟩:=jS H h
  exact ⟨v,_,rfl,h1,h2,h3⟩
 | cell t ty=>
  obtain ⟨v,h1,h2,h3⟩:=jS H h
  exact aml hT H h1 h2 h3
def Bj (P:Program) (cx:Cx) (Z:St) (J:aH) (F:List Nat) (a:Act) (w:World):(rs:List gK)->List ResultVar->Cont (eP rs)->List Value->List (Value×eX)->List (List Tag)->Prop
 | [],[],_,[],[],[]=>True
 | .val k exts bF :: rs,rv :: gP,c,v :: vs,its,tg :: kg=>((FR a rv).run P w=.ok v w/\(k.flat=true\/rE exts bF tg=true)/\xV cx Z J F a w k c.1 tg v)/\Bj P cx Z J F a w rs gP c.2 vs its kg
 | .own k ow exts bF :: rs,rv :: gP,c,v :: vs,it :: its,kg=>((FR a rv).run P w=.ok v w/\it.1=v/\rU cx Z J F w v it.2/\(∃e:it.2.k=k,c.1=e▸it.2.x)/\iL (k.tys.filter fun t=>aa t ow) it.2.own=true/\
   ((k.tys.all fun t=>aa t ow)=true\/rE exts bF it.2.tags=true))/\Bj P cx Z J F a w rs gP c.2 vs its kg
 | _,_,_,_,_,_=>False
theorem ajf (hT:fM P T) (H:Rel cx Z J F a w):∀{rs:List gK} {gP:List ResultVar} {k:Cont (eP rs)->List eX->List (List Tag)->Prog A},(zS T rs gP k).ends Z z->
  ∃c vs its kg,Bj P cx Z J F a w rs gP c vs its kg/\(k c (its.map (·.2)) kg).ends Z z:=by
 intro rs
 induction rs with
 | nil=>
  intro gP k h
  cases gP with
  | nil=>exact ⟨(),[],[],[],trivial,h⟩
  | cons _ _=>exact h.elim
 | cons r rs ih=>
  intro gP k h
  cases gP with
  | nil=>cases r <;> exact h.elim
  | cons rv gP=>
   cases r with
   | into _ _=>exact h.elim
   | ptr _ _ _ _=>exact h.elim
   | val kk exts bF=>
    simp only [zS] at h
    obtain ⟨y,u,g1,g2,g3,h⟩:=NY hT H h
    have hgo:∀(x:El kk) (tags:List Tag),xV cx Z J F a w kk x tags u->(bif kk.flat || rE exts bF tags then zS T rs gP fun c ts tg=>k (x,c) ts (tags :: tg) else .fail).ends Z z->
      ∃c vs its kg,Bj P cx Z J F a w (.val kk exts bF :: rs) (rv :: gP) c vs its kg/\(k c (its.map (·.2)) kg).ends Z z:=by
     intro x tags hv h
     rcases bD h with ⟨hb,h⟩ | ⟨_,h⟩
     ·obtain ⟨c,vs,its,kg,f1,f2⟩:=ih h
      exact ⟨(x,c),u :: vs,its,tags :: kg,⟨⟨g1,by simpa using hb,hv⟩,f1⟩,f2⟩
     ·exact h.elim
    have hval:(qp y fun k' x tags=>match bV k' kk x with
      | some y=>(bif kk.flat || rE exts bF (bif kk.flat then [] else tags) then zS T rs gP fun c ts tg=>k (y,c) ts ((bif kk.flat then [] else tags) :: tg) else .fail)
      | none=>.fail).ends Z z->∃c vs its kg,Bj P cx Z J F a w (.val kk exts bF :: rs) (rv :: gP) c vs its kg/\(k c (its.map (·.2)) kg).ends Z z:=by
     intro h
     obtain ⟨k',x,Tg,f1,f5⟩:=XT H g2 g3 h
     cases hc:bV k' kk x with
     | none=>rw [hc] at f5; exact f5.elim
     | some y'=>
      rw [hc] at f5
      obtain ⟨ek,ey⟩:=ji hc
      subst ek
      simp only at ey
      subst ey
      cases hf:k'.flat with
      | true=>
       rw [hf] at f5
       exact hgo _ _ (f1.flat hf H) (by rw [hf]; exact f5)
      | false=>
       rw [hf] at f5
       exact hgo _ _ f1 (by rw [hf]; exact f5)
    cases y with
    | fI=>
     cases kk with
     | sl e kk=>
      obtain ⟨b,rfl⟩:=g2
      exact hgo [] [] ⟨[.slice b 0 0],J4,fun _ _ _ _=>⟨b,0,0,rfl,rfl,bP _,fun h=>by omega⟩⟩ h
     | _=>exact h.elim
    | undef=>exact hval h
    | val _ _ _=>exact hval h
    | ref _ _=>exact hval h
    | d_ _ _ _=>exact hval h
    | ptr _ _ _=>exact hval h
    | fU _ _ _ _=>exact hval h
    | l_ _ _ _ _=>exact hval h
    | pz _=>exact hval h
    | part _ _ _ _ _=>exact hval h
    | nJ _ _ _ _=>exact hval h
    | sub _ _ _ _ _ _=>exact hval h
    | sel _ _ _ _ _ _=>exact hval h
    | app _ _ _ _=>exact hval h
    | kF=>exact hval h
    | fn _ _=>exact hval h
   | own kk ow exts bF=>
    simp only [zS] at h
    obtain ⟨y,u,g1,g2,g3,h⟩:=NY hT H h
    obtain ⟨tk,htk,h⟩:=Ap H g2 g3 h
    cases hc:bV tk.k kk tk.x with
    | none=>rw [hc] at h; exact h.elim
    | some y'=>
     rw [hc] at h
     rcases bD h with ⟨hb,h⟩ | ⟨_,h⟩
     ·simp only [bg,nZ] at hb
      obtain ⟨c,vs,its,kg,f1,f2⟩:=ih h
      exact ⟨(y',c),u :: vs,(u,tk) :: its,kg,⟨⟨g1,rfl,htk,ji hc,hb.1,hb.2⟩,f1⟩,f2⟩
     ·exact h.elim
theorem ajg {Z1:St} {aI:aH} {F1:List Nat} (H1:Rel cx Z1 aI F1 a w) (hV:Views cx Z J F w Z1 aI F1 w):∀{rs:List gK} {gP:List ResultVar} {c:Cont (eP rs)} {vs:List Value} {its:List (Value×eX)} {kg:List (List Tag)} {hs:List (List Value×List Nat)},
  Bj P cx Z J F a w rs gP c vs its kg->u_ cx Z1 aI F1 w its hs->(∀t∈kg.flatten,Same Z J Z1 aI t.1)->
  ∃ay,vv cx Z1 aI F1 w rs c vs ay/\ay.flatten=hs.flatMap (·.2)/\(∀b∈ay.flatten,b∈F1)/\(gP.mapM (FR a)).run P w=.ok vs w:=by
 intro rs
 induction rs with
 | nil=>
  intro gP c vs its kg hs h hh _
  cases gP <;> cases vs <;> cases its <;> cases kg <;> first | exact h.elim | skip
  cases hs with
  | nil=>exact ⟨[],trivial,rfl,by simp,by simp⟩
  | cons _ _=>exact hh.elim
 | cons r rs ih=>
  intro gP c vs its kg hs h hh hS
  cases r with
  | into _ _=>cases gP <;> cases vs <;> exact h.elim
  | ptr _ _ _ _=>cases gP <;> cases vs <;> exact h.elim
  | val kk exts bF=>
   cases gP <;> cases vs <;> cases kg <;> first | exact h.elim | skip
   rename_i rv gP v vs tg kg
   obtain ⟨⟨h1,h2,cs,h3,h4⟩,h5⟩:=h
   obtain ⟨ay,f1,f2,f3,f4⟩:=ih h5 hh (fun t ht=>hS t (by simp only [lX,bW]; exact .inr ht))
   refine ⟨[] :: ay,⟨⟨rfl,tg,cs,h2,h3,h4 Z1 aI F1 ⟨H1,hV,fun t ht=>hS t (by simp only [lX,bW]; exact .inl ht)⟩⟩,f1⟩,by simpa using f2,by simpa using f3, ?_⟩
   simp [Me,h1,f4,Result.andThen]
  | own kk ow exts bF=>
   cases gP <;> cases vs <;> cases its <;> first | exact h.elim | skip
   rename_i rv gP v vs it its
   obtain ⟨⟨h1,h2,h3,⟨e,ex⟩,h4,h5⟩,h6⟩:=h
   cases hs with
   | nil=>exact hh.elim
   | cons q hs=>
    obtain ⟨⟨q1,q2,q3⟩,hh⟩:=hh
    obtain ⟨ay,f1,f2,f3,f4⟩:=ih h6 hh hS
    refine ⟨q.2 :: ay,⟨⟨it.2.tags,q.1,it.2.own,h5, ?_, ?_, ?_⟩,f1⟩,by simp [f2], ?_, ?_⟩
    ·intro t ht hm
     exact b_.2 (rD.1 h4 t (eG.2 ⟨ht,hm⟩))
    ·rw [<-h2]; subst e; exact q1
    ·subst e
     rw [ex]
     exact q2.ow q3
    ·intro b hb
     rw [lX] at hb
     rcases bW.1 hb with h | h
     ·exact q2.sub b h
     ·exact f3 b h
    ·simp [Me,h1,f4,Result.andThen]
end
end
section
open Go
variable [Fr]
section
variable {P:Program} {T:bI} {hi:Hint} {n:Nat} {cx:Cx} {Z:St} {J:aH} {F:List Nat} {a:Act} {w:World}
theorem YH {i:Nat} {R:Root} (h:MW Z i=some R):Z.roots (ah i)=some R/\cB Z R:=by
 unfold MW at h
 split at h
 ·rename_i Q hQ
  cases hb:Q.bZ || !cO Z Q.qH Q.tags with
  | true=>rw [hb] at h; simp at h
  | false=>
   rw [hb] at h
   simp only [j6,au] at h
   subst h
   simp only [AJ,Bool.not_eq_false'] at hb
   exact ⟨hQ,hb⟩
 ·simp at h
theorem Rn:∀{ps:List aV} {i:Nat} {d:Cont (gy ps)},nS Z ps i=some d->rQ Z ps i d:=by
 intro ps
 induction ps with
 | nil=>intro i d _; trivial
 | cons p ps ih=>
  intro i d h
  cases p with
  | val k bF=>exact ih (show nS Z ps (i+1)=some d from h)
  | ro k=>exact ih (show nS Z ps (i+1)=some d from h)
  | own k ow=>exact ih (show nS Z ps (i+1)=some d from h)
  | fn f ks=>exact ih (show nS Z ps (i+1)=some d from h)
  | into j q=>exact ih (show nS Z ps (i+1)=some d from h)
  | rw k ow wt ht=>
   simp only [nS] at h
   split at h
   ·rename_i R d' hR hd
    obtain ⟨hb,h⟩:=zF h
    simp only [bg,nZ] at hb
    obtain ⟨⟨b1,b2⟩,b3⟩:=hb
    obtain ⟨r1,r2⟩:=YH hR
    split at h
    ·rename_i x hx
     have h2:(x,d')=d:=jZ h
     subst h2
     exact ⟨⟨R,r1,r2,ji hx,b1,b2,b3⟩,ih hd⟩
    ·simp at h
   ·simp at h
  | bR k ow wt=>
   simp only [nS] at h
   split at h
   ·rename_i R d' hR hd
    obtain ⟨hb,h⟩:=zF h
    simp only [bg,nZ] at hb
    obtain ⟨⟨b1,b2⟩,b3⟩:=hb
    obtain ⟨r1,r2⟩:=YH hR
    split at h
    ·rename_i x hx
     have h2:(x,d')=d:=jZ h
     subst h2
     exact ⟨⟨R,r1,r2,ji hx,b1,b2,b3⟩,ih hd⟩
    ·simp at h
   ·simp at h
theorem Uv {fn:Func} {vs:List Value} (h:(fn.results.toList.mapM (FR a)).run P w=.ok vs w):(results fn a.tmps).run P w=.ok (Kb vs) w:=by
 have h2:results fn a.tmps=(do
   let vs <-fn.results.mapM (FR a)
   pure (if h:vs.size=1 then vs[0] else .tuple vs)):=by
  unfold results
  congr 1
 rw [h2,Array.mapM_eq_mapM_toList]
 simp only [dP,map_eq_pure_bind,h,fZ,fB]
 match vs with
 | []=>rfl
 | [v]=>rfl
 | v :: u :: vs=>simp [Kb]
theorem ajh (hT:fM P T) (H:Rel cx Z J F a w) {ps:List aV} {rs:List gK} {fn:Func} {out:Cont (eP rs++gy ps)} (h:fin T ps rs fn.results.toList Z=some out) :
  ∃v,(results fn a.tmps).run P w=.ok v w/\Post cx ps rs out v w:=by
 unfold fin at h
 obtain ⟨q,h1,h2⟩:=CW _ h
 obtain ⟨c,vs,its,kg,f1,f2⟩:=ajf (P:=P) hT H h1
 rcases bD f2 with ⟨hb,f2⟩ | ⟨_,f2⟩
 ·have f2:q=_:=f2
  subst f2
  have e1:(its.map (·.2)).flatMap (·.ws)=fA its:=by simp [fA,List.flatMap_map]
  have e2:(its.map (·.2)).flatMap (·.tags)=nX its:=by simp [nX,List.flatMap_map]
  rw [e1,e2] at hb
  simp only [e1] at h2
  unfold sM zC at hb
  simp only [bg,Ih,eO,lC,gV] at hb
  obtain ⟨b1,b2⟩:=hb
  have su:∀{rs:List gK} {gP:List ResultVar} {c:Cont (eP rs)} {vs:List Value} {its:List (Value×eX)} {kg:List (List Tag)},Bj P cx Z J F a w rs gP c vs its kg->∀it∈its,rU cx Z J F w it.1 it.2:=by
   intro rs
   induction rs with
   | nil=>intro gP c vs its kg h it hi; cases gP <;> cases vs <;> cases its <;> first | exact h.elim | simp at hi
   | cons r rs ih=>
    intro gP c vs its kg h it hi
    cases r with
    | into _ _=>cases gP <;> cases vs <;> exact h.elim
    | ptr _ _ _ _=>cases gP <;> cases vs <;> exact h.elim
    | val kk exts bF=>
     cases gP <;> cases vs <;> cases kg <;> first | exact h.elim | exact ih h.2 it hi
    | own kk ow exts bF=>
     cases gP <;> cases vs <;> cases its <;> first | exact h.elim | skip
     rcases bT.1 hi with h3 | h3
     ·subst h3; rw [h.1.2.1]; exact h.1.2.2.1
     ·exact ih h.2 it h3
  obtain ⟨aI,F1,hs,H1,g1,g2,g3,g4,g5,g6,g7,g8,g9⟩:=takes its H (su f1) b1 (fun t ht=>b2 t (bN _ ht))
  obtain ⟨ay,k1,k2,k3,k4⟩:=ajg H1 g7 f1 g1 (fun t ht=>g5 t.1 (b2 t (bC _ ht)))
  split at h2
  ·rename_i d hd
   simp only [au] at h2
   subst h2
   refine ⟨Kb vs,Uv k4,_,aI,F1,a,vs,ay,H1,rfl,by rw [IB]; exact k1,by rw [k2]; exact g2,k3,by rw [J5]; exact Rn hd⟩
  ·simp at h2
 ·exact f2.elim
theorem am_ {A:Type} {z:A} {t:TypeId} {kk:K} {ow:List TypeId} {exts:List Nat} {x:AV} {v:Value} {k:El kk->Nat->Prog A} (hx:aW cx Z J F w x v) (h:(NT t kk ow exts x k).ends Z z) :
  ∃r R y b o,aU Z r R/\cB Z R/\R.kind=.var t/\iL (kk.tys.filter fun t=>aa t ow) R.own=true/\((kk.tys.all fun t=>aa t ow)=true\/rE exts [] R.tags=true)/\(∃e:R.k=kk,y=e▸R.x)/\aM J R r=some (b,o)/\v=.pointer (some ⟨b,o,none⟩)/\(k y r).ends Z z:=by
 cases x with
 | ptr r p n=>
  cases p with
  | cons s p=>exact h.elim
  | nil=>
   unfold NT at h
   obtain ⟨R,hr,hv,h⟩:=iR h
   rcases bD h with ⟨hb,h⟩ | ⟨_,h⟩
   ·simp only [bg,nZ] at hb
    obtain ⟨⟨b1,b2⟩,b3⟩:=hb
    have hk:R.kind=.var t:=by
     unfold Root.aag at b1
     split at b1
     ·rename_i u hu; rw [hu,bB b1]
     ·simp at b1
    cases hc:bV R.k kk R.x with
    | none=>rw [hc] at h; exact h.elim
    | some y=>
     rw [hc] at h
     obtain ⟨_,cs,b,o,hn,e⟩:=hx.2 R hr.1 hv (by unfold iW clean; simp [aa]) (fun t ht=>by simp [az] at ht) rfl
     simp only [aT,au,bS] at hn
     exact ⟨r,R,y,b,o,hr,hv,hk,b2,b3,ji hc,hn.2,e,h⟩
   ·exact h.elim
 | _=>exact h.elim
theorem ah1 (H:Rel cx Z J F a w) {j:Nat} {x:AV} {v:Value} {m:Int} (hx:aW cx Z J F w x v) (h:(cutV j x fun m=>(.ret m:Prog Int)).ends Z m) :
  ∃b n cp,v=.slice b m.toNat cp/\m.toNat<=n/\aW cx Z J F w (.ref (ah j) 0) (.slice b n cp):=by
 cases x with
 | ref r g=>
  simp only [cutV] at h
  rcases bD h with ⟨hc,h5⟩ | ⟨_,h5⟩
  ·clear h
   simp only [bg] at hc
   have e1:=bB hc.1
   have e2:=bB hc.2
   subst e1 e2
   obtain ⟨R,hr,hv,h⟩:=iR h5
   rcases bD h with ⟨hg,h⟩ | ⟨_,h⟩
   ·obtain ⟨h1,h2⟩:=hx R hr (bB hg)
    have hO:=(H.roots _ R hr).ow hv
    have hK:∀q:Dat,(⟨R.k,R.x⟩:Dat)=q->(match q.1,q.2 with
      | .sl _ kk,xs=>(.ret ((show List (El kk) from xs).length:Int):Prog Int)
      | _,_=>.fail).ends Z m->∃b n cp,v=.slice b m.toNat cp/\m.toNat<=n/\aW cx Z J F w (.ref (ah j) 0) (.slice b n cp):=by
     intro q hq hh
     obtain ⟨qk,qx⟩:=q
     cases qk with
     | sl e kk=>
      have hm:m=((show List (El kk) from qx).length:Int):=hh
      have hV:=qo (fun _=>True) (fun _ _=>trivial) (fun _ _=>trivial) hO
      have hV:=cast (congrArg (fun q:Dat=>Vw (hp w) (fun _=>True) q.1 q.2 (J.hdr (ah j))) hq) hV
      have jT:=cast (congrArg (fun q:Dat=>VC q.1 v (J.hdr (ah j))) hq) h2
      obtain ⟨b,n,c,g1,g2,g3,_⟩:=hV
      have jT:VC (.sl e kk) v (J.hdr (ah j)):=jT
      have g1:J.hdr (ah j)=[.slice b n c]:=g1
      have h3:=jT.1
      rw [g1] at h3
      simp only [jv,eY] at h3
      have g2:n=(show List (El kk) from qx).length:=g2
      refine ⟨b,n,c,by rw [hm, <-g2]; simpa using h3.symm,by rw [hm, <-g2]; simp,by rw [h3]; exact hx⟩
     | _=>exact hh.elim
    exact hK _ rfl h
   ·exact h.elim
  ·exact h5.elim
 | part r g lo hi sz=>
  simp only [cutV] at h
  rcases bD h with ⟨hc,h5⟩ | ⟨_,h5⟩
  ·clear h
   simp only [bg] at hc
   have e1:=bB hc.1.1
   have e2:=bB hc.1.2
   have e3:=bB hc.2
   subst e1 e2 e3
   have hm:m=(hi:Int):=h5
   obtain ⟨b',b,n,c,g1,g2,g3,g4,g5,g6⟩:=hx
   have hb:b'=b:=by rw [g2 (.inl rfl)]; simp [add_zero]
   subst hb
   exact ⟨b',n,c,by rw [g1,hm]; simp,by rw [hm]; simpa using g4,g6⟩
  ·exact h5.elim
 | _=>exact h.elim
theorem aje (hT:fM P T) (H:Rel cx Z J F a w) {ps:List aV} {rs:List gK} {fn:Func} {out:Cont (eP rs++gy ps)} (h:MV T ps rs fn.results.toList Z=some out) :
  ∃v,(results fn a.tmps).run P w=.ok v w/\Post cx ps rs out v w:=by
 obtain ⟨gP,z_⟩:∃gP,fn.results.toList=gP:=⟨_,rfl⟩
 rw [z_] at h
 have other:fin T ps rs gP Z=some out->∃v,(results fn a.tmps).run P w=.ok v w/\Post cx ps rs out v w:=fun h=>ajh hT H (by rw [z_]; exact h)
 cases rs with
 | nil=>exact other h
 | cons q rs=>
  cases q with
  | val _ _ _=>exact other h
  | own _ _ _ _=>exact other h
  | into j q=>
   cases rs with
   | cons _ _=>cases q <;> exact other h
   | nil=>
    cases q with
    | cons _ _=>exact other h
    | nil=>
     match gP,z_,h,other with
     | [],_,h,other=>exact other h
     | _ :: _ :: _,_,h,other=>exact other h
     | [rv],z_,h,_=>
      have h:((CV T false rv fun a=>cutV j a fun m=>.ret m:Prog Int).run Z fun m=>
        match nS Z ps 0 with
        | some d=>some (m,d)
        | none=>none)=some out:=h
      obtain ⟨m,h1,h2⟩:=CW _ h
      obtain ⟨y,u,g1,g2,_,h1⟩:=NY hT H h1
      obtain ⟨b,n,cp,e1,e2,e3⟩:=ah1 H g2 h1
      split at h2
      ·rename_i d hd
       have h2:some ((m,d):Cont (eP [gK.into j []]++gy ps))=some out:=h2
       have h2:=jZ h2
       subst h2
       exact ⟨_,Uv (vs:=[_]) (by rw [z_]; simp [Me,g1,Result.andThen]),_,_,_,a,[_],[[]],H,rfl,⟨⟨rfl,rfl,b,n,cp,e1,e2,e3⟩,trivial⟩,by simp,by simp,Rn hd⟩
      ·simp at h2
  | ptr t kk ow exts=>
   cases rs with
   | cons _ _=>exact other h
   | nil=>
    match gP,z_,h,other with
    | [],_,h,other=>exact other h
    | _ :: _ :: _,_,h,other=>exact other h
    | [rv],z_,h,_=>
     have h:((CV T false rv fun a=>NT t kk ow exts a fun y r=>.ret (y,r):Prog (El kk×Nat)).run Z fun q=>
       match nS (aD [.r q.2 none] Z) ps 0 with
       | some d=>some (q.1,d)
       | none=>none)=some out:=h
     obtain ⟨q,h1,h2⟩:=CW _ h
     obtain ⟨y,u,g1,g2,_,h1⟩:=NY hT H h1
     obtain ⟨r,R,x,b,o,hr,hv,hk,b2,b3,ex,iI,rfl,h1⟩:=am_ g2 h1
     have h1:q=(x,r):=h1
     subst h1
     obtain ⟨k1,k2,k3,k4⟩:=al0 H hr (by rw [hk]; simp) hv
     have hblk:blk J R r=b :: J.fo r:=by unfold blk; rw [iI]; rfl
     have K:=H.roots r R hr
     have hnd:=K.nd
     rw [hblk] at hnd
     split at h2
     ·rename_i d hd
      have h2:some ((x,d):Cont (eP [gK.ptr t kk ow exts]++gy ps))=some out:=h2
      have h2:=jZ h2
      subst h2
      refine ⟨_,Uv (vs:=[_]) (by rw [z_]; simp [Me,g1,Result.andThen]),_,_,_,a,[_],[b :: J.fo r],k1,rfl,⟨⟨b,o,R.tags,J.hdr r,R.own,J.fo r,rfl,rfl,b3, ?_, ?_, ?_⟩,trivial⟩,by simpa using hnd, ?_,Rn hd⟩
      ·intro u hu hm
       exact b_.2 (rD.1 b2 u (eG.2 ⟨hu,hm⟩))
      ·obtain ⟨m1,arr,e,lo,hi,m2,m3,m4,m5⟩:=K.mem b o iI
       obtain ⟨ek,_⟩:=ex
       exact ⟨m1,arr,e,lo,hi,m2,m3,by rw [<-ek]; exact m4,m5 t hk⟩
      ·obtain ⟨ek,ey⟩:=ex
       subst ek
       simp only at ey
       subst ey
       exact k3.ow k4
      ·intro c hc
       simp only [lX,Bp,gT] at hc
       exact bN _ (by rw [hblk]; exact hc)
     ·simp at h2
def Cx.vX (cx:Cx) (m:Nat):Cx:={ cx with nt:=m }
theorem QV {m:Nat}:∀{cs:List (TypeId×Dat×List Tag)} {vs:List Value},nC (cx.vX m) Z J F w cs vs↔nC cx Z J F w cs vs
 | [],[]=>Iff.rfl
 | c :: cs,v :: vs=>and_congr Iff.rfl QV
 | [],_ :: _=>Iff.rfl
 | _ :: _,[]=>Iff.rfl
theorem U8 {m:Nat} {x:AV} {v:Value}:aW (cx.vX m) Z J F w x v↔aW cx Z J F w x v:=by
 cases x with
 | fn f cs=>
  constructor
  ·rintro ⟨vs,h1,h2⟩; exact ⟨vs,h1,QV.1 h2⟩
  ·rintro ⟨vs,h1,h2⟩; exact ⟨vs,h1,QV.2 h2⟩
 | _=>exact Iff.rfl
theorem Jq {m:Nat}:∀{l:List AV} {vs:List Value},iP (cx.vX m) Z J F w l vs↔iP cx Z J F w l vs
 | [],[]=>Iff.rfl
 | c :: cs,v :: vs=>and_congr U8 Jq
 | [],_ :: _=>Iff.rfl
 | _ :: _,[]=>Iff.rfl
theorem acV {m:Nat} {x:gQ} {v:Value}:jr (cx.vX m) Z J F w x v↔jr cx Z J F w x v:=by
 cases x with
 | one x=>exact U8
 | mK l=>
  constructor
  ·rintro ⟨vs,h1,h2⟩; exact ⟨vs,h1,Jq.1 h2⟩
  ·rintro ⟨vs,h1,h2⟩; exact ⟨vs,h1,Jq.2 h2⟩
 | lit _ _ l=>
  constructor
  ·rintro ⟨vs,cs,h1,h2⟩; exact ⟨vs,cs,h1,Jq.1 h2⟩
  ·rintro ⟨vs,cs,h1,h2⟩; exact ⟨vs,cs,h1,Jq.2 h2⟩
theorem Rel.vX {a':Act} (H:Rel cx Z J F a w) {m:Nat} (hd:a'.defers=[]) (hm:m<=a'.tmps.size) (hs:∀s,a'.tmps.getD s undef=a.tmps.getD s undef):Rel (cx.vX m) Z J F a' w where
 defs:=hd
 sz:=hm
 kP:=H.kP
 sI:=H.sI
 slots:=fun s=>by rw [hs s]; exact acV.2 (H.slots s)
 sN:=H.sN
 roots:=fun r R hr=>by
  obtain ⟨o1,o2,o3,o4,o5⟩:=H.roots r R hr
  exact ⟨o1,o2,o3,o4,o5⟩
 gz:=H.gz
 lT:=H.lT
 fl:=H.fl
 iw:=H.iw
 fC:=H.fC
 frame:=H.frame
 qb:=H.qb
 mI:=H.mI
 q9:=H.q9
 rq:=H.rq
theorem alM:∀{ps:List aV} {i:Nat} {c:Cont (kin ps)} {r:Nat} {R:Root},iK (iJ ps i c) r=some R->∃j p cj,r=ah (i+j)/\ps[j]?=some p/\lM p (i+j) cj=some R:=by
 intro ps
 induction ps with
 | nil=>intro i c r R h; simp [iJ,iK] at h
 | cons p ps ih=>
  intro i c r R h
  rw [Jg,Jt] at h
  have hrec:iK (iJ ps (i+1) (Aq p ps c)) r=some R->∃j q cj,r=ah (i+j)/\(p :: ps)[j]?=some q/\lM q (i+j) cj=some R:=by
   intro h
   obtain ⟨j,q,cj,h1,h2,h3⟩:=ih h
   have e:i+1+j=i+(j+1):=by omega
   exact ⟨j+1,q,cj,by rw [h1,e],by simpa using h2,by rw [<-e]; exact h3⟩
  cases hr:lM p i (vR p ps c) with
  | none=>rw [hr] at h; exact hrec h
  | some Q=>
   rw [hr] at h
   simp only [iK] at h
   cases hb:Nat.beq r (ah i) with
   | true=>
    rw [hb] at h
    have h':Q=R:=by simpa using h
    exact ⟨0,p,vR p ps c,bB hb,rfl,by rw [<-h']; exact hr⟩
   | false=>rw [hb] at h; exact hrec h
theorem ajk:∀{ps:List aV} {i j:Nat} {k:K},wN ps j k->∃l,oz (ah (i+j)) (wm ps i)=some (k,l):=by
 intro ps
 induction ps with
 | nil=>intro i j k h; obtain ⟨ow,wt,ht,h | h⟩:=h <;> simp at h
 | cons p ps ih=>
  intro i j k h
  have hne:∀j,Nat.beq (ah (i+(j+1))) (ah i)=false:=fun j=>by
   cases h:Nat.beq (ah (i+(j+1))) (ah i) with
   | true=>
    have:=bB h
    unfold ah at this
    omega
   | false=>rfl
  cases j with
  | zero=>
   obtain ⟨ow,wt,ht,h | h⟩:=h
   ·simp only [qM,au] at h
    subst h
    exact ⟨(wt,ht),by simp [wm,oz]⟩
   ·simp only [qM,au] at h
    subst h
    exact ⟨(wt,k.tys),by simp [wm,oz]⟩
  | succ j=>
   have h':wN ps j k:=by
    obtain ⟨ow,wt,ht,h⟩:=h
    exact ⟨ow,wt,ht,by simpa using h⟩
   obtain ⟨l,hl⟩:=ih (i:=i+1) h'
   have e:i+1+j=i+(j+1):=by omega
   rw [e] at hl
   cases p <;> first | exact ⟨l,by simp only [wm,oz,hne j,j6]; exact hl⟩ | exact ⟨l,hl⟩
theorem am2 {ps:List aV} {c:Cont (kin ps)} (hP:Ec cx ps) (H:Rel cx (fE ps c) J F a w) (m:Nat):Qh (cx.vX m) (wm ps 0):=by
 have hf:∀{j:Nat} {k:K},wN ps j k->∃l,oz (ah j) (wm ps 0)=some (k,l):=fun {j} {k} h=>by
  have:=ajk (i:=0) h
  simpa using this
 refine ⟨fun j pi hj h=>?_,fun j p ts v hv=>?_,fun j v hv=>?_⟩
 ·rcases h with h | ⟨⟨b,o,n⟩,h⟩
  ·obtain ⟨k,hk⟩:=hP.par j pi hj h
   obtain ⟨l,hl⟩:=hf hk
   exact ⟨_,hl⟩
  ·obtain ⟨R,hR,hk,_⟩:=H.kP j pi b o n hj h
   obtain ⟨j',p,cj,h1,h2,h3⟩:=alM (show iK (iJ ps 0 c) (ah j)=some R from hR.1)
   have e:j=j':=by unfold ah at h1; omega
   subst e
   have:∃k,wN ps j k:=by
    cases p with
    | rw k ow wt ht=>exact ⟨k,ow,wt,ht, .inl h2⟩
    | bR k ow wt=>exact ⟨k,ow,wt,[], .inr h2⟩
    | own k ow=>
     have h4:=jZ h3
     rw [<-h4] at hk
     simp [bK] at hk
    | _=>simp [lM] at h3
   obtain ⟨k,hk⟩:=this
   obtain ⟨l,hl⟩:=hf hk
   exact ⟨_,hl⟩
 ·obtain ⟨k,hk,e⟩:=hP.ptr j p ts v hv
  obtain ⟨l,hl⟩:=hf hk
  exact ⟨k,l,hl,e⟩
 ·obtain ⟨k,hk⟩:=hP.ref j v hv
  obtain ⟨l,hl⟩:=hf hk
  exact ⟨_,hl⟩
theorem ah7 (hm:P.follows .mixedOrders=true) (hT:fM P T) (hSt:wR P T) {E:Entry} {fn:Func} (hf:P.funcs[E.f]?=some fn) (hname:(fn.name == "runtime.NumGoroutine")=false) {m:Nat} (hC:xE P m hi)
  (hF:∀c out,E.F n c=some out->MU T hi fn E.ps E.rs m c=some out):aC P n E:=by
 intro c out hout cx J args w hnt hw hsz hP H
 have h:=hF c out hout
 unfold MU at h
 cases hb:fn.body with
 | none=>rw [hb] at h; simp at h
 | some code=>
  rw [hb] at h
  simp only at h
  refine .inl ⟨Go.MuLone.run_callFunc_enter hf hname hb args w,calls_of_wp hf hb ?_⟩
  have H2:Rel (cx.vX fn.ntmps) (fE E.ps c) J [] { tmps:=args++Array.replicate (fn.ntmps - args.size) undef,defers:=[] } w:=by
   refine H.vX rfl (by simp; omega) fun s=>?_
   simp only [Gd]
   rw [Array.getElem?_append]
   split
   ·rfl
   ·rename_i hlt
    rw [Array.getElem?_eq_none (by omega:args.size<=s)]
    rw [Array.getElem?_replicate]
    split <;> rfl
  have hC':xE P m { hi with nt:=fn.ntmps,fT:=wm E.ps 0 }:=hC
  refine wp_mono (ah8 ag7 hm hT hSt hC' rfl (am2 hP H _) code 0 h H2) ?_
  have hend:∀{Z':St} {J':aH} {F':List Nat} {a':Act} {w':World},MV T E.ps E.rs fn.results.toList Z'=some out->Rel (cx.vX fn.ntmps) Z' J' F' a' w'->
    a'.defers=[]/\∃v,(results fn a'.tmps).run P w'=.ok v w'/\∃v',Ending.returned v=.returned v'/\Post cx E.ps E.rs out v' w':=by
   intro Z' J' F' a' w' h1 H3
   have H4:Rel cx Z' J' F' a' w':=by
    have:=H3.vX (m:=0) (a':=a') H3.defs (gq _) (fun _=>rfl)
    obtain ⟨nt,w0,ext,par,ptrs,refs⟩:=cx
    simp only at hnt
    subst hnt
    exact this
   obtain ⟨v,v1,v2⟩:=aje (P:=P) hT H4 h1
   exact ⟨H3.defs,v,v1,v,rfl,v2⟩
  rintro e a' w' ⟨ex,Z',J',F',h1,h2,h3⟩
  cases e <;> simp only [Iq,au,reduceCtorEq] at h1
  ·subst h1; exact hend h2 h3
  ·subst h1; simp at h2
  ·subst h1; exact hend h2 h3
end
end
section
open Go
variable [Fr]
def vD (W:World):(ps:List aV)->Cont (kin ps)->List Value->Prop
 | [],_,[]=>True
 | .val k [] :: ps,c,v :: vs=>(∃cs,VC k v cs/\Vw (hp W) (fun b=>b<W.heap.size) k c.1 cs)/\vD W ps c.2 vs
 | _,_,_=>False
def zf (W W':World):Prop:=W'.os=W.os/\W'.output=W.output/\W.heap.size<=W'.heap.size/\∀b,b<W.heap.size->hp W' b=hp W b
def vU (W:World):Cx:={ nt:=0,w0:=W,ext:=fun _ b=>b<W.heap.size,par:=fun _=>none,ptrs:=fun _ _ _ _=>False,refs:=fun _ _=>False }
def TQ:aH:={ loc:=fun _=>(0,0),hdr:=fun _=>[],fo:=fun _=>[] }
section
variable {P:Program} {W:World}
theorem vD.roots:∀{ps:List aV} {c:Cont (kin ps)} {vs:List Value} {i:Nat},vD W ps c vs->iJ ps i c=[]/\vs.length=ps.length
 | [],_,[],_,_=>⟨rfl,rfl⟩
 | [],_,_ :: _,_,h=>h.elim
 | .val k [] :: ps,c,v :: vs,i,h=>by
  obtain ⟨h1,h2⟩:=vD.roots (i:=i+1) h.2
  exact ⟨h1,by simp [h2]⟩
 | .val k (_ :: _) :: ps,c,vs,_,h=>by cases vs <;> exact h.elim
 | .val k [] :: ps,c,[],_,h=>h.elim
 | .ro _ :: _,_,vs,_,h=>by cases vs <;> exact h.elim
 | .rw _ _ _ _ :: _,_,vs,_,h=>by cases vs <;> exact h.elim
 | .bR _ _ _ :: _,_,vs,_,h=>by cases vs <;> exact h.elim
 | .own _ _ :: _,_,vs,_,h=>by cases vs <;> exact h.elim
 | .fn _ _ :: _,_,vs,_,h=>by cases vs <;> exact h.elim
 | .into _ _ :: _,_,vs,_,h=>by cases vs <;> exact h.elim
theorem vD.slots {Z:St} (hσ:∀r R,¬aU Z r R):∀{ps:List aV} {c:Cont (kin ps)} {vs:List Value} {i:Nat},vD W ps c vs->∀s,(∀v,vs[s - i]?=some v->i<=s->jr (vU W) Z TQ [] W (jl (gu ps i c) s) v)/\((vs[s - i]?=none\/s<i)->jl (gu ps i c) s=.one .undef)/\ny Z (jl (gu ps i c) s)
 | [],_,[],_,_=>fun s=>⟨fun v h=>by simp at h,fun _=>rfl,trivial⟩
 | [],_,_ :: _,_,h=>h.elim
 | .val k [] :: ps,c,v :: vs,i,h=>by
  intro s
  have ih:=vD.slots hσ (i:=i+1) h.2 s
  simp only [gu,jl]
  cases hb:Nat.beq s i with
  | true=>
   have:=bB hb
   subst this
   simp only [HY,qM,au,gM]
   refine ⟨fun u hu _=>?_,fun h=>by rcases h with h | h; simp at h; omega, ?_⟩
   ·subst hu
    intro _
    obtain ⟨cs,h1,h2⟩:=h.1
    refine ⟨cs,h1, ?_⟩
    cases hf:k.flat with
    | true=>exact nk hf h2
    | false=>
     refine lS (fun _ _=>rfl) (fun b hb=>⟨hb,by simp, ?_,fun r R hr=>absurd hr (hσ r R),fun _=>.inl ⟨s,0,by simp,hb⟩⟩) h2
     rintro ⟨j,pi,o,n,h3,_⟩
     simp [vU] at h3
   ·intro t ht
    cases hf:k.flat with
    | true=>rw [hf] at ht; simp at ht
    | false=>
     rw [hf] at ht
     simp only [j6,List.map_nil,fV] at ht
     subst ht
     exact .inl (uJ s)
  | false=>
   have hne:=Mk hb
   simp only [j6]
   refine ⟨fun u hu hle=>?_,fun hh=>?_,ih.2.2⟩
   ·refine ih.1 u ?_ (by omega)
    have e:s - i=(s - (i+1))+1:=by omega
    rw [e] at hu
    simpa using hu
   ·refine ih.2.1 ?_
    rcases hh with hh | hh
    ·by_cases hlt:s<i
     ·exact .inr (by omega)
     ·have e:s - i=(s - (i+1))+1:=by omega
      rw [e] at hh
      exact .inl (by simpa using hh)
    ·exact .inr (by omega)
 | .val k (_ :: _) :: ps,c,vs,_,h=>by cases vs <;> exact h.elim
 | .val k [] :: ps,c,[],_,h=>h.elim
 | .ro _ :: _,_,vs,_,h=>by cases vs <;> exact h.elim
 | .rw _ _ _ _ :: _,_,vs,_,h=>by cases vs <;> exact h.elim
 | .bR _ _ _ :: _,_,vs,_,h=>by cases vs <;> exact h.elim
 | .own _ _ :: _,_,vs,_,h=>by cases vs <;> exact h.elim
 | .fn _ _ :: _,_,vs,_,h=>by cases vs <;> exact h.elim
 | .into _ _ :: _,_,vs,_,h=>by cases vs <;> exact h.elim
theorem al5 (hfr:∀b,Fr.free b->b<W.heap.size/\hp W b=Fr.obj b) {ps:List aV} {c:Cont (kin ps)} {args:Array Value} (hV:vD W ps c args.toList):Rel (vU W) (fE ps c) TQ [] ⟨args,[]⟩ W:=by
 have hr0:∀r,(fE ps c).roots r=none:=fun r=>by
  show iK (iJ ps 0 c) r=none
  rw [(hV.roots (i:=0)).1]
  rfl
 have hno:∀r R,¬aU (fE ps c) r R:=fun r R h=>by have h2:=h.1; rw [hr0 r] at h2; simp at h2
 have hs:=fun s=>vD.slots hno (i:=0) hV s
 refine ⟨rfl,gq _,fun j pi b o n h=>by simp [vU] at h,fun r R h=>absurd h (hno r R),fun s=>?_,fun s=>(hs s).2.2,fun r R h=>absurd h (hno r R),fun r R h=>by rw [hr0 r] at h; simp at h,
  fun r R _ _ h=>absurd h (hno r R),fun b h=>by simp at h,mM,fun r R h=>absurd h (hno r R),⟨rfl,rfl,rfl,bP _,fun _ _ _=>rfl,fun j pi b o n h=>by simp [vU] at h⟩,
  fun j pi h=>by simp [vU] at h,⟨fun j pi h=>by simp [vU] at h,fun b hb=>⟨(hfr b hb).1,fun j pi h=>by simp [vU] at h⟩,fun b hb=>(hfr b hb).2⟩,fun j p ts v h=>h.elim,fun j v h=>h.elim⟩
 obtain ⟨h1,h2,_⟩:=hs s
 cases hv:args.toList[s]? with
 | none=>
  have:=h2 (.inl (by simpa using hv))
  rw [show (fE ps c).slots s=.one .undef from this]
  trivial
 | some v=>
  have:=h1 v (by simpa using hv) (gq _)
  have e:args.getD s undef=v:=by
   rw [wC] at hv
   simp [Gd,hv]
  show jr _ _ _ _ _ _ (args.getD s undef)
  rw [e]
  exact this
theorem al6 (hfr:∀b,Fr.free b->b<W.heap.size/\hp W b=Fr.obj b) {f:FuncId} {ps:List aV} {F:Nat->Cont (kin ps)->Option (Cont (eP [.val .bool [] []]++gy ps))} {n:Nat} (hE:aC P n ⟨f,ps,[.val .bool [] []],F⟩)
  {c:Cont (kin ps)} {out:Cont (eP [.val .bool [] []]++gy ps)} (hF:F n c=some out) (ht:out.1=true) {args:Array Value} (hV:vD W ps c args.toList) (hcall:(callFunc f args).run P W=.ok (.enter f args) W) :
  Calls P f args W fun e W'=>e=.returned (.bool true)/\zf W W':=by
 have h:=hE c out hF (vU W) TQ args W rfl rfl (by rw [<-Ov,(hV.roots (i:=0)).2]) ⟨fun j pi h=>by simp [vU] at h,fun j p ts v h=>h.elim,fun j v h=>h.elim⟩ (al5 hfr hV)
 rcases h with ⟨_,h⟩ | ⟨v,w',h,_⟩
 ·refine h.mono ?_
  rintro e W' ⟨v,rfl,Z,J,F',a,vs,ay,H,rfl,hR,_⟩
  refine ⟨?_,H.frame.1,H.frame.2.2.1,H.frame.2.2.2.1,fun b hb=>H.frame.2.2.2.2.1 b hb (fun j pi h=>by simp [vU] at h)⟩
  cases vs with
  | nil=>exact hR.elim
  | cons v vs=>
   cases ay with
   | nil=>exact hR.elim
   | cons fo ay=>
    obtain ⟨⟨_,T,cs,_,hv,hw⟩,hr⟩:=hR
    cases vs with
    | cons _ _=>exact hr.elim
    | nil=>
     obtain ⟨e1,_⟩:=hv
     have e2:cs=[.bool out.1]:=hw
     rw [e1,ht] at e2
     simp only [jv,eY] at e2
     subst e2
     rfl
 ·rw [hcall] at h
  simp at h
end
end
section
open Go
mutual
def w9 {H:Type}:DataW H->Nat
 | .lit (.string bytes)=>bytes.length+1
 | .lit _=>1
 | .nil=>1
 | .ptr d=>w9 d+1
 | .slice elems spare=>uE elems+uE spare+1
 | .agg parts=>uE parts+1
 | .iface _ d=>w9 d+1
 | .map _=>1
 | .held _=>1
def uE {H:Type}:List (DataW H)->Nat
 | []=>0
 | d :: r=>w9 d+uE r
end
def sH:(k:K)->El k->Nat
 | .int _,_=>1
 | .bool,_=>1
 | .str,s=>(show List Int from s).length+1
 | .sl _ k,xs=>((show List (El k) from xs).map (sH k)).sum+1
 | .unit,_=>0
 | .pair a b,x=>sH a x.1+sH b x.2
 | .st f,x=>sH f x+1
 | .gap _,_=>0
 | .id _,_=>1
def Ae:(k:K)->El k->Prop
 | .int ik,x=>mJ ik x
 | .str,s=>(show List Int from s).length<=9223372036854775807/\∀b∈(show List Int from s),0<=b/\b<256
 | .sl _ k,xs=>(show List (El k) from xs).length<=9223372036854775807/\∀x∈(show List (El k) from xs),Ae k x
 | .pair a b,x=>Ae a x.1/\Ae b x.2
 | .st f,x=>Ae f x
 | _,_=>True
theorem Yk {A:Type} {p:Nat->A->Prop}:∀{n:Nat},(∀i,i<n->∃x,p i x)->∃xs:List A,xs.length=n/\∀i (h:i<xs.length),p i xs[i]:=by
 intro n h
 induction n with
 | zero=>exact ⟨[],rfl,fun i h=>by simp at h⟩
 | succ n ih=>
  obtain ⟨xs,h1,h2⟩:=ih (fun i hi=>h i (by omega))
  obtain ⟨x,hx⟩:=h n (by omega)
  refine ⟨xs++[x],by simp [h1],fun i hi=>?_⟩
  rw [List.getElem_append]
  split
  ·exact h2 i _
  ·have:i=n:=by simp [h1] at hi; omega
   subst this
   simpa using hx
theorem acw {A H:Type} {f:A->Nat}:∀{xs:List A} {ds:List (DataW H)},xs.length=ds.length->(∀i (h:i<xs.length) (h':i<ds.length),f xs[i]<=w9 ds[i])->(xs.map f).sum<=uE ds
 | [],[],_,_=>bP _
 | x :: xs,d :: ds,hl,h=>by
  simp only [lG,List.sum_cons,uE]
  have h0:=h 0 (by simp) (by simp)
  have:=acw (xs:=xs) (ds:=ds) (by simpa using hl) (fun i h1 h2=>by
   have:=h (i+1) (by simp; omega) (by simp; omega)
   simpa using this)
  simp only [List.getElem_cons_zero] at h0
  omega
 | [],_ :: _,hl,_=>by simp at hl
 | _ :: _,[],hl,_=>by simp at hl
section
variable {P:Program} {T:bI} {W:World} {H:Type} {enc:TypeId×Value->H}
def agO [Fr] (W:World) (k:K) (cs:List Value) (d:DataW H):Prop:=∃x:El k,Vw (hp W) (fun b=>b<W.heap.size) k x cs/\sH k x<=w9 d/\Ae k x
theorem Ny {t:TypeId} {k:K} (h:sO P t k):P.cellsOf t=k.size:=by
 obtain ⟨i,h1,h2,_⟩:=h
 simp [Program.cellsOf,h1,h2]
theorem aod [Fr] (hid:T.ids=false) (hfr:∀b,b<W.heap.size->Fr.free b):∀(k:K),
  (∀t n cs d ps,(jN P T k).1 t->DataW.trod enc P W 0 (fun _=>true) true n t cs=some (d,ps)->agO W k cs d)/\
  (∀(fs:List Field) off n (cs:List Value) (xs:List (DataW H×List MemPlace)),(jN P T k).2 fs off->cs.length=off+k.size->xs.length=fs.length->
   (∀(i:Nat) f,fs[i]?=some f->DataW.trod enc P W 0 (fun _=>true) true n f.type ((cs.drop f.offset).take (P.cellsOf f.type))=xs[i]?)->
   ∃x:El k,Vw (hp W) (fun b=>b<W.heap.size) k x (cs.drop off)/\sH k x<=uE (xs.map (·.1))/\Ae k x):=by
 intro k
 induction k with
 | int ik=>
  refine ⟨fun t n cs d ps ht h=>?_,fun _ _ _ _ _ h=>h.elim⟩
  obtain ⟨m,rfl,e,hw⟩:=DataW.trod_int ht.1 h
  simp only [bS] at e
  obtain ⟨rfl,rfl⟩:=e
  have hr:mJ ik m:=by
   cases ik <;> simp [mJ]
   simp [Lit.wf,IntKind.min,IntKind.max,IntKind.signed,IntKind.bits] at hw
   omega
  exact ⟨m,⟨rfl,hr⟩,bP _,hr⟩
 | bool=>
  refine ⟨fun t n cs d ps ht h=>?_,fun _ _ _ _ _ h=>h.elim⟩
  obtain ⟨b,rfl,e⟩:=DataW.trod_bool ht.1 h
  simp only [bS] at e
  obtain ⟨rfl,rfl⟩:=e
  exact ⟨b,rfl,bP _,trivial⟩
 | str=>
  refine ⟨fun t n cs d ps ht h=>?_,fun _ _ _ _ _ h=>h.elim⟩
  obtain ⟨s,rfl,e,hsz⟩:=DataW.trod_string ht.1 h
  simp only [bS] at e
  obtain ⟨rfl,rfl⟩:=e
  exact ⟨bytesOf s,⟨s,rfl,rfl⟩,by simp [sH,w9,bytesOf],by
   unfold maxLen at hsz
   have:(bytesOf s).length=s.size:=by simp [bytesOf]
   refine ⟨(show (bytesOf s).length<=9223372036854775807 by omega),fun b hb=>?_⟩
   have hb':b∈bytesOf s:=hb
   unfold bytesOf at hb'
   obtain ⟨x,_,rfl⟩:=fK.1 hb'
   have:=x.toNat_lt
   omega⟩
 | unit=>exact ⟨fun _ _ _ _ _ h=>h.elim,fun fs off n cs xs _ hl hx hf=>⟨(),by
   have:cs.drop off=[]:=DZ (by simp [K.size] at hl; omega)
   exact this,gq _,trivial⟩⟩
 | gap n=>exact ⟨fun _ _ _ _ _ h=>h.elim,fun _ _ _ _ _ h=>h.elim⟩
 | id e=>exact ⟨fun t n cs d ps ht h=>by have:=ht.2.2; rw [hid] at this; simp at this,fun _ _ _ _ _ h=>h.elim⟩
 | sl e k ih=>
  refine ⟨fun t n cs d ps ht h=>?_,fun _ _ _ _ _ h=>h.elim⟩
  obtain ⟨hu,_,hte,hk0,_⟩:=ht
  have hce:P.cellsOf e=k.size:=Ny (dn.info hte)
  rcases DataW.trod_slice hu h with ⟨rfl,e1⟩ | ⟨a,len,cap,elems,rest,m,rfl,rfl,e1,_,hlc,hmx,hle,hel,_,_⟩
  ·simp only [bS] at e1
   obtain ⟨rfl,rfl⟩:=e1
   exact ⟨[],⟨none,0,0,rfl,rfl,bP _,fun h=>by omega⟩,by simp [sH,w9],⟨gq _,fun x hx=>by simp at hx⟩⟩
  ·simp only [bS] at e1
   obtain ⟨rfl,rfl⟩:=e1
   have hone:∀i (hi:i<len),∃x:El k,∃ds,W.cells? 0 (a.add (i * k.size)) k.size=some ds/\Vw (hp W) (fun b=>b<W.heap.size) k x ds/\(∀(h':i<elems.length),sH k x<=w9 elems[i].1)/\Ae k x:=by
    intro i hi
    have h1:=hel i hi
    have hi':i<elems.length:=by omega
    rw [hce,jc hi'] at h1
    obtain ⟨ds,h2,h3⟩:=HZ.1 h1
    obtain ⟨x,h4,h5,h6⟩:=ih.1 e m ds _ _ hte h3
    exact ⟨x,ds,h2,h4,fun _=>h5,h6⟩
   obtain ⟨xs,hl,hxs⟩:=Yk hone
   refine ⟨xs,⟨some a,len,cap,rfl,hl.symm,hlc,fun h0=>?_⟩, ?_, ?_⟩
   ·obtain ⟨b,o,sp⟩:=a
    have h0':0<xs.length:=by omega
    obtain ⟨ds0,h2,h3,_⟩:=hxs 0 h0'
    have hb:=World.cells?_block h2 hk0
    obtain ⟨_,g1,g2⟩:=World.cells?_some h2
    have hsp:sp=none:=by
     have:=g2 0 hk0
     rw [jc (by omega)] at this
     simp only [Nat.zero_mul,Addr.add,a_,World.cell?] at this
     cases sp with
     | none=>rfl
     | some q=>split at this <;> simp at this
    subst hsp
    have hb':b<W.heap.size:=by
     rw [addr_add] at hb
     exact hb
    refine ⟨b,o,rfl,hb', .inr (hfr b hb'),fun i hi=>?_⟩
    obtain ⟨ds,h2,h3,_⟩:=hxs i hi
    obtain ⟨_,g1,g2⟩:=World.cells?_some h2
    refine ⟨ds,fun j hj=>?_,h3⟩
    have:=g2 j (by omega)
    rw [addr_add,addr_add,zJ] at this
    exact this
   ·simp only [sH,w9]
    have:=acw (H:=H) (f:=sH k) (xs:=xs) (ds:=elems.map (·.1)) (by simp; omega) (fun i h1 h2=>by
     obtain ⟨ds,_,_,h5,_⟩:=hxs i h1
     simpa using h5 (by simpa using h2))
    omega
   ·unfold maxLen at hmx
    refine ⟨show xs.length<=_ by omega,fun x hx=>?_⟩
    obtain ⟨i,hi,rfl⟩:=sU.1 hx
    obtain ⟨_,_,_,_,h6⟩:=hxs i hi
    exact h6
 | pair a b iha ihb=>
  refine ⟨fun _ _ _ _ _ h=>h.elim,fun fs off n cs xs ht hl hx hf=>?_⟩
  cases fs with
  | nil=>exact ht.elim
  | cons f fs=>
   cases xs with
   | nil=>simp at hx
   | cons x0 xs=>
    obtain ⟨h1,h2,h3,h4⟩:=ht
    have hca:P.cellsOf f.type=a.size:=Ny (dn.info h2)
    have h5:=hf 0 f rfl
    rw [h1,hca] at h5
    simp only [qM] at h5
    obtain ⟨x,g1,g2,l1⟩:=iha.1 f.type n _ x0.1 x0.2 h2 h5
    obtain ⟨y,g3,g4,l2⟩:=ihb.2 fs (off+a.size) n cs xs h4 (by simp [K.size] at hl; omega) (by simpa using hx) (fun i f' hi=>by
     have:=hf (i+1) f' (by simpa using hi)
     simpa using this)
    refine ⟨(x,y),⟨(cs.drop off).take a.size,cs.drop (off+a.size), ?_,g1,g3⟩, ?_,l1,l2⟩
    ·rw [<-sQ,D9]
    ·simp only [sH,lG,uE]
     omega
 | st c ih=>
  refine ⟨fun t n cs d ps ht h=>?_,fun _ _ _ _ _ h=>h.elim⟩
  obtain ⟨⟨fs,hu,hfs⟩,hinfo⟩:=ht
  obtain ⟨xs,m,rfl,e1,hl,hlen,hf⟩:=DataW.trod_struct hu h
  simp only [bS] at e1
  obtain ⟨rfl,rfl⟩:=e1
  obtain ⟨x,g1,g2,l1⟩:=ih.2 fs.toList 0 m cs xs hfs (by rw [hl,Ny hinfo]; simp [K.size]) (by simpa using hlen) (fun i f hi=>hf i f (by simpa using hi))
  refine ⟨x,by simp only [D5] at g1; exact g1, ?_,l1⟩
  simp only [sH,w9]
  omega
theorem ajd:∀{k:K} {fs:List Field} {off:Nat},(jN P T k).2 fs off->∀f∈fs,∃k',(jN P T k').1 f.type:=by
 intro k
 induction k with
 | pair a b iha ihb=>
  intro fs off h f hf
  cases fs with
  | nil=>simp at hf
  | cons f0 fs=>
   rcases bT.1 hf with h1 | h1
   ·subst h1; exact ⟨a,h.2.1⟩
   ·exact ihb h.2.2.2 f h1
 | unit=>intro fs off h f hf; rw [show fs=[] from h] at hf; simp at hf
 | _=>intro fs off h; exact h.elim
theorem aoe [Fr] (hid:T.ids=false) {sp:Nat->Bool} (hsp:∀b,b<W.heap.size->sp b=true):∀(n:Nat) (t:TypeId) (k:K) (cs:List Value) (x:DataW H×List MemPlace),(jN P T k).1 t->DataW.trod enc P W 0 (fun _=>true) true n t cs=some x->DataW.trod enc P W 0 sp true n t cs=some x:=by
 intro n
 induction n with
 | zero=>intro t k cs x _ h; simp [DataW.trod] at h
 | succ n ih=>
  intro t k cs x ht h
  cases k with
  | int ik=>obtain ⟨m,rfl,rfl,hw⟩:=DataW.trod_int ht.1 h; simp [DataW.trod,ht.1,hw]
  | bool=>obtain ⟨m,rfl,rfl⟩:=DataW.trod_bool ht.1 h; simp [DataW.trod,ht.1]
  | str=>obtain ⟨m,rfl,rfl,hw⟩:=DataW.trod_string ht.1 h; simp [DataW.trod,ht.1,hw]
  | unit=>exact ht.elim
  | gap n=>exact ht.elim
  | id e=>have:=ht.2.2; rw [hid] at this; simp at this
  | pair a b=>exact ht.elim
  | st c=>
   obtain ⟨⟨fs,hu,hfs⟩,_⟩:=ht
   obtain ⟨xs,m,e,rfl,hl,hlen,hf⟩:=DataW.trod_struct hu h
   have e':m=n:=by omega
   subst e'
   refine ChangeShapes.trod_struct_mk hu hl (mapM_some_of_get _ _ (by simpa using hlen) fun i f hi=>?_)
   have hi':i<xs.length:=by
    have:=(ql.1 hi).1
    simp at this
    omega
   have h1:=hf i f (by simpa using hi)
   rw [jc hi'] at h1 ⊢
   obtain ⟨k',hk'⟩:=ajd hfs f (qm hi)
   exact ih f.type k' _ _ hk' h1
  | sl e k=>
   obtain ⟨hu,_,hte,hk0,_⟩:=ht
   have hce:P.cellsOf e=k.size:=Ny (dn.info hte)
   rcases DataW.trod_slice hu h with ⟨rfl,rfl⟩ | ⟨a,len,cap,_,_,_,_,rfl,_⟩
   ·simp [DataW.trod,hu]
   ·unfold DataW.trod at h ⊢
    rw [hu] at h ⊢
    simp only [hce] at h ⊢
    split at h
    ·rename_i hc
     rw [ak hc]
     obtain ⟨elems,he,h⟩:=HZ.1 h
     obtain ⟨rest,hr,hd⟩:=Option.map_eq_some_iff.1 h
     have hstep:∀i y,(W.cells? 0 (a.add (i * k.size)) k.size).bind (DataW.trod enc P W 0 (fun _=>true) true n e)=some y->(W.cells? 0 (a.add (i * k.size)) k.size).bind (DataW.trod enc P W 0 sp true n e)=some y:=by
      intro i y h
      obtain ⟨ds,h1,h2⟩:=HZ.1 h
      exact HZ.2 ⟨ds,h1,ih e k ds y hte h2⟩
     refine HZ.2 ⟨elems,mapM_carry he (fun i y _ _ hy=>hstep i y hy),Option.map_eq_some_iff.2 ⟨rest, ?_,hd⟩⟩
     simp only [a_] at hr
     cases hs:sp a.block with
     | true=>
      simp only [a_]
      exact mapM_carry hr (fun i y _ _ hy=>hstep _ y hy)
     | false=>
      simp only [bG,bE]
      cases hcl:cap - len with
      | zero=>rw [hcl] at hr; simpa using hr
      | succ m=>
       exfalso
       rw [hcl] at hr
       have h1:=mapM_some_get hr 0 0 (by simp)
       have hlr:rest.length=m+1:=by simpa using mapM_some_length hr
       rw [jc (by omega)] at h1
       obtain ⟨ds,h2,_⟩:=HZ.1 h1
       have h3:=World.cells?_block h2 hk0
       have h4:(a.add ((len+0) * k.size)).block=a.block:=by unfold Addr.add; split <;> rfl
       rw [h4] at h3
       rw [hsp _ h3] at hs
       simp at hs
    ·simp at h
end
end
section
open Go
section
variable {P:Program} {T:bI} {W W':World} {H:Type} {enc:TypeId×Value->H}
def H6 (P:Program) (T:bI):List aV->List TypeId->Prop
 | [],[]=>True
 | .val k [] :: ps,t :: ts=>dn P T t k/\H6 P T ps ts
 | _,_=>False
def J9:(ps:List aV)->Cont (kin ps)->Nat
 | .val k _ :: ps,c=>sH k c.1+J9 ps c.2
 | _,_=>0
def ND:(ps:List aV)->Cont (kin ps)->Prop
 | .val k _ :: ps,c=>Ae k c.1/\ND ps c.2
 | _,_=>True
theorem aok [Fr] {t:TypeId} {k:K} {v:Value} {base:Nat} {x:El k} {ok:Nat->Prop} (ht:dn P T t k) (hv:Value.okWide P W .any base t v) (hV:Vw (hp W) ok k x v.cells.toList):VC k v v.cells.toList:=by
 have hplain:∀{u:Value},(∀y,v≠.agg y)->v.cells.toList=[u]->VC k v v.cells.toList\/∃c,k=.st c:=by
  intro u hn hu
  cases k with
  | st c=>exact .inr ⟨c,rfl⟩
  | _=>
   refine .inl ⟨?_,hn⟩
   cases v <;> first | rfl | exact absurd rfl (hn _)
 unfold dn jN at ht
 cases k with
 | st c=>
  obtain ⟨⟨fs,hu,_⟩,_⟩:=ht
  unfold Value.okWide at hv
  rw [hu] at hv
  obtain ⟨cs,rfl,_⟩:=hv
  show Value.agg cs=.agg (cs.toList).toArray
  simp
 | unit=>exact ht.elim
 | pair a b=>exact ht.elim
 | gap n=>exact ht.elim
 | int ik=>
  unfold Value.okWide at hv
  rw [ht.1] at hv
  refine ⟨?_, ?_⟩ <;> cases v <;> simp_all [Cell.okWide,Cell.ok,Value.cells]
 | bool=>
  unfold Value.okWide at hv
  rw [ht.1] at hv
  refine ⟨?_, ?_⟩ <;> cases v <;> simp_all [Cell.okWide,Cell.ok,Value.cells]
 | id e=>
  unfold Value.okWide at hv
  rw [ht.1] at hv
  refine ⟨?_, ?_⟩ <;> cases v <;> simp_all [Cell.okWide,Cell.ok,Value.cells]
 | str=>
  unfold Value.okWide at hv
  rw [ht.1] at hv
  refine ⟨?_, ?_⟩ <;> cases v <;> simp_all [Cell.okWide,Cell.ok,Value.cells]
 | sl e k=>
  unfold Value.okWide at hv
  rw [ht.1] at hv
  refine ⟨?_, ?_⟩ <;> cases v <;> simp_all [Cell.okWide,Cell.ok,Value.cells]
theorem aa3 [Fr] (hid:T.ids=false) (hfr:∀b,b<W.heap.size->Fr.free b):∀{ps:List aV} {ts:List TypeId} {vs:List Value} {ds:List (DataW H)} {p:List MemPlace} {base:Nat},H6 P T ps ts->DataW.TrodAll enc P W 0 (fun _=>true) true ts vs ds p->
  (∀(j:Nat) t v,ts[j]?=some t->vs[j]?=some v->Value.okWide P W .any base t v)->∃c,vD W ps c vs/\J9 ps c<=uE ds/\ds.length=ps.length/\ND ps c
 | [],[],vs,ds,p,_,_,h,_=>by
  obtain ⟨rfl,rfl,_⟩:=ChangeShapes.trodAll_nil h
  exact ⟨(),trivial,bP _,rfl,trivial⟩
 | .val k [] :: ps,t :: ts,vs,ds,p,base,hp1,h,hv=>by
  obtain ⟨v,vs',d,ds',p1,q,rfl,rfl,rfl,⟨n,h1⟩,h2⟩:=ChangeShapes.trodAll_cons h
  obtain ⟨c,g1,g2,g3,g4⟩:=aa3 hid hfr hp1.2 h2 (fun j t v ht hv'=>hv (j+1) t v (by simpa using ht) (by simpa using hv'))
  obtain ⟨x,f1,f2,f3⟩:=(aod (T:=T) (enc:=enc) hid hfr k).1 t n _ d p1 hp1.1 h1
  refine ⟨(x,c),⟨⟨_,aok hp1.1 (hv 0 t v rfl rfl) f1,f1⟩,g1⟩, ?_,by simp [g3],f3,g4⟩
  simp only [J9,uE]
  omega
 | [],_ :: _,_,_,_,_,h,_,_=>h.elim
 | .val _ [] :: _,[],_,_,_,_,h,_,_=>h.elim
 | .val _ (_ :: _) :: _,ts,_,_,_,_,h,_,_=>by cases ts <;> exact h.elim
 | .ro _ :: _,ts,_,_,_,_,h,_,_=>by cases ts <;> exact h.elim
 | .rw _ _ _ _ :: _,ts,_,_,_,_,h,_,_=>by cases ts <;> exact h.elim
 | .bR _ _ _ :: _,ts,_,_,_,_,h,_,_=>by cases ts <;> exact h.elim
 | .own _ _ :: _,ts,_,_,_,_,h,_,_=>by cases ts <;> exact h.elim
 | .fn _ _ :: _,ts,_,_,_,_,h,_,_=>by cases ts <;> exact h.elim
 | .into _ _ :: _,ts,_,_,_,_,h,_,_=>by cases ts <;> exact h.elim
theorem anO (hO:zf W W') {p:MemPlace} (hp1:p.block<W.heap.size):W.sameAt W' p:=by
 have h:=hO.2.2.2 p.block hp1
 cases p with
 | cell b off=>
  have h':W'.heap[b]?=W.heap[b]?:=h
  show W'.cell? _=W.cell? _
  unfold World.cell?
  simp only [h']
 | map b=>exact h
theorem abL [Fr] (hid:T.ids=false) (hO:zf W W') {sp:Nat->Bool} (hsp:∀b,b<W.heap.size->sp b=true):∀{ps:List aV} {ts:List TypeId} {vs:List Value} {ds:List (DataW H)} {p:List MemPlace},H6 P T ps ts->DataW.TrodAll enc P W 0 (fun _=>true) true ts vs ds p->
  DataW.TrodAll enc P W' 0 sp true ts vs ds p
 | [],[],vs,ds,p,_,h=>by
  obtain ⟨rfl,rfl,rfl⟩:=ChangeShapes.trodAll_nil h
  exact rfl
 | .val k [] :: ps,t :: ts,vs,ds,p,hp1,h=>by
  obtain ⟨v,vs',d,ds',p1,q,rfl,rfl,rfl,⟨n,h1⟩,h2⟩:=ChangeShapes.trodAll_cons h
  have h3:=abL hid hO hsp hp1.2 h2
  have h4:=aoe hid hsp n t k _ _ hp1.1 h1
  exact ⟨p1,q,⟨n,DataW.trod_carry n t _ _ h4 (fun p hp2=>anO hO (DataW.trod_lt n t _ _ h1 p hp2))⟩,h3,rfl⟩
 | [],_ :: _,_,_,_,h,_=>h.elim
 | .val _ [] :: _,[],_,_,_,h,_=>h.elim
 | .val _ (_ :: _) :: _,ts,_,_,_,h,_=>by cases ts <;> exact h.elim
 | .ro _ :: _,ts,_,_,_,h,_=>by cases ts <;> exact h.elim
 | .rw _ _ _ _ :: _,ts,_,_,_,h,_=>by cases ts <;> exact h.elim
 | .bR _ _ _ :: _,ts,_,_,_,h,_=>by cases ts <;> exact h.elim
 | .own _ _ :: _,ts,_,_,_,h,_=>by cases ts <;> exact h.elim
 | .fn _ _ :: _,ts,_,_,_,h,_=>by cases ts <;> exact h.elim
 | .into _ _ :: _,ts,_,_,_,h,_=>by cases ts <;> exact h.elim
theorem alY (hO:zf W W') (may:MemPlace->Prop):W.keptBut W' may:=by
 refine ⟨hO.1,hO.2.1,fun i hi=>?_⟩
 have h:W'.heap[i]?=W.heap[i]?:=hO.2.2.2 i hi
 rw [h]
 cases W.heap[i]? with
 | none=>rfl
 | some o=>
  cases o with
  | cells c t fr=>exact ⟨rfl,rfl,rfl,fun _ _=>rfl⟩
  | map es clock=>exact .inr ⟨rfl,rfl⟩
  | _=>rfl
abbrev Rs (W:World):Fr:=⟨fun b=>b<W.heap.size,hp W,fun _=>.slice none 0 0,rfl,fun _=>⟨none,0,0,rfl⟩⟩
theorem al7 {f:FuncId} {fn:Func} {code:Code} {ps:List aV} {F:Nat->Cont (kin ps)->Option (Cont (eP [.val .bool [] []]++gy ps))} {s:ChangeSpec} {tb:TypeId} {N:Nat}
  (hf:P.funcs[f]?=some fn) (hname:(fn.name == "runtime.NumGoroutine")=false) (hbody:fn.body=some code) (hps:H6 P T ps fn.params.toList) (hres:fn.resultTypes=#[tb]) (htb:P.underlying tb=some .bool)
  (hE:letI:=Rs W; ∀n,aC P n ⟨f,ps,[.val .bool [] []],F⟩) (akT:∀c:Cont (kin ps),ND ps c->J9 ps c<=N->∃n out,F n c=some out/\out.1=true)
  (hvars:s.vars=[]) (hspec:∀ds:List (DataW H),ds.length=ps.length->s.fn H ds={ results:=[.lit (.bool true)],args:=ds })
  {base:Nat} {args:Array Value} {ds gs:List (DataW H)} {before:List MemPlace}
  (hval:∀(j:Nat) t v,fn.params[j]?=some t->args[j]?=some v->Value.okWide P W .any base t v)
  (hW:DataW.Whole enc P fn.params.toList s.vars false W args.toList ds gs before) (hb:uE (ds++gs)<=N) (hid:T.ids=false:=by rfl) :
  Calls P f args W fun e W'=>∃v,e=.returned v/\s.post enc P fn false true false false W args v W':=by
 letI fr:Fr:=Rs W
 have hW':=hW
 obtain ⟨p,q,hA,hV,hpq,hfz,hnd⟩:=hW
 rw [hvars] at hV
 obtain ⟨rfl,rfl⟩:=ChangeShapes.trodVars_none hV
 rw [gT] at hb
 obtain ⟨c,h1,h2,h3,h6⟩:=aa3 (T:=T) hid (fun b hb=>hb) hps hA (fun j t v ht hv=>hval j t v (by simpa using ht) (by simpa using hv))
 obtain ⟨n,out,h4,h5⟩:=akT c h6 (by omega)
 refine (al6 (fun b hb=>⟨hb,rfl⟩) (hE n) h4 h5 h1 (Go.MuLone.run_callFunc_enter hf hname hbody args W)).mono ?_
 rintro e W' ⟨rfl,hO⟩
 have hsp:=hspec ds h3
 rw [gT] at hpq
 refine ⟨_,rfl,ds,[],before,[],p,[],hW', ?_, ?_, ?_,alY hO _,fun h=>by simp at h⟩
 ·rw [gT,hsp,hres]
  exact ⟨[],[],⟨1,by simp [DataW.trod,Value.cells,htb]⟩,rfl,rfl⟩
 ·rw [gT,hsp]
  exact abL hid hO (fun b hb=>by simpa using hb) hps hA
 ·rw [gT,hsp,hvars]
  exact rfl
end
end
section
open Go
structure uA where
 ty:List (TypeId×K)
 bytes:List (TypeId×Nat)
 ptr:List TypeId
 ids:Bool:=false
def look {A:Type} (n:Nat):List (Nat×A)->Option A
 | []=>none
 | (m,a) :: l=>bif Nat.beq n m then some a else look n l
def aaB (n:Nat):List (Nat×Nat)->Nat
 | []=>0
 | (m,a) :: l=>bif Nat.beq n m then a else aaB n l
def uA.tab (L:uA):bI:={ ty:=fun t=>look t L.ty,bytes:=fun t=>aaB t L.bytes,ptr:=fun t=>aa t L.ptr,eq:=fun _=>false,ids:=L.ids }
def Ji:K->Value->Bool
 | .int ik, .int jk (.ofNat 0)=>uH ik jk
 | .bool, .bool false=>true
 | .str, .string s=>Nat.beq s.data.size 0
 | .sl _ _, .slice none 0 0=>true
 | .id _, .slice none 0 0=>true
 | _,_=>false
def yx:K->List Value->Option (List Value)
 | .pair a b,l=>match yx a l with
  | some m=>yx b m
  | none=>none
 | .unit,l=>some l
 | .st f,l=>yx f l
 | .gap _,_=>none
 | k,v :: l=>bif Ji k v then some l else none
 | _,[]=>none
def Ta:K->Value->Bool
 | .st f, .agg arr=>match yx f arr.toList with
  | some []=>true
  | _=>false
 | .st _,_=>false
 | k,v=>Ji k v
def Ab (P:Program) (t:TypeId) (k:K):Bool:=match P.info? t with
 | some i=>Nat.beq i.size k.size && (match i.zero with
  | some v=>Ta k v
  | none=>false)
 | none=>false
def lq (P:Program) (T:bI):K->(TypeId->Bool)×(List Field->Nat->Bool)
 | .int ik=>(fun t=>(match P.underlying t with
  | some (.int jk)=>uH ik jk
  | _=>false) && Ab P t (.int ik),fun _ _=>false)
 | .bool=>(fun t=>(match P.underlying t with
  | some .bool=>true
  | _=>false) && Ab P t .bool,fun _ _=>false)
 | .str=>(fun t=>(match P.underlying t with
  | some .string=>true
  | _=>false) && Ab P t .str,fun _ _=>false)
 | .sl e k=>(fun t=>(match P.underlying t with
  | some (.slice e')=>Nat.beq e e'
  | _=>false) && Ab P t (.sl e k) && (lq P T k).1 e && Nat.blt 0 k.size && (match P.info? e with
  | some i=>Nat.beq i.bytes (T.bytes e) && Nat.blt 0 i.bytes
  | none=>false),fun _ _=>false)
 | .unit=>(fun _=>false,fun fs _=>fs.isEmpty)
 | .pair a b=>(fun _=>false,fun fs off=>match fs with
  | []=>false
  | f :: fs=>Nat.beq f.offset off && (lq P T a).1 f.type && Nat.blt 0 a.size && (lq P T b).2 fs (off+a.size))
 | .st c=>(fun t=>(match P.underlying t with
  | some (.struct fs)=>(lq P T c).2 fs.toList 0
  | _=>false) && Ab P t (.st c),fun _ _=>false)
 | .gap _=>(fun _=>false,fun _ _=>false)
 | .id e=>(fun t=>(match P.underlying t with
  | some (.slice e')=>Nat.beq e e'
  | _=>false) && Ab P t (.id e) && T.ids,fun _ _=>false)
def Ao (P:Program) (L:uA):Bool:=L.ty.all (fun q=>(lq P L.tab q.2).1 q.1) && L.ptr.all fun t=>match P.underlying t with
 | some (.pointer _)=>true
 | _=>false
section
variable [Fr] {P:Program} {T:bI}
theorem aah {k:K} {v:Value} (h:Ji k v=true):dR k=[v]/\jB k=v:=by
 unfold Ji at h
 split at h
 ·have:=Je h; subst this; exact ⟨rfl,rfl⟩
 ·exact ⟨rfl,rfl⟩
 ·rename_i s
  have:s=ByteArray.empty:=by
   have h1:=bB h
   obtain ⟨d⟩:=s
   have:d=#[]:=U9 h1
   subst this
   rfl
  subst this
  exact ⟨rfl,rfl⟩
 ·exact ⟨rfl,rfl⟩
 ·exact ⟨rfl,rfl⟩
 ·simp at h
theorem alQ:∀{k:K} {l m:List Value},yx k l=some m->l=dR k++m:=by
 intro k
 have one:∀{k:K} {l m:List Value},(match l with | v :: l=>(bif Ji k v then some l else none) | []=>none)=some m->l=dR k++m:=by
  intro k l m h
  cases l with
  | nil=>simp at h
  | cons v l=>
   obtain ⟨hb,h⟩:=zF h
   simp only [au] at h
   subst h
   rw [(aah hb).1]
   rfl
 induction k with
 | pair a b iha ihb=>
  intro l m h
  simp only [yx] at h
  split at h
  ·rename_i q hq
   rw [iha hq,ihb h]
   simp [dR]
  ·simp at h
 | unit=>intro l m h; simp only [yx,au] at h; subst h; rfl
 | st f ih=>intro l m h; exact ih (show yx f l=some m from h)
 | gap n=>intro l m h; simp [yx] at h
 | int ik=>intro l m h; exact one (k:=.int ik) (by cases l <;> exact h)
 | bool=>intro l m h; exact one (k:=.bool) (by cases l <;> exact h)
 | id e=>intro l m h; exact one (k:=.id e) (by cases l <;> exact h)
 | str=>intro l m h; exact one (k:=.str) (by cases l <;> exact h)
 | sl e k _=>intro l m h; exact one (k:=.sl e k) (by cases l <;> exact h)
theorem alR {k:K} {v:Value} (h:Ta k v=true):jB k=v:=by
 unfold Ta at h
 split at h
 ·rename_i f arr
  split at h
  ·rename_i hz
   have:=alQ hz
   simp only [gT] at this
   show Value.agg (dR f).toArray=.agg arr
   rw [<-this]
  ·simp at h
 ·simp at h
 ·exact (aah h).2
theorem Fp {t:TypeId} {k:K} (h:Ab P t k=true):sO P t k:=by
 unfold Ab at h
 split at h
 ·rename_i i hi
  simp only [bg] at h
  obtain ⟨h1,h2⟩:=h
  split at h2
  ·rename_i v hv
   exact ⟨i,hi,bB h1,by rw [hv,alR h2]⟩
  ·simp at h2
 ·simp at h
theorem QM {a b:Nat} (h:Nat.blt a b=true):a<b:=by
 unfold Nat.blt at h
 exact Mj h
theorem aog:∀{k:K},(∀t,(lq P T k).1 t=true->(jN P T k).1 t)/\∀fs off,(lq P T k).2 fs off=true->(jN P T k).2 fs off:=by
 intro k
 induction k with
 | int ik=>
  refine ⟨fun t h=>?_,fun fs off h=>by simp [lq] at h⟩
  simp only [lq,bg] at h
  obtain ⟨h1,h2⟩:=h
  split at h1
  ·rename_i jk hu
   have:=Je h1; subst this
   exact ⟨hu,Fp h2⟩
  ·simp at h1
 | bool=>
  refine ⟨fun t h=>?_,fun fs off h=>by simp [lq] at h⟩
  simp only [lq,bg] at h
  obtain ⟨h1,h2⟩:=h
  split at h1
  ·rename_i hu; exact ⟨hu,Fp h2⟩
  ·simp at h1
 | str=>
  refine ⟨fun t h=>?_,fun fs off h=>by simp [lq] at h⟩
  simp only [lq,bg] at h
  obtain ⟨h1,h2⟩:=h
  split at h1
  ·rename_i hu; exact ⟨hu,Fp h2⟩
  ·simp at h1
 | sl e k ih=>
  refine ⟨fun t h=>?_,fun fs off h=>by simp [lq] at h⟩
  simp only [lq,bg] at h
  obtain ⟨⟨⟨⟨h1,h2⟩,h3⟩,h4⟩,h5⟩:=h
  split at h1
  ·rename_i e' hu
   have:=bB h1; subst this
   split at h5
   ·rename_i i hi
    simp only [bg] at h5
    exact ⟨hu,Fp h2,ih.1 e h3,QM h4,i,hi,bB h5.1,QM h5.2⟩
   ·simp at h5
  ·simp at h1
 | unit=>exact ⟨fun t h=>by simp [lq] at h,fun fs off h=>show fs=[] by simpa [lq] using h⟩
 | gap n=>exact ⟨fun t h=>by simp [lq] at h,fun fs off h=>by simp [lq] at h⟩
 | id e=>
  refine ⟨fun t h=>?_,fun fs off h=>by simp [lq] at h⟩
  simp only [lq,bg] at h
  obtain ⟨⟨h1,h2⟩,h3⟩:=h
  split at h1
  ·rename_i e' hu
   have:=bB h1; subst this
   exact ⟨hu,Fp h2,h3⟩
  ·simp at h1
 | pair a b iha ihb=>
  refine ⟨fun t h=>by simp [lq] at h,fun fs off h=>?_⟩
  cases fs with
  | nil=>simp [lq] at h
  | cons f fs=>
   simp only [lq,bg] at h
   obtain ⟨⟨⟨h1,h2⟩,h3⟩,h4⟩:=h
   exact ⟨bB h1,iha.1 _ h2,QM h3,ihb.2 _ _ h4⟩
 | st c ih=>
  refine ⟨fun t h=>?_,fun fs off h=>by simp [lq] at h⟩
  simp only [lq,bg] at h
  obtain ⟨h1,h2⟩:=h
  split at h1
  ·rename_i fs hu
   exact ⟨⟨fs,hu,ih.2 _ _ h1⟩,Fp h2⟩
  ·simp at h1
theorem aaE {A:Type} {n:Nat} {a:A}:∀{l:List (Nat×A)},look n l=some a->(n,a)∈l
 | [],h=>by simp [look] at h
 | (m,b) :: l,h=>by
  simp only [look] at h
  cases hb:Nat.beq n m with
  | true=>
   rw [hb] at h
   have:=bB hb
   simp only [gM,au] at h
   subst this h
   simp
  | false=>
   rw [hb] at h
   exact .tail _ (aaE h)
theorem UN {L:uA} (h:Ao P L=true):fM P L.tab:=by
 unfold Ao at h
 simp only [bg,eO] at h
 refine ⟨fun t k ht=>aog.1 t (h.1 (t,k) (aaE ht)),fun t ht=>?_⟩
 have:=h.2 t (b_.1 ht)
 split at this
 ·rename_i e he; exact ⟨e,he⟩
 ·simp at this
theorem amL {L:uA}:wR P L.tab:=fun t c x y u v w hp1 hp2 ok1 ok2 _ he=>by simp [uA.tab] at he
end
end
section
open Go
abbrev Dh (T:bI) (hi:Hint) (fn:Func) (E:Entry):Prop:=∀n (c:Cont (kin E.ps)),MU T hi fn E.ps E.rs n c=E.F n c
variable [Fr] {P:Program} {n:Nat}
theorem aO:∀q∈([]:List (Nat×Option Nat×Entry)),aC P n q.2.2:=by simp
theorem aj {f:Nat} {d:Option Nat} {E:Entry} {l:List (Nat×Option Nat×Entry)} (h:aC P n E) (t:∀q∈l,aC P n q.2.2):∀q∈(f,d,E) :: l,aC P n q.2.2:=by
 intro q hq
 rcases bT.1 hq with rfl | hq
 ·exact h
 ·exact t q hq
theorem aP (hm:P.follows .mixedOrders=true) {L:uA} (hL:Ao P L=true) {E:Entry} {fn:Func} (hf:P.funcs[E.f]?=some fn) (hname:(fn.name == "runtime.NumGoroutine")=false) {hi:Hint} (hC:∀q∈hi.calls,aC P n q.2.2)
  (hD:∀n (c:Cont (kin E.ps)),MU L.tab hi fn E.ps E.rs n c=E.F n c):aC P n E:=
 ah7 hm (UN hL) amL hf hname hC (fun c out h=>by rw [hD]; exact h)
end
section
open Go
def rA {A:Type} (xs:List A) (i:Nat) (d:A) (f:A->A):List A:=xs.set i (f (xs.getD i d))
def gD {R:Type} (step:Nat->Option R) (fin:R):Nat->Nat->R
 | 0,_=>fin
 | m+1,i=>match step i with
  | some r=>r
  | none=>gD step fin m (i+1)
theorem anp {V R:Type} {B:(V->Option R)->V->Option R} (S:Nat->V) (step:Nat->Option (Option R)) (fin:Option R) {m:Nat} (h1:∀L i,i<m->(∀j,j<i->step j=none)->B L (S i)=match step i with | some r=>r | none=>L (S (i+1))) (h2:∀L,(∀j,j<m->step j=none)->B L (S m)=fin) :
  ∀(d i n:Nat),i+d=m->d<n->(∀j,j<i->step j=none)->rounds B n (S i)=gD step fin d i:=by
 intro d
 induction d with
 | zero=>
  intro i n hi hn hp
  cases n with
  | zero=>omega
  | succ n=>
   have:i=m:=by omega
   subst this
   exact h2 _ hp
 | succ d ih=>
  intro i n hi hn hp
  cases n with
  | zero=>omega
  | succ n=>
   show B (rounds B n) (S i)=_
   rw [h1 _ i (by omega) hp]
   unfold gD
   cases hs:step i with
   | some r=>rfl
   | none=>exact ih (i+1) n (by omega) (by omega) (fun j hj=>by
     by_cases e:j=i
     ·rw [e,hs]
     ·exact hp j (by omega))
theorem iy {V R:Type} {B:(V->Option R)->V->Option R} {v0:V} (S:Nat->V) (step:Nat->Option (Option R)) (fin:Option R) {m n:Nat} (h0:v0=S 0) (hn:m<n) (h1:∀L i,i<m->(∀j,j<i->step j=none)->B L (S i)=match step i with | some r=>r | none=>L (S (i+1))) (h2:∀L,(∀j,j<m->step j=none)->B L (S m)=fin) :
  rounds B n v0=gD step fin m 0:=by
 rw [h0]
 exact anp S step fin h1 h2 m 0 n (by omega) hn (fun j h=>by omega)
theorem oD {A:Type} {l:List A} {i:Nat} (h:i<l.length) (d:A):l.getD ((i:Int).toNat) d=l[i]:=by
 simp [h]
theorem mh {R:Type} {step:Nat->Option R} {fin:R}:∀{m i:Nat},(∀j,i<=j->j<i+m->step j=none)->gD step fin m i=fin:=by
 intro m
 induction m with
 | zero=>intro i _; rfl
 | succ m ih=>
  intro i h
  unfold gD
  rw [h i (bP _) (by omega)]
  exact ih (fun j h1 h2=>h j (by omega) (by omega))
theorem ajl {R:Type} {s1 s2:Nat->Option R} {f1 f2:R} (hf:f1=f2):∀{m i:Nat},(∀j,i<=j->j<i+m->s1 j=s2 j)->gD s1 f1 m i=gD s2 f2 m i:=by
 intro m
 induction m with
 | zero=>intro i _; exact hf
 | succ m ih=>
  intro i h
  unfold gD
  rw [h i (bP _) (by omega)]
  cases s2 i with
  | some r=>rfl
  | none=>exact ih (fun j h1 h2=>h j (by omega) (by omega))
theorem YL {R:Type} {step:Nat->Option R} {fin r:R} (hc:∀j,step j=none\/step j=some r):∀{m i:Nat},gD step fin m i=r\/gD step fin m i=fin:=by
 intro m
 induction m with
 | zero=>intro i; exact .inr rfl
 | succ m ih=>
  intro i
  unfold gD
  rcases hc i with h | h
  ·rw [h]; exact ih
  ·rw [h]; exact .inl rfl
theorem wrap_i64 {x:Int} (h1 : -9223372036854775808<=x) (h2:x<=9223372036854775807):IntKind.i64.wrap x=x:=by
 simp [IntKind.wrap,IntKind.bits,IntKind.signed]
 omega
theorem gp {i:Nat} {n:Nat} (h:i<n) (hn:n<=9223372036854775807):IntKind.i64.wrap ((i:Int)+1)=((i+1:Nat):Int):=by
 rw [wrap_i64 (by omega) (by omega)]
 omega
theorem dA {i n:Nat} (h:i<n):aN (i:Int) n:=⟨by omega,by omega⟩
end
section
open Go
variable [Fr]
section
variable {P:Program} {cx:Cx} {Z:St} {J:aH} {F:List Nat} {a:Act} {w w':World}
theorem Rel.grown (H:Rel cx Z J F a w) (hO:zf w w') (ht:w'.tape=w.tape):Rel cx Z J F a w':=H.YW hO.1 hO.2.1 hO.2.2.1 hO.2.2.2 ht
end
end
section
open Go
variable [Fr]
section
variable {P:Program} {cx:Cx} {Z:St} {J:aH} {F:List Nat} {a:Act} {w w':World}
theorem Rel.ajH (H:Rel cx Z J F a w) (hO:zf w w') (ht:w'.tape=w.tape) (G:List Nat) (hG:∀b∈G,w.heap.size<=b/\b<w'.heap.size) (hnd:G.Nodup):Rel cx Z J (G++F) a w':=by
 have hs:∀r,Same Z J Z J r:=fun r=>⟨rfl,rfl,rfl,rfl⟩
 have hch:∀b,b<w.heap.size->hp w' b=hp w b:=hO.2.2.2
 have T:iE cx Z J F w Z J (G++F) w' (fun _=>[]) (fun _=>[]):=by
  refine ⟨rfl,⟨hO.1,ht,hO.2.1⟩,hO.2.2.1,fun r R hr=>⟨R,hr, ?_⟩,fun r R' _ h=>absurd (hs r) h,fun r R' h1 h2=>by rw [h1] at h2; simp at h2,fun b hb hne=>absurd (hch b hb) hne, ?_, ?_,
   fun r R' _ h=>absurd (hs r) h,fun r R r' R' _ _ _ h=>absurd (hs r) h, ?_,fun r R R' h1 h2 _=>by rw [h1] at h2; simp only [au] at h2; subst h2; exact ⟨rfl,rfl⟩⟩
  ·cases hd:R.bZ with
   | true=>exact .inl ⟨rfl,fun hk=>by unfold Root.bZ at hd; rw [hk] at hd; simp at hd⟩
   | false=>exact .inr ⟨rfl,rfl,rfl,bP _,rfl,rfl,fun _=>rfl, .inr ⟨rfl,rfl,hs r⟩⟩
  ·rintro b (⟨r,R,h1,h2,h3⟩ | h)
   ·exact absurd ⟨R,h1,h2⟩ h3
   ·rcases bW.1 h with h | h
    ·exact .inr (.inl (hG b h))
    ·exact .inl h
  ·refine cK.2 ⟨hnd,H.iw,fun b h1 c h2 e=>?_⟩
   have:=(hG b h1).1
   have:=(H.fl c h2).1
   omega
  ·intro j pi b o n h1 h2 hne
   obtain ⟨R,hR,hk,hl,_⟩:=H.kP j pi b o n h1 h2
   exact absurd (hch b ((H.roots _ R hR).mine b (by simp [blk,aM,hk,hl])).1) hne
 exact H.turn T (fun r R _ h=>absurd (hs r) h) (fun r R _ h=>absurd (hs r) h) (fun r R _ h=>absurd (hs r) h)
def GV:(ps:List aV)->Cont (kin ps)->List Value->Prop
 | [],_,[]=>True
 | .val k _ :: ps,c,v :: vs=>(∃cs,VC k v cs/\Vw (fun _=>none) (fun _=>False) k c.1 cs)/\GV ps c.2 vs
 | .fn f [] :: ps,c,v :: vs=>v=.func (.func f) #[] #[]/\GV ps c vs
 | .into _ [] :: ps,c,v :: vs=>(∃b,v=.slice b 0 0)/\GV ps c vs
 | _,_,_=>False
def mU:List aV->Bool
 | []=>true
 | .val k _ :: ps=>k.flat && mU ps
 | .fn _ [] :: ps=>mU ps
 | .into _ [] :: ps=>mU ps
 | _=>false
theorem M0:∀{ps:List aV} {i:Nat} {c:Cont (kin ps)} {vs:List Value},mU ps=true->vs.length=ps.length->(∀j v,vs[j]?=some v->jr cx Z J F w (jl (gu ps i c) (i+j)) v)->GV ps c vs
 | [],_,_,[],_,_,_=>trivial
 | [],_,_,_ :: _,_,h,_=>by simp at h
 | .val k l :: ps,i,c,[],_,h,_=>by simp at h
 | .val k l :: ps,i,c,v :: vs,hf,hl,h=>by
  simp only [mU,bg] at hf
  have h0:=h 0 v rfl
  have e0:jl (gu (.val k l :: ps) i c) (i+0)=.one (.val k c.1 (bif k.flat then [] else (jy i,0) :: l.map fun j=>(ah j,0))):=by
   simp only [gu,jl,pO]
   rw [show Nat.beq i i=true from Nat.beq_refl i]
   rfl
  rw [e0] at h0
  obtain ⟨cs,h1,h2⟩:=h0 (.inl hf.1)
  refine ⟨⟨cs,h1,nk hf.1 h2⟩,M0 (i:=i+1) hf.2 (by simpa using hl) fun j u hu=>?_⟩
  have hj:=h (j+1) u (by simpa using hu)
  have e1:jl (gu (.val k l :: ps) i c) (i+(j+1))=jl (gu ps (i+1) c.2) (i+1+j):=by
   simp only [gu,jl]
   have hb:Nat.beq (i+(j+1)) i=false:=by
    cases hb:Nat.beq (i+(j+1)) i with
    | true=>have:=bB hb; omega
    | false=>rfl
   rw [hb,show i+(j+1)=i+1+j by omega]
   rfl
  rw [e1] at hj
  exact hj
 | .fn f [] :: ps,i,c,[],_,h,_=>by simp at h
 | .fn f [] :: ps,i,c,v :: vs,hf,hl,h=>by
  have hf':mU ps=true:=hf
  have h0:=h 0 v rfl
  have e0:jl (gu (.fn f [] :: ps) i c) (i+0)=.one (.fn f []):=by
   simp only [gu,jl,pO]
   rw [show Nat.beq i i=true from Nat.beq_refl i]
   rfl
  rw [e0] at h0
  obtain ⟨us,h1,h2⟩:=h0
  refine ⟨?_,M0 (i:=i+1) hf' (by simpa using hl) fun j u hu=>?_⟩
  ·cases us with
   | nil=>exact h1
   | cons u us=>exact h2.elim
  ·have hj:=h (j+1) u (by simpa using hu)
   have e1:jl (gu (.fn f [] :: ps) i c) (i+(j+1))=jl (gu ps (i+1) c) (i+1+j):=by
    simp only [gu,jl]
    have hb:Nat.beq (i+(j+1)) i=false:=by
     cases hb:Nat.beq (i+(j+1)) i with
     | true=>have:=bB hb; omega
     | false=>rfl
    rw [hb,show i+(j+1)=i+1+j by omega]
    rfl
   rw [e1] at hj
   exact hj
 | .fn f (_ :: _) :: _,_,_,_,hf,_,_=>by simp [mU] at hf
 | .ro _ :: _,_,_,_,hf,_,_=>by simp [mU] at hf
 | .rw _ _ _ _ :: _,_,_,_,hf,_,_=>by simp [mU] at hf
 | .bR _ _ _ :: _,_,_,_,hf,_,_=>by simp [mU] at hf
 | .own _ _ :: _,_,_,_,hf,_,_=>by simp [mU] at hf
 | .into _ [] :: ps,i,c,[],_,h,_=>by simp at h
 | .into m [] :: ps,i,c,v :: vs,hf,hl,h=>by
  have hf':mU ps=true:=hf
  have h0:=h 0 v rfl
  have e0:jl (gu (.into m [] :: ps) i c) (i+0)=.one .fI:=by
   simp only [gu,jl,pO]
   rw [show Nat.beq i i=true from Nat.beq_refl i]
   rfl
  rw [e0] at h0
  refine ⟨h0,M0 (i:=i+1) hf' (by simpa using hl) fun j u hu=>?_⟩
  have hj:=h (j+1) u (by simpa using hu)
  have e1:jl (gu (.into m [] :: ps) i c) (i+(j+1))=jl (gu ps (i+1) c) (i+1+j):=by
   simp only [gu,jl]
   have hb:Nat.beq (i+(j+1)) i=false:=by
    cases hb:Nat.beq (i+(j+1)) i with
    | true=>have:=bB hb; omega
    | false=>rfl
   rw [hb,show i+(j+1)=i+1+j by omega]
   rfl
  rw [e1] at hj
  exact hj
 | .into _ (_ :: _) :: _,_,_,_,hf,_,_=>by simp [mU] at hf
theorem Iz {Z:St}:∀{ps:List aV} {i:Nat} {c:Cont (gy ps)},mU ps=true->rQ Z ps i c
 | [],_,_,_=>trivial
 | .val k l :: ps,i,c,hf=>by
  simp only [mU,bg] at hf
  exact Iz (ps:=ps) (i:=i+1) (c:=c) hf.2
 | .fn f [] :: ps,i,c,hf=>Iz (ps:=ps) (i:=i+1) (c:=c) hf
 | .fn f (_ :: _) :: _,_,_,hf=>by simp [mU] at hf
 | .ro _ :: _,_,_,hf=>by simp [mU] at hf
 | .rw _ _ _ _ :: _,_,_,hf=>by simp [mU] at hf
 | .bR _ _ _ :: _,_,_,hf=>by simp [mU] at hf
 | .own _ _ :: _,_,_,hf=>by simp [mU] at hf
 | .into _ [] :: ps,i,c,hf=>Iz (ps:=ps) (i:=i+1) (c:=c) hf
 | .into _ (_ :: _) :: _,_,_,hf=>by simp [mU] at hf
def Xr (w w':World) (t:TypeId) (k:K) (xs:List (El k)) (v:Value):Prop:=
 (∃p,v=.slice p 0 0/\xs=[])\/∃g cap cur,v=.slice (some ⟨g,0,none⟩) xs.length cap/\w.heap.size<=g/\hp w' g=some (.cells cur t (0,0))/\xs.length<=cap/\cap * k.size<=cur.size/\
  ∀(i:Nat) (hi:i<xs.length),∃ds,Cells (hp w') g (i * k.size) ds/\Vw (fun _=>none) (fun _=>False) k xs[i] ds
theorem ahW {n:Nat} {f:FuncId} {ps:List aV} {t:TypeId} {k:K} {E:Nat->Cont (kin ps)->Option (Cont (eP [.own (.sl t k) [t] [] []]++gy ps))} (hps:mU ps=true) (hk:k.flat=true)
  (h:∀c out,E n c=some out->∀(args:Array Value) (w:World),(∀b,Fr.free b->hp w b=Fr.obj b)->GV ps c args.toList->Df P f args w fun v w'=>zf w w'/\w'.tape=w.tape/\Xr w w' t k out.1 v) :
  aC P n ⟨f,ps,[.own (.sl t k) [t] [] []],E⟩:=by
 intro c out hout cx J args w _ _ hsz _ H
 have hA:=M0 (cx:=cx) (Z:=fE ps c) (J:=J) (F:=[]) (w:=w) (i:=0) (c:=c) (vs:=args.toList) hps (by simpa using hsz) (fun j v hv=>by
  have:=H.slots j
  rw [wC] at hv
  rw [Gd,hv] at this
  rw [og]
  exact this)
 have hkt:k.tys=[]:=Ca hk
 have hpost:∀v w',(zf w w'/\w'.tape=w.tape/\Xr w w' t k out.1 v)->Post cx ps [.own (.sl t k) [t] [] []] out v w':=by
  rintro v w' ⟨h1,h2,h3⟩
  have hall:((K.sl t k).tys.all fun u=>aa u [t])=true:=by simp [K.tys,hkt,aa]
  rcases h3 with ⟨p,rfl,hx⟩ | ⟨g,cap,cur,rfl,g1,g2,g3,g4,g5⟩
  ·refine ⟨_,J,[],_,[_],[[]],H.grown h1 h2,rfl,⟨⟨[],[.slice p 0 0],[t], .inl hall,fun _ _ h=>h,J4, ?_⟩,trivial⟩,by simp,fun b hb=>by simp at hb,Iz hps⟩
   have e:(Cont.fst (eP [gK.own (.sl t k) [t] [] []]) (gy ps) out).1=([]:List (El k)):=hx
   rw [e]
   exact FE
  ·have hlt:g<w'.heap.size:=ak8 g2
   refine ⟨_,J,[g],_,[_],[[g]],H.ajH h1 h2 [g] (fun b hb=>by simp only [fV] at hb; subst hb; exact ⟨g1,hlt⟩) (by simp),rfl,⟨⟨[],[.slice (some ⟨g,0,none⟩) _ cap],[t], .inl hall,fun _ _ h=>h,⟨rfl,by simp⟩, ?_⟩,trivial⟩,by simp,fun b hb=>by simpa using hb,Iz hps⟩
   have e:(Cont.fst (eP [gK.own (.sl t k) [t] [] []]) (gy ps) out).1=out.1:=rfl
   rw [e]
   unfold Ow
   rw [ak (by simp [aa])]
   refine ⟨some ⟨g,0,none⟩,_,cap,rfl,rfl,g3, .inr ⟨g,0,cur,0,0,rfl,g2,jo.zero,by omega,List.replicate (@List.length (El k) out.1) [],by simp,by simp,fun i hi=>?_⟩⟩
   obtain ⟨ds,d1,d2⟩:=g5 i hi
   refine ⟨ds,by rw [og]; exact d1, ?_⟩
   have:(List.replicate (@List.length (El k) out.1) ([]:List Nat)).getD i []=[]:=by
    rw [h_,List.getElem?_replicate]
    split <;> rfl
   rw [this]
   exact zi (fun u hu=>by rw [hkt] at hu; simp at hu) (nk hk d2)
 rcases h c out hout args w (fun b hb=>H.fixed hb) hA with ⟨h1,h2⟩ | ⟨v,w',h1,h2⟩
 ·refine .inl ⟨h1,h2.mono ?_⟩
  rintro e w' ⟨v,rfl,hv⟩
  exact ⟨v,rfl,hpost v w' hv⟩
 ·exact .inr ⟨v,w',h1,hpost v w' h2⟩
end
end
section
open Go
variable [Fr]
section
variable {P:Program} {cx:Cx} {Z:St} {J:aH} {F:List Nat} {a:Act} {w w':World}
end
end
section
open Go
section
variable {e:TypeId} {kk:K}
def Rw (e:TypeId) (kk:K) (z:Bool) (tb:Nat->List (El kk)):(k k':K)->El k->El k'->List Nat->Prop
 | .sl f k, .id f',xs,i,ns=>f=e/\f'=e/\∃h:k=kk,h▸(show List (El k) from xs)=tb i/\((i≠(0:Nat)/\ns=[i])\/(z=true/\i=(0:Nat)/\tb 0=[]/\ns=[]))
 | .sl f k, .sl f' k',xs,ys,ns=>f=f'/\k'.size=k.size/\(show List (El k) from xs).length=(show List (El k') from ys).length/\∃nss:List (List Nat),nss.length=(show List (El k) from xs).length/\ns=nss.flatten/\
   ∀(i:Nat) (h1:i<(show List (El k) from xs).length) (h2:i<(show List (El k') from ys).length),Rw e kk z tb k k' ((show List (El k) from xs)[i]) ((show List (El k') from ys)[i]) (nss.getD i [])
 | .pair a b, .pair a' b',x,y,ns=>∃n1 n2,ns=n1++n2/\Rw e kk z tb a a' x.1 y.1 n1/\Rw e kk z tb b b' x.2 y.2 n2
 | .st f, .st f',x,y,ns=>Rw e kk z tb f f' x y ns
 | .int ik, .int jk,x,y,ns=>ik=jk/\(show Int from x)=y/\ns=[]
 | .bool, .bool,x,y,ns=>(show Bool from x)=y/\ns=[]
 | .str, .str,x,y,ns=>(show List Int from x)=y/\ns=[]
 | .unit, .unit,_,_,ns=>ns=[]
 | _,_,_,_,_=>False
theorem Rw.size {z:Bool} {tb:Nat->List (El kk)}:∀{k k':K} {x:El k} {y:El k'} {ns:List Nat},Rw e kk z tb k k' x y ns->k'.size=k.size:=by
 intro k
 induction k with
 | sl f k ih=>intro k' x y ns h; cases k' <;> first | rfl | exact h.elim
 | pair a b iha ihb=>
  intro k' x y ns h
  cases k' with
  | pair a' b'=>unfold Rw at h; obtain ⟨n1,n2,_,h1,h2⟩:=h; simp [K.size,iha h1,ihb h2]
  | _=>exact h.elim
 | st f ih=>
  intro k' x y ns h
  cases k' with
  | st f'=>unfold Rw at h; exact ih (k':=f') (x:=x) (y:=y) (ns:=ns) h
  | _=>exact h.elim
 | int ik=>intro k' x y ns h; cases k' <;> first | rfl | exact h.elim
 | bool=>intro k' x y ns h; cases k' <;> first | rfl | exact h.elim
 | str=>intro k' x y ns h; cases k' <;> first | rfl | exact h.elim
 | unit=>intro k' x y ns h; cases k' <;> first | rfl | exact h.elim
 | gap n=>intro k' x y ns h; cases k' <;> exact h.elim
 | id f=>intro k' x y ns h; cases k' <;> exact h.elim
abbrev nO:=Nat×Value×List Nat
def aY (l:List nO):List Nat:=l.flatMap (·.2.2)
theorem UT:∀(l:List (List nO)),aY l.flatten=(l.map aY).flatten
 | []=>rfl
 | a :: l=>by
  simp only [lX,lG]
  unfold aY at *
  rw [D6]
  congr 1
  exact UT l
theorem TZ {A:Type}:∀{ay fs gs:List (List A)},fs.length=ay.length->gs.length=ay.length->(∀i,i<ay.length->(ay.getD i []).Perm (fs.getD i []++gs.getD i []))->ay.flatten.Perm (fs.flatten++gs.flatten)
 | [],[],[],_,_,_=>.refl _
 | f :: ay,[],_,h,_,_=>by simp at h
 | f :: ay,_ :: _,[],_,h,_=>by simp at h
 | [],_ :: _,_,h,_,_=>by simp at h
 | [],[],_ :: _,_,h,_=>by simp at h
 | f :: ay,a :: fs,b :: gs,h1,h2,h=>by
  have h0:=h 0 (by simp)
  have ht:=TZ (ay:=ay) (fs:=fs) (gs:=gs) (by simpa using h1) (by simpa using h2) (fun i hi=>by have:=h (i+1) (by simpa using hi); simpa using this)
  simp only [lX]
  have h0':f.Perm (a++b):=by simpa using h0
  refine (h0'.append ht).trans ?_
  simp only [gJ]
  refine vg a ?_
  rw [<-gJ, <-gJ]
  exact sP _ Bu
variable [fr:Fr]
abbrev dW (fr:Fr) (bJ:Nat->Value) (h0:bJ 0=.slice none 0 0) (hs:∀i,∃a n c,bJ i=.slice a n c):Fr:=⟨fr.free,fr.obj,bJ,h0,hs⟩
theorem Xu {h:Heap} {own:List TypeId} {ok:Nat->Prop} {tb:Nat->List (El kk)}:∀{k k':K} {x:El k} {y:El k'} {ns:List Nat} {cs:List Value} {fo:List Nat},(∀t∈k.tys,aa t own=true)->
  Rw e kk false tb k k' x y ns->Ow h own ok k x cs fo->
  ∃(aQ:List nO) (aF:List Nat),aQ.map (·.1)=ns/\fo.Perm (aF++aY aQ)/\(∀q∈aQ,Ow h own ok (.sl e kk) (tb q.1) [q.2.1] q.2.2)/\
   ∀fr':Fr,fr'.free=fr.free->(∀q∈aQ,fr'.bJ q.1=q.2.1)->@Ow fr' h own ok k' y cs aF:=by
 intro k
 induction k with
 | sl f k ih=>
  intro k' x y ns cs fo hown hR hO
  cases k' with
  | id f'=>
   obtain ⟨rfl,rfl,hk,hx,hi⟩:=hR
   subst hk
   rcases hi with ⟨_,rfl⟩ | ⟨hz,_⟩
   ·have mq:=hO
    unfold Ow at hO
    rw [ak (hown f' (by simp [K.tys]))] at hO
    obtain ⟨a,n,c,rfl,_⟩:=hO
    refine ⟨[(y, .slice a n c,fo)],[],rfl,by simp [aY],fun q hq=>?_,fun fr' _ akM=>⟨rfl, ?_⟩⟩
    ·simp only [fV] at hq
     subst hq
     show Ow h own ok (.sl f' k) (tb y:List (El k)) _ _
     rw [<-hx]
     exact mq
    ·show _=[fr'.bJ y]
     rw [akM _ (fV.2 rfl)]
   ·simp at hz
  | sl f' k'=>
   obtain ⟨rfl,hsz,hl,nss,hnl,rfl,hat⟩:=hR
   have hf:aa f own=true:=hown f (by simp [K.tys])
   unfold Ow at hO
   rw [ak hf] at hO
   obtain ⟨a,n,c,rfl,hn,hnc,hO⟩:=hO
   rcases hO with ⟨hc,rfl⟩ | ⟨b,o,arr,lo,hi,rfl,hb,hfz,hoc,ay,hfl,hfo,hel⟩
   ·have h0:(show List (El k) from x).length=0:=by omega
    refine ⟨[],[], ?_,by simp [aY],fun q hq=>by simp at hq,fun fr' _ _=>?_⟩
    ·have:nss=[]:=List.length_eq_zero_iff.1 (by omega)
     rw [this]; rfl
    ·unfold Ow
     rw [ak hf]
     exact ⟨a,n,c,rfl,by omega,hnc, .inl ⟨hc,rfl⟩⟩
   ·have hone:∀i,i<(show List (El k) from x).length->∃q:List nO×List Nat,∀(h1:i<(show List (El k) from x).length) (h2:i<(show List (El k') from y).length),q.1.map (·.1)=nss.getD i []/\(ay.getD i []).Perm (q.2++aY q.1)/\(∀t∈q.1,Ow h own ok (.sl e kk) (tb t.1) [t.2.1] t.2.2)/\
      ∀fr':Fr,fr'.free=fr.free->(∀t∈q.1,fr'.bJ t.1=t.2.1)->∃ds, @Cells h b (o+i * k.size) ds/\@Ow fr' h own ok k' ((show List (El k') from y)[i]) ds q.2:=by
     intro i h1
     obtain ⟨ds,g1,g2⟩:=hel i h1
     obtain ⟨aQ,aF,f1,f2,f3,f4⟩:=ih (fun t ht=>hown t (by simp [K.tys,ht])) (hat i h1 (by omega)) g2
     exact ⟨(aQ,aF),fun _ _=>⟨f1,f2,f3,fun fr' e1 e2=>⟨ds,g1,f4 fr' e1 e2⟩⟩⟩
    obtain ⟨qs,Nq,hq⟩:=Yk hone
    refine ⟨(qs.map (·.1)).flatten,b :: (qs.map (·.2)).flatten, ?_, ?_, ?_,fun fr' e1 e2=>?_⟩
    ·rw [List.map_flatten,Mf]
     congr 1
     apply L6
     ·simp; omega
     ·intro i h1 h2
      have hi:i<qs.length:=by simpa using h1
      have:=(hq i hi (by omega) (by omega)).1
      simp only [List.getElem_map,Function.comp_apply]
      rw [this,h_,jc h2]
      rfl
    ·refine hfo.trans ?_
     rw [UT,lF]
     refine List.Perm.cons b (TZ (by simp; omega) (by simp; omega) fun i hi=>?_)
     have hi':i<qs.length:=by omega
     have:=(hq i hi' (by omega) (by omega)).2.1
     simp only [h_,D7,jc hi',oP,sV,Mf,Function.comp_apply] at this ⊢
     exact this
    ·intro t ht
     obtain ⟨l,hl,ht⟩:=Bt.1 ht
     obtain ⟨q,hq',rfl⟩:=fK.1 hl
     obtain ⟨i,hi,rfl⟩:=List.getElem_of_mem hq'
     exact (hq i hi (by omega) (by omega)).2.2.1 t ht
    ·unfold Ow
     rw [ak hf]
     refine ⟨_,n,c,rfl,by omega,hnc, .inr ⟨b,o,arr,lo,hi,rfl,hb,hfz, ?_,qs.map (·.2),by rw [oO,Nq]; exact hl, .refl _,fun i hi'=>?_⟩⟩
     ·rw [hsz]; exact hoc
     ·have Sd:i<qs.length:=by omega
      obtain ⟨ds,g1,g2⟩:=(hq i Sd (by omega) hi').2.2.2 fr' e1 (fun t ht=>e2 t (Bt.2 ⟨_,fK.2 ⟨qs[i],ku Sd,rfl⟩,ht⟩))
      refine ⟨ds, ?_, ?_⟩
      ·rw [hsz]; exact g1
      ·have:(qs.map (·.2)).getD i []=qs[i].2:=by simp [h_,D7,jc Sd]
       rw [this]
       exact g2
  | _=>exact hR.elim
 | pair a b iha ihb=>
  intro k' x y ns cs fo hown hR hO
  cases k' with
  | pair a' b'=>
   obtain ⟨n1,n2,rfl,r1,r2⟩:=hR
   obtain ⟨c1,c2,f1,f2,rfl,hp,o1,o2⟩:=hO
   obtain ⟨t1,g1,p1,p2,p3,p4⟩:=iha (fun t ht=>hown t (by simp [K.tys,ht])) r1 o1
   obtain ⟨t2,g2,q1,q2,q3,q4⟩:=ihb (fun t ht=>hown t (by simp [K.tys,ht])) r2 o2
   refine ⟨t1++t2,g1++g2,by rw [rM,p1,q1], ?_,fun q hq=>?_,fun fr' e1 e2=>⟨c1,c2,g1,g2,rfl, .refl _,p4 fr' e1 (fun q hq=>e2 q (bN _ hq)),q4 fr' e1 (fun q hq=>e2 q (bC _ hq))⟩⟩
   ·refine hp.trans ((p2.append q2).trans ?_)
    have:aY (t1++t2)=aY t1++aY t2:=by simp [aY]
    rw [this]
    simp only [gJ]
    refine vg g1 ?_
    rw [<-gJ, <-gJ]
    exact sP _ Bu
   ·rcases bW.1 hq with hq | hq
    ·exact p3 q hq
    ·exact q3 q hq
  | _=>exact hR.elim
 | st f ih=>
  intro k' x y ns cs fo hown hR hO
  cases k' with
  | st f'=>
   obtain ⟨aQ,aF,f1,f2,f3,f4⟩:=ih (k':=f') (x:=x) (y:=y) (ns:=ns) (cs:=cs) (fo:=fo) hown hR hO
   exact ⟨aQ,aF,f1,f2,f3,fun fr' e1 e2=>f4 fr' e1 e2⟩
  | _=>exact hR.elim
 | int ik=>
  intro k' x y ns cs fo hown hR hO
  cases k' with
  | int jk=>
   obtain ⟨rfl,rfl,rfl⟩:=hR
   exact ⟨[],fo,rfl,by simp [aY],fun q hq=>by simp at hq,fun _ _ _=>hO⟩
  | _=>exact hR.elim
 | bool=>
  intro k' x y ns cs fo hown hR hO
  cases k' with
  | bool=>
   obtain ⟨rfl,rfl⟩:=hR
   exact ⟨[],fo,rfl,by simp [aY],fun q hq=>by simp at hq,fun _ _ _=>hO⟩
  | _=>exact hR.elim
 | str=>
  intro k' x y ns cs fo hown hR hO
  cases k' with
  | str=>
   obtain ⟨rfl,rfl⟩:=hR
   exact ⟨[],fo,rfl,by simp [aY],fun q hq=>by simp at hq,fun _ _ _=>hO⟩
  | _=>exact hR.elim
 | unit=>
  intro k' x y ns cs fo hown hR hO
  cases k' with
  | unit=>
   have:ns=[]:=hR
   subst this
   exact ⟨[],fo,rfl,by simp [aY],fun q hq=>by simp at hq,fun _ _ _=>hO⟩
  | _=>exact hR.elim
 | gap n=>intro k' x y ns cs fo _ hR; cases k' <;> exact hR.elim
 | id f=>intro k' x y ns cs fo _ hR; cases k' <;> exact hR.elim
theorem ack {A B:Type} (f:A->B):∀{nss:List (List B)} {l:List A},l.map f=nss.flatten->∃pF:List (List A),pF.flatten=l/\pF.map (·.map f)=nss
 | [],l,h=>by
  have:l=[]:=by simpa using h
  exact ⟨[],by simp [this],rfl⟩
 | ns :: nss,l,h=>by
  rw [lX,List.map_eq_append_iff] at h
  obtain ⟨l1,l2,rfl,h1,h2⟩:=h
  obtain ⟨pF,g1,g2⟩:=ack f h2
  exact ⟨l1 :: pF,by simp [g1],by simp [h1,g2]⟩
theorem Qf {h:Heap} {own:List TypeId} {ok:Nat->Prop} {tb:Nat->List (El kk)} (fr':Fr):∀{k k':K} {x:El k} {y:El k'} {aQ:List nO} {cs:List Value} {aF:List Nat},(∀t∈k.tys,aa t own=true)->
  Rw e kk true tb k k' x y (aQ.map (·.1))->@Ow fr' h own ok k' y cs aF->(∀q∈aQ, @Ow fr h own ok (.sl e kk) (tb q.1) [q.2.1] q.2.2/\fr'.bJ q.1=q.2.1)->@Ow fr h own ok k x cs (aF++aY aQ):=by
 intro k
 induction k with
 | sl f k ih=>
  intro k' x y aQ cs aF hown hR hO htr
  cases k' with
  | id f'=>
   obtain ⟨rfl,rfl,hk,hx,hi⟩:=hR
   subst hk
   obtain ⟨rfl,hcs⟩:=hO
   have hcs:cs=[fr'.bJ y]:=hcs
   subst hcs
   rcases hi with ⟨_,hns⟩ | ⟨_,h0,hx0,hns⟩
   ·cases aQ with
    | nil=>simp at hns
    | cons q l=>
     cases l with
     | cons _ _=>simp at hns
     | nil=>
      simp only [lG,List.map_nil,jv,eY] at hns
      obtain ⟨g1,g2⟩:=htr q (by simp)
      rw [hns] at g1 g2
      have hx':(show List (El k) from x)=tb y:=hx
      show @Ow fr h own ok (.sl f' k) (show List (El k) from x) _ _
      rw [hx',g2]
      simpa [aY] using g1
   ·have ht:aQ=[]:=by simpa using hns
    subst ht
    have hy:y=(0:Nat):=h0
    subst hy
    have hx':(show List (El k) from x)=[]:=hx.trans hx0
    rw [fr'.SS]
    unfold Ow
    rw [ak (hown f' (by simp [K.tys]))]
    exact ⟨none,0,0,rfl,by rw [hx']; rfl,bP _, .inl ⟨rfl,rfl⟩⟩
  | sl f' k'=>
   obtain ⟨rfl,hsz,hl,nss,hnl,hns,hat⟩:=hR
   have hf:aa f own=true:=hown f (by simp [K.tys])
   unfold Ow at hO ⊢
   rw [ak hf] at hO ⊢
   obtain ⟨a,n,c,rfl,hn,hnc,hO⟩:=hO
   obtain ⟨pF,rfl,hts⟩:=ack (fun q:nO=>q.1) hns
   have htl:pF.length=nss.length:=by rw [<-hts,oO]
   rcases hO with ⟨hc,rfl⟩ | ⟨b,o,arr,lo,hi,rfl,hb,hfz,hoc,ay,hfl,hfo,hel⟩
   ·have h0:(show List (El k) from x).length=0:=by omega
    have:pF=[]:=List.length_eq_zero_iff.1 (by omega)
    subst this
    exact ⟨a,n,c,rfl,by omega,hnc, .inl ⟨hc,rfl⟩⟩
   ·have hone:∀i (hi1:i<(show List (El k) from x).length),∃ds,Cells h b (o+i * k.size) ds/\@Ow fr h own ok k ((show List (El k) from x)[i]) ds (ay.getD i []++aY (pF.getD i [])):=by
     intro i h1
     obtain ⟨ds,g1,g2⟩:=hel i (by omega)
     have hti:i<pF.length:=by omega
     have e1:pF.getD i []=pF[i]:=by simp [hti]
     have e2:nss.getD i []=(pF[i]).map (·.1):=by
      rw [<-hts]
      simp [hti]
     have hR':=hat i h1 (by omega)
     rw [e2] at hR'
     refine ⟨ds,by rw [<-hsz]; exact g1, ?_⟩
     rw [e1]
     exact ih (fun t ht=>hown t (by simp [K.tys,ht])) hR' g2 (fun q hq=>htr q (Bt.2 ⟨_,ku hti,hq⟩))
    refine ⟨_,n,c,rfl,by omega,hnc, .inr ⟨b,o,arr,lo,hi,rfl,hb,hfz,by rw [<-hsz]; exact hoc,(List.range (show List (El k) from x).length).map fun i=>ay.getD i []++aY (pF.getD i []),by simp, ?_,fun i h1=>?_⟩⟩
    ·refine (hfo.append_right _).trans ?_
     rw [lF]
     refine List.Perm.cons b ?_
     rw [UT]
     refine (TZ (ay:=(List.range (show List (El k) from x).length).map fun i=>ay.getD i []++aY (pF.getD i [])) (fs:=ay) (gs:=pF.map aY) (by rw [oO,List.length_range]; omega) (by rw [oO,oO,List.length_range]; omega) fun i hi1=>?_).symm
     have hi2:i<(show List (El k) from x).length:=by simpa using hi1
     have hti:i<pF.length:=by omega
     simp [h_,D7,L_,hi2,hti]
    ·obtain ⟨ds,g1,g2⟩:=hone i h1
     refine ⟨ds,g1, ?_⟩
     have:((List.range (show List (El k) from x).length).map fun i=>ay.getD i []++aY (pF.getD i [])).getD i []=ay.getD i []++aY (pF.getD i []):=by
      simp [h_,D7,L_,h1]
     rw [this]
     exact g2
  | _=>exact hR.elim
 | pair a b iha ihb=>
  intro k' x y aQ cs aF hown hR hO htr
  cases k' with
  | pair a' b'=>
   obtain ⟨n1,n2,hns,r1,r2⟩:=hR
   obtain ⟨c1,c2,f1,f2,rfl,hp,o1,o2⟩:=hO
   rw [List.map_eq_append_iff] at hns
   obtain ⟨t1,t2,rfl,rfl,rfl⟩:=hns
   refine ⟨c1,c2,f1++aY t1,f2++aY t2,rfl, ?_,iha (fun t ht=>hown t (by simp [K.tys,ht])) r1 o1 (fun q hq=>htr q (bN _ hq)),ihb (fun t ht=>hown t (by simp [K.tys,ht])) r2 o2 (fun q hq=>htr q (bC _ hq))⟩
   refine (hp.append_right _).trans ?_
   have:aY (t1++t2)=aY t1++aY t2:=by simp [aY]
   rw [this]
   simp only [gJ]
   refine vg f1 ?_
   rw [<-gJ, <-gJ]
   exact sP _ Bu
  | _=>exact hR.elim
 | st f ih=>
  intro k' x y aQ cs aF hown hR hO htr
  cases k' with
  | st f'=>exact ih (k':=f') (x:=x) (y:=y) (aQ:=aQ) (cs:=cs) (aF:=aF) hown hR hO htr
  | _=>exact hR.elim
 | int ik=>
  intro k' x y aQ cs aF hown hR hO htr
  cases k' with
  | int jk=>
   obtain ⟨rfl,rfl,hns⟩:=hR
   have:aQ=[]:=by simpa using hns
   subst this
   have e0:aF++aY []=aF:=gT _
   rw [e0]
   exact hO
  | _=>exact hR.elim
 | bool=>
  intro k' x y aQ cs aF hown hR hO htr
  cases k' with
  | bool=>
   obtain ⟨rfl,hns⟩:=hR
   have:aQ=[]:=by simpa using hns
   subst this
   have e0:aF++aY []=aF:=gT _
   rw [e0]
   exact hO
  | _=>exact hR.elim
 | str=>
  intro k' x y aQ cs aF hown hR hO htr
  cases k' with
  | str=>
   obtain ⟨rfl,hns⟩:=hR
   have:aQ=[]:=by simpa using hns
   subst this
   have e0:aF++aY []=aF:=gT _
   rw [e0]
   exact hO
  | _=>exact hR.elim
 | unit=>
  intro k' x y aQ cs aF hown hR hO htr
  cases k' with
  | unit=>
   have hns:aQ.map (·.1)=[]:=hR
   have:aQ=[]:=by simpa using hns
   subst this
   have e0:aF++aY []=aF:=gT _
   rw [e0]
   exact hO
  | _=>exact hR.elim
 | gap n=>intro k' x y aQ cs aF _ hR; cases k' <;> exact hR.elim
 | id f=>intro k' x y aQ cs aF _ hR; cases k' <;> exact hR.elim
def ry:K->Bool
 | .id _=>false
 | .sl _ k=>ry k
 | .pair a b=>ry a && ry b
 | .st f=>ry f
 | _=>true
theorem Qs {h:Heap} {ok:Nat->Prop} (fr':Fr) (hf:fr'.free=fr.free):∀{k:K} {x:El k} {cs:List Value},ry k=true->@Vw fr h ok k x cs->@Vw fr' h ok k x cs:=by
 intro k
 induction k with
 | sl f k ih=>
  intro x cs hk H
  obtain ⟨a,n,c,e1,e2,e3,H⟩:=H
  refine ⟨a,n,c,e1,e2,e3,fun hn=>?_⟩
  obtain ⟨b,o,ea,hb,ht,H⟩:=H hn
  refine ⟨b,o,ea,hb,ht.imp id (fun h=>by rw [hf]; exact h),fun i hi=>?_⟩
  obtain ⟨ds,h1,h2⟩:=H i hi
  exact ⟨ds,h1,ih hk h2⟩
 | pair a b iha ihb=>
  intro x cs hk H
  simp only [ry,bg] at hk
  obtain ⟨c1,c2,e,h1,h2⟩:=H
  exact ⟨c1,c2,e,iha hk.1 h1,ihb hk.2 h2⟩
 | st f ih=>intro x cs hk H; exact ih (x:=x) (cs:=cs) hk H
 | id f=>intro x cs hk; simp [ry] at hk
 | int ik=>intro x cs _ H; exact H
 | bool=>intro x cs _ H; exact H
 | str=>intro x cs _ H; exact H
 | unit=>intro x cs _ H; exact H
 | gap n=>intro x cs _ H; exact H
def iF (cx:Cx) (bad:List Nat):Cx:={ cx with
 par:=fun j=>(cx.par j).map fun pi=>{ pi with bl:=pi.bl.filter fun b=>!aa b bad }
 ptrs:=fun _ _ _ _=>False
 refs:=fun _ _=>False }
theorem rY {cx:Cx} {bad:List Nat} {j:Nat} {kG:Eb} (h:(iF cx bad).par j=some kG):∃pi,cx.par j=some pi/\kG={ pi with bl:=pi.bl.filter fun b=>!aa b bad }:=by
 simp only [iF,Option.map_eq_some_iff] at h
 obtain ⟨pi,h1,h2⟩:=h
 exact ⟨pi,h1,h2.symm⟩
theorem Q8 {cx:Cx} {bad:List Nat} {b:Nat}:nV (iF cx bad) b↔nV cx b:=by
 constructor
 ·rintro ⟨j,kG,o,n,h1,h2⟩
  obtain ⟨pi,g1,rfl⟩:=rY h1
  exact ⟨j,pi,o,n,g1,h2⟩
 ·rintro ⟨j,pi,o,n,h1,h2⟩
  exact ⟨j,{ pi with bl:=pi.bl.filter fun b=>!aa b bad },o,n,by simp [iF,h1],h2⟩
def BV (T:List Tag):Prop:=∀t∈T,g_ t.1=true
def xU:gQ->Prop
 | .one .undef=>True
 | .one (.ptr r p n)=>r=ah 0/\p=[]/\n=0
 | .one (.val k _ T)=>ry k=true/\BV T
 | .one (.fn _ cs)=>∀c∈cs,ry c.2.1.1=true/\BV c.2.2/\c.1=SENT
 | _=>False
section
variable {cx:Cx} {Z:St} {J:aH} {a:Act} {w:World}
theorem amQ {R0 R1:Root} {aF bad:List Nat} (h0:∀r R,aU Z r R->r=ah 0/\R=R0) (h1:aU Z (ah 0) R0) (hk:R1.kind=R0.kind) (hsub:∀b∈aF,b∈J.fo (ah 0)) (hbad:∀b∈bad,b∈J.fo (ah 0)) {T:List Tag} (hT:BV T) {b:Nat} (h:bH cx Z J [] w T b) :
  bH (iF cx bad) (aK Z (ah 0) R1) (aR J (ah 0) (J.loc (ah 0)) (J.hdr (ah 0)) aF) [] w T b:=by
 obtain ⟨g1,g2,g3,g4,g5⟩:=h
 refine ⟨g1,g2,fun hb=>g3 (Q8.1 hb),fun r R hr hb=>?_,fun hlt=>?_⟩
 ·rcases ug hr with ⟨rfl,rfl,_⟩ | ⟨e,hr'⟩
  ·rw [pU] at hb
   refine g4 _ R0 h1 ?_
   rw [jG]
   unfold jh at hb ⊢
   rw [hk] at hb
   rcases bW.1 hb with h | h
   ·exact bN _ h
   ·exact bC _ (hsub b h)
  ·exact absurd (h0 r R hr').1 e
 ·rcases g5 hlt with ⟨j,n,f1,f2⟩ | ⟨j,pi,f1,f2⟩
  ·exact .inl ⟨j,n,f1,f2⟩
  ·refine .inr ⟨j,{ pi with bl:=pi.bl.filter fun b=>!aa b bad },by simp [iF,f1], ?_⟩
   refine eG.2 ⟨f2, ?_⟩
   cases hm:aa b bad with
   | false=>rfl
   | true=>
    have hb:=hbad b (b_.1 hm)
    obtain ⟨n,hn⟩:=g4 _ R0 h1 (by rw [jG]; exact bC _ hb)
    have:=hT _ hn
    rw [Ad] at this
    simp at this
theorem Yl {Z:St} {tys:List TypeId} {T:List Tag} (h:BV T):cO Z tys T=true:=zK.2 fun t ht=>.inl (h t ht)
structure wO (cx:Cx) (Z:St) (J:aH) (R0 R1:Root) (aF bad:List Nat):Prop where
 only:∀r R,aU Z r R->r=ah 0/\R=R0
 lv:aU Z (ah 0) R0
 kind:R1.kind=R0.kind
 tags:R0.tags=[]
 sub:∀b∈aF,b∈J.fo (ah 0)
 bad:∀b∈bad,b∈J.fo (ah 0)
theorem wO.bH {R0 R1:Root} {aF bad:List Nat} (L:wO cx Z J R0 R1 aF bad) {T:List Tag} (hT:BV T) {b:Nat} (h:Ow.bH cx Z J [] w T b) :
  Ow.bH (iF cx bad) (aK Z (ah 0) R1) (aR J (ah 0) (J.loc (ah 0)) (J.hdr (ah 0)) aF) [] w T b:=amQ L.only L.lv L.kind L.sub L.bad hT h
theorem wO.wh {R0 R1:Root} {aF bad:List Nat} (L:wO cx Z J R0 R1 aF bad):aM (aR J (ah 0) (J.loc (ah 0)) (J.hdr (ah 0)) aF) R1 (ah 0)=aM J R0 (ah 0):=by
 rw [wB]
 unfold mY aM
 rw [L.kind] <;> cases R0.kind <;> rfl
theorem wO.av (fr':Fr) (hf:fr'.free=fr.free) {R0 R1:Root} {aF bad:List Nat} (L:wO cx Z J R0 R1 aF bad) {x:gQ} {v:Value} (hx:xU x) (h : @jr fr cx Z J [] w x v) :
  @jr fr' (iF cx bad) (aK Z (ah 0) R1) (aR J (ah 0) (J.loc (ah 0)) (J.hdr (ah 0)) aF) [] w x v:=by
 have hv0:cB Z R0:=⟨L.lv.2,by rw [L.tags]; rfl⟩
 cases x with
 | mK l=>exact hx.elim
 | lit _ _ _=>exact hx.elim
 | one x=>
  cases x with
  | undef=>trivial
  | ptr r p n=>
   obtain ⟨rfl,rfl,rfl⟩:=hx
   refine ⟨h.1,fun R hR _ _ _ _=>?_⟩
   rw [fF] at hR
   have hR:=jZ hR
   subst hR
   obtain ⟨_,cs,b,o,hn,e⟩:=h.2 R0 L.lv.1 hv0 (by unfold iW clean; simp [aa]) (fun t ht=>by simp [az] at ht) rfl
   simp only [aT,au,bS] at hn
   refine ⟨trivial,J.hdr (ah 0),b,o, ?_,e⟩
   simp only [aT]
   rw [L.wh,hn.2]
   simp [aR,upd_same]
  | val k x T=>
   intro _
   obtain ⟨cs,h1,h2⟩:=h (.inr (Yl hx.2))
   exact ⟨cs,h1, @Qs fr _ _ fr' hf _ _ _ hx.1 (@lS fr _ _ _ _ (fun _ _=>rfl) (fun b hb=>L.bH hx.2 hb) _ _ _ h2)⟩
  | fn f cs=>
   obtain ⟨vs,e,hc⟩:=h
   refine ⟨vs,e, ?_⟩
   clear e
   have key:∀(cs:List (TypeId×Dat×List Tag)) (vs:List Value),(∀c∈cs,ry c.2.1.1=true/\BV c.2.2/\c.1=SENT)->@nC fr cx Z J [] w cs vs->@nC fr' (iF cx bad) (aK Z (ah 0) R1) (aR J (ah 0) (J.loc (ah 0)) (J.hdr (ah 0)) aF) [] w cs vs:=by
    intro cs
    induction cs with
    | nil=>intro vs _ h; cases vs <;> exact h
    | cons c cs ih=>
     intro vs hc h
     cases vs with
     | nil=>exact h
     | cons v vs=>
      obtain ⟨⟨h1,h2⟩,h3⟩:=h
      obtain ⟨g1,g2,g3⟩:=hc c (by simp)
      refine ⟨⟨h1,fun _=>?_⟩,ih vs (fun c hc'=>hc c (by simp [hc'])) h3⟩
      obtain ⟨b,o,ds,e,q1,q2,⟨q3,q4,q5⟩,_⟩:=h2 (Yl g2)
      refine ⟨b,o,ds,e,q1, @Qs fr _ _ fr' hf _ _ _ g1 (@lS fr _ _ _ _ (fun _ _=>rfl) (fun b hb=>L.bH g2 hb) _ _ _ q2),⟨q3,q4,fun r R hr hb=>?_⟩, .inl ⟨g3,g2⟩⟩
      rcases ug hr with ⟨rfl,rfl,_⟩ | ⟨e,hr'⟩
      ·rw [pU] at hb
       refine q5 _ R0 L.lv ?_
       rw [jG]
       unfold jh at hb ⊢
       rw [L.kind] at hb
       rcases bW.1 hb with h | h
       ·exact bN _ h
       ·exact bC _ (L.sub b h)
      ·exact absurd (L.only r R hr').1 e
   exact key cs vs hx hc
  | _=>exact hx.elim
theorem SV:∀{aQ:List nO},(aQ.map (·.1)).Nodup->0∉aQ.map (·.1)->(∀q∈aQ,∃a n c,q.2.1=Value.slice a n c)->∃bJ:Nat->Value,bJ 0=.slice none 0 0/\(∀i,∃a n c,bJ i=.slice a n c)/\∀q∈aQ,bJ q.1=q.2.1
 | [],_,_,_=>⟨fun _=>.slice none 0 0,rfl,fun _=>⟨none,0,0,rfl⟩,fun q hq=>by simp at hq⟩
 | q :: l,hn,h0,hs=>by
  rw [lG,jg] at hn
  rw [lG,bT,not_or] at h0
  obtain ⟨bJ,g1,g2,g3⟩:=SV hn.2 h0.2 (fun q hq=>hs q (by simp [hq]))
  refine ⟨fun i=>if i=q.1 then q.2.1 else bJ i,by simp only [aA h0.1]; exact g1,fun i=>?_,fun t ht=>?_⟩
  ·by_cases h:i=q.1
   ·simp only [ak h]; exact hs q (by simp)
   ·simp only [aA h]; exact g2 i
  ·rcases bT.1 ht with rfl | ht
   ·simp only [a_]
   ·have hne:¬t.1=q.1:=fun e=>hn.1 (fK.2 ⟨t,ht,e⟩)
    simp only [aA hne]; exact g3 t ht
theorem abU {h:Heap} {own:List TypeId} {ok:Nat->Prop} {xs:List (El kk)} {v:Value} {fo:List Nat} (he:aa e own=true) (H:Ow h own ok (.sl e kk) xs [v] fo):∃a n c,v=.slice a n c:=by
 unfold Ow at H
 rw [ak he] at H
 obtain ⟨a,n,c,hv,_⟩:=H
 simp only [jv,eY] at hv
 exact ⟨a,n,c,hv⟩
theorem amb (H:Rel cx Z J [] a w) (hw0:cx.w0=w) {R0:Root} (hR0:aU Z (ah 0) R0) (lV:∀r,r≠ah 0->Z.roots r=none) (hpar:R0.kind=.par) (oI:R0.tags=[]) (hown:∀t∈R0.k.tys,aa t R0.own=true) (he:aa e R0.own=true)
  (hsl:∀s,xU (Z.slots s)) {k':K} {x':El k'} {tb:Nat->List (El kk)} {ns:List Nat} (hR:Rw e kk false tb R0.k k' R0.x x' ns) (hnd:ns.Nodup) (hn0:0∉ns) (hown':∀t∈k'.tys,aa t R0.own=true) :
  ∃(aQ:List nO) (aF:List Nat) (bJ:Nat->Value) (h0:bJ 0=.slice none 0 0) (hs:∀i,∃a n c,bJ i=.slice a n c),aQ.map (·.1)=ns/\(J.fo (ah 0)).Perm (aF++aY aQ)/\
   (∀q∈aQ, @Ow fr (hp w) R0.own (fun _=>False) (.sl e kk) (tb q.1) [q.2.1] q.2.2)/\(∀q∈aQ,bJ q.1=q.2.1)/\
   @Rel (dW fr bJ h0 hs) (iF cx (aY aQ)) (aK Z (ah 0) { R0 with k:=k',x:=x' }) (aR J (ah 0) (J.loc (ah 0)) (J.hdr (ah 0)) aF) [] a w:=by
 have K:=H.roots _ R0 hR0
 have hv0:cB Z R0:=⟨hR0.2,by rw [oI]; rfl⟩
 have hO:Ow (hp w) R0.own (fun _=>False) R0.k R0.x (J.hdr (ah 0)) (J.fo (ah 0)):=j4 (lu hown) (K.ow hv0)
 obtain ⟨aQ,aF,g1,g2,g3,g4⟩:=Xu hown hR hO
 obtain ⟨bJ,i1,i2,i3⟩:=SV (aQ:=aQ) (by rw [g1]; exact hnd) (by rw [g1]; exact hn0) (fun q hq=>abU he (g3 q hq))
 refine ⟨aQ,aF,bJ,i1,i2,g1,g2,g3,i3, ?_⟩
 have hblk:blk J R0 (ah 0)=(J.loc (ah 0)).1 :: J.fo (ah 0):=by unfold blk aM; rw [hpar]; rfl
 have hsub:∀b∈aF,b∈J.fo (ah 0):=fun b hb=>g2.mem_iff.2 (bN _ hb)
 have hbad:∀b∈aY aQ,b∈J.fo (ah 0):=fun b hb=>g2.mem_iff.2 (bC _ hb)
 have L:wO cx Z J R0 { R0 with k:=k',x:=x' } aF (aY aQ):=⟨fun r R hr=>by
  by_cases e:r=ah 0
  ·subst e; refine ⟨rfl, ?_⟩; have:=hr.1; rw [hR0.1] at this; exact (jZ this).symm
  ·have:=hr.1; rw [lV r e] at this; simp at this,hR0,rfl,oI,hsub,hbad⟩
 have kM:=K.nd
 rw [hblk] at kM
 have sF:=jg.1 kM
 have jI:=cK.1 (g2.nodup sF.2)
 have hlv:∀{q Q},aU (aK Z (ah 0) { R0 with k:=k',x:=x' }) q Q->q=ah 0/\Q={ R0 with k:=k',x:=x' }:=fun {q Q} hq=>by
  rcases ug hq with ⟨rfl,rfl,_⟩ | ⟨e,hq'⟩
  ·exact ⟨rfl,rfl⟩
  ·exact absurd (L.only q Q hq').1 e
 have hlv1:aU (aK Z (ah 0) { R0 with k:=k',x:=x' }) (ah 0) { R0 with k:=k',x:=x' }:=⟨fF ..,hR0.2⟩
 have hblk':blk (aR J (ah 0) (J.loc (ah 0)) (J.hdr (ah 0)) aF) { R0 with k:=k',x:=x' } (ah 0)=(J.loc (ah 0)).1 :: aF:=by
  rw [pU]; unfold jh; simp only [hpar]; rfl
 have jU:∀b∈(J.loc (ah 0)).1 :: aF,Ow.mine (iF cx (aY aQ)) w b:=fun b hb=>by
  have hb0:b∈blk J R0 (ah 0):=by
   rw [hblk]
   rcases bT.1 hb with h | h
   ·rw [h]; exact jE
   ·exact jD _ (hsub b h)
  obtain ⟨m1,m2⟩:=K.mine b hb0
  refine ⟨m1, ?_⟩
  rcases m2 with m2 | ⟨j,pi,m2,m3⟩
  ·exact .inl m2
  ·refine .inr ⟨j,{ pi with bl:=pi.bl.filter fun b=>!aa b (aY aQ) },by simp [iF,m2],eG.2 ⟨m3, ?_⟩⟩
   have:aa b (aY aQ)=false:=by
    rw [gV]
    intro hm
    rcases bT.1 hb with h | h
    ·subst h; exact sF.1 (hbad _ hm)
    ·exact jI.2.2 b h b hm rfl
   rw [this]; rfl
 have hpl:=H.mI
 refine @Rel.mk (dW fr bJ i1 i2) _ _ _ _ _ _ H.defs H.sz ?_ ?_ ?_ ?_ ?_ ?_ ?_ (fun b hb=>by simp at hb) mM (fun r R hr b hb h=>by simp at h) ?_ ?_ ?_ (fun j p ts v h=>h.elim) (fun j v h=>h.elim)
 ·intro j kG b o n hj hb
  obtain ⟨pi,hj',rfl⟩:=rY hj
  obtain ⟨R,f1,f2,f3,f4⟩:=H.kP j pi b o n hj' hb
  obtain ⟨e1,rfl⟩:=L.only _ R f1
  rw [e1] at f3 ⊢
  exact ⟨_,hlv1,hpar,by simp [aR,upd_same,f3],by show k'.size=n; rw [hR.size]; exact f4⟩
 ·intro r R hr hk
  obtain ⟨rfl,rfl⟩:=hlv hr
  obtain ⟨j,pi,n,f1,f2,f3⟩:=H.sI _ R0 hR0 hpar
  exact ⟨j,{ pi with bl:=pi.bl.filter fun b=>!aa b (aY aQ) },n,f1,by simp [iF,f2],by simp [aR,upd_same,f3]⟩
 ·intro s
  exact wO.av (fr:=fr) (dW fr bJ i1 i2) rfl L (hsl s) (H.slots s)
 ·intro s
  have hs:=hsl s
  show ny _ (Z.slots s)
  cases hx:Z.slots s with
  | mK l=>rw [hx] at hs; exact hs.elim
  | lit _ _ _=>rw [hx] at hs; exact hs.elim
  | one x=>
   rw [hx] at hs
   cases x with
   | undef=>trivial
   | ptr r p n=>obtain ⟨rfl,rfl,rfl⟩:=hs; exact ⟨_,fF .., .inr (gq _)⟩
   | val k x T=>exact fun t ht=>.inl (hs.2 t ht)
   | fn f cs=>exact fun c hc t ht=>.inl ((hs c hc).2.1 t ht)
   | _=>exact hs.elim
 ·intro r R hr
  obtain ⟨rfl,rfl⟩:=hlv hr
  refine @uz.mk (dW fr bJ i1 i2) _ _ _ _ _ _ _ (fun _=>?_) ?_ ?_ ?_ ?_
  ·have e1:(aR J (ah 0) (J.loc (ah 0)) (J.hdr (ah 0)) aF).hdr (ah 0)=J.hdr (ah 0):=by simp [aR,upd_same]
   have e2:(aR J (ah 0) (J.loc (ah 0)) (J.hdr (ah 0)) aF).fo (ah 0)=aF:=by simp [aR,upd_same]
   rw [e1,e2]
   exact @j4 (dW fr bJ i1 i2) _ _ _ _ _ _ _ _ (lu hown') (g4 (dW fr bJ i1 i2) rfl i3)
  ·show ((aR J (ah 0) (J.loc (ah 0)) (J.hdr (ah 0)) aF).hdr (ah 0)).length=k'.size
   rw [hR.size]
   simpa [aR,upd_same] using K.len
  ·intro b o hb
   rw [L.wh] at hb
   obtain ⟨m1,arr,e',lo,hi,m2,m3,m4,m5⟩:=K.mem b o hb
   refine ⟨by simpa [aR,upd_same] using m1,arr,e',lo,hi,m2,m3,by show o+k'.size<=_; rw [hR.size]; exact m4,m5⟩
  ·rw [hblk']
   exact jg.2 ⟨fun h=>sF.1 (hsub _ h),jI.1⟩
  ·intro b hb
   rw [hblk'] at hb
   exact jU b hb
 ·intro r R hr
  by_cases e:r=ah 0
  ·subst e
   rw [fF] at hr
   have hr:=jZ hr
   subst hr
   exact ⟨fun t ht=>by rw [show ({ R0 with k:=k',x:=x' }:Root).tags=R0.tags from rfl,oI] at ht; simp at ht,Ad 0,fun n hn=>by rw [show ({ R0 with k:=k',x:=x' }:Root).tags=R0.tags from rfl,oI] at hn; simp at hn⟩
  ·rw [jV _ _ e,lV r e] at hr; simp at hr
 ·intro r R r' R' hr hr' hne
  exact absurd ((hlv hr).1.trans (hlv hr').1.symm) hne
 ·obtain ⟨f1,f2,f3,f4,f5,f6⟩:=H.frame
  refine ⟨f1,f2,f3,f4,fun b _ _=>by show hp w b=hp cx.w0 b; rw [hw0],fun j kG b o n hj hb=>?_⟩
  obtain ⟨pi,hj',rfl⟩:=rY hj
  exact f6 j pi b o n hj' hb
 ·intro j kG hj hkp
  obtain ⟨pi,hj',rfl⟩:=rY hj
  obtain ⟨R,f1,f2⟩:=H.qb j pi hj' hkp
  by_cases e:ah j=ah 0
  ·refine ⟨_,by rw [e]; exact fF ..,fun _ b hb hnb=>.inr ⟨by show hp w b=hp cx.w0 b; rw [hw0],by simp,fun q Q hq _=>by rw [(hlv hq).1,e]⟩⟩
  ·rw [lV _ e] at f1; simp at f1
 ·refine ⟨fun j kG hj b hb=>?_,fun b hb=>⟨?_,fun j kG hj hbl=>?_⟩,fun b hb=>hpl.2.2 b hb⟩
  ·obtain ⟨pi,hj',rfl⟩:=rY hj
   exact hpl.1 j pi hj' b (eG.1 hb).1
  ·exact (hpl.2.1 b hb).1
  ·obtain ⟨pi,hj',rfl⟩:=rY hj
   exact (hpl.2.1 b hb).2 j pi hj' (eG.1 hbl).1
theorem Mq {h:Heap} {own own':List TypeId} {ok:Nat->Prop}:∀{k:K} {x:El k} {cs:List Value} {fo:List Nat},(∀t∈k.tys,aa t own=aa t own')->Ow h own ok k x cs fo->Ow h own' ok k x cs fo:=by
 intro k
 induction k with
 | sl f k ih=>
  intro x cs fo ht H
  have hf:=ht f (by simp [K.tys])
  unfold Ow at H ⊢
  cases hm:aa f own with
  | true=>
   rw [ak hm] at H
   rw [ak (by rw [<-hf]; exact hm)]
   obtain ⟨a,n,c,e1,e2,e3,H⟩:=H
   refine ⟨a,n,c,e1,e2,e3, ?_⟩
   rcases H with H | ⟨b,o,arr,lo,hi,ea,hb,hz,hs,ay,hl,hp,H⟩
   ·exact .inl H
   ·refine .inr ⟨b,o,arr,lo,hi,ea,hb,hz,hs,ay,hl,hp,fun i hi=>?_⟩
    obtain ⟨ds,h1,h2⟩:=H i hi
    exact ⟨ds,h1,ih (fun t h=>ht t (by simp [K.tys,h])) h2⟩
  | false=>
   rw [aA (by rw [hm]; simp)] at H
   rw [aA (by rw [<-hf,hm]; simp)]
   exact H
 | pair a b iha ihb=>
  intro x cs fo ht H
  obtain ⟨c1,c2,f1,f2,e,hp,h1,h2⟩:=H
  exact ⟨c1,c2,f1,f2,e,hp,iha (fun t h=>ht t (by simp [K.tys,h])) h1,ihb (fun t h=>ht t (by simp [K.tys,h])) h2⟩
 | st f ih=>intro x cs fo ht H; exact ih (x:=x) ht H
 | int ik=>intro x cs fo _ H; exact H
 | bool=>intro x cs fo _ H; exact H
 | id e=>intro x cs fo _ H; exact H
 | str=>intro x cs fo _ H; exact H
 | unit=>intro x cs fo _ H; exact H
 | gap n=>intro x cs fo _ H; exact H
theorem ag0 {z:Bool} {tb:Nat->List (El kk)} {k k':K} {x:El k} {y:El k'} {ns:List Nat} {v:Value} {cs:List Value} (hR:Rw e kk z tb k k' x y ns) (h:VC k' v cs):VC k v cs:=by
 cases k <;> cases k' <;> first | exact hR.elim | exact h
def H9 (e:TypeId) (kk:K) (tb:Nat->List (El kk)):(rs rs':List gK)->Cont (eP rs)->Cont (eP rs')->List Nat->Prop
 | [],[],_,_,ns=>ns=[]
 | .val k _ _ :: rs, .val k' _ _ :: rs',c,c',ns=>(∃h:k=k',k.flat=true/\ry k=true/\h▸c.1=c'.1)/\H9 e kk tb rs rs' c.2 c'.2 ns
 | .own k ow _ _ :: rs, .own k' ow' _ _ :: rs',c,c',ns=>∃n1 n2,ns=n1++n2/\((k.tys.all fun t=>aa t ow)=true/\(k'.tys.all fun t=>aa t ow')=true/\Rw e kk true tb k k' c.1 c'.1 n1)/\H9 e kk tb rs rs' c.2 c'.2 n2
 | _,_,_,_,_=>False
theorem select {aQ:List nO}:∀{ns:List Nat},(∀n∈ns,n∈aQ.map (·.1))->∃l:List nO,l.map (·.1)=ns/\∀q∈l,q∈aQ
 | [],_=>⟨[],rfl,fun q hq=>by simp at hq⟩
 | n :: ns,h=>by
  obtain ⟨l,h1,h2⟩:=select (ns:=ns) (fun n hn=>h n (by simp [hn]))
  obtain ⟨q,hq,e⟩:=fK.1 (h n (by simp))
  exact ⟨q :: l,by simp [h1,e],fun t ht=>by
   rcases bT.1 ht with rfl | ht
   ·exact hq
   ·exact h2 t ht⟩
theorem UU:∀{aQ:List nO},(aY aQ).Nodup->(aQ.map (·.1)).Nodup->∀q∈aQ,q.2.2.Nodup/\∀q'∈aQ,q.1≠q'.1->∀b∈q.2.2,b∉q'.2.2
 | [],_,_,q,hq=>by simp at hq
 | t :: l,hn,hm,q,hq=>by
  have e:aY (t :: l)=t.2.2++aY l:=rfl
  rw [e] at hn
  obtain ⟨n1,n2,n3⟩:=cK.1 hn
  rw [lG,jg] at hm
  have hin:∀q∈l,∀b∈q.2.2,b∈aY l:=fun q hq b hb=>jY.2 ⟨q,hq,hb⟩
  rcases bT.1 hq with rfl | Nq
  ·refine ⟨n1,fun q' hq' hne b hb hb'=>?_⟩
   rcases bT.1 hq' with rfl | hq'
   ·exact hne rfl
   ·exact n3 b hb b (hin q' hq' b hb') rfl
  ·obtain ⟨g1,g2⟩:=UU n2 hm.2 q Nq
   refine ⟨g1,fun q' hq' hne b hb hb'=>?_⟩
   rcases bT.1 hq' with rfl | hq'
   ·exact n3 b hb' b (hin q Nq b hb) rfl
   ·exact g2 q' hq' hne b hb hb'
theorem UW {aQ:List nO} (hn:(aY aQ).Nodup) (hm:(aQ.map (·.1)).Nodup):∀{l:List nO},(∀q∈l,q∈aQ)->(l.map (·.1)).Nodup->(aY l).Nodup
 | [],_,_=>mM
 | t :: l,hs,hl=>by
  have e:aY (t :: l)=t.2.2++aY l:=rfl
  rw [e]
  rw [lG,jg] at hl
  refine cK.2 ⟨(UU hn hm t (hs t (by simp))).1,UW hn hm (fun q hq=>hs q (by simp [hq])) hl.2,fun b hb c hc BQ=>?_⟩
  subst BQ
  obtain ⟨q,hq,hb'⟩:=jY.1 hc
  exact (UU hn hm t (hs t (by simp))).2 q (hs q (by simp [hq])) (fun e=>hl.1 (fK.2 ⟨q,hq,e.symm⟩)) b hb hb'
theorem amd (fr':Fr) (hf:fr'.free=fr.free) {tK:Cx} {Z':St} {J':aH} {F':List Nat} {w':World} {tb:Nat->List (El kk)} {O:List TypeId} (hO:∀t∈(K.sl e kk).tys,aa t O=true)  :
  ∀{rs rs':List gK} {c:Cont (eP rs)} {c':Cont (eP rs')} {vs:List Value} {ay:List (List Nat)} {aQ:List nO},H9 e kk tb rs rs' c c' (aQ.map (·.1))->@vv fr' tK Z' J' F' w' rs' c' vs ay->
   (∀q∈aQ, @Ow fr (hp w') O (fun _=>False) (.sl e kk) (tb q.1) [q.2.1] q.2.2/\fr'.bJ q.1=q.2.1)->
   ∃EI,(∀Z1 aI F1, @vv fr cx Z1 aI F1 w' rs c vs EI)/\EI.flatten.Perm (ay.flatten++aY aQ):=by
 intro rs
 induction rs with
 | nil=>
  intro rs' c c' vs ay aQ hR hL htr
  cases rs' with
  | cons _ _=>exact hR.elim
  | nil=>
   have ht:aQ=[]:=by simpa using (show aQ.map (·.1)=[] from hR)
   subst ht
   cases vs with
   | cons _ _=>exact hL.elim
   | nil=>cases ay with
    | cons _ _=>exact hL.elim
    | nil=>exact ⟨[],fun _ _ _=>trivial, .refl _⟩
 | cons r rs ih=>
  intro rs' c c' vs ay aQ hR hL htr
  cases rs' with
  | nil=>cases r <;> exact hR.elim
  | cons r' rs'=>
   cases r with
   | into _ _=>exact hR.elim
   | ptr _ _ _ _=>exact hR.elim
   | val k ex pr=>
    cases r' with
    | val k' ex' pr'=>
     obtain ⟨⟨hk,h1,h2,h3⟩,hR⟩:=hR
     subst hk
     cases vs with
     | nil=>exact hL.elim
     | cons v vs=>
      cases ay with
      | nil=>exact hL.elim
      | cons fo ay=>
       obtain ⟨⟨rfl,T,cs,g1,g2,g3⟩,hL⟩:=hL
       obtain ⟨EI,q1,q2⟩:=ih hR hL htr
       refine ⟨[] :: EI,fun Z1 aI F1=>⟨⟨rfl,[],cs, .inl h1,g2, ?_⟩,q1 Z1 aI F1⟩,by simpa using q2⟩
       have h3:c.1=c'.1:=h3
       rw [h3]
       exact @nk fr _ _ _ _ _ _ _ h1 (@Qs fr' _ _ fr hf.symm _ _ _ h2 g3)
    | _=>exact hR.elim
   | own k ow ex pr=>
    cases r' with
    | own k' ow' ex' pr'=>
     obtain ⟨n1,n2,hns,⟨a1,a2,a3⟩,hR⟩:=hR
     rw [List.map_eq_append_iff] at hns
     obtain ⟨t1,t2,rfl,rfl,rfl⟩:=hns
     cases vs with
     | nil=>exact hL.elim
     | cons v vs=>
      cases ay with
      | nil=>exact hL.elim
      | cons fo ay=>
       obtain ⟨⟨T,cs,amZ,g1,g2,g3,g4⟩,hL⟩:=hL
       obtain ⟨EI,q1,q2⟩:=ih hR hL (fun q hq=>htr q (bC _ hq))
       have hk':∀t∈k'.tys,aa t amZ=true:=fun t ht=>g2 t ht (eO.1 a2 t ht)
       let O2:List TypeId:=O++k.tys++k'.tys
       have m1:∀t∈k.tys,aa t O2=true:=fun t ht=>b_.2 (bN _ (bC _ ht))
       have m2:∀t∈k'.tys,aa t O2=true:=fun t ht=>b_.2 (bC _ ht)
       have m3:∀t∈(K.sl e kk).tys,aa t O2=true:=fun t ht=>b_.2 (bN _ (bN _ (b_.1 (hO t ht))))
       have g5 : @Ow fr' (hp w') O2 (fun _=>False) k' c'.1 cs fo:=@j4 fr' _ _ _ _ _ _ _ _ (lu m2) (@Mq fr' _ _ _ _ _ _ _ _ (fun t ht=>by rw [hk' t ht,m2 t ht]) g4)
       have g6:=Qf (fr:=fr) fr' m1 a3 g5 (fun q hq=>by
        obtain ⟨f1,f2⟩:=htr q (bN _ hq)
        exact ⟨@Mq fr _ _ _ _ _ _ _ _ (fun t ht=>by rw [hO t ht,m3 t ht]) f1,f2⟩)
       refine ⟨(fo++aY t1) :: EI,fun Z1 aI F1=>⟨⟨[],cs,O2, .inl a1,fun t ht _=>m1 t ht,ag0 a3 g3, @j4 fr _ _ _ _ _ _ _ _ (lu m1) g6⟩,q1 Z1 aI F1⟩, ?_⟩
       simp only [lX]
       have et:aY (t1++t2)=aY t1++aY t2:=by simp [aY]
       rw [et]
       refine (q2.append_left (fo++aY t1)).trans ?_
       simp only [gJ]
       refine vg fo ?_
       rw [<-gJ, <-gJ]
       exact sP _ Bu
    | _=>exact hR.elim
end
end
end
section
open Go
section
variable {e:TypeId} {kk:K} [fr:Fr]
variable {cx:Cx} {Z:St} {J:aH} {a:Act} {w:World}
def r_ (k:K) (x:El k) (ow wt ht:List TypeId):Root:={ k,x,own:=ow,tags:=[],w:=wt,h:=ht,g:=0,kind:=.par,fixed:=false,keep:=true,ew:=[],eh:=ht }
def vL (R:Root):St:=⟨fun _=>.one .undef,fun r=>bif Nat.beq r (ah 0) then some R else none⟩
def BR (loc:Nat×Nat) (hdr:List Value) (fo:List Nat):aH:=⟨fun _=>loc,fun _=>hdr,fun _=>fo⟩
theorem BS {R:Root} {r:Nat} {Q:Root} (h:(vL R).roots r=some Q):r=ah 0/\Q=R:=by
 unfold vL at h
 simp only at h
 cases hb:Nat.beq r (ah 0) with
 | true=>rw [hb] at h; exact ⟨bB hb,(jZ h).symm⟩
 | false=>rw [hb] at h; simp at h
theorem zP {R:Root}:(vL R).roots (ah 0)=some R:=by simp [vL]
theorem al_ (H:Rel cx Z J [] a w) (hw0:cx.w0=w) {R0:Root} (hR0:aU Z (ah 0) R0) (lV:∀r,r≠ah 0->Z.roots r=none) (hpar:R0.kind=.par) (hg0:R0.g=0) (hv0:cB Z R0)
  (hown:∀t∈R0.k.tys,aa t R0.own=true) {k':K} (hown':∀t∈k'.tys,aa t R0.own=true) (sD:∀t∈(K.sl e kk).tys,aa t R0.own=true)
  {tb:Nat->List (El kk)} {aQ:List nO} {aF:List Nat} {bJ:Nat->Value} {h0:bJ 0=.slice none 0 0} {hs:∀i,∃a n c,bJ i=.slice a n c}
  (hperm:(J.fo (ah 0)).Perm (aF++aY aQ)) (hnd:(aQ.map (·.1)).Nodup) (hrow:∀q∈aQ, @Ow fr (hp w) R0.own (fun _=>False) (.sl e kk) (tb q.1) [q.2.1] q.2.2) (hid:∀q∈aQ,bJ q.1=q.2.1)
  {Z1:St} {aI:aH} {F1:List Nat} {a1:Act} {w':World} (H1 : @Rel (dW fr bJ h0 hs) (iF cx (aY aQ)) Z1 aI F1 a1 w') {Q:Root} (hQ:Z1.roots (ah 0)=some Q) (Cg:cB Z1 Q) (EL:Q.k=k') (RP:∀t∈k'.tys,aa t Q.own=true)
  {wt ht:List TypeId} (hwt:iL Q.w wt=true/\iL Q.ew wt=true) (hwk:∀t∈(K.sl e kk).tys,t∈wt) (IY:jM∈ht)
  {y:El R0.k} {jW:List nO} (hP:Rw e kk true tb R0.k Q.k y Q.x (jW.map (·.1))) (yj:∀q∈jW,q∈aQ)
  {rs rs':List gK} {c:Cont (eP rs)} {c':Cont (eP rs')} {vs:List Value} {ay:List (List Nat)} {um:List nO} (hRs:∀q∈um,q∈aQ) (hRR:H9 e kk tb rs rs' c c' (um.map (·.1)))
  (hL : @vv (dW fr bJ h0 hs) (iF cx (aY aQ)) Z1 aI F1 w' rs' c' vs ay) (hfn:ay.flatten.Nodup) (qA:∀b∈ay.flatten,b∈F1) (hall:((um++jW).map (·.1)).Nodup)
  (tX:∀j p ts v,cx.ptrs j p ts v->∃k,ts=iW p k) :
  ∃iN vN,Rel cx (vL (r_ R0.k y R0.own wt ht)) iN vN.flatten a1 w'/\vv cx (vL (r_ R0.k y R0.own wt ht)) iN vN.flatten w' rs c vs vN/\vN.flatten.Nodup:=by
 have K0:=H.roots _ R0 hR0
 have hlv1:aU Z1 (ah 0) Q:=⟨hQ,Cg.1⟩
 have K1:=@Rel.roots (dW fr bJ h0 hs) _ _ _ _ _ _ H1 _ Q hlv1
 have Px:=@uz.ow (dW fr bJ h0 hs) _ _ _ _ _ _ _ K1
 have Pt:=@uz.len (dW fr bJ h0 hs) _ _ _ _ _ _ _ K1
 have afu:=@uz.mem (dW fr bJ h0 hs) _ _ _ _ _ _ _ K1
 have Pw:=@uz.nd (dW fr bJ h0 hs) _ _ _ _ _ _ _ K1
 have Pv:=@uz.mine (dW fr bJ h0 hs) _ _ _ _ _ _ _ K1
 have Sz:∀r R,aU Z r R->r=ah 0/\R=R0:=fun r R hr=>by
  by_cases e:r=ah 0
  ·subst e; refine ⟨rfl, ?_⟩; have:=hr.1; rw [hR0.1] at this; exact (jZ this).symm
  ·have:=hr.1; rw [lV r e] at this; simp at this
 obtain ⟨j0,T9,n0,p1,p2,p3⟩:=H.sI _ R0 hR0 hpar
 obtain ⟨Q',q1,q2,q3,q4⟩:=@Rel.kP (dW fr bJ h0 hs) _ _ _ _ _ _ H1 j0 { T9 with bl:=T9.bl.filter fun b=>!aa b (aY aQ) } (J.loc (ah 0)).1 (J.loc (ah 0)).2 n0 (by simp [iF,p2]) p3
 rw [<-p1] at q1 q3
 have eQ:Q'=Q:=by have:=q1.1; rw [hQ] at this; exact (jZ this).symm
 subst eQ
 have IQ:blk J R0 (ah 0)=(J.loc (ah 0)).1 :: J.fo (ah 0):=by unfold blk aM; rw [hpar]; rfl
 have hblk1:blk aI Q' (ah 0)=(J.loc (ah 0)).1 :: aI.fo (ah 0):=by unfold blk aM; rw [q2]; simp [q3]
 have hsize:w.heap.size<=w'.heap.size:=by have:=(@Rel.frame (dW fr bJ h0 hs) _ _ _ _ _ _ H1).2.2.2.1; simpa [iF,hw0] using this
 have kM:=K0.nd
 rw [IQ] at kM
 have sF:=jg.1 kM
 have jI:=cK.1 (hperm.nodup sF.2)
 have hbad:∀b∈aY aQ,b∈J.fo (ah 0):=fun b hb=>hperm.mem_iff.2 (bC _ hb)
 have Ch:∀b∈aY aQ,b∈blk J R0 (ah 0):=fun b hb=>by rw [IQ]; exact jD _ (hbad b hb)
 have hno:∀b∈aY aQ,¬Ow.mine (iF cx (aY aQ)) w' b:=fun b hb hm=>by
  have hlt:=(K0.mine b (Ch b hb)).1
  rcases hm.2 with h | ⟨j,kG,h1,h2⟩
  ·have:w.heap.size<=b:=by simpa [iF,hw0] using h
   omega
  ·obtain ⟨pi,_,rfl⟩:=rY h1
   have:=(eG.1 h2).2
   rw [b_.2 hb] at this
   simp at this
 have hsame:∀b∈aY aQ,hp w' b=hp w b:=fun b hb=>by
  have hlt:=(K0.mine b (Ch b hb)).1
  have:=(@Rel.frame (dW fr bJ h0 hs) _ _ _ _ _ _ H1).2.2.2.2.1 b (by simpa [iF,hw0] using hlt) (fun j kG h1 h2=>by
   obtain ⟨pi,_,rfl⟩:=rY h1
   have:=(eG.1 h2).2
   rw [b_.2 hb] at this
   simp at this)
  simpa [iF,hw0] using this
 have hrow':∀q∈aQ, @Ow fr (hp w') R0.own (fun _=>False) (.sl e kk) (tb q.1) [q.2.1] q.2.2:=fun q hq=>
  dZ (fun _ h=>h.elim) (fun _ h=>h) (fun b hb=>hsame b (jY.2 ⟨q,hq,hb⟩)) (hrow q hq)
 obtain ⟨vN,r1,r2⟩:=amd (fr:=fr) (cx:=cx) (dW fr bJ h0 hs) rfl sD hRR hL (fun q hq=>⟨hrow' q (hRs q hq),hid q (hRs q hq)⟩)
 have Nr:∀b∈aY um,b∈aY aQ:=fun b hb=>by
  obtain ⟨q,hq,h⟩:=jY.1 hb
  exact jY.2 ⟨q,hRs q hq,h⟩
 have Ct:∀b∈aY jW,b∈aY aQ:=fun b hb=>by
  obtain ⟨q,hq,h⟩:=jY.1 hb
  exact jY.2 ⟨q,yj q hq,h⟩
 have hsel:(aY um++aY jW).Nodup:=by
  have:=UW jI.2.1 hnd (l:=um++jW) (fun q hq=>(bW.1 hq).elim (hRs q) (yj q)) hall
  have e:aY (um++jW)=aY um++aY jW:=by simp [aY]
  rwa [e] at this
 obtain ⟨hnR,Sn,IJ⟩:=cK.1 hsel
 have Nk:∀b∈F1,Ow.mine (iF cx (aY aQ)) w' b:=@Rel.fl (dW fr bJ h0 hs) _ _ _ _ _ _ H1
 have zZ:∀b∈(J.loc (ah 0)).1 :: aI.fo (ah 0),Ow.mine (iF cx (aY aQ)) w' b:=fun b hb=>Pv b (by rw [hblk1]; exact hb)
 have I1:∀b,Ow.mine (iF cx (aY aQ)) w' b->Ow.mine cx w' b:=fun b hb=>⟨hb.1,hb.2.imp (fun h=>h) (fun ⟨j,kG,h1,h2⟩=>by
  obtain ⟨pi,h3,rfl⟩:=rY h1
  exact ⟨j,pi,h3,(eG.1 h2).1⟩)⟩
 have Nl:∀b∈aY aQ,Ow.mine cx w' b:=fun b hb=>by
  obtain ⟨m1,m2⟩:=K0.mine b (Ch b hb)
  exact ⟨by omega,m2⟩
 have ZG:vN.flatten.Nodup:=r2.nodup_iff.2 (cK.2 ⟨hfn,hnR,fun b hb c hc BQ=>by subst BQ; exact hno b (Nr b hc) (Nk b (qA b hb))⟩)
 have IE:∀b∈vN.flatten,b∈ay.flatten\/b∈aY um:=fun b hb=>bW.1 (r2.mem_iff.1 hb)
 refine ⟨BR (J.loc (ah 0)) (aI.hdr (ah 0)) (aI.fo (ah 0)++aY jW),vN, ?_,r1 _ _ _,ZG⟩
 have tV:∀{r R},aU (vL (r_ R0.k y R0.own wt ht)) r R->r=ah 0/\R=r_ R0.k y R0.own wt ht:=fun h=>BS h.1
 have EN:blk (BR (J.loc (ah 0)) (aI.hdr (ah 0)) (aI.fo (ah 0)++aY jW)) (r_ R0.k y R0.own wt ht) (ah 0)=(J.loc (ah 0)).1 :: (aI.fo (ah 0)++aY jW):=rfl
 have I5:=Pw
 rw [hblk1] at I5
 have ZF:=jg.1 I5
 have hf1:=@Rel.frame (dW fr bJ h0 hs) _ _ _ _ _ _ H1
 have hfd1:=@Rel.fC (dW fr bJ h0 hs) _ _ _ _ _ _ H1
 have iI:∀b o,aM (BR (J.loc (ah 0)) (aI.hdr (ah 0)) (aI.fo (ah 0)++aY jW)) (r_ R0.k y R0.own wt ht) (ah 0)=some (b,o)->J.loc (ah 0)=(b,o):=fun b o h=>jZ h
 have Ns:R0.k.size=Q'.k.size:=hP.size.symm
 have SB:∀j p ts v,cx.ptrs j p ts v->ah j=ah 0:=fun j p ts v h=>by
  obtain ⟨_,R,f1,_⟩:=H.q9 j p ts v h
  refine kQ fun e=>?_
  rw [lV _ e] at f1
  simp at f1
 have hdf:=@Rel.defs (dW fr bJ h0 hs) _ _ _ _ _ _ H1
 have hsz0:=@Rel.sz (dW fr bJ h0 hs) _ _ _ _ _ _ H1
 have hsz1:cx.nt<=a1.tmps.size:=hsz0
 have Sk:=@Rel.qb (dW fr bJ h0 hs) _ _ _ _ _ _ H1
 refine ⟨hdf,hsz1, ?_, ?_,fun s=>trivial,fun s=>trivial, ?_, ?_, ?_, ?_,ZG, ?_, ?_, ?_, ?_, ?_, ?_⟩
 ·intro j pi b o n hj hb
  obtain ⟨R,f1,f2,f3,f4⟩:=H.kP j pi b o n hj hb
  obtain ⟨e1,rfl⟩:=Sz _ R f1
  rw [e1] at f3 ⊢
  exact ⟨_,⟨zP,rfl⟩,rfl,f3,f4⟩
 ·intro r R hr _
  obtain ⟨rfl,rfl⟩:=tV hr
  exact ⟨j0,T9,n0,p1,p2,p3⟩
 ·intro r R hr
  obtain ⟨rfl,rfl⟩:=tV hr
  refine ⟨fun _=>?_,by show (aI.hdr (ah 0)).length=R0.k.size; rw [Pt,Ns],fun b o hb=>?_, ?_,fun b hb=>?_⟩
  ·have o1 : @Ow (dW fr bJ h0 hs) (hp w') R0.own (fun _=>False) Q'.k Q'.x (aI.hdr (ah 0)) (aI.fo (ah 0)):=by
    have hk1:∀t∈Q'.k.tys,aa t Q'.own=true:=fun t ht=>RP t (by rw [<-EL]; exact ht)
    have hk2:∀t∈Q'.k.tys,aa t R0.own=true:=fun t ht=>hown' t (by rw [<-EL]; exact ht)
    exact @j4 (dW fr bJ h0 hs) _ _ _ _ _ _ _ _ (lu hk2) (@Mq (dW fr bJ h0 hs) _ _ _ _ _ _ _ _ (fun t ht=>by rw [hk1 t ht,hk2 t ht]) (Px Cg))
   have o2:=Qf (fr:=fr) (dW fr bJ h0 hs) hown hP o1 (fun q hq=>⟨hrow' q (yj q hq),hid q (yj q hq)⟩)
   exact j4 (lu hown) o2
  ·have hbo:=iI b o hb
   obtain ⟨m1,arr,e',lo,hi,m2,m3,m4,m5⟩:=afu b o (by unfold aM; rw [q2]; simp [q3,hbo])
   exact ⟨m1,arr,e',lo,hi,m2,m3,by show o+R0.k.size<=_; rw [Ns]; exact m4,fun t ht=>by simp [r_] at ht⟩
  ·rw [EN]
   refine jg.2 ⟨fun h=>?_,cK.2 ⟨ZF.2,Sn,fun b hb c hc BQ=>by subst BQ; exact hno b (Ct b hc) (zZ b (jD _ hb))⟩⟩
   rcases bW.1 h with h | h
   ·exact ZF.1 h
   ·exact hno _ (Ct _ h) (zZ _ jE)
  ·rw [EN] at hb
   rcases bT.1 hb with h | h
   ·exact I1 b (zZ b (by rw [h]; exact jE))
   ·rcases bW.1 h with h | h
    ·exact I1 b (zZ b (jD _ h))
    ·exact Nl b (Ct b h)
 ·intro r R hr
  obtain ⟨rfl,rfl⟩:=BS hr
  exact ⟨fun t ht=>by simp [r_] at ht,Ad 0,fun n hn=>by simp [r_] at hn⟩
 ·intro r R r' R' hr hr' hne
  exact absurd ((tV hr).1.trans (tV hr').1.symm) hne
 ·intro b hb
  rcases IE b hb with h | h
  ·exact I1 b (Nk b (qA b h))
  ·exact Nl b (Nr b h)
 ·intro r R hr b hb lK
  obtain ⟨rfl,rfl⟩:=tV hr
  rw [EN] at hb
  have hc1:b∈(J.loc (ah 0)).1 :: aI.fo (ah 0)\/b∈aY jW:=by
   rcases bT.1 hb with h | h
   ·exact .inl (by rw [h]; exact jE)
   ·exact (bW.1 h).imp (fun h=>jD _ h) id
  rcases hc1 with h | h
  ·rcases IE b lK with g | g
   ·exact hfd1 _ Q' hlv1 b (by rw [hblk1]; exact h) (qA b g)
   ·exact hno b (Nr b g) (zZ b h)
  ·rcases IE b lK with g | g
   ·exact hno b (Ct b h) (Nk b (qA b g))
   ·exact IJ b g b h rfl
 ·obtain ⟨f1,f2,f3,f4,f5,f6⟩:=hf1
  refine ⟨f1,f2,f3,f4,fun b hb hnb=>f5 b hb (fun j kG h1 h2=>?_),fun j pi b o n hj hb=>?_⟩
  ·obtain ⟨pi,h3,rfl⟩:=rY h1
   exact hnb j pi h3 (eG.1 h2).1
  ·exact f6 j { pi with bl:=pi.bl.filter fun b=>!aa b (aY aQ) } b o n (by simp [iF,hj]) hb
 ·intro j pi hj hkp
  obtain ⟨R,f1,_⟩:=H.qb j pi hj hkp
  have ej:ah j=ah 0:=kQ fun ne=>by rw [lV _ ne] at f1; simp at f1
  refine ⟨r_ R0.k y R0.own wt ht,by rw [ej]; exact zP,fun _ b hb hnb=>?_⟩
  have hone:∀q Q,aU (vL (r_ R0.k y R0.own wt ht)) q Q->b∈blk (BR (J.loc (ah 0)) (aI.hdr (ah 0)) (aI.fo (ah 0)++aY jW)) Q q->q=ah j:=fun q Q hq _=>by rw [(tV hq).1,ej]
  by_cases hbt:b∈aY aQ
  ·by_cases hbR:b∈aY um
   ·obtain ⟨q,hq,h⟩:=jY.1 hbR
    obtain ⟨t,t1,_,t3⟩:=zh (hrow q (hRs q hq)) b h
    exact .inl ⟨t,by rw [hw0]; exact t3, .inl (hwk t t1)⟩
   ·refine .inr ⟨by rw [hw0]; exact hsame b hbt,fun hF=>?_,hone⟩
    rcases IE b hF with g | g
    ·exact hno b hbt (Nk b (qA b g))
    ·exact hbR g
  ·obtain ⟨R1,k1,k2⟩:=Sk j { pi with bl:=pi.bl.filter fun b=>!aa b (aY aQ) } (by simp [iF,hj]) hkp
   have eR:R1=Q':=by rw [ej,hQ] at k1; exact (jZ k1).symm
   subst eR
   rcases k2 Cg.1 b (eG.2 ⟨hb,by rw [gV.2 hbt]; rfl⟩) (fun h=>hnb (Q8.1 h)) with ⟨t,t1,t2⟩ | ⟨t1,t2,_⟩
   ·exact .inl ⟨t,t1, .inl (t2.elim (rD.1 hwt.1 t) (rD.1 hwt.2 t))⟩
   ·refine .inr ⟨t1,fun hF=>?_,hone⟩
    rcases IE b hF with g | g
    ·exact t2 (qA b g)
    ·exact hbt (Nr b g)
 ·refine ⟨fun j pi hj b hb=>H.mI.1 j pi hj b hb,fun b hb=>H.mI.2.1 b hb,fun b hb=>H.mI.2.2 b hb⟩
 ·intro j p ts v hv
  have ej:=SB j p ts v hv
  obtain ⟨g1,R,f1,f2⟩:=H.q9 j p ts v hv
  obtain ⟨k0,rfl⟩:=tX j p ts v hv
  refine ⟨g1,r_ R0.k y R0.own wt ht,by rw [ej]; exact zP,fun hts=>?_⟩
  cases p with
  | cons s p=>exact absurd IY (hts jM (by simp [iW]))
  | nil=>
   refine ⟨g1,fun R' hR' _ _ _ _=>?_⟩
   rw [ej] at hR'
   obtain ⟨_,rfl⟩:=BS hR'
   obtain ⟨_,cs,b,o,hn,ev⟩:=(f2 (fun t ht=>by simp [iW] at ht)).2 R0 (by rw [ej]; exact hR0.1) hv0 (by unfold iW clean; simp [aa]) (fun t ht=>by simp [az] at ht) rfl
   rw [ej] at hn
   simp only [aT,au,bS] at hn
   refine ⟨trivial,aI.hdr (ah 0),b,o, ?_,ev⟩
   have h2:=hn.2
   unfold aM at h2
   rw [hpar] at h2
   rw [ej]
   simp only [aT]
   exact congrArg (fun z=>some (aI.hdr (ah 0),z)) h2
 ·intro j v hv
  obtain ⟨⟨R,f1⟩,f2⟩:=H.rq j v hv
  have ej:ah j=ah 0:=kQ fun ne=>by rw [lV _ ne] at f1; simp at f1
  rw [ej] at f2
  have:=(f2 R0 hR0 hg0).1
  rw [hpar] at this
  simp at this
end
end
section
open Go
def jK:List aV->Bool
 | []=>true
 | .val k [] :: l=>ry k && jK l
 | .fn _ ks :: l=>ks.all ry && jK l
 | _=>false
section
variable [Fr]
theorem FT:∀{ps:List aV} {i:Nat} {c:Cont (kin ps)},jK ps=true->iJ ps i c=[]
 | [],_,_,_=>rfl
 | .val k [] :: ps,i,c,h=>by
  simp only [jK,bg] at h
  exact FT (ps:=ps) (i:=i+1) (c:=c.2) h.2
 | .fn f ks :: ps,i,c,h=>by
  simp only [jK,bg] at h
  exact FT (ps:=ps) (i:=i+1) (c:=Cont.snd ks (kin ps) c) h.2
 | .val _ (_ :: _) :: _,_,_,h=>by simp [jK] at h
 | .ro _ :: _,_,_,h=>by simp [jK] at h
 | .rw _ _ _ _ :: _,_,_,h=>by simp [jK] at h
 | .bR _ _ _ :: _,_,_,h=>by simp [jK] at h
 | .own _ _ :: _,_,_,h=>by simp [jK] at h
 | .into _ _ :: _,_,_,h=>by simp [jK] at h
theorem Yc (i:Nat):∀{ks:List K} {c:Cont ks},ks.all ry=true->∀q∈gu.xZ i ks c,ry q.2.1.1=true/\BV q.2.2/\q.1=SENT
 | [],_,_,q,hq=>by simp [gu.xZ] at hq
 | k :: ks,c,h,q,hq=>by
  simp only [List.all_cons,bg] at h
  simp only [gu.xZ] at hq
  rcases bT.1 hq with rfl | hq
  ·exact ⟨h.1,fun t ht=>by simp only [fV] at ht; subst ht; exact uJ i,rfl⟩
  ·exact Yc i h.2 q hq
theorem N7:∀{ps:List aV} {i:Nat} {c:Cont (kin ps)},jK ps=true->∀s,xU (jl (gu ps i c) s)
 | [],_,_,_,s=>trivial
 | .val k [] :: ps,i,c,h,s=>by
  simp only [jK,bg] at h
  simp only [gu,jl]
  cases Nat.beq s i with
  | true=>
   refine ⟨h.1,fun t ht=>?_⟩
   cases hf:k.flat with
   | true=>rw [hf] at ht; simp at ht
   | false=>rw [hf] at ht; simp at ht; subst ht; exact uJ i
  | false=>exact N7 (ps:=ps) (i:=i+1) (c:=c.2) h.2 s
 | .fn f ks :: ps,i,c,h,s=>by
  simp only [jK,bg] at h
  simp only [gu,jl]
  cases Nat.beq s i with
  | true=>exact Yc i h.1
  | false=>exact N7 (ps:=ps) (i:=i+1) (c:=Cont.snd ks (kin ps) c) h.2 s
 | .val _ (_ :: _) :: _,_,_,h,_=>by simp [jK] at h
 | .ro _ :: _,_,_,h,_=>by simp [jK] at h
 | .rw _ _ _ _ :: _,_,_,h,_=>by simp [jK] at h
 | .bR _ _ _ :: _,_,_,h,_=>by simp [jK] at h
 | .own _ _ :: _,_,_,h,_=>by simp [jK] at h
 | .into _ _ :: _,_,_,h,_=>by simp [jK] at h
theorem NZ {Z:St}:∀{ps:List aV} {i:Nat} {c:Cont (gy ps)},jK ps=true->rQ Z ps i c
 | [],_,_,_=>trivial
 | .val k [] :: ps,i,c,h=>by
  simp only [jK,bg] at h
  exact NZ (ps:=ps) (i:=i+1) (c:=c) h.2
 | .fn f ks :: ps,i,c,h=>by
  simp only [jK,bg] at h
  exact NZ (ps:=ps) (i:=i+1) (c:=c) h.2
 | .val _ (_ :: _) :: _,_,_,h=>by simp [jK] at h
 | .ro _ :: _,_,_,h=>by simp [jK] at h
 | .rw _ _ _ _ :: _,_,_,h=>by simp [jK] at h
 | .bR _ _ _ :: _,_,_,h=>by simp [jK] at h
 | .own _ _ :: _,_,_,h=>by simp [jK] at h
 | .into _ _ :: _,_,_,h=>by simp [jK] at h
theorem Xy {e:TypeId} {kk:K} {z:Bool} {tb:Nat->List (El kk)} {k k1 k2:K} {x:El k} {y1:El k1} {y2:El k2} {ns:List Nat} (ek:k1=k2) (ey:y2=ek▸y1) (h:Rw e kk z tb k k2 x y2 ns):Rw e kk z tb k k1 x y1 ns:=by
 subst ek
 simp only at ey
 subst ey
 exact h
end
theorem aat [fr:Fr] {e:TypeId} {kk:K} {P:Program} {n:Nat} {f:FuncId} {k k':K} {ow wt ht dY ht':List TypeId} {rest:List aV} {rs rs':List gK}
  {F:Nat->Cont (kin (.rw k ow wt ht :: rest))->Option (Cont (eP rs++gy (.rw k ow wt ht :: rest)))} {F':Nat->Cont (kin (.rw k' ow dY ht' :: rest))->Option (Cont (eP rs'++gy (.rw k' ow dY ht' :: rest)))}
  (hrest:jK rest=true) (hown:∀t∈k.tys,aa t ow=true) (hown':∀t∈k'.tys,aa t ow=true) (sD:∀t∈(K.sl e kk).tys,aa t ow=true)
  (hE:∀fr:Fr, @aC fr P n ⟨f, .rw k' ow dY ht' :: rest,rs',F'⟩) (hwt:iL dY wt=true) (hwk:∀t∈(K.sl e kk).tys,t∈wt) (IY:jM∈ht)
  (hF:∀c out,F n c=some out->∃(x':El k') (ns ms1 ms2:List Nat) (tb:Nat->List (El kk)) (out':Cont (eP rs'++gy (.rw k' ow dY ht' :: rest))),Rw e kk false tb k k' c.1 x' ns/\ns.Nodup/\0∉ns/\F' n (x',c.2)=some out'/\
   H9 e kk tb rs rs' (Cont.fst _ _ out) (Cont.fst _ _ out') ms1/\Rw e kk true tb k k' (Cont.snd _ _ out).1 (Cont.snd _ _ out').1 ms2/\(ms1++ms2).Nodup/\∀m∈ms1++ms2,m∈ns) :
  aC P n ⟨f, .rw k ow wt ht :: rest,rs,F⟩:=by
 intro c out hout cx J args w hnt hw hsz hP H
 obtain ⟨x',ns,ms1,ms2,tb,out',hR,hnd,hn0,hF',hRR,IJ,hmm,hsub⟩:=hF c out hout
 have ha:(k.tys.all fun t=>aa t ow)=true:=eO.2 hown
 have ha':(k'.tys.all fun t=>aa t ow)=true:=eO.2 hown'
 have Cs:∀r,(fE (.rw k ow wt ht :: rest) c).roots r=bif Nat.beq r (ah 0) then some (bK k c.1 ow [] .par true) else none:=fun r=>by
  show iK (iJ (.rw k ow wt ht :: rest) 0 c) r=_
  simp only [iJ,FT hrest,iK,ha,gM]
 have hR0:aU (fE (.rw k ow wt ht :: rest) c) (ah 0) (bK k c.1 ow [] .par true):=⟨by rw [Cs]; simp,rfl⟩
 have lV:∀r,r≠ah 0->(fE (.rw k ow wt ht :: rest) c).roots r=none:=fun r hr=>by
  rw [Cs]
  have:Nat.beq r (ah 0)=false:=by
   cases hb:Nat.beq r (ah 0) with
   | true=>exact absurd (bB hb) hr
   | false=>rfl
  rw [this]; rfl
 have hsl:∀s,xU ((fE (.rw k ow wt ht :: rest) c).slots s):=fun s=>by
  show xU (jl (gu (.rw k ow wt ht :: rest) 0 c) s)
  simp only [gu,jl]
  cases Nat.beq s 0 with
  | true=>exact ⟨rfl,rfl,rfl⟩
  | false=>exact N7 hrest s
 obtain ⟨aQ,aF,bJ,i0,is,g1,g2,g3,g4,IK⟩:=amb H hw hR0 lV rfl rfl hown (sD e (by simp [K.tys])) hsl (k':=k') (x':=x') hR hnd hn0 hown'
 have hst:aK (fE (.rw k ow wt ht :: rest) c) (ah 0) { bK k c.1 ow [] .par true with k:=k',x:=x' }=fE (.rw k' ow dY ht' :: rest) (x',c.2):=by
  unfold aK fE
  congr 1
  funext r
  show upd (fE (.rw k ow wt ht :: rest) c).roots (ah 0) _ r=iK (iJ (.rw k' ow dY ht' :: rest) 0 (x',c.2)) r
  simp only [iJ,FT hrest,iK,ha',gM]
  unfold upd
  cases hb:Nat.beq r (ah 0) with
  | true=>rfl
  | false=>simp only [j6]; rw [Cs,hb]; rfl
 rw [hst] at IK
 have hP':Ec (iF cx (aY aQ)) (.rw k' ow dY ht' :: rest):=by
  refine ⟨fun j kG hj hkp=>?_,fun j p ts v h=>h.elim,fun j v h=>h.elim⟩
  obtain ⟨pi,hj',rfl⟩:=rY hj
  obtain ⟨k0,o1,o2,o3,h⟩:=hP.par j pi hj' hkp
  cases j with
  | zero=>exact ⟨k',ow,dY,ht', .inl rfl⟩
  | succ j=>exact ⟨k0,o1,o2,o3,by simpa using h⟩
 have h:=hE (dW fr bJ i0 is) (x',c.2) out' hF' (iF cx (aY aQ)) _ args w hnt hw hsz hP' IK
 have hpost:∀v w', @Post (dW fr bJ i0 is) (iF cx (aY aQ)) (.rw k' ow dY ht' :: rest) rs' out' v w'->@Post fr cx (.rw k ow wt ht :: rest) rs out v w':=by
  rintro v w' ⟨Z1,aI,F1,a1,vs,ay,H1,rfl,hL,hfn,qA,hOut,_⟩
  obtain ⟨Q,q1,q2,⟨ek,ey⟩,q4,q5,_⟩:=hOut
  have RS:=Xy ek ey IJ
  obtain ⟨um,t1,t2⟩:=select (aQ:=aQ) (ns:=ms1) (fun m hm=>by rw [g1]; exact hsub m (bN _ hm))
  obtain ⟨jW,t3,t4⟩:=select (aQ:=aQ) (ns:=ms2) (fun m hm=>by rw [g1]; exact hsub m (bC _ hm))
  have nI:=q5
  unfold xu at nI
  simp only [bg] at nI
  obtain ⟨⟨⟨⟨l1,l2⟩,_⟩,_⟩,_⟩:=nI
  have htr:∀{l:List Nat},iL l dY=true->iL l wt=true:=fun hl=>rD.2 fun t ht=>rD.1 hwt t (rD.1 hl t ht)
  obtain ⟨iN,vN,r1,r2,r3⟩:=al_ (fr:=fr) H hw hR0 lV rfl rfl ⟨rfl,rfl⟩ hown hown' sD g2 (by rw [g1]; exact hnd) g3 g4 H1 q1 q2 ek (fun t ht=>by
    have:=eO.1 q4 t ht
    rw [hown' t ht] at this
    simpa using this) (wt:=wt) (ht:=ht) ⟨htr l1,htr l2⟩ hwk IY (y:=(Cont.snd _ _ out).1) (jW:=jW) (by rw [t3]; exact RS) t4 (um:=um) t2 (by rw [t1]; exact hRR) hL hfn qA
    (by rw [rM,t1,t3]; exact hmm) (fun j p ts v h=>by obtain ⟨k0,_,h⟩:=hP.ptr j p ts v h; exact ⟨k0,h⟩)
  refine ⟨_,iN,vN.flatten,a1,vs,vN,r1,rfl,r2,r3,fun b hb=>hb,⟨_,zP,⟨rfl,rfl⟩,⟨rfl,rfl⟩, ?_, ?_, .inl ha⟩,NZ hrest⟩
  ·exact eO.2 fun t _=>by simp [r_]; rfl
  ·unfold xu r_
   simp only [iL,List.all_nil,bg,eO]
   exact ⟨⟨⟨⟨fun x hx=>b_.2 hx,trivial⟩,fun x hx=>b_.2 hx⟩,fun x hx=>b_.2 hx⟩,rfl⟩
 rcases h with ⟨h1,h2⟩ | ⟨v,w',h1,h2⟩
 ·refine .inl ⟨h1,h2.mono ?_⟩
  rintro e w' ⟨v,rfl,hv⟩
  exact ⟨v,rfl,hpost v w' hv⟩
 ·exact .inr ⟨v,w',h1,hpost v w' h2⟩
end
section
open Go
theorem H_ {e:TypeId} {kk:K} {z:Bool} {tb:Nat->List (El kk)} {k k':K} {t:TypeId} {C:Type} (hsz:k'.size=k.size) (l:List C) (f:C->El k) (g:C->El k') (q:C->List Nat)
  (h:∀c∈l,Rw e kk z tb k k' (f c) (g c) (q c)):Rw e kk z tb (.sl t k) (.sl t k') (l.map f) (l.map g) (l.map q).flatten:=by
 unfold Rw
 refine ⟨rfl,hsz,by simp,l.map q,by simp,rfl,fun i h1 h2=>?_⟩
 have hi:i<l.length:=by simpa using h1
 have:=h l[i] (ku hi)
 simpa [h_,hi] using this
theorem yD {C:Type} (xs:List C):((xs.zipIdx 1).map (·.2)).Nodup/\0∉(xs.zipIdx 1).map (·.2):=by
 rw [List.zipIdx_map_snd]
 exact ⟨List.nodup_range',by simp⟩
theorem Jz {C:Type} (xs:List C):(xs.zipIdx 1).map (·.1)=xs:=List.zipIdx_map_fst ..
theorem TS {C R:Type} {xs:List C} {m:C->R} {d:R} {x:C} {i:Nat} (h:(x,i)∈xs.zipIdx 1):((xs[i - 1]?).map m).getD d=m x/\i≠0:=by
 obtain ⟨h1,h2,h3⟩:=List.mem_zipIdx h
 have hi:i - 1<xs.length:=by omega
 exact ⟨by simp [hi,h3],by omega⟩
end
section
open Go
section
variable {e:TypeId} {kk:K} [fr:Fr]
variable {cx:Cx} {Z:St} {J:aH} {a:Act} {w:World}
def mR (cx:Cx) (bad:List Nat):Cx:={ iF cx bad with refs:=cx.refs }
theorem X9 {bad:List Nat} {Z':St} {J':aH} {F':List Nat}:∀{cs:List (TypeId×Dat×List Tag)} {vs:List Value},nC (iF cx bad) Z' J' F' w cs vs->nC (mR cx bad) Z' J' F' w cs vs
 | [],[],_=>trivial
 | _ :: _,_ :: _,h=>⟨h.1,X9 h.2⟩
 | [],_ :: _,h=>h.elim
 | _ :: _,[],h=>h.elim
theorem acW {bad:List Nat} {Z':St} {J':aH} {F':List Nat} {x:AV} {v:Value} (h:aW (iF cx bad) Z' J' F' w x v):aW (mR cx bad) Z' J' F' w x v:=by
 cases x with
 | fn f cs=>obtain ⟨vs,h1,h2⟩:=h; exact ⟨vs,h1,X9 h2⟩
 | _=>exact h
theorem Qq {e1 e2:TypeId} {k1 k2:K} {v:Value} {cs:List Value} (h:VC (.sl e1 k1) v cs):VC (.sl e2 k2) v cs:=h
def tN (k:K) (x:El k) (ow wt ht:List TypeId):Root:={ k,x,own:=ow,tags:=[],w:=wt,h:=ht,g:=0,kind:=.anon,fixed:=true,keep:=true,ew:=[],eh:=ht }
theorem amc (H:Rel cx Z J [] a w) (hw0:cx.w0=w) {R0:Root} {e1:TypeId} {k1:K} (hk0:R0.k=.sl e1 k1) (hR0:aU Z (ah 0) R0) (lV:∀r,r≠ah 0->Z.roots r=none) (xk:R0.kind=.anon) (oI:R0.tags=[]) (hown:∀t∈R0.k.tys,aa t R0.own=true) (he:aa e R0.own=true)
  (hs0:Z.slots 0=.one (.ref (ah 0) 0)) (hsl:∀s,s≠0->xU (Z.slots s)) {e2:TypeId} {k2:K} {x':El (.sl e2 k2)} {tb:Nat->List (El kk)} {ns:List Nat} (hR:Rw e kk false tb R0.k (.sl e2 k2) R0.x x' ns) (hnd:ns.Nodup) (hn0:0∉ns) (hown':∀t∈(K.sl e2 k2).tys,aa t R0.own=true) (hg0:R0.g=0) :
  ∃(aQ:List nO) (aF:List Nat) (bJ:Nat->Value) (h0:bJ 0=.slice none 0 0) (hs:∀i,∃a n c,bJ i=.slice a n c),aQ.map (·.1)=ns/\(J.fo (ah 0)).Perm (aF++aY aQ)/\
   (∀q∈aQ, @Ow fr (hp w) R0.own (fun _=>False) (.sl e kk) (tb q.1) [q.2.1] q.2.2)/\(∀q∈aQ,bJ q.1=q.2.1)/\
   @Rel (dW fr bJ h0 hs) (mR cx (aY aQ)) (aK Z (ah 0) { R0 with k:=.sl e2 k2,x:=x' }) (aR J (ah 0) (J.loc (ah 0)) (J.hdr (ah 0)) aF) [] a w:=by
 have KR:=H.roots _ R0 hR0
 have hv0:cB Z R0:=⟨hR0.2,by rw [oI]; rfl⟩
 have hO:Ow (hp w) R0.own (fun _=>False) R0.k R0.x (J.hdr (ah 0)) (J.fo (ah 0)):=j4 (lu hown) (KR.ow hv0)
 obtain ⟨aQ,aF,g1,g2,g3,g4⟩:=Xu hown hR hO
 obtain ⟨bJ,i1,i2,i3⟩:=SV (aQ:=aQ) (by rw [g1]; exact hnd) (by rw [g1]; exact hn0) (fun q hq=>abU he (g3 q hq))
 refine ⟨aQ,aF,bJ,i1,i2,g1,g2,g3,i3, ?_⟩
 have hblk:blk J R0 (ah 0)=J.fo (ah 0):=by unfold blk aM; rw [xk]; rfl
 have hsub:∀b∈aF,b∈J.fo (ah 0):=fun b hb=>g2.mem_iff.2 (bN _ hb)
 have hbad:∀b∈aY aQ,b∈J.fo (ah 0):=fun b hb=>g2.mem_iff.2 (bC _ hb)
 have L:wO cx Z J R0 { R0 with k:=.sl e2 k2,x:=x' } aF (aY aQ):=⟨fun r R hr=>by
  by_cases e:r=ah 0
  ·subst e; refine ⟨rfl, ?_⟩; have:=hr.1; rw [hR0.1] at this; exact (jZ this).symm
  ·have:=hr.1; rw [lV r e] at this; simp at this,hR0,rfl,oI,hsub,hbad⟩
 have kM:=KR.nd
 rw [hblk] at kM
 have jI:=cK.1 (g2.nodup kM)
 have hlv:∀{q Q},aU (aK Z (ah 0) { R0 with k:=.sl e2 k2,x:=x' }) q Q->q=ah 0/\Q={ R0 with k:=.sl e2 k2,x:=x' }:=fun {q Q} hq=>by
  rcases ug hq with ⟨rfl,rfl,_⟩ | ⟨e,hq'⟩
  ·exact ⟨rfl,rfl⟩
  ·exact absurd (L.only q Q hq').1 e
 have hlv1:aU (aK Z (ah 0) { R0 with k:=.sl e2 k2,x:=x' }) (ah 0) { R0 with k:=.sl e2 k2,x:=x' }:=⟨fF ..,hR0.2⟩
 have hblk':blk (aR J (ah 0) (J.loc (ah 0)) (J.hdr (ah 0)) aF) { R0 with k:=.sl e2 k2,x:=x' } (ah 0)=aF:=by
  rw [pU]; unfold jh; simp only [xk]; rfl
 have qC:∀v,aW cx Z J [] w (.ref (ah 0) 0) v->@aW (dW fr bJ i1 i2) (mR cx (aY aQ)) (aK Z (ah 0) { R0 with k:=.sl e2 k2,x:=x' }) (aR J (ah 0) (J.loc (ah 0)) (J.hdr (ah 0)) aF) [] w (.ref (ah 0) 0) v:=by
  intro v hv Q hQ _
  obtain ⟨_,rfl⟩:=hlv hQ
  obtain ⟨h1,h2⟩:=hv R0 hR0 hg0
  refine ⟨xk, ?_⟩
  rw [hk0] at h2
  simp only [aR,upd_same]
  exact Qq h2
 have vP:∀{x:gQ} {v:Value},xU x->@jr fr cx Z J [] w x v->@jr (dW fr bJ i1 i2) (mR cx (aY aQ)) (aK Z (ah 0) { R0 with k:=.sl e2 k2,x:=x' }) (aR J (ah 0) (J.loc (ah 0)) (J.hdr (ah 0)) aF) [] w x v:=fun hx h=>by
  have h1:=wO.av (fr:=fr) (dW fr bJ i1 i2) rfl L hx h
  rename_i x v
  cases x with
  | mK l=>exact hx.elim
  | lit _ _ _=>exact hx.elim
  | one x=>exact @acW (dW fr bJ i1 i2) _ _ _ _ _ _ _ _ h1
 have jU:∀b∈aF,Ow.mine (mR cx (aY aQ)) w b:=fun b hb=>by
  obtain ⟨m1,m2⟩:=KR.mine b (by rw [hblk]; exact hsub b hb)
  refine ⟨m1, ?_⟩
  rcases m2 with m2 | ⟨j,pi,m2,m3⟩
  ·exact .inl m2
  ·refine .inr ⟨j,{ pi with bl:=pi.bl.filter fun b=>!aa b (aY aQ) },by simp [mR,iF,m2],eG.2 ⟨m3, ?_⟩⟩
   have:aa b (aY aQ)=false:=by
    rw [gV]
    intro hm
    exact jI.2.2 b hb b hm rfl
   rw [this]; rfl
 have xm:∀{j:Nat} {kG:Eb},(mR cx (aY aQ)).par j=some kG->∃pi,cx.par j=some pi/\kG={ pi with bl:=pi.bl.filter fun b=>!aa b (aY aQ) }:=fun h=>rY (cx:=cx) h
 have hpl:=H.mI
 refine @Rel.mk (dW fr bJ i1 i2) _ _ _ _ _ _ H.defs H.sz ?_ ?_ ?_ ?_ ?_ ?_ ?_ (fun b hb=>by simp at hb) mM (fun r R hr b hb h=>by simp at h) ?_ ?_ ?_ (fun j p ts v h=>h.elim) ?_
 ·intro j kG b o n hj hb
  obtain ⟨pi,hj',rfl⟩:=xm hj
  obtain ⟨R,f1,f2,_⟩:=H.kP j pi b o n hj' hb
  obtain ⟨_,rfl⟩:=L.only _ R f1
  rw [xk] at f2
  simp at f2
 ·intro r R hr hk
  obtain ⟨rfl,rfl⟩:=hlv hr
  have hk:R0.kind=.par:=hk
  rw [xk] at hk
  simp at hk
 ·intro s
  show @jr (dW fr bJ i1 i2) _ _ _ _ _ (Z.slots s) _
  by_cases h0:s=0
  ·subst h0
   have:=H.slots 0
   rw [hs0] at this ⊢
   exact qC _ this
  ·exact vP (hsl s h0) (H.slots s)
 ·intro s
  show ny _ (Z.slots s)
  by_cases h0:s=0
  ·subst h0
   rw [hs0]
   exact ⟨_,fF .., .inr (gq _)⟩
  have hs:=hsl s h0
  cases hx:Z.slots s with
  | mK l=>rw [hx] at hs; exact hs.elim
  | lit _ _ _=>rw [hx] at hs; exact hs.elim
  | one x=>
   rw [hx] at hs
   cases x with
   | undef=>trivial
   | ptr r p n=>obtain ⟨rfl,rfl,rfl⟩:=hs; exact ⟨_,fF .., .inr (gq _)⟩
   | val k x T=>exact fun t ht=>.inl (hs.2 t ht)
   | fn f cs=>exact fun c hc t ht=>.inl ((hs c hc).2.1 t ht)
   | _=>exact hs.elim
 ·intro r R hr
  obtain ⟨rfl,rfl⟩:=hlv hr
  refine @uz.mk (dW fr bJ i1 i2) _ _ _ _ _ _ _ (fun _=>?_) ?_ ?_ ?_ ?_
  ·have e1:(aR J (ah 0) (J.loc (ah 0)) (J.hdr (ah 0)) aF).hdr (ah 0)=J.hdr (ah 0):=by simp [aR,upd_same]
   have e2:(aR J (ah 0) (J.loc (ah 0)) (J.hdr (ah 0)) aF).fo (ah 0)=aF:=by simp [aR,upd_same]
   rw [e1,e2]
   exact @j4 (dW fr bJ i1 i2) _ _ _ _ _ _ _ _ (lu hown') (g4 (dW fr bJ i1 i2) rfl i3)
  ·show ((aR J (ah 0) (J.loc (ah 0)) (J.hdr (ah 0)) aF).hdr (ah 0)).length=(K.sl e2 k2).size
   rw [hR.size]
   simpa [aR,upd_same] using KR.len
  ·intro b o hb
   rw [L.wh] at hb
   unfold aM at hb
   rw [xk] at hb
   simp at hb
  ·rw [hblk']
   exact jI.1
  ·intro b hb
   rw [hblk'] at hb
   exact jU b hb
 ·intro r R hr
  by_cases e:r=ah 0
  ·subst e
   rw [fF] at hr
   have hr:=jZ hr
   subst hr
   exact ⟨fun t ht=>by rw [show ({ R0 with k:=.sl e2 k2,x:=x' }:Root).tags=R0.tags from rfl,oI] at ht; simp at ht,Ad 0,fun n hn=>by rw [show ({ R0 with k:=.sl e2 k2,x:=x' }:Root).tags=R0.tags from rfl,oI] at hn; simp at hn⟩
  ·rw [jV _ _ e,lV r e] at hr; simp at hr
 ·intro r R r' R' hr hr' hne
  exact absurd ((hlv hr).1.trans (hlv hr').1.symm) hne
 ·obtain ⟨f1,f2,f3,f4,f5,f6⟩:=H.frame
  refine ⟨f1,f2,f3,f4,fun b _ _=>by show hp w b=hp cx.w0 b; rw [hw0],fun j kG b o n hj hb=>?_⟩
  obtain ⟨pi,hj',rfl⟩:=xm hj
  exact f6 j pi b o n hj' hb
 ·intro j kG hj hkp
  obtain ⟨pi,hj',rfl⟩:=xm hj
  obtain ⟨R,f1,f2⟩:=H.qb j pi hj' hkp
  by_cases e:ah j=ah 0
  ·refine ⟨_,by rw [e]; exact fF ..,fun _ b hb hnb=>.inr ⟨by show hp w b=hp cx.w0 b; rw [hw0],by simp,fun q Q hq _=>by rw [(hlv hq).1,e]⟩⟩
  ·rw [lV _ e] at f1; simp at f1
 ·refine ⟨fun j kG hj b hb=>?_,fun b hb=>⟨?_,fun j kG hj hbl=>?_⟩,fun b hb=>hpl.2.2 b hb⟩
  ·obtain ⟨pi,hj',rfl⟩:=xm hj
   exact hpl.1 j pi hj' b (eG.1 hb).1
  ·exact (hpl.2.1 b hb).1
  ·obtain ⟨pi,hj',rfl⟩:=xm hj
   exact (hpl.2.1 b hb).2 j pi hj' (eG.1 hbl).1
 ·intro j v hv
  have hv:cx.refs j v:=hv
  obtain ⟨⟨R,f1⟩,f2⟩:=H.rq j v hv
  have ej:ah j=ah 0:=kQ fun ne=>by rw [lV _ ne] at f1; simp at f1
  rw [ej] at f2 ⊢
  exact ⟨⟨_,fF ..⟩,qC v f2⟩
theorem ama (H:Rel cx Z J [] a w) (hw0:cx.w0=w) {R0:Root} {e1:TypeId} {k1:K} (hk0:R0.k=.sl e1 k1) (hR0:aU Z (ah 0) R0) (lV:∀r,r≠ah 0->Z.roots r=none) (xk:R0.kind=.anon) (hg0:R0.g=0) (hv0:cB Z R0)
  (hown:∀t∈R0.k.tys,aa t R0.own=true) {e2:TypeId} {k2:K} (hown':∀t∈(K.sl e2 k2).tys,aa t R0.own=true) (sD:∀t∈(K.sl e kk).tys,aa t R0.own=true)
  {tb:Nat->List (El kk)} {aQ:List nO} {aF:List Nat} {bJ:Nat->Value} {h0:bJ 0=.slice none 0 0} {hs:∀i,∃a n c,bJ i=.slice a n c}
  (hperm:(J.fo (ah 0)).Perm (aF++aY aQ)) (hnd:(aQ.map (·.1)).Nodup) (hrow:∀q∈aQ, @Ow fr (hp w) R0.own (fun _=>False) (.sl e kk) (tb q.1) [q.2.1] q.2.2) (hid:∀q∈aQ,bJ q.1=q.2.1)
  {Z1:St} {aI:aH} {F1:List Nat} {a1:Act} {w':World} (H1 : @Rel (dW fr bJ h0 hs) (mR cx (aY aQ)) Z1 aI F1 a1 w') {Q:Root} (hQ:Z1.roots (ah 0)=some Q) (Cg:cB Z1 Q) (EL:Q.k=.sl e2 k2) (RP:∀t∈(K.sl e2 k2).tys,aa t Q.own=true) (hQn:Q.kind=.anon) (hQg:Q.g=0)
  {wt:List TypeId} (hwt:iL Q.w wt=true/\iL Q.ew wt=true)
  {y:El R0.k} {jW:List nO} (hP:Rw e kk true tb R0.k Q.k y Q.x (jW.map (·.1))) (yj:∀q∈jW,q∈aQ) (hall:(jW.map (·.1)).Nodup)
  (tX:∀j p ts v,cx.ptrs j p ts v->j=0->ts=iW p R0.k) :
  Rel cx (vL (tN R0.k y R0.own wt R0.k.tys)) (BR (J.loc (ah 0)) (aI.hdr (ah 0)) (aI.fo (ah 0)++aY jW)) [] a1 w':=by
 have K0:=H.roots _ R0 hR0
 have hlv1:aU Z1 (ah 0) Q:=⟨hQ,Cg.1⟩
 have K1:=@Rel.roots (dW fr bJ h0 hs) _ _ _ _ _ _ H1 _ Q hlv1
 have Px:=@uz.ow (dW fr bJ h0 hs) _ _ _ _ _ _ _ K1
 have Pt:=@uz.len (dW fr bJ h0 hs) _ _ _ _ _ _ _ K1
 have Pw:=@uz.nd (dW fr bJ h0 hs) _ _ _ _ _ _ _ K1
 have Pv:=@uz.mine (dW fr bJ h0 hs) _ _ _ _ _ _ _ K1
 have Sz:∀r R,aU Z r R->r=ah 0/\R=R0:=fun r R hr=>by
  by_cases e:r=ah 0
  ·subst e; refine ⟨rfl, ?_⟩; have:=hr.1; rw [hR0.1] at this; exact (jZ this).symm
  ·have:=hr.1; rw [lV r e] at this; simp at this
 have IQ:blk J R0 (ah 0)=J.fo (ah 0):=by unfold blk aM; rw [xk]; rfl
 have hblk1:blk aI Q (ah 0)=aI.fo (ah 0):=by unfold blk aM; rw [hQn]; rfl
 have hsize:w.heap.size<=w'.heap.size:=by have:=(@Rel.frame (dW fr bJ h0 hs) _ _ _ _ _ _ H1).2.2.2.1; simpa [mR,iF,hw0] using this
 have kM:=K0.nd
 rw [IQ] at kM
 have jI:=cK.1 (hperm.nodup kM)
 have hbad:∀b∈aY aQ,b∈J.fo (ah 0):=fun b hb=>hperm.mem_iff.2 (bC _ hb)
 have Ch:∀b∈aY aQ,b∈blk J R0 (ah 0):=fun b hb=>by rw [IQ]; exact hbad b hb
 have xm:∀{j:Nat} {kG:Eb},(mR cx (aY aQ)).par j=some kG->∃pi,cx.par j=some pi/\kG={ pi with bl:=pi.bl.filter fun b=>!aa b (aY aQ) }:=fun h=>rY (cx:=cx) h
 have hno:∀b∈aY aQ,¬Ow.mine (mR cx (aY aQ)) w' b:=fun b hb hm=>by
  have hlt:=(K0.mine b (Ch b hb)).1
  rcases hm.2 with h | ⟨j,kG,h1,h2⟩
  ·have:w.heap.size<=b:=by simpa [mR,iF,hw0] using h
   omega
  ·obtain ⟨pi,_,rfl⟩:=xm h1
   have:=(eG.1 h2).2
   rw [b_.2 hb] at this
   simp at this
 have hsame:∀b∈aY aQ,hp w' b=hp w b:=fun b hb=>by
  have hlt:=(K0.mine b (Ch b hb)).1
  have:=(@Rel.frame (dW fr bJ h0 hs) _ _ _ _ _ _ H1).2.2.2.2.1 b (by simpa [mR,iF,hw0] using hlt) (fun j kG h1 h2=>by
   obtain ⟨pi,_,rfl⟩:=xm h1
   have:=(eG.1 h2).2
   rw [b_.2 hb] at this
   simp at this)
  simpa [mR,iF,hw0] using this
 have hrow':∀q∈aQ, @Ow fr (hp w') R0.own (fun _=>False) (.sl e kk) (tb q.1) [q.2.1] q.2.2:=fun q hq=>
  dZ (fun _ h=>h.elim) (fun _ h=>h) (fun b hb=>hsame b (jY.2 ⟨q,hq,hb⟩)) (hrow q hq)
 have Ct:∀b∈aY jW,b∈aY aQ:=fun b hb=>by
  obtain ⟨q,hq,h⟩:=jY.1 hb
  exact jY.2 ⟨q,yj q hq,h⟩
 have Sn:(aY jW).Nodup:=UW jI.2.1 hnd (l:=jW) yj hall
 have zZ:∀b∈aI.fo (ah 0),Ow.mine (mR cx (aY aQ)) w' b:=fun b hb=>Pv b (by rw [hblk1]; exact hb)
 have I1:∀b,Ow.mine (mR cx (aY aQ)) w' b->Ow.mine cx w' b:=fun b hb=>⟨hb.1,hb.2.imp (fun h=>h) (fun ⟨j,kG,h1,h2⟩=>by
  obtain ⟨pi,h3,rfl⟩:=xm h1
  exact ⟨j,pi,h3,(eG.1 h2).1⟩)⟩
 have Nl:∀b∈aY aQ,Ow.mine cx w' b:=fun b hb=>by
  obtain ⟨m1,m2⟩:=K0.mine b (Ch b hb)
  exact ⟨by omega,m2⟩
 have tV:∀{r R},aU (vL (tN R0.k y R0.own wt R0.k.tys)) r R->r=ah 0/\R=tN R0.k y R0.own wt R0.k.tys:=fun h=>BS h.1
 have EN:blk (BR (J.loc (ah 0)) (aI.hdr (ah 0)) (aI.fo (ah 0)++aY jW)) (tN R0.k y R0.own wt R0.k.tys) (ah 0)=aI.fo (ah 0)++aY jW:=rfl
 have I5:=Pw
 rw [hblk1] at I5
 have hf1:=@Rel.frame (dW fr bJ h0 hs) _ _ _ _ _ _ H1
 have Ns:R0.k.size=Q.k.size:=hP.size.symm
 have SB:∀j p ts v,cx.ptrs j p ts v->ah j=ah 0:=fun j p ts v h=>by
  obtain ⟨_,R,f1,_⟩:=H.q9 j p ts v h
  refine kQ fun e=>?_
  rw [lV _ e] at f1
  simp at f1
 have hdf:=@Rel.defs (dW fr bJ h0 hs) _ _ _ _ _ _ H1
 have hsz0:=@Rel.sz (dW fr bJ h0 hs) _ _ _ _ _ _ H1
 have hsz1:cx.nt<=a1.tmps.size:=hsz0
 have Sk:=@Rel.qb (dW fr bJ h0 hs) _ _ _ _ _ _ H1
 have akP:=@Rel.rq (dW fr bJ h0 hs) _ _ _ _ _ _ H1
 refine ⟨hdf,hsz1, ?_, ?_,fun s=>trivial,fun s=>trivial, ?_, ?_, ?_,fun b hb=>by simp at hb,mM,fun r R hr b hb h=>by simp at h, ?_, ?_, ?_, ?_, ?_⟩
 ·intro j pi b o n hj hb
  obtain ⟨R,f1,f2,_⟩:=H.kP j pi b o n hj hb
  obtain ⟨_,rfl⟩:=Sz _ R f1
  rw [xk] at f2
  simp at f2
 ·intro r R hr hk
  obtain ⟨rfl,rfl⟩:=tV hr
  simp [tN] at hk
 ·intro r R hr
  obtain ⟨rfl,rfl⟩:=tV hr
  refine ⟨fun _=>?_,by show (aI.hdr (ah 0)).length=R0.k.size; rw [Pt,Ns],fun b o hb=>by simp [aM,tN] at hb, ?_,fun b hb=>?_⟩
  ·have o1 : @Ow (dW fr bJ h0 hs) (hp w') R0.own (fun _=>False) Q.k Q.x (aI.hdr (ah 0)) (aI.fo (ah 0)):=by
    have hk1:∀t∈Q.k.tys,aa t Q.own=true:=fun t ht=>RP t (by rw [<-EL]; exact ht)
    have hk2:∀t∈Q.k.tys,aa t R0.own=true:=fun t ht=>hown' t (by rw [<-EL]; exact ht)
    exact @j4 (dW fr bJ h0 hs) _ _ _ _ _ _ _ _ (lu hk2) (@Mq (dW fr bJ h0 hs) _ _ _ _ _ _ _ _ (fun t ht=>by rw [hk1 t ht,hk2 t ht]) (Px Cg))
   have o2:=Qf (fr:=fr) (dW fr bJ h0 hs) hown hP o1 (fun q hq=>⟨hrow' q (yj q hq),hid q (yj q hq)⟩)
   exact j4 (lu hown) o2
  ·rw [EN]
   exact cK.2 ⟨I5,Sn,fun b hb c hc BQ=>by subst BQ; exact hno b (Ct b hc) (zZ b hb)⟩
  ·rw [EN] at hb
   rcases bW.1 hb with h | h
   ·exact I1 b (zZ b h)
   ·exact Nl b (Ct b h)
 ·intro r R hr
  obtain ⟨rfl,rfl⟩:=BS hr
  exact ⟨fun t ht=>by simp [tN] at ht,Ad 0,fun n hn=>by simp [tN] at hn⟩
 ·intro r R r' R' hr hr' hne
  exact absurd ((tV hr).1.trans (tV hr').1.symm) hne
 ·obtain ⟨f1,f2,f3,f4,f5,f6⟩:=hf1
  refine ⟨f1,f2,f3,f4,fun b hb hnb=>f5 b hb (fun j kG h1 h2=>?_),fun j pi b o n hj hb=>?_⟩
  ·obtain ⟨pi,h3,rfl⟩:=xm h1
   exact hnb j pi h3 (eG.1 h2).1
  ·exact f6 j { pi with bl:=pi.bl.filter fun b=>!aa b (aY aQ) } b o n (by simp [mR,iF,hj]) hb
 ·intro j pi hj hkp
  obtain ⟨R,f1,_⟩:=H.qb j pi hj hkp
  have ej:ah j=ah 0:=kQ fun ne=>by rw [lV _ ne] at f1; simp at f1
  refine ⟨tN R0.k y R0.own wt R0.k.tys,by rw [ej]; exact zP,fun _ b hb hnb=>?_⟩
  have hone:∀q Q,aU (vL (tN R0.k y R0.own wt R0.k.tys)) q Q->b∈blk (BR (J.loc (ah 0)) (aI.hdr (ah 0)) (aI.fo (ah 0)++aY jW)) Q q->q=ah j:=fun q Q hq _=>by rw [(tV hq).1,ej]
  by_cases hbt:b∈aY aQ
  ·exact .inr ⟨by rw [hw0]; exact hsame b hbt,by simp,hone⟩
  ·obtain ⟨R1,q1,q2⟩:=Sk j { pi with bl:=pi.bl.filter fun b=>!aa b (aY aQ) } (by simp [mR,iF,hj]) hkp
   have eR:R1=Q:=by rw [ej,hQ] at q1; exact (jZ q1).symm
   subst eR
   rcases q2 Cg.1 b (eG.2 ⟨hb,by rw [gV.2 hbt]; rfl⟩) (fun h=>hnb (Q8.1 h)) with ⟨t,t1,t2⟩ | ⟨t1,t2,_⟩
   ·exact .inl ⟨t,t1, .inl (t2.elim (rD.1 hwt.1 t) (rD.1 hwt.2 t))⟩
   ·exact .inr ⟨t1,by simp,hone⟩
 ·refine ⟨fun j pi hj b hb=>H.mI.1 j pi hj b hb,fun b hb=>H.mI.2.1 b hb,fun b hb=>H.mI.2.2 b hb⟩
 ·intro j p ts v hv
  have ej:=SB j p ts v hv
  have ej0:j=0:=by unfold ah at ej; omega
  obtain ⟨g1,R,f1,f2⟩:=H.q9 j p ts v hv
  have hts:=tX j p ts v hv ej0
  refine ⟨g1,tN R0.k y R0.own wt R0.k.tys,by rw [ej]; exact zP,fun hno'=>?_⟩
  refine ⟨g1,fun R' hR' _ _ _ hsome=>?_⟩
  rw [ej] at hR'
  obtain ⟨_,rfl⟩:=BS hR'
  have hsome:(aB p R0.k y).isSome=true:=hsome
  cases p with
  | nil=>
   have hRR:R=R0:=by rw [ej,hR0.1] at f1; exact (jZ f1).symm
   obtain ⟨_,cs,b,o,hn,ev⟩:=(f2 (fun t ht=>by rw [hts] at ht; simp [iW] at ht)).2 R0 (by rw [ej]; exact hR0.1) hv0 (by unfold iW clean; simp [aa]) (fun t ht=>by simp [az] at ht) rfl
   rw [ej] at hn
   simp only [aT,au,bS] at hn
   have h2:=hn.2
   unfold aM at h2
   rw [xk] at h2
   simp at h2
  | cons s p=>
   cases s with
   | aZ m=>
    rw [hk0] at hts
    have:aB (.aZ m :: p) R0.k y=none:=by
     have hg:∀(k:K) (z:El k),k=.sl e1 k1->aB (.aZ m :: p) k z=none:=by
      intro k z hk; subst hk; rfl
     exact hg _ y hk0
    rw [this] at hsome; simp at hsome
   | idx i=>
    exfalso
    refine hno' e1 ?_ ?_
    ·rw [hts,hk0]; simp [iW,az]
    ·show e1∈R0.k.tys
     rw [hk0]; simp [K.tys]
 ·intro j v hv
  obtain ⟨⟨R,f1⟩,f2⟩:=H.rq j v hv
  have ej:ah j=ah 0:=kQ fun ne=>by rw [lV _ ne] at f1; simp at f1
  obtain ⟨_,q2⟩:=akP j v hv
  rw [ej] at q2 ⊢
  refine ⟨⟨_,zP⟩,fun R' hR' _=>?_⟩
  obtain ⟨_,rfl⟩:=tV hR'
  obtain ⟨z1,z2⟩:=q2 Q hlv1 hQg
  refine ⟨rfl, ?_⟩
  show VC R0.k v (aI.hdr (ah 0))
  rw [hk0]
  rw [EL] at z2
  exact Qq z2
end
theorem al9 [fr:Fr] {e e1 e2:TypeId} {kk k1 k2:K} {P:Program} {n:Nat} {f:FuncId} {ow wt dY:List TypeId} {rest:List aV}
  {F:Nat->Cont (kin (.bR (.sl e1 k1) ow wt :: rest))->Option (Cont (eP [.into 0 []]++gy (.bR (.sl e1 k1) ow wt :: rest)))} {F':Nat->Cont (kin (.bR (.sl e2 k2) ow dY :: rest))->Option (Cont (eP [.into 0 []]++gy (.bR (.sl e2 k2) ow dY :: rest)))}
  (hrest:jK rest=true) (hown:∀t∈(K.sl e1 k1).tys,aa t ow=true) (hown':∀t∈(K.sl e2 k2).tys,aa t ow=true) (sD:∀t∈(K.sl e kk).tys,aa t ow=true)
  (hE:∀fr:Fr, @aC fr P n ⟨f, .bR (.sl e2 k2) ow dY :: rest,[.into 0 []],F'⟩) (hwt:iL dY wt=true)
  (hF:∀c out,F n c=some out->∃(x':El (.sl e2 k2)) (ns ms:List Nat) (tb:Nat->List (El kk)) (out':Cont (eP [.into 0 []]++gy (.bR (.sl e2 k2) ow dY :: rest))),Rw e kk false tb (.sl e1 k1) (.sl e2 k2) c.1 x' ns/\ns.Nodup/\0∉ns/\F' n (x',c.2)=some out'/\
   (show Int from out.1)=(show Int from out'.1)/\Rw e kk true tb (.sl e1 k1) (.sl e2 k2) out.2.1 out'.2.1 ms/\ms.Nodup/\∀m∈ms,m∈ns) :
  aC P n ⟨f, .bR (.sl e1 k1) ow wt :: rest,[.into 0 []],F⟩:=by
 intro c out hout cx J args w hnt hw hsz hP H
 obtain ⟨x',ns,ms,tb,out',hR,hnd,hn0,hF',Y4,IJ,hmm,hsub⟩:=hF c out hout
 have ha:((K.sl e1 k1).tys.all fun t=>aa t ow)=true:=eO.2 hown
 have ha':((K.sl e2 k2).tys.all fun t=>aa t ow)=true:=eO.2 hown'
 have Cs:∀r,(fE (.bR (.sl e1 k1) ow wt :: rest) c).roots r=bif Nat.beq r (ah 0) then some { bK (.sl e1 k1) c.1 ow [] .anon true with fixed:=true } else none:=fun r=>by
  show iK (iJ (.bR (.sl e1 k1) ow wt :: rest) 0 c) r=_
  simp only [iJ,FT hrest,iK,ha,gM]
  rfl
 have hR0:aU (fE (.bR (.sl e1 k1) ow wt :: rest) c) (ah 0) { bK (.sl e1 k1) c.1 ow [] .anon true with fixed:=true }:=⟨by rw [Cs]; simp,rfl⟩
 have lV:∀r,r≠ah 0->(fE (.bR (.sl e1 k1) ow wt :: rest) c).roots r=none:=fun r hr=>by
  rw [Cs]
  have:Nat.beq r (ah 0)=false:=by
   cases hb:Nat.beq r (ah 0) with
   | true=>exact absurd (bB hb) hr
   | false=>rfl
  rw [this]; rfl
 have hs0:(fE (.bR (.sl e1 k1) ow wt :: rest) c).slots 0=.one (.ref (ah 0) 0):=rfl
 have hsl:∀s,s≠0->xU ((fE (.bR (.sl e1 k1) ow wt :: rest) c).slots s):=fun s hs=>by
  show xU (jl (gu (.bR (.sl e1 k1) ow wt :: rest) 0 c) s)
  simp only [gu,jl]
  cases hb:Nat.beq s 0 with
  | true=>exact absurd (bB hb) hs
  | false=>exact N7 hrest s
 obtain ⟨aQ,aF,bJ,i0,is,g1,g2,g3,g4,IK⟩:=amc H hw (R0:={ bK (.sl e1 k1) c.1 ow [] .anon true with fixed:=true }) rfl hR0 lV rfl rfl hown (sD e (by simp [K.tys])) hs0 hsl (x':=x') hR hnd hn0 hown' rfl
 have hst:aK (fE (.bR (.sl e1 k1) ow wt :: rest) c) (ah 0) { ({ bK (.sl e1 k1) c.1 ow [] .anon true with fixed:=true }:Root) with k:=.sl e2 k2,x:=x' }=fE (.bR (.sl e2 k2) ow dY :: rest) (x',c.2):=by
  unfold aK fE
  congr 1
  funext r
  show upd (fE (.bR (.sl e1 k1) ow wt :: rest) c).roots (ah 0) _ r=iK (iJ (.bR (.sl e2 k2) ow dY :: rest) 0 (x',c.2)) r
  simp only [iJ,FT hrest,iK,ha',gM]
  unfold upd
  cases hb:Nat.beq r (ah 0) with
  | true=>rfl
  | false=>simp only [j6]; rw [Cs,hb]; rfl
 rw [hst] at IK
 have Ni:∀j,(∃k,wN (.bR (.sl e1 k1) ow wt :: rest) j k)->∃k,wN (.bR (.sl e2 k2) ow dY :: rest) j k:=by
  rintro j ⟨k0,o1,o2,o3,h⟩
  cases j with
  | zero=>exact ⟨.sl e2 k2,ow,dY,[], .inr rfl⟩
  | succ j=>exact ⟨k0,o1,o2,o3,by simpa using h⟩
 have hP':Ec (mR cx (aY aQ)) (.bR (.sl e2 k2) ow dY :: rest):=by
  refine ⟨fun j kG hj hkp=>?_,fun j p ts v h=>h.elim,fun j v h=>Ni j (hP.ref j v h)⟩
  obtain ⟨pi,hj',rfl⟩:=rY (cx:=cx) hj
  exact Ni j (hP.par j pi hj' hkp)
 have h:=hE (dW fr bJ i0 is) (x',c.2) out' hF' (mR cx (aY aQ)) _ args w hnt hw hsz hP' IK
 have hpost:∀v w', @Post (dW fr bJ i0 is) (mR cx (aY aQ)) (.bR (.sl e2 k2) ow dY :: rest) [.into 0 []] out' v w'->@Post fr cx (.bR (.sl e1 k1) ow wt :: rest) [.into 0 []] out v w':=by
  rintro v w' ⟨Z1,aI,F1,a1,vs,ay,H1,rfl,hL,hfn,qA,hOut,_⟩
  obtain ⟨Q,q1,q2,⟨ek,ey⟩,q4,q5,_⟩:=hOut
  have RS:=Xy ek ey IJ
  obtain ⟨jW,t3,t4⟩:=select (aQ:=aQ) (ns:=ms) (fun m hm=>by rw [g1]; exact hsub m hm)
  have nI:=q5
  unfold xu at nI
  simp only [bg] at nI
  obtain ⟨⟨⟨⟨l1,l2⟩,_⟩,_⟩,l5⟩:=nI
  have hg0:Q.g=0:=bB l5
  have htr:∀{l:List Nat},iL l dY=true->iL l wt=true:=fun hl=>rD.2 fun t ht=>rD.1 hwt t (rD.1 hl t ht)
  cases vs with
  | nil=>exact hL.elim
  | cons v vs=>
   cases ay with
   | nil=>exact hL.elim
   | cons fo ay=>
    obtain ⟨⟨rfl,_,b,m,cp,e3,e4,e5⟩,hL2⟩:=hL
    cases vs with
    | cons _ _=>cases ay <;> exact hL2.elim
    | nil=>
     cases ay with
     | cons _ _=>exact hL2.elim
     | nil=>
      obtain ⟨hQn,Y2⟩:=e5 Q ⟨q1,q2.1⟩ hg0
      have r1:=ama (fr:=fr) H hw (R0:={ bK (.sl e1 k1) c.1 ow [] .anon true with fixed:=true }) rfl hR0 lV rfl rfl ⟨rfl,rfl⟩ hown hown' sD g2 (by rw [g1]; exact hnd) g3 g4 H1 q1 q2 ek (fun t ht=>by
        have:=eO.1 q4 t ht
        rw [hown' t ht] at this
        simpa using this) hQn hg0 (wt:=wt) ⟨htr l1,htr l2⟩ (y:=out.2.1) (jW:=jW) (by rw [t3]; exact RS) t4 (by rw [t3]; exact hmm) (fun j p ts v h hj=>by
         obtain ⟨k0,⟨o1,o2,o3,h1⟩,h2⟩:=hP.ptr j p ts v h
         subst hj
         rcases h1 with h1 | h1
         ·simp at h1
         ·simp only [qM,au,aV.bR.injEq] at h1
          rw [h2, <-h1.1]; rfl)
      refine ⟨_,_,[],a1,[v],[[]],r1,rfl,⟨⟨rfl,rfl,b,m,cp, ?_, ?_, ?_⟩,trivial⟩,by simp,by simp,⟨_,zP,⟨rfl,rfl⟩,⟨rfl,rfl⟩, ?_, ?_, .inl ha⟩,NZ hrest⟩
      ·have hI:(show Int from (Cont.fst (eP [gK.into 0 []]) _ out).1)=(show Int from (Cont.fst (eP [gK.into 0 []]) _ out').1):=Y4
       rw [hI]; exact e3
      ·have hI:(show Int from (Cont.fst (eP [gK.into 0 []]) _ out).1)=(show Int from (Cont.fst (eP [gK.into 0 []]) _ out').1):=Y4
       rw [hI]; exact e4
      ·intro R' hR' _
       obtain ⟨_,rfl⟩:=BS hR'.1
       refine ⟨rfl, ?_⟩
       have ek:Q.k=.sl e2 k2:=ek
       rw [ek] at Y2
       exact Qq Y2
      ·exact eO.2 fun t _=>by simp [tN]; rfl
      ·unfold xu tN
       simp only [iL,List.all_nil,bg,eO]
       exact ⟨⟨⟨⟨fun x hx=>b_.2 hx,trivial⟩,fun x hx=>b_.2 hx⟩,fun x hx=>b_.2 hx⟩,rfl⟩
 rcases h with ⟨h1,h2⟩ | ⟨v,w',h1,h2⟩
 ·refine .inl ⟨h1,h2.mono ?_⟩
  rintro e w' ⟨v,rfl,hv⟩
  exact ⟨v,rfl,hpost v w' hv⟩
 ·exact .inr ⟨v,w',h1,hpost v w' h2⟩
end
end Go.Proofs.YtailcbngagacaabGreat.Ow
