/- A verified reading of translated code, part G of 7. No condition. -/
import Derived.Test.YtailcbngagacaaaGreatOwF
import Derived.Conc.MuLone
import Derived.ChangeArms
import Derived.ChangeReads
import Derived.ChangeOld
import Derived.ChangeSame
import Derived.DataShut
set_option linter.unusedSectionVars false
set_option linter.unusedVariables false
set_option linter.unusedSimpArgs false
namespace Go.Proofs.YtailcbngagacaaaGreat.Ow
section
open Go
variable [Fr]
def SY (a:Act):ResultVar->Sem Value
 | .tmp t=>pure (a.tmps.getD t undef)
 | .cell x t=>do loadVar t (<-asAddr (a.tmps.getD x undef))
section
variable {P:Program} {T:jh} {cx:Cx} {Z:St} {J:dP} {F:List Nat} {a:Act} {w:World} {A:Type} {z:A}
theorem SA (hT:eG P T) (H:Rel cx Z J F a w) {t:TypeId} {x:AV} {v:Value} {rH:Bool} {k:AV->Prog A} (h1:bN cx Z J F w x v) (h2:qM Z x) (h:(BO T rH t x k).ends Z z) :
  ∃y u,(do loadVar t (<-asAddr v):Sem Value).run P w=.ok u w/\bN cx Z J F w y u/\qM Z y/\(k y).ends Z z:=by
 have Mo:∀{b o:Nat} {u:Value},(Instr.loadAt t (.pointer (some ⟨b,o,none⟩))).run P w=.ok u w->v=.pointer (some ⟨b,o,none⟩)->(do loadVar t (<-asAddr v):Sem Value).run P w=.ok u w:=by
  intro b o u h e
  subst e
  exact h
 unfold BO at h
 split at h
 ·exact h.elim
 ·rename_i kk hty
  have ht:=hT.ty t kk hty
  obtain ⟨s1,s2,s3⟩:=ht.shape
  split at h
  ·rename_i r g k0 p
   obtain ⟨u,b,off,k1,e,hq,hC,ho1,hR⟩:=h1
   obtain ⟨R,hr,hv,h⟩:=bU h
   rcases ay h with ⟨hc,h⟩ | ⟨_,h⟩
   ·simp only [ank] at hc
    cases hg:aR p R.k R.x with
    | none=>rw [hg] at h; exact h.elim
    | some dd=>
     rw [hg] at h
     simp only at h
     obtain ⟨dk,dx⟩:=dd
     rcases beq_true h with ⟨ek,h5⟩ | ⟨_,h⟩
     ·simp only at ek
      subst ek
      have hk0:=K.eq_of_beq hc.1.2
      subst hk0
      obtain ⟨hka,BJ⟩:=hR R hr (ani hc.1.1)
      rw [BJ.cells] at hC
      have hwn:dY J R r=none:=by unfold dY; rw [hka]
      obtain ⟨g1,g2,g3,g4,g5⟩:=F6 (h:=hp w) p hg ho1 (H.roots r R hr).len
      simp only at g1
      subst g1
      have hown:∀t∈ah p R.k,az t R.own=true:=fun t ht=>by rw [g5] at ht; simp at ht
      have hn:bH (hp w) p R.k (J.hdr r) (dY J R r)=some (((J.hdr r).drop off).take k1.size,none):=by rw [hwn]; exact g3
      obtain ⟨fT,hO,hf⟩:=rC H hr hv hg g4 hown hn
      have hV:=oG H hr hO hf
      have hcs:Cells (hp w) b off (((J.hdr r).drop off).take k1.size):=by
       intro i hi
       have hi':i<k1.size:=by rw [zV g2] at hi; exact hi
       have:=hC (off+i) (by omega)
       rw [anY] at this
       rw [this,apn hi',apo]
      obtain ⟨u',hu⟩:=VC.mk s1 s2 s3 hV
      have hrun:=sD (P:=P) ht hcs (mh hV) hu
      rcases ay h5 with ⟨hf,h6⟩ | ⟨_,h6⟩
      ·exact ⟨.val k1 dx [],u',Mo hrun e,fun _=>⟨_,hu,jA hf hV⟩,(fun t ht=>by simp at ht),h6⟩
      ·exact ⟨.rH r p R.qJ,u',Mo hrun e,yQ (cx:=cx) (F:=F) hr hg g4 hown hn hu,⟨R,hr.1, .inr (anv _)⟩,h6⟩
     ·exact h.elim
   ·exact h.elim
  rcases xO H h1 h2 h with ⟨r,R,p,dd,cs,b,q,hr,hv,hg,eZ,hown,hn,e,h⟩ | ⟨bt,dd,Tg,b,q,cs,hw,e,hcs,hV,hok,hb,h⟩
  ·obtain ⟨hC,⟨fT,hO,hf⟩,_⟩:=pV H hr hv hg eZ hown hn
   obtain ⟨dk,dx⟩:=dd
   rcases beq_true h with ⟨ek,h5⟩ | ⟨_,h⟩
   ·simp only at ek
    subst ek
    clear h
    have h:=h5
    clear h5
    have hV:=oG H hr hO hf
    obtain ⟨u,hu⟩:=VC.mk s1 s2 s3 hV
    have hrun:=sD (P:=P) ht hC (mh hV) hu
    rcases ay h with ⟨_,h⟩ | ⟨_,h⟩
    ·exact ⟨.rH r p R.qJ,u,Mo hrun e,yQ (cx:=cx) (F:=F) hr hg eZ hown hn hu,⟨R,hr.1, .inr (anv _)⟩,h⟩
    ·exact ⟨_,u,Mo hrun e,(show bN cx Z J F w (.val dk dx _) u from fun _=>⟨cs,hu,hV⟩),Ji H hr _,h⟩
   ·exact h.elim
  ·obtain ⟨dk,dx⟩:=dd
   rcases beq_true h with ⟨ek,h5⟩ | ⟨_,h⟩
   ·simp only at ek
    subst ek
    clear h
    have h:=h5
    clear h5
    obtain ⟨u,hu⟩:=VC.mk s1 s2 s3 hV
    have hrun:=sD (P:=P) ht hcs (mh hV) hu
    refine ⟨_,u,Mo hrun e,(show bN cx Z J F w (.val dk dx _) u from fun _=>⟨cs,hu, ?_⟩), ?_,h⟩
    ·cases hf:dk.flat with
     | true=>exact jA hf hV
     | false=>exact hV
    ·cases hf:dk.flat with
     | true=>intro t ht; simp at ht
     | false=>exact hw
   ·exact h.elim
theorem Cc (hT:eG P T) (H:Rel cx Z J F a w) {own:Bool} {rv:ResultVar} {k:AV->Prog A} (h:(O6 T own rv k).ends Z z):∃y u,(SY a rv).run P w=.ok u w/\bN cx Z J F w y u/\qM Z y/\(k y).ends Z z:=by
 cases rv with
 | tmp t=>
  obtain ⟨v,h1,h2,h3⟩:=bY H h
  exact ⟨v,_,rfl,h1,h2,h3⟩
 | cell t ty=>
  obtain ⟨v,h1,h2,h3⟩:=bY H h
  exact SA hT H h1 h2 h3
def Nu (P:Program) (cx:Cx) (Z:St) (J:dP) (F:List Nat) (a:Act) (w:World):(rs:List xJ)->List ResultVar->Cont (iZ rs)->List Value->List (Value×iW)->List (List Tag)->Prop
 | [],[],_,[],[],[]=>True
 | .val k exts iQ :: rs,rv :: wF,c,v :: vs,its,tg :: Bh=>((SY a rv).run P w=.ok v w/\(k.flat=true\/qp exts iQ tg=true)/\Xv cx Z J F a w k c.1 tg v)/\Nu P cx Z J F a w rs wF c.2 vs its Bh
 | .own k ow exts iQ :: rs,rv :: wF,c,v :: vs,it :: its,Bh=>((SY a rv).run P w=.ok v w/\it.1=v/\wo cx Z J F w v it.2/\(∃e:it.2.k=k,c.1=e▸it.2.x)/\mY (k.tys.filter fun t=>az t ow) it.2.own=true/\
   ((k.tys.all fun t=>az t ow)=true\/qp exts iQ it.2.tags=true))/\Nu P cx Z J F a w rs wF c.2 vs its Bh
 | _,_,_,_,_,_=>False
theorem UU (hT:eG P T) (H:Rel cx Z J F a w):∀{rs:List xJ} {wF:List ResultVar} {k:Cont (iZ rs)->List iW->List (List Tag)->Prog A},(LY T rs wF k).ends Z z->
  ∃c vs its Bh,Nu P cx Z J F a w rs wF c vs its Bh/\(k c (its.map (·.2)) Bh).ends Z z:=by
 intro rs
 induction rs with
 | nil=>
  intro wF k h
  cases wF with
  | nil=>exact ⟨(),[],[],[],trivial,h⟩
  | cons _ _=>exact h.elim
 | cons r rs ih=>
  intro wF k h
  cases wF with
  | nil=>cases r <;> exact h.elim
  | cons rv wF=>
   cases r with
   | into _ _=>exact h.elim
   | ptr _ _ _ _=>exact h.elim
   | val kk exts iQ=>
    simp only [LY] at h
    obtain ⟨y,u,g1,g2,g3,h⟩:=Cc hT H h
    have hgo:∀(x:El kk) (tags:List Tag),Xv cx Z J F a w kk x tags u->(bif kk.flat || qp exts iQ tags then LY T rs wF fun c ts tg=>k (x,c) ts (tags :: tg) else .fail).ends Z z->
      ∃c vs its Bh,Nu P cx Z J F a w (.val kk exts iQ :: rs) (rv :: wF) c vs its Bh/\(k c (its.map (·.2)) Bh).ends Z z:=by
     intro x tags hv h
     rcases ay h with ⟨hb,h⟩ | ⟨_,h⟩
     ·obtain ⟨c,vs,its,Bh,f1,f2⟩:=ih h
      exact ⟨(x,c),u :: vs,its,tags :: Bh,⟨⟨g1,by simpa using hb,hv⟩,f1⟩,f2⟩
     ·exact h.elim
    have hval:(uB y fun k' x tags=>match bQ k' kk x with
      | some y=>(bif kk.flat || qp exts iQ (bif kk.flat then [] else tags) then LY T rs wF fun c ts tg=>k (y,c) ts ((bif kk.flat then [] else tags) :: tg) else .fail)
      | none=>.fail).ends Z z->∃c vs its Bh,Nu P cx Z J F a w (.val kk exts iQ :: rs) (rv :: wF) c vs its Bh/\(k c (its.map (·.2)) Bh).ends Z z:=by
     intro h
     obtain ⟨k',x,Tg,f1,f5⟩:=Fh H g2 g3 h
     cases hc:bQ k' kk x with
     | none=>rw [hc] at f5; exact f5.elim
     | some y'=>
      rw [hc] at f5
      obtain ⟨ek,ey⟩:=bF hc
      subst ek
      simp only at ey
      subst ey
      cases hf:k'.flat with
      | true=>
       rw [hf] at f5
       exact hgo _ _ (f1.flat hf H) (by rw [hf]; exact f5)
      | false=>
       rw [hf] at f5
       exact hgo _ _ f1 (by rw [hf]; exact f5)
    cases y with
    | jy=>
     cases kk with
     | sl e kk=>
      obtain ⟨b,rfl⟩:=g2
      exact hgo [] [] ⟨[.slice b 0 0],Ch,fun _ _ _ _=>⟨b,0,0,rfl,rfl,anv _,fun h=>by omega⟩⟩ h
     | _=>exact h.elim
    | undef=>exact hval h
    | val _ _ _=>exact hval h
    | ref _ _=>exact hval h
    | rH _ _ _=>exact hval h
    | ptr _ _ _=>exact hval h
    | jE _ _ _ _=>exact hval h
    | FM _ _ _ _=>exact hval h
    | yI _=>exact hval h
    | part _ _ _ _ _=>exact hval h
    | wT _ _ _ _=>exact hval h
    | sub _ _ _ _ _ _=>exact hval h
    | sel _ _ _ _ _ _=>exact hval h
    | app _ _ _ _=>exact hval h
    | rA=>exact hval h
    | fn _ _=>exact hval h
   | own kk ow exts iQ=>
    simp only [LY] at h
    obtain ⟨y,u,g1,g2,g3,h⟩:=Cc hT H h
    obtain ⟨tk,htk,h⟩:=qG H g2 g3 h
    cases hc:bQ tk.k kk tk.x with
    | none=>rw [hc] at h; exact h.elim
    | some y'=>
     rw [hc] at h
     rcases ay h with ⟨hb,h⟩ | ⟨_,h⟩
     ·simp only [ank,aol] at hb
      obtain ⟨c,vs,its,Bh,f1,f2⟩:=ih h
      exact ⟨(y',c),u :: vs,(u,tk) :: its,Bh,⟨⟨g1,rfl,htk,bF hc,hb.1,hb.2⟩,f1⟩,f2⟩
     ·exact h.elim
theorem RQ {Z1:St} {dR:dP} {F1:List Nat} (H1:Rel cx Z1 dR F1 a w) (hV:Views cx Z J F w Z1 dR F1 w):∀{rs:List xJ} {wF:List ResultVar} {c:Cont (iZ rs)} {vs:List Value} {its:List (Value×iW)} {Bh:List (List Tag)} {hs:List (List Value×List Nat)},
  Nu P cx Z J F a w rs wF c vs its Bh->qX cx Z1 dR F1 w its hs->(∀t∈Bh.flatten,Same Z J Z1 dR t.1)->
  ∃bC,EX cx Z1 dR F1 w rs c vs bC/\bC.flatten=hs.flatMap (·.2)/\(∀b∈bC.flatten,b∈F1)/\(wF.mapM (SY a)).run P w=.ok vs w:=by
 intro rs
 induction rs with
 | nil=>
  intro wF c vs its Bh hs h hh _
  cases wF <;> cases vs <;> cases its <;> cases Bh <;> first | exact h.elim | skip
  cases hs with
  | nil=>exact ⟨[],trivial,rfl,by simp,by simp⟩
  | cons _ _=>exact hh.elim
 | cons r rs ih=>
  intro wF c vs its Bh hs h hh hS
  cases r with
  | into _ _=>cases wF <;> cases vs <;> exact h.elim
  | ptr _ _ _ _=>cases wF <;> cases vs <;> exact h.elim
  | val kk exts iQ=>
   cases wF <;> cases vs <;> cases Bh <;> first | exact h.elim | skip
   rename_i rv wF v vs tg Bh
   obtain ⟨⟨h1,h2,cs,h3,h4⟩,h5⟩:=h
   obtain ⟨bC,f1,f2,f3,f4⟩:=ih h5 hh (fun t ht=>hS t (by simp only [aoa,ann]; exact .inr ht))
   refine ⟨[] :: bC,⟨⟨rfl,tg,cs,h2,h3,h4 Z1 dR F1 ⟨H1,hV,fun t ht=>hS t (by simp only [aoa,ann]; exact .inl ht)⟩⟩,f1⟩,by simpa using f2,by simpa using f3, ?_⟩
   simp [apq,h1,f4,Result.andThen]
  | own kk ow exts iQ=>
   cases wF <;> cases vs <;> cases its <;> first | exact h.elim | skip
   rename_i rv wF v vs it its
   obtain ⟨⟨h1,h2,h3,⟨e,ex⟩,h4,h5⟩,h6⟩:=h
   cases hs with
   | nil=>exact hh.elim
   | cons q hs=>
    obtain ⟨⟨q1,q2,q3⟩,hh⟩:=hh
    obtain ⟨bC,f1,f2,f3,f4⟩:=ih h6 hh hS
    refine ⟨q.2 :: bC,⟨⟨it.2.tags,q.1,it.2.own,h5, ?_, ?_, ?_⟩,f1⟩,by simp [f2], ?_, ?_⟩
    ·intro t ht hm
     exact aM.2 (kD.1 h4 t (anw.2 ⟨ht,hm⟩))
    ·rw [<-h2]; subst e; exact q1
    ·subst e
     rw [ex]
     exact q2.ow q3
    ·intro b hb
     rw [aoa] at hb
     rcases ann.1 hb with h | h
     ·exact q2.sub b h
     ·exact f3 b h
    ·simp [apq,h1,f4,Result.andThen]
end
end
section
open Go
variable [Fr]
section
variable {P:Program} {T:jh} {hi:Hint} {n:Nat} {cx:Cx} {Z:St} {J:dP} {F:List Nat} {a:Act} {w:World}
theorem DW {i:Nat} {R:Root} (h:EL Z i=some R):Z.roots (aA i)=some R/\bB Z R:=by
 unfold EL at h
 split at h
 ·rename_i Q hQ
  cases hb:Q.bg || !bD Z Q.z8 Q.tags with
  | true=>rw [hb] at h; simp at h
  | false=>
   rw [hb] at h
   simp only [an3,ane] at h
   subst h
   simp only [aor,Bool.not_eq_false'] at hb
   exact ⟨hQ,hb⟩
 ·simp at h
theorem CS:∀{ps:List gq} {i:Nat} {d:Cont (lH ps)},mq Z ps i=some d->Cv Z ps i d:=by
 intro ps
 induction ps with
 | nil=>intro i d _; trivial
 | cons p ps ih=>
  intro i d h
  cases p with
  | val k iQ=>exact ih (show mq Z ps (i+1)=some d from h)
  | ro k=>exact ih (show mq Z ps (i+1)=some d from h)
  | own k ow=>exact ih (show mq Z ps (i+1)=some d from h)
  | fn f ks=>exact ih (show mq Z ps (i+1)=some d from h)
  | into j q=>exact ih (show mq Z ps (i+1)=some d from h)
  | rw k ow wt ht=>
   simp only [mq] at h
   split at h
   ·rename_i R d' hR hd
    obtain ⟨hb,h⟩:=tO h
    simp only [ank,aol] at hb
    obtain ⟨⟨b1,b2⟩,b3⟩:=hb
    obtain ⟨r1,r2⟩:=DW hR
    split at h
    ·rename_i x hx
     have h2:(x,d')=d:=anP h
     subst h2
     exact ⟨⟨R,r1,r2,bF hx,b1,b2,b3⟩,ih hd⟩
    ·simp at h
   ·simp at h
  | lI k ow wt=>
   simp only [mq] at h
   split at h
   ·rename_i R d' hR hd
    obtain ⟨hb,h⟩:=tO h
    simp only [ank,aol] at hb
    obtain ⟨⟨b1,b2⟩,b3⟩:=hb
    obtain ⟨r1,r2⟩:=DW hR
    split at h
    ·rename_i x hx
     have h2:(x,d')=d:=anP h
     subst h2
     exact ⟨⟨R,r1,r2,bF hx,b1,b2,b3⟩,ih hd⟩
    ·simp at h
   ·simp at h
theorem zu {fn:Func} {vs:List Value} (h:(fn.results.toList.mapM (SY a)).run P w=.ok vs w):(results fn a.tmps).run P w=.ok (WJ vs) w:=by
 have h2:results fn a.tmps=(do
   let vs <-fn.results.mapM (SY a)
   pure (if h:vs.size=1 then vs[0] else .tuple vs)):=by
  unfold results
  congr 1
 rw [h2,Array.mapM_eq_mapM_toList]
 simp only [anF,map_eq_pure_bind,h,anx,anK]
 match vs with
 | []=>rfl
 | [v]=>rfl
 | v :: u :: vs=>simp [WJ]
theorem aaH (hT:eG P T) (H:Rel cx Z J F a w) {ps:List gq} {rs:List xJ} {fn:Func} {out:Cont (iZ rs++lH ps)} (h:fin T ps rs fn.results.toList Z=some out) :
  ∃v,(results fn a.tmps).run P w=.ok v w/\Post cx ps rs out v w:=by
 unfold fin at h
 obtain ⟨q,h1,h2⟩:=vR _ h
 obtain ⟨c,vs,its,Bh,f1,f2⟩:=UU (P:=P) hT H h1
 rcases ay f2 with ⟨hb,f2⟩ | ⟨_,f2⟩
 ·have f2:q=_:=f2
  subst f2
  have e1:(its.map (·.2)).flatMap (·.ws)=um its:=by simp [um,List.flatMap_map]
  have e2:(its.map (·.2)).flatMap (·.tags)=qH its:=by simp [qH,List.flatMap_map]
  rw [e1,e2] at hb
  simp only [e1] at h2
  unfold Co yO at hb
  simp only [ank,vk,anu,an7,aW] at hb
  obtain ⟨b1,b2⟩:=hb
  have Qb:∀{rs:List xJ} {wF:List ResultVar} {c:Cont (iZ rs)} {vs:List Value} {its:List (Value×iW)} {Bh:List (List Tag)},Nu P cx Z J F a w rs wF c vs its Bh->∀it∈its,wo cx Z J F w it.1 it.2:=by
   intro rs
   induction rs with
   | nil=>intro wF c vs its Bh h it hi; cases wF <;> cases vs <;> cases its <;> first | exact h.elim | simp at hi
   | cons r rs ih=>
    intro wF c vs its Bh h it hi
    cases r with
    | into _ _=>cases wF <;> cases vs <;> exact h.elim
    | ptr _ _ _ _=>cases wF <;> cases vs <;> exact h.elim
    | val kk exts iQ=>
     cases wF <;> cases vs <;> cases Bh <;> first | exact h.elim | exact ih h.2 it hi
    | own kk ow exts iQ=>
     cases wF <;> cases vs <;> cases its <;> first | exact h.elim | skip
     rcases anq.1 hi with h3 | h3
     ·subst h3; rw [h.1.2.1]; exact h.1.2.2.1
     ·exact ih h.2 it h3
  obtain ⟨dR,F1,hs,H1,g1,g2,g3,g4,g5,g6,g7,g8,g9⟩:=takes its H (Qb f1) b1 (fun t ht=>b2 t (anj _ ht))
  obtain ⟨bC,k1,k2,k3,k4⟩:=RQ H1 g7 f1 g1 (fun t ht=>g5 t.1 (b2 t (ang _ ht)))
  split at h2
  ·rename_i d hd
   simp only [ane] at h2
   subst h2
   refine ⟨WJ vs,zu k4,_,dR,F1,a,vs,bC,H1,rfl,by rw [BG]; exact k1,by rw [k2]; exact g2,k3,by rw [Ci]; exact CS hd⟩
  ·simp at h2
 ·exact f2.elim
theorem Wm {A:Type} {z:A} {t:TypeId} {kk:K} {ow:List TypeId} {exts:List Nat} {x:AV} {v:Value} {k:El kk->Nat->Prog A} (hx:bN cx Z J F w x v) (h:(Yi t kk ow exts x k).ends Z z) :
  ∃r R y b o,aQ Z r R/\bB Z R/\R.kind=.var t/\mY (kk.tys.filter fun t=>az t ow) R.own=true/\((kk.tys.all fun t=>az t ow)=true\/qp exts [] R.tags=true)/\(∃e:R.k=kk,y=e▸R.x)/\dY J R r=some (b,o)/\v=.pointer (some ⟨b,o,none⟩)/\(k y r).ends Z z:=by
 cases x with
 | ptr r p n=>
  cases p with
  | cons s p=>exact h.elim
  | nil=>
   unfold Yi at h
   obtain ⟨R,hr,hv,h⟩:=bU h
   rcases ay h with ⟨hb,h⟩ | ⟨_,h⟩
   ·simp only [ank,aol] at hb
    obtain ⟨⟨b1,b2⟩,b3⟩:=hb
    have hk:R.kind=.var t:=by
     unfold Root.VA at b1
     split at b1
     ·rename_i u hu; rw [hu,ani b1]
     ·simp at b1
    cases hc:bQ R.k kk R.x with
    | none=>rw [hc] at h; exact h.elim
    | some y=>
     rw [hc] at h
     obtain ⟨_,cs,b,o,hn,e⟩:=hx.2 R hr.1 hv (by unfold eT clean; simp [az]) (fun t ht=>by simp [ah] at ht) rfl
     simp only [bH,ane,anp] at hn
     exact ⟨r,R,y,b,o,hr,hv,hk,b2,b3,bF hc,hn.2,e,h⟩
   ·exact h.elim
 | _=>exact h.elim
theorem UF (H:Rel cx Z J F a w) {j:Nat} {x:AV} {v:Value} {m:Int} (hx:bN cx Z J F w x v) (h:(cutV j x fun m=>(.ret m:Prog Int)).ends Z m) :
  ∃b n cp,v=.slice b m.toNat cp/\m.toNat<=n/\bN cx Z J F w (.ref (aA j) 0) (.slice b n cp):=by
 cases x with
 | ref r g=>
  simp only [cutV] at h
  rcases ay h with ⟨hc,h5⟩ | ⟨_,h5⟩
  ·clear h
   simp only [ank] at hc
   have e1:=ani hc.1
   have e2:=ani hc.2
   subst e1 e2
   obtain ⟨R,hr,hv,h⟩:=bU h5
   rcases ay h with ⟨hg,h⟩ | ⟨_,h⟩
   ·obtain ⟨h1,h2⟩:=hx R hr (ani hg)
    have hO:=(H.roots _ R hr).ow hv
    have hK:∀q:Dat,(⟨R.k,R.x⟩:Dat)=q->(match q.1,q.2 with
      | .sl _ kk,xs=>(.ret ((show List (El kk) from xs).length:Int):Prog Int)
      | _,_=>.fail).ends Z m->∃b n cp,v=.slice b m.toNat cp/\m.toNat<=n/\bN cx Z J F w (.ref (aA j) 0) (.slice b n cp):=by
     intro q hq hh
     obtain ⟨qk,qx⟩:=q
     cases qk with
     | sl e kk=>
      have hm:m=((show List (El kk) from qx).length:Int):=hh
      have hV:=lU (fun _=>True) (fun _ _=>trivial) (fun _ _=>trivial) hO
      have hV:=cast (congrArg (fun q:Dat=>Vw (hp w) (fun _=>True) q.1 q.2 (J.hdr (aA j))) hq) hV
      have Au:=cast (congrArg (fun q:Dat=>VC q.1 v (J.hdr (aA j))) hq) h2
      obtain ⟨b,n,c,g1,g2,g3,_⟩:=hV
      have Au:VC (.sl e kk) v (J.hdr (aA j)):=Au
      have g1:J.hdr (aA j)=[.slice b n c]:=g1
      have h3:=Au.1
      rw [g1] at h3
      simp only [apr,an9] at h3
      have g2:n=(show List (El kk) from qx).length:=g2
      refine ⟨b,n,c,by rw [hm, <-g2]; simpa using h3.symm,by rw [hm, <-g2]; simp,by rw [h3]; exact hx⟩
     | _=>exact hh.elim
    exact hK _ rfl h
   ·exact h.elim
  ·exact h5.elim
 | part r g lo hi sz=>
  simp only [cutV] at h
  rcases ay h with ⟨hc,h5⟩ | ⟨_,h5⟩
  ·clear h
   simp only [ank] at hc
   have e1:=ani hc.1.1
   have e2:=ani hc.1.2
   have e3:=ani hc.2
   subst e1 e2 e3
   have hm:m=(hi:Int):=h5
   obtain ⟨b',b,n,c,g1,g2,g3,g4,g5,g6⟩:=hx
   have hb:b'=b:=by rw [g2 (.inl rfl)]; simp [add_zero]
   subst hb
   exact ⟨b',n,c,by rw [g1,hm]; simp,by rw [hm]; simpa using g4,g6⟩
  ·exact h5.elim
 | _=>exact h.elim
theorem XM (hT:eG P T) (H:Rel cx Z J F a w) {ps:List gq} {rs:List xJ} {fn:Func} {out:Cont (iZ rs++lH ps)} (h:XL T ps rs fn.results.toList Z=some out) :
  ∃v,(results fn a.tmps).run P w=.ok v w/\Post cx ps rs out v w:=by
 obtain ⟨wF,Zt⟩:∃wF,fn.results.toList=wF:=⟨_,rfl⟩
 rw [Zt] at h
 have other:fin T ps rs wF Z=some out->∃v,(results fn a.tmps).run P w=.ok v w/\Post cx ps rs out v w:=fun h=>aaH hT H (by rw [Zt]; exact h)
 cases rs with
 | nil=>exact other h
 | cons q rs=>
  cases q with
  | val _ _ _=>exact other h
  | own _ _ _ _=>exact other h
  | into j q=>
   cases rs with
   | cons _ _=>cases q <;> exact other h
   | nil=>
    cases q with
    | cons _ _=>exact other h
    | nil=>
     match wF,Zt,h,other with
     | [],_,h,other=>exact other h
     | _ :: _ :: _,_,h,other=>exact other h
     | [rv],Zt,h,_=>
      have h:((O6 T false rv fun a=>cutV j a fun m=>.ret m:Prog Int).run Z fun m=>
        match mq Z ps 0 with
        | some d=>some (m,d)
        | none=>none)=some out:=h
      obtain ⟨m,h1,h2⟩:=vR _ h
      obtain ⟨y,u,g1,g2,_,h1⟩:=Cc hT H h1
      obtain ⟨b,n,cp,e1,e2,e3⟩:=UF H g2 h1
      split at h2
      ·rename_i d hd
       have h2:some ((m,d):Cont (iZ [xJ.into j []]++lH ps))=some out:=h2
       have h2:=anP h2
       subst h2
       exact ⟨_,zu (vs:=[_]) (by rw [Zt]; simp [apq,g1,Result.andThen]),_,_,_,a,[_],[[]],H,rfl,⟨⟨rfl,rfl,b,n,cp,e1,e2,e3⟩,trivial⟩,by simp,by simp,CS hd⟩
      ·simp at h2
  | ptr t kk ow exts=>
   cases rs with
   | cons _ _=>exact other h
   | nil=>
    match wF,Zt,h,other with
    | [],_,h,other=>exact other h
    | _ :: _ :: _,_,h,other=>exact other h
    | [rv],Zt,h,_=>
     have h:((O6 T false rv fun a=>Yi t kk ow exts a fun y r=>.ret (y,r):Prog (El kk×Nat)).run Z fun q=>
       match mq (aB [.r q.2 none] Z) ps 0 with
       | some d=>some (q.1,d)
       | none=>none)=some out:=h
     obtain ⟨q,h1,h2⟩:=vR _ h
     obtain ⟨y,u,g1,g2,_,h1⟩:=Cc hT H h1
     obtain ⟨r,R,x,b,o,hr,hv,hk,b2,b3,ex,yf,rfl,h1⟩:=Wm g2 h1
     have h1:q=(x,r):=h1
     subst h1
     obtain ⟨k1,k2,k3,k4⟩:=afT H hr (by rw [hk]; simp) hv
     have hblk:blk J R r=b :: J.fo r:=by unfold blk; rw [yf]; rfl
     have K:=H.roots r R hr
     have hnd:=K.nd
     rw [hblk] at hnd
     split at h2
     ·rename_i d hd
      have h2:some ((x,d):Cont (iZ [xJ.ptr t kk ow exts]++lH ps))=some out:=h2
      have h2:=anP h2
      subst h2
      refine ⟨_,zu (vs:=[_]) (by rw [Zt]; simp [apq,g1,Result.andThen]),_,_,_,a,[_],[b :: J.fo r],k1,rfl,⟨⟨b,o,R.tags,J.hdr r,R.own,J.fo r,rfl,rfl,b3, ?_, ?_, ?_⟩,trivial⟩,by simpa using hnd, ?_,CS hd⟩
      ·intro u hu hm
       exact aM.2 (kD.1 b2 u (anw.2 ⟨hu,hm⟩))
      ·obtain ⟨m1,arr,e,lo,hi,m2,m3,m4,m5⟩:=K.mem b o yf
       obtain ⟨ek,_⟩:=ex
       exact ⟨m1,arr,e,lo,hi,m2,m3,by rw [<-ek]; exact m4,m5 t hk⟩
      ·obtain ⟨ek,ey⟩:=ex
       subst ek
       simp only at ey
       subst ey
       exact k3.ow k4
      ·intro c hc
       simp only [aoa,aob,anJ] at hc
       exact anj _ (by rw [hblk]; exact hc)
     ·simp at h2
def Cx.V6 (cx:Cx) (m:Nat):Cx:={ cx with nt:=m }
theorem CK {m:Nat}:∀{cs:List (TypeId×Dat×List Tag)} {vs:List Value},lD (cx.V6 m) Z J F w cs vs↔lD cx Z J F w cs vs
 | [],[]=>Iff.rfl
 | c :: cs,v :: vs=>and_congr Iff.rfl CK
 | [],_ :: _=>Iff.rfl
 | _ :: _,[]=>Iff.rfl
theorem Px {m:Nat} {x:AV} {v:Value}:bN (cx.V6 m) Z J F w x v↔bN cx Z J F w x v:=by
 cases x with
 | fn f cs=>
  constructor
  ·rintro ⟨vs,h1,h2⟩; exact ⟨vs,h1,CK.1 h2⟩
  ·rintro ⟨vs,h1,h2⟩; exact ⟨vs,h1,CK.2 h2⟩
 | _=>exact Iff.rfl
theorem xw {m:Nat}:∀{l:List AV} {vs:List Value},eD (cx.V6 m) Z J F w l vs↔eD cx Z J F w l vs
 | [],[]=>Iff.rfl
 | c :: cs,v :: vs=>and_congr Px xw
 | [],_ :: _=>Iff.rfl
 | _ :: _,[]=>Iff.rfl
theorem Tv {m:Nat} {x:wL} {v:Value}:jG (cx.V6 m) Z J F w x v↔jG cx Z J F w x v:=by
 cases x with
 | one x=>exact Px
 | Hq l=>
  constructor
  ·rintro ⟨vs,h1,h2⟩; exact ⟨vs,h1,xw.1 h2⟩
  ·rintro ⟨vs,h1,h2⟩; exact ⟨vs,h1,xw.2 h2⟩
 | lit _ _ l=>
  constructor
  ·rintro ⟨vs,cs,h1,h2⟩; exact ⟨vs,cs,h1,xw.1 h2⟩
  ·rintro ⟨vs,cs,h1,h2⟩; exact ⟨vs,cs,h1,xw.2 h2⟩
theorem Rel.V6 {a':Act} (H:Rel cx Z J F a w) {m:Nat} (hd:a'.defers=[]) (hm:m<=a'.tmps.size) (hs:∀s,a'.tmps.getD s undef=a.tmps.getD s undef):Rel (cx.V6 m) Z J F a' w where
 defs:=hd
 sz:=hm
 mE:=H.mE
 BX:=H.BX
 slots:=fun s=>by rw [hs s]; exact Tv.2 (H.slots s)
 rD:=H.rD
 roots:=fun r R hr=>by
  obtain ⟨o1,o2,o3,o4,o5⟩:=H.roots r R hr
  exact ⟨o1,o2,o3,o4,o5⟩
 dG:=H.dG
 EK:=H.EK
 fl:=H.fl
 xK:=H.xK
 iY:=H.iY
 frame:=H.frame
 uf:=H.uf
 oI:=H.oI
 vJ:=H.vJ
 vK:=H.vK
theorem Mr:∀{ps:List gq} {i:Nat} {c:Cont (kin ps)} {r:Nat} {R:Root},gZ (gX ps i c) r=some R->∃j p cj,r=aA (i+j)/\ps[j]?=some p/\eB p (i+j) cj=some R:=by
 intro ps
 induction ps with
 | nil=>intro i c r R h; simp [gX,gZ] at h
 | cons p ps ih=>
  intro i c r R h
  rw [vF,xx] at h
  have hrec:gZ (gX ps (i+1) (ZK p ps c)) r=some R->∃j q cj,r=aA (i+j)/\(p :: ps)[j]?=some q/\eB q (i+j) cj=some R:=by
   intro h
   obtain ⟨j,q,cj,h1,h2,h3⟩:=ih h
   have e:i+1+j=i+(j+1):=by omega
   exact ⟨j+1,q,cj,by rw [h1,e],by simpa using h2,by rw [<-e]; exact h3⟩
  cases hr:eB p i (U8 p ps c) with
  | none=>rw [hr] at h; exact hrec h
  | some Q=>
   rw [hr] at h
   simp only [gZ] at h
   cases hb:Nat.beq r (aA i) with
   | true=>
    rw [hb] at h
    have h':Q=R:=by simpa using h
    exact ⟨0,p,U8 p ps c,ani hb,rfl,by rw [<-h']; exact hr⟩
   | false=>rw [hb] at h; exact hrec h
theorem Ov:∀{ps:List gq} {i j:Nat} {k:K},wN ps j k->∃l,jC (aA (i+j)) (vP ps i)=some (k,l):=by
 intro ps
 induction ps with
 | nil=>intro i j k h; obtain ⟨ow,wt,ht,h | h⟩:=h <;> simp at h
 | cons p ps ih=>
  intro i j k h
  have hne:∀j,Nat.beq (aA (i+(j+1))) (aA i)=false:=fun j=>by
   cases h:Nat.beq (aA (i+(j+1))) (aA i) with
   | true=>
    have:=ani h
    unfold aA at this
    omega
   | false=>rfl
  cases j with
  | zero=>
   obtain ⟨ow,wt,ht,h | h⟩:=h
   ·simp only [anU,ane] at h
    subst h
    exact ⟨(wt,ht),by simp [vP,jC]⟩
   ·simp only [anU,ane] at h
    subst h
    exact ⟨(wt,k.tys),by simp [vP,jC]⟩
  | succ j=>
   have h':wN ps j k:=by
    obtain ⟨ow,wt,ht,h⟩:=h
    exact ⟨ow,wt,ht,by simpa using h⟩
   obtain ⟨l,hl⟩:=ih (i:=i+1) h'
   have e:i+1+j=i+(j+1):=by omega
   rw [e] at hl
   cases p <;> first | exact ⟨l,by simp only [vP,jC,hne j,an3]; exact hl⟩ | exact ⟨l,hl⟩
theorem MP {ps:List gq} {c:Cont (kin ps)} (hP:Cw cx ps) (H:Rel cx (cK ps c) J F a w) (m:Nat):NB (cx.V6 m) (vP ps 0):=by
 have hf:∀{j:Nat} {k:K},wN ps j k->∃l,jC (aA j) (vP ps 0)=some (k,l):=fun {j} {k} h=>by
  have:=Ov (i:=0) h
  simpa using this
 refine ⟨fun j pi hj h=>?_,fun j p ts v hv=>?_,fun j v hv=>?_⟩
 ·rcases h with h | ⟨⟨b,o,n⟩,h⟩
  ·obtain ⟨k,hk⟩:=hP.par j pi hj h
   obtain ⟨l,hl⟩:=hf hk
   exact ⟨_,hl⟩
  ·obtain ⟨R,hR,hk,_⟩:=H.mE j pi b o n hj h
   obtain ⟨j',p,cj,h1,h2,h3⟩:=Mr (show gZ (gX ps 0 c) (aA j)=some R from hR.1)
   have e:j=j':=by unfold aA at h1; omega
   subst e
   have:∃k,wN ps j k:=by
    cases p with
    | rw k ow wt ht=>exact ⟨k,ow,wt,ht, .inl h2⟩
    | lI k ow wt=>exact ⟨k,ow,wt,[], .inr h2⟩
    | own k ow=>
     have h4:=anP h3
     rw [<-h4] at hk
     simp [aK] at hk
    | _=>simp [eB] at h3
   obtain ⟨k,hk⟩:=this
   obtain ⟨l,hl⟩:=hf hk
   exact ⟨_,hl⟩
 ·obtain ⟨k,hk,e⟩:=hP.ptr j p ts v hv
  obtain ⟨l,hl⟩:=hf hk
  exact ⟨k,l,hl,e⟩
 ·obtain ⟨k,hk⟩:=hP.ref j v hv
  obtain ⟨l,hl⟩:=hf hk
  exact ⟨_,hl⟩
theorem Oc (hm:P.follows .mixedOrders=true) (hT:eG P T) (hSt:HZ P T) {E:Entry} {fn:Func} (hf:P.funcs[E.f]?=some fn) (hname:(fn.name == "runtime.NumGoroutine")=false) {m:Nat} (hC:uE P m hi)
  (hF:∀c out,E.F n c=some out->XF T hi fn E.ps E.rs m c=some out):ak P n E:=by
 intro c out hout cx J args w hnt hw hsz hP H
 have h:=hF c out hout
 unfold XF at h
 cases hb:fn.body with
 | none=>rw [hb] at h; simp at h
 | some code=>
  rw [hb] at h
  simp only at h
  refine .inl ⟨Go.MuLone.run_callFunc_enter hf hname hb args w,calls_of_wp hf hb ?_⟩
  have H2:Rel (cx.V6 fn.ntmps) (cK E.ps c) J [] { tmps:=args++Array.replicate (fn.ntmps - args.size) undef,defers:=[] } w:=by
   refine H.V6 rfl (by simp; omega) fun s=>?_
   simp only [an2]
   rw [Array.getElem?_append]
   split
   ·rfl
   ·rename_i hlt
    rw [Array.getElem?_eq_none (by omega:args.size<=s)]
    rw [Array.getElem?_replicate]
    split <;> rfl
  have hC':uE P m { hi with nt:=fn.ntmps,jD:=vP E.ps 0 }:=hC
  refine wp_mono (aaD Us hm hT hSt hC' rfl (MP hP H _) code 0 h H2) ?_
  have hend:∀{Z':St} {J':dP} {F':List Nat} {a':Act} {w':World},XL T E.ps E.rs fn.results.toList Z'=some out->Rel (cx.V6 fn.ntmps) Z' J' F' a' w'->
    a'.defers=[]/\∃v,(results fn a'.tmps).run P w'=.ok v w'/\∃v',Ending.returned v=.returned v'/\Post cx E.ps E.rs out v' w':=by
   intro Z' J' F' a' w' h1 H3
   have H4:Rel cx Z' J' F' a' w':=by
    have:=H3.V6 (m:=0) (a':=a') H3.defs (anO _) (fun _=>rfl)
    obtain ⟨nt,w0,ext,par,ptrs,refs⟩:=cx
    simp only at hnt
    subst hnt
    exact this
   obtain ⟨v,v1,v2⟩:=XM (P:=P) hT H4 h1
   exact ⟨H3.defs,v,v1,v,rfl,v2⟩
  rintro e a' w' ⟨ex,Z',J',F',h1,h2,h3⟩
  cases e <;> simp only [exC,ane,reduceCtorEq] at h1
  ·subst h1; exact hend h2 h3
  ·subst h1; simp at h2
  ·subst h1; exact hend h2 h3
end
end
section
open Go
variable [Fr]
def E5 (W:World):(ps:List gq)->Cont (kin ps)->List Value->Prop
 | [],_,[]=>True
 | .val k [] :: ps,c,v :: vs=>(∃cs,VC k v cs/\Vw (hp W) (fun b=>b<W.heap.size) k c.1 cs)/\E5 W ps c.2 vs
 | _,_,_=>False
def Ud (W W':World):Prop:=W'.os=W.os/\W'.output=W.output/\W.heap.size<=W'.heap.size/\∀b,b<W.heap.size->hp W' b=hp W b
def y8 (W:World):Cx:={ nt:=0,w0:=W,ext:=fun _ b=>b<W.heap.size,par:=fun _=>none,ptrs:=fun _ _ _ _=>False,refs:=fun _ _=>False }
def V4:dP:={ loc:=fun _=>(0,0),hdr:=fun _=>[],fo:=fun _=>[] }
section
variable {P:Program} {W:World}
theorem E5.roots:∀{ps:List gq} {c:Cont (kin ps)} {vs:List Value} {i:Nat},E5 W ps c vs->gX ps i c=[]/\vs.length=ps.length
 | [],_,[],_,_=>⟨rfl,rfl⟩
 | [],_,_ :: _,_,h=>h.elim
 | .val k [] :: ps,c,v :: vs,i,h=>by
  obtain ⟨h1,h2⟩:=E5.roots (i:=i+1) h.2
  exact ⟨h1,by simp [h2]⟩
 | .val k (_ :: _) :: ps,c,vs,_,h=>by cases vs <;> exact h.elim
 | .val k [] :: ps,c,[],_,h=>h.elim
 | .ro _ :: _,_,vs,_,h=>by cases vs <;> exact h.elim
 | .rw _ _ _ _ :: _,_,vs,_,h=>by cases vs <;> exact h.elim
 | .lI _ _ _ :: _,_,vs,_,h=>by cases vs <;> exact h.elim
 | .own _ _ :: _,_,vs,_,h=>by cases vs <;> exact h.elim
 | .fn _ _ :: _,_,vs,_,h=>by cases vs <;> exact h.elim
 | .into _ _ :: _,_,vs,_,h=>by cases vs <;> exact h.elim
theorem E5.slots {Z:St} (hσ:∀r R,¬aQ Z r R):∀{ps:List gq} {c:Cont (kin ps)} {vs:List Value} {i:Nat},E5 W ps c vs->∀s,(∀v,vs[s - i]?=some v->i<=s->jG (y8 W) Z V4 [] W (ru (kr ps i c) s) v)/\((vs[s - i]?=none\/s<i)->ru (kr ps i c) s=.one .undef)/\wO Z (ru (kr ps i c) s)
 | [],_,[],_,_=>fun s=>⟨fun v h=>by simp at h,fun _=>rfl,trivial⟩
 | [],_,_ :: _,_,h=>h.elim
 | .val k [] :: ps,c,v :: vs,i,h=>by
  intro s
  have ih:=E5.slots hσ (i:=i+1) h.2 s
  simp only [kr,ru]
  cases hb:Nat.beq s i with
  | true=>
   have:=ani hb
   subst this
   simp only [aps,anU,ane,an0]
   refine ⟨fun u hu _=>?_,fun h=>by rcases h with h | h; simp at h; omega, ?_⟩
   ·subst hu
    intro _
    obtain ⟨cs,h1,h2⟩:=h.1
    refine ⟨cs,h1, ?_⟩
    cases hf:k.flat with
    | true=>exact jA hf h2
    | false=>
     refine gH (fun _ _=>rfl) (fun b hb=>⟨hb,by simp, ?_,fun r R hr=>absurd hr (hσ r R),fun _=>.inl ⟨s,0,by simp,hb⟩⟩) h2
     rintro ⟨j,pi,o,n,h3,_⟩
     simp [y8] at h3
   ·intro t ht
    cases hf:k.flat with
    | true=>rw [hf] at ht; simp at ht
    | false=>
     rw [hf] at ht
     simp only [an3,List.map_nil,anz] at ht
     subst ht
     exact .inl (jo s)
  | false=>
   have hne:=aou hb
   simp only [an3]
   refine ⟨fun u hu hle=>?_,fun hh=>?_,ih.2.2⟩
   ·refine ih.1 u ?_ (by omega)
    have e:s - i=(s - (i+1))+1:=by omega
    rw [e] at hu
    simpa using hu
   ·refine ih.2.1 ?_
    rcases hh with hh | hh
    ·by_cases hlt:s<i
     ·exact .inr (by omega)
     ·have e:s - i=(s - (i+1))+1:=by omega
      rw [e] at hh
      exact .inl (by simpa using hh)
    ·exact .inr (by omega)
 | .val k (_ :: _) :: ps,c,vs,_,h=>by cases vs <;> exact h.elim
 | .val k [] :: ps,c,[],_,h=>h.elim
 | .ro _ :: _,_,vs,_,h=>by cases vs <;> exact h.elim
 | .rw _ _ _ _ :: _,_,vs,_,h=>by cases vs <;> exact h.elim
 | .lI _ _ _ :: _,_,vs,_,h=>by cases vs <;> exact h.elim
 | .own _ _ :: _,_,vs,_,h=>by cases vs <;> exact h.elim
 | .fn _ _ :: _,_,vs,_,h=>by cases vs <;> exact h.elim
 | .into _ _ :: _,_,vs,_,h=>by cases vs <;> exact h.elim
theorem abx (hfr:∀b,Fr.free b->b<W.heap.size/\hp W b=Fr.obj b) {ps:List gq} {c:Cont (kin ps)} {args:Array Value} (hV:E5 W ps c args.toList):Rel (y8 W) (cK ps c) V4 [] ⟨args,[]⟩ W:=by
 have hr0:∀r,(cK ps c).roots r=none:=fun r=>by
  show gZ (gX ps 0 c) r=none
  rw [(hV.roots (i:=0)).1]
  rfl
 have hno:∀r R,¬aQ (cK ps c) r R:=fun r R h=>by have h2:=h.1; rw [hr0 r] at h2; simp at h2
 have hs:=fun s=>E5.slots hno (i:=0) hV s
 refine ⟨rfl,anO _,fun j pi b o n h=>by simp [y8] at h,fun r R h=>absurd h (hno r R),fun s=>?_,fun s=>(hs s).2.2,fun r R h=>absurd h (hno r R),fun r R h=>by rw [hr0 r] at h; simp at h,
  fun r R _ _ h=>absurd h (hno r R),fun b h=>by simp at h,an4,fun r R h=>absurd h (hno r R),⟨rfl,rfl,rfl,anv _,fun _ _ _=>rfl,fun j pi b o n h=>by simp [y8] at h⟩,
  fun j pi h=>by simp [y8] at h,⟨fun j pi h=>by simp [y8] at h,fun b hb=>⟨(hfr b hb).1,fun j pi h=>by simp [y8] at h⟩,fun b hb=>(hfr b hb).2⟩,fun j p ts v h=>h.elim,fun j v h=>h.elim⟩
 obtain ⟨h1,h2,_⟩:=hs s
 cases hv:args.toList[s]? with
 | none=>
  have:=h2 (.inl (by simpa using hv))
  rw [show (cK ps c).slots s=.one .undef from this]
  trivial
 | some v=>
  have:=h1 v (by simpa using hv) (anO _)
  have e:args.getD s undef=v:=by
   rw [apt] at hv
   simp [an2,hv]
  show jG _ _ _ _ _ _ (args.getD s undef)
  rw [e]
  exact this
theorem VI (hfr:∀b,Fr.free b->b<W.heap.size/\hp W b=Fr.obj b) {f:FuncId} {ps:List gq} {F:Nat->Cont (kin ps)->Option (Cont (iZ [.val .bool [] []]++lH ps))} {n:Nat} (hE:ak P n ⟨f,ps,[.val .bool [] []],F⟩)
  {c:Cont (kin ps)} {out:Cont (iZ [.val .bool [] []]++lH ps)} (hF:F n c=some out) (ht:out.1=true) {args:Array Value} (hV:E5 W ps c args.toList) (hcall:(callFunc f args).run P W=.ok (.enter f args) W) :
  Calls P f args W fun e W'=>e=.returned (.bool true)/\Ud W W':=by
 have h:=hE c out hF (y8 W) V4 args W rfl rfl (by rw [<-aoq,(hV.roots (i:=0)).2]) ⟨fun j pi h=>by simp [y8] at h,fun j p ts v h=>h.elim,fun j v h=>h.elim⟩ (abx hfr hV)
 rcases h with ⟨_,h⟩ | ⟨v,w',h,_⟩
 ·refine h.mono ?_
  rintro e W' ⟨v,rfl,Z,J,F',a,vs,bC,H,rfl,hR,_⟩
  refine ⟨?_,H.frame.1,H.frame.2.2.1,H.frame.2.2.2.1,fun b hb=>H.frame.2.2.2.2.1 b hb (fun j pi h=>by simp [y8] at h)⟩
  cases vs with
  | nil=>exact hR.elim
  | cons v vs=>
   cases bC with
   | nil=>exact hR.elim
   | cons fo bC=>
    obtain ⟨⟨_,T,cs,_,hv,hw⟩,hr⟩:=hR
    cases vs with
    | cons _ _=>exact hr.elim
    | nil=>
     obtain ⟨e1,_⟩:=hv
     have e2:cs=[.bool out.1]:=hw
     rw [e1,ht] at e2
     simp only [apr,an9] at e2
     subst e2
     rfl
 ·rw [hcall] at h
  simp at h
end
end
section
open Go
mutual
def WV {H:Type}:DataW H->Nat
 | .lit (.string bytes)=>bytes.length+1
 | .lit _=>1
 | .nil=>1
 | .ptr d=>WV d+1
 | .slice elems spare=>Ep elems+Ep spare+1
 | .agg parts=>Ep parts+1
 | .iface _ d=>WV d+1
 | .map _=>1
 | .held _=>1
def Ep {H:Type}:List (DataW H)->Nat
 | []=>0
 | d :: r=>WV d+Ep r
end
def Qr:(k:K)->El k->Nat
 | .int _,_=>1
 | .bool,_=>1
 | .str,s=>(show List Int from s).length+1
 | .sl _ k,xs=>((show List (El k) from xs).map (Qr k)).sum+1
 | .unit,_=>0
 | .pair a b,x=>Qr a x.1+Qr b x.2
 | .st f,x=>Qr f x+1
 | .gap _,_=>0
 | .id _,_=>1
def D6:(k:K)->El k->Prop
 | .int ik,x=>GV ik x
 | .str,s=>(show List Int from s).length<=9223372036854775807/\∀b∈(show List Int from s),0<=b/\b<256
 | .sl _ k,xs=>(show List (El k) from xs).length<=9223372036854775807/\∀x∈(show List (El k) from xs),D6 k x
 | .pair a b,x=>D6 a x.1/\D6 b x.2
 | .st f,x=>D6 f x
 | _,_=>True
theorem DN {A:Type} {p:Nat->A->Prop}:∀{n:Nat},(∀i,i<n->∃x,p i x)->∃xs:List A,xs.length=n/\∀i (h:i<xs.length),p i xs[i]:=by
 intro n h
 induction n with
 | zero=>exact ⟨[],rfl,fun i h=>by simp at h⟩
 | succ n ih=>
  obtain ⟨xs,h1,h2⟩:=ih (fun i hi=>h i (by omega))
  obtain ⟨x,hx⟩:=h n (by omega)
  refine ⟨xs++[x],by simp [h1],fun i hi=>?_⟩
  rw [List.getElem_append]
  split
  ·exact h2 i _
  ·have:i=n:=by simp [h1] at hi; omega
   subst this
   simpa using hx
theorem WG {A H:Type} {f:A->Nat}:∀{xs:List A} {ds:List (DataW H)},xs.length=ds.length->(∀i (h:i<xs.length) (h':i<ds.length),f xs[i]<=WV ds[i])->(xs.map f).sum<=Ep ds
 | [],[],_,_=>anv _
 | x :: xs,d :: ds,hl,h=>by
  simp only [aoh,List.sum_cons,Ep]
  have h0:=h 0 (by simp) (by simp)
  have:=WG (xs:=xs) (ds:=ds) (by simpa using hl) (fun i h1 h2=>by
   have:=h (i+1) (by simp; omega) (by simp; omega)
   simpa using this)
  simp only [List.getElem_cons_zero] at h0
  omega
 | [],_ :: _,hl,_=>by simp at hl
 | _ :: _,[],hl,_=>by simp at hl
section
variable {P:Program} {T:jh} {W:World} {H:Type} {enc:TypeId×Value->H}
def aev [Fr] (W:World) (k:K) (cs:List Value) (d:DataW H):Prop:=∃x:El k,Vw (hp W) (fun b=>b<W.heap.size) k x cs/\Qr k x<=WV d/\D6 k x
theorem yg {t:TypeId} {k:K} (h:rP P t k):P.cellsOf t=k.size:=by
 obtain ⟨i,h1,h2,_⟩:=h
 simp [Program.cellsOf,h1,h2]
theorem Tm [Fr] (hid:T.ids=false) (hfr:∀b,b<W.heap.size->Fr.free b):∀(k:K),
  (∀t n cs d ps,(j5 P T k).1 t->DataW.trod enc P W 0 (fun _=>true) true n t cs=some (d,ps)->aev W k cs d)/\
  (∀(fs:List Field) off n (cs:List Value) (xs:List (DataW H×List MemPlace)),(j5 P T k).2 fs off->cs.length=off+k.size->xs.length=fs.length->
   (∀(i:Nat) f,fs[i]?=some f->DataW.trod enc P W 0 (fun _=>true) true n f.type ((cs.drop f.offset).take (P.cellsOf f.type))=xs[i]?)->
   ∃x:El k,Vw (hp W) (fun b=>b<W.heap.size) k x (cs.drop off)/\Qr k x<=Ep (xs.map (·.1))/\D6 k x):=by
 intro k
 induction k with
 | int ik=>
  refine ⟨fun t n cs d ps ht h=>?_,fun _ _ _ _ _ h=>h.elim⟩
  obtain ⟨m,rfl,e,hw⟩:=DataW.trod_int ht.1 h
  simp only [anp] at e
  obtain ⟨rfl,rfl⟩:=e
  have hr:GV ik m:=by
   cases ik <;> simp [GV]
   simp [Lit.wf,IntKind.min,IntKind.max,IntKind.signed,IntKind.bits] at hw
   omega
  exact ⟨m,⟨rfl,hr⟩,anv _,hr⟩
 | bool=>
  refine ⟨fun t n cs d ps ht h=>?_,fun _ _ _ _ _ h=>h.elim⟩
  obtain ⟨b,rfl,e⟩:=DataW.trod_bool ht.1 h
  simp only [anp] at e
  obtain ⟨rfl,rfl⟩:=e
  exact ⟨b,rfl,anv _,trivial⟩
 | str=>
  refine ⟨fun t n cs d ps ht h=>?_,fun _ _ _ _ _ h=>h.elim⟩
  obtain ⟨s,rfl,e,hsz⟩:=DataW.trod_string ht.1 h
  simp only [anp] at e
  obtain ⟨rfl,rfl⟩:=e
  exact ⟨bytesOf s,⟨s,rfl,rfl⟩,by simp [Qr,WV,bytesOf],by
   unfold maxLen at hsz
   have:(bytesOf s).length=s.size:=by simp [bytesOf]
   refine ⟨(show (bytesOf s).length<=9223372036854775807 by omega),fun b hb=>?_⟩
   have hb':b∈bytesOf s:=hb
   unfold bytesOf at hb'
   obtain ⟨x,_,rfl⟩:=anQ.1 hb'
   have:=x.toNat_lt
   omega⟩
 | unit=>exact ⟨fun _ _ _ _ _ h=>h.elim,fun fs off n cs xs _ hl hx hf=>⟨(),by
   have:cs.drop off=[]:=apu (by simp [K.size] at hl; omega)
   exact this,anO _,trivial⟩⟩
 | gap n=>exact ⟨fun _ _ _ _ _ h=>h.elim,fun _ _ _ _ _ h=>h.elim⟩
 | id e=>exact ⟨fun t n cs d ps ht h=>by have:=ht.2.2; rw [hid] at this; simp at this,fun _ _ _ _ _ h=>h.elim⟩
 | sl e k ih=>
  refine ⟨fun t n cs d ps ht h=>?_,fun _ _ _ _ _ h=>h.elim⟩
  obtain ⟨hu,_,hte,hk0,_⟩:=ht
  have hce:P.cellsOf e=k.size:=yg (fM.info hte)
  rcases DataW.trod_slice hu h with ⟨rfl,e1⟩ | ⟨a,len,cap,elems,rest,m,rfl,rfl,e1,_,hlc,hmx,hle,hel,_,_⟩
  ·simp only [anp] at e1
   obtain ⟨rfl,rfl⟩:=e1
   exact ⟨[],⟨none,0,0,rfl,rfl,anv _,fun h=>by omega⟩,by simp [Qr,WV],⟨anO _,fun x hx=>by simp at hx⟩⟩
  ·simp only [anp] at e1
   obtain ⟨rfl,rfl⟩:=e1
   have hone:∀i (hi:i<len),∃x:El k,∃ds,W.cells? 0 (a.add (i * k.size)) k.size=some ds/\Vw (hp W) (fun b=>b<W.heap.size) k x ds/\(∀(h':i<elems.length),Qr k x<=WV elems[i].1)/\D6 k x:=by
    intro i hi
    have h1:=hel i hi
    have hi':i<elems.length:=by omega
    rw [hce,ant hi'] at h1
    obtain ⟨ds,h2,h3⟩:=apv.1 h1
    obtain ⟨x,h4,h5,h6⟩:=ih.1 e m ds _ _ hte h3
    exact ⟨x,ds,h2,h4,fun _=>h5,h6⟩
   obtain ⟨xs,hl,hxs⟩:=DN hone
   refine ⟨xs,⟨some a,len,cap,rfl,hl.symm,hlc,fun h0=>?_⟩, ?_, ?_⟩
   ·obtain ⟨b,o,sp⟩:=a
    have h0':0<xs.length:=by omega
    obtain ⟨ds0,h2,h3,_⟩:=hxs 0 h0'
    have hb:=World.cells?_block h2 hk0
    obtain ⟨_,g1,g2⟩:=World.cells?_some h2
    have hsp:sp=none:=by
     have:=g2 0 hk0
     rw [ant (by omega)] at this
     simp only [Nat.zero_mul,Addr.add,aof,World.cell?] at this
     cases sp with
     | none=>rfl
     | some q=>split at this <;> simp at this
    subst hsp
    have hb':b<W.heap.size:=by
     rw [addr_add] at hb
     exact hb
    refine ⟨b,o,rfl,hb', .inr (hfr b hb'),fun i hi=>?_⟩
    obtain ⟨ds,h2,h3,_⟩:=hxs i hi
    obtain ⟨_,g1,g2⟩:=World.cells?_some h2
    refine ⟨ds,fun j hj=>?_,h3⟩
    have:=g2 j (by omega)
    rw [addr_add,addr_add,wu] at this
    exact this
   ·simp only [Qr,WV]
    have:=WG (H:=H) (f:=Qr k) (xs:=xs) (ds:=elems.map (·.1)) (by simp; omega) (fun i h1 h2=>by
     obtain ⟨ds,_,_,h5,_⟩:=hxs i h1
     simpa using h5 (by simpa using h2))
    omega
   ·unfold maxLen at hmx
    refine ⟨show xs.length<=_ by omega,fun x hx=>?_⟩
    obtain ⟨i,hi,rfl⟩:=aoc.1 hx
    obtain ⟨_,_,_,_,h6⟩:=hxs i hi
    exact h6
 | pair a b iha ihb=>
  refine ⟨fun _ _ _ _ _ h=>h.elim,fun fs off n cs xs ht hl hx hf=>?_⟩
  cases fs with
  | nil=>exact ht.elim
  | cons f fs=>
   cases xs with
   | nil=>simp at hx
   | cons x0 xs=>
    obtain ⟨h1,h2,h3,h4⟩:=ht
    have hca:P.cellsOf f.type=a.size:=yg (fM.info h2)
    have h5:=hf 0 f rfl
    rw [h1,hca] at h5
    simp only [anU] at h5
    obtain ⟨x,g1,g2,l1⟩:=iha.1 f.type n _ x0.1 x0.2 h2 h5
    obtain ⟨y,g3,g4,l2⟩:=ihb.2 fs (off+a.size) n cs xs h4 (by simp [K.size] at hl; omega) (by simpa using hx) (fun i f' hi=>by
     have:=hf (i+1) f' (by simpa using hi)
     simpa using this)
    refine ⟨(x,y),⟨(cs.drop off).take a.size,cs.drop (off+a.size), ?_,g1,g3⟩, ?_,l1,l2⟩
    ·rw [<-aoL,aoN]
    ·simp only [Qr,aoh,Ep]
     omega
 | st c ih=>
  refine ⟨fun t n cs d ps ht h=>?_,fun _ _ _ _ _ h=>h.elim⟩
  obtain ⟨⟨fs,hu,hfs⟩,hinfo⟩:=ht
  obtain ⟨xs,m,rfl,e1,hl,hlen,hf⟩:=DataW.trod_struct hu h
  simp only [anp] at e1
  obtain ⟨rfl,rfl⟩:=e1
  obtain ⟨x,g1,g2,l1⟩:=ih.2 fs.toList 0 m cs xs hfs (by rw [hl,yg hinfo]; simp [K.size]) (by simpa using hlen) (fun i f hi=>hf i f (by simpa using hi))
  refine ⟨x,by simp only [apf] at g1; exact g1, ?_,l1⟩
  simp only [Qr,WV]
  omega
theorem UR:∀{k:K} {fs:List Field} {off:Nat},(j5 P T k).2 fs off->∀f∈fs,∃k',(j5 P T k').1 f.type:=by
 intro k
 induction k with
 | pair a b iha ihb=>
  intro fs off h f hf
  cases fs with
  | nil=>simp at hf
  | cons f0 fs=>
   rcases anq.1 hf with h1 | h1
   ·subst h1; exact ⟨a,h.2.1⟩
   ·exact ihb h.2.2.2 f h1
 | unit=>intro fs off h f hf; rw [show fs=[] from h] at hf; simp at hf
 | _=>intro fs off h; exact h.elim
theorem Yx [Fr] (hid:T.ids=false) {sp:Nat->Bool} (hsp:∀b,b<W.heap.size->sp b=true):∀(n:Nat) (t:TypeId) (k:K) (cs:List Value) (x:DataW H×List MemPlace),(j5 P T k).1 t->DataW.trod enc P W 0 (fun _=>true) true n t cs=some x->DataW.trod enc P W 0 sp true n t cs=some x:=by
 intro n
 induction n with
 | zero=>intro t k cs x _ h; simp [DataW.trod] at h
 | succ n ih=>
  intro t k cs x ht h
  cases k with
  | int ik=>obtain ⟨m,rfl,rfl,hw⟩:=DataW.trod_int ht.1 h; simp [DataW.trod,ht.1,hw]
  | bool=>obtain ⟨m,rfl,rfl⟩:=DataW.trod_bool ht.1 h; simp [DataW.trod,ht.1]
  | str=>obtain ⟨m,rfl,rfl,hw⟩:=DataW.trod_string ht.1 h; simp [DataW.trod,ht.1,hw]
  | unit=>exact ht.elim
  | gap n=>exact ht.elim
  | id e=>have:=ht.2.2; rw [hid] at this; simp at this
  | pair a b=>exact ht.elim
  | st c=>
   obtain ⟨⟨fs,hu,hfs⟩,_⟩:=ht
   obtain ⟨xs,m,e,rfl,hl,hlen,hf⟩:=DataW.trod_struct hu h
   have e':m=n:=by omega
   subst e'
   refine ChangeShapes.trod_struct_mk hu hl (mapM_some_of_get _ _ (by simpa using hlen) fun i f hi=>?_)
   have hi':i<xs.length:=by
    have:=(anZ.1 hi).1
    simp at this
    omega
   have h1:=hf i f (by simpa using hi)
   rw [ant hi'] at h1 ⊢
   obtain ⟨k',hk'⟩:=UR hfs f (anV hi)
   exact ih f.type k' _ _ hk' h1
  | sl e k=>
   obtain ⟨hu,_,hte,hk0,_⟩:=ht
   have hce:P.cellsOf e=k.size:=yg (fM.info hte)
   rcases DataW.trod_slice hu h with ⟨rfl,rfl⟩ | ⟨a,len,cap,_,_,_,_,rfl,_⟩
   ·simp [DataW.trod,hu]
   ·unfold DataW.trod at h ⊢
    rw [hu] at h ⊢
    simp only [hce] at h ⊢
    split at h
    ·rename_i hc
     rw [aoi hc]
     obtain ⟨elems,he,h⟩:=apv.1 h
     obtain ⟨rest,hr,hd⟩:=Option.map_eq_some_iff.1 h
     have hstep:∀i y,(W.cells? 0 (a.add (i * k.size)) k.size).bind (DataW.trod enc P W 0 (fun _=>true) true n e)=some y->(W.cells? 0 (a.add (i * k.size)) k.size).bind (DataW.trod enc P W 0 sp true n e)=some y:=by
      intro i y h
      obtain ⟨ds,h1,h2⟩:=apv.1 h
      exact apv.2 ⟨ds,h1,ih e k ds y hte h2⟩
     refine apv.2 ⟨elems,mapM_carry he (fun i y _ _ hy=>hstep i y hy),Option.map_eq_some_iff.2 ⟨rest, ?_,hd⟩⟩
     simp only [aof] at hr
     cases hs:sp a.block with
     | true=>
      simp only [aof]
      exact mapM_carry hr (fun i y _ _ hy=>hstep _ y hy)
     | false=>
      simp only [anh,aog]
      cases hcl:cap - len with
      | zero=>rw [hcl] at hr; simpa using hr
      | succ m=>
       exfalso
       rw [hcl] at hr
       have h1:=mapM_some_get hr 0 0 (by simp)
       have hlr:rest.length=m+1:=by simpa using mapM_some_length hr
       rw [ant (by omega)] at h1
       obtain ⟨ds,h2,_⟩:=apv.1 h1
       have h3:=World.cells?_block h2 hk0
       have h4:(a.add ((len+0) * k.size)).block=a.block:=by unfold Addr.add; split <;> rfl
       rw [h4] at h3
       rw [hsp _ h3] at hs
       simp at hs
    ·simp at h
end
end
section
open Go
section
variable {P:Program} {T:jh} {W W':World} {H:Type} {enc:TypeId×Value->H}
def EU (P:Program) (T:jh):List gq->List TypeId->Prop
 | [],[]=>True
 | .val k [] :: ps,t :: ts=>fM P T t k/\EU P T ps ts
 | _,_=>False
def szC:(ps:List gq)->Cont (kin ps)->Nat
 | .val k _ :: ps,c=>Qr k c.1+szC ps c.2
 | _,_=>0
def Yc:(ps:List gq)->Cont (kin ps)->Prop
 | .val k _ :: ps,c=>D6 k c.1/\Yc ps c.2
 | _,_=>True
theorem agm [Fr] {t:TypeId} {k:K} {v:Value} {base:Nat} {x:El k} {ok:Nat->Prop} (ht:fM P T t k) (hv:Value.okWide P W .any base t v) (hV:Vw (hp W) ok k x v.cells.toList):VC k v v.cells.toList:=by
 have hplain:∀{u:Value},(∀y,v≠.agg y)->v.cells.toList=[u]->VC k v v.cells.toList\/∃c,k=.st c:=by
  intro u hn hu
  cases k with
  | st c=>exact .inr ⟨c,rfl⟩
  | _=>
   refine .inl ⟨?_,hn⟩
   cases v <;> first | rfl | exact absurd rfl (hn _)
 unfold fM j5 at ht
 cases k with
 | st c=>
  obtain ⟨⟨fs,hu,_⟩,_⟩:=ht
  unfold Value.okWide at hv
  rw [hu] at hv
  obtain ⟨cs,rfl,_⟩:=hv
  show Value.agg cs=.agg (cs.toList).toArray
  simp
 | unit=>exact ht.elim
 | pair a b=>exact ht.elim
 | gap n=>exact ht.elim
 | int ik=>
  unfold Value.okWide at hv
  rw [ht.1] at hv
  refine ⟨?_, ?_⟩ <;> cases v <;> simp_all [Cell.okWide,Cell.ok,Value.cells]
 | bool=>
  unfold Value.okWide at hv
  rw [ht.1] at hv
  refine ⟨?_, ?_⟩ <;> cases v <;> simp_all [Cell.okWide,Cell.ok,Value.cells]
 | id e=>
  unfold Value.okWide at hv
  rw [ht.1] at hv
  refine ⟨?_, ?_⟩ <;> cases v <;> simp_all [Cell.okWide,Cell.ok,Value.cells]
 | str=>
  unfold Value.okWide at hv
  rw [ht.1] at hv
  refine ⟨?_, ?_⟩ <;> cases v <;> simp_all [Cell.okWide,Cell.ok,Value.cells]
 | sl e k=>
  unfold Value.okWide at hv
  rw [ht.1] at hv
  refine ⟨?_, ?_⟩ <;> cases v <;> simp_all [Cell.okWide,Cell.ok,Value.cells]
theorem Jh [Fr] (hid:T.ids=false) (hfr:∀b,b<W.heap.size->Fr.free b):∀{ps:List gq} {ts:List TypeId} {vs:List Value} {ds:List (DataW H)} {p:List MemPlace} {base:Nat},EU P T ps ts->DataW.TrodAll enc P W 0 (fun _=>true) true ts vs ds p->
  (∀(j:Nat) t v,ts[j]?=some t->vs[j]?=some v->Value.okWide P W .any base t v)->∃c,E5 W ps c vs/\szC ps c<=Ep ds/\ds.length=ps.length/\Yc ps c
 | [],[],vs,ds,p,_,_,h,_=>by
  obtain ⟨rfl,rfl,_⟩:=ChangeShapes.trodAll_nil h
  exact ⟨(),trivial,anv _,rfl,trivial⟩
 | .val k [] :: ps,t :: ts,vs,ds,p,base,hp1,h,hv=>by
  obtain ⟨v,vs',d,ds',p1,q,rfl,rfl,rfl,⟨n,h1⟩,h2⟩:=ChangeShapes.trodAll_cons h
  obtain ⟨c,g1,g2,g3,g4⟩:=Jh hid hfr hp1.2 h2 (fun j t v ht hv'=>hv (j+1) t v (by simpa using ht) (by simpa using hv'))
  obtain ⟨x,f1,f2,f3⟩:=(Tm (T:=T) (enc:=enc) hid hfr k).1 t n _ d p1 hp1.1 h1
  refine ⟨(x,c),⟨⟨_,agm hp1.1 (hv 0 t v rfl rfl) f1,f1⟩,g1⟩, ?_,by simp [g3],f3,g4⟩
  simp only [szC,Ep]
  omega
 | [],_ :: _,_,_,_,_,h,_,_=>h.elim
 | .val _ [] :: _,[],_,_,_,_,h,_,_=>h.elim
 | .val _ (_ :: _) :: _,ts,_,_,_,_,h,_,_=>by cases ts <;> exact h.elim
 | .ro _ :: _,ts,_,_,_,_,h,_,_=>by cases ts <;> exact h.elim
 | .rw _ _ _ _ :: _,ts,_,_,_,_,h,_,_=>by cases ts <;> exact h.elim
 | .lI _ _ _ :: _,ts,_,_,_,_,h,_,_=>by cases ts <;> exact h.elim
 | .own _ _ :: _,ts,_,_,_,_,h,_,_=>by cases ts <;> exact h.elim
 | .fn _ _ :: _,ts,_,_,_,_,h,_,_=>by cases ts <;> exact h.elim
 | .into _ _ :: _,ts,_,_,_,_,h,_,_=>by cases ts <;> exact h.elim
theorem Pb (hO:Ud W W') {p:MemPlace} (hp1:p.block<W.heap.size):W.sameAt W' p:=by
 have h:=hO.2.2.2 p.block hp1
 cases p with
 | cell b off=>
  have h':W'.heap[b]?=W.heap[b]?:=h
  show W'.cell? _=W.cell? _
  unfold World.cell?
  simp only [h']
 | map b=>exact h
theorem GQ [Fr] (hid:T.ids=false) (hO:Ud W W') {sp:Nat->Bool} (hsp:∀b,b<W.heap.size->sp b=true):∀{ps:List gq} {ts:List TypeId} {vs:List Value} {ds:List (DataW H)} {p:List MemPlace},EU P T ps ts->DataW.TrodAll enc P W 0 (fun _=>true) true ts vs ds p->
  DataW.TrodAll enc P W' 0 sp true ts vs ds p
 | [],[],vs,ds,p,_,h=>by
  obtain ⟨rfl,rfl,rfl⟩:=ChangeShapes.trodAll_nil h
  exact rfl
 | .val k [] :: ps,t :: ts,vs,ds,p,hp1,h=>by
  obtain ⟨v,vs',d,ds',p1,q,rfl,rfl,rfl,⟨n,h1⟩,h2⟩:=ChangeShapes.trodAll_cons h
  have h3:=GQ hid hO hsp hp1.2 h2
  have h4:=Yx hid hsp n t k _ _ hp1.1 h1
  exact ⟨p1,q,⟨n,DataW.trod_carry n t _ _ h4 (fun p hp2=>Pb hO (DataW.trod_lt n t _ _ h1 p hp2))⟩,h3,rfl⟩
 | [],_ :: _,_,_,_,h,_=>h.elim
 | .val _ [] :: _,[],_,_,_,h,_=>h.elim
 | .val _ (_ :: _) :: _,ts,_,_,_,h,_=>by cases ts <;> exact h.elim
 | .ro _ :: _,ts,_,_,_,h,_=>by cases ts <;> exact h.elim
 | .rw _ _ _ _ :: _,ts,_,_,_,h,_=>by cases ts <;> exact h.elim
 | .lI _ _ _ :: _,ts,_,_,_,h,_=>by cases ts <;> exact h.elim
 | .own _ _ :: _,ts,_,_,_,h,_=>by cases ts <;> exact h.elim
 | .fn _ _ :: _,ts,_,_,_,h,_=>by cases ts <;> exact h.elim
 | .into _ _ :: _,ts,_,_,_,h,_=>by cases ts <;> exact h.elim
theorem VH (hO:Ud W W') (may:MemPlace->Prop):W.keptBut W' may:=by
 refine ⟨hO.1,hO.2.1,fun i hi=>?_⟩
 have h:W'.heap[i]?=W.heap[i]?:=hO.2.2.2 i hi
 rw [h]
 cases W.heap[i]? with
 | none=>rfl
 | some o=>
  cases o with
  | cells c t fr=>exact ⟨rfl,rfl,rfl,fun _ _=>rfl⟩
  | map es clock=>exact .inr ⟨rfl,rfl⟩
  | _=>rfl
abbrev aaI (W:World):Fr:=⟨fun b=>b<W.heap.size,hp W,fun _=>.slice none 0 0,rfl,fun _=>⟨none,0,0,rfl⟩⟩
theorem Kv {f:FuncId} {fn:Func} {code:Code} {ps:List gq} {F:Nat->Cont (kin ps)->Option (Cont (iZ [.val .bool [] []]++lH ps))} {s:ChangeSpec} {tb:TypeId} {N:Nat}
  (hf:P.funcs[f]?=some fn) (hname:(fn.name == "runtime.NumGoroutine")=false) (hbody:fn.body=some code) (hps:EU P T ps fn.params.toList) (hres:fn.resultTypes=#[tb]) (htb:P.underlying tb=some .bool)
  (hE:letI:=aaI W; ∀n,ak P n ⟨f,ps,[.val .bool [] []],F⟩) (ajT:∀c:Cont (kin ps),Yc ps c->szC ps c<=N->∃n out,F n c=some out/\out.1=true)
  (hvars:s.vars=[]) (hspec:∀ds:List (DataW H),ds.length=ps.length->s.fn H ds={ results:=[.lit (.bool true)],args:=ds })
  {base:Nat} {args:Array Value} {ds gs:List (DataW H)} {before:List MemPlace}
  (hval:∀(j:Nat) t v,fn.params[j]?=some t->args[j]?=some v->Value.okWide P W .any base t v)
  (hW:DataW.Whole enc P fn.params.toList s.vars false W args.toList ds gs before) (hb:Ep (ds++gs)<=N) (hid:T.ids=false:=by rfl) :
  Calls P f args W fun e W'=>∃v,e=.returned v/\s.post enc P fn false true false false W args v W':=by
 letI fr:Fr:=aaI W
 have hW':=hW
 obtain ⟨p,q,hA,hV,hpq,hfz,hnd⟩:=hW
 rw [hvars] at hV
 obtain ⟨rfl,rfl⟩:=ChangeShapes.trodVars_none hV
 rw [anJ] at hb
 obtain ⟨c,h1,h2,h3,h6⟩:=Jh (T:=T) hid (fun b hb=>hb) hps hA (fun j t v ht hv=>hval j t v (by simpa using ht) (by simpa using hv))
 obtain ⟨n,out,h4,h5⟩:=ajT c h6 (by omega)
 refine (VI (fun b hb=>⟨hb,rfl⟩) (hE n) h4 h5 h1 (Go.MuLone.run_callFunc_enter hf hname hbody args W)).mono ?_
 rintro e W' ⟨rfl,hO⟩
 have hsp:=hspec ds h3
 rw [anJ] at hpq
 refine ⟨_,rfl,ds,[],before,[],p,[],hW', ?_, ?_, ?_,VH hO _,fun h=>by simp at h⟩
 ·rw [anJ,hsp,hres]
  exact ⟨[],[],⟨1,by simp [DataW.trod,Value.cells,htb]⟩,rfl,rfl⟩
 ·rw [anJ,hsp]
  exact GQ hid hO (fun b hb=>by simpa using hb) hps hA
 ·rw [anJ,hsp,hvars]
  exact rfl
end
end
section
open Go
structure Tu where
 ty:List (TypeId×K)
 bytes:List (TypeId×Nat)
 ptr:List TypeId
 ids:Bool:=false
def look {A:Type} (n:Nat):List (Nat×A)->Option A
 | []=>none
 | (m,a) :: l=>bif Nat.beq n m then some a else look n l
def Zx (n:Nat):List (Nat×Nat)->Nat
 | []=>0
 | (m,a) :: l=>bif Nat.beq n m then a else Zx n l
def Tu.tab (L:Tu):jh:={ ty:=fun t=>look t L.ty,bytes:=fun t=>Zx t L.bytes,ptr:=fun t=>az t L.ptr,eq:=fun _=>false,ids:=L.ids }
def VB:K->Value->Bool
 | .int ik, .int jk (.ofNat 0)=>yD ik jk
 | .bool, .bool false=>true
 | .str, .string s=>Nat.beq s.data.size 0
 | .sl _ _, .slice none 0 0=>true
 | .id _, .slice none 0 0=>true
 | _,_=>false
def Ku:K->List Value->Option (List Value)
 | .pair a b,l=>match Ku a l with
  | some m=>Ku b m
  | none=>none
 | .unit,l=>some l
 | .st f,l=>Ku f l
 | .gap _,_=>none
 | k,v :: l=>bif VB k v then some l else none
 | _,[]=>none
def isZ:K->Value->Bool
 | .st f, .agg arr=>match Ku f arr.toList with
  | some []=>true
  | _=>false
 | .st _,_=>false
 | k,v=>VB k v
def wD (P:Program) (t:TypeId) (k:K):Bool:=match P.info? t with
 | some i=>Nat.beq i.size k.size && (match i.zero with
  | some v=>isZ k v
  | none=>false)
 | none=>false
def mI (P:Program) (T:jh):K->(TypeId->Bool)×(List Field->Nat->Bool)
 | .int ik=>(fun t=>(match P.underlying t with
  | some (.int jk)=>yD ik jk
  | _=>false) && wD P t (.int ik),fun _ _=>false)
 | .bool=>(fun t=>(match P.underlying t with
  | some .bool=>true
  | _=>false) && wD P t .bool,fun _ _=>false)
 | .str=>(fun t=>(match P.underlying t with
  | some .string=>true
  | _=>false) && wD P t .str,fun _ _=>false)
 | .sl e k=>(fun t=>(match P.underlying t with
  | some (.slice e')=>Nat.beq e e'
  | _=>false) && wD P t (.sl e k) && (mI P T k).1 e && Nat.blt 0 k.size && (match P.info? e with
  | some i=>Nat.beq i.bytes (T.bytes e) && Nat.blt 0 i.bytes
  | none=>false),fun _ _=>false)
 | .unit=>(fun _=>false,fun fs _=>fs.isEmpty)
 | .pair a b=>(fun _=>false,fun fs off=>match fs with
  | []=>false
  | f :: fs=>Nat.beq f.offset off && (mI P T a).1 f.type && Nat.blt 0 a.size && (mI P T b).2 fs (off+a.size))
 | .st c=>(fun t=>(match P.underlying t with
  | some (.struct fs)=>(mI P T c).2 fs.toList 0
  | _=>false) && wD P t (.st c),fun _ _=>false)
 | .gap _=>(fun _=>false,fun _ _=>false)
 | .id e=>(fun t=>(match P.underlying t with
  | some (.slice e')=>Nat.beq e e'
  | _=>false) && wD P t (.id e) && T.ids,fun _ _=>false)
def zA (P:Program) (L:Tu):Bool:=L.ty.all (fun q=>(mI P L.tab q.2).1 q.1) && L.ptr.all fun t=>match P.underlying t with
 | some (.pointer _)=>true
 | _=>false
section
variable [Fr] {P:Program} {T:jh}
theorem Qp {k:K} {v:Value} (h:VB k v=true):bS k=[v]/\pG k=v:=by
 unfold VB at h
 split at h
 ·have:=yZ h; subst this; exact ⟨rfl,rfl⟩
 ·exact ⟨rfl,rfl⟩
 ·rename_i s
  have:s=ByteArray.empty:=by
   have h1:=ani h
   obtain ⟨d⟩:=s
   have:d=#[]:=apw h1
   subst this
   rfl
  subst this
  exact ⟨rfl,rfl⟩
 ·exact ⟨rfl,rfl⟩
 ·exact ⟨rfl,rfl⟩
 ·simp at h
theorem X7:∀{k:K} {l m:List Value},Ku k l=some m->l=bS k++m:=by
 intro k
 have one:∀{k:K} {l m:List Value},(match l with | v :: l=>(bif VB k v then some l else none) | []=>none)=some m->l=bS k++m:=by
  intro k l m h
  cases l with
  | nil=>simp at h
  | cons v l=>
   obtain ⟨hb,h⟩:=tO h
   simp only [ane] at h
   subst h
   rw [(Qp hb).1]
   rfl
 induction k with
 | pair a b iha ihb=>
  intro l m h
  simp only [Ku] at h
  split at h
  ·rename_i q hq
   rw [iha hq,ihb h]
   simp [bS]
  ·simp at h
 | unit=>intro l m h; simp only [Ku,ane] at h; subst h; rfl
 | st f ih=>intro l m h; exact ih (show Ku f l=some m from h)
 | gap n=>intro l m h; simp [Ku] at h
 | int ik=>intro l m h; exact one (k:=.int ik) (by cases l <;> exact h)
 | bool=>intro l m h; exact one (k:=.bool) (by cases l <;> exact h)
 | id e=>intro l m h; exact one (k:=.id e) (by cases l <;> exact h)
 | str=>intro l m h; exact one (k:=.str) (by cases l <;> exact h)
 | sl e k _=>intro l m h; exact one (k:=.sl e k) (by cases l <;> exact h)
theorem abt {k:K} {v:Value} (h:isZ k v=true):pG k=v:=by
 unfold isZ at h
 split at h
 ·rename_i f arr
  split at h
  ·rename_i hz
   have:=X7 hz
   simp only [anJ] at this
   show Value.agg (bS f).toArray=.agg arr
   rw [<-this]
  ·simp at h
 ·simp at h
 ·exact (Qp h).2
theorem rZ {t:TypeId} {k:K} (h:wD P t k=true):rP P t k:=by
 unfold wD at h
 split at h
 ·rename_i i hi
  simp only [ank] at h
  obtain ⟨h1,h2⟩:=h
  split at h2
  ·rename_i v hv
   exact ⟨i,hi,ani h1,by rw [hv,abt h2]⟩
  ·simp at h2
 ·simp at h
theorem NT {a b:Nat} (h:Nat.blt a b=true):a<b:=by
 unfold Nat.blt at h
 exact aoe h
theorem WL:∀{k:K},(∀t,(mI P T k).1 t=true->(j5 P T k).1 t)/\∀fs off,(mI P T k).2 fs off=true->(j5 P T k).2 fs off:=by
 intro k
 induction k with
 | int ik=>
  refine ⟨fun t h=>?_,fun fs off h=>by simp [mI] at h⟩
  simp only [mI,ank] at h
  obtain ⟨h1,h2⟩:=h
  split at h1
  ·rename_i jk hu
   have:=yZ h1; subst this
   exact ⟨hu,rZ h2⟩
  ·simp at h1
 | bool=>
  refine ⟨fun t h=>?_,fun fs off h=>by simp [mI] at h⟩
  simp only [mI,ank] at h
  obtain ⟨h1,h2⟩:=h
  split at h1
  ·rename_i hu; exact ⟨hu,rZ h2⟩
  ·simp at h1
 | str=>
  refine ⟨fun t h=>?_,fun fs off h=>by simp [mI] at h⟩
  simp only [mI,ank] at h
  obtain ⟨h1,h2⟩:=h
  split at h1
  ·rename_i hu; exact ⟨hu,rZ h2⟩
  ·simp at h1
 | sl e k ih=>
  refine ⟨fun t h=>?_,fun fs off h=>by simp [mI] at h⟩
  simp only [mI,ank] at h
  obtain ⟨⟨⟨⟨h1,h2⟩,h3⟩,h4⟩,h5⟩:=h
  split at h1
  ·rename_i e' hu
   have:=ani h1; subst this
   split at h5
   ·rename_i i hi
    simp only [ank] at h5
    exact ⟨hu,rZ h2,ih.1 e h3,NT h4,i,hi,ani h5.1,NT h5.2⟩
   ·simp at h5
  ·simp at h1
 | unit=>exact ⟨fun t h=>by simp [mI] at h,fun fs off h=>show fs=[] by simpa [mI] using h⟩
 | gap n=>exact ⟨fun t h=>by simp [mI] at h,fun fs off h=>by simp [mI] at h⟩
 | id e=>
  refine ⟨fun t h=>?_,fun fs off h=>by simp [mI] at h⟩
  simp only [mI,ank] at h
  obtain ⟨⟨h1,h2⟩,h3⟩:=h
  split at h1
  ·rename_i e' hu
   have:=ani h1; subst this
   exact ⟨hu,rZ h2,h3⟩
  ·simp at h1
 | pair a b iha ihb=>
  refine ⟨fun t h=>by simp [mI] at h,fun fs off h=>?_⟩
  cases fs with
  | nil=>simp [mI] at h
  | cons f fs=>
   simp only [mI,ank] at h
   obtain ⟨⟨⟨h1,h2⟩,h3⟩,h4⟩:=h
   exact ⟨ani h1,iha.1 _ h2,NT h3,ihb.2 _ _ h4⟩
 | st c ih=>
  refine ⟨fun t h=>?_,fun fs off h=>by simp [mI] at h⟩
  simp only [mI,ank] at h
  obtain ⟨h1,h2⟩:=h
  split at h1
  ·rename_i fs hu
   exact ⟨⟨fs,hu,ih.2 _ _ h1⟩,rZ h2⟩
  ·simp at h1
theorem MC {A:Type} {n:Nat} {a:A}:∀{l:List (Nat×A)},look n l=some a->(n,a)∈l
 | [],h=>by simp [look] at h
 | (m,b) :: l,h=>by
  simp only [look] at h
  cases hb:Nat.beq n m with
  | true=>
   rw [hb] at h
   have:=ani hb
   simp only [an0,ane] at h
   subst this h
   simp
  | false=>
   rw [hb] at h
   exact .tail _ (MC h)
theorem WI {L:Tu} (h:zA P L=true):eG P L.tab:=by
 unfold zA at h
 simp only [ank,anu] at h
 refine ⟨fun t k ht=>WL.1 t (h.1 (t,k) (MC ht)),fun t ht=>?_⟩
 have:=h.2 t (aM.1 ht)
 split at this
 ·rename_i e he; exact ⟨e,he⟩
 ·simp at this
theorem abE {L:Tu}:HZ P L.tab:=fun t c x y u v w hp1 hp2 ok1 ok2 _ he=>by simp [Tu.tab] at he
end
end
section
open Go
abbrev DOk (T:jh) (hi:Hint) (fn:Func) (E:Entry):Prop:=∀n (c:Cont (kin E.ps)),XF T hi fn E.ps E.rs n c=E.F n c
variable [Fr] {P:Program} {n:Nat}
theorem aF:∀q∈([]:List (Nat×Option Nat×Entry)),ak P n q.2.2:=by simp
theorem aa {f:Nat} {d:Option Nat} {E:Entry} {l:List (Nat×Option Nat×Entry)} (h:ak P n E) (t:∀q∈l,ak P n q.2.2):∀q∈(f,d,E) :: l,ak P n q.2.2:=by
 intro q hq
 rcases anq.1 hq with rfl | hq
 ·exact h
 ·exact t q hq
theorem aj (hm:P.follows .mixedOrders=true) {L:Tu} (hL:zA P L=true) {E:Entry} {fn:Func} (hf:P.funcs[E.f]?=some fn) (hname:(fn.name == "runtime.NumGoroutine")=false) {hi:Hint} (hC:∀q∈hi.calls,ak P n q.2.2)
  (hD:∀n (c:Cont (kin E.ps)),XF L.tab hi fn E.ps E.rs n c=E.F n c):ak P n E:=
 Oc hm (WI hL) abE hf hname hC (fun c out h=>by rw [hD]; exact h)
end
section
open Go
def A8 {A:Type} (xs:List A) (i:Nat) (d:A) (f:A->A):List A:=xs.set i (f (xs.getD i d))
def dI {R:Type} (step:Nat->Option R) (fin:R):Nat->Nat->R
 | 0,_=>fin
 | m+1,i=>match step i with
  | some r=>r
  | none=>dI step fin m (i+1)
theorem O8 {V R:Type} {B:(V->Option R)->V->Option R} (S:Nat->V) (step:Nat->Option (Option R)) (fin:Option R) {m:Nat} (h1:∀L i,i<m->(∀j,j<i->step j=none)->B L (S i)=match step i with | some r=>r | none=>L (S (i+1))) (h2:∀L,(∀j,j<m->step j=none)->B L (S m)=fin) :
  ∀(d i n:Nat),i+d=m->d<n->(∀j,j<i->step j=none)->rounds B n (S i)=dI step fin d i:=by
 intro d
 induction d with
 | zero=>
  intro i n hi hn hp
  cases n with
  | zero=>omega
  | succ n=>
   have:i=m:=by omega
   subst this
   exact h2 _ hp
 | succ d ih=>
  intro i n hi hn hp
  cases n with
  | zero=>omega
  | succ n=>
   show B (rounds B n) (S i)=_
   rw [h1 _ i (by omega) hp]
   unfold dI
   cases hs:step i with
   | some r=>rfl
   | none=>exact ih (i+1) n (by omega) (by omega) (fun j hj=>by
     by_cases e:j=i
     ·rw [e,hs]
     ·exact hp j (by omega))
theorem aT {V R:Type} {B:(V->Option R)->V->Option R} {v0:V} (S:Nat->V) (step:Nat->Option (Option R)) (fin:Option R) {m n:Nat} (h0:v0=S 0) (hn:m<n) (h1:∀L i,i<m->(∀j,j<i->step j=none)->B L (S i)=match step i with | some r=>r | none=>L (S (i+1))) (h2:∀L,(∀j,j<m->step j=none)->B L (S m)=fin) :
  rounds B n v0=dI step fin m 0:=by
 rw [h0]
 exact O8 S step fin h1 h2 m 0 n (by omega) hn (fun j h=>by omega)
theorem fV {A:Type} {l:List A} {i:Nat} (h:i<l.length) (d:A):l.getD ((i:Int).toNat) d=l[i]:=by
 simp [h]
theorem dn {R:Type} {step:Nat->Option R} {fin:R}:∀{m i:Nat},(∀j,i<=j->j<i+m->step j=none)->dI step fin m i=fin:=by
 intro m
 induction m with
 | zero=>intro i _; rfl
 | succ m ih=>
  intro i h
  unfold dI
  rw [h i (anv _) (by omega)]
  exact ih (fun j h1 h2=>h j (by omega) (by omega))
theorem Kj {R:Type} {s1 s2:Nat->Option R} {f1 f2:R} (hf:f1=f2):∀{m i:Nat},(∀j,i<=j->j<i+m->s1 j=s2 j)->dI s1 f1 m i=dI s2 f2 m i:=by
 intro m
 induction m with
 | zero=>intro i _; exact hf
 | succ m ih=>
  intro i h
  unfold dI
  rw [h i (anv _) (by omega)]
  cases s2 i with
  | some r=>rfl
  | none=>exact ih (fun j h1 h2=>h j (by omega) (by omega))
theorem BD {R:Type} {step:Nat->Option R} {fin r:R} (hc:∀j,step j=none\/step j=some r):∀{m i:Nat},dI step fin m i=r\/dI step fin m i=fin:=by
 intro m
 induction m with
 | zero=>intro i; exact .inr rfl
 | succ m ih=>
  intro i
  unfold dI
  rcases hc i with h | h
  ·rw [h]; exact ih
  ·rw [h]; exact .inl rfl
theorem wrap_i64 {x:Int} (h1 : -9223372036854775808<=x) (h2:x<=9223372036854775807):IntKind.i64.wrap x=x:=by
 simp [IntKind.wrap,IntKind.bits,IntKind.signed]
 omega
theorem aX {i:Nat} {n:Nat} (h:i<n) (hn:n<=9223372036854775807):IntKind.i64.wrap ((i:Int)+1)=((i+1:Nat):Int):=by
 rw [wrap_i64 (by omega) (by omega)]
 omega
theorem aJ {i n:Nat} (h:i<n):aL (i:Int) n:=⟨by omega,by omega⟩
end
section
open Go
variable [Fr]
section
variable {P:Program} {cx:Cx} {Z:St} {J:dP} {F:List Nat} {a:Act} {w w':World}
theorem Rel.grown (H:Rel cx Z J F a w) (hO:Ud w w') (ht:w'.tape=w.tape):Rel cx Z J F a w':=H.UY hO.1 hO.2.1 hO.2.2.1 hO.2.2.2 ht
end
end
section
open Go
variable [Fr]
section
variable {P:Program} {cx:Cx} {Z:St} {J:dP} {F:List Nat} {a:Act} {w w':World}
end
end
section
open Go
variable [Fr]
section
variable {P:Program} {cx:Cx} {Z:St} {J:dP} {F:List Nat} {a:Act} {w w':World}
end
end
section
open Go
section
variable {e:TypeId} {kk:K}
def Rw (e:TypeId) (kk:K) (z:Bool) (tb:Nat->List (El kk)):(k k':K)->El k->El k'->List Nat->Prop
 | .sl f k, .id f',xs,i,ns=>f=e/\f'=e/\∃h:k=kk,h▸(show List (El k) from xs)=tb i/\((i≠(0:Nat)/\ns=[i])\/(z=true/\i=(0:Nat)/\tb 0=[]/\ns=[]))
 | .sl f k, .sl f' k',xs,ys,ns=>f=f'/\k'.size=k.size/\(show List (El k) from xs).length=(show List (El k') from ys).length/\∃nss:List (List Nat),nss.length=(show List (El k) from xs).length/\ns=nss.flatten/\
   ∀(i:Nat) (h1:i<(show List (El k) from xs).length) (h2:i<(show List (El k') from ys).length),Rw e kk z tb k k' ((show List (El k) from xs)[i]) ((show List (El k') from ys)[i]) (nss.getD i [])
 | .pair a b, .pair a' b',x,y,ns=>∃n1 n2,ns=n1++n2/\Rw e kk z tb a a' x.1 y.1 n1/\Rw e kk z tb b b' x.2 y.2 n2
 | .st f, .st f',x,y,ns=>Rw e kk z tb f f' x y ns
 | .int ik, .int jk,x,y,ns=>ik=jk/\(show Int from x)=y/\ns=[]
 | .bool, .bool,x,y,ns=>(show Bool from x)=y/\ns=[]
 | .str, .str,x,y,ns=>(show List Int from x)=y/\ns=[]
 | .unit, .unit,_,_,ns=>ns=[]
 | _,_,_,_,_=>False
theorem Rw.size {z:Bool} {tb:Nat->List (El kk)}:∀{k k':K} {x:El k} {y:El k'} {ns:List Nat},Rw e kk z tb k k' x y ns->k'.size=k.size:=by
 intro k
 induction k with
 | sl f k ih=>intro k' x y ns h; cases k' <;> first | rfl | exact h.elim
 | pair a b iha ihb=>
  intro k' x y ns h
  cases k' with
  | pair a' b'=>unfold Rw at h; obtain ⟨n1,n2,_,h1,h2⟩:=h; simp [K.size,iha h1,ihb h2]
  | _=>exact h.elim
 | st f ih=>
  intro k' x y ns h
  cases k' with
  | st f'=>unfold Rw at h; exact ih (k':=f') (x:=x) (y:=y) (ns:=ns) h
  | _=>exact h.elim
 | int ik=>intro k' x y ns h; cases k' <;> first | rfl | exact h.elim
 | bool=>intro k' x y ns h; cases k' <;> first | rfl | exact h.elim
 | str=>intro k' x y ns h; cases k' <;> first | rfl | exact h.elim
 | unit=>intro k' x y ns h; cases k' <;> first | rfl | exact h.elim
 | gap n=>intro k' x y ns h; cases k' <;> exact h.elim
 | id f=>intro k' x y ns h; cases k' <;> exact h.elim
abbrev IE:=Nat×Value×List Nat
def aS (l:List IE):List Nat:=l.flatMap (·.2.2)
theorem Bc:∀(l:List (List IE)),aS l.flatten=(l.map aS).flatten
 | []=>rfl
 | a :: l=>by
  simp only [aoa,aoh]
  unfold aS at *
  rw [apk]
  congr 1
  exact Bc l
theorem AY {A:Type}:∀{bC fs gs:List (List A)},fs.length=bC.length->gs.length=bC.length->(∀i,i<bC.length->(bC.getD i []).Perm (fs.getD i []++gs.getD i []))->bC.flatten.Perm (fs.flatten++gs.flatten)
 | [],[],[],_,_,_=>.refl _
 | f :: bC,[],_,h,_,_=>by simp at h
 | f :: bC,_ :: _,[],_,h,_=>by simp at h
 | [],_ :: _,_,h,_,_=>by simp at h
 | [],[],_ :: _,_,h,_=>by simp at h
 | f :: bC,a :: fs,b :: gs,h1,h2,h=>by
  have h0:=h 0 (by simp)
  have ht:=AY (bC:=bC) (fs:=fs) (gs:=gs) (by simpa using h1) (by simpa using h2) (fun i hi=>by have:=h (i+1) (by simpa using hi); simpa using this)
  simp only [aoa]
  have h0':f.Perm (a++b):=by simpa using h0
  refine (h0'.append ht).trans ?_
  simp only [anB]
  refine aoD a ?_
  rw [<-anB, <-anB]
  exact aoE _ aoF
variable [fr:Fr]
abbrev ig (fr:Fr) (jm:Nat->Value) (h0:jm 0=.slice none 0 0) (hs:∀i,∃a n c,jm i=.slice a n c):Fr:=⟨fr.free,fr.obj,jm,h0,hs⟩
theorem Le {h:Heap} {own:List TypeId} {ok:Nat->Prop} {tb:Nat->List (El kk)}:∀{k k':K} {x:El k} {y:El k'} {ns:List Nat} {cs:List Value} {fo:List Nat},(∀t∈k.tys,az t own=true)->
  Rw e kk false tb k k' x y ns->Ow h own ok k x cs fo->
  ∃(eU:List IE) (dO:List Nat),eU.map (·.1)=ns/\fo.Perm (dO++aS eU)/\(∀q∈eU,Ow h own ok (.sl e kk) (tb q.1) [q.2.1] q.2.2)/\
   ∀fr':Fr,fr'.free=fr.free->(∀q∈eU,fr'.jm q.1=q.2.1)->@Ow fr' h own ok k' y cs dO:=by
 intro k
 induction k with
 | sl f k ih=>
  intro k' x y ns cs fo hown hR hO
  cases k' with
  | id f'=>
   obtain ⟨rfl,rfl,hk,hx,hi⟩:=hR
   subst hk
   rcases hi with ⟨_,rfl⟩ | ⟨hz,_⟩
   ·have Gc:=hO
    unfold Ow at hO
    rw [aoi (hown f' (by simp [K.tys]))] at hO
    obtain ⟨a,n,c,rfl,_⟩:=hO
    refine ⟨[(y, .slice a n c,fo)],[],rfl,by simp [aS],fun q hq=>?_,fun fr' _ ajO=>⟨rfl, ?_⟩⟩
    ·simp only [anz] at hq
     subst hq
     show Ow h own ok (.sl f' k) (tb y:List (El k)) _ _
     rw [<-hx]
     exact Gc
    ·show _=[fr'.jm y]
     rw [ajO _ (anz.2 rfl)]
   ·simp at hz
  | sl f' k'=>
   obtain ⟨rfl,hsz,hl,nss,hnl,rfl,hat⟩:=hR
   have hf:az f own=true:=hown f (by simp [K.tys])
   unfold Ow at hO
   rw [aoi hf] at hO
   obtain ⟨a,n,c,rfl,hn,hnc,hO⟩:=hO
   rcases hO with ⟨hc,rfl⟩ | ⟨b,o,arr,lo,hi,rfl,hb,hfz,hoc,bC,hfl,hfo,hel⟩
   ·have h0:(show List (El k) from x).length=0:=by omega
    refine ⟨[],[], ?_,by simp [aS],fun q hq=>by simp at hq,fun fr' _ _=>?_⟩
    ·have:nss=[]:=List.length_eq_zero_iff.1 (by omega)
     rw [this]; rfl
    ·unfold Ow
     rw [aoi hf]
     exact ⟨a,n,c,rfl,by omega,hnc, .inl ⟨hc,rfl⟩⟩
   ·have hone:∀i,i<(show List (El k) from x).length->∃q:List IE×List Nat,∀(h1:i<(show List (El k) from x).length) (h2:i<(show List (El k') from y).length),q.1.map (·.1)=nss.getD i []/\(bC.getD i []).Perm (q.2++aS q.1)/\(∀t∈q.1,Ow h own ok (.sl e kk) (tb t.1) [t.2.1] t.2.2)/\
      ∀fr':Fr,fr'.free=fr.free->(∀t∈q.1,fr'.jm t.1=t.2.1)->∃ds, @Cells h b (o+i * k.size) ds/\@Ow fr' h own ok k' ((show List (El k') from y)[i]) ds q.2:=by
     intro i h1
     obtain ⟨ds,g1,g2⟩:=hel i h1
     obtain ⟨eU,dO,f1,f2,f3,f4⟩:=ih (fun t ht=>hown t (by simp [K.tys,ht])) (hat i h1 (by omega)) g2
     exact ⟨(eU,dO),fun _ _=>⟨f1,f2,f3,fun fr' e1 e2=>⟨ds,g1,f4 fr' e1 e2⟩⟩⟩
    obtain ⟨qs,hql,hq⟩:=DN hone
    refine ⟨(qs.map (·.1)).flatten,b :: (qs.map (·.2)).flatten, ?_, ?_, ?_,fun fr' e1 e2=>?_⟩
    ·rw [List.map_flatten,apb]
     congr 1
     apply aoC
     ·simp; omega
     ·intro i h1 h2
      have hi:i<qs.length:=by simpa using h1
      have:=(hq i hi (by omega) (by omega)).1
      simp only [List.getElem_map,Function.comp_apply]
      rw [this,anr,ant h2]
      rfl
    ·refine hfo.trans ?_
     rw [Bc,anW]
     refine List.Perm.cons b (AY (by simp; omega) (by simp; omega) fun i hi=>?_)
     have hi':i<qs.length:=by omega
     have:=(hq i hi' (by omega) (by omega)).2.1
     simp only [anr,aoG,ant hi',an1,aoj,apb,Function.comp_apply] at this ⊢
     exact this
    ·intro t ht
     obtain ⟨l,hl,ht⟩:=aoB.1 ht
     obtain ⟨q,hq',rfl⟩:=anQ.1 hl
     obtain ⟨i,hi,rfl⟩:=List.getElem_of_mem hq'
     exact (hq i hi (by omega) (by omega)).2.2.1 t ht
    ·unfold Ow
     rw [aoi hf]
     refine ⟨_,n,c,rfl,by omega,hnc, .inr ⟨b,o,arr,lo,hi,rfl,hb,hfz, ?_,qs.map (·.2),by rw [aoy,hql]; exact hl, .refl _,fun i hi'=>?_⟩⟩
     ·rw [hsz]; exact hoc
     ·have hiq:i<qs.length:=by omega
      obtain ⟨ds,g1,g2⟩:=(hq i hiq (by omega) hi').2.2.2 fr' e1 (fun t ht=>e2 t (aoB.2 ⟨_,anQ.2 ⟨qs[i],anI hiq,rfl⟩,ht⟩))
      refine ⟨ds, ?_, ?_⟩
      ·rw [hsz]; exact g1
      ·have:(qs.map (·.2)).getD i []=qs[i].2:=by simp [anr,aoG,ant hiq]
       rw [this]
       exact g2
  | _=>exact hR.elim
 | pair a b iha ihb=>
  intro k' x y ns cs fo hown hR hO
  cases k' with
  | pair a' b'=>
   obtain ⟨n1,n2,rfl,r1,r2⟩:=hR
   obtain ⟨c1,c2,f1,f2,rfl,hp,o1,o2⟩:=hO
   obtain ⟨t1,g1,p1,p2,p3,p4⟩:=iha (fun t ht=>hown t (by simp [K.tys,ht])) r1 o1
   obtain ⟨t2,g2,q1,q2,q3,q4⟩:=ihb (fun t ht=>hown t (by simp [K.tys,ht])) r2 o2
   refine ⟨t1++t2,g1++g2,by rw [aon,p1,q1], ?_,fun q hq=>?_,fun fr' e1 e2=>⟨c1,c2,g1,g2,rfl, .refl _,p4 fr' e1 (fun q hq=>e2 q (anj _ hq)),q4 fr' e1 (fun q hq=>e2 q (ang _ hq))⟩⟩
   ·refine hp.trans ((p2.append q2).trans ?_)
    have:aS (t1++t2)=aS t1++aS t2:=by simp [aS]
    rw [this]
    simp only [anB]
    refine aoD g1 ?_
    rw [<-anB, <-anB]
    exact aoE _ aoF
   ·rcases ann.1 hq with hq | hq
    ·exact p3 q hq
    ·exact q3 q hq
  | _=>exact hR.elim
 | st f ih=>
  intro k' x y ns cs fo hown hR hO
  cases k' with
  | st f'=>
   obtain ⟨eU,dO,f1,f2,f3,f4⟩:=ih (k':=f') (x:=x) (y:=y) (ns:=ns) (cs:=cs) (fo:=fo) hown hR hO
   exact ⟨eU,dO,f1,f2,f3,fun fr' e1 e2=>f4 fr' e1 e2⟩
  | _=>exact hR.elim
 | int ik=>
  intro k' x y ns cs fo hown hR hO
  cases k' with
  | int jk=>
   obtain ⟨rfl,rfl,rfl⟩:=hR
   exact ⟨[],fo,rfl,by simp [aS],fun q hq=>by simp at hq,fun _ _ _=>hO⟩
  | _=>exact hR.elim
 | bool=>
  intro k' x y ns cs fo hown hR hO
  cases k' with
  | bool=>
   obtain ⟨rfl,rfl⟩:=hR
   exact ⟨[],fo,rfl,by simp [aS],fun q hq=>by simp at hq,fun _ _ _=>hO⟩
  | _=>exact hR.elim
 | str=>
  intro k' x y ns cs fo hown hR hO
  cases k' with
  | str=>
   obtain ⟨rfl,rfl⟩:=hR
   exact ⟨[],fo,rfl,by simp [aS],fun q hq=>by simp at hq,fun _ _ _=>hO⟩
  | _=>exact hR.elim
 | unit=>
  intro k' x y ns cs fo hown hR hO
  cases k' with
  | unit=>
   have:ns=[]:=hR
   subst this
   exact ⟨[],fo,rfl,by simp [aS],fun q hq=>by simp at hq,fun _ _ _=>hO⟩
  | _=>exact hR.elim
 | gap n=>intro k' x y ns cs fo _ hR; cases k' <;> exact hR.elim
 | id f=>intro k' x y ns cs fo _ hR; cases k' <;> exact hR.elim
theorem Js {A B:Type} (f:A->B):∀{nss:List (List B)} {l:List A},l.map f=nss.flatten->∃K4:List (List A),K4.flatten=l/\K4.map (·.map f)=nss
 | [],l,h=>by
  have:l=[]:=by simpa using h
  exact ⟨[],by simp [this],rfl⟩
 | ns :: nss,l,h=>by
  rw [aoa,List.map_eq_append_iff] at h
  obtain ⟨l1,l2,rfl,h1,h2⟩:=h
  obtain ⟨K4,g1,g2⟩:=Js f h2
  exact ⟨l1 :: K4,by simp [g1],by simp [h1,g2]⟩
theorem JL {h:Heap} {own:List TypeId} {ok:Nat->Prop} {tb:Nat->List (El kk)} (fr':Fr):∀{k k':K} {x:El k} {y:El k'} {eU:List IE} {cs:List Value} {dO:List Nat},(∀t∈k.tys,az t own=true)->
  Rw e kk true tb k k' x y (eU.map (·.1))->@Ow fr' h own ok k' y cs dO->(∀q∈eU, @Ow fr h own ok (.sl e kk) (tb q.1) [q.2.1] q.2.2/\fr'.jm q.1=q.2.1)->@Ow fr h own ok k x cs (dO++aS eU):=by
 intro k
 induction k with
 | sl f k ih=>
  intro k' x y eU cs dO hown hR hO htr
  cases k' with
  | id f'=>
   obtain ⟨rfl,rfl,hk,hx,hi⟩:=hR
   subst hk
   obtain ⟨rfl,hcs⟩:=hO
   have hcs:cs=[fr'.jm y]:=hcs
   subst hcs
   rcases hi with ⟨_,hns⟩ | ⟨_,h0,hx0,hns⟩
   ·cases eU with
    | nil=>simp at hns
    | cons q l=>
     cases l with
     | cons _ _=>simp at hns
     | nil=>
      simp only [aoh,List.map_nil,apr,an9] at hns
      obtain ⟨g1,g2⟩:=htr q (by simp)
      rw [hns] at g1 g2
      have hx':(show List (El k) from x)=tb y:=hx
      show @Ow fr h own ok (.sl f' k) (show List (El k) from x) _ _
      rw [hx',g2]
      simpa [aS] using g1
   ·have ht:eU=[]:=by simpa using hns
    subst ht
    have hy:y=(0:Nat):=h0
    subst hy
    have hx':(show List (El k) from x)=[]:=hx.trans hx0
    rw [fr'.abr]
    unfold Ow
    rw [aoi (hown f' (by simp [K.tys]))]
    exact ⟨none,0,0,rfl,by rw [hx']; rfl,anv _, .inl ⟨rfl,rfl⟩⟩
  | sl f' k'=>
   obtain ⟨rfl,hsz,hl,nss,hnl,hns,hat⟩:=hR
   have hf:az f own=true:=hown f (by simp [K.tys])
   unfold Ow at hO ⊢
   rw [aoi hf] at hO ⊢
   obtain ⟨a,n,c,rfl,hn,hnc,hO⟩:=hO
   obtain ⟨K4,rfl,hts⟩:=Js (fun q:IE=>q.1) hns
   have htl:K4.length=nss.length:=by rw [<-hts,aoy]
   rcases hO with ⟨hc,rfl⟩ | ⟨b,o,arr,lo,hi,rfl,hb,hfz,hoc,bC,hfl,hfo,hel⟩
   ·have h0:(show List (El k) from x).length=0:=by omega
    have:K4=[]:=List.length_eq_zero_iff.1 (by omega)
    subst this
    exact ⟨a,n,c,rfl,by omega,hnc, .inl ⟨hc,rfl⟩⟩
   ·have hone:∀i (hi1:i<(show List (El k) from x).length),∃ds,Cells h b (o+i * k.size) ds/\@Ow fr h own ok k ((show List (El k) from x)[i]) ds (bC.getD i []++aS (K4.getD i [])):=by
     intro i h1
     obtain ⟨ds,g1,g2⟩:=hel i (by omega)
     have hti:i<K4.length:=by omega
     have e1:K4.getD i []=K4[i]:=by simp [hti]
     have e2:nss.getD i []=(K4[i]).map (·.1):=by
      rw [<-hts]
      simp [hti]
     have hR':=hat i h1 (by omega)
     rw [e2] at hR'
     refine ⟨ds,by rw [<-hsz]; exact g1, ?_⟩
     rw [e1]
     exact ih (fun t ht=>hown t (by simp [K.tys,ht])) hR' g2 (fun q hq=>htr q (aoB.2 ⟨_,anI hti,hq⟩))
    refine ⟨_,n,c,rfl,by omega,hnc, .inr ⟨b,o,arr,lo,hi,rfl,hb,hfz,by rw [<-hsz]; exact hoc,(List.range (show List (El k) from x).length).map fun i=>bC.getD i []++aS (K4.getD i []),by simp, ?_,fun i h1=>?_⟩⟩
    ·refine (hfo.append_right _).trans ?_
     rw [anW]
     refine List.Perm.cons b ?_
     rw [Bc]
     refine (AY (bC:=(List.range (show List (El k) from x).length).map fun i=>bC.getD i []++aS (K4.getD i [])) (fs:=bC) (gs:=K4.map aS) (by rw [aoy,List.length_range]; omega) (by rw [aoy,aoy,List.length_range]; omega) fun i hi1=>?_).symm
     have hi2:i<(show List (El k) from x).length:=by simpa using hi1
     have hti:i<K4.length:=by omega
     simp [anr,aoG,aoH,hi2,hti]
    ·obtain ⟨ds,g1,g2⟩:=hone i h1
     refine ⟨ds,g1, ?_⟩
     have:((List.range (show List (El k) from x).length).map fun i=>bC.getD i []++aS (K4.getD i [])).getD i []=bC.getD i []++aS (K4.getD i []):=by
      simp [anr,aoG,aoH,h1]
     rw [this]
     exact g2
  | _=>exact hR.elim
 | pair a b iha ihb=>
  intro k' x y eU cs dO hown hR hO htr
  cases k' with
  | pair a' b'=>
   obtain ⟨n1,n2,hns,r1,r2⟩:=hR
   obtain ⟨c1,c2,f1,f2,rfl,hp,o1,o2⟩:=hO
   rw [List.map_eq_append_iff] at hns
   obtain ⟨t1,t2,rfl,rfl,rfl⟩:=hns
   refine ⟨c1,c2,f1++aS t1,f2++aS t2,rfl, ?_,iha (fun t ht=>hown t (by simp [K.tys,ht])) r1 o1 (fun q hq=>htr q (anj _ hq)),ihb (fun t ht=>hown t (by simp [K.tys,ht])) r2 o2 (fun q hq=>htr q (ang _ hq))⟩
   refine (hp.append_right _).trans ?_
   have:aS (t1++t2)=aS t1++aS t2:=by simp [aS]
   rw [this]
   simp only [anB]
   refine aoD f1 ?_
   rw [<-anB, <-anB]
   exact aoE _ aoF
  | _=>exact hR.elim
 | st f ih=>
  intro k' x y eU cs dO hown hR hO htr
  cases k' with
  | st f'=>exact ih (k':=f') (x:=x) (y:=y) (eU:=eU) (cs:=cs) (dO:=dO) hown hR hO htr
  | _=>exact hR.elim
 | int ik=>
  intro k' x y eU cs dO hown hR hO htr
  cases k' with
  | int jk=>
   obtain ⟨rfl,rfl,hns⟩:=hR
   have:eU=[]:=by simpa using hns
   subst this
   have e0:dO++aS []=dO:=anJ _
   rw [e0]
   exact hO
  | _=>exact hR.elim
 | bool=>
  intro k' x y eU cs dO hown hR hO htr
  cases k' with
  | bool=>
   obtain ⟨rfl,hns⟩:=hR
   have:eU=[]:=by simpa using hns
   subst this
   have e0:dO++aS []=dO:=anJ _
   rw [e0]
   exact hO
  | _=>exact hR.elim
 | str=>
  intro k' x y eU cs dO hown hR hO htr
  cases k' with
  | str=>
   obtain ⟨rfl,hns⟩:=hR
   have:eU=[]:=by simpa using hns
   subst this
   have e0:dO++aS []=dO:=anJ _
   rw [e0]
   exact hO
  | _=>exact hR.elim
 | unit=>
  intro k' x y eU cs dO hown hR hO htr
  cases k' with
  | unit=>
   have hns:eU.map (·.1)=[]:=hR
   have:eU=[]:=by simpa using hns
   subst this
   have e0:dO++aS []=dO:=anJ _
   rw [e0]
   exact hO
  | _=>exact hR.elim
 | gap n=>intro k' x y eU cs dO _ hR; cases k' <;> exact hR.elim
 | id f=>intro k' x y eU cs dO _ hR; cases k' <;> exact hR.elim
def AX:K->Bool
 | .id _=>false
 | .sl _ k=>AX k
 | .pair a b=>AX a && AX b
 | .st f=>AX f
 | _=>true
theorem Ul {h:Heap} {ok:Nat->Prop} (fr':Fr) (hf:fr'.free=fr.free):∀{k:K} {x:El k} {cs:List Value},AX k=true->@Vw fr h ok k x cs->@Vw fr' h ok k x cs:=by
 intro k
 induction k with
 | sl f k ih=>
  intro x cs hk H
  obtain ⟨a,n,c,e1,e2,e3,H⟩:=H
  refine ⟨a,n,c,e1,e2,e3,fun hn=>?_⟩
  obtain ⟨b,o,ea,hb,ht,H⟩:=H hn
  refine ⟨b,o,ea,hb,ht.imp id (fun h=>by rw [hf]; exact h),fun i hi=>?_⟩
  obtain ⟨ds,h1,h2⟩:=H i hi
  exact ⟨ds,h1,ih hk h2⟩
 | pair a b iha ihb=>
  intro x cs hk H
  simp only [AX,ank] at hk
  obtain ⟨c1,c2,e,h1,h2⟩:=H
  exact ⟨c1,c2,e,iha hk.1 h1,ihb hk.2 h2⟩
 | st f ih=>intro x cs hk H; exact ih (x:=x) (cs:=cs) hk H
 | id f=>intro x cs hk; simp [AX] at hk
 | int ik=>intro x cs _ H; exact H
 | bool=>intro x cs _ H; exact H
 | str=>intro x cs _ H; exact H
 | unit=>intro x cs _ H; exact H
 | gap n=>intro x cs _ H; exact H
def xY (cx:Cx) (bad:List Nat):Cx:={ cx with
 par:=fun j=>(cx.par j).map fun pi=>{ pi with bl:=pi.bl.filter fun b=>!az b bad }
 ptrs:=fun _ _ _ _=>False
 refs:=fun _ _=>False }
theorem nQ {cx:Cx} {bad:List Nat} {j:Nat} {BZ:Q6} (h:(xY cx bad).par j=some BZ):∃pi,cx.par j=some pi/\BZ={ pi with bl:=pi.bl.filter fun b=>!az b bad }:=by
 simp only [xY,Option.map_eq_some_iff] at h
 obtain ⟨pi,h1,h2⟩:=h
 exact ⟨pi,h1,h2.symm⟩
theorem FN {cx:Cx} {bad:List Nat} {b:Nat}:mD (xY cx bad) b↔mD cx b:=by
 constructor
 ·rintro ⟨j,BZ,o,n,h1,h2⟩
  obtain ⟨pi,g1,rfl⟩:=nQ h1
  exact ⟨j,pi,o,n,g1,h2⟩
 ·rintro ⟨j,pi,o,n,h1,h2⟩
  exact ⟨j,{ pi with bl:=pi.bl.filter fun b=>!az b bad },o,n,by simp [xY,h1],h2⟩
def Ou (T:List Tag):Prop:=∀t∈T,gy t.1=true
def Bq:wL->Prop
 | .one .undef=>True
 | .one (.ptr r p n)=>r=aA 0/\p=[]/\n=0
 | .one (.val k _ T)=>AX k=true/\Ou T
 | .one (.fn _ cs)=>∀c∈cs,AX c.2.1.1=true/\Ou c.2.2/\c.1=SENT
 | _=>False
section
variable {cx:Cx} {Z:St} {J:dP} {a:Act} {w:World}
theorem V8 {R0 R1:Root} {dO bad:List Nat} (h0:∀r R,aQ Z r R->r=aA 0/\R=R0) (h1:aQ Z (aA 0) R0) (hk:R1.kind=R0.kind) (hsub:∀b∈dO,b∈J.fo (aA 0)) (hbad:∀b∈bad,b∈J.fo (aA 0)) {T:List Tag} (hT:Ou T) {b:Nat} (h:jc cx Z J [] w T b) :
  jc (xY cx bad) (au Z (aA 0) R1) (aG J (aA 0) (J.loc (aA 0)) (J.hdr (aA 0)) dO) [] w T b:=by
 obtain ⟨g1,g2,g3,g4,g5⟩:=h
 refine ⟨g1,g2,fun hb=>g3 (FN.1 hb),fun r R hr hb=>?_,fun hlt=>?_⟩
 ·rcases jS hr with ⟨rfl,rfl,_⟩ | ⟨e,hr'⟩
  ·rw [fB] at hb
   refine g4 _ R0 h1 ?_
   rw [bX]
   unfold iX at hb ⊢
   rw [hk] at hb
   rcases ann.1 hb with h | h
   ·exact anj _ h
   ·exact ang _ (hsub b h)
  ·exact absurd (h0 r R hr').1 e
 ·rcases g5 hlt with ⟨j,n,f1,f2⟩ | ⟨j,pi,f1,f2⟩
  ·exact .inl ⟨j,n,f1,f2⟩
  ·refine .inr ⟨j,{ pi with bl:=pi.bl.filter fun b=>!az b bad },by simp [xY,f1], ?_⟩
   refine anw.2 ⟨f2, ?_⟩
   cases hm:az b bad with
   | false=>rfl
   | true=>
    have hb:=hbad b (aM.1 hm)
    obtain ⟨n,hn⟩:=g4 _ R0 h1 (by rw [bX]; exact ang _ hb)
    have:=hT _ hn
    rw [oz] at this
    simp at this
theorem FK {Z:St} {tys:List TypeId} {T:List Tag} (h:Ou T):bD Z tys T=true:=oo.2 fun t ht=>.inl (h t ht)
structure Ac (cx:Cx) (Z:St) (J:dP) (R0 R1:Root) (dO bad:List Nat):Prop where
 only:∀r R,aQ Z r R->r=aA 0/\R=R0
 lv:aQ Z (aA 0) R0
 kind:R1.kind=R0.kind
 tags:R0.tags=[]
 sub:∀b∈dO,b∈J.fo (aA 0)
 bad:∀b∈bad,b∈J.fo (aA 0)
theorem Ac.jc {R0 R1:Root} {dO bad:List Nat} (L:Ac cx Z J R0 R1 dO bad) {T:List Tag} (hT:Ou T) {b:Nat} (h:Ow.jc cx Z J [] w T b) :
  Ow.jc (xY cx bad) (au Z (aA 0) R1) (aG J (aA 0) (J.loc (aA 0)) (J.hdr (aA 0)) dO) [] w T b:=V8 L.only L.lv L.kind L.sub L.bad hT h
theorem Ac.wh {R0 R1:Root} {dO bad:List Nat} (L:Ac cx Z J R0 R1 dO bad):dY (aG J (aA 0) (J.loc (aA 0)) (J.hdr (aA 0)) dO) R1 (aA 0)=dY J R0 (aA 0):=by
 rw [kE]
 unfold vZ dY
 rw [L.kind] <;> cases R0.kind <;> rfl
theorem Ac.av (fr':Fr) (hf:fr'.free=fr.free) {R0 R1:Root} {dO bad:List Nat} (L:Ac cx Z J R0 R1 dO bad) {x:wL} {v:Value} (hx:Bq x) (h : @jG fr cx Z J [] w x v) :
  @jG fr' (xY cx bad) (au Z (aA 0) R1) (aG J (aA 0) (J.loc (aA 0)) (J.hdr (aA 0)) dO) [] w x v:=by
 have hv0:bB Z R0:=⟨L.lv.2,by rw [L.tags]; rfl⟩
 cases x with
 | Hq l=>exact hx.elim
 | lit _ _ _=>exact hx.elim
 | one x=>
  cases x with
  | undef=>trivial
  | ptr r p n=>
   obtain ⟨rfl,rfl,rfl⟩:=hx
   refine ⟨h.1,fun R hR _ _ _ _=>?_⟩
   rw [aI] at hR
   have hR:=anP hR
   subst hR
   obtain ⟨_,cs,b,o,hn,e⟩:=h.2 R0 L.lv.1 hv0 (by unfold eT clean; simp [az]) (fun t ht=>by simp [ah] at ht) rfl
   simp only [bH,ane,anp] at hn
   refine ⟨trivial,J.hdr (aA 0),b,o, ?_,e⟩
   simp only [bH]
   rw [L.wh,hn.2]
   simp [aG,upd_same]
  | val k x T=>
   intro _
   obtain ⟨cs,h1,h2⟩:=h (.inr (FK hx.2))
   exact ⟨cs,h1, @Ul fr _ _ fr' hf _ _ _ hx.1 (@gH fr _ _ _ _ (fun _ _=>rfl) (fun b hb=>L.jc hx.2 hb) _ _ _ h2)⟩
  | fn f cs=>
   obtain ⟨vs,e,hc⟩:=h
   refine ⟨vs,e, ?_⟩
   clear e
   have key:∀(cs:List (TypeId×Dat×List Tag)) (vs:List Value),(∀c∈cs,AX c.2.1.1=true/\Ou c.2.2/\c.1=SENT)->@lD fr cx Z J [] w cs vs->@lD fr' (xY cx bad) (au Z (aA 0) R1) (aG J (aA 0) (J.loc (aA 0)) (J.hdr (aA 0)) dO) [] w cs vs:=by
    intro cs
    induction cs with
    | nil=>intro vs _ h; cases vs <;> exact h
    | cons c cs ih=>
     intro vs hc h
     cases vs with
     | nil=>exact h
     | cons v vs=>
      obtain ⟨⟨h1,h2⟩,h3⟩:=h
      obtain ⟨g1,g2,g3⟩:=hc c (by simp)
      refine ⟨⟨h1,fun _=>?_⟩,ih vs (fun c hc'=>hc c (by simp [hc'])) h3⟩
      obtain ⟨b,o,ds,e,q1,q2,⟨q3,q4,q5⟩,_⟩:=h2 (FK g2)
      refine ⟨b,o,ds,e,q1, @Ul fr _ _ fr' hf _ _ _ g1 (@gH fr _ _ _ _ (fun _ _=>rfl) (fun b hb=>L.jc g2 hb) _ _ _ q2),⟨q3,q4,fun r R hr hb=>?_⟩, .inl ⟨g3,g2⟩⟩
      rcases jS hr with ⟨rfl,rfl,_⟩ | ⟨e,hr'⟩
      ·rw [fB] at hb
       refine q5 _ R0 L.lv ?_
       rw [bX]
       unfold iX at hb ⊢
       rw [L.kind] at hb
       rcases ann.1 hb with h | h
       ·exact anj _ h
       ·exact ang _ (L.sub b h)
      ·exact absurd (L.only r R hr').1 e
   exact key cs vs hx hc
  | _=>exact hx.elim
theorem OI:∀{eU:List IE},(eU.map (·.1)).Nodup->0∉eU.map (·.1)->(∀q∈eU,∃a n c,q.2.1=Value.slice a n c)->∃jm:Nat->Value,jm 0=.slice none 0 0/\(∀i,∃a n c,jm i=.slice a n c)/\∀q∈eU,jm q.1=q.2.1
 | [],_,_,_=>⟨fun _=>.slice none 0 0,rfl,fun _=>⟨none,0,0,rfl⟩,fun q hq=>by simp at hq⟩
 | q :: l,hn,h0,hs=>by
  rw [aoh,anN] at hn
  rw [aoh,anq,not_or] at h0
  obtain ⟨jm,g1,g2,g3⟩:=OI hn.2 h0.2 (fun q hq=>hs q (by simp [hq]))
  refine ⟨fun i=>if i=q.1 then q.2.1 else jm i,by simp only [aok h0.1]; exact g1,fun i=>?_,fun t ht=>?_⟩
  ·by_cases h:i=q.1
   ·simp only [aoi h]; exact hs q (by simp)
   ·simp only [aok h]; exact g2 i
  ·rcases anq.1 ht with rfl | ht
   ·simp only [aof]
   ·have hne:¬t.1=q.1:=fun e=>hn.1 (anQ.2 ⟨t,ht,e⟩)
    simp only [aok hne]; exact g3 t ht
theorem QF {h:Heap} {own:List TypeId} {ok:Nat->Prop} {xs:List (El kk)} {v:Value} {fo:List Nat} (he:az e own=true) (H:Ow h own ok (.sl e kk) xs [v] fo):∃a n c,v=.slice a n c:=by
 unfold Ow at H
 rw [aoi he] at H
 obtain ⟨a,n,c,hv,_⟩:=H
 simp only [apr,an9] at hv
 exact ⟨a,n,c,hv⟩
theorem Sw (H:Rel cx Z J [] a w) (hw0:cx.w0=w) {R0:Root} (hR0:aQ Z (aA 0) R0) (nT:∀r,r≠aA 0->Z.roots r=none) (hpar:R0.kind=.par) (q9:R0.tags=[]) (hown:∀t∈R0.k.tys,az t R0.own=true) (he:az e R0.own=true)
  (hsl:∀s,Bq (Z.slots s)) {k':K} {x':El k'} {tb:Nat->List (El kk)} {ns:List Nat} (hR:Rw e kk false tb R0.k k' R0.x x' ns) (hnd:ns.Nodup) (hn0:0∉ns) (hown':∀t∈k'.tys,az t R0.own=true) :
  ∃(eU:List IE) (dO:List Nat) (jm:Nat->Value) (h0:jm 0=.slice none 0 0) (hs:∀i,∃a n c,jm i=.slice a n c),eU.map (·.1)=ns/\(J.fo (aA 0)).Perm (dO++aS eU)/\
   (∀q∈eU, @Ow fr (hp w) R0.own (fun _=>False) (.sl e kk) (tb q.1) [q.2.1] q.2.2)/\(∀q∈eU,jm q.1=q.2.1)/\
   @Rel (ig fr jm h0 hs) (xY cx (aS eU)) (au Z (aA 0) { R0 with k:=k',x:=x' }) (aG J (aA 0) (J.loc (aA 0)) (J.hdr (aA 0)) dO) [] a w:=by
 have K:=H.roots _ R0 hR0
 have hv0:bB Z R0:=⟨hR0.2,by rw [q9]; rfl⟩
 have hO:Ow (hp w) R0.own (fun _=>False) R0.k R0.x (J.hdr (aA 0)) (J.fo (aA 0)):=gI (dH hown) (K.ow hv0)
 obtain ⟨eU,dO,g1,g2,g3,g4⟩:=Le hown hR hO
 obtain ⟨jm,i1,i2,i3⟩:=OI (eU:=eU) (by rw [g1]; exact hnd) (by rw [g1]; exact hn0) (fun q hq=>QF he (g3 q hq))
 refine ⟨eU,dO,jm,i1,i2,g1,g2,g3,i3, ?_⟩
 have hblk:blk J R0 (aA 0)=(J.loc (aA 0)).1 :: J.fo (aA 0):=by unfold blk dY; rw [hpar]; rfl
 have hsub:∀b∈dO,b∈J.fo (aA 0):=fun b hb=>g2.mem_iff.2 (anj _ hb)
 have hbad:∀b∈aS eU,b∈J.fo (aA 0):=fun b hb=>g2.mem_iff.2 (ang _ hb)
 have L:Ac cx Z J R0 { R0 with k:=k',x:=x' } dO (aS eU):=⟨fun r R hr=>by
  by_cases e:r=aA 0
  ·subst e; refine ⟨rfl, ?_⟩; have:=hr.1; rw [hR0.1] at this; exact (anP this).symm
  ·have:=hr.1; rw [nT r e] at this; simp at this,hR0,rfl,q9,hsub,hbad⟩
 have rJ:=K.nd
 rw [hblk] at rJ
 have BI:=anN.1 rJ
 have pQ:=anl.1 (g2.nodup BI.2)
 have hlv:∀{q Q},aQ (au Z (aA 0) { R0 with k:=k',x:=x' }) q Q->q=aA 0/\Q={ R0 with k:=k',x:=x' }:=fun {q Q} hq=>by
  rcases jS hq with ⟨rfl,rfl,_⟩ | ⟨e,hq'⟩
  ·exact ⟨rfl,rfl⟩
  ·exact absurd (L.only q Q hq').1 e
 have hlv1:aQ (au Z (aA 0) { R0 with k:=k',x:=x' }) (aA 0) { R0 with k:=k',x:=x' }:=⟨aI ..,hR0.2⟩
 have hblk':blk (aG J (aA 0) (J.loc (aA 0)) (J.hdr (aA 0)) dO) { R0 with k:=k',x:=x' } (aA 0)=(J.loc (aA 0)).1 :: dO:=by
  rw [fB]; unfold iX; simp only [hpar]; rfl
 have ko:∀b∈(J.loc (aA 0)).1 :: dO,Ow.mine (xY cx (aS eU)) w b:=fun b hb=>by
  have hb0:b∈blk J R0 (aA 0):=by
   rw [hblk]
   rcases anq.1 hb with h | h
   ·rw [h]; exact anM
   ·exact anE _ (hsub b h)
  obtain ⟨m1,m2⟩:=K.mine b hb0
  refine ⟨m1, ?_⟩
  rcases m2 with m2 | ⟨j,pi,m2,m3⟩
  ·exact .inl m2
  ·refine .inr ⟨j,{ pi with bl:=pi.bl.filter fun b=>!az b (aS eU) },by simp [xY,m2],anw.2 ⟨m3, ?_⟩⟩
   have:az b (aS eU)=false:=by
    rw [aW]
    intro hm
    rcases anq.1 hb with h | h
    ·subst h; exact BI.1 (hbad _ hm)
    ·exact pQ.2.2 b h b hm rfl
   rw [this]; rfl
 have hpl:=H.oI
 refine @Rel.mk (ig fr jm i1 i2) _ _ _ _ _ _ H.defs H.sz ?_ ?_ ?_ ?_ ?_ ?_ ?_ (fun b hb=>by simp at hb) an4 (fun r R hr b hb h=>by simp at h) ?_ ?_ ?_ (fun j p ts v h=>h.elim) (fun j v h=>h.elim)
 ·intro j BZ b o n hj hb
  obtain ⟨pi,hj',rfl⟩:=nQ hj
  obtain ⟨R,f1,f2,f3,f4⟩:=H.mE j pi b o n hj' hb
  obtain ⟨e1,rfl⟩:=L.only _ R f1
  rw [e1] at f3 ⊢
  exact ⟨_,hlv1,hpar,by simp [aG,upd_same,f3],by show k'.size=n; rw [hR.size]; exact f4⟩
 ·intro r R hr hk
  obtain ⟨rfl,rfl⟩:=hlv hr
  obtain ⟨j,pi,n,f1,f2,f3⟩:=H.BX _ R0 hR0 hpar
  exact ⟨j,{ pi with bl:=pi.bl.filter fun b=>!az b (aS eU) },n,f1,by simp [xY,f2],by simp [aG,upd_same,f3]⟩
 ·intro s
  exact Ac.av (fr:=fr) (ig fr jm i1 i2) rfl L (hsl s) (H.slots s)
 ·intro s
  have hs:=hsl s
  show wO _ (Z.slots s)
  cases hx:Z.slots s with
  | Hq l=>rw [hx] at hs; exact hs.elim
  | lit _ _ _=>rw [hx] at hs; exact hs.elim
  | one x=>
   rw [hx] at hs
   cases x with
   | undef=>trivial
   | ptr r p n=>obtain ⟨rfl,rfl,rfl⟩:=hs; exact ⟨_,aI .., .inr (anO _)⟩
   | val k x T=>exact fun t ht=>.inl (hs.2 t ht)
   | fn f cs=>exact fun c hc t ht=>.inl ((hs c hc).2.1 t ht)
   | _=>exact hs.elim
 ·intro r R hr
  obtain ⟨rfl,rfl⟩:=hlv hr
  refine @uy.mk (ig fr jm i1 i2) _ _ _ _ _ _ _ (fun _=>?_) ?_ ?_ ?_ ?_
  ·have e1:(aG J (aA 0) (J.loc (aA 0)) (J.hdr (aA 0)) dO).hdr (aA 0)=J.hdr (aA 0):=by simp [aG,upd_same]
   have e2:(aG J (aA 0) (J.loc (aA 0)) (J.hdr (aA 0)) dO).fo (aA 0)=dO:=by simp [aG,upd_same]
   rw [e1,e2]
   exact @gI (ig fr jm i1 i2) _ _ _ _ _ _ _ _ (dH hown') (g4 (ig fr jm i1 i2) rfl i3)
  ·show ((aG J (aA 0) (J.loc (aA 0)) (J.hdr (aA 0)) dO).hdr (aA 0)).length=k'.size
   rw [hR.size]
   simpa [aG,upd_same] using K.len
  ·intro b o hb
   rw [L.wh] at hb
   obtain ⟨m1,arr,e',lo,hi,m2,m3,m4,m5⟩:=K.mem b o hb
   refine ⟨by simpa [aG,upd_same] using m1,arr,e',lo,hi,m2,m3,by show o+k'.size<=_; rw [hR.size]; exact m4,m5⟩
  ·rw [hblk']
   exact anN.2 ⟨fun h=>BI.1 (hsub _ h),pQ.1⟩
  ·intro b hb
   rw [hblk'] at hb
   exact ko b hb
 ·intro r R hr
  by_cases e:r=aA 0
  ·subst e
   rw [aI] at hr
   have hr:=anP hr
   subst hr
   exact ⟨fun t ht=>by rw [show ({ R0 with k:=k',x:=x' }:Root).tags=R0.tags from rfl,q9] at ht; simp at ht,oz 0,fun n hn=>by rw [show ({ R0 with k:=k',x:=x' }:Root).tags=R0.tags from rfl,q9] at hn; simp at hn⟩
  ·rw [bP _ _ e,nT r e] at hr; simp at hr
 ·intro r R r' R' hr hr' hne
  exact absurd ((hlv hr).1.trans (hlv hr').1.symm) hne
 ·obtain ⟨f1,f2,f3,f4,f5,f6⟩:=H.frame
  refine ⟨f1,f2,f3,f4,fun b _ _=>by show hp w b=hp cx.w0 b; rw [hw0],fun j BZ b o n hj hb=>?_⟩
  obtain ⟨pi,hj',rfl⟩:=nQ hj
  exact f6 j pi b o n hj' hb
 ·intro j BZ hj hkp
  obtain ⟨pi,hj',rfl⟩:=nQ hj
  obtain ⟨R,f1,f2⟩:=H.uf j pi hj' hkp
  by_cases e:aA j=aA 0
  ·refine ⟨_,by rw [e]; exact aI ..,fun _ b hb hnb=>.inr ⟨by show hp w b=hp cx.w0 b; rw [hw0],by simp,fun q Q hq _=>by rw [(hlv hq).1,e]⟩⟩
  ·rw [nT _ e] at f1; simp at f1
 ·refine ⟨fun j BZ hj b hb=>?_,fun b hb=>⟨?_,fun j BZ hj hbl=>?_⟩,fun b hb=>hpl.2.2 b hb⟩
  ·obtain ⟨pi,hj',rfl⟩:=nQ hj
   exact hpl.1 j pi hj' b (anw.1 hb).1
  ·exact (hpl.2.1 b hb).1
  ·obtain ⟨pi,hj',rfl⟩:=nQ hj
   exact (hpl.2.1 b hb).2 j pi hj' (anw.1 hbl).1
theorem EH {h:Heap} {own own':List TypeId} {ok:Nat->Prop}:∀{k:K} {x:El k} {cs:List Value} {fo:List Nat},(∀t∈k.tys,az t own=az t own')->Ow h own ok k x cs fo->Ow h own' ok k x cs fo:=by
 intro k
 induction k with
 | sl f k ih=>
  intro x cs fo ht H
  have hf:=ht f (by simp [K.tys])
  unfold Ow at H ⊢
  cases hm:az f own with
  | true=>
   rw [aoi hm] at H
   rw [aoi (by rw [<-hf]; exact hm)]
   obtain ⟨a,n,c,e1,e2,e3,H⟩:=H
   refine ⟨a,n,c,e1,e2,e3, ?_⟩
   rcases H with H | ⟨b,o,arr,lo,hi,ea,hb,hz,hs,bC,hl,hp,H⟩
   ·exact .inl H
   ·refine .inr ⟨b,o,arr,lo,hi,ea,hb,hz,hs,bC,hl,hp,fun i hi=>?_⟩
    obtain ⟨ds,h1,h2⟩:=H i hi
    exact ⟨ds,h1,ih (fun t h=>ht t (by simp [K.tys,h])) h2⟩
  | false=>
   rw [aok (by rw [hm]; simp)] at H
   rw [aok (by rw [<-hf,hm]; simp)]
   exact H
 | pair a b iha ihb=>
  intro x cs fo ht H
  obtain ⟨c1,c2,f1,f2,e,hp,h1,h2⟩:=H
  exact ⟨c1,c2,f1,f2,e,hp,iha (fun t h=>ht t (by simp [K.tys,h])) h1,ihb (fun t h=>ht t (by simp [K.tys,h])) h2⟩
 | st f ih=>intro x cs fo ht H; exact ih (x:=x) ht H
 | int ik=>intro x cs fo _ H; exact H
 | bool=>intro x cs fo _ H; exact H
 | id e=>intro x cs fo _ H; exact H
 | str=>intro x cs fo _ H; exact H
 | unit=>intro x cs fo _ H; exact H
 | gap n=>intro x cs fo _ H; exact H
theorem aeC {z:Bool} {tb:Nat->List (El kk)} {k k':K} {x:El k} {y:El k'} {ns:List Nat} {v:Value} {cs:List Value} (hR:Rw e kk z tb k k' x y ns) (h:VC k' v cs):VC k v cs:=by
 cases k <;> cases k' <;> first | exact hR.elim | exact h
def RwR (e:TypeId) (kk:K) (tb:Nat->List (El kk)):(rs rs':List xJ)->Cont (iZ rs)->Cont (iZ rs')->List Nat->Prop
 | [],[],_,_,ns=>ns=[]
 | .val k _ _ :: rs, .val k' _ _ :: rs',c,c',ns=>(∃h:k=k',k.flat=true/\AX k=true/\h▸c.1=c'.1)/\RwR e kk tb rs rs' c.2 c'.2 ns
 | .own k ow _ _ :: rs, .own k' ow' _ _ :: rs',c,c',ns=>∃n1 n2,ns=n1++n2/\((k.tys.all fun t=>az t ow)=true/\(k'.tys.all fun t=>az t ow')=true/\Rw e kk true tb k k' c.1 c'.1 n1)/\RwR e kk tb rs rs' c.2 c'.2 n2
 | _,_,_,_,_=>False
theorem select {eU:List IE}:∀{ns:List Nat},(∀n∈ns,n∈eU.map (·.1))->∃l:List IE,l.map (·.1)=ns/\∀q∈l,q∈eU
 | [],_=>⟨[],rfl,fun q hq=>by simp at hq⟩
 | n :: ns,h=>by
  obtain ⟨l,h1,h2⟩:=select (ns:=ns) (fun n hn=>h n (by simp [hn]))
  obtain ⟨q,hq,e⟩:=anQ.1 (h n (by simp))
  exact ⟨q :: l,by simp [h1,e],fun t ht=>by
   rcases anq.1 ht with rfl | ht
   ·exact hq
   ·exact h2 t ht⟩
theorem Dv:∀{eU:List IE},(aS eU).Nodup->(eU.map (·.1)).Nodup->∀q∈eU,q.2.2.Nodup/\∀q'∈eU,q.1≠q'.1->∀b∈q.2.2,b∉q'.2.2
 | [],_,_,q,hq=>by simp at hq
 | t :: l,hn,hm,q,hq=>by
  have e:aS (t :: l)=t.2.2++aS l:=rfl
  rw [e] at hn
  obtain ⟨n1,n2,n3⟩:=anl.1 hn
  rw [aoh,anN] at hm
  have hin:∀q∈l,∀b∈q.2.2,b∈aS l:=fun q hq b hb=>anR.2 ⟨q,hq,hb⟩
  rcases anq.1 hq with rfl | hql
  ·refine ⟨n1,fun q' hq' hne b hb hb'=>?_⟩
   rcases anq.1 hq' with rfl | hq'
   ·exact hne rfl
   ·exact n3 b hb b (hin q' hq' b hb') rfl
  ·obtain ⟨g1,g2⟩:=Dv n2 hm.2 q hql
   refine ⟨g1,fun q' hq' hne b hb hb'=>?_⟩
   rcases anq.1 hq' with rfl | hq'
   ·exact n3 b hb' b (hin q hql b hb) rfl
   ·exact g2 q' hq' hne b hb hb'
theorem Dw {eU:List IE} (hn:(aS eU).Nodup) (hm:(eU.map (·.1)).Nodup):∀{l:List IE},(∀q∈l,q∈eU)->(l.map (·.1)).Nodup->(aS l).Nodup
 | [],_,_=>an4
 | t :: l,hs,hl=>by
  have e:aS (t :: l)=t.2.2++aS l:=rfl
  rw [e]
  rw [aoh,anN] at hl
  refine anl.2 ⟨(Dv hn hm t (hs t (by simp))).1,Dw hn hm (fun q hq=>hs q (by simp [hq])) hl.2,fun b hb c hc ebc=>?_⟩
  subst ebc
  obtain ⟨q,hq,hb'⟩:=anR.1 hc
  exact (Dv hn hm t (hs t (by simp))).2 q (hs q (by simp [hq])) (fun e=>hl.1 (anQ.2 ⟨q,hq,e.symm⟩)) b hb hb'
theorem VN (fr':Fr) (hf:fr'.free=fr.free) {RA:Cx} {Z':St} {J':dP} {F':List Nat} {w':World} {tb:Nat->List (El kk)} {O:List TypeId} (hO:∀t∈(K.sl e kk).tys,az t O=true)  :
  ∀{rs rs':List xJ} {c:Cont (iZ rs)} {c':Cont (iZ rs')} {vs:List Value} {bC:List (List Nat)} {eU:List IE},RwR e kk tb rs rs' c c' (eU.map (·.1))->@EX fr' RA Z' J' F' w' rs' c' vs bC->
   (∀q∈eU, @Ow fr (hp w') O (fun _=>False) (.sl e kk) (tb q.1) [q.2.1] q.2.2/\fr'.jm q.1=q.2.1)->
   ∃RV,(∀Z1 dR F1, @EX fr cx Z1 dR F1 w' rs c vs RV)/\RV.flatten.Perm (bC.flatten++aS eU):=by
 intro rs
 induction rs with
 | nil=>
  intro rs' c c' vs bC eU hR hL htr
  cases rs' with
  | cons _ _=>exact hR.elim
  | nil=>
   have ht:eU=[]:=by simpa using (show eU.map (·.1)=[] from hR)
   subst ht
   cases vs with
   | cons _ _=>exact hL.elim
   | nil=>cases bC with
    | cons _ _=>exact hL.elim
    | nil=>exact ⟨[],fun _ _ _=>trivial, .refl _⟩
 | cons r rs ih=>
  intro rs' c c' vs bC eU hR hL htr
  cases rs' with
  | nil=>cases r <;> exact hR.elim
  | cons r' rs'=>
   cases r with
   | into _ _=>exact hR.elim
   | ptr _ _ _ _=>exact hR.elim
   | val k ex pr=>
    cases r' with
    | val k' ex' pr'=>
     obtain ⟨⟨hk,h1,h2,h3⟩,hR⟩:=hR
     subst hk
     cases vs with
     | nil=>exact hL.elim
     | cons v vs=>
      cases bC with
      | nil=>exact hL.elim
      | cons fo bC=>
       obtain ⟨⟨rfl,T,cs,g1,g2,g3⟩,hL⟩:=hL
       obtain ⟨RV,q1,q2⟩:=ih hR hL htr
       refine ⟨[] :: RV,fun Z1 dR F1=>⟨⟨rfl,[],cs, .inl h1,g2, ?_⟩,q1 Z1 dR F1⟩,by simpa using q2⟩
       have h3:c.1=c'.1:=h3
       rw [h3]
       exact @jA fr _ _ _ _ _ _ _ h1 (@Ul fr' _ _ fr hf.symm _ _ _ h2 g3)
    | _=>exact hR.elim
   | own k ow ex pr=>
    cases r' with
    | own k' ow' ex' pr'=>
     obtain ⟨n1,n2,hns,⟨a1,a2,a3⟩,hR⟩:=hR
     rw [List.map_eq_append_iff] at hns
     obtain ⟨t1,t2,rfl,rfl,rfl⟩:=hns
     cases vs with
     | nil=>exact hL.elim
     | cons v vs=>
      cases bC with
      | nil=>exact hL.elim
      | cons fo bC=>
       obtain ⟨⟨T,cs,akk,g1,g2,g3,g4⟩,hL⟩:=hL
       obtain ⟨RV,q1,q2⟩:=ih hR hL (fun q hq=>htr q (ang _ hq))
       have hk':∀t∈k'.tys,az t akk=true:=fun t ht=>g2 t ht (anu.1 a2 t ht)
       let O2:List TypeId:=O++k.tys++k'.tys
       have m1:∀t∈k.tys,az t O2=true:=fun t ht=>aM.2 (anj _ (ang _ ht))
       have m2:∀t∈k'.tys,az t O2=true:=fun t ht=>aM.2 (ang _ ht)
       have m3:∀t∈(K.sl e kk).tys,az t O2=true:=fun t ht=>aM.2 (anj _ (anj _ (aM.1 (hO t ht))))
       have g5 : @Ow fr' (hp w') O2 (fun _=>False) k' c'.1 cs fo:=@gI fr' _ _ _ _ _ _ _ _ (dH m2) (@EH fr' _ _ _ _ _ _ _ _ (fun t ht=>by rw [hk' t ht,m2 t ht]) g4)
       have g6:=JL (fr:=fr) fr' m1 a3 g5 (fun q hq=>by
        obtain ⟨f1,f2⟩:=htr q (anj _ hq)
        exact ⟨@EH fr _ _ _ _ _ _ _ _ (fun t ht=>by rw [hO t ht,m3 t ht]) f1,f2⟩)
       refine ⟨(fo++aS t1) :: RV,fun Z1 dR F1=>⟨⟨[],cs,O2, .inl a1,fun t ht _=>m1 t ht,aeC a3 g3, @gI fr _ _ _ _ _ _ _ _ (dH m1) g6⟩,q1 Z1 dR F1⟩, ?_⟩
       simp only [aoa]
       have et:aS (t1++t2)=aS t1++aS t2:=by simp [aS]
       rw [et]
       refine (q2.append_left (fo++aS t1)).trans ?_
       simp only [anB]
       refine aoD fo ?_
       rw [<-anB, <-anB]
       exact aoE _ aoF
    | _=>exact hR.elim
end
end
end
section
open Go
section
variable {e:TypeId} {kk:K} [fr:Fr]
variable {cx:Cx} {Z:St} {J:dP} {a:Act} {w:World}
def nR (k:K) (x:El k) (ow wt ht:List TypeId):Root:={ k,x,own:=ow,tags:=[],w:=wt,h:=ht,g:=0,kind:=.par,fixed:=false,keep:=true,ew:=[],eh:=ht }
def yR (R:Root):St:=⟨fun _=>.one .undef,fun r=>bif Nat.beq r (aA 0) then some R else none⟩
def Aq (loc:Nat×Nat) (hdr:List Value) (fo:List Nat):dP:=⟨fun _=>loc,fun _=>hdr,fun _=>fo⟩
theorem qo {R:Root} {r:Nat} {Q:Root} (h:(yR R).roots r=some Q):r=aA 0/\Q=R:=by
 unfold yR at h
 simp only at h
 cases hb:Nat.beq r (aA 0) with
 | true=>rw [hb] at h; exact ⟨ani hb,(anP h).symm⟩
 | false=>rw [hb] at h; simp at h
theorem tT {R:Root}:(yR R).roots (aA 0)=some R:=by simp [yR]
theorem VM (H:Rel cx Z J [] a w) (hw0:cx.w0=w) {R0:Root} (hR0:aQ Z (aA 0) R0) (nT:∀r,r≠aA 0->Z.roots r=none) (hpar:R0.kind=.par) (hg0:R0.g=0) (hv0:bB Z R0)
  (hown:∀t∈R0.k.tys,az t R0.own=true) {k':K} (hown':∀t∈k'.tys,az t R0.own=true) (Qc:∀t∈(K.sl e kk).tys,az t R0.own=true)
  {tb:Nat->List (El kk)} {eU:List IE} {dO:List Nat} {jm:Nat->Value} {h0:jm 0=.slice none 0 0} {hs:∀i,∃a n c,jm i=.slice a n c}
  (hperm:(J.fo (aA 0)).Perm (dO++aS eU)) (hnd:(eU.map (·.1)).Nodup) (hrow:∀q∈eU, @Ow fr (hp w) R0.own (fun _=>False) (.sl e kk) (tb q.1) [q.2.1] q.2.2) (hid:∀q∈eU,jm q.1=q.2.1)
  {Z1:St} {dR:dP} {F1:List Nat} {a1:Act} {w':World} (H1 : @Rel (ig fr jm h0 hs) (xY cx (aS eU)) Z1 dR F1 a1 w') {Q:Root} (hQ:Z1.roots (aA 0)=some Q) (hQv:bB Z1 Q) (hQk:Q.k=k') (hQo:∀t∈k'.tys,az t Q.own=true)
  {wt ht:List TypeId} (hwt:mY Q.w wt=true/\mY Q.ew wt=true) (hwk:∀t∈(K.sl e kk).tys,t∈wt) (Vd:qh∈ht)
  {y:El R0.k} {qw:List IE} (hP:Rw e kk true tb R0.k Q.k y Q.x (qw.map (·.1))) (XR:∀q∈qw,q∈eU)
  {rs rs':List xJ} {c:Cont (iZ rs)} {c':Cont (iZ rs')} {vs:List Value} {bC:List (List Nat)} {Dx:List IE} (hRs:∀q∈Dx,q∈eU) (hRR:RwR e kk tb rs rs' c c' (Dx.map (·.1)))
  (hL : @EX (ig fr jm h0 hs) (xY cx (aS eU)) Z1 dR F1 w' rs' c' vs bC) (hfn:bC.flatten.Nodup) (Nl:∀b∈bC.flatten,b∈F1) (hall:((Dx++qw).map (·.1)).Nodup)
  (CW:∀j p ts v,cx.ptrs j p ts v->∃k,ts=eT p k) :
  ∃yA F7,Rel cx (yR (nR R0.k y R0.own wt ht)) yA F7.flatten a1 w'/\EX cx (yR (nR R0.k y R0.own wt ht)) yA F7.flatten w' rs c vs F7/\F7.flatten.Nodup:=by
 have K0:=H.roots _ R0 hR0
 have hlv1:aQ Z1 (aA 0) Q:=⟨hQ,hQv.1⟩
 have K1:=@Rel.roots (ig fr jm h0 hs) _ _ _ _ _ _ H1 _ Q hlv1
 have aah:=@uy.ow (ig fr jm h0 hs) _ _ _ _ _ _ _ K1
 have TN:=@uy.len (ig fr jm h0 hs) _ _ _ _ _ _ _ K1
 have adF:=@uy.mem (ig fr jm h0 hs) _ _ _ _ _ _ _ K1
 have aag:=@uy.nd (ig fr jm h0 hs) _ _ _ _ _ _ _ K1
 have Nw:=@uy.mine (ig fr jm h0 hs) _ _ _ _ _ _ _ K1
 have OG:∀r R,aQ Z r R->r=aA 0/\R=R0:=fun r R hr=>by
  by_cases e:r=aA 0
  ·subst e; refine ⟨rfl, ?_⟩; have:=hr.1; rw [hR0.1] at this; exact (anP this).symm
  ·have:=hr.1; rw [nT r e] at this; simp at this
 obtain ⟨j0,pi0,n0,p1,p2,p3⟩:=H.BX _ R0 hR0 hpar
 obtain ⟨Q',q1,q2,q3,q4⟩:=@Rel.mE (ig fr jm h0 hs) _ _ _ _ _ _ H1 j0 { pi0 with bl:=pi0.bl.filter fun b=>!az b (aS eU) } (J.loc (aA 0)).1 (J.loc (aA 0)).2 n0 (by simp [xY,p2]) p3
 rw [<-p1] at q1 q3
 have eQ:Q'=Q:=by have:=q1.1; rw [hQ] at this; exact (anP this).symm
 subst eQ
 have Mf:blk J R0 (aA 0)=(J.loc (aA 0)).1 :: J.fo (aA 0):=by unfold blk dY; rw [hpar]; rfl
 have hblk1:blk dR Q' (aA 0)=(J.loc (aA 0)).1 :: dR.fo (aA 0):=by unfold blk dY; rw [q2]; simp [q3]
 have hsize:w.heap.size<=w'.heap.size:=by have:=(@Rel.frame (ig fr jm h0 hs) _ _ _ _ _ _ H1).2.2.2.1; simpa [xY,hw0] using this
 have rJ:=K0.nd
 rw [Mf] at rJ
 have BI:=anN.1 rJ
 have pQ:=anl.1 (hperm.nodup BI.2)
 have hbad:∀b∈aS eU,b∈J.fo (aA 0):=fun b hb=>hperm.mem_iff.2 (ang _ hb)
 have Gd:∀b∈aS eU,b∈blk J R0 (aA 0):=fun b hb=>by rw [Mf]; exact anE _ (hbad b hb)
 have hno:∀b∈aS eU,¬Ow.mine (xY cx (aS eU)) w' b:=fun b hb hm=>by
  have hlt:=(K0.mine b (Gd b hb)).1
  rcases hm.2 with h | ⟨j,BZ,h1,h2⟩
  ·have:w.heap.size<=b:=by simpa [xY,hw0] using h
   omega
  ·obtain ⟨pi,_,rfl⟩:=nQ h1
   have:=(anw.1 h2).2
   rw [aM.2 hb] at this
   simp at this
 have hsame:∀b∈aS eU,hp w' b=hp w b:=fun b hb=>by
  have hlt:=(K0.mine b (Gd b hb)).1
  have:=(@Rel.frame (ig fr jm h0 hs) _ _ _ _ _ _ H1).2.2.2.2.1 b (by simpa [xY,hw0] using hlt) (fun j BZ h1 h2=>by
   obtain ⟨pi,_,rfl⟩:=nQ h1
   have:=(anw.1 h2).2
   rw [aM.2 hb] at this
   simp at this)
  simpa [xY,hw0] using this
 have hrow':∀q∈eU, @Ow fr (hp w') R0.own (fun _=>False) (.sl e kk) (tb q.1) [q.2.1] q.2.2:=fun q hq=>
  bE (fun _ h=>h.elim) (fun _ h=>h) (fun b hb=>hsame b (anR.2 ⟨q,hq,hb⟩)) (hrow q hq)
 obtain ⟨F7,r1,r2⟩:=VN (fr:=fr) (cx:=cx) (ig fr jm h0 hs) rfl Qc hRR hL (fun q hq=>⟨hrow' q (hRs q hq),hid q (hRs q hq)⟩)
 have Qk:∀b∈aS Dx,b∈aS eU:=fun b hb=>by
  obtain ⟨q,hq,h⟩:=anR.1 hb
  exact anR.2 ⟨q,hRs q hq,h⟩
 have Gm:∀b∈aS qw,b∈aS eU:=fun b hb=>by
  obtain ⟨q,hq,h⟩:=anR.1 hb
  exact anR.2 ⟨q,XR q hq,h⟩
 have hsel:(aS Dx++aS qw).Nodup:=by
  have:=Dw pQ.2.1 hnd (l:=Dx++qw) (fun q hq=>(ann.1 hq).elim (hRs q) (XR q)) hall
  have e:aS (Dx++qw)=aS Dx++aS qw:=by simp [aS]
  rwa [e] at this
 obtain ⟨hnR,hnP,hRP⟩:=anl.1 hsel
 have hmF:∀b∈F1,Ow.mine (xY cx (aS eU)) w' b:=@Rel.fl (ig fr jm h0 hs) _ _ _ _ _ _ H1
 have Zm:∀b∈(J.loc (aA 0)).1 :: dR.fo (aA 0),Ow.mine (xY cx (aS eU)) w' b:=fun b hb=>Nw b (by rw [hblk1]; exact hb)
 have Vj:∀b,Ow.mine (xY cx (aS eU)) w' b->Ow.mine cx w' b:=fun b hb=>⟨hb.1,hb.2.imp (fun h=>h) (fun ⟨j,BZ,h1,h2⟩=>by
  obtain ⟨pi,h3,rfl⟩:=nQ h1
  exact ⟨j,pi,h3,(anw.1 h2).1⟩)⟩
 have Qg:∀b∈aS eU,Ow.mine cx w' b:=fun b hb=>by
  obtain ⟨m1,m2⟩:=K0.mine b (Gd b hb)
  exact ⟨by omega,m2⟩
 have afu:F7.flatten.Nodup:=r2.nodup_iff.2 (anl.2 ⟨hfn,hnR,fun b hb c hc ebc=>by subst ebc; exact hno b (Qk b hc) (hmF b (Nl b hb))⟩)
 have hFm:∀b∈F7.flatten,b∈bC.flatten\/b∈aS Dx:=fun b hb=>ann.1 (r2.mem_iff.1 hb)
 refine ⟨Aq (J.loc (aA 0)) (dR.hdr (aA 0)) (dR.fo (aA 0)++aS qw),F7, ?_,r1 _ _ _,afu⟩
 have CV:∀{r R},aQ (yR (nR R0.k y R0.own wt ht)) r R->r=aA 0/\R=nR R0.k y R0.own wt ht:=fun h=>qo h.1
 have I6:blk (Aq (J.loc (aA 0)) (dR.hdr (aA 0)) (dR.fo (aA 0)++aS qw)) (nR R0.k y R0.own wt ht) (aA 0)=(J.loc (aA 0)).1 :: (dR.fo (aA 0)++aS qw):=rfl
 have Mh:=aag
 rw [hblk1] at Mh
 have aft:=anN.1 Mh
 have hf1:=@Rel.frame (ig fr jm h0 hs) _ _ _ _ _ _ H1
 have hfd1:=@Rel.iY (ig fr jm h0 hs) _ _ _ _ _ _ H1
 have yf:∀b o,dY (Aq (J.loc (aA 0)) (dR.hdr (aA 0)) (dR.fo (aA 0)++aS qw)) (nR R0.k y R0.own wt ht) (aA 0)=some (b,o)->J.loc (aA 0)=(b,o):=fun b o h=>anP h
 have X4:R0.k.size=Q'.k.size:=hP.size.symm
 have Vn:∀j p ts v,cx.ptrs j p ts v->aA j=aA 0:=fun j p ts v h=>by
  obtain ⟨_,R,f1,_⟩:=H.vJ j p ts v h
  refine anC fun e=>?_
  rw [nT _ e] at f1
  simp at f1
 have hdf:=@Rel.defs (ig fr jm h0 hs) _ _ _ _ _ _ H1
 have hsz0:=@Rel.sz (ig fr jm h0 hs) _ _ _ _ _ _ H1
 have hsz1:cx.nt<=a1.tmps.size:=hsz0
 have aa4:=@Rel.uf (ig fr jm h0 hs) _ _ _ _ _ _ H1
 refine ⟨hdf,hsz1, ?_, ?_,fun s=>trivial,fun s=>trivial, ?_, ?_, ?_, ?_,afu, ?_, ?_, ?_, ?_, ?_, ?_⟩
 ·intro j pi b o n hj hb
  obtain ⟨R,f1,f2,f3,f4⟩:=H.mE j pi b o n hj hb
  obtain ⟨e1,rfl⟩:=OG _ R f1
  rw [e1] at f3 ⊢
  exact ⟨_,⟨tT,rfl⟩,rfl,f3,f4⟩
 ·intro r R hr _
  obtain ⟨rfl,rfl⟩:=CV hr
  exact ⟨j0,pi0,n0,p1,p2,p3⟩
 ·intro r R hr
  obtain ⟨rfl,rfl⟩:=CV hr
  refine ⟨fun _=>?_,by show (dR.hdr (aA 0)).length=R0.k.size; rw [TN,X4],fun b o hb=>?_, ?_,fun b hb=>?_⟩
  ·have o1 : @Ow (ig fr jm h0 hs) (hp w') R0.own (fun _=>False) Q'.k Q'.x (dR.hdr (aA 0)) (dR.fo (aA 0)):=by
    have hk1:∀t∈Q'.k.tys,az t Q'.own=true:=fun t ht=>hQo t (by rw [<-hQk]; exact ht)
    have hk2:∀t∈Q'.k.tys,az t R0.own=true:=fun t ht=>hown' t (by rw [<-hQk]; exact ht)
    exact @gI (ig fr jm h0 hs) _ _ _ _ _ _ _ _ (dH hk2) (@EH (ig fr jm h0 hs) _ _ _ _ _ _ _ _ (fun t ht=>by rw [hk1 t ht,hk2 t ht]) (aah hQv))
   have o2:=JL (fr:=fr) (ig fr jm h0 hs) hown hP o1 (fun q hq=>⟨hrow' q (XR q hq),hid q (XR q hq)⟩)
   exact gI (dH hown) o2
  ·have hbo:=yf b o hb
   obtain ⟨m1,arr,e',lo,hi,m2,m3,m4,m5⟩:=adF b o (by unfold dY; rw [q2]; simp [q3,hbo])
   exact ⟨m1,arr,e',lo,hi,m2,m3,by show o+R0.k.size<=_; rw [X4]; exact m4,fun t ht=>by simp [nR] at ht⟩
  ·rw [I6]
   refine anN.2 ⟨fun h=>?_,anl.2 ⟨aft.2,hnP,fun b hb c hc ebc=>by subst ebc; exact hno b (Gm b hc) (Zm b (anE _ hb))⟩⟩
   rcases ann.1 h with h | h
   ·exact aft.1 h
   ·exact hno _ (Gm _ h) (Zm _ anM)
  ·rw [I6] at hb
   rcases anq.1 hb with h | h
   ·exact Vj b (Zm b (by rw [h]; exact anM))
   ·rcases ann.1 h with h | h
    ·exact Vj b (Zm b (anE _ h))
    ·exact Qg b (Gm b h)
 ·intro r R hr
  obtain ⟨rfl,rfl⟩:=qo hr
  exact ⟨fun t ht=>by simp [nR] at ht,oz 0,fun n hn=>by simp [nR] at hn⟩
 ·intro r R r' R' hr hr' hne
  exact absurd ((CV hr).1.trans (CV hr').1.symm) hne
 ·intro b hb
  rcases hFm b hb with h | h
  ·exact Vj b (hmF b (Nl b h))
  ·exact Qg b (Qk b h)
 ·intro r R hr b hb Es
  obtain ⟨rfl,rfl⟩:=CV hr
  rw [I6] at hb
  have hc1:b∈(J.loc (aA 0)).1 :: dR.fo (aA 0)\/b∈aS qw:=by
   rcases anq.1 hb with h | h
   ·exact .inl (by rw [h]; exact anM)
   ·exact (ann.1 h).imp (fun h=>anE _ h) id
  rcases hc1 with h | h
  ·rcases hFm b Es with g | g
   ·exact hfd1 _ Q' hlv1 b (by rw [hblk1]; exact h) (Nl b g)
   ·exact hno b (Qk b g) (Zm b h)
  ·rcases hFm b Es with g | g
   ·exact hno b (Gm b h) (hmF b (Nl b g))
   ·exact hRP b g b h rfl
 ·obtain ⟨f1,f2,f3,f4,f5,f6⟩:=hf1
  refine ⟨f1,f2,f3,f4,fun b hb hnb=>f5 b hb (fun j BZ h1 h2=>?_),fun j pi b o n hj hb=>?_⟩
  ·obtain ⟨pi,h3,rfl⟩:=nQ h1
   exact hnb j pi h3 (anw.1 h2).1
  ·exact f6 j { pi with bl:=pi.bl.filter fun b=>!az b (aS eU) } b o n (by simp [xY,hj]) hb
 ·intro j pi hj hkp
  obtain ⟨R,f1,_⟩:=H.uf j pi hj hkp
  have ej:aA j=aA 0:=anC fun ne=>by rw [nT _ ne] at f1; simp at f1
  refine ⟨nR R0.k y R0.own wt ht,by rw [ej]; exact tT,fun _ b hb hnb=>?_⟩
  have hone:∀q Q,aQ (yR (nR R0.k y R0.own wt ht)) q Q->b∈blk (Aq (J.loc (aA 0)) (dR.hdr (aA 0)) (dR.fo (aA 0)++aS qw)) Q q->q=aA j:=fun q Q hq _=>by rw [(CV hq).1,ej]
  by_cases hbt:b∈aS eU
  ·by_cases hbR:b∈aS Dx
   ·obtain ⟨q,hq,h⟩:=anR.1 hbR
    obtain ⟨t,t1,_,t3⟩:=tN (hrow q (hRs q hq)) b h
    exact .inl ⟨t,by rw [hw0]; exact t3, .inl (hwk t t1)⟩
   ·refine .inr ⟨by rw [hw0]; exact hsame b hbt,fun hF=>?_,hone⟩
    rcases hFm b hF with g | g
    ·exact hno b hbt (hmF b (Nl b g))
    ·exact hbR g
  ·obtain ⟨R1,k1,k2⟩:=aa4 j { pi with bl:=pi.bl.filter fun b=>!az b (aS eU) } (by simp [xY,hj]) hkp
   have eR:R1=Q':=by rw [ej,hQ] at k1; exact (anP k1).symm
   subst eR
   rcases k2 hQv.1 b (anw.2 ⟨hb,by rw [aW.2 hbt]; rfl⟩) (fun h=>hnb (FN.1 h)) with ⟨t,t1,t2⟩ | ⟨t1,t2,_⟩
   ·exact .inl ⟨t,t1, .inl (t2.elim (kD.1 hwt.1 t) (kD.1 hwt.2 t))⟩
   ·refine .inr ⟨t1,fun hF=>?_,hone⟩
    rcases hFm b hF with g | g
    ·exact t2 (Nl b g)
    ·exact hbt (Qk b g)
 ·refine ⟨fun j pi hj b hb=>H.oI.1 j pi hj b hb,fun b hb=>H.oI.2.1 b hb,fun b hb=>H.oI.2.2 b hb⟩
 ·intro j p ts v hv
  have ej:=Vn j p ts v hv
  obtain ⟨g1,R,f1,f2⟩:=H.vJ j p ts v hv
  obtain ⟨k0,rfl⟩:=CW j p ts v hv
  refine ⟨g1,nR R0.k y R0.own wt ht,by rw [ej]; exact tT,fun hts=>?_⟩
  cases p with
  | cons s p=>exact absurd Vd (hts qh (by simp [eT]))
  | nil=>
   refine ⟨g1,fun R' hR' _ _ _ _=>?_⟩
   rw [ej] at hR'
   obtain ⟨_,rfl⟩:=qo hR'
   obtain ⟨_,cs,b,o,hn,ev⟩:=(f2 (fun t ht=>by simp [eT] at ht)).2 R0 (by rw [ej]; exact hR0.1) hv0 (by unfold eT clean; simp [az]) (fun t ht=>by simp [ah] at ht) rfl
   rw [ej] at hn
   simp only [bH,ane,anp] at hn
   refine ⟨trivial,dR.hdr (aA 0),b,o, ?_,ev⟩
   have h2:=hn.2
   unfold dY at h2
   rw [hpar] at h2
   rw [ej]
   simp only [bH]
   exact congrArg (fun z=>some (dR.hdr (aA 0),z)) h2
 ·intro j v hv
  obtain ⟨⟨R,f1⟩,f2⟩:=H.vK j v hv
  have ej:aA j=aA 0:=anC fun ne=>by rw [nT _ ne] at f1; simp at f1
  rw [ej] at f2
  have:=(f2 R0 hR0 hg0).1
  rw [hpar] at this
  simp at this
end
end
section
open Go
def fZ:List gq->Bool
 | []=>true
 | .val k [] :: l=>AX k && fZ l
 | .fn _ ks :: l=>ks.all AX && fZ l
 | _=>false
section
variable [Fr]
theorem sw:∀{ps:List gq} {i:Nat} {c:Cont (kin ps)},fZ ps=true->gX ps i c=[]
 | [],_,_,_=>rfl
 | .val k [] :: ps,i,c,h=>by
  simp only [fZ,ank] at h
  exact sw (ps:=ps) (i:=i+1) (c:=c.2) h.2
 | .fn f ks :: ps,i,c,h=>by
  simp only [fZ,ank] at h
  exact sw (ps:=ps) (i:=i+1) (c:=Cont.snd ks (kin ps) c) h.2
 | .val _ (_ :: _) :: _,_,_,h=>by simp [fZ] at h
 | .ro _ :: _,_,_,h=>by simp [fZ] at h
 | .rw _ _ _ _ :: _,_,_,h=>by simp [fZ] at h
 | .lI _ _ _ :: _,_,_,h=>by simp [fZ] at h
 | .own _ _ :: _,_,_,h=>by simp [fZ] at h
 | .into _ _ :: _,_,_,h=>by simp [fZ] at h
theorem P7 (i:Nat):∀{ks:List K} {c:Cont ks},ks.all AX=true->∀q∈kr.xR i ks c,AX q.2.1.1=true/\Ou q.2.2/\q.1=SENT
 | [],_,_,q,hq=>by simp [kr.xR] at hq
 | k :: ks,c,h,q,hq=>by
  simp only [List.all_cons,ank] at h
  simp only [kr.xR] at hq
  rcases anq.1 hq with rfl | hq
  ·exact ⟨h.1,fun t ht=>by simp only [anz] at ht; subst ht; exact jo i,rfl⟩
  ·exact P7 i h.2 q hq
theorem yt:∀{ps:List gq} {i:Nat} {c:Cont (kin ps)},fZ ps=true->∀s,Bq (ru (kr ps i c) s)
 | [],_,_,_,s=>trivial
 | .val k [] :: ps,i,c,h,s=>by
  simp only [fZ,ank] at h
  simp only [kr,ru]
  cases Nat.beq s i with
  | true=>
   refine ⟨h.1,fun t ht=>?_⟩
   cases hf:k.flat with
   | true=>rw [hf] at ht; simp at ht
   | false=>rw [hf] at ht; simp at ht; subst ht; exact jo i
  | false=>exact yt (ps:=ps) (i:=i+1) (c:=c.2) h.2 s
 | .fn f ks :: ps,i,c,h,s=>by
  simp only [fZ,ank] at h
  simp only [kr,ru]
  cases Nat.beq s i with
  | true=>exact P7 i h.1
  | false=>exact yt (ps:=ps) (i:=i+1) (c:=Cont.snd ks (kin ps) c) h.2 s
 | .val _ (_ :: _) :: _,_,_,h,_=>by simp [fZ] at h
 | .ro _ :: _,_,_,h,_=>by simp [fZ] at h
 | .rw _ _ _ _ :: _,_,_,h,_=>by simp [fZ] at h
 | .lI _ _ _ :: _,_,_,h,_=>by simp [fZ] at h
 | .own _ _ :: _,_,_,h,_=>by simp [fZ] at h
 | .into _ _ :: _,_,_,h,_=>by simp [fZ] at h
theorem Ce {Z:St}:∀{ps:List gq} {i:Nat} {c:Cont (lH ps)},fZ ps=true->Cv Z ps i c
 | [],_,_,_=>trivial
 | .val k [] :: ps,i,c,h=>by
  simp only [fZ,ank] at h
  exact Ce (ps:=ps) (i:=i+1) (c:=c) h.2
 | .fn f ks :: ps,i,c,h=>by
  simp only [fZ,ank] at h
  exact Ce (ps:=ps) (i:=i+1) (c:=c) h.2
 | .val _ (_ :: _) :: _,_,_,h=>by simp [fZ] at h
 | .ro _ :: _,_,_,h=>by simp [fZ] at h
 | .rw _ _ _ _ :: _,_,_,h=>by simp [fZ] at h
 | .lI _ _ _ :: _,_,_,h=>by simp [fZ] at h
 | .own _ _ :: _,_,_,h=>by simp [fZ] at h
 | .into _ _ :: _,_,_,h=>by simp [fZ] at h
theorem PV {e:TypeId} {kk:K} {z:Bool} {tb:Nat->List (El kk)} {k k1 k2:K} {x:El k} {y1:El k1} {y2:El k2} {ns:List Nat} (ek:k1=k2) (ey:y2=ek▸y1) (h:Rw e kk z tb k k2 x y2 ns):Rw e kk z tb k k1 x y1 ns:=by
 subst ek
 simp only at ey
 subst ey
 exact h
end
theorem Qu [fr:Fr] {e:TypeId} {kk:K} {P:Program} {n:Nat} {f:FuncId} {k k':K} {ow wt ht rE ht':List TypeId} {rest:List gq} {rs rs':List xJ}
  {F:Nat->Cont (kin (.rw k ow wt ht :: rest))->Option (Cont (iZ rs++lH (.rw k ow wt ht :: rest)))} {F':Nat->Cont (kin (.rw k' ow rE ht' :: rest))->Option (Cont (iZ rs'++lH (.rw k' ow rE ht' :: rest)))}
  (hrest:fZ rest=true) (hown:∀t∈k.tys,az t ow=true) (hown':∀t∈k'.tys,az t ow=true) (Qc:∀t∈(K.sl e kk).tys,az t ow=true)
  (hE:∀fr:Fr, @ak fr P n ⟨f, .rw k' ow rE ht' :: rest,rs',F'⟩) (hwt:mY rE wt=true) (hwk:∀t∈(K.sl e kk).tys,t∈wt) (Vd:qh∈ht)
  (hF:∀c out,F n c=some out->∃(x':El k') (ns ms1 ms2:List Nat) (tb:Nat->List (El kk)) (out':Cont (iZ rs'++lH (.rw k' ow rE ht' :: rest))),Rw e kk false tb k k' c.1 x' ns/\ns.Nodup/\0∉ns/\F' n (x',c.2)=some out'/\
   RwR e kk tb rs rs' (Cont.fst _ _ out) (Cont.fst _ _ out') ms1/\Rw e kk true tb k k' (Cont.snd _ _ out).1 (Cont.snd _ _ out').1 ms2/\(ms1++ms2).Nodup/\∀m∈ms1++ms2,m∈ns) :
  ak P n ⟨f, .rw k ow wt ht :: rest,rs,F⟩:=by
 intro c out hout cx J args w hnt hw hsz hP H
 obtain ⟨x',ns,ms1,ms2,tb,out',hR,hnd,hn0,hF',hRR,hRP,hmm,hsub⟩:=hF c out hout
 have ha:(k.tys.all fun t=>az t ow)=true:=anu.2 hown
 have ha':(k'.tys.all fun t=>az t ow)=true:=anu.2 hown'
 have Aw:∀r,(cK (.rw k ow wt ht :: rest) c).roots r=bif Nat.beq r (aA 0) then some (aK k c.1 ow [] .par true) else none:=fun r=>by
  show gZ (gX (.rw k ow wt ht :: rest) 0 c) r=_
  simp only [gX,sw hrest,gZ,ha,an0]
 have hR0:aQ (cK (.rw k ow wt ht :: rest) c) (aA 0) (aK k c.1 ow [] .par true):=⟨by rw [Aw]; simp,rfl⟩
 have nT:∀r,r≠aA 0->(cK (.rw k ow wt ht :: rest) c).roots r=none:=fun r hr=>by
  rw [Aw]
  have:Nat.beq r (aA 0)=false:=by
   cases hb:Nat.beq r (aA 0) with
   | true=>exact absurd (ani hb) hr
   | false=>rfl
  rw [this]; rfl
 have hsl:∀s,Bq ((cK (.rw k ow wt ht :: rest) c).slots s):=fun s=>by
  show Bq (ru (kr (.rw k ow wt ht :: rest) 0 c) s)
  simp only [kr,ru]
  cases Nat.beq s 0 with
  | true=>exact ⟨rfl,rfl,rfl⟩
  | false=>exact yt hrest s
 obtain ⟨eU,dO,jm,i0,is,g1,g2,g3,g4,U2⟩:=Sw H hw hR0 nT rfl rfl hown (Qc e (by simp [K.tys])) hsl (k':=k') (x':=x') hR hnd hn0 hown'
 have hst:au (cK (.rw k ow wt ht :: rest) c) (aA 0) { aK k c.1 ow [] .par true with k:=k',x:=x' }=cK (.rw k' ow rE ht' :: rest) (x',c.2):=by
  unfold au cK
  congr 1
  funext r
  show upd (cK (.rw k ow wt ht :: rest) c).roots (aA 0) _ r=gZ (gX (.rw k' ow rE ht' :: rest) 0 (x',c.2)) r
  simp only [gX,sw hrest,gZ,ha',an0]
  unfold upd
  cases hb:Nat.beq r (aA 0) with
  | true=>rfl
  | false=>simp only [an3]; rw [Aw,hb]; rfl
 rw [hst] at U2
 have hP':Cw (xY cx (aS eU)) (.rw k' ow rE ht' :: rest):=by
  refine ⟨fun j BZ hj hkp=>?_,fun j p ts v h=>h.elim,fun j v h=>h.elim⟩
  obtain ⟨pi,hj',rfl⟩:=nQ hj
  obtain ⟨k0,o1,o2,o3,h⟩:=hP.par j pi hj' hkp
  cases j with
  | zero=>exact ⟨k',ow,rE,ht', .inl rfl⟩
  | succ j=>exact ⟨k0,o1,o2,o3,by simpa using h⟩
 have h:=hE (ig fr jm i0 is) (x',c.2) out' hF' (xY cx (aS eU)) _ args w hnt hw hsz hP' U2
 have hpost:∀v w', @Post (ig fr jm i0 is) (xY cx (aS eU)) (.rw k' ow rE ht' :: rest) rs' out' v w'->@Post fr cx (.rw k ow wt ht :: rest) rs out v w':=by
  rintro v w' ⟨Z1,dR,F1,a1,vs,bC,H1,rfl,hL,hfn,Nl,hOut,_⟩
  obtain ⟨Q,q1,q2,⟨ek,ey⟩,q4,q5,_⟩:=hOut
  have hRQ:=PV ek ey hRP
  obtain ⟨Dx,t1,t2⟩:=select (eU:=eU) (ns:=ms1) (fun m hm=>by rw [g1]; exact hsub m (anj _ hm))
  obtain ⟨qw,t3,t4⟩:=select (eU:=eU) (ns:=ms2) (fun m hm=>by rw [g1]; exact hsub m (ang _ hm))
  have wR:=q5
  unfold Ah at wR
  simp only [ank] at wR
  obtain ⟨⟨⟨⟨l1,l2⟩,_⟩,_⟩,_⟩:=wR
  have htr:∀{l:List Nat},mY l rE=true->mY l wt=true:=fun hl=>kD.2 fun t ht=>kD.1 hwt t (kD.1 hl t ht)
  obtain ⟨yA,F7,r1,r2,r3⟩:=VM (fr:=fr) H hw hR0 nT rfl rfl ⟨rfl,rfl⟩ hown hown' Qc g2 (by rw [g1]; exact hnd) g3 g4 H1 q1 q2 ek (fun t ht=>by
    have:=anu.1 q4 t ht
    rw [hown' t ht] at this
    simpa using this) (wt:=wt) (ht:=ht) ⟨htr l1,htr l2⟩ hwk Vd (y:=(Cont.snd _ _ out).1) (qw:=qw) (by rw [t3]; exact hRQ) t4 (Dx:=Dx) t2 (by rw [t1]; exact hRR) hL hfn Nl
    (by rw [aon,t1,t3]; exact hmm) (fun j p ts v h=>by obtain ⟨k0,_,h⟩:=hP.ptr j p ts v h; exact ⟨k0,h⟩)
  refine ⟨_,yA,F7.flatten,a1,vs,F7,r1,rfl,r2,r3,fun b hb=>hb,⟨_,tT,⟨rfl,rfl⟩,⟨rfl,rfl⟩, ?_, ?_, .inl ha⟩,Ce hrest⟩
  ·exact anu.2 fun t _=>by simp [nR]; rfl
  ·unfold Ah nR
   simp only [mY,List.all_nil,ank,anu]
   exact ⟨⟨⟨⟨fun x hx=>aM.2 hx,trivial⟩,fun x hx=>aM.2 hx⟩,fun x hx=>aM.2 hx⟩,rfl⟩
 rcases h with ⟨h1,h2⟩ | ⟨v,w',h1,h2⟩
 ·refine .inl ⟨h1,h2.mono ?_⟩
  rintro e w' ⟨v,rfl,hv⟩
  exact ⟨v,rfl,hpost v w' hv⟩
 ·exact .inr ⟨v,w',h1,hpost v w' h2⟩
end
section
open Go
theorem EY {e:TypeId} {kk:K} {z:Bool} {tb:Nat->List (El kk)} {k k':K} {t:TypeId} {C:Type} (hsz:k'.size=k.size) (l:List C) (f:C->El k) (g:C->El k') (q:C->List Nat)
  (h:∀c∈l,Rw e kk z tb k k' (f c) (g c) (q c)):Rw e kk z tb (.sl t k) (.sl t k') (l.map f) (l.map g) (l.map q).flatten:=by
 unfold Rw
 refine ⟨rfl,hsz,by simp,l.map q,by simp,rfl,fun i h1 h2=>?_⟩
 have hi:i<l.length:=by simpa using h1
 have:=h l[i] (anI hi)
 simpa [anr,hi] using this
theorem pq {C:Type} (xs:List C):((xs.zipIdx 1).map (·.2)).Nodup/\0∉(xs.zipIdx 1).map (·.2):=by
 rw [List.zipIdx_map_snd]
 exact ⟨List.nodup_range',by simp⟩
theorem BR {C:Type} (xs:List C):(xs.zipIdx 1).map (·.1)=xs:=List.zipIdx_map_fst ..
theorem KF {C R:Type} {xs:List C} {m:C->R} {d:R} {x:C} {i:Nat} (h:(x,i)∈xs.zipIdx 1):((xs[i - 1]?).map m).getD d=m x/\i≠0:=by
 obtain ⟨h1,h2,h3⟩:=List.mem_zipIdx h
 have hi:i - 1<xs.length:=by omega
 exact ⟨by simp [hi,h3],by omega⟩
end
section
open Go
section
variable {e:TypeId} {kk:K} [fr:Fr]
variable {cx:Cx} {Z:St} {J:dP} {a:Act} {w:World}
def Hy (cx:Cx) (bad:List Nat):Cx:={ xY cx bad with refs:=cx.refs }
theorem LB {bad:List Nat} {Z':St} {J':dP} {F':List Nat}:∀{cs:List (TypeId×Dat×List Tag)} {vs:List Value},lD (xY cx bad) Z' J' F' w cs vs->lD (Hy cx bad) Z' J' F' w cs vs
 | [],[],_=>trivial
 | _ :: _,_ :: _,h=>⟨h.1,LB h.2⟩
 | [],_ :: _,h=>h.elim
 | _ :: _,[],h=>h.elim
theorem ZM {bad:List Nat} {Z':St} {J':dP} {F':List Nat} {x:AV} {v:Value} (h:bN (xY cx bad) Z' J' F' w x v):bN (Hy cx bad) Z' J' F' w x v:=by
 cases x with
 | fn f cs=>obtain ⟨vs,h1,h2⟩:=h; exact ⟨vs,h1,LB h2⟩
 | _=>exact h
theorem Uj {e1 e2:TypeId} {k1 k2:K} {v:Value} {cs:List Value} (h:VC (.sl e1 k1) v cs):VC (.sl e2 k2) v cs:=h
def mo (k:K) (x:El k) (ow wt ht:List TypeId):Root:={ k,x,own:=ow,tags:=[],w:=wt,h:=ht,g:=0,kind:=.anon,fixed:=true,keep:=true,ew:=[],eh:=ht }
theorem OP (H:Rel cx Z J [] a w) (hw0:cx.w0=w) {R0:Root} {e1:TypeId} {k1:K} (hk0:R0.k=.sl e1 k1) (hR0:aQ Z (aA 0) R0) (nT:∀r,r≠aA 0->Z.roots r=none) (Ag:R0.kind=.anon) (q9:R0.tags=[]) (hown:∀t∈R0.k.tys,az t R0.own=true) (he:az e R0.own=true)
  (hs0:Z.slots 0=.one (.ref (aA 0) 0)) (hsl:∀s,s≠0->Bq (Z.slots s)) {e2:TypeId} {k2:K} {x':El (.sl e2 k2)} {tb:Nat->List (El kk)} {ns:List Nat} (hR:Rw e kk false tb R0.k (.sl e2 k2) R0.x x' ns) (hnd:ns.Nodup) (hn0:0∉ns) (hown':∀t∈(K.sl e2 k2).tys,az t R0.own=true) (hg0:R0.g=0) :
  ∃(eU:List IE) (dO:List Nat) (jm:Nat->Value) (h0:jm 0=.slice none 0 0) (hs:∀i,∃a n c,jm i=.slice a n c),eU.map (·.1)=ns/\(J.fo (aA 0)).Perm (dO++aS eU)/\
   (∀q∈eU, @Ow fr (hp w) R0.own (fun _=>False) (.sl e kk) (tb q.1) [q.2.1] q.2.2)/\(∀q∈eU,jm q.1=q.2.1)/\
   @Rel (ig fr jm h0 hs) (Hy cx (aS eU)) (au Z (aA 0) { R0 with k:=.sl e2 k2,x:=x' }) (aG J (aA 0) (J.loc (aA 0)) (J.hdr (aA 0)) dO) [] a w:=by
 have KR:=H.roots _ R0 hR0
 have hv0:bB Z R0:=⟨hR0.2,by rw [q9]; rfl⟩
 have hO:Ow (hp w) R0.own (fun _=>False) R0.k R0.x (J.hdr (aA 0)) (J.fo (aA 0)):=gI (dH hown) (KR.ow hv0)
 obtain ⟨eU,dO,g1,g2,g3,g4⟩:=Le hown hR hO
 obtain ⟨jm,i1,i2,i3⟩:=OI (eU:=eU) (by rw [g1]; exact hnd) (by rw [g1]; exact hn0) (fun q hq=>QF he (g3 q hq))
 refine ⟨eU,dO,jm,i1,i2,g1,g2,g3,i3, ?_⟩
 have hblk:blk J R0 (aA 0)=J.fo (aA 0):=by unfold blk dY; rw [Ag]; rfl
 have hsub:∀b∈dO,b∈J.fo (aA 0):=fun b hb=>g2.mem_iff.2 (anj _ hb)
 have hbad:∀b∈aS eU,b∈J.fo (aA 0):=fun b hb=>g2.mem_iff.2 (ang _ hb)
 have L:Ac cx Z J R0 { R0 with k:=.sl e2 k2,x:=x' } dO (aS eU):=⟨fun r R hr=>by
  by_cases e:r=aA 0
  ·subst e; refine ⟨rfl, ?_⟩; have:=hr.1; rw [hR0.1] at this; exact (anP this).symm
  ·have:=hr.1; rw [nT r e] at this; simp at this,hR0,rfl,q9,hsub,hbad⟩
 have rJ:=KR.nd
 rw [hblk] at rJ
 have pQ:=anl.1 (g2.nodup rJ)
 have hlv:∀{q Q},aQ (au Z (aA 0) { R0 with k:=.sl e2 k2,x:=x' }) q Q->q=aA 0/\Q={ R0 with k:=.sl e2 k2,x:=x' }:=fun {q Q} hq=>by
  rcases jS hq with ⟨rfl,rfl,_⟩ | ⟨e,hq'⟩
  ·exact ⟨rfl,rfl⟩
  ·exact absurd (L.only q Q hq').1 e
 have hlv1:aQ (au Z (aA 0) { R0 with k:=.sl e2 k2,x:=x' }) (aA 0) { R0 with k:=.sl e2 k2,x:=x' }:=⟨aI ..,hR0.2⟩
 have hblk':blk (aG J (aA 0) (J.loc (aA 0)) (J.hdr (aA 0)) dO) { R0 with k:=.sl e2 k2,x:=x' } (aA 0)=dO:=by
  rw [fB]; unfold iX; simp only [Ag]; rfl
 have zZ:∀v,bN cx Z J [] w (.ref (aA 0) 0) v->@bN (ig fr jm i1 i2) (Hy cx (aS eU)) (au Z (aA 0) { R0 with k:=.sl e2 k2,x:=x' }) (aG J (aA 0) (J.loc (aA 0)) (J.hdr (aA 0)) dO) [] w (.ref (aA 0) 0) v:=by
  intro v hv Q hQ _
  obtain ⟨_,rfl⟩:=hlv hQ
  obtain ⟨h1,h2⟩:=hv R0 hR0 hg0
  refine ⟨Ag, ?_⟩
  rw [hk0] at h2
  simp only [aG,upd_same]
  exact Uj h2
 have U5:∀{x:wL} {v:Value},Bq x->@jG fr cx Z J [] w x v->@jG (ig fr jm i1 i2) (Hy cx (aS eU)) (au Z (aA 0) { R0 with k:=.sl e2 k2,x:=x' }) (aG J (aA 0) (J.loc (aA 0)) (J.hdr (aA 0)) dO) [] w x v:=fun hx h=>by
  have h1:=Ac.av (fr:=fr) (ig fr jm i1 i2) rfl L hx h
  rename_i x v
  cases x with
  | Hq l=>exact hx.elim
  | lit _ _ _=>exact hx.elim
  | one x=>exact @ZM (ig fr jm i1 i2) _ _ _ _ _ _ _ _ h1
 have ko:∀b∈dO,Ow.mine (Hy cx (aS eU)) w b:=fun b hb=>by
  obtain ⟨m1,m2⟩:=KR.mine b (by rw [hblk]; exact hsub b hb)
  refine ⟨m1, ?_⟩
  rcases m2 with m2 | ⟨j,pi,m2,m3⟩
  ·exact .inl m2
  ·refine .inr ⟨j,{ pi with bl:=pi.bl.filter fun b=>!az b (aS eU) },by simp [Hy,xY,m2],anw.2 ⟨m3, ?_⟩⟩
   have:az b (aS eU)=false:=by
    rw [aW]
    intro hm
    exact pQ.2.2 b hb b hm rfl
   rw [this]; rfl
 have Im:∀{j:Nat} {BZ:Q6},(Hy cx (aS eU)).par j=some BZ->∃pi,cx.par j=some pi/\BZ={ pi with bl:=pi.bl.filter fun b=>!az b (aS eU) }:=fun h=>nQ (cx:=cx) h
 have hpl:=H.oI
 refine @Rel.mk (ig fr jm i1 i2) _ _ _ _ _ _ H.defs H.sz ?_ ?_ ?_ ?_ ?_ ?_ ?_ (fun b hb=>by simp at hb) an4 (fun r R hr b hb h=>by simp at h) ?_ ?_ ?_ (fun j p ts v h=>h.elim) ?_
 ·intro j BZ b o n hj hb
  obtain ⟨pi,hj',rfl⟩:=Im hj
  obtain ⟨R,f1,f2,_⟩:=H.mE j pi b o n hj' hb
  obtain ⟨_,rfl⟩:=L.only _ R f1
  rw [Ag] at f2
  simp at f2
 ·intro r R hr hk
  obtain ⟨rfl,rfl⟩:=hlv hr
  have hk:R0.kind=.par:=hk
  rw [Ag] at hk
  simp at hk
 ·intro s
  show @jG (ig fr jm i1 i2) _ _ _ _ _ (Z.slots s) _
  by_cases h0:s=0
  ·subst h0
   have:=H.slots 0
   rw [hs0] at this ⊢
   exact zZ _ this
  ·exact U5 (hsl s h0) (H.slots s)
 ·intro s
  show wO _ (Z.slots s)
  by_cases h0:s=0
  ·subst h0
   rw [hs0]
   exact ⟨_,aI .., .inr (anO _)⟩
  have hs:=hsl s h0
  cases hx:Z.slots s with
  | Hq l=>rw [hx] at hs; exact hs.elim
  | lit _ _ _=>rw [hx] at hs; exact hs.elim
  | one x=>
   rw [hx] at hs
   cases x with
   | undef=>trivial
   | ptr r p n=>obtain ⟨rfl,rfl,rfl⟩:=hs; exact ⟨_,aI .., .inr (anO _)⟩
   | val k x T=>exact fun t ht=>.inl (hs.2 t ht)
   | fn f cs=>exact fun c hc t ht=>.inl ((hs c hc).2.1 t ht)
   | _=>exact hs.elim
 ·intro r R hr
  obtain ⟨rfl,rfl⟩:=hlv hr
  refine @uy.mk (ig fr jm i1 i2) _ _ _ _ _ _ _ (fun _=>?_) ?_ ?_ ?_ ?_
  ·have e1:(aG J (aA 0) (J.loc (aA 0)) (J.hdr (aA 0)) dO).hdr (aA 0)=J.hdr (aA 0):=by simp [aG,upd_same]
   have e2:(aG J (aA 0) (J.loc (aA 0)) (J.hdr (aA 0)) dO).fo (aA 0)=dO:=by simp [aG,upd_same]
   rw [e1,e2]
   exact @gI (ig fr jm i1 i2) _ _ _ _ _ _ _ _ (dH hown') (g4 (ig fr jm i1 i2) rfl i3)
  ·show ((aG J (aA 0) (J.loc (aA 0)) (J.hdr (aA 0)) dO).hdr (aA 0)).length=(K.sl e2 k2).size
   rw [hR.size]
   simpa [aG,upd_same] using KR.len
  ·intro b o hb
   rw [L.wh] at hb
   unfold dY at hb
   rw [Ag] at hb
   simp at hb
  ·rw [hblk']
   exact pQ.1
  ·intro b hb
   rw [hblk'] at hb
   exact ko b hb
 ·intro r R hr
  by_cases e:r=aA 0
  ·subst e
   rw [aI] at hr
   have hr:=anP hr
   subst hr
   exact ⟨fun t ht=>by rw [show ({ R0 with k:=.sl e2 k2,x:=x' }:Root).tags=R0.tags from rfl,q9] at ht; simp at ht,oz 0,fun n hn=>by rw [show ({ R0 with k:=.sl e2 k2,x:=x' }:Root).tags=R0.tags from rfl,q9] at hn; simp at hn⟩
  ·rw [bP _ _ e,nT r e] at hr; simp at hr
 ·intro r R r' R' hr hr' hne
  exact absurd ((hlv hr).1.trans (hlv hr').1.symm) hne
 ·obtain ⟨f1,f2,f3,f4,f5,f6⟩:=H.frame
  refine ⟨f1,f2,f3,f4,fun b _ _=>by show hp w b=hp cx.w0 b; rw [hw0],fun j BZ b o n hj hb=>?_⟩
  obtain ⟨pi,hj',rfl⟩:=Im hj
  exact f6 j pi b o n hj' hb
 ·intro j BZ hj hkp
  obtain ⟨pi,hj',rfl⟩:=Im hj
  obtain ⟨R,f1,f2⟩:=H.uf j pi hj' hkp
  by_cases e:aA j=aA 0
  ·refine ⟨_,by rw [e]; exact aI ..,fun _ b hb hnb=>.inr ⟨by show hp w b=hp cx.w0 b; rw [hw0],by simp,fun q Q hq _=>by rw [(hlv hq).1,e]⟩⟩
  ·rw [nT _ e] at f1; simp at f1
 ·refine ⟨fun j BZ hj b hb=>?_,fun b hb=>⟨?_,fun j BZ hj hbl=>?_⟩,fun b hb=>hpl.2.2 b hb⟩
  ·obtain ⟨pi,hj',rfl⟩:=Im hj
   exact hpl.1 j pi hj' b (anw.1 hb).1
  ·exact (hpl.2.1 b hb).1
  ·obtain ⟨pi,hj',rfl⟩:=Im hj
   exact (hpl.2.1 b hb).2 j pi hj' (anw.1 hbl).1
 ·intro j v hv
  have hv:cx.refs j v:=hv
  obtain ⟨⟨R,f1⟩,f2⟩:=H.vK j v hv
  have ej:aA j=aA 0:=anC fun ne=>by rw [nT _ ne] at f1; simp at f1
  rw [ej] at f2 ⊢
  exact ⟨⟨_,aI ..⟩,zZ v f2⟩
theorem Sv (H:Rel cx Z J [] a w) (hw0:cx.w0=w) {R0:Root} {e1:TypeId} {k1:K} (hk0:R0.k=.sl e1 k1) (hR0:aQ Z (aA 0) R0) (nT:∀r,r≠aA 0->Z.roots r=none) (Ag:R0.kind=.anon) (hg0:R0.g=0) (hv0:bB Z R0)
  (hown:∀t∈R0.k.tys,az t R0.own=true) {e2:TypeId} {k2:K} (hown':∀t∈(K.sl e2 k2).tys,az t R0.own=true) (Qc:∀t∈(K.sl e kk).tys,az t R0.own=true)
  {tb:Nat->List (El kk)} {eU:List IE} {dO:List Nat} {jm:Nat->Value} {h0:jm 0=.slice none 0 0} {hs:∀i,∃a n c,jm i=.slice a n c}
  (hperm:(J.fo (aA 0)).Perm (dO++aS eU)) (hnd:(eU.map (·.1)).Nodup) (hrow:∀q∈eU, @Ow fr (hp w) R0.own (fun _=>False) (.sl e kk) (tb q.1) [q.2.1] q.2.2) (hid:∀q∈eU,jm q.1=q.2.1)
  {Z1:St} {dR:dP} {F1:List Nat} {a1:Act} {w':World} (H1 : @Rel (ig fr jm h0 hs) (Hy cx (aS eU)) Z1 dR F1 a1 w') {Q:Root} (hQ:Z1.roots (aA 0)=some Q) (hQv:bB Z1 Q) (hQk:Q.k=.sl e2 k2) (hQo:∀t∈(K.sl e2 k2).tys,az t Q.own=true) (hQn:Q.kind=.anon) (hQg:Q.g=0)
  {wt:List TypeId} (hwt:mY Q.w wt=true/\mY Q.ew wt=true)
  {y:El R0.k} {qw:List IE} (hP:Rw e kk true tb R0.k Q.k y Q.x (qw.map (·.1))) (XR:∀q∈qw,q∈eU) (hall:(qw.map (·.1)).Nodup)
  (CW:∀j p ts v,cx.ptrs j p ts v->j=0->ts=eT p R0.k) :
  Rel cx (yR (mo R0.k y R0.own wt R0.k.tys)) (Aq (J.loc (aA 0)) (dR.hdr (aA 0)) (dR.fo (aA 0)++aS qw)) [] a1 w':=by
 have K0:=H.roots _ R0 hR0
 have hlv1:aQ Z1 (aA 0) Q:=⟨hQ,hQv.1⟩
 have K1:=@Rel.roots (ig fr jm h0 hs) _ _ _ _ _ _ H1 _ Q hlv1
 have aah:=@uy.ow (ig fr jm h0 hs) _ _ _ _ _ _ _ K1
 have TN:=@uy.len (ig fr jm h0 hs) _ _ _ _ _ _ _ K1
 have aag:=@uy.nd (ig fr jm h0 hs) _ _ _ _ _ _ _ K1
 have Nw:=@uy.mine (ig fr jm h0 hs) _ _ _ _ _ _ _ K1
 have OG:∀r R,aQ Z r R->r=aA 0/\R=R0:=fun r R hr=>by
  by_cases e:r=aA 0
  ·subst e; refine ⟨rfl, ?_⟩; have:=hr.1; rw [hR0.1] at this; exact (anP this).symm
  ·have:=hr.1; rw [nT r e] at this; simp at this
 have Mf:blk J R0 (aA 0)=J.fo (aA 0):=by unfold blk dY; rw [Ag]; rfl
 have hblk1:blk dR Q (aA 0)=dR.fo (aA 0):=by unfold blk dY; rw [hQn]; rfl
 have hsize:w.heap.size<=w'.heap.size:=by have:=(@Rel.frame (ig fr jm h0 hs) _ _ _ _ _ _ H1).2.2.2.1; simpa [Hy,xY,hw0] using this
 have rJ:=K0.nd
 rw [Mf] at rJ
 have pQ:=anl.1 (hperm.nodup rJ)
 have hbad:∀b∈aS eU,b∈J.fo (aA 0):=fun b hb=>hperm.mem_iff.2 (ang _ hb)
 have Gd:∀b∈aS eU,b∈blk J R0 (aA 0):=fun b hb=>by rw [Mf]; exact hbad b hb
 have Im:∀{j:Nat} {BZ:Q6},(Hy cx (aS eU)).par j=some BZ->∃pi,cx.par j=some pi/\BZ={ pi with bl:=pi.bl.filter fun b=>!az b (aS eU) }:=fun h=>nQ (cx:=cx) h
 have hno:∀b∈aS eU,¬Ow.mine (Hy cx (aS eU)) w' b:=fun b hb hm=>by
  have hlt:=(K0.mine b (Gd b hb)).1
  rcases hm.2 with h | ⟨j,BZ,h1,h2⟩
  ·have:w.heap.size<=b:=by simpa [Hy,xY,hw0] using h
   omega
  ·obtain ⟨pi,_,rfl⟩:=Im h1
   have:=(anw.1 h2).2
   rw [aM.2 hb] at this
   simp at this
 have hsame:∀b∈aS eU,hp w' b=hp w b:=fun b hb=>by
  have hlt:=(K0.mine b (Gd b hb)).1
  have:=(@Rel.frame (ig fr jm h0 hs) _ _ _ _ _ _ H1).2.2.2.2.1 b (by simpa [Hy,xY,hw0] using hlt) (fun j BZ h1 h2=>by
   obtain ⟨pi,_,rfl⟩:=Im h1
   have:=(anw.1 h2).2
   rw [aM.2 hb] at this
   simp at this)
  simpa [Hy,xY,hw0] using this
 have hrow':∀q∈eU, @Ow fr (hp w') R0.own (fun _=>False) (.sl e kk) (tb q.1) [q.2.1] q.2.2:=fun q hq=>
  bE (fun _ h=>h.elim) (fun _ h=>h) (fun b hb=>hsame b (anR.2 ⟨q,hq,hb⟩)) (hrow q hq)
 have Gm:∀b∈aS qw,b∈aS eU:=fun b hb=>by
  obtain ⟨q,hq,h⟩:=anR.1 hb
  exact anR.2 ⟨q,XR q hq,h⟩
 have hnP:(aS qw).Nodup:=Dw pQ.2.1 hnd (l:=qw) XR hall
 have Zm:∀b∈dR.fo (aA 0),Ow.mine (Hy cx (aS eU)) w' b:=fun b hb=>Nw b (by rw [hblk1]; exact hb)
 have Vj:∀b,Ow.mine (Hy cx (aS eU)) w' b->Ow.mine cx w' b:=fun b hb=>⟨hb.1,hb.2.imp (fun h=>h) (fun ⟨j,BZ,h1,h2⟩=>by
  obtain ⟨pi,h3,rfl⟩:=Im h1
  exact ⟨j,pi,h3,(anw.1 h2).1⟩)⟩
 have Qg:∀b∈aS eU,Ow.mine cx w' b:=fun b hb=>by
  obtain ⟨m1,m2⟩:=K0.mine b (Gd b hb)
  exact ⟨by omega,m2⟩
 have CV:∀{r R},aQ (yR (mo R0.k y R0.own wt R0.k.tys)) r R->r=aA 0/\R=mo R0.k y R0.own wt R0.k.tys:=fun h=>qo h.1
 have I6:blk (Aq (J.loc (aA 0)) (dR.hdr (aA 0)) (dR.fo (aA 0)++aS qw)) (mo R0.k y R0.own wt R0.k.tys) (aA 0)=dR.fo (aA 0)++aS qw:=rfl
 have Mh:=aag
 rw [hblk1] at Mh
 have hf1:=@Rel.frame (ig fr jm h0 hs) _ _ _ _ _ _ H1
 have X4:R0.k.size=Q.k.size:=hP.size.symm
 have Vn:∀j p ts v,cx.ptrs j p ts v->aA j=aA 0:=fun j p ts v h=>by
  obtain ⟨_,R,f1,_⟩:=H.vJ j p ts v h
  refine anC fun e=>?_
  rw [nT _ e] at f1
  simp at f1
 have hdf:=@Rel.defs (ig fr jm h0 hs) _ _ _ _ _ _ H1
 have hsz0:=@Rel.sz (ig fr jm h0 hs) _ _ _ _ _ _ H1
 have hsz1:cx.nt<=a1.tmps.size:=hsz0
 have aa4:=@Rel.uf (ig fr jm h0 hs) _ _ _ _ _ _ H1
 have ajS:=@Rel.vK (ig fr jm h0 hs) _ _ _ _ _ _ H1
 refine ⟨hdf,hsz1, ?_, ?_,fun s=>trivial,fun s=>trivial, ?_, ?_, ?_,fun b hb=>by simp at hb,an4,fun r R hr b hb h=>by simp at h, ?_, ?_, ?_, ?_, ?_⟩
 ·intro j pi b o n hj hb
  obtain ⟨R,f1,f2,_⟩:=H.mE j pi b o n hj hb
  obtain ⟨_,rfl⟩:=OG _ R f1
  rw [Ag] at f2
  simp at f2
 ·intro r R hr hk
  obtain ⟨rfl,rfl⟩:=CV hr
  simp [mo] at hk
 ·intro r R hr
  obtain ⟨rfl,rfl⟩:=CV hr
  refine ⟨fun _=>?_,by show (dR.hdr (aA 0)).length=R0.k.size; rw [TN,X4],fun b o hb=>by simp [dY,mo] at hb, ?_,fun b hb=>?_⟩
  ·have o1 : @Ow (ig fr jm h0 hs) (hp w') R0.own (fun _=>False) Q.k Q.x (dR.hdr (aA 0)) (dR.fo (aA 0)):=by
    have hk1:∀t∈Q.k.tys,az t Q.own=true:=fun t ht=>hQo t (by rw [<-hQk]; exact ht)
    have hk2:∀t∈Q.k.tys,az t R0.own=true:=fun t ht=>hown' t (by rw [<-hQk]; exact ht)
    exact @gI (ig fr jm h0 hs) _ _ _ _ _ _ _ _ (dH hk2) (@EH (ig fr jm h0 hs) _ _ _ _ _ _ _ _ (fun t ht=>by rw [hk1 t ht,hk2 t ht]) (aah hQv))
   have o2:=JL (fr:=fr) (ig fr jm h0 hs) hown hP o1 (fun q hq=>⟨hrow' q (XR q hq),hid q (XR q hq)⟩)
   exact gI (dH hown) o2
  ·rw [I6]
   exact anl.2 ⟨Mh,hnP,fun b hb c hc ebc=>by subst ebc; exact hno b (Gm b hc) (Zm b hb)⟩
  ·rw [I6] at hb
   rcases ann.1 hb with h | h
   ·exact Vj b (Zm b h)
   ·exact Qg b (Gm b h)
 ·intro r R hr
  obtain ⟨rfl,rfl⟩:=qo hr
  exact ⟨fun t ht=>by simp [mo] at ht,oz 0,fun n hn=>by simp [mo] at hn⟩
 ·intro r R r' R' hr hr' hne
  exact absurd ((CV hr).1.trans (CV hr').1.symm) hne
 ·obtain ⟨f1,f2,f3,f4,f5,f6⟩:=hf1
  refine ⟨f1,f2,f3,f4,fun b hb hnb=>f5 b hb (fun j BZ h1 h2=>?_),fun j pi b o n hj hb=>?_⟩
  ·obtain ⟨pi,h3,rfl⟩:=Im h1
   exact hnb j pi h3 (anw.1 h2).1
  ·exact f6 j { pi with bl:=pi.bl.filter fun b=>!az b (aS eU) } b o n (by simp [Hy,xY,hj]) hb
 ·intro j pi hj hkp
  obtain ⟨R,f1,_⟩:=H.uf j pi hj hkp
  have ej:aA j=aA 0:=anC fun ne=>by rw [nT _ ne] at f1; simp at f1
  refine ⟨mo R0.k y R0.own wt R0.k.tys,by rw [ej]; exact tT,fun _ b hb hnb=>?_⟩
  have hone:∀q Q,aQ (yR (mo R0.k y R0.own wt R0.k.tys)) q Q->b∈blk (Aq (J.loc (aA 0)) (dR.hdr (aA 0)) (dR.fo (aA 0)++aS qw)) Q q->q=aA j:=fun q Q hq _=>by rw [(CV hq).1,ej]
  by_cases hbt:b∈aS eU
  ·exact .inr ⟨by rw [hw0]; exact hsame b hbt,by simp,hone⟩
  ·obtain ⟨R1,q1,q2⟩:=aa4 j { pi with bl:=pi.bl.filter fun b=>!az b (aS eU) } (by simp [Hy,xY,hj]) hkp
   have eR:R1=Q:=by rw [ej,hQ] at q1; exact (anP q1).symm
   subst eR
   rcases q2 hQv.1 b (anw.2 ⟨hb,by rw [aW.2 hbt]; rfl⟩) (fun h=>hnb (FN.1 h)) with ⟨t,t1,t2⟩ | ⟨t1,t2,_⟩
   ·exact .inl ⟨t,t1, .inl (t2.elim (kD.1 hwt.1 t) (kD.1 hwt.2 t))⟩
   ·exact .inr ⟨t1,by simp,hone⟩
 ·refine ⟨fun j pi hj b hb=>H.oI.1 j pi hj b hb,fun b hb=>H.oI.2.1 b hb,fun b hb=>H.oI.2.2 b hb⟩
 ·intro j p ts v hv
  have ej:=Vn j p ts v hv
  have ej0:j=0:=by unfold aA at ej; omega
  obtain ⟨g1,R,f1,f2⟩:=H.vJ j p ts v hv
  have hts:=CW j p ts v hv ej0
  refine ⟨g1,mo R0.k y R0.own wt R0.k.tys,by rw [ej]; exact tT,fun hno'=>?_⟩
  refine ⟨g1,fun R' hR' _ _ _ hsome=>?_⟩
  rw [ej] at hR'
  obtain ⟨_,rfl⟩:=qo hR'
  have hsome:(aR p R0.k y).isSome=true:=hsome
  cases p with
  | nil=>
   have hRR:R=R0:=by rw [ej,hR0.1] at f1; exact (anP f1).symm
   obtain ⟨_,cs,b,o,hn,ev⟩:=(f2 (fun t ht=>by rw [hts] at ht; simp [eT] at ht)).2 R0 (by rw [ej]; exact hR0.1) hv0 (by unfold eT clean; simp [az]) (fun t ht=>by simp [ah] at ht) rfl
   rw [ej] at hn
   simp only [bH,ane,anp] at hn
   have h2:=hn.2
   unfold dY at h2
   rw [Ag] at h2
   simp at h2
  | cons s p=>
   cases s with
   | gu m=>
    rw [hk0] at hts
    have:aR (.gu m :: p) R0.k y=none:=by
     have hg:∀(k:K) (z:El k),k=.sl e1 k1->aR (.gu m :: p) k z=none:=by
      intro k z hk; subst hk; rfl
     exact hg _ y hk0
    rw [this] at hsome; simp at hsome
   | idx i=>
    exfalso
    refine hno' e1 ?_ ?_
    ·rw [hts,hk0]; simp [eT,ah]
    ·show e1∈R0.k.tys
     rw [hk0]; simp [K.tys]
 ·intro j v hv
  obtain ⟨⟨R,f1⟩,f2⟩:=H.vK j v hv
  have ej:aA j=aA 0:=anC fun ne=>by rw [nT _ ne] at f1; simp at f1
  obtain ⟨_,q2⟩:=ajS j v hv
  rw [ej] at q2 ⊢
  refine ⟨⟨_,tT⟩,fun R' hR' _=>?_⟩
  obtain ⟨_,rfl⟩:=CV hR'
  obtain ⟨z1,z2⟩:=q2 Q hlv1 hQg
  refine ⟨rfl, ?_⟩
  show VC R0.k v (dR.hdr (aA 0))
  rw [hk0]
  rw [hQk] at z2
  exact Uj z2
end
theorem VL [fr:Fr] {e e1 e2:TypeId} {kk k1 k2:K} {P:Program} {n:Nat} {f:FuncId} {ow wt rE:List TypeId} {rest:List gq}
  {F:Nat->Cont (kin (.lI (.sl e1 k1) ow wt :: rest))->Option (Cont (iZ [.into 0 []]++lH (.lI (.sl e1 k1) ow wt :: rest)))} {F':Nat->Cont (kin (.lI (.sl e2 k2) ow rE :: rest))->Option (Cont (iZ [.into 0 []]++lH (.lI (.sl e2 k2) ow rE :: rest)))}
  (hrest:fZ rest=true) (hown:∀t∈(K.sl e1 k1).tys,az t ow=true) (hown':∀t∈(K.sl e2 k2).tys,az t ow=true) (Qc:∀t∈(K.sl e kk).tys,az t ow=true)
  (hE:∀fr:Fr, @ak fr P n ⟨f, .lI (.sl e2 k2) ow rE :: rest,[.into 0 []],F'⟩) (hwt:mY rE wt=true)
  (hF:∀c out,F n c=some out->∃(x':El (.sl e2 k2)) (ns ms:List Nat) (tb:Nat->List (El kk)) (out':Cont (iZ [.into 0 []]++lH (.lI (.sl e2 k2) ow rE :: rest))),Rw e kk false tb (.sl e1 k1) (.sl e2 k2) c.1 x' ns/\ns.Nodup/\0∉ns/\F' n (x',c.2)=some out'/\
   (show Int from out.1)=(show Int from out'.1)/\Rw e kk true tb (.sl e1 k1) (.sl e2 k2) out.2.1 out'.2.1 ms/\ms.Nodup/\∀m∈ms,m∈ns) :
  ak P n ⟨f, .lI (.sl e1 k1) ow wt :: rest,[.into 0 []],F⟩:=by
 intro c out hout cx J args w hnt hw hsz hP H
 obtain ⟨x',ns,ms,tb,out',hR,hnd,hn0,hF',hRI,hRP,hmm,hsub⟩:=hF c out hout
 have ha:((K.sl e1 k1).tys.all fun t=>az t ow)=true:=anu.2 hown
 have ha':((K.sl e2 k2).tys.all fun t=>az t ow)=true:=anu.2 hown'
 have Aw:∀r,(cK (.lI (.sl e1 k1) ow wt :: rest) c).roots r=bif Nat.beq r (aA 0) then some { aK (.sl e1 k1) c.1 ow [] .anon true with fixed:=true } else none:=fun r=>by
  show gZ (gX (.lI (.sl e1 k1) ow wt :: rest) 0 c) r=_
  simp only [gX,sw hrest,gZ,ha,an0]
  rfl
 have hR0:aQ (cK (.lI (.sl e1 k1) ow wt :: rest) c) (aA 0) { aK (.sl e1 k1) c.1 ow [] .anon true with fixed:=true }:=⟨by rw [Aw]; simp,rfl⟩
 have nT:∀r,r≠aA 0->(cK (.lI (.sl e1 k1) ow wt :: rest) c).roots r=none:=fun r hr=>by
  rw [Aw]
  have:Nat.beq r (aA 0)=false:=by
   cases hb:Nat.beq r (aA 0) with
   | true=>exact absurd (ani hb) hr
   | false=>rfl
  rw [this]; rfl
 have hs0:(cK (.lI (.sl e1 k1) ow wt :: rest) c).slots 0=.one (.ref (aA 0) 0):=rfl
 have hsl:∀s,s≠0->Bq ((cK (.lI (.sl e1 k1) ow wt :: rest) c).slots s):=fun s hs=>by
  show Bq (ru (kr (.lI (.sl e1 k1) ow wt :: rest) 0 c) s)
  simp only [kr,ru]
  cases hb:Nat.beq s 0 with
  | true=>exact absurd (ani hb) hs
  | false=>exact yt hrest s
 obtain ⟨eU,dO,jm,i0,is,g1,g2,g3,g4,U2⟩:=OP H hw (R0:={ aK (.sl e1 k1) c.1 ow [] .anon true with fixed:=true }) rfl hR0 nT rfl rfl hown (Qc e (by simp [K.tys])) hs0 hsl (x':=x') hR hnd hn0 hown' rfl
 have hst:au (cK (.lI (.sl e1 k1) ow wt :: rest) c) (aA 0) { ({ aK (.sl e1 k1) c.1 ow [] .anon true with fixed:=true }:Root) with k:=.sl e2 k2,x:=x' }=cK (.lI (.sl e2 k2) ow rE :: rest) (x',c.2):=by
  unfold au cK
  congr 1
  funext r
  show upd (cK (.lI (.sl e1 k1) ow wt :: rest) c).roots (aA 0) _ r=gZ (gX (.lI (.sl e2 k2) ow rE :: rest) 0 (x',c.2)) r
  simp only [gX,sw hrest,gZ,ha',an0]
  unfold upd
  cases hb:Nat.beq r (aA 0) with
  | true=>rfl
  | false=>simp only [an3]; rw [Aw,hb]; rfl
 rw [hst] at U2
 have Qf:∀j,(∃k,wN (.lI (.sl e1 k1) ow wt :: rest) j k)->∃k,wN (.lI (.sl e2 k2) ow rE :: rest) j k:=by
  rintro j ⟨k0,o1,o2,o3,h⟩
  cases j with
  | zero=>exact ⟨.sl e2 k2,ow,rE,[], .inr rfl⟩
  | succ j=>exact ⟨k0,o1,o2,o3,by simpa using h⟩
 have hP':Cw (Hy cx (aS eU)) (.lI (.sl e2 k2) ow rE :: rest):=by
  refine ⟨fun j BZ hj hkp=>?_,fun j p ts v h=>h.elim,fun j v h=>Qf j (hP.ref j v h)⟩
  obtain ⟨pi,hj',rfl⟩:=nQ (cx:=cx) hj
  exact Qf j (hP.par j pi hj' hkp)
 have h:=hE (ig fr jm i0 is) (x',c.2) out' hF' (Hy cx (aS eU)) _ args w hnt hw hsz hP' U2
 have hpost:∀v w', @Post (ig fr jm i0 is) (Hy cx (aS eU)) (.lI (.sl e2 k2) ow rE :: rest) [.into 0 []] out' v w'->@Post fr cx (.lI (.sl e1 k1) ow wt :: rest) [.into 0 []] out v w':=by
  rintro v w' ⟨Z1,dR,F1,a1,vs,bC,H1,rfl,hL,hfn,Nl,hOut,_⟩
  obtain ⟨Q,q1,q2,⟨ek,ey⟩,q4,q5,_⟩:=hOut
  have hRQ:=PV ek ey hRP
  obtain ⟨qw,t3,t4⟩:=select (eU:=eU) (ns:=ms) (fun m hm=>by rw [g1]; exact hsub m hm)
  have wR:=q5
  unfold Ah at wR
  simp only [ank] at wR
  obtain ⟨⟨⟨⟨l1,l2⟩,_⟩,_⟩,l5⟩:=wR
  have hg0:Q.g=0:=ani l5
  have htr:∀{l:List Nat},mY l rE=true->mY l wt=true:=fun hl=>kD.2 fun t ht=>kD.1 hwt t (kD.1 hl t ht)
  cases vs with
  | nil=>exact hL.elim
  | cons v vs=>
   cases bC with
   | nil=>exact hL.elim
   | cons fo bC=>
    obtain ⟨⟨rfl,_,b,m,cp,e3,e4,e5⟩,hL2⟩:=hL
    cases vs with
    | cons _ _=>cases bC <;> exact hL2.elim
    | nil=>
     cases bC with
     | cons _ _=>exact hL2.elim
     | nil=>
      obtain ⟨hQn,hQV⟩:=e5 Q ⟨q1,q2.1⟩ hg0
      have r1:=Sv (fr:=fr) H hw (R0:={ aK (.sl e1 k1) c.1 ow [] .anon true with fixed:=true }) rfl hR0 nT rfl rfl ⟨rfl,rfl⟩ hown hown' Qc g2 (by rw [g1]; exact hnd) g3 g4 H1 q1 q2 ek (fun t ht=>by
        have:=anu.1 q4 t ht
        rw [hown' t ht] at this
        simpa using this) hQn hg0 (wt:=wt) ⟨htr l1,htr l2⟩ (y:=out.2.1) (qw:=qw) (by rw [t3]; exact hRQ) t4 (by rw [t3]; exact hmm) (fun j p ts v h hj=>by
         obtain ⟨k0,⟨o1,o2,o3,h1⟩,h2⟩:=hP.ptr j p ts v h
         subst hj
         rcases h1 with h1 | h1
         ·simp at h1
         ·simp only [anU,ane,gq.lI.injEq] at h1
          rw [h2, <-h1.1]; rfl)
      refine ⟨_,_,[],a1,[v],[[]],r1,rfl,⟨⟨rfl,rfl,b,m,cp, ?_, ?_, ?_⟩,trivial⟩,by simp,by simp,⟨_,tT,⟨rfl,rfl⟩,⟨rfl,rfl⟩, ?_, ?_, .inl ha⟩,Ce hrest⟩
      ·have hI:(show Int from (Cont.fst (iZ [xJ.into 0 []]) _ out).1)=(show Int from (Cont.fst (iZ [xJ.into 0 []]) _ out').1):=hRI
       rw [hI]; exact e3
      ·have hI:(show Int from (Cont.fst (iZ [xJ.into 0 []]) _ out).1)=(show Int from (Cont.fst (iZ [xJ.into 0 []]) _ out').1):=hRI
       rw [hI]; exact e4
      ·intro R' hR' _
       obtain ⟨_,rfl⟩:=qo hR'.1
       refine ⟨rfl, ?_⟩
       have ek:Q.k=.sl e2 k2:=ek
       rw [ek] at hQV
       exact Uj hQV
      ·exact anu.2 fun t _=>by simp [mo]; rfl
      ·unfold Ah mo
       simp only [mY,List.all_nil,ank,anu]
       exact ⟨⟨⟨⟨fun x hx=>aM.2 hx,trivial⟩,fun x hx=>aM.2 hx⟩,fun x hx=>aM.2 hx⟩,rfl⟩
 rcases h with ⟨h1,h2⟩ | ⟨v,w',h1,h2⟩
 ·refine .inl ⟨h1,h2.mono ?_⟩
  rintro e w' ⟨v,rfl,hv⟩
  exact ⟨v,rfl,hpost v w' hv⟩
 ·exact .inr ⟨v,w',h1,hpost v w' h2⟩
end
end Go.Proofs.YtailcbngagacaaaGreat.Ow
