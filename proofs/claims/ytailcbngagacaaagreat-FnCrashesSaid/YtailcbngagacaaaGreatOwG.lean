/- A verified reading of translated code, part G of 7. No condition. -/
import Derived.Test.YtailcbngagacaaaGreatOwF
import Derived.Conc.MuLone
import Derived.ChangeArms
import Derived.ChangeReads
import Derived.ChangeOld
import Derived.ChangeSame
import Derived.DataShut
set_option linter.unusedSectionVars false
set_option linter.unusedVariables false
set_option linter.unusedSimpArgs false
namespace Go.Proofs.YtailcbngagacaaaGreat.Ow
section
open Go
variable [Fr]
def FP (a:Act):ResultVar->Sem Value
 | .tmp t=>pure (a.tmps.getD t undef)
 | .cell x t=>do loadVar t (<-asAddr (a.tmps.getD x undef))
section
variable {P:Program} {T:bH} {cx:Cx} {Z:St} {J:aH} {F:List Nat} {a:Act} {w:World} {A:Type} {z:A}
theorem al8 (hT:fJ P T) (H:Rel cx Z J F a w) {t:TypeId} {x:AV} {v:Value} {dZ:Bool} {k:AV->Prog A} (h1:aW cx Z J F w x v) (h2:dQ Z x) (h:(yA T dZ t x k).ends Z z) :
  ∃y u,(do loadVar t (<-asAddr v):Sem Value).run P w=.ok u w/\aW cx Z J F w y u/\dQ Z y/\(k y).ends Z z:=by
 have Jc:∀{b o:Nat} {u:Value},(Instr.loadAt t (.pointer (some ⟨b,o,none⟩))).run P w=.ok u w->v=.pointer (some ⟨b,o,none⟩)->(do loadVar t (<-asAddr v):Sem Value).run P w=.ok u w:=by
  intro b o u h e
  subst e
  exact h
 unfold yA at h
 split at h
 ·exact h.elim
 ·rename_i kk hty
  have ht:=hT.ty t kk hty
  obtain ⟨s1,s2,s3⟩:=ht.shape
  split at h
  ·rename_i r g k0 p
   obtain ⟨u,b,off,k1,e,hq,hC,ho1,hR⟩:=h1
   obtain ⟨R,hr,hv,h⟩:=iQ h
   rcases bD h with ⟨hc,h⟩ | ⟨_,h⟩
   ·simp only [bg] at hc
    cases hg:aB p R.k R.x with
    | none=>rw [hg] at h; exact h.elim
    | some dd=>
     rw [hg] at h
     simp only at h
     obtain ⟨dk,dx⟩:=dd
     rcases beq_true h with ⟨ek,h5⟩ | ⟨_,h⟩
     ·simp only at ek
      subst ek
      have hk0:=K.eq_of_beq hc.1.2
      subst hk0
      obtain ⟨hka,kF⟩:=hR R hr (bC hc.1.1)
      rw [kF.cells] at hC
      have hwn:aK J R r=none:=by unfold aK; rw [hka]
      obtain ⟨g1,g2,g3,g4,g5⟩:=YJ (h:=hp w) p hg ho1 (H.roots r R hr).len
      simp only at g1
      subst g1
      have hown:∀t∈az p R.k,aa t R.own=true:=fun t ht=>by rw [g5] at ht; simp at ht
      have hn:aT (hp w) p R.k (J.hdr r) (aK J R r)=some (((J.hdr r).drop off).take k1.size,none):=by rw [hwn]; exact g3
      obtain ⟨aX,hO,hf⟩:=wo H hr hv hg g4 hown hn
      have hV:=vZ H hr hO hf
      have hcs:Cells (hp w) b off (((J.hdr r).drop off).take k1.size):=by
       intro i hi
       have hi':i<k1.size:=by rw [Oj g2] at hi; exact hi
       have:=hC (off+i) (by omega)
       rw [om] at this
       rw [this,Mc hi',Bw]
      obtain ⟨u',hu⟩:=VC.mk s1 s2 s3 hV
      have hrun:=FV (P:=P) ht hcs (nO hV) hu
      rcases bD h5 with ⟨hf,h6⟩ | ⟨_,h6⟩
      ·exact ⟨.val k1 dx [],u',Jc hrun e,fun _=>⟨_,hu,ni hf hV⟩,(fun t ht=>by simp at ht),h6⟩
      ·exact ⟨.dZ r p R.dL,u',Jc hrun e,Io (cx:=cx) (F:=F) hr hg g4 hown hn hu,⟨R,hr.1, .inr (bN _)⟩,h6⟩
     ·exact h.elim
   ·exact h.elim
  rcases MC H h1 h2 h with ⟨r,R,p,dd,cs,b,q,hr,hv,hg,dh,hown,hn,e,h⟩ | ⟨bt,dd,Tg,b,q,cs,hw,e,hcs,hV,hok,hb,h⟩
  ·obtain ⟨hC,⟨aX,hO,hf⟩,_⟩:=xy H hr hv hg dh hown hn
   obtain ⟨dk,dx⟩:=dd
   rcases beq_true h with ⟨ek,h5⟩ | ⟨_,h⟩
   ·simp only at ek
    subst ek
    clear h
    have h:=h5
    clear h5
    have hV:=vZ H hr hO hf
    obtain ⟨u,hu⟩:=VC.mk s1 s2 s3 hV
    have hrun:=FV (P:=P) ht hC (nO hV) hu
    rcases bD h with ⟨_,h⟩ | ⟨_,h⟩
    ·exact ⟨.dZ r p R.dL,u,Jc hrun e,Io (cx:=cx) (F:=F) hr hg dh hown hn hu,⟨R,hr.1, .inr (bN _)⟩,h⟩
    ·exact ⟨_,u,Jc hrun e,(show aW cx Z J F w (.val dk dx _) u from fun _=>⟨cs,hu,hV⟩),FJ H hr _,h⟩
   ·exact h.elim
  ·obtain ⟨dk,dx⟩:=dd
   rcases beq_true h with ⟨ek,h5⟩ | ⟨_,h⟩
   ·simp only at ek
    subst ek
    clear h
    have h:=h5
    clear h5
    obtain ⟨u,hu⟩:=VC.mk s1 s2 s3 hV
    have hrun:=FV (P:=P) ht hcs (nO hV) hu
    refine ⟨_,u,Jc hrun e,(show aW cx Z J F w (.val dk dx _) u from fun _=>⟨cs,hu, ?_⟩), ?_,h⟩
    ·cases hf:dk.flat with
     | true=>exact ni hf hV
     | false=>exact hV
    ·cases hf:dk.flat with
     | true=>intro t ht; simp at ht
     | false=>exact hw
   ·exact h.elim
theorem N9 (hT:fJ P T) (H:Rel cx Z J F a w) {own:Bool} {rv:ResultVar} {k:AV->Prog A} (h:(Db T own rv k).ends Z z):∃y u,(FP a rv).run P w=.ok u w/\aW cx Z J F w y u/\dQ Z y/\(k y).ends Z z:=by
 cases rv with
 | tmp t=>
  obtain ⟨v,h1,h2,h3⟩:=jT H h
  exact ⟨v,_,rfl,h1,h2,h3⟩
 | cell t ty=>
  obtain ⟨v,h1,h2,h3⟩:=jT H h
  exact al8 hT H h1 h2 h3
def Bl (P:Program) (cx:Cx) (Z:St) (J:aH) (F:List Nat) (a:Act) (w:World):(rs:List gN)->List ResultVar->Cont (eO rs)->List Value->List (Value×eU)->List (List Tag)->Prop
 | [],[],_,[],[],[]=>True
 | .val k exts bE :: rs,rv :: gL,c,v :: vs,its,tg :: kr=>((FP a rv).run P w=.ok v w/\(k.flat=true\/rH exts bE tg=true)/\xW cx Z J F a w k c.1 tg v)/\Bl P cx Z J F a w rs gL c.2 vs its kr
 | .own k ow exts bE :: rs,rv :: gL,c,v :: vs,it :: its,kr=>((FP a rv).run P w=.ok v w/\it.1=v/\rX cx Z J F w v it.2/\(∃e:it.2.k=k,c.1=e▸it.2.x)/\iK (k.tys.filter fun t=>aa t ow) it.2.own=true/\
   ((k.tys.all fun t=>aa t ow)=true\/rH exts bE it.2.tags=true))/\Bl P cx Z J F a w rs gL c.2 vs its kr
 | _,_,_,_,_,_=>False
theorem ai5 (hT:fJ P T) (H:Rel cx Z J F a w):∀{rs:List gN} {gL:List ResultVar} {k:Cont (eO rs)->List eU->List (List Tag)->Prog A},(zR T rs gL k).ends Z z->
  ∃c vs its kr,Bl P cx Z J F a w rs gL c vs its kr/\(k c (its.map (·.2)) kr).ends Z z:=by
 intro rs
 induction rs with
 | nil=>
  intro gL k h
  cases gL with
  | nil=>exact ⟨(),[],[],[],trivial,h⟩
  | cons _ _=>exact h.elim
 | cons r rs ih=>
  intro gL k h
  cases gL with
  | nil=>cases r <;> exact h.elim
  | cons rv gL=>
   cases r with
   | into _ _=>exact h.elim
   | ptr _ _ _ _=>exact h.elim
   | val kk exts bE=>
    simp only [zR] at h
    obtain ⟨y,u,g1,g2,g3,h⟩:=N9 hT H h
    have hgo:∀(x:El kk) (tags:List Tag),xW cx Z J F a w kk x tags u->(bif kk.flat || rH exts bE tags then zR T rs gL fun c ts tg=>k (x,c) ts (tags :: tg) else .fail).ends Z z->
      ∃c vs its kr,Bl P cx Z J F a w (.val kk exts bE :: rs) (rv :: gL) c vs its kr/\(k c (its.map (·.2)) kr).ends Z z:=by
     intro x tags hv h
     rcases bD h with ⟨hb,h⟩ | ⟨_,h⟩
     ·obtain ⟨c,vs,its,kr,f1,f2⟩:=ih h
      exact ⟨(x,c),u :: vs,its,tags :: kr,⟨⟨g1,by simpa using hb,hv⟩,f1⟩,f2⟩
     ·exact h.elim
    have hval:(qw y fun k' x tags=>match bU k' kk x with
      | some y=>(bif kk.flat || rH exts bE (bif kk.flat then [] else tags) then zR T rs gL fun c ts tg=>k (y,c) ts ((bif kk.flat then [] else tags) :: tg) else .fail)
      | none=>.fail).ends Z z->∃c vs its kr,Bl P cx Z J F a w (.val kk exts bE :: rs) (rv :: gL) c vs its kr/\(k c (its.map (·.2)) kr).ends Z z:=by
     intro h
     obtain ⟨k',x,Tg,f1,f5⟩:=XL H g2 g3 h
     cases hc:bU k' kk x with
     | none=>rw [hc] at f5; exact f5.elim
     | some y'=>
      rw [hc] at f5
      obtain ⟨ek,ey⟩:=jl hc
      subst ek
      simp only at ey
      subst ey
      cases hf:k'.flat with
      | true=>
       rw [hf] at f5
       exact hgo _ _ (f1.flat hf H) (by rw [hf]; exact f5)
      | false=>
       rw [hf] at f5
       exact hgo _ _ f1 (by rw [hf]; exact f5)
    cases y with
    | fG=>
     cases kk with
     | sl e kk=>
      obtain ⟨b,rfl⟩:=g2
      exact hgo [] [] ⟨[.slice b 0 0],J3,fun _ _ _ _=>⟨b,0,0,rfl,rfl,bN _,fun h=>by omega⟩⟩ h
     | _=>exact h.elim
    | undef=>exact hval h
    | val _ _ _=>exact hval h
    | ref _ _=>exact hval h
    | dZ _ _ _=>exact hval h
    | ptr _ _ _=>exact hval h
    | fQ _ _ _ _=>exact hval h
    | lZ _ _ _ _=>exact hval h
    | pz _=>exact hval h
    | part _ _ _ _ _=>exact hval h
    | nI _ _ _ _=>exact hval h
    | sub _ _ _ _ _ _=>exact hval h
    | sel _ _ _ _ _ _=>exact hval h
    | app _ _ _ _=>exact hval h
    | kG=>exact hval h
    | fn _ _=>exact hval h
   | own kk ow exts bE=>
    simp only [zR] at h
    obtain ⟨y,u,g1,g2,g3,h⟩:=N9 hT H h
    obtain ⟨tk,htk,h⟩:=Ap H g2 g3 h
    cases hc:bU tk.k kk tk.x with
    | none=>rw [hc] at h; exact h.elim
    | some y'=>
     rw [hc] at h
     rcases bD h with ⟨hb,h⟩ | ⟨_,h⟩
     ·simp only [bg,nZ] at hb
      obtain ⟨c,vs,its,kr,f1,f2⟩:=ih h
      exact ⟨(y',c),u :: vs,(u,tk) :: its,kr,⟨⟨g1,rfl,htk,jl hc,hb.1,hb.2⟩,f1⟩,f2⟩
     ·exact h.elim
theorem ai6 {Z1:St} {aI:aH} {F1:List Nat} (H1:Rel cx Z1 aI F1 a w) (hV:Views cx Z J F w Z1 aI F1 w):∀{rs:List gN} {gL:List ResultVar} {c:Cont (eO rs)} {vs:List Value} {its:List (Value×eU)} {kr:List (List Tag)} {hs:List (List Value×List Nat)},
  Bl P cx Z J F a w rs gL c vs its kr->vg cx Z1 aI F1 w its hs->(∀t∈kr.flatten,Same Z J Z1 aI t.1)->
  ∃ay,vC cx Z1 aI F1 w rs c vs ay/\ay.flatten=hs.flatMap (·.2)/\(∀b∈ay.flatten,b∈F1)/\(gL.mapM (FP a)).run P w=.ok vs w:=by
 intro rs
 induction rs with
 | nil=>
  intro gL c vs its kr hs h hh _
  cases gL <;> cases vs <;> cases its <;> cases kr <;> first | exact h.elim | skip
  cases hs with
  | nil=>exact ⟨[],trivial,rfl,by simp,by simp⟩
  | cons _ _=>exact hh.elim
 | cons r rs ih=>
  intro gL c vs its kr hs h hh hS
  cases r with
  | into _ _=>cases gL <;> cases vs <;> exact h.elim
  | ptr _ _ _ _=>cases gL <;> cases vs <;> exact h.elim
  | val kk exts bE=>
   cases gL <;> cases vs <;> cases kr <;> first | exact h.elim | skip
   rename_i rv gL v vs tg kr
   obtain ⟨⟨h1,h2,cs,h3,h4⟩,h5⟩:=h
   obtain ⟨ay,f1,f2,f3,f4⟩:=ih h5 hh (fun t ht=>hS t (by simp only [lV,bW]; exact .inr ht))
   refine ⟨[] :: ay,⟨⟨rfl,tg,cs,h2,h3,h4 Z1 aI F1 ⟨H1,hV,fun t ht=>hS t (by simp only [lV,bW]; exact .inl ht)⟩⟩,f1⟩,by simpa using f2,by simpa using f3, ?_⟩
   simp [Me,h1,f4,Result.andThen]
  | own kk ow exts bE=>
   cases gL <;> cases vs <;> cases its <;> first | exact h.elim | skip
   rename_i rv gL v vs it its
   obtain ⟨⟨h1,h2,h3,⟨e,ex⟩,h4,h5⟩,h6⟩:=h
   cases hs with
   | nil=>exact hh.elim
   | cons q hs=>
    obtain ⟨⟨q1,q2,q3⟩,hh⟩:=hh
    obtain ⟨ay,f1,f2,f3,f4⟩:=ih h6 hh hS
    refine ⟨q.2 :: ay,⟨⟨it.2.tags,q.1,it.2.own,h5, ?_, ?_, ?_⟩,f1⟩,by simp [f2], ?_, ?_⟩
    ·intro t ht hm
     exact b_.2 (rG.1 h4 t (eF.2 ⟨ht,hm⟩))
    ·rw [<-h2]; subst e; exact q1
    ·subst e
     rw [ex]
     exact q2.ow q3
    ·intro b hb
     rw [lV] at hb
     rcases bW.1 hb with h | h
     ·exact q2.sub b h
     ·exact f3 b h
    ·simp [Me,h1,f4,Result.andThen]
end
end
section
open Go
variable [Fr]
section
variable {P:Program} {T:bH} {hi:Hint} {n:Nat} {cx:Cx} {Z:St} {J:aH} {F:List Nat} {a:Act} {w:World}
theorem YB {i:Nat} {R:Root} (h:MZ Z i=some R):Z.roots (ah i)=some R/\cB Z R:=by
 unfold MZ at h
 split at h
 ·rename_i Q hQ
  cases hb:Q.bY || !cO Z Q.qJ Q.tags with
  | true=>rw [hb] at h; simp at h
  | false=>
   rw [hb] at h
   simp only [kg,au] at h
   subst h
   simp only [AL,Bool.not_eq_false'] at hb
   exact ⟨hQ,hb⟩
 ·simp at h
theorem Ri:∀{ps:List aV} {i:Nat} {d:Cont (gq ps)},nR Z ps i=some d->rU Z ps i d:=by
 intro ps
 induction ps with
 | nil=>intro i d _; trivial
 | cons p ps ih=>
  intro i d h
  cases p with
  | val k bE=>exact ih (show nR Z ps (i+1)=some d from h)
  | ro k=>exact ih (show nR Z ps (i+1)=some d from h)
  | own k ow=>exact ih (show nR Z ps (i+1)=some d from h)
  | fn f ks=>exact ih (show nR Z ps (i+1)=some d from h)
  | into j q=>exact ih (show nR Z ps (i+1)=some d from h)
  | rw k ow wt ht=>
   simp only [nR] at h
   split at h
   ·rename_i R d' hR hd
    obtain ⟨hb,h⟩:=zD h
    simp only [bg,nZ] at hb
    obtain ⟨⟨b1,b2⟩,b3⟩:=hb
    obtain ⟨r1,r2⟩:=YB hR
    split at h
    ·rename_i x hx
     have h2:(x,d')=d:=j4 h
     subst h2
     exact ⟨⟨R,r1,r2,jl hx,b1,b2,b3⟩,ih hd⟩
    ·simp at h
   ·simp at h
  | bR k ow wt=>
   simp only [nR] at h
   split at h
   ·rename_i R d' hR hd
    obtain ⟨hb,h⟩:=zD h
    simp only [bg,nZ] at hb
    obtain ⟨⟨b1,b2⟩,b3⟩:=hb
    obtain ⟨r1,r2⟩:=YB hR
    split at h
    ·rename_i x hx
     have h2:(x,d')=d:=j4 h
     subst h2
     exact ⟨⟨R,r1,r2,jl hx,b1,b2,b3⟩,ih hd⟩
    ·simp at h
   ·simp at h
theorem Un {fn:Func} {vs:List Value} (h:(fn.results.toList.mapM (FP a)).run P w=.ok vs w):(results fn a.tmps).run P w=.ok (Ka vs) w:=by
 have h2:results fn a.tmps=(do
   let vs <-fn.results.mapM (FP a)
   pure (if h:vs.size=1 then vs[0] else .tuple vs)):=by
  unfold results
  congr 1
 rw [h2,Array.mapM_eq_mapM_toList]
 simp only [dO,map_eq_pure_bind,h,fU,fA]
 match vs with
 | []=>rfl
 | [v]=>rfl
 | v :: u :: vs=>simp [Ka]
theorem ai7 (hT:fJ P T) (H:Rel cx Z J F a w) {ps:List aV} {rs:List gN} {fn:Func} {out:Cont (eO rs++gq ps)} (h:fin T ps rs fn.results.toList Z=some out) :
  ∃v,(results fn a.tmps).run P w=.ok v w/\Post cx ps rs out v w:=by
 unfold fin at h
 obtain ⟨q,h1,h2⟩:=Dc _ h
 obtain ⟨c,vs,its,kr,f1,f2⟩:=ai5 (P:=P) hT H h1
 rcases bD f2 with ⟨hb,f2⟩ | ⟨_,f2⟩
 ·have f2:q=_:=f2
  subst f2
  have e1:(its.map (·.2)).flatMap (·.ws)=fu its:=by simp [fu,List.flatMap_map]
  have e2:(its.map (·.2)).flatMap (·.tags)=nX its:=by simp [nX,List.flatMap_map]
  rw [e1,e2] at hb
  simp only [e1] at h2
  unfold sO zB at hb
  simp only [bg,Il,eH,lC,gT] at hb
  obtain ⟨b1,b2⟩:=hb
  have sD:∀{rs:List gN} {gL:List ResultVar} {c:Cont (eO rs)} {vs:List Value} {its:List (Value×eU)} {kr:List (List Tag)},Bl P cx Z J F a w rs gL c vs its kr->∀it∈its,rX cx Z J F w it.1 it.2:=by
   intro rs
   induction rs with
   | nil=>intro gL c vs its kr h it hi; cases gL <;> cases vs <;> cases its <;> first | exact h.elim | simp at hi
   | cons r rs ih=>
    intro gL c vs its kr h it hi
    cases r with
    | into _ _=>cases gL <;> cases vs <;> exact h.elim
    | ptr _ _ _ _=>cases gL <;> cases vs <;> exact h.elim
    | val kk exts bE=>
     cases gL <;> cases vs <;> cases kr <;> first | exact h.elim | exact ih h.2 it hi
    | own kk ow exts bE=>
     cases gL <;> cases vs <;> cases its <;> first | exact h.elim | skip
     rcases bT.1 hi with h3 | h3
     ·subst h3; rw [h.1.2.1]; exact h.1.2.2.1
     ·exact ih h.2 it h3
  obtain ⟨aI,F1,hs,H1,g1,g2,g3,g4,g5,g6,g7,g8,g9⟩:=takes its H (sD f1) b1 (fun t ht=>b2 t (bK _ ht))
  obtain ⟨ay,k1,k2,k3,k4⟩:=ai6 H1 g7 f1 g1 (fun t ht=>g5 t.1 (b2 t (bB _ ht)))
  split at h2
  ·rename_i d hd
   simp only [au] at h2
   subst h2
   refine ⟨Ka vs,Un k4,_,aI,F1,a,vs,ay,H1,rfl,by rw [II]; exact k1,by rw [k2]; exact g2,k3,by rw [J4]; exact Ri hd⟩
  ·simp at h2
 ·exact f2.elim
theorem amW {A:Type} {z:A} {t:TypeId} {kk:K} {ow:List TypeId} {exts:List Nat} {x:AV} {v:Value} {k:El kk->Nat->Prog A} (hx:aW cx Z J F w x v) (h:(NW t kk ow exts x k).ends Z z) :
  ∃r R y b o,aU Z r R/\cB Z R/\R.kind=.var t/\iK (kk.tys.filter fun t=>aa t ow) R.own=true/\((kk.tys.all fun t=>aa t ow)=true\/rH exts [] R.tags=true)/\(∃e:R.k=kk,y=e▸R.x)/\aK J R r=some (b,o)/\v=.pointer (some ⟨b,o,none⟩)/\(k y r).ends Z z:=by
 cases x with
 | ptr r p n=>
  cases p with
  | cons s p=>exact h.elim
  | nil=>
   unfold NW at h
   obtain ⟨R,hr,hv,h⟩:=iQ h
   rcases bD h with ⟨hb,h⟩ | ⟨_,h⟩
   ·simp only [bg,nZ] at hb
    obtain ⟨⟨b1,b2⟩,b3⟩:=hb
    have hk:R.kind=.var t:=by
     unfold Root.aab at b1
     split at b1
     ·rename_i u hu; rw [hu,bC b1]
     ·simp at b1
    cases hc:bU R.k kk R.x with
    | none=>rw [hc] at h; exact h.elim
    | some y=>
     rw [hc] at h
     obtain ⟨_,cs,b,o,hn,e⟩:=hx.2 R hr.1 hv (by unfold iW clean; simp [aa]) (fun t ht=>by simp [az] at ht) rfl
     simp only [aT,au,bS] at hn
     exact ⟨r,R,y,b,o,hr,hv,hk,b2,b3,jl hc,hn.2,e,h⟩
   ·exact h.elim
 | _=>exact h.elim
theorem ahQ (H:Rel cx Z J F a w) {j:Nat} {x:AV} {v:Value} {m:Int} (hx:aW cx Z J F w x v) (h:(cutV j x fun m=>(.ret m:Prog Int)).ends Z m) :
  ∃b n cp,v=.slice b m.toNat cp/\m.toNat<=n/\aW cx Z J F w (.ref (ah j) 0) (.slice b n cp):=by
 cases x with
 | ref r g=>
  simp only [cutV] at h
  rcases bD h with ⟨hc,h5⟩ | ⟨_,h5⟩
  ·clear h
   simp only [bg] at hc
   have e1:=bC hc.1
   have e2:=bC hc.2
   subst e1 e2
   obtain ⟨R,hr,hv,h⟩:=iQ h5
   rcases bD h with ⟨hg,h⟩ | ⟨_,h⟩
   ·obtain ⟨h1,h2⟩:=hx R hr (bC hg)
    have hO:=(H.roots _ R hr).ow hv
    have hK:∀q:Dat,(⟨R.k,R.x⟩:Dat)=q->(match q.1,q.2 with
      | .sl _ kk,xs=>(.ret ((show List (El kk) from xs).length:Int):Prog Int)
      | _,_=>.fail).ends Z m->∃b n cp,v=.slice b m.toNat cp/\m.toNat<=n/\aW cx Z J F w (.ref (ah j) 0) (.slice b n cp):=by
     intro q hq hh
     obtain ⟨qk,qx⟩:=q
     cases qk with
     | sl e kk=>
      have hm:m=((show List (El kk) from qx).length:Int):=hh
      have hV:=qp (fun _=>True) (fun _ _=>trivial) (fun _ _=>trivial) hO
      have hV:=cast (congrArg (fun q:Dat=>Vw (hp w) (fun _=>True) q.1 q.2 (J.hdr (ah j))) hq) hV
      have jU:=cast (congrArg (fun q:Dat=>VC q.1 v (J.hdr (ah j))) hq) h2
      obtain ⟨b,n,c,g1,g2,g3,_⟩:=hV
      have jU:VC (.sl e kk) v (J.hdr (ah j)):=jU
      have g1:J.hdr (ah j)=[.slice b n c]:=g1
      have h3:=jU.1
      rw [g1] at h3
      simp only [jw,eX] at h3
      have g2:n=(show List (El kk) from qx).length:=g2
      refine ⟨b,n,c,by rw [hm, <-g2]; simpa using h3.symm,by rw [hm, <-g2]; simp,by rw [h3]; exact hx⟩
     | _=>exact hh.elim
    exact hK _ rfl h
   ·exact h.elim
  ·exact h5.elim
 | part r g lo hi sz=>
  simp only [cutV] at h
  rcases bD h with ⟨hc,h5⟩ | ⟨_,h5⟩
  ·clear h
   simp only [bg] at hc
   have e1:=bC hc.1.1
   have e2:=bC hc.1.2
   have e3:=bC hc.2
   subst e1 e2 e3
   have hm:m=(hi:Int):=h5
   obtain ⟨b',b,n,c,g1,g2,g3,g4,g5,g6⟩:=hx
   have hb:b'=b:=by rw [g2 (.inl rfl)]; simp [add_zero]
   subst hb
   exact ⟨b',n,c,by rw [g1,hm]; simp,by rw [hm]; simpa using g4,g6⟩
  ·exact h5.elim
 | _=>exact h.elim
theorem ai4 (hT:fJ P T) (H:Rel cx Z J F a w) {ps:List aV} {rs:List gN} {fn:Func} {out:Cont (eO rs++gq ps)} (h:MX T ps rs fn.results.toList Z=some out) :
  ∃v,(results fn a.tmps).run P w=.ok v w/\Post cx ps rs out v w:=by
 obtain ⟨gL,z8⟩:∃gL,fn.results.toList=gL:=⟨_,rfl⟩
 rw [z8] at h
 have other:fin T ps rs gL Z=some out->∃v,(results fn a.tmps).run P w=.ok v w/\Post cx ps rs out v w:=fun h=>ai7 hT H (by rw [z8]; exact h)
 cases rs with
 | nil=>exact other h
 | cons q rs=>
  cases q with
  | val _ _ _=>exact other h
  | own _ _ _ _=>exact other h
  | into j q=>
   cases rs with
   | cons _ _=>cases q <;> exact other h
   | nil=>
    cases q with
    | cons _ _=>exact other h
    | nil=>
     match gL,z8,h,other with
     | [],_,h,other=>exact other h
     | _ :: _ :: _,_,h,other=>exact other h
     | [rv],z8,h,_=>
      have h:((Db T false rv fun a=>cutV j a fun m=>.ret m:Prog Int).run Z fun m=>
        match nR Z ps 0 with
        | some d=>some (m,d)
        | none=>none)=some out:=h
      obtain ⟨m,h1,h2⟩:=Dc _ h
      obtain ⟨y,u,g1,g2,_,h1⟩:=N9 hT H h1
      obtain ⟨b,n,cp,e1,e2,e3⟩:=ahQ H g2 h1
      split at h2
      ·rename_i d hd
       have h2:some ((m,d):Cont (eO [gN.into j []]++gq ps))=some out:=h2
       have h2:=j4 h2
       subst h2
       exact ⟨_,Un (vs:=[_]) (by rw [z8]; simp [Me,g1,Result.andThen]),_,_,_,a,[_],[[]],H,rfl,⟨⟨rfl,rfl,b,n,cp,e1,e2,e3⟩,trivial⟩,by simp,by simp,Ri hd⟩
      ·simp at h2
  | ptr t kk ow exts=>
   cases rs with
   | cons _ _=>exact other h
   | nil=>
    match gL,z8,h,other with
    | [],_,h,other=>exact other h
    | _ :: _ :: _,_,h,other=>exact other h
    | [rv],z8,h,_=>
     have h:((Db T false rv fun a=>NW t kk ow exts a fun y r=>.ret (y,r):Prog (El kk×Nat)).run Z fun q=>
       match nR (aC [.r q.2 none] Z) ps 0 with
       | some d=>some (q.1,d)
       | none=>none)=some out:=h
     obtain ⟨q,h1,h2⟩:=Dc _ h
     obtain ⟨y,u,g1,g2,_,h1⟩:=N9 hT H h1
     obtain ⟨r,R,x,b,o,hr,hv,hk,b2,b3,ex,iH,rfl,h1⟩:=amW g2 h1
     have h1:q=(x,r):=h1
     subst h1
     obtain ⟨k1,k2,k3,k4⟩:=alM H hr (by rw [hk]; simp) hv
     have hblk:blk J R r=b :: J.fo r:=by unfold blk; rw [iH]; rfl
     have K:=H.roots r R hr
     have hnd:=K.nd
     rw [hblk] at hnd
     split at h2
     ·rename_i d hd
      have h2:some ((x,d):Cont (eO [gN.ptr t kk ow exts]++gq ps))=some out:=h2
      have h2:=j4 h2
      subst h2
      refine ⟨_,Un (vs:=[_]) (by rw [z8]; simp [Me,g1,Result.andThen]),_,_,_,a,[_],[b :: J.fo r],k1,rfl,⟨⟨b,o,R.tags,J.hdr r,R.own,J.fo r,rfl,rfl,b3, ?_, ?_, ?_⟩,trivial⟩,by simpa using hnd, ?_,Ri hd⟩
      ·intro u hu hm
       exact b_.2 (rG.1 b2 u (eF.2 ⟨hu,hm⟩))
      ·obtain ⟨m1,arr,e,lo,hi,m2,m3,m4,m5⟩:=K.mem b o iH
       obtain ⟨ek,_⟩:=ex
       exact ⟨m1,arr,e,lo,hi,m2,m3,by rw [<-ek]; exact m4,m5 t hk⟩
      ·obtain ⟨ek,ey⟩:=ex
       subst ek
       simp only at ey
       subst ey
       exact k3.ow k4
      ·intro c hc
       simp only [lV,Bv,h_] at hc
       exact bK _ (by rw [hblk]; exact hc)
     ·simp at h2
def Cx.vX (cx:Cx) (m:Nat):Cx:={ cx with nt:=m }
theorem QN {m:Nat}:∀{cs:List (TypeId×Dat×List Tag)} {vs:List Value},nA (cx.vX m) Z J F w cs vs↔nA cx Z J F w cs vs
 | [],[]=>Iff.rfl
 | c :: cs,v :: vs=>and_congr Iff.rfl QN
 | [],_ :: _=>Iff.rfl
 | _ :: _,[]=>Iff.rfl
theorem U1 {m:Nat} {x:AV} {v:Value}:aW (cx.vX m) Z J F w x v↔aW cx Z J F w x v:=by
 cases x with
 | fn f cs=>
  constructor
  ·rintro ⟨vs,h1,h2⟩; exact ⟨vs,h1,QN.1 h2⟩
  ·rintro ⟨vs,h1,h2⟩; exact ⟨vs,h1,QN.2 h2⟩
 | _=>exact Iff.rfl
theorem Js {m:Nat}:∀{l:List AV} {vs:List Value},iN (cx.vX m) Z J F w l vs↔iN cx Z J F w l vs
 | [],[]=>Iff.rfl
 | c :: cs,v :: vs=>and_congr U1 Js
 | [],_ :: _=>Iff.rfl
 | _ :: _,[]=>Iff.rfl
theorem acU {m:Nat} {x:gM} {v:Value}:jv (cx.vX m) Z J F w x v↔jv cx Z J F w x v:=by
 cases x with
 | one x=>exact U1
 | mH l=>
  constructor
  ·rintro ⟨vs,h1,h2⟩; exact ⟨vs,h1,Js.1 h2⟩
  ·rintro ⟨vs,h1,h2⟩; exact ⟨vs,h1,Js.2 h2⟩
 | lit _ _ l=>
  constructor
  ·rintro ⟨vs,cs,h1,h2⟩; exact ⟨vs,cs,h1,Js.1 h2⟩
  ·rintro ⟨vs,cs,h1,h2⟩; exact ⟨vs,cs,h1,Js.2 h2⟩
theorem Rel.vX {a':Act} (H:Rel cx Z J F a w) {m:Nat} (hd:a'.defers=[]) (hm:m<=a'.tmps.size) (hs:∀s,a'.tmps.getD s undef=a.tmps.getD s undef):Rel (cx.vX m) Z J F a' w where
 defs:=hd
 sz:=hm
 kM:=H.kM
 sK:=H.sK
 slots:=fun s=>by rw [hs s]; exact acU.2 (H.slots s)
 sP:=H.sP
 roots:=fun r R hr=>by
  obtain ⟨o1,o2,o3,o4,o5⟩:=H.roots r R hr
  exact ⟨o1,o2,o3,o4,o5⟩
 gy:=H.gy
 lQ:=H.lQ
 fl:=H.fl
 iq:=H.iq
 fB:=H.fB
 frame:=H.frame
 qc:=H.qc
 mF:=H.mF
 ry:=H.ry
 rz:=H.rz
theorem alB:∀{ps:List aV} {i:Nat} {c:Cont (kin ps)} {r:Nat} {R:Root},iJ (iI ps i c) r=some R->∃j p cj,r=ah (i+j)/\ps[j]?=some p/\lK p (i+j) cj=some R:=by
 intro ps
 induction ps with
 | nil=>intro i c r R h; simp [iI,iJ] at h
 | cons p ps ih=>
  intro i c r R h
  rw [Jj,Jv] at h
  have hrec:iJ (iI ps (i+1) (Aq p ps c)) r=some R->∃j q cj,r=ah (i+j)/\(p :: ps)[j]?=some q/\lK q (i+j) cj=some R:=by
   intro h
   obtain ⟨j,q,cj,h1,h2,h3⟩:=ih h
   have e:i+1+j=i+(j+1):=by omega
   exact ⟨j+1,q,cj,by rw [h1,e],by simpa using h2,by rw [<-e]; exact h3⟩
  cases hr:lK p i (vS p ps c) with
  | none=>rw [hr] at h; exact hrec h
  | some Q=>
   rw [hr] at h
   simp only [iJ] at h
   cases hb:Nat.beq r (ah i) with
   | true=>
    rw [hb] at h
    have h':Q=R:=by simpa using h
    exact ⟨0,p,vS p ps c,bC hb,rfl,by rw [<-h']; exact hr⟩
   | false=>rw [hb] at h; exact hrec h
theorem ai_:∀{ps:List aV} {i j:Nat} {k:K},wO ps j k->∃l,oF (ah (i+j)) (wm ps i)=some (k,l):=by
 intro ps
 induction ps with
 | nil=>intro i j k h; obtain ⟨ow,wt,ht,h | h⟩:=h <;> simp at h
 | cons p ps ih=>
  intro i j k h
  have hne:∀j,Nat.beq (ah (i+(j+1))) (ah i)=false:=fun j=>by
   cases h:Nat.beq (ah (i+(j+1))) (ah i) with
   | true=>
    have:=bC h
    unfold ah at this
    omega
   | false=>rfl
  cases j with
  | zero=>
   obtain ⟨ow,wt,ht,h | h⟩:=h
   ·simp only [qO,au] at h
    subst h
    exact ⟨(wt,ht),by simp [wm,oF]⟩
   ·simp only [qO,au] at h
    subst h
    exact ⟨(wt,k.tys),by simp [wm,oF]⟩
  | succ j=>
   have h':wO ps j k:=by
    obtain ⟨ow,wt,ht,h⟩:=h
    exact ⟨ow,wt,ht,by simpa using h⟩
   obtain ⟨l,hl⟩:=ih (i:=i+1) h'
   have e:i+1+j=i+(j+1):=by omega
   rw [e] at hl
   cases p <;> first | exact ⟨l,by simp only [wm,oF,hne j,kg]; exact hl⟩ | exact ⟨l,hl⟩
theorem amO {ps:List aV} {c:Cont (kin ps)} (hP:D9 cx ps) (H:Rel cx (fD ps c) J F a w) (m:Nat):Qf (cx.vX m) (wm ps 0):=by
 have hf:∀{j:Nat} {k:K},wO ps j k->∃l,oF (ah j) (wm ps 0)=some (k,l):=fun {j} {k} h=>by
  have:=ai_ (i:=0) h
  simpa using this
 refine ⟨fun j pi hj h=>?_,fun j p ts v hv=>?_,fun j v hv=>?_⟩
 ·rcases h with h | ⟨⟨b,o,n⟩,h⟩
  ·obtain ⟨k,hk⟩:=hP.par j pi hj h
   obtain ⟨l,hl⟩:=hf hk
   exact ⟨_,hl⟩
  ·obtain ⟨R,hR,hk,_⟩:=H.kM j pi b o n hj h
   obtain ⟨j',p,cj,h1,h2,h3⟩:=alB (show iJ (iI ps 0 c) (ah j)=some R from hR.1)
   have e:j=j':=by unfold ah at h1; omega
   subst e
   have:∃k,wO ps j k:=by
    cases p with
    | rw k ow wt ht=>exact ⟨k,ow,wt,ht, .inl h2⟩
    | bR k ow wt=>exact ⟨k,ow,wt,[], .inr h2⟩
    | own k ow=>
     have h4:=j4 h3
     rw [<-h4] at hk
     simp [bL] at hk
    | _=>simp [lK] at h3
   obtain ⟨k,hk⟩:=this
   obtain ⟨l,hl⟩:=hf hk
   exact ⟨_,hl⟩
 ·obtain ⟨k,hk,e⟩:=hP.ptr j p ts v hv
  obtain ⟨l,hl⟩:=hf hk
  exact ⟨k,l,hl,e⟩
 ·obtain ⟨k,hk⟩:=hP.ref j v hv
  obtain ⟨l,hl⟩:=hf hk
  exact ⟨_,hl⟩
theorem ahW (hm:P.follows .mixedOrders=true) (hT:fJ P T) (hSt:wT P T) {E:Entry} {fn:Func} (hf:P.funcs[E.f]?=some fn) (hname:(fn.name == "runtime.NumGoroutine")=false) {m:Nat} (hC:xG P m hi)
  (hF:∀c out,E.F n c=some out->MW T hi fn E.ps E.rs m c=some out):aD P n E:=by
 intro c out hout cx J args w hnt hw hsz hP H
 have h:=hF c out hout
 unfold MW at h
 cases hb:fn.body with
 | none=>rw [hb] at h; simp at h
 | some code=>
  rw [hb] at h
  simp only at h
  refine .inl ⟨Go.MuLone.run_callFunc_enter hf hname hb args w,calls_of_wp hf hb ?_⟩
  have H2:Rel (cx.vX fn.ntmps) (fD E.ps c) J [] { tmps:=args++Array.replicate (fn.ntmps - args.size) undef,defers:=[] } w:=by
   refine H.vX rfl (by simp; omega) fun s=>?_
   simp only [Gc]
   rw [Array.getElem?_append]
   split
   ·rfl
   ·rename_i hlt
    rw [Array.getElem?_eq_none (by omega:args.size<=s)]
    rw [Array.getElem?_replicate]
    split <;> rfl
  have hC':xG P m { hi with nt:=fn.ntmps,fP:=wm E.ps 0 }:=hC
  refine wp_mono (ahX agW hm hT hSt hC' rfl (amO hP H _) code 0 h H2) ?_
  have hend:∀{Z':St} {J':aH} {F':List Nat} {a':Act} {w':World},MX T E.ps E.rs fn.results.toList Z'=some out->Rel (cx.vX fn.ntmps) Z' J' F' a' w'->
    a'.defers=[]/\∃v,(results fn a'.tmps).run P w'=.ok v w'/\∃v',Ending.returned v=.returned v'/\Post cx E.ps E.rs out v' w':=by
   intro Z' J' F' a' w' h1 H3
   have H4:Rel cx Z' J' F' a' w':=by
    have:=H3.vX (m:=0) (a':=a') H3.defs (fT _) (fun _=>rfl)
    obtain ⟨nt,w0,ext,par,ptrs,refs⟩:=cx
    simp only at hnt
    subst hnt
    exact this
   obtain ⟨v,v1,v2⟩:=ai4 (P:=P) hT H4 h1
   exact ⟨H3.defs,v,v1,v,rfl,v2⟩
  rintro e a' w' ⟨ex,Z',J',F',h1,h2,h3⟩
  cases e <;> simp only [Iy,au,reduceCtorEq] at h1
  ·subst h1; exact hend h2 h3
  ·subst h1; simp at h2
  ·subst h1; exact hend h2 h3
end
end
section
open Go
variable [Fr]
def vF (W:World):(ps:List aV)->Cont (kin ps)->List Value->Prop
 | [],_,[]=>True
 | .val k [] :: ps,c,v :: vs=>(∃cs,VC k v cs/\Vw (hp W) (fun b=>b<W.heap.size) k c.1 cs)/\vF W ps c.2 vs
 | _,_,_=>False
def za (W W':World):Prop:=W'.os=W.os/\W'.output=W.output/\W.heap.size<=W'.heap.size/\∀b,b<W.heap.size->hp W' b=hp W b
def vV (W:World):Cx:={ nt:=0,w0:=W,ext:=fun _ b=>b<W.heap.size,par:=fun _=>none,ptrs:=fun _ _ _ _=>False,refs:=fun _ _=>False }
def TH:aH:={ loc:=fun _=>(0,0),hdr:=fun _=>[],fo:=fun _=>[] }
section
variable {P:Program} {W:World}
theorem vF.roots:∀{ps:List aV} {c:Cont (kin ps)} {vs:List Value} {i:Nat},vF W ps c vs->iI ps i c=[]/\vs.length=ps.length
 | [],_,[],_,_=>⟨rfl,rfl⟩
 | [],_,_ :: _,_,h=>h.elim
 | .val k [] :: ps,c,v :: vs,i,h=>by
  obtain ⟨h1,h2⟩:=vF.roots (i:=i+1) h.2
  exact ⟨h1,by simp [h2]⟩
 | .val k (_ :: _) :: ps,c,vs,_,h=>by cases vs <;> exact h.elim
 | .val k [] :: ps,c,[],_,h=>h.elim
 | .ro _ :: _,_,vs,_,h=>by cases vs <;> exact h.elim
 | .rw _ _ _ _ :: _,_,vs,_,h=>by cases vs <;> exact h.elim
 | .bR _ _ _ :: _,_,vs,_,h=>by cases vs <;> exact h.elim
 | .own _ _ :: _,_,vs,_,h=>by cases vs <;> exact h.elim
 | .fn _ _ :: _,_,vs,_,h=>by cases vs <;> exact h.elim
 | .into _ _ :: _,_,vs,_,h=>by cases vs <;> exact h.elim
theorem vF.slots {Z:St} (hσ:∀r R,¬aU Z r R):∀{ps:List aV} {c:Cont (kin ps)} {vs:List Value} {i:Nat},vF W ps c vs->∀s,(∀v,vs[s - i]?=some v->i<=s->jv (vV W) Z TH [] W (jm (gp ps i c) s) v)/\((vs[s - i]?=none\/s<i)->jm (gp ps i c) s=.one .undef)/\nu Z (jm (gp ps i c) s)
 | [],_,[],_,_=>fun s=>⟨fun v h=>by simp at h,fun _=>rfl,trivial⟩
 | [],_,_ :: _,_,h=>h.elim
 | .val k [] :: ps,c,v :: vs,i,h=>by
  intro s
  have ih:=vF.slots hσ (i:=i+1) h.2 s
  simp only [gp,jm]
  cases hb:Nat.beq s i with
  | true=>
   have:=bC hb
   subst this
   simp only [H7,qO,au,gJ]
   refine ⟨fun u hu _=>?_,fun h=>by rcases h with h | h; simp at h; omega, ?_⟩
   ·subst hu
    intro _
    obtain ⟨cs,h1,h2⟩:=h.1
    refine ⟨cs,h1, ?_⟩
    cases hf:k.flat with
    | true=>exact ni hf h2
    | false=>
     refine lN (fun _ _=>rfl) (fun b hb=>⟨hb,by simp, ?_,fun r R hr=>absurd hr (hσ r R),fun _=>.inl ⟨s,0,by simp,hb⟩⟩) h2
     rintro ⟨j,pi,o,n,h3,_⟩
     simp [vV] at h3
   ·intro t ht
    cases hf:k.flat with
    | true=>rw [hf] at ht; simp at ht
    | false=>
     rw [hf] at ht
     simp only [kg,List.map_nil,gI] at ht
     subst ht
     exact .inl (uP s)
  | false=>
   have hne:=Ml hb
   simp only [kg]
   refine ⟨fun u hu hle=>?_,fun hh=>?_,ih.2.2⟩
   ·refine ih.1 u ?_ (by omega)
    have e:s - i=(s - (i+1))+1:=by omega
    rw [e] at hu
    simpa using hu
   ·refine ih.2.1 ?_
    rcases hh with hh | hh
    ·by_cases hlt:s<i
     ·exact .inr (by omega)
     ·have e:s - i=(s - (i+1))+1:=by omega
      rw [e] at hh
      exact .inl (by simpa using hh)
    ·exact .inr (by omega)
 | .val k (_ :: _) :: ps,c,vs,_,h=>by cases vs <;> exact h.elim
 | .val k [] :: ps,c,[],_,h=>h.elim
 | .ro _ :: _,_,vs,_,h=>by cases vs <;> exact h.elim
 | .rw _ _ _ _ :: _,_,vs,_,h=>by cases vs <;> exact h.elim
 | .bR _ _ _ :: _,_,vs,_,h=>by cases vs <;> exact h.elim
 | .own _ _ :: _,_,vs,_,h=>by cases vs <;> exact h.elim
 | .fn _ _ :: _,_,vs,_,h=>by cases vs <;> exact h.elim
 | .into _ _ :: _,_,vs,_,h=>by cases vs <;> exact h.elim
theorem alR (hfr:∀b,Fr.free b->b<W.heap.size/\hp W b=Fr.obj b) {ps:List aV} {c:Cont (kin ps)} {args:Array Value} (hV:vF W ps c args.toList):Rel (vV W) (fD ps c) TH [] ⟨args,[]⟩ W:=by
 have hr0:∀r,(fD ps c).roots r=none:=fun r=>by
  show iJ (iI ps 0 c) r=none
  rw [(hV.roots (i:=0)).1]
  rfl
 have hno:∀r R,¬aU (fD ps c) r R:=fun r R h=>by have h2:=h.1; rw [hr0 r] at h2; simp at h2
 have hs:=fun s=>vF.slots hno (i:=0) hV s
 refine ⟨rfl,fT _,fun j pi b o n h=>by simp [vV] at h,fun r R h=>absurd h (hno r R),fun s=>?_,fun s=>(hs s).2.2,fun r R h=>absurd h (hno r R),fun r R h=>by rw [hr0 r] at h; simp at h,
  fun r R _ _ h=>absurd h (hno r R),fun b h=>by simp at h,mJ,fun r R h=>absurd h (hno r R),⟨rfl,rfl,rfl,bN _,fun _ _ _=>rfl,fun j pi b o n h=>by simp [vV] at h⟩,
  fun j pi h=>by simp [vV] at h,⟨fun j pi h=>by simp [vV] at h,fun b hb=>⟨(hfr b hb).1,fun j pi h=>by simp [vV] at h⟩,fun b hb=>(hfr b hb).2⟩,fun j p ts v h=>h.elim,fun j v h=>h.elim⟩
 obtain ⟨h1,h2,_⟩:=hs s
 cases hv:args.toList[s]? with
 | none=>
  have:=h2 (.inl (by simpa using hv))
  rw [show (fD ps c).slots s=.one .undef from this]
  trivial
 | some v=>
  have:=h1 v (by simpa using hv) (fT _)
  have e:args.getD s undef=v:=by
   rw [wD] at hv
   simp [Gc,hv]
  show jv _ _ _ _ _ _ (args.getD s undef)
  rw [e]
  exact this
theorem alS (hfr:∀b,Fr.free b->b<W.heap.size/\hp W b=Fr.obj b) {f:FuncId} {ps:List aV} {F:Nat->Cont (kin ps)->Option (Cont (eO [.val .bool [] []]++gq ps))} {n:Nat} (hE:aD P n ⟨f,ps,[.val .bool [] []],F⟩)
  {c:Cont (kin ps)} {out:Cont (eO [.val .bool [] []]++gq ps)} (hF:F n c=some out) (ht:out.1=true) {args:Array Value} (hV:vF W ps c args.toList) (hcall:(callFunc f args).run P W=.ok (.enter f args) W) :
  Calls P f args W fun e W'=>e=.returned (.bool true)/\za W W':=by
 have h:=hE c out hF (vV W) TH args W rfl rfl (by rw [<-OC,(hV.roots (i:=0)).2]) ⟨fun j pi h=>by simp [vV] at h,fun j p ts v h=>h.elim,fun j v h=>h.elim⟩ (alR hfr hV)
 rcases h with ⟨_,h⟩ | ⟨v,w',h,_⟩
 ·refine h.mono ?_
  rintro e W' ⟨v,rfl,Z,J,F',a,vs,ay,H,rfl,hR,_⟩
  refine ⟨?_,H.frame.1,H.frame.2.2.1,H.frame.2.2.2.1,fun b hb=>H.frame.2.2.2.2.1 b hb (fun j pi h=>by simp [vV] at h)⟩
  cases vs with
  | nil=>exact hR.elim
  | cons v vs=>
   cases ay with
   | nil=>exact hR.elim
   | cons fo ay=>
    obtain ⟨⟨_,T,cs,_,hv,hw⟩,hr⟩:=hR
    cases vs with
    | cons _ _=>exact hr.elim
    | nil=>
     obtain ⟨e1,_⟩:=hv
     have e2:cs=[.bool out.1]:=hw
     rw [e1,ht] at e2
     simp only [jw,eX] at e2
     subst e2
     rfl
 ·rw [hcall] at h
  simp at h
end
end
section
open Go
mutual
def w_ {H:Type}:DataW H->Nat
 | .lit (.string bytes)=>bytes.length+1
 | .lit _=>1
 | .nil=>1
 | .ptr d=>w_ d+1
 | .slice elems spare=>uK elems+uK spare+1
 | .agg parts=>uK parts+1
 | .iface _ d=>w_ d+1
 | .map _=>1
 | .held _=>1
def uK {H:Type}:List (DataW H)->Nat
 | []=>0
 | d :: r=>w_ d+uK r
end
def sJ:(k:K)->El k->Nat
 | .int _,_=>1
 | .bool,_=>1
 | .str,s=>(show List Int from s).length+1
 | .sl _ k,xs=>((show List (El k) from xs).map (sJ k)).sum+1
 | .unit,_=>0
 | .pair a b,x=>sJ a x.1+sJ b x.2
 | .st f,x=>sJ f x+1
 | .gap _,_=>0
 | .id _,_=>1
def Ae:(k:K)->El k->Prop
 | .int ik,x=>mG ik x
 | .str,s=>(show List Int from s).length<=9223372036854775807/\∀b∈(show List Int from s),0<=b/\b<256
 | .sl _ k,xs=>(show List (El k) from xs).length<=9223372036854775807/\∀x∈(show List (El k) from xs),Ae k x
 | .pair a b,x=>Ae a x.1/\Ae b x.2
 | .st f,x=>Ae f x
 | _,_=>True
theorem Yd {A:Type} {p:Nat->A->Prop}:∀{n:Nat},(∀i,i<n->∃x,p i x)->∃xs:List A,xs.length=n/\∀i (h:i<xs.length),p i xs[i]:=by
 intro n h
 induction n with
 | zero=>exact ⟨[],rfl,fun i h=>by simp at h⟩
 | succ n ih=>
  obtain ⟨xs,h1,h2⟩:=ih (fun i hi=>h i (by omega))
  obtain ⟨x,hx⟩:=h n (by omega)
  refine ⟨xs++[x],by simp [h1],fun i hi=>?_⟩
  rw [List.getElem_append]
  split
  ·exact h2 i _
  ·have:i=n:=by simp [h1] at hi; omega
   subst this
   simpa using hx
theorem acv {A H:Type} {f:A->Nat}:∀{xs:List A} {ds:List (DataW H)},xs.length=ds.length->(∀i (h:i<xs.length) (h':i<ds.length),f xs[i]<=w_ ds[i])->(xs.map f).sum<=uK ds
 | [],[],_,_=>bN _
 | x :: xs,d :: ds,hl,h=>by
  simp only [lD,List.sum_cons,uK]
  have h0:=h 0 (by simp) (by simp)
  have:=acv (xs:=xs) (ds:=ds) (by simpa using hl) (fun i h1 h2=>by
   have:=h (i+1) (by simp; omega) (by simp; omega)
   simpa using this)
  simp only [List.getElem_cons_zero] at h0
  omega
 | [],_ :: _,hl,_=>by simp at hl
 | _ :: _,[],hl,_=>by simp at hl
section
variable {P:Program} {T:bH} {W:World} {H:Type} {enc:TypeId×Value->H}
def agE [Fr] (W:World) (k:K) (cs:List Value) (d:DataW H):Prop:=∃x:El k,Vw (hp W) (fun b=>b<W.heap.size) k x cs/\sJ k x<=w_ d/\Ae k x
theorem NA {t:TypeId} {k:K} (h:sS P t k):P.cellsOf t=k.size:=by
 obtain ⟨i,h1,h2,_⟩:=h
 simp [Program.cellsOf,h1,h2]
theorem an0 [Fr] (hid:T.ids=false) (hfr:∀b,b<W.heap.size->Fr.free b):∀(k:K),
  (∀t n cs d ps,(jO P T k).1 t->DataW.trod enc P W 0 (fun _=>true) true n t cs=some (d,ps)->agE W k cs d)/\
  (∀(fs:List Field) off n (cs:List Value) (xs:List (DataW H×List MemPlace)),(jO P T k).2 fs off->cs.length=off+k.size->xs.length=fs.length->
   (∀(i:Nat) f,fs[i]?=some f->DataW.trod enc P W 0 (fun _=>true) true n f.type ((cs.drop f.offset).take (P.cellsOf f.type))=xs[i]?)->
   ∃x:El k,Vw (hp W) (fun b=>b<W.heap.size) k x (cs.drop off)/\sJ k x<=uK (xs.map (·.1))/\Ae k x):=by
 intro k
 induction k with
 | int ik=>
  refine ⟨fun t n cs d ps ht h=>?_,fun _ _ _ _ _ h=>h.elim⟩
  obtain ⟨m,rfl,e,hw⟩:=DataW.trod_int ht.1 h
  simp only [bS] at e
  obtain ⟨rfl,rfl⟩:=e
  have hr:mG ik m:=by
   cases ik <;> simp [mG]
   simp [Lit.wf,IntKind.min,IntKind.max,IntKind.signed,IntKind.bits] at hw
   omega
  exact ⟨m,⟨rfl,hr⟩,bN _,hr⟩
 | bool=>
  refine ⟨fun t n cs d ps ht h=>?_,fun _ _ _ _ _ h=>h.elim⟩
  obtain ⟨b,rfl,e⟩:=DataW.trod_bool ht.1 h
  simp only [bS] at e
  obtain ⟨rfl,rfl⟩:=e
  exact ⟨b,rfl,bN _,trivial⟩
 | str=>
  refine ⟨fun t n cs d ps ht h=>?_,fun _ _ _ _ _ h=>h.elim⟩
  obtain ⟨s,rfl,e,hsz⟩:=DataW.trod_string ht.1 h
  simp only [bS] at e
  obtain ⟨rfl,rfl⟩:=e
  exact ⟨bytesOf s,⟨s,rfl,rfl⟩,by simp [sJ,w_,bytesOf],by
   unfold maxLen at hsz
   have:(bytesOf s).length=s.size:=by simp [bytesOf]
   refine ⟨(show (bytesOf s).length<=9223372036854775807 by omega),fun b hb=>?_⟩
   have hb':b∈bytesOf s:=hb
   unfold bytesOf at hb'
   obtain ⟨x,_,rfl⟩:=fI.1 hb'
   have:=x.toNat_lt
   omega⟩
 | unit=>exact ⟨fun _ _ _ _ _ h=>h.elim,fun fs off n cs xs _ hl hx hf=>⟨(),by
   have:cs.drop off=[]:=DX (by simp [K.size] at hl; omega)
   exact this,fT _,trivial⟩⟩
 | gap n=>exact ⟨fun _ _ _ _ _ h=>h.elim,fun _ _ _ _ _ h=>h.elim⟩
 | id e=>exact ⟨fun t n cs d ps ht h=>by have:=ht.2.2; rw [hid] at this; simp at this,fun _ _ _ _ _ h=>h.elim⟩
 | sl e k ih=>
  refine ⟨fun t n cs d ps ht h=>?_,fun _ _ _ _ _ h=>h.elim⟩
  obtain ⟨hu,_,hte,hk0,_⟩:=ht
  have hce:P.cellsOf e=k.size:=NA (dn.info hte)
  rcases DataW.trod_slice hu h with ⟨rfl,e1⟩ | ⟨a,len,cap,elems,rest,m,rfl,rfl,e1,_,hlc,hmx,hle,hel,_,_⟩
  ·simp only [bS] at e1
   obtain ⟨rfl,rfl⟩:=e1
   exact ⟨[],⟨none,0,0,rfl,rfl,bN _,fun h=>by omega⟩,by simp [sJ,w_],⟨fT _,fun x hx=>by simp at hx⟩⟩
  ·simp only [bS] at e1
   obtain ⟨rfl,rfl⟩:=e1
   have hone:∀i (hi:i<len),∃x:El k,∃ds,W.cells? 0 (a.add (i * k.size)) k.size=some ds/\Vw (hp W) (fun b=>b<W.heap.size) k x ds/\(∀(h':i<elems.length),sJ k x<=w_ elems[i].1)/\Ae k x:=by
    intro i hi
    have h1:=hel i hi
    have hi':i<elems.length:=by omega
    rw [hce,jd hi'] at h1
    obtain ⟨ds,h2,h3⟩:=H8.1 h1
    obtain ⟨x,h4,h5,h6⟩:=ih.1 e m ds _ _ hte h3
    exact ⟨x,ds,h2,h4,fun _=>h5,h6⟩
   obtain ⟨xs,hl,hxs⟩:=Yd hone
   refine ⟨xs,⟨some a,len,cap,rfl,hl.symm,hlc,fun h0=>?_⟩, ?_, ?_⟩
   ·obtain ⟨b,o,sp⟩:=a
    have h0':0<xs.length:=by omega
    obtain ⟨ds0,h2,h3,_⟩:=hxs 0 h0'
    have hb:=World.cells?_block h2 hk0
    obtain ⟨_,g1,g2⟩:=World.cells?_some h2
    have hsp:sp=none:=by
     have:=g2 0 hk0
     rw [jd (by omega)] at this
     simp only [Nat.zero_mul,Addr.add,a_,World.cell?] at this
     cases sp with
     | none=>rfl
     | some q=>split at this <;> simp at this
    subst hsp
    have hb':b<W.heap.size:=by
     rw [addr_add] at hb
     exact hb
    refine ⟨b,o,rfl,hb', .inr (hfr b hb'),fun i hi=>?_⟩
    obtain ⟨ds,h2,h3,_⟩:=hxs i hi
    obtain ⟨_,g1,g2⟩:=World.cells?_some h2
    refine ⟨ds,fun j hj=>?_,h3⟩
    have:=g2 j (by omega)
    rw [addr_add,addr_add,zI] at this
    exact this
   ·simp only [sJ,w_]
    have:=acv (H:=H) (f:=sJ k) (xs:=xs) (ds:=elems.map (·.1)) (by simp; omega) (fun i h1 h2=>by
     obtain ⟨ds,_,_,h5,_⟩:=hxs i h1
     simpa using h5 (by simpa using h2))
    omega
   ·unfold maxLen at hmx
    refine ⟨show xs.length<=_ by omega,fun x hx=>?_⟩
    obtain ⟨i,hi,rfl⟩:=sZ.1 hx
    obtain ⟨_,_,_,_,h6⟩:=hxs i hi
    exact h6
 | pair a b iha ihb=>
  refine ⟨fun _ _ _ _ _ h=>h.elim,fun fs off n cs xs ht hl hx hf=>?_⟩
  cases fs with
  | nil=>exact ht.elim
  | cons f fs=>
   cases xs with
   | nil=>simp at hx
   | cons x0 xs=>
    obtain ⟨h1,h2,h3,h4⟩:=ht
    have hca:P.cellsOf f.type=a.size:=NA (dn.info h2)
    have h5:=hf 0 f rfl
    rw [h1,hca] at h5
    simp only [qO] at h5
    obtain ⟨x,g1,g2,l1⟩:=iha.1 f.type n _ x0.1 x0.2 h2 h5
    obtain ⟨y,g3,g4,l2⟩:=ihb.2 fs (off+a.size) n cs xs h4 (by simp [K.size] at hl; omega) (by simpa using hx) (fun i f' hi=>by
     have:=hf (i+1) f' (by simpa using hi)
     simpa using this)
    refine ⟨(x,y),⟨(cs.drop off).take a.size,cs.drop (off+a.size), ?_,g1,g3⟩, ?_,l1,l2⟩
    ·rw [<-sV,BC]
    ·simp only [sJ,lD,uK]
     omega
 | st c ih=>
  refine ⟨fun t n cs d ps ht h=>?_,fun _ _ _ _ _ h=>h.elim⟩
  obtain ⟨⟨fs,hu,hfs⟩,hinfo⟩:=ht
  obtain ⟨xs,m,rfl,e1,hl,hlen,hf⟩:=DataW.trod_struct hu h
  simp only [bS] at e1
  obtain ⟨rfl,rfl⟩:=e1
  obtain ⟨x,g1,g2,l1⟩:=ih.2 fs.toList 0 m cs xs hfs (by rw [hl,NA hinfo]; simp [K.size]) (by simpa using hlen) (fun i f hi=>hf i f (by simpa using hi))
  refine ⟨x,by simp only [DY] at g1; exact g1, ?_,l1⟩
  simp only [sJ,w_]
  omega
theorem ai3:∀{k:K} {fs:List Field} {off:Nat},(jO P T k).2 fs off->∀f∈fs,∃k',(jO P T k').1 f.type:=by
 intro k
 induction k with
 | pair a b iha ihb=>
  intro fs off h f hf
  cases fs with
  | nil=>simp at hf
  | cons f0 fs=>
   rcases bT.1 hf with h1 | h1
   ·subst h1; exact ⟨a,h.2.1⟩
   ·exact ihb h.2.2.2 f h1
 | unit=>intro fs off h f hf; rw [show fs=[] from h] at hf; simp at hf
 | _=>intro fs off h; exact h.elim
theorem an1 [Fr] (hid:T.ids=false) {sp:Nat->Bool} (hsp:∀b,b<W.heap.size->sp b=true):∀(n:Nat) (t:TypeId) (k:K) (cs:List Value) (x:DataW H×List MemPlace),(jO P T k).1 t->DataW.trod enc P W 0 (fun _=>true) true n t cs=some x->DataW.trod enc P W 0 sp true n t cs=some x:=by
 intro n
 induction n with
 | zero=>intro t k cs x _ h; simp [DataW.trod] at h
 | succ n ih=>
  intro t k cs x ht h
  cases k with
  | int ik=>obtain ⟨m,rfl,rfl,hw⟩:=DataW.trod_int ht.1 h; simp [DataW.trod,ht.1,hw]
  | bool=>obtain ⟨m,rfl,rfl⟩:=DataW.trod_bool ht.1 h; simp [DataW.trod,ht.1]
  | str=>obtain ⟨m,rfl,rfl,hw⟩:=DataW.trod_string ht.1 h; simp [DataW.trod,ht.1,hw]
  | unit=>exact ht.elim
  | gap n=>exact ht.elim
  | id e=>have:=ht.2.2; rw [hid] at this; simp at this
  | pair a b=>exact ht.elim
  | st c=>
   obtain ⟨⟨fs,hu,hfs⟩,_⟩:=ht
   obtain ⟨xs,m,e,rfl,hl,hlen,hf⟩:=DataW.trod_struct hu h
   have e':m=n:=by omega
   subst e'
   refine ChangeShapes.trod_struct_mk hu hl (mapM_some_of_get _ _ (by simpa using hlen) fun i f hi=>?_)
   have hi':i<xs.length:=by
    have:=(qm.1 hi).1
    simp at this
    omega
   have h1:=hf i f (by simpa using hi)
   rw [jd hi'] at h1 ⊢
   obtain ⟨k',hk'⟩:=ai3 hfs f (qo hi)
   exact ih f.type k' _ _ hk' h1
  | sl e k=>
   obtain ⟨hu,_,hte,hk0,_⟩:=ht
   have hce:P.cellsOf e=k.size:=NA (dn.info hte)
   rcases DataW.trod_slice hu h with ⟨rfl,rfl⟩ | ⟨a,len,cap,_,_,_,_,rfl,_⟩
   ·simp [DataW.trod,hu]
   ·unfold DataW.trod at h ⊢
    rw [hu] at h ⊢
    simp only [hce] at h ⊢
    split at h
    ·rename_i hc
     rw [aj hc]
     obtain ⟨elems,he,h⟩:=H8.1 h
     obtain ⟨rest,hr,hd⟩:=Option.map_eq_some_iff.1 h
     have hstep:∀i y,(W.cells? 0 (a.add (i * k.size)) k.size).bind (DataW.trod enc P W 0 (fun _=>true) true n e)=some y->(W.cells? 0 (a.add (i * k.size)) k.size).bind (DataW.trod enc P W 0 sp true n e)=some y:=by
      intro i y h
      obtain ⟨ds,h1,h2⟩:=H8.1 h
      exact H8.2 ⟨ds,h1,ih e k ds y hte h2⟩
     refine H8.2 ⟨elems,mapM_carry he (fun i y _ _ hy=>hstep i y hy),Option.map_eq_some_iff.2 ⟨rest, ?_,hd⟩⟩
     simp only [a_] at hr
     cases hs:sp a.block with
     | true=>
      simp only [a_]
      exact mapM_carry hr (fun i y _ _ hy=>hstep _ y hy)
     | false=>
      simp only [bJ,bF]
      cases hcl:cap - len with
      | zero=>rw [hcl] at hr; simpa using hr
      | succ m=>
       exfalso
       rw [hcl] at hr
       have h1:=mapM_some_get hr 0 0 (by simp)
       have hlr:rest.length=m+1:=by simpa using mapM_some_length hr
       rw [jd (by omega)] at h1
       obtain ⟨ds,h2,_⟩:=H8.1 h1
       have h3:=World.cells?_block h2 hk0
       have h4:(a.add ((len+0) * k.size)).block=a.block:=by unfold Addr.add; split <;> rfl
       rw [h4] at h3
       rw [hsp _ h3] at hs
       simp at hs
    ·simp at h
end
end
section
open Go
section
variable {P:Program} {T:bH} {W W':World} {H:Type} {enc:TypeId×Value->H}
def H9 (P:Program) (T:bH):List aV->List TypeId->Prop
 | [],[]=>True
 | .val k [] :: ps,t :: ts=>dn P T t k/\H9 P T ps ts
 | _,_=>False
def J8:(ps:List aV)->Cont (kin ps)->Nat
 | .val k _ :: ps,c=>sJ k c.1+J8 ps c.2
 | _,_=>0
def NI:(ps:List aV)->Cont (kin ps)->Prop
 | .val k _ :: ps,c=>Ae k c.1/\NI ps c.2
 | _,_=>True
theorem an7 [Fr] {t:TypeId} {k:K} {v:Value} {base:Nat} {x:El k} {ok:Nat->Prop} (ht:dn P T t k) (hv:Value.okWide P W .any base t v) (hV:Vw (hp W) ok k x v.cells.toList):VC k v v.cells.toList:=by
 have hplain:∀{u:Value},(∀y,v≠.agg y)->v.cells.toList=[u]->VC k v v.cells.toList\/∃c,k=.st c:=by
  intro u hn hu
  cases k with
  | st c=>exact .inr ⟨c,rfl⟩
  | _=>
   refine .inl ⟨?_,hn⟩
   cases v <;> first | rfl | exact absurd rfl (hn _)
 unfold dn jO at ht
 cases k with
 | st c=>
  obtain ⟨⟨fs,hu,_⟩,_⟩:=ht
  unfold Value.okWide at hv
  rw [hu] at hv
  obtain ⟨cs,rfl,_⟩:=hv
  show Value.agg cs=.agg (cs.toList).toArray
  simp
 | unit=>exact ht.elim
 | pair a b=>exact ht.elim
 | gap n=>exact ht.elim
 | int ik=>
  unfold Value.okWide at hv
  rw [ht.1] at hv
  refine ⟨?_, ?_⟩ <;> cases v <;> simp_all [Cell.okWide,Cell.ok,Value.cells]
 | bool=>
  unfold Value.okWide at hv
  rw [ht.1] at hv
  refine ⟨?_, ?_⟩ <;> cases v <;> simp_all [Cell.okWide,Cell.ok,Value.cells]
 | id e=>
  unfold Value.okWide at hv
  rw [ht.1] at hv
  refine ⟨?_, ?_⟩ <;> cases v <;> simp_all [Cell.okWide,Cell.ok,Value.cells]
 | str=>
  unfold Value.okWide at hv
  rw [ht.1] at hv
  refine ⟨?_, ?_⟩ <;> cases v <;> simp_all [Cell.okWide,Cell.ok,Value.cells]
 | sl e k=>
  unfold Value.okWide at hv
  rw [ht.1] at hv
  refine ⟨?_, ?_⟩ <;> cases v <;> simp_all [Cell.okWide,Cell.ok,Value.cells]
theorem aa2 [Fr] (hid:T.ids=false) (hfr:∀b,b<W.heap.size->Fr.free b):∀{ps:List aV} {ts:List TypeId} {vs:List Value} {ds:List (DataW H)} {p:List MemPlace} {base:Nat},H9 P T ps ts->DataW.TrodAll enc P W 0 (fun _=>true) true ts vs ds p->
  (∀(j:Nat) t v,ts[j]?=some t->vs[j]?=some v->Value.okWide P W .any base t v)->∃c,vF W ps c vs/\J8 ps c<=uK ds/\ds.length=ps.length/\NI ps c
 | [],[],vs,ds,p,_,_,h,_=>by
  obtain ⟨rfl,rfl,_⟩:=ChangeShapes.trodAll_nil h
  exact ⟨(),trivial,bN _,rfl,trivial⟩
 | .val k [] :: ps,t :: ts,vs,ds,p,base,hp1,h,hv=>by
  obtain ⟨v,vs',d,ds',p1,q,rfl,rfl,rfl,⟨n,h1⟩,h2⟩:=ChangeShapes.trodAll_cons h
  obtain ⟨c,g1,g2,g3,g4⟩:=aa2 hid hfr hp1.2 h2 (fun j t v ht hv'=>hv (j+1) t v (by simpa using ht) (by simpa using hv'))
  obtain ⟨x,f1,f2,f3⟩:=(an0 (T:=T) (enc:=enc) hid hfr k).1 t n _ d p1 hp1.1 h1
  refine ⟨(x,c),⟨⟨_,an7 hp1.1 (hv 0 t v rfl rfl) f1,f1⟩,g1⟩, ?_,by simp [g3],f3,g4⟩
  simp only [J8,uK]
  omega
 | [],_ :: _,_,_,_,_,h,_,_=>h.elim
 | .val _ [] :: _,[],_,_,_,_,h,_,_=>h.elim
 | .val _ (_ :: _) :: _,ts,_,_,_,_,h,_,_=>by cases ts <;> exact h.elim
 | .ro _ :: _,ts,_,_,_,_,h,_,_=>by cases ts <;> exact h.elim
 | .rw _ _ _ _ :: _,ts,_,_,_,_,h,_,_=>by cases ts <;> exact h.elim
 | .bR _ _ _ :: _,ts,_,_,_,_,h,_,_=>by cases ts <;> exact h.elim
 | .own _ _ :: _,ts,_,_,_,_,h,_,_=>by cases ts <;> exact h.elim
 | .fn _ _ :: _,ts,_,_,_,_,h,_,_=>by cases ts <;> exact h.elim
 | .into _ _ :: _,ts,_,_,_,_,h,_,_=>by cases ts <;> exact h.elim
theorem anz (hO:za W W') {p:MemPlace} (hp1:p.block<W.heap.size):W.sameAt W' p:=by
 have h:=hO.2.2.2 p.block hp1
 cases p with
 | cell b off=>
  have h':W'.heap[b]?=W.heap[b]?:=h
  show W'.cell? _=W.cell? _
  unfold World.cell?
  simp only [h']
 | map b=>exact h
theorem abL [Fr] (hid:T.ids=false) (hO:za W W') {sp:Nat->Bool} (hsp:∀b,b<W.heap.size->sp b=true):∀{ps:List aV} {ts:List TypeId} {vs:List Value} {ds:List (DataW H)} {p:List MemPlace},H9 P T ps ts->DataW.TrodAll enc P W 0 (fun _=>true) true ts vs ds p->
  DataW.TrodAll enc P W' 0 sp true ts vs ds p
 | [],[],vs,ds,p,_,h=>by
  obtain ⟨rfl,rfl,rfl⟩:=ChangeShapes.trodAll_nil h
  exact rfl
 | .val k [] :: ps,t :: ts,vs,ds,p,hp1,h=>by
  obtain ⟨v,vs',d,ds',p1,q,rfl,rfl,rfl,⟨n,h1⟩,h2⟩:=ChangeShapes.trodAll_cons h
  have h3:=abL hid hO hsp hp1.2 h2
  have h4:=an1 hid hsp n t k _ _ hp1.1 h1
  exact ⟨p1,q,⟨n,DataW.trod_carry n t _ _ h4 (fun p hp2=>anz hO (DataW.trod_lt n t _ _ h1 p hp2))⟩,h3,rfl⟩
 | [],_ :: _,_,_,_,h,_=>h.elim
 | .val _ [] :: _,[],_,_,_,h,_=>h.elim
 | .val _ (_ :: _) :: _,ts,_,_,_,h,_=>by cases ts <;> exact h.elim
 | .ro _ :: _,ts,_,_,_,h,_=>by cases ts <;> exact h.elim
 | .rw _ _ _ _ :: _,ts,_,_,_,h,_=>by cases ts <;> exact h.elim
 | .bR _ _ _ :: _,ts,_,_,_,h,_=>by cases ts <;> exact h.elim
 | .own _ _ :: _,ts,_,_,_,h,_=>by cases ts <;> exact h.elim
 | .fn _ _ :: _,ts,_,_,_,h,_=>by cases ts <;> exact h.elim
 | .into _ _ :: _,ts,_,_,_,h,_=>by cases ts <;> exact h.elim
theorem alK (hO:za W W') (may:MemPlace->Prop):W.keptBut W' may:=by
 refine ⟨hO.1,hO.2.1,fun i hi=>?_⟩
 have h:W'.heap[i]?=W.heap[i]?:=hO.2.2.2 i hi
 rw [h]
 cases W.heap[i]? with
 | none=>rfl
 | some o=>
  cases o with
  | cells c t fr=>exact ⟨rfl,rfl,rfl,fun _ _=>rfl⟩
  | map es clock=>exact .inr ⟨rfl,rfl⟩
  | _=>rfl
abbrev Rm (W:World):Fr:=⟨fun b=>b<W.heap.size,hp W,fun _=>.slice none 0 0,rfl,fun _=>⟨none,0,0,rfl⟩⟩
theorem alT {f:FuncId} {fn:Func} {code:Code} {ps:List aV} {F:Nat->Cont (kin ps)->Option (Cont (eO [.val .bool [] []]++gq ps))} {s:ChangeSpec} {tb:TypeId} {N:Nat}
  (hf:P.funcs[f]?=some fn) (hname:(fn.name == "runtime.NumGoroutine")=false) (hbody:fn.body=some code) (hps:H9 P T ps fn.params.toList) (hres:fn.resultTypes=#[tb]) (htb:P.underlying tb=some .bool)
  (hE:letI:=Rm W; ∀n,aD P n ⟨f,ps,[.val .bool [] []],F⟩) (akH:∀c:Cont (kin ps),NI ps c->J8 ps c<=N->∃n out,F n c=some out/\out.1=true)
  (hvars:s.vars=[]) (hspec:∀ds:List (DataW H),ds.length=ps.length->s.fn H ds={ results:=[.lit (.bool true)],args:=ds })
  {base:Nat} {args:Array Value} {ds gs:List (DataW H)} {before:List MemPlace}
  (hval:∀(j:Nat) t v,fn.params[j]?=some t->args[j]?=some v->Value.okWide P W .any base t v)
  (hW:DataW.Whole enc P fn.params.toList s.vars false W args.toList ds gs before) (hb:uK (ds++gs)<=N) (hid:T.ids=false:=by rfl) :
  Calls P f args W fun e W'=>∃v,e=.returned v/\s.post enc P fn false true false false W args v W':=by
 letI fr:Fr:=Rm W
 have hW':=hW
 obtain ⟨p,q,hA,hV,hpq,hfz,hnd⟩:=hW
 rw [hvars] at hV
 obtain ⟨rfl,rfl⟩:=ChangeShapes.trodVars_none hV
 rw [h_] at hb
 obtain ⟨c,h1,h2,h3,h6⟩:=aa2 (T:=T) hid (fun b hb=>hb) hps hA (fun j t v ht hv=>hval j t v (by simpa using ht) (by simpa using hv))
 obtain ⟨n,out,h4,h5⟩:=akH c h6 (by omega)
 refine (alS (fun b hb=>⟨hb,rfl⟩) (hE n) h4 h5 h1 (Go.MuLone.run_callFunc_enter hf hname hbody args W)).mono ?_
 rintro e W' ⟨rfl,hO⟩
 have hsp:=hspec ds h3
 rw [h_] at hpq
 refine ⟨_,rfl,ds,[],before,[],p,[],hW', ?_, ?_, ?_,alK hO _,fun h=>by simp at h⟩
 ·rw [h_,hsp,hres]
  exact ⟨[],[],⟨1,by simp [DataW.trod,Value.cells,htb]⟩,rfl,rfl⟩
 ·rw [h_,hsp]
  exact abL hid hO (fun b hb=>by simpa using hb) hps hA
 ·rw [h_,hsp,hvars]
  exact rfl
end
end
section
open Go
structure uG where
 ty:List (TypeId×K)
 bytes:List (TypeId×Nat)
 ptr:List TypeId
 ids:Bool:=false
def look {A:Type} (n:Nat):List (Nat×A)->Option A
 | []=>none
 | (m,a) :: l=>bif Nat.beq n m then some a else look n l
def aaA (n:Nat):List (Nat×Nat)->Nat
 | []=>0
 | (m,a) :: l=>bif Nat.beq n m then a else aaA n l
def uG.tab (L:uG):bH:={ ty:=fun t=>look t L.ty,bytes:=fun t=>aaA t L.bytes,ptr:=fun t=>aa t L.ptr,eq:=fun _=>false,ids:=L.ids }
def Jl:K->Value->Bool
 | .int ik, .int jk (.ofNat 0)=>uN ik jk
 | .bool, .bool false=>true
 | .str, .string s=>Nat.beq s.data.size 0
 | .sl _ _, .slice none 0 0=>true
 | .id _, .slice none 0 0=>true
 | _,_=>false
def yz:K->List Value->Option (List Value)
 | .pair a b,l=>match yz a l with
  | some m=>yz b m
  | none=>none
 | .unit,l=>some l
 | .st f,l=>yz f l
 | .gap _,_=>none
 | k,v :: l=>bif Jl k v then some l else none
 | _,[]=>none
def SV:K->Value->Bool
 | .st f, .agg arr=>match yz f arr.toList with
  | some []=>true
  | _=>false
 | .st _,_=>false
 | k,v=>Jl k v
def Aa (P:Program) (t:TypeId) (k:K):Bool:=match P.info? t with
 | some i=>Nat.beq i.size k.size && (match i.zero with
  | some v=>SV k v
  | none=>false)
 | none=>false
def lq (P:Program) (T:bH):K->(TypeId->Bool)×(List Field->Nat->Bool)
 | .int ik=>(fun t=>(match P.underlying t with
  | some (.int jk)=>uN ik jk
  | _=>false) && Aa P t (.int ik),fun _ _=>false)
 | .bool=>(fun t=>(match P.underlying t with
  | some .bool=>true
  | _=>false) && Aa P t .bool,fun _ _=>false)
 | .str=>(fun t=>(match P.underlying t with
  | some .string=>true
  | _=>false) && Aa P t .str,fun _ _=>false)
 | .sl e k=>(fun t=>(match P.underlying t with
  | some (.slice e')=>Nat.beq e e'
  | _=>false) && Aa P t (.sl e k) && (lq P T k).1 e && Nat.blt 0 k.size && (match P.info? e with
  | some i=>Nat.beq i.bytes (T.bytes e) && Nat.blt 0 i.bytes
  | none=>false),fun _ _=>false)
 | .unit=>(fun _=>false,fun fs _=>fs.isEmpty)
 | .pair a b=>(fun _=>false,fun fs off=>match fs with
  | []=>false
  | f :: fs=>Nat.beq f.offset off && (lq P T a).1 f.type && Nat.blt 0 a.size && (lq P T b).2 fs (off+a.size))
 | .st c=>(fun t=>(match P.underlying t with
  | some (.struct fs)=>(lq P T c).2 fs.toList 0
  | _=>false) && Aa P t (.st c),fun _ _=>false)
 | .gap _=>(fun _=>false,fun _ _=>false)
 | .id e=>(fun t=>(match P.underlying t with
  | some (.slice e')=>Nat.beq e e'
  | _=>false) && Aa P t (.id e) && T.ids,fun _ _=>false)
def Ao (P:Program) (L:uG):Bool:=L.ty.all (fun q=>(lq P L.tab q.2).1 q.1) && L.ptr.all fun t=>match P.underlying t with
 | some (.pointer _)=>true
 | _=>false
section
variable [Fr] {P:Program} {T:bH}
theorem aac {k:K} {v:Value} (h:Jl k v=true):dR k=[v]/\jC k=v:=by
 unfold Jl at h
 split at h
 ·have:=Jh h; subst this; exact ⟨rfl,rfl⟩
 ·exact ⟨rfl,rfl⟩
 ·rename_i s
  have:s=ByteArray.empty:=by
   have h1:=bC h
   obtain ⟨d⟩:=s
   have:d=#[]:=U2 h1
   subst this
   rfl
  subst this
  exact ⟨rfl,rfl⟩
 ·exact ⟨rfl,rfl⟩
 ·exact ⟨rfl,rfl⟩
 ·simp at h
theorem alF:∀{k:K} {l m:List Value},yz k l=some m->l=dR k++m:=by
 intro k
 have one:∀{k:K} {l m:List Value},(match l with | v :: l=>(bif Jl k v then some l else none) | []=>none)=some m->l=dR k++m:=by
  intro k l m h
  cases l with
  | nil=>simp at h
  | cons v l=>
   obtain ⟨hb,h⟩:=zD h
   simp only [au] at h
   subst h
   rw [(aac hb).1]
   rfl
 induction k with
 | pair a b iha ihb=>
  intro l m h
  simp only [yz] at h
  split at h
  ·rename_i q hq
   rw [iha hq,ihb h]
   simp [dR]
  ·simp at h
 | unit=>intro l m h; simp only [yz,au] at h; subst h; rfl
 | st f ih=>intro l m h; exact ih (show yz f l=some m from h)
 | gap n=>intro l m h; simp [yz] at h
 | int ik=>intro l m h; exact one (k:=.int ik) (by cases l <;> exact h)
 | bool=>intro l m h; exact one (k:=.bool) (by cases l <;> exact h)
 | id e=>intro l m h; exact one (k:=.id e) (by cases l <;> exact h)
 | str=>intro l m h; exact one (k:=.str) (by cases l <;> exact h)
 | sl e k _=>intro l m h; exact one (k:=.sl e k) (by cases l <;> exact h)
theorem alG {k:K} {v:Value} (h:SV k v=true):jC k=v:=by
 unfold SV at h
 split at h
 ·rename_i f arr
  split at h
  ·rename_i hz
   have:=alF hz
   simp only [h_] at this
   show Value.agg (dR f).toArray=.agg arr
   rw [<-this]
  ·simp at h
 ·simp at h
 ·exact (aac h).2
theorem Fg {t:TypeId} {k:K} (h:Aa P t k=true):sS P t k:=by
 unfold Aa at h
 split at h
 ·rename_i i hi
  simp only [bg] at h
  obtain ⟨h1,h2⟩:=h
  split at h2
  ·rename_i v hv
   exact ⟨i,hi,bC h1,by rw [hv,alG h2]⟩
  ·simp at h2
 ·simp at h
theorem QG {a b:Nat} (h:Nat.blt a b=true):a<b:=by
 unfold Nat.blt at h
 exact Mk h
theorem an3:∀{k:K},(∀t,(lq P T k).1 t=true->(jO P T k).1 t)/\∀fs off,(lq P T k).2 fs off=true->(jO P T k).2 fs off:=by
 intro k
 induction k with
 | int ik=>
  refine ⟨fun t h=>?_,fun fs off h=>by simp [lq] at h⟩
  simp only [lq,bg] at h
  obtain ⟨h1,h2⟩:=h
  split at h1
  ·rename_i jk hu
   have:=Jh h1; subst this
   exact ⟨hu,Fg h2⟩
  ·simp at h1
 | bool=>
  refine ⟨fun t h=>?_,fun fs off h=>by simp [lq] at h⟩
  simp only [lq,bg] at h
  obtain ⟨h1,h2⟩:=h
  split at h1
  ·rename_i hu; exact ⟨hu,Fg h2⟩
  ·simp at h1
 | str=>
  refine ⟨fun t h=>?_,fun fs off h=>by simp [lq] at h⟩
  simp only [lq,bg] at h
  obtain ⟨h1,h2⟩:=h
  split at h1
  ·rename_i hu; exact ⟨hu,Fg h2⟩
  ·simp at h1
 | sl e k ih=>
  refine ⟨fun t h=>?_,fun fs off h=>by simp [lq] at h⟩
  simp only [lq,bg] at h
  obtain ⟨⟨⟨⟨h1,h2⟩,h3⟩,h4⟩,h5⟩:=h
  split at h1
  ·rename_i e' hu
   have:=bC h1; subst this
   split at h5
   ·rename_i i hi
    simp only [bg] at h5
    exact ⟨hu,Fg h2,ih.1 e h3,QG h4,i,hi,bC h5.1,QG h5.2⟩
   ·simp at h5
  ·simp at h1
 | unit=>exact ⟨fun t h=>by simp [lq] at h,fun fs off h=>show fs=[] by simpa [lq] using h⟩
 | gap n=>exact ⟨fun t h=>by simp [lq] at h,fun fs off h=>by simp [lq] at h⟩
 | id e=>
  refine ⟨fun t h=>?_,fun fs off h=>by simp [lq] at h⟩
  simp only [lq,bg] at h
  obtain ⟨⟨h1,h2⟩,h3⟩:=h
  split at h1
  ·rename_i e' hu
   have:=bC h1; subst this
   exact ⟨hu,Fg h2,h3⟩
  ·simp at h1
 | pair a b iha ihb=>
  refine ⟨fun t h=>by simp [lq] at h,fun fs off h=>?_⟩
  cases fs with
  | nil=>simp [lq] at h
  | cons f fs=>
   simp only [lq,bg] at h
   obtain ⟨⟨⟨h1,h2⟩,h3⟩,h4⟩:=h
   exact ⟨bC h1,iha.1 _ h2,QG h3,ihb.2 _ _ h4⟩
 | st c ih=>
  refine ⟨fun t h=>?_,fun fs off h=>by simp [lq] at h⟩
  simp only [lq,bg] at h
  obtain ⟨h1,h2⟩:=h
  split at h1
  ·rename_i fs hu
   exact ⟨⟨fs,hu,ih.2 _ _ h1⟩,Fg h2⟩
  ·simp at h1
theorem aaD {A:Type} {n:Nat} {a:A}:∀{l:List (Nat×A)},look n l=some a->(n,a)∈l
 | [],h=>by simp [look] at h
 | (m,b) :: l,h=>by
  simp only [look] at h
  cases hb:Nat.beq n m with
  | true=>
   rw [hb] at h
   have:=bC hb
   simp only [gJ,au] at h
   subst this h
   simp
  | false=>
   rw [hb] at h
   exact .tail _ (aaD h)
theorem UG {L:uG} (h:Ao P L=true):fJ P L.tab:=by
 unfold Ao at h
 simp only [bg,eH] at h
 refine ⟨fun t k ht=>an3.1 t (h.1 (t,k) (aaD ht)),fun t ht=>?_⟩
 have:=h.2 t (b_.1 ht)
 split at this
 ·rename_i e he; exact ⟨e,he⟩
 ·simp at this
theorem amw {L:uG}:wT P L.tab:=fun t c x y u v w hp1 hp2 ok1 ok2 _ he=>by simp [uG.tab] at he
end
end
section
open Go
abbrev Dp (T:bH) (hi:Hint) (fn:Func) (E:Entry):Prop:=∀n (c:Cont (kin E.ps)),MW T hi fn E.ps E.rs n c=E.F n c
variable [Fr] {P:Program} {n:Nat}
theorem aP:∀q∈([]:List (Nat×Option Nat×Entry)),aD P n q.2.2:=by simp
theorem ak {f:Nat} {d:Option Nat} {E:Entry} {l:List (Nat×Option Nat×Entry)} (h:aD P n E) (t:∀q∈l,aD P n q.2.2):∀q∈(f,d,E) :: l,aD P n q.2.2:=by
 intro q hq
 rcases bT.1 hq with rfl | hq
 ·exact h
 ·exact t q hq
theorem aQ (hm:P.follows .mixedOrders=true) {L:uG} (hL:Ao P L=true) {E:Entry} {fn:Func} (hf:P.funcs[E.f]?=some fn) (hname:(fn.name == "runtime.NumGoroutine")=false) {hi:Hint} (hC:∀q∈hi.calls,aD P n q.2.2)
  (hD:∀n (c:Cont (kin E.ps)),MW L.tab hi fn E.ps E.rs n c=E.F n c):aD P n E:=
 ahW hm (UG hL) amw hf hname hC (fun c out h=>by rw [hD]; exact h)
end
section
open Go
def rE {A:Type} (xs:List A) (i:Nat) (d:A) (f:A->A):List A:=xs.set i (f (xs.getD i d))
def gz {R:Type} (step:Nat->Option R) (fin:R):Nat->Nat->R
 | 0,_=>fin
 | m+1,i=>match step i with
  | some r=>r
  | none=>gz step fin m (i+1)
theorem am_ {V R:Type} {B:(V->Option R)->V->Option R} (S:Nat->V) (step:Nat->Option (Option R)) (fin:Option R) {m:Nat} (h1:∀L i,i<m->(∀j,j<i->step j=none)->B L (S i)=match step i with | some r=>r | none=>L (S (i+1))) (h2:∀L,(∀j,j<m->step j=none)->B L (S m)=fin) :
  ∀(d i n:Nat),i+d=m->d<n->(∀j,j<i->step j=none)->rounds B n (S i)=gz step fin d i:=by
 intro d
 induction d with
 | zero=>
  intro i n hi hn hp
  cases n with
  | zero=>omega
  | succ n=>
   have:i=m:=by omega
   subst this
   exact h2 _ hp
 | succ d ih=>
  intro i n hi hn hp
  cases n with
  | zero=>omega
  | succ n=>
   show B (rounds B n) (S i)=_
   rw [h1 _ i (by omega) hp]
   unfold gz
   cases hs:step i with
   | some r=>rfl
   | none=>exact ih (i+1) n (by omega) (by omega) (fun j hj=>by
     by_cases e:j=i
     ·rw [e,hs]
     ·exact hp j (by omega))
theorem iA {V R:Type} {B:(V->Option R)->V->Option R} {v0:V} (S:Nat->V) (step:Nat->Option (Option R)) (fin:Option R) {m n:Nat} (h0:v0=S 0) (hn:m<n) (h1:∀L i,i<m->(∀j,j<i->step j=none)->B L (S i)=match step i with | some r=>r | none=>L (S (i+1))) (h2:∀L,(∀j,j<m->step j=none)->B L (S m)=fin) :
  rounds B n v0=gz step fin m 0:=by
 rw [h0]
 exact am_ S step fin h1 h2 m 0 n (by omega) hn (fun j h=>by omega)
theorem nT {A:Type} {l:List A} {i:Nat} (h:i<l.length) (d:A):l.getD ((i:Int).toNat) d=l[i]:=by
 simp [h]
theorem mQ {R:Type} {step:Nat->Option R} {fin:R}:∀{m i:Nat},(∀j,i<=j->j<i+m->step j=none)->gz step fin m i=fin:=by
 intro m
 induction m with
 | zero=>intro i _; rfl
 | succ m ih=>
  intro i h
  unfold gz
  rw [h i (bN _) (by omega)]
  exact ih (fun j h1 h2=>h j (by omega) (by omega))
theorem aja {R:Type} {s1 s2:Nat->Option R} {f1 f2:R} (hf:f1=f2):∀{m i:Nat},(∀j,i<=j->j<i+m->s1 j=s2 j)->gz s1 f1 m i=gz s2 f2 m i:=by
 intro m
 induction m with
 | zero=>intro i _; exact hf
 | succ m ih=>
  intro i h
  unfold gz
  rw [h i (bN _) (by omega)]
  cases s2 i with
  | some r=>rfl
  | none=>exact ih (fun j h1 h2=>h j (by omega) (by omega))
theorem YF {R:Type} {step:Nat->Option R} {fin r:R} (hc:∀j,step j=none\/step j=some r):∀{m i:Nat},gz step fin m i=r\/gz step fin m i=fin:=by
 intro m
 induction m with
 | zero=>intro i; exact .inr rfl
 | succ m ih=>
  intro i
  unfold gz
  rcases hc i with h | h
  ·rw [h]; exact ih
  ·rw [h]; exact .inl rfl
theorem wrap_i64 {x:Int} (h1 : -9223372036854775808<=x) (h2:x<=9223372036854775807):IntKind.i64.wrap x=x:=by
 simp [IntKind.wrap,IntKind.bits,IntKind.signed]
 omega
theorem gu {i:Nat} {n:Nat} (h:i<n) (hn:n<=9223372036854775807):IntKind.i64.wrap ((i:Int)+1)=((i+1:Nat):Int):=by
 rw [wrap_i64 (by omega) (by omega)]
 omega
theorem dz {i n:Nat} (h:i<n):aM (i:Int) n:=⟨by omega,by omega⟩
end
section
open Go
variable [Fr]
section
variable {P:Program} {cx:Cx} {Z:St} {J:aH} {F:List Nat} {a:Act} {w w':World}
theorem Rel.grown (H:Rel cx Z J F a w) (hO:za w w') (ht:w'.tape=w.tape):Rel cx Z J F a w':=H.YQ hO.1 hO.2.1 hO.2.2.1 hO.2.2.2 ht
end
end
section
open Go
variable [Fr]
section
variable {P:Program} {cx:Cx} {Z:St} {J:aH} {F:List Nat} {a:Act} {w w':World}
theorem Rel.ajv (H:Rel cx Z J F a w) (hO:za w w') (ht:w'.tape=w.tape) (G:List Nat) (hG:∀b∈G,w.heap.size<=b/\b<w'.heap.size) (hnd:G.Nodup):Rel cx Z J (G++F) a w':=by
 have hs:∀r,Same Z J Z J r:=fun r=>⟨rfl,rfl,rfl,rfl⟩
 have hch:∀b,b<w.heap.size->hp w' b=hp w b:=hO.2.2.2
 have T:iC cx Z J F w Z J (G++F) w' (fun _=>[]) (fun _=>[]):=by
  refine ⟨rfl,⟨hO.1,ht,hO.2.1⟩,hO.2.2.1,fun r R hr=>⟨R,hr, ?_⟩,fun r R' _ h=>absurd (hs r) h,fun r R' h1 h2=>by rw [h1] at h2; simp at h2,fun b hb hne=>absurd (hch b hb) hne, ?_, ?_,
   fun r R' _ h=>absurd (hs r) h,fun r R r' R' _ _ _ h=>absurd (hs r) h, ?_,fun r R R' h1 h2 _=>by rw [h1] at h2; simp only [au] at h2; subst h2; exact ⟨rfl,rfl⟩⟩
  ·cases hd:R.bY with
   | true=>exact .inl ⟨rfl,fun hk=>by unfold Root.bY at hd; rw [hk] at hd; simp at hd⟩
   | false=>exact .inr ⟨rfl,rfl,rfl,bN _,rfl,rfl,fun _=>rfl, .inr ⟨rfl,rfl,hs r⟩⟩
  ·rintro b (⟨r,R,h1,h2,h3⟩ | h)
   ·exact absurd ⟨R,h1,h2⟩ h3
   ·rcases bW.1 h with h | h
    ·exact .inr (.inl (hG b h))
    ·exact .inl h
  ·refine cK.2 ⟨hnd,H.iq,fun b h1 c h2 e=>?_⟩
   have:=(hG b h1).1
   have:=(H.fl c h2).1
   omega
  ·intro j pi b o n h1 h2 hne
   obtain ⟨R,hR,hk,hl,_⟩:=H.kM j pi b o n h1 h2
   exact absurd (hch b ((H.roots _ R hR).mine b (by simp [blk,aK,hk,hl])).1) hne
 exact H.turn T (fun r R _ h=>absurd (hs r) h) (fun r R _ h=>absurd (hs r) h) (fun r R _ h=>absurd (hs r) h)
def G8:(ps:List aV)->Cont (kin ps)->List Value->Prop
 | [],_,[]=>True
 | .val k _ :: ps,c,v :: vs=>(∃cs,VC k v cs/\Vw (fun _=>none) (fun _=>False) k c.1 cs)/\G8 ps c.2 vs
 | .fn f [] :: ps,c,v :: vs=>v=.func (.func f) #[] #[]/\G8 ps c vs
 | .into _ [] :: ps,c,v :: vs=>(∃b,v=.slice b 0 0)/\G8 ps c vs
 | _,_,_=>False
def mR:List aV->Bool
 | []=>true
 | .val k _ :: ps=>k.flat && mR ps
 | .fn _ [] :: ps=>mR ps
 | .into _ [] :: ps=>mR ps
 | _=>false
theorem M4:∀{ps:List aV} {i:Nat} {c:Cont (kin ps)} {vs:List Value},mR ps=true->vs.length=ps.length->(∀j v,vs[j]?=some v->jv cx Z J F w (jm (gp ps i c) (i+j)) v)->G8 ps c vs
 | [],_,_,[],_,_,_=>trivial
 | [],_,_,_ :: _,_,h,_=>by simp at h
 | .val k l :: ps,i,c,[],_,h,_=>by simp at h
 | .val k l :: ps,i,c,v :: vs,hf,hl,h=>by
  simp only [mR,bg] at hf
  have h0:=h 0 v rfl
  have e0:jm (gp (.val k l :: ps) i c) (i+0)=.one (.val k c.1 (bif k.flat then [] else (jA i,0) :: l.map fun j=>(ah j,0))):=by
   simp only [gp,jm,pK]
   rw [show Nat.beq i i=true from Nat.beq_refl i]
   rfl
  rw [e0] at h0
  obtain ⟨cs,h1,h2⟩:=h0 (.inl hf.1)
  refine ⟨⟨cs,h1,ni hf.1 h2⟩,M4 (i:=i+1) hf.2 (by simpa using hl) fun j u hu=>?_⟩
  have hj:=h (j+1) u (by simpa using hu)
  have e1:jm (gp (.val k l :: ps) i c) (i+(j+1))=jm (gp ps (i+1) c.2) (i+1+j):=by
   simp only [gp,jm]
   have hb:Nat.beq (i+(j+1)) i=false:=by
    cases hb:Nat.beq (i+(j+1)) i with
    | true=>have:=bC hb; omega
    | false=>rfl
   rw [hb,show i+(j+1)=i+1+j by omega]
   rfl
  rw [e1] at hj
  exact hj
 | .fn f [] :: ps,i,c,[],_,h,_=>by simp at h
 | .fn f [] :: ps,i,c,v :: vs,hf,hl,h=>by
  have hf':mR ps=true:=hf
  have h0:=h 0 v rfl
  have e0:jm (gp (.fn f [] :: ps) i c) (i+0)=.one (.fn f []):=by
   simp only [gp,jm,pK]
   rw [show Nat.beq i i=true from Nat.beq_refl i]
   rfl
  rw [e0] at h0
  obtain ⟨us,h1,h2⟩:=h0
  refine ⟨?_,M4 (i:=i+1) hf' (by simpa using hl) fun j u hu=>?_⟩
  ·cases us with
   | nil=>exact h1
   | cons u us=>exact h2.elim
  ·have hj:=h (j+1) u (by simpa using hu)
   have e1:jm (gp (.fn f [] :: ps) i c) (i+(j+1))=jm (gp ps (i+1) c) (i+1+j):=by
    simp only [gp,jm]
    have hb:Nat.beq (i+(j+1)) i=false:=by
     cases hb:Nat.beq (i+(j+1)) i with
     | true=>have:=bC hb; omega
     | false=>rfl
    rw [hb,show i+(j+1)=i+1+j by omega]
    rfl
   rw [e1] at hj
   exact hj
 | .fn f (_ :: _) :: _,_,_,_,hf,_,_=>by simp [mR] at hf
 | .ro _ :: _,_,_,_,hf,_,_=>by simp [mR] at hf
 | .rw _ _ _ _ :: _,_,_,_,hf,_,_=>by simp [mR] at hf
 | .bR _ _ _ :: _,_,_,_,hf,_,_=>by simp [mR] at hf
 | .own _ _ :: _,_,_,_,hf,_,_=>by simp [mR] at hf
 | .into _ [] :: ps,i,c,[],_,h,_=>by simp at h
 | .into m [] :: ps,i,c,v :: vs,hf,hl,h=>by
  have hf':mR ps=true:=hf
  have h0:=h 0 v rfl
  have e0:jm (gp (.into m [] :: ps) i c) (i+0)=.one .fG:=by
   simp only [gp,jm,pK]
   rw [show Nat.beq i i=true from Nat.beq_refl i]
   rfl
  rw [e0] at h0
  refine ⟨h0,M4 (i:=i+1) hf' (by simpa using hl) fun j u hu=>?_⟩
  have hj:=h (j+1) u (by simpa using hu)
  have e1:jm (gp (.into m [] :: ps) i c) (i+(j+1))=jm (gp ps (i+1) c) (i+1+j):=by
   simp only [gp,jm]
   have hb:Nat.beq (i+(j+1)) i=false:=by
    cases hb:Nat.beq (i+(j+1)) i with
    | true=>have:=bC hb; omega
    | false=>rfl
   rw [hb,show i+(j+1)=i+1+j by omega]
   rfl
  rw [e1] at hj
  exact hj
 | .into _ (_ :: _) :: _,_,_,_,hf,_,_=>by simp [mR] at hf
theorem IE {Z:St}:∀{ps:List aV} {i:Nat} {c:Cont (gq ps)},mR ps=true->rU Z ps i c
 | [],_,_,_=>trivial
 | .val k l :: ps,i,c,hf=>by
  simp only [mR,bg] at hf
  exact IE (ps:=ps) (i:=i+1) (c:=c) hf.2
 | .fn f [] :: ps,i,c,hf=>IE (ps:=ps) (i:=i+1) (c:=c) hf
 | .fn f (_ :: _) :: _,_,_,hf=>by simp [mR] at hf
 | .ro _ :: _,_,_,hf=>by simp [mR] at hf
 | .rw _ _ _ _ :: _,_,_,hf=>by simp [mR] at hf
 | .bR _ _ _ :: _,_,_,hf=>by simp [mR] at hf
 | .own _ _ :: _,_,_,hf=>by simp [mR] at hf
 | .into _ [] :: ps,i,c,hf=>IE (ps:=ps) (i:=i+1) (c:=c) hf
 | .into _ (_ :: _) :: _,_,_,hf=>by simp [mR] at hf
def Xh (w w':World) (t:TypeId) (k:K) (xs:List (El k)) (v:Value):Prop:=
 (∃p,v=.slice p 0 0/\xs=[])\/∃g cap cur,v=.slice (some ⟨g,0,none⟩) xs.length cap/\w.heap.size<=g/\hp w' g=some (.cells cur t (0,0))/\xs.length<=cap/\cap * k.size<=cur.size/\
  ∀(i:Nat) (hi:i<xs.length),∃ds,Cells (hp w') g (i * k.size) ds/\Vw (fun _=>none) (fun _=>False) k xs[i] ds
theorem ahL {n:Nat} {f:FuncId} {ps:List aV} {t:TypeId} {k:K} {E:Nat->Cont (kin ps)->Option (Cont (eO [.own (.sl t k) [t] [] []]++gq ps))} (hps:mR ps=true) (hk:k.flat=true)
  (h:∀c out,E n c=some out->∀(args:Array Value) (w:World),(∀b,Fr.free b->hp w b=Fr.obj b)->G8 ps c args.toList->Dn P f args w fun v w'=>za w w'/\w'.tape=w.tape/\Xh w w' t k out.1 v) :
  aD P n ⟨f,ps,[.own (.sl t k) [t] [] []],E⟩:=by
 intro c out hout cx J args w _ _ hsz _ H
 have hA:=M4 (cx:=cx) (Z:=fD ps c) (J:=J) (F:=[]) (w:=w) (i:=0) (c:=c) (vs:=args.toList) hps (by simpa using hsz) (fun j v hv=>by
  have:=H.slots j
  rw [wD] at hv
  rw [Gc,hv] at this
  rw [om]
  exact this)
 have hkt:k.tys=[]:=Cj hk
 have hpost:∀v w',(za w w'/\w'.tape=w.tape/\Xh w w' t k out.1 v)->Post cx ps [.own (.sl t k) [t] [] []] out v w':=by
  rintro v w' ⟨h1,h2,h3⟩
  have hall:((K.sl t k).tys.all fun u=>aa u [t])=true:=by simp [K.tys,hkt,aa]
  rcases h3 with ⟨p,rfl,hx⟩ | ⟨g,cap,cur,rfl,g1,g2,g3,g4,g5⟩
  ·refine ⟨_,J,[],_,[_],[[]],H.grown h1 h2,rfl,⟨⟨[],[.slice p 0 0],[t], .inl hall,fun _ _ h=>h,J3, ?_⟩,trivial⟩,by simp,fun b hb=>by simp at hb,IE hps⟩
   have e:(Cont.fst (eO [gN.own (.sl t k) [t] [] []]) (gq ps) out).1=([]:List (El k)):=hx
   rw [e]
   exact FC
  ·have hlt:g<w'.heap.size:=akW g2
   refine ⟨_,J,[g],_,[_],[[g]],H.ajv h1 h2 [g] (fun b hb=>by simp only [gI] at hb; subst hb; exact ⟨g1,hlt⟩) (by simp),rfl,⟨⟨[],[.slice (some ⟨g,0,none⟩) _ cap],[t], .inl hall,fun _ _ h=>h,⟨rfl,by simp⟩, ?_⟩,trivial⟩,by simp,fun b hb=>by simpa using hb,IE hps⟩
   have e:(Cont.fst (eO [gN.own (.sl t k) [t] [] []]) (gq ps) out).1=out.1:=rfl
   rw [e]
   unfold Ow
   rw [aj (by simp [aa])]
   refine ⟨some ⟨g,0,none⟩,_,cap,rfl,rfl,g3, .inr ⟨g,0,cur,0,0,rfl,g2,jq.zero,by omega,List.replicate (@List.length (El k) out.1) [],by simp,by simp,fun i hi=>?_⟩⟩
   obtain ⟨ds,d1,d2⟩:=g5 i hi
   refine ⟨ds,by rw [om]; exact d1, ?_⟩
   have:(List.replicate (@List.length (El k) out.1) ([]:List Nat)).getD i []=[]:=by
    rw [ig,List.getElem?_replicate]
    split <;> rfl
   rw [this]
   exact ze (fun u hu=>by rw [hkt] at hu; simp at hu) (ni hk d2)
 rcases h c out hout args w (fun b hb=>H.fixed hb) hA with ⟨h1,h2⟩ | ⟨v,w',h1,h2⟩
 ·refine .inl ⟨h1,h2.mono ?_⟩
  rintro e w' ⟨v,rfl,hv⟩
  exact ⟨v,rfl,hpost v w' hv⟩
 ·exact .inr ⟨v,w',h1,hpost v w' h2⟩
end
end
section
open Go
variable [Fr]
section
variable {P:Program} {cx:Cx} {Z:St} {J:aH} {F:List Nat} {a:Act} {w w':World}
end
end
section
open Go
section
variable {e:TypeId} {kk:K}
def Rw (e:TypeId) (kk:K) (z:Bool) (tb:Nat->List (El kk)):(k k':K)->El k->El k'->List Nat->Prop
 | .sl f k, .id f',xs,i,ns=>f=e/\f'=e/\∃h:k=kk,h▸(show List (El k) from xs)=tb i/\((i≠(0:Nat)/\ns=[i])\/(z=true/\i=(0:Nat)/\tb 0=[]/\ns=[]))
 | .sl f k, .sl f' k',xs,ys,ns=>f=f'/\k'.size=k.size/\(show List (El k) from xs).length=(show List (El k') from ys).length/\∃nss:List (List Nat),nss.length=(show List (El k) from xs).length/\ns=nss.flatten/\
   ∀(i:Nat) (h1:i<(show List (El k) from xs).length) (h2:i<(show List (El k') from ys).length),Rw e kk z tb k k' ((show List (El k) from xs)[i]) ((show List (El k') from ys)[i]) (nss.getD i [])
 | .pair a b, .pair a' b',x,y,ns=>∃n1 n2,ns=n1++n2/\Rw e kk z tb a a' x.1 y.1 n1/\Rw e kk z tb b b' x.2 y.2 n2
 | .st f, .st f',x,y,ns=>Rw e kk z tb f f' x y ns
 | .int ik, .int jk,x,y,ns=>ik=jk/\(show Int from x)=y/\ns=[]
 | .bool, .bool,x,y,ns=>(show Bool from x)=y/\ns=[]
 | .str, .str,x,y,ns=>(show List Int from x)=y/\ns=[]
 | .unit, .unit,_,_,ns=>ns=[]
 | _,_,_,_,_=>False
theorem Rw.size {z:Bool} {tb:Nat->List (El kk)}:∀{k k':K} {x:El k} {y:El k'} {ns:List Nat},Rw e kk z tb k k' x y ns->k'.size=k.size:=by
 intro k
 induction k with
 | sl f k ih=>intro k' x y ns h; cases k' <;> first | rfl | exact h.elim
 | pair a b iha ihb=>
  intro k' x y ns h
  cases k' with
  | pair a' b'=>unfold Rw at h; obtain ⟨n1,n2,_,h1,h2⟩:=h; simp [K.size,iha h1,ihb h2]
  | _=>exact h.elim
 | st f ih=>
  intro k' x y ns h
  cases k' with
  | st f'=>unfold Rw at h; exact ih (k':=f') (x:=x) (y:=y) (ns:=ns) h
  | _=>exact h.elim
 | int ik=>intro k' x y ns h; cases k' <;> first | rfl | exact h.elim
 | bool=>intro k' x y ns h; cases k' <;> first | rfl | exact h.elim
 | str=>intro k' x y ns h; cases k' <;> first | rfl | exact h.elim
 | unit=>intro k' x y ns h; cases k' <;> first | rfl | exact h.elim
 | gap n=>intro k' x y ns h; cases k' <;> exact h.elim
 | id f=>intro k' x y ns h; cases k' <;> exact h.elim
abbrev nN:=Nat×Value×List Nat
def aY (l:List nN):List Nat:=l.flatMap (·.2.2)
theorem UK:∀(l:List (List nN)),aY l.flatten=(l.map aY).flatten
 | []=>rfl
 | a :: l=>by
  simp only [lV,lD]
  unfold aY at *
  rw [L6]
  congr 1
  exact UK l
theorem TR {A:Type}:∀{ay fs gs:List (List A)},fs.length=ay.length->gs.length=ay.length->(∀i,i<ay.length->(ay.getD i []).Perm (fs.getD i []++gs.getD i []))->ay.flatten.Perm (fs.flatten++gs.flatten)
 | [],[],[],_,_,_=>.refl _
 | f :: ay,[],_,h,_,_=>by simp at h
 | f :: ay,_ :: _,[],_,h,_=>by simp at h
 | [],_ :: _,_,h,_,_=>by simp at h
 | [],[],_ :: _,_,h,_=>by simp at h
 | f :: ay,a :: fs,b :: gs,h1,h2,h=>by
  have h0:=h 0 (by simp)
  have ht:=TR (ay:=ay) (fs:=fs) (gs:=gs) (by simpa using h1) (by simpa using h2) (fun i hi=>by have:=h (i+1) (by simpa using hi); simpa using this)
  simp only [lV]
  have h0':f.Perm (a++b):=by simpa using h0
  refine (h0'.append ht).trans ?_
  simp only [gD]
  refine vo a ?_
  rw [<-gD, <-gD]
  exact sU _ BB
variable [fr:Fr]
abbrev dU (fr:Fr) (bI:Nat->Value) (h0:bI 0=.slice none 0 0) (hs:∀i,∃a n c,bI i=.slice a n c):Fr:=⟨fr.free,fr.obj,bI,h0,hs⟩
theorem Xj {h:Heap} {own:List TypeId} {ok:Nat->Prop} {tb:Nat->List (El kk)}:∀{k k':K} {x:El k} {y:El k'} {ns:List Nat} {cs:List Value} {fo:List Nat},(∀t∈k.tys,aa t own=true)->
  Rw e kk false tb k k' x y ns->Ow h own ok k x cs fo->
  ∃(aO:List nN) (aF:List Nat),aO.map (·.1)=ns/\fo.Perm (aF++aY aO)/\(∀q∈aO,Ow h own ok (.sl e kk) (tb q.1) [q.2.1] q.2.2)/\
   ∀fr':Fr,fr'.free=fr.free->(∀q∈aO,fr'.bI q.1=q.2.1)->@Ow fr' h own ok k' y cs aF:=by
 intro k
 induction k with
 | sl f k ih=>
  intro k' x y ns cs fo hown hR hO
  cases k' with
  | id f'=>
   obtain ⟨rfl,rfl,hk,hx,hi⟩:=hR
   subst hk
   rcases hi with ⟨_,rfl⟩ | ⟨hz,_⟩
   ·have mg:=hO
    unfold Ow at hO
    rw [aj (hown f' (by simp [K.tys]))] at hO
    obtain ⟨a,n,c,rfl,_⟩:=hO
    refine ⟨[(y, .slice a n c,fo)],[],rfl,by simp [aY],fun q hq=>?_,fun fr' _ akA=>⟨rfl, ?_⟩⟩
    ·simp only [gI] at hq
     subst hq
     show Ow h own ok (.sl f' k) (tb y:List (El k)) _ _
     rw [<-hx]
     exact mg
    ·show _=[fr'.bI y]
     rw [akA _ (gI.2 rfl)]
   ·simp at hz
  | sl f' k'=>
   obtain ⟨rfl,hsz,hl,nss,hnl,rfl,hat⟩:=hR
   have hf:aa f own=true:=hown f (by simp [K.tys])
   unfold Ow at hO
   rw [aj hf] at hO
   obtain ⟨a,n,c,rfl,hn,hnc,hO⟩:=hO
   rcases hO with ⟨hc,rfl⟩ | ⟨b,o,arr,lo,hi,rfl,hb,hfz,hoc,ay,hfl,hfo,hel⟩
   ·have h0:(show List (El k) from x).length=0:=by omega
    refine ⟨[],[], ?_,by simp [aY],fun q hq=>by simp at hq,fun fr' _ _=>?_⟩
    ·have:nss=[]:=List.length_eq_zero_iff.1 (by omega)
     rw [this]; rfl
    ·unfold Ow
     rw [aj hf]
     exact ⟨a,n,c,rfl,by omega,hnc, .inl ⟨hc,rfl⟩⟩
   ·have hone:∀i,i<(show List (El k) from x).length->∃q:List nN×List Nat,∀(h1:i<(show List (El k) from x).length) (h2:i<(show List (El k') from y).length),q.1.map (·.1)=nss.getD i []/\(ay.getD i []).Perm (q.2++aY q.1)/\(∀t∈q.1,Ow h own ok (.sl e kk) (tb t.1) [t.2.1] t.2.2)/\
      ∀fr':Fr,fr'.free=fr.free->(∀t∈q.1,fr'.bI t.1=t.2.1)->∃ds, @Cells h b (o+i * k.size) ds/\@Ow fr' h own ok k' ((show List (El k') from y)[i]) ds q.2:=by
     intro i h1
     obtain ⟨ds,g1,g2⟩:=hel i h1
     obtain ⟨aO,aF,f1,f2,f3,f4⟩:=ih (fun t ht=>hown t (by simp [K.tys,ht])) (hat i h1 (by omega)) g2
     exact ⟨(aO,aF),fun _ _=>⟨f1,f2,f3,fun fr' e1 e2=>⟨ds,g1,f4 fr' e1 e2⟩⟩⟩
    obtain ⟨qs,Ns,hq⟩:=Yd hone
    refine ⟨(qs.map (·.1)).flatten,b :: (qs.map (·.2)).flatten, ?_, ?_, ?_,fun fr' e1 e2=>?_⟩
    ·rw [List.map_flatten,Mf]
     congr 1
     apply LZ
     ·simp; omega
     ·intro i h1 h2
      have hi:i<qs.length:=by simpa using h1
      have:=(hq i hi (by omega) (by omega)).1
      simp only [List.getElem_map,Function.comp_apply]
      rw [this,ig,jd h2]
      rfl
    ·refine hfo.trans ?_
     rw [UK,kX]
     refine List.Perm.cons b (TR (by simp; omega) (by simp; omega) fun i hi=>?_)
     have hi':i<qs.length:=by omega
     have:=(hq i hi' (by omega) (by omega)).2.1
     simp only [ig,DZ,jd hi',oU,tq,Mf,Function.comp_apply] at this ⊢
     exact this
    ·intro t ht
     obtain ⟨l,hl,ht⟩:=BA.1 ht
     obtain ⟨q,hq',rfl⟩:=fI.1 hl
     obtain ⟨i,hi,rfl⟩:=List.getElem_of_mem hq'
     exact (hq i hi (by omega) (by omega)).2.2.1 t ht
    ·unfold Ow
     rw [aj hf]
     refine ⟨_,n,c,rfl,by omega,hnc, .inr ⟨b,o,arr,lo,hi,rfl,hb,hfz, ?_,qs.map (·.2),by rw [oQ,Ns]; exact hl, .refl _,fun i hi'=>?_⟩⟩
     ·rw [hsz]; exact hoc
     ·have R9:i<qs.length:=by omega
      obtain ⟨ds,g1,g2⟩:=(hq i R9 (by omega) hi').2.2.2 fr' e1 (fun t ht=>e2 t (BA.2 ⟨_,fI.2 ⟨qs[i],jY R9,rfl⟩,ht⟩))
      refine ⟨ds, ?_, ?_⟩
      ·rw [hsz]; exact g1
      ·have:(qs.map (·.2)).getD i []=qs[i].2:=by simp [ig,DZ,jd R9]
       rw [this]
       exact g2
  | _=>exact hR.elim
 | pair a b iha ihb=>
  intro k' x y ns cs fo hown hR hO
  cases k' with
  | pair a' b'=>
   obtain ⟨n1,n2,rfl,r1,r2⟩:=hR
   obtain ⟨c1,c2,f1,f2,rfl,hp,o1,o2⟩:=hO
   obtain ⟨t1,g1,p1,p2,p3,p4⟩:=iha (fun t ht=>hown t (by simp [K.tys,ht])) r1 o1
   obtain ⟨t2,g2,q1,q2,q3,q4⟩:=ihb (fun t ht=>hown t (by simp [K.tys,ht])) r2 o2
   refine ⟨t1++t2,g1++g2,by rw [rQ,p1,q1], ?_,fun q hq=>?_,fun fr' e1 e2=>⟨c1,c2,g1,g2,rfl, .refl _,p4 fr' e1 (fun q hq=>e2 q (bK _ hq)),q4 fr' e1 (fun q hq=>e2 q (bB _ hq))⟩⟩
   ·refine hp.trans ((p2.append q2).trans ?_)
    have:aY (t1++t2)=aY t1++aY t2:=by simp [aY]
    rw [this]
    simp only [gD]
    refine vo g1 ?_
    rw [<-gD, <-gD]
    exact sU _ BB
   ·rcases bW.1 hq with hq | hq
    ·exact p3 q hq
    ·exact q3 q hq
  | _=>exact hR.elim
 | st f ih=>
  intro k' x y ns cs fo hown hR hO
  cases k' with
  | st f'=>
   obtain ⟨aO,aF,f1,f2,f3,f4⟩:=ih (k':=f') (x:=x) (y:=y) (ns:=ns) (cs:=cs) (fo:=fo) hown hR hO
   exact ⟨aO,aF,f1,f2,f3,fun fr' e1 e2=>f4 fr' e1 e2⟩
  | _=>exact hR.elim
 | int ik=>
  intro k' x y ns cs fo hown hR hO
  cases k' with
  | int jk=>
   obtain ⟨rfl,rfl,rfl⟩:=hR
   exact ⟨[],fo,rfl,by simp [aY],fun q hq=>by simp at hq,fun _ _ _=>hO⟩
  | _=>exact hR.elim
 | bool=>
  intro k' x y ns cs fo hown hR hO
  cases k' with
  | bool=>
   obtain ⟨rfl,rfl⟩:=hR
   exact ⟨[],fo,rfl,by simp [aY],fun q hq=>by simp at hq,fun _ _ _=>hO⟩
  | _=>exact hR.elim
 | str=>
  intro k' x y ns cs fo hown hR hO
  cases k' with
  | str=>
   obtain ⟨rfl,rfl⟩:=hR
   exact ⟨[],fo,rfl,by simp [aY],fun q hq=>by simp at hq,fun _ _ _=>hO⟩
  | _=>exact hR.elim
 | unit=>
  intro k' x y ns cs fo hown hR hO
  cases k' with
  | unit=>
   have:ns=[]:=hR
   subst this
   exact ⟨[],fo,rfl,by simp [aY],fun q hq=>by simp at hq,fun _ _ _=>hO⟩
  | _=>exact hR.elim
 | gap n=>intro k' x y ns cs fo _ hR; cases k' <;> exact hR.elim
 | id f=>intro k' x y ns cs fo _ hR; cases k' <;> exact hR.elim
theorem acj {A B:Type} (f:A->B):∀{nss:List (List B)} {l:List A},l.map f=nss.flatten->∃pF:List (List A),pF.flatten=l/\pF.map (·.map f)=nss
 | [],l,h=>by
  have:l=[]:=by simpa using h
  exact ⟨[],by simp [this],rfl⟩
 | ns :: nss,l,h=>by
  rw [lV,List.map_eq_append_iff] at h
  obtain ⟨l1,l2,rfl,h1,h2⟩:=h
  obtain ⟨pF,g1,g2⟩:=acj f h2
  exact ⟨l1 :: pF,by simp [g1],by simp [h1,g2]⟩
theorem Qd {h:Heap} {own:List TypeId} {ok:Nat->Prop} {tb:Nat->List (El kk)} (fr':Fr):∀{k k':K} {x:El k} {y:El k'} {aO:List nN} {cs:List Value} {aF:List Nat},(∀t∈k.tys,aa t own=true)->
  Rw e kk true tb k k' x y (aO.map (·.1))->@Ow fr' h own ok k' y cs aF->(∀q∈aO, @Ow fr h own ok (.sl e kk) (tb q.1) [q.2.1] q.2.2/\fr'.bI q.1=q.2.1)->@Ow fr h own ok k x cs (aF++aY aO):=by
 intro k
 induction k with
 | sl f k ih=>
  intro k' x y aO cs aF hown hR hO htr
  cases k' with
  | id f'=>
   obtain ⟨rfl,rfl,hk,hx,hi⟩:=hR
   subst hk
   obtain ⟨rfl,hcs⟩:=hO
   have hcs:cs=[fr'.bI y]:=hcs
   subst hcs
   rcases hi with ⟨_,hns⟩ | ⟨_,h0,hx0,hns⟩
   ·cases aO with
    | nil=>simp at hns
    | cons q l=>
     cases l with
     | cons _ _=>simp at hns
     | nil=>
      simp only [lD,List.map_nil,jw,eX] at hns
      obtain ⟨g1,g2⟩:=htr q (by simp)
      rw [hns] at g1 g2
      have hx':(show List (El k) from x)=tb y:=hx
      show @Ow fr h own ok (.sl f' k) (show List (El k) from x) _ _
      rw [hx',g2]
      simpa [aY] using g1
   ·have ht:aO=[]:=by simpa using hns
    subst ht
    have hy:y=(0:Nat):=h0
    subst hy
    have hx':(show List (El k) from x)=[]:=hx.trans hx0
    rw [fr'.SI]
    unfold Ow
    rw [aj (hown f' (by simp [K.tys]))]
    exact ⟨none,0,0,rfl,by rw [hx']; rfl,bN _, .inl ⟨rfl,rfl⟩⟩
  | sl f' k'=>
   obtain ⟨rfl,hsz,hl,nss,hnl,hns,hat⟩:=hR
   have hf:aa f own=true:=hown f (by simp [K.tys])
   unfold Ow at hO ⊢
   rw [aj hf] at hO ⊢
   obtain ⟨a,n,c,rfl,hn,hnc,hO⟩:=hO
   obtain ⟨pF,rfl,hts⟩:=acj (fun q:nN=>q.1) hns
   have htl:pF.length=nss.length:=by rw [<-hts,oQ]
   rcases hO with ⟨hc,rfl⟩ | ⟨b,o,arr,lo,hi,rfl,hb,hfz,hoc,ay,hfl,hfo,hel⟩
   ·have h0:(show List (El k) from x).length=0:=by omega
    have:pF=[]:=List.length_eq_zero_iff.1 (by omega)
    subst this
    exact ⟨a,n,c,rfl,by omega,hnc, .inl ⟨hc,rfl⟩⟩
   ·have hone:∀i (hi1:i<(show List (El k) from x).length),∃ds,Cells h b (o+i * k.size) ds/\@Ow fr h own ok k ((show List (El k) from x)[i]) ds (ay.getD i []++aY (pF.getD i [])):=by
     intro i h1
     obtain ⟨ds,g1,g2⟩:=hel i (by omega)
     have hti:i<pF.length:=by omega
     have e1:pF.getD i []=pF[i]:=by simp [hti]
     have e2:nss.getD i []=(pF[i]).map (·.1):=by
      rw [<-hts]
      simp [hti]
     have hR':=hat i h1 (by omega)
     rw [e2] at hR'
     refine ⟨ds,by rw [<-hsz]; exact g1, ?_⟩
     rw [e1]
     exact ih (fun t ht=>hown t (by simp [K.tys,ht])) hR' g2 (fun q hq=>htr q (BA.2 ⟨_,jY hti,hq⟩))
    refine ⟨_,n,c,rfl,by omega,hnc, .inr ⟨b,o,arr,lo,hi,rfl,hb,hfz,by rw [<-hsz]; exact hoc,(List.range (show List (El k) from x).length).map fun i=>ay.getD i []++aY (pF.getD i []),by simp, ?_,fun i h1=>?_⟩⟩
    ·refine (hfo.append_right _).trans ?_
     rw [kX]
     refine List.Perm.cons b ?_
     rw [UK]
     refine (TR (ay:=(List.range (show List (El k) from x).length).map fun i=>ay.getD i []++aY (pF.getD i [])) (fs:=ay) (gs:=pF.map aY) (by rw [oQ,List.length_range]; omega) (by rw [oQ,oQ,List.length_range]; omega) fun i hi1=>?_).symm
     have hi2:i<(show List (El k) from x).length:=by simpa using hi1
     have hti:i<pF.length:=by omega
     simp [ig,DZ,L_,hi2,hti]
    ·obtain ⟨ds,g1,g2⟩:=hone i h1
     refine ⟨ds,g1, ?_⟩
     have:((List.range (show List (El k) from x).length).map fun i=>ay.getD i []++aY (pF.getD i [])).getD i []=ay.getD i []++aY (pF.getD i []):=by
      simp [ig,DZ,L_,h1]
     rw [this]
     exact g2
  | _=>exact hR.elim
 | pair a b iha ihb=>
  intro k' x y aO cs aF hown hR hO htr
  cases k' with
  | pair a' b'=>
   obtain ⟨n1,n2,hns,r1,r2⟩:=hR
   obtain ⟨c1,c2,f1,f2,rfl,hp,o1,o2⟩:=hO
   rw [List.map_eq_append_iff] at hns
   obtain ⟨t1,t2,rfl,rfl,rfl⟩:=hns
   refine ⟨c1,c2,f1++aY t1,f2++aY t2,rfl, ?_,iha (fun t ht=>hown t (by simp [K.tys,ht])) r1 o1 (fun q hq=>htr q (bK _ hq)),ihb (fun t ht=>hown t (by simp [K.tys,ht])) r2 o2 (fun q hq=>htr q (bB _ hq))⟩
   refine (hp.append_right _).trans ?_
   have:aY (t1++t2)=aY t1++aY t2:=by simp [aY]
   rw [this]
   simp only [gD]
   refine vo f1 ?_
   rw [<-gD, <-gD]
   exact sU _ BB
  | _=>exact hR.elim
 | st f ih=>
  intro k' x y aO cs aF hown hR hO htr
  cases k' with
  | st f'=>exact ih (k':=f') (x:=x) (y:=y) (aO:=aO) (cs:=cs) (aF:=aF) hown hR hO htr
  | _=>exact hR.elim
 | int ik=>
  intro k' x y aO cs aF hown hR hO htr
  cases k' with
  | int jk=>
   obtain ⟨rfl,rfl,hns⟩:=hR
   have:aO=[]:=by simpa using hns
   subst this
   have e0:aF++aY []=aF:=h_ _
   rw [e0]
   exact hO
  | _=>exact hR.elim
 | bool=>
  intro k' x y aO cs aF hown hR hO htr
  cases k' with
  | bool=>
   obtain ⟨rfl,hns⟩:=hR
   have:aO=[]:=by simpa using hns
   subst this
   have e0:aF++aY []=aF:=h_ _
   rw [e0]
   exact hO
  | _=>exact hR.elim
 | str=>
  intro k' x y aO cs aF hown hR hO htr
  cases k' with
  | str=>
   obtain ⟨rfl,hns⟩:=hR
   have:aO=[]:=by simpa using hns
   subst this
   have e0:aF++aY []=aF:=h_ _
   rw [e0]
   exact hO
  | _=>exact hR.elim
 | unit=>
  intro k' x y aO cs aF hown hR hO htr
  cases k' with
  | unit=>
   have hns:aO.map (·.1)=[]:=hR
   have:aO=[]:=by simpa using hns
   subst this
   have e0:aF++aY []=aF:=h_ _
   rw [e0]
   exact hO
  | _=>exact hR.elim
 | gap n=>intro k' x y aO cs aF _ hR; cases k' <;> exact hR.elim
 | id f=>intro k' x y aO cs aF _ hR; cases k' <;> exact hR.elim
def rC:K->Bool
 | .id _=>false
 | .sl _ k=>rC k
 | .pair a b=>rC a && rC b
 | .st f=>rC f
 | _=>true
theorem Qp {h:Heap} {ok:Nat->Prop} (fr':Fr) (hf:fr'.free=fr.free):∀{k:K} {x:El k} {cs:List Value},rC k=true->@Vw fr h ok k x cs->@Vw fr' h ok k x cs:=by
 intro k
 induction k with
 | sl f k ih=>
  intro x cs hk H
  obtain ⟨a,n,c,e1,e2,e3,H⟩:=H
  refine ⟨a,n,c,e1,e2,e3,fun hn=>?_⟩
  obtain ⟨b,o,ea,hb,ht,H⟩:=H hn
  refine ⟨b,o,ea,hb,ht.imp id (fun h=>by rw [hf]; exact h),fun i hi=>?_⟩
  obtain ⟨ds,h1,h2⟩:=H i hi
  exact ⟨ds,h1,ih hk h2⟩
 | pair a b iha ihb=>
  intro x cs hk H
  simp only [rC,bg] at hk
  obtain ⟨c1,c2,e,h1,h2⟩:=H
  exact ⟨c1,c2,e,iha hk.1 h1,ihb hk.2 h2⟩
 | st f ih=>intro x cs hk H; exact ih (x:=x) (cs:=cs) hk H
 | id f=>intro x cs hk; simp [rC] at hk
 | int ik=>intro x cs _ H; exact H
 | bool=>intro x cs _ H; exact H
 | str=>intro x cs _ H; exact H
 | unit=>intro x cs _ H; exact H
 | gap n=>intro x cs _ H; exact H
def iD (cx:Cx) (bad:List Nat):Cx:={ cx with
 par:=fun j=>(cx.par j).map fun pi=>{ pi with bl:=pi.bl.filter fun b=>!aa b bad }
 ptrs:=fun _ _ _ _=>False
 refs:=fun _ _=>False }
theorem r_ {cx:Cx} {bad:List Nat} {j:Nat} {kH:D8} (h:(iD cx bad).par j=some kH):∃pi,cx.par j=some pi/\kH={ pi with bl:=pi.bl.filter fun b=>!aa b bad }:=by
 simp only [iD,Option.map_eq_some_iff] at h
 obtain ⟨pi,h1,h2⟩:=h
 exact ⟨pi,h1,h2.symm⟩
theorem Q3 {cx:Cx} {bad:List Nat} {b:Nat}:nV (iD cx bad) b↔nV cx b:=by
 constructor
 ·rintro ⟨j,kH,o,n,h1,h2⟩
  obtain ⟨pi,g1,rfl⟩:=r_ h1
  exact ⟨j,pi,o,n,g1,h2⟩
 ·rintro ⟨j,pi,o,n,h1,h2⟩
  exact ⟨j,{ pi with bl:=pi.bl.filter fun b=>!aa b bad },o,n,by simp [iD,h1],h2⟩
def Cf (T:List Tag):Prop:=∀t∈T,gZ t.1=true
def xV:gM->Prop
 | .one .undef=>True
 | .one (.ptr r p n)=>r=ah 0/\p=[]/\n=0
 | .one (.val k _ T)=>rC k=true/\Cf T
 | .one (.fn _ cs)=>∀c∈cs,rC c.2.1.1=true/\Cf c.2.2/\c.1=SENT
 | _=>False
section
variable {cx:Cx} {Z:St} {J:aH} {a:Act} {w:World}
theorem amB {R0 R1:Root} {aF bad:List Nat} (h0:∀r R,aU Z r R->r=ah 0/\R=R0) (h1:aU Z (ah 0) R0) (hk:R1.kind=R0.kind) (hsub:∀b∈aF,b∈J.fo (ah 0)) (hbad:∀b∈bad,b∈J.fo (ah 0)) {T:List Tag} (hT:Cf T) {b:Nat} (h:bG cx Z J [] w T b) :
  bG (iD cx bad) (aJ Z (ah 0) R1) (aR J (ah 0) (J.loc (ah 0)) (J.hdr (ah 0)) aF) [] w T b:=by
 obtain ⟨g1,g2,g3,g4,g5⟩:=h
 refine ⟨g1,g2,fun hb=>g3 (Q3.1 hb),fun r R hr hb=>?_,fun hlt=>?_⟩
 ·rcases uo hr with ⟨rfl,rfl,_⟩ | ⟨e,hr'⟩
  ·rw [pR] at hb
   refine g4 _ R0 h1 ?_
   rw [jG]
   unfold ji at hb ⊢
   rw [hk] at hb
   rcases bW.1 hb with h | h
   ·exact bK _ h
   ·exact bB _ (hsub b h)
  ·exact absurd (h0 r R hr').1 e
 ·rcases g5 hlt with ⟨j,n,f1,f2⟩ | ⟨j,pi,f1,f2⟩
  ·exact .inl ⟨j,n,f1,f2⟩
  ·refine .inr ⟨j,{ pi with bl:=pi.bl.filter fun b=>!aa b bad },by simp [iD,f1], ?_⟩
   refine eF.2 ⟨f2, ?_⟩
   cases hm:aa b bad with
   | false=>rfl
   | true=>
    have hb:=hbad b (b_.1 hm)
    obtain ⟨n,hn⟩:=g4 _ R0 h1 (by rw [jG]; exact bB _ hb)
    have:=hT _ hn
    rw [Ad] at this
    simp at this
theorem Ye {Z:St} {tys:List TypeId} {T:List Tag} (h:Cf T):cO Z tys T=true:=zJ.2 fun t ht=>.inl (h t ht)
structure wP (cx:Cx) (Z:St) (J:aH) (R0 R1:Root) (aF bad:List Nat):Prop where
 only:∀r R,aU Z r R->r=ah 0/\R=R0
 lv:aU Z (ah 0) R0
 kind:R1.kind=R0.kind
 tags:R0.tags=[]
 sub:∀b∈aF,b∈J.fo (ah 0)
 bad:∀b∈bad,b∈J.fo (ah 0)
theorem wP.bG {R0 R1:Root} {aF bad:List Nat} (L:wP cx Z J R0 R1 aF bad) {T:List Tag} (hT:Cf T) {b:Nat} (h:Ow.bG cx Z J [] w T b) :
  Ow.bG (iD cx bad) (aJ Z (ah 0) R1) (aR J (ah 0) (J.loc (ah 0)) (J.hdr (ah 0)) aF) [] w T b:=amB L.only L.lv L.kind L.sub L.bad hT h
theorem wP.wh {R0 R1:Root} {aF bad:List Nat} (L:wP cx Z J R0 R1 aF bad):aK (aR J (ah 0) (J.loc (ah 0)) (J.hdr (ah 0)) aF) R1 (ah 0)=aK J R0 (ah 0):=by
 rw [wC]
 unfold mX aK
 rw [L.kind] <;> cases R0.kind <;> rfl
theorem wP.av (fr':Fr) (hf:fr'.free=fr.free) {R0 R1:Root} {aF bad:List Nat} (L:wP cx Z J R0 R1 aF bad) {x:gM} {v:Value} (hx:xV x) (h : @jv fr cx Z J [] w x v) :
  @jv fr' (iD cx bad) (aJ Z (ah 0) R1) (aR J (ah 0) (J.loc (ah 0)) (J.hdr (ah 0)) aF) [] w x v:=by
 have hv0:cB Z R0:=⟨L.lv.2,by rw [L.tags]; rfl⟩
 cases x with
 | mH l=>exact hx.elim
 | lit _ _ _=>exact hx.elim
 | one x=>
  cases x with
  | undef=>trivial
  | ptr r p n=>
   obtain ⟨rfl,rfl,rfl⟩:=hx
   refine ⟨h.1,fun R hR _ _ _ _=>?_⟩
   rw [fE] at hR
   have hR:=j4 hR
   subst hR
   obtain ⟨_,cs,b,o,hn,e⟩:=h.2 R0 L.lv.1 hv0 (by unfold iW clean; simp [aa]) (fun t ht=>by simp [az] at ht) rfl
   simp only [aT,au,bS] at hn
   refine ⟨trivial,J.hdr (ah 0),b,o, ?_,e⟩
   simp only [aT]
   rw [L.wh,hn.2]
   simp [aR,upd_same]
  | val k x T=>
   intro _
   obtain ⟨cs,h1,h2⟩:=h (.inr (Ye hx.2))
   exact ⟨cs,h1, @Qp fr _ _ fr' hf _ _ _ hx.1 (@lN fr _ _ _ _ (fun _ _=>rfl) (fun b hb=>L.bG hx.2 hb) _ _ _ h2)⟩
  | fn f cs=>
   obtain ⟨vs,e,hc⟩:=h
   refine ⟨vs,e, ?_⟩
   clear e
   have key:∀(cs:List (TypeId×Dat×List Tag)) (vs:List Value),(∀c∈cs,rC c.2.1.1=true/\Cf c.2.2/\c.1=SENT)->@nA fr cx Z J [] w cs vs->@nA fr' (iD cx bad) (aJ Z (ah 0) R1) (aR J (ah 0) (J.loc (ah 0)) (J.hdr (ah 0)) aF) [] w cs vs:=by
    intro cs
    induction cs with
    | nil=>intro vs _ h; cases vs <;> exact h
    | cons c cs ih=>
     intro vs hc h
     cases vs with
     | nil=>exact h
     | cons v vs=>
      obtain ⟨⟨h1,h2⟩,h3⟩:=h
      obtain ⟨g1,g2,g3⟩:=hc c (by simp)
      refine ⟨⟨h1,fun _=>?_⟩,ih vs (fun c hc'=>hc c (by simp [hc'])) h3⟩
      obtain ⟨b,o,ds,e,q1,q2,⟨q3,q4,q5⟩,_⟩:=h2 (Ye g2)
      refine ⟨b,o,ds,e,q1, @Qp fr _ _ fr' hf _ _ _ g1 (@lN fr _ _ _ _ (fun _ _=>rfl) (fun b hb=>L.bG g2 hb) _ _ _ q2),⟨q3,q4,fun r R hr hb=>?_⟩, .inl ⟨g3,g2⟩⟩
      rcases uo hr with ⟨rfl,rfl,_⟩ | ⟨e,hr'⟩
      ·rw [pR] at hb
       refine q5 _ R0 L.lv ?_
       rw [jG]
       unfold ji at hb ⊢
       rw [L.kind] at hb
       rcases bW.1 hb with h | h
       ·exact bK _ h
       ·exact bB _ (L.sub b h)
      ·exact absurd (L.only r R hr').1 e
   exact key cs vs hx hc
  | _=>exact hx.elim
theorem SK:∀{aO:List nN},(aO.map (·.1)).Nodup->0∉aO.map (·.1)->(∀q∈aO,∃a n c,q.2.1=Value.slice a n c)->∃bI:Nat->Value,bI 0=.slice none 0 0/\(∀i,∃a n c,bI i=.slice a n c)/\∀q∈aO,bI q.1=q.2.1
 | [],_,_,_=>⟨fun _=>.slice none 0 0,rfl,fun _=>⟨none,0,0,rfl⟩,fun q hq=>by simp at hq⟩
 | q :: l,hn,h0,hs=>by
  rw [lD,jg] at hn
  rw [lD,bT,not_or] at h0
  obtain ⟨bI,g1,g2,g3⟩:=SK hn.2 h0.2 (fun q hq=>hs q (by simp [hq]))
  refine ⟨fun i=>if i=q.1 then q.2.1 else bI i,by simp only [aA h0.1]; exact g1,fun i=>?_,fun t ht=>?_⟩
  ·by_cases h:i=q.1
   ·simp only [aj h]; exact hs q (by simp)
   ·simp only [aA h]; exact g2 i
  ·rcases bT.1 ht with rfl | ht
   ·simp only [a_]
   ·have hne:¬t.1=q.1:=fun e=>hn.1 (fI.2 ⟨t,ht,e⟩)
    simp only [aA hne]; exact g3 t ht
theorem abV {h:Heap} {own:List TypeId} {ok:Nat->Prop} {xs:List (El kk)} {v:Value} {fo:List Nat} (he:aa e own=true) (H:Ow h own ok (.sl e kk) xs [v] fo):∃a n c,v=.slice a n c:=by
 unfold Ow at H
 rw [aj he] at H
 obtain ⟨a,n,c,hv,_⟩:=H
 simp only [jw,eX] at hv
 exact ⟨a,n,c,hv⟩
theorem alY (H:Rel cx Z J [] a w) (hw0:cx.w0=w) {R0:Root} (hR0:aU Z (ah 0) R0) (lT:∀r,r≠ah 0->Z.roots r=none) (hpar:R0.kind=.par) (oK:R0.tags=[]) (hown:∀t∈R0.k.tys,aa t R0.own=true) (he:aa e R0.own=true)
  (hsl:∀s,xV (Z.slots s)) {k':K} {x':El k'} {tb:Nat->List (El kk)} {ns:List Nat} (hR:Rw e kk false tb R0.k k' R0.x x' ns) (hnd:ns.Nodup) (hn0:0∉ns) (hown':∀t∈k'.tys,aa t R0.own=true) :
  ∃(aO:List nN) (aF:List Nat) (bI:Nat->Value) (h0:bI 0=.slice none 0 0) (hs:∀i,∃a n c,bI i=.slice a n c),aO.map (·.1)=ns/\(J.fo (ah 0)).Perm (aF++aY aO)/\
   (∀q∈aO, @Ow fr (hp w) R0.own (fun _=>False) (.sl e kk) (tb q.1) [q.2.1] q.2.2)/\(∀q∈aO,bI q.1=q.2.1)/\
   @Rel (dU fr bI h0 hs) (iD cx (aY aO)) (aJ Z (ah 0) { R0 with k:=k',x:=x' }) (aR J (ah 0) (J.loc (ah 0)) (J.hdr (ah 0)) aF) [] a w:=by
 have K:=H.roots _ R0 hR0
 have hv0:cB Z R0:=⟨hR0.2,by rw [oK]; rfl⟩
 have hO:Ow (hp w) R0.own (fun _=>False) R0.k R0.x (J.hdr (ah 0)) (J.fo (ah 0)):=j5 (lu hown) (K.ow hv0)
 obtain ⟨aO,aF,g1,g2,g3,g4⟩:=Xj hown hR hO
 obtain ⟨bI,i1,i2,i3⟩:=SK (aO:=aO) (by rw [g1]; exact hnd) (by rw [g1]; exact hn0) (fun q hq=>abV he (g3 q hq))
 refine ⟨aO,aF,bI,i1,i2,g1,g2,g3,i3, ?_⟩
 have hblk:blk J R0 (ah 0)=(J.loc (ah 0)).1 :: J.fo (ah 0):=by unfold blk aK; rw [hpar]; rfl
 have hsub:∀b∈aF,b∈J.fo (ah 0):=fun b hb=>g2.mem_iff.2 (bK _ hb)
 have hbad:∀b∈aY aO,b∈J.fo (ah 0):=fun b hb=>g2.mem_iff.2 (bB _ hb)
 have L:wP cx Z J R0 { R0 with k:=k',x:=x' } aF (aY aO):=⟨fun r R hr=>by
  by_cases e:r=ah 0
  ·subst e; refine ⟨rfl, ?_⟩; have:=hr.1; rw [hR0.1] at this; exact (j4 this).symm
  ·have:=hr.1; rw [lT r e] at this; simp at this,hR0,rfl,oK,hsub,hbad⟩
 have kK:=K.nd
 rw [hblk] at kK
 have sH:=jg.1 kK
 have jI:=cK.1 (g2.nodup sH.2)
 have hlv:∀{q Q},aU (aJ Z (ah 0) { R0 with k:=k',x:=x' }) q Q->q=ah 0/\Q={ R0 with k:=k',x:=x' }:=fun {q Q} hq=>by
  rcases uo hq with ⟨rfl,rfl,_⟩ | ⟨e,hq'⟩
  ·exact ⟨rfl,rfl⟩
  ·exact absurd (L.only q Q hq').1 e
 have hlv1:aU (aJ Z (ah 0) { R0 with k:=k',x:=x' }) (ah 0) { R0 with k:=k',x:=x' }:=⟨fE ..,hR0.2⟩
 have hblk':blk (aR J (ah 0) (J.loc (ah 0)) (J.hdr (ah 0)) aF) { R0 with k:=k',x:=x' } (ah 0)=(J.loc (ah 0)).1 :: aF:=by
  rw [pR]; unfold ji; simp only [hpar]; rfl
 have jV:∀b∈(J.loc (ah 0)).1 :: aF,Ow.mine (iD cx (aY aO)) w b:=fun b hb=>by
  have hb0:b∈blk J R0 (ah 0):=by
   rw [hblk]
   rcases bT.1 hb with h | h
   ·rw [h]; exact jE
   ·exact jD _ (hsub b h)
  obtain ⟨m1,m2⟩:=K.mine b hb0
  refine ⟨m1, ?_⟩
  rcases m2 with m2 | ⟨j,pi,m2,m3⟩
  ·exact .inl m2
  ·refine .inr ⟨j,{ pi with bl:=pi.bl.filter fun b=>!aa b (aY aO) },by simp [iD,m2],eF.2 ⟨m3, ?_⟩⟩
   have:aa b (aY aO)=false:=by
    rw [gT]
    intro hm
    rcases bT.1 hb with h | h
    ·subst h; exact sH.1 (hbad _ hm)
    ·exact jI.2.2 b h b hm rfl
   rw [this]; rfl
 have hpl:=H.mF
 refine @Rel.mk (dU fr bI i1 i2) _ _ _ _ _ _ H.defs H.sz ?_ ?_ ?_ ?_ ?_ ?_ ?_ (fun b hb=>by simp at hb) mJ (fun r R hr b hb h=>by simp at h) ?_ ?_ ?_ (fun j p ts v h=>h.elim) (fun j v h=>h.elim)
 ·intro j kH b o n hj hb
  obtain ⟨pi,hj',rfl⟩:=r_ hj
  obtain ⟨R,f1,f2,f3,f4⟩:=H.kM j pi b o n hj' hb
  obtain ⟨e1,rfl⟩:=L.only _ R f1
  rw [e1] at f3 ⊢
  exact ⟨_,hlv1,hpar,by simp [aR,upd_same,f3],by show k'.size=n; rw [hR.size]; exact f4⟩
 ·intro r R hr hk
  obtain ⟨rfl,rfl⟩:=hlv hr
  obtain ⟨j,pi,n,f1,f2,f3⟩:=H.sK _ R0 hR0 hpar
  exact ⟨j,{ pi with bl:=pi.bl.filter fun b=>!aa b (aY aO) },n,f1,by simp [iD,f2],by simp [aR,upd_same,f3]⟩
 ·intro s
  exact wP.av (fr:=fr) (dU fr bI i1 i2) rfl L (hsl s) (H.slots s)
 ·intro s
  have hs:=hsl s
  show nu _ (Z.slots s)
  cases hx:Z.slots s with
  | mH l=>rw [hx] at hs; exact hs.elim
  | lit _ _ _=>rw [hx] at hs; exact hs.elim
  | one x=>
   rw [hx] at hs
   cases x with
   | undef=>trivial
   | ptr r p n=>obtain ⟨rfl,rfl,rfl⟩:=hs; exact ⟨_,fE .., .inr (fT _)⟩
   | val k x T=>exact fun t ht=>.inl (hs.2 t ht)
   | fn f cs=>exact fun c hc t ht=>.inl ((hs c hc).2.1 t ht)
   | _=>exact hs.elim
 ·intro r R hr
  obtain ⟨rfl,rfl⟩:=hlv hr
  refine @uF.mk (dU fr bI i1 i2) _ _ _ _ _ _ _ (fun _=>?_) ?_ ?_ ?_ ?_
  ·have e1:(aR J (ah 0) (J.loc (ah 0)) (J.hdr (ah 0)) aF).hdr (ah 0)=J.hdr (ah 0):=by simp [aR,upd_same]
   have e2:(aR J (ah 0) (J.loc (ah 0)) (J.hdr (ah 0)) aF).fo (ah 0)=aF:=by simp [aR,upd_same]
   rw [e1,e2]
   exact @j5 (dU fr bI i1 i2) _ _ _ _ _ _ _ _ (lu hown') (g4 (dU fr bI i1 i2) rfl i3)
  ·show ((aR J (ah 0) (J.loc (ah 0)) (J.hdr (ah 0)) aF).hdr (ah 0)).length=k'.size
   rw [hR.size]
   simpa [aR,upd_same] using K.len
  ·intro b o hb
   rw [L.wh] at hb
   obtain ⟨m1,arr,e',lo,hi,m2,m3,m4,m5⟩:=K.mem b o hb
   refine ⟨by simpa [aR,upd_same] using m1,arr,e',lo,hi,m2,m3,by show o+k'.size<=_; rw [hR.size]; exact m4,m5⟩
  ·rw [hblk']
   exact jg.2 ⟨fun h=>sH.1 (hsub _ h),jI.1⟩
  ·intro b hb
   rw [hblk'] at hb
   exact jV b hb
 ·intro r R hr
  by_cases e:r=ah 0
  ·subst e
   rw [fE] at hr
   have hr:=j4 hr
   subst hr
   exact ⟨fun t ht=>by rw [show ({ R0 with k:=k',x:=x' }:Root).tags=R0.tags from rfl,oK] at ht; simp at ht,Ad 0,fun n hn=>by rw [show ({ R0 with k:=k',x:=x' }:Root).tags=R0.tags from rfl,oK] at hn; simp at hn⟩
  ·rw [jW _ _ e,lT r e] at hr; simp at hr
 ·intro r R r' R' hr hr' hne
  exact absurd ((hlv hr).1.trans (hlv hr').1.symm) hne
 ·obtain ⟨f1,f2,f3,f4,f5,f6⟩:=H.frame
  refine ⟨f1,f2,f3,f4,fun b _ _=>by show hp w b=hp cx.w0 b; rw [hw0],fun j kH b o n hj hb=>?_⟩
  obtain ⟨pi,hj',rfl⟩:=r_ hj
  exact f6 j pi b o n hj' hb
 ·intro j kH hj hkp
  obtain ⟨pi,hj',rfl⟩:=r_ hj
  obtain ⟨R,f1,f2⟩:=H.qc j pi hj' hkp
  by_cases e:ah j=ah 0
  ·refine ⟨_,by rw [e]; exact fE ..,fun _ b hb hnb=>.inr ⟨by show hp w b=hp cx.w0 b; rw [hw0],by simp,fun q Q hq _=>by rw [(hlv hq).1,e]⟩⟩
  ·rw [lT _ e] at f1; simp at f1
 ·refine ⟨fun j kH hj b hb=>?_,fun b hb=>⟨?_,fun j kH hj hbl=>?_⟩,fun b hb=>hpl.2.2 b hb⟩
  ·obtain ⟨pi,hj',rfl⟩:=r_ hj
   exact hpl.1 j pi hj' b (eF.1 hb).1
  ·exact (hpl.2.1 b hb).1
  ·obtain ⟨pi,hj',rfl⟩:=r_ hj
   exact (hpl.2.1 b hb).2 j pi hj' (eF.1 hbl).1
theorem Mr {h:Heap} {own own':List TypeId} {ok:Nat->Prop}:∀{k:K} {x:El k} {cs:List Value} {fo:List Nat},(∀t∈k.tys,aa t own=aa t own')->Ow h own ok k x cs fo->Ow h own' ok k x cs fo:=by
 intro k
 induction k with
 | sl f k ih=>
  intro x cs fo ht H
  have hf:=ht f (by simp [K.tys])
  unfold Ow at H ⊢
  cases hm:aa f own with
  | true=>
   rw [aj hm] at H
   rw [aj (by rw [<-hf]; exact hm)]
   obtain ⟨a,n,c,e1,e2,e3,H⟩:=H
   refine ⟨a,n,c,e1,e2,e3, ?_⟩
   rcases H with H | ⟨b,o,arr,lo,hi,ea,hb,hz,hs,ay,hl,hp,H⟩
   ·exact .inl H
   ·refine .inr ⟨b,o,arr,lo,hi,ea,hb,hz,hs,ay,hl,hp,fun i hi=>?_⟩
    obtain ⟨ds,h1,h2⟩:=H i hi
    exact ⟨ds,h1,ih (fun t h=>ht t (by simp [K.tys,h])) h2⟩
  | false=>
   rw [aA (by rw [hm]; simp)] at H
   rw [aA (by rw [<-hf,hm]; simp)]
   exact H
 | pair a b iha ihb=>
  intro x cs fo ht H
  obtain ⟨c1,c2,f1,f2,e,hp,h1,h2⟩:=H
  exact ⟨c1,c2,f1,f2,e,hp,iha (fun t h=>ht t (by simp [K.tys,h])) h1,ihb (fun t h=>ht t (by simp [K.tys,h])) h2⟩
 | st f ih=>intro x cs fo ht H; exact ih (x:=x) ht H
 | int ik=>intro x cs fo _ H; exact H
 | bool=>intro x cs fo _ H; exact H
 | id e=>intro x cs fo _ H; exact H
 | str=>intro x cs fo _ H; exact H
 | unit=>intro x cs fo _ H; exact H
 | gap n=>intro x cs fo _ H; exact H
theorem agQ {z:Bool} {tb:Nat->List (El kk)} {k k':K} {x:El k} {y:El k'} {ns:List Nat} {v:Value} {cs:List Value} (hR:Rw e kk z tb k k' x y ns) (h:VC k' v cs):VC k v cs:=by
 cases k <;> cases k' <;> first | exact hR.elim | exact h
def Ib (e:TypeId) (kk:K) (tb:Nat->List (El kk)):(rs rs':List gN)->Cont (eO rs)->Cont (eO rs')->List Nat->Prop
 | [],[],_,_,ns=>ns=[]
 | .val k _ _ :: rs, .val k' _ _ :: rs',c,c',ns=>(∃h:k=k',k.flat=true/\rC k=true/\h▸c.1=c'.1)/\Ib e kk tb rs rs' c.2 c'.2 ns
 | .own k ow _ _ :: rs, .own k' ow' _ _ :: rs',c,c',ns=>∃n1 n2,ns=n1++n2/\((k.tys.all fun t=>aa t ow)=true/\(k'.tys.all fun t=>aa t ow')=true/\Rw e kk true tb k k' c.1 c'.1 n1)/\Ib e kk tb rs rs' c.2 c'.2 n2
 | _,_,_,_,_=>False
theorem select {aO:List nN}:∀{ns:List Nat},(∀n∈ns,n∈aO.map (·.1))->∃l:List nN,l.map (·.1)=ns/\∀q∈l,q∈aO
 | [],_=>⟨[],rfl,fun q hq=>by simp at hq⟩
 | n :: ns,h=>by
  obtain ⟨l,h1,h2⟩:=select (ns:=ns) (fun n hn=>h n (by simp [hn]))
  obtain ⟨q,hq,e⟩:=fI.1 (h n (by simp))
  exact ⟨q :: l,by simp [h1,e],fun t ht=>by
   rcases bT.1 ht with rfl | ht
   ·exact hq
   ·exact h2 t ht⟩
theorem UL:∀{aO:List nN},(aY aO).Nodup->(aO.map (·.1)).Nodup->∀q∈aO,q.2.2.Nodup/\∀q'∈aO,q.1≠q'.1->∀b∈q.2.2,b∉q'.2.2
 | [],_,_,q,hq=>by simp at hq
 | t :: l,hn,hm,q,hq=>by
  have e:aY (t :: l)=t.2.2++aY l:=rfl
  rw [e] at hn
  obtain ⟨n1,n2,n3⟩:=cK.1 hn
  rw [lD,jg] at hm
  have hin:∀q∈l,∀b∈q.2.2,b∈aY l:=fun q hq b hb=>jZ.2 ⟨q,hq,hb⟩
  rcases bT.1 hq with rfl | Ns
  ·refine ⟨n1,fun q' hq' hne b hb hb'=>?_⟩
   rcases bT.1 hq' with rfl | hq'
   ·exact hne rfl
   ·exact n3 b hb b (hin q' hq' b hb') rfl
  ·obtain ⟨g1,g2⟩:=UL n2 hm.2 q Ns
   refine ⟨g1,fun q' hq' hne b hb hb'=>?_⟩
   rcases bT.1 hq' with rfl | hq'
   ·exact n3 b hb' b (hin q Ns b hb) rfl
   ·exact g2 q' hq' hne b hb hb'
theorem UM {aO:List nN} (hn:(aY aO).Nodup) (hm:(aO.map (·.1)).Nodup):∀{l:List nN},(∀q∈l,q∈aO)->(l.map (·.1)).Nodup->(aY l).Nodup
 | [],_,_=>mJ
 | t :: l,hs,hl=>by
  have e:aY (t :: l)=t.2.2++aY l:=rfl
  rw [e]
  rw [lD,jg] at hl
  refine cK.2 ⟨(UL hn hm t (hs t (by simp))).1,UM hn hm (fun q hq=>hs q (by simp [hq])) hl.2,fun b hb c hc Ca=>?_⟩
  subst Ca
  obtain ⟨q,hq,hb'⟩:=jZ.1 hc
  exact (UL hn hm t (hs t (by simp))).2 q (hs q (by simp [hq])) (fun e=>hl.1 (fI.2 ⟨q,hq,e.symm⟩)) b hb hb'
theorem al0 (fr':Fr) (hf:fr'.free=fr.free) {tQ:Cx} {Z':St} {J':aH} {F':List Nat} {w':World} {tb:Nat->List (El kk)} {O:List TypeId} (hO:∀t∈(K.sl e kk).tys,aa t O=true)  :
  ∀{rs rs':List gN} {c:Cont (eO rs)} {c':Cont (eO rs')} {vs:List Value} {ay:List (List Nat)} {aO:List nN},Ib e kk tb rs rs' c c' (aO.map (·.1))->@vC fr' tQ Z' J' F' w' rs' c' vs ay->
   (∀q∈aO, @Ow fr (hp w') O (fun _=>False) (.sl e kk) (tb q.1) [q.2.1] q.2.2/\fr'.bI q.1=q.2.1)->
   ∃EF,(∀Z1 aI F1, @vC fr cx Z1 aI F1 w' rs c vs EF)/\EF.flatten.Perm (ay.flatten++aY aO):=by
 intro rs
 induction rs with
 | nil=>
  intro rs' c c' vs ay aO hR hL htr
  cases rs' with
  | cons _ _=>exact hR.elim
  | nil=>
   have ht:aO=[]:=by simpa using (show aO.map (·.1)=[] from hR)
   subst ht
   cases vs with
   | cons _ _=>exact hL.elim
   | nil=>cases ay with
    | cons _ _=>exact hL.elim
    | nil=>exact ⟨[],fun _ _ _=>trivial, .refl _⟩
 | cons r rs ih=>
  intro rs' c c' vs ay aO hR hL htr
  cases rs' with
  | nil=>cases r <;> exact hR.elim
  | cons r' rs'=>
   cases r with
   | into _ _=>exact hR.elim
   | ptr _ _ _ _=>exact hR.elim
   | val k ex pr=>
    cases r' with
    | val k' ex' pr'=>
     obtain ⟨⟨hk,h1,h2,h3⟩,hR⟩:=hR
     subst hk
     cases vs with
     | nil=>exact hL.elim
     | cons v vs=>
      cases ay with
      | nil=>exact hL.elim
      | cons fo ay=>
       obtain ⟨⟨rfl,T,cs,g1,g2,g3⟩,hL⟩:=hL
       obtain ⟨EF,q1,q2⟩:=ih hR hL htr
       refine ⟨[] :: EF,fun Z1 aI F1=>⟨⟨rfl,[],cs, .inl h1,g2, ?_⟩,q1 Z1 aI F1⟩,by simpa using q2⟩
       have h3:c.1=c'.1:=h3
       rw [h3]
       exact @ni fr _ _ _ _ _ _ _ h1 (@Qp fr' _ _ fr hf.symm _ _ _ h2 g3)
    | _=>exact hR.elim
   | own k ow ex pr=>
    cases r' with
    | own k' ow' ex' pr'=>
     obtain ⟨n1,n2,hns,⟨a1,a2,a3⟩,hR⟩:=hR
     rw [List.map_eq_append_iff] at hns
     obtain ⟨t1,t2,rfl,rfl,rfl⟩:=hns
     cases vs with
     | nil=>exact hL.elim
     | cons v vs=>
      cases ay with
      | nil=>exact hL.elim
      | cons fo ay=>
       obtain ⟨⟨T,cs,amK,g1,g2,g3,g4⟩,hL⟩:=hL
       obtain ⟨EF,q1,q2⟩:=ih hR hL (fun q hq=>htr q (bB _ hq))
       have hk':∀t∈k'.tys,aa t amK=true:=fun t ht=>g2 t ht (eH.1 a2 t ht)
       let O2:List TypeId:=O++k.tys++k'.tys
       have m1:∀t∈k.tys,aa t O2=true:=fun t ht=>b_.2 (bK _ (bB _ ht))
       have m2:∀t∈k'.tys,aa t O2=true:=fun t ht=>b_.2 (bB _ ht)
       have m3:∀t∈(K.sl e kk).tys,aa t O2=true:=fun t ht=>b_.2 (bK _ (bK _ (b_.1 (hO t ht))))
       have g5 : @Ow fr' (hp w') O2 (fun _=>False) k' c'.1 cs fo:=@j5 fr' _ _ _ _ _ _ _ _ (lu m2) (@Mr fr' _ _ _ _ _ _ _ _ (fun t ht=>by rw [hk' t ht,m2 t ht]) g4)
       have g6:=Qd (fr:=fr) fr' m1 a3 g5 (fun q hq=>by
        obtain ⟨f1,f2⟩:=htr q (bK _ hq)
        exact ⟨@Mr fr _ _ _ _ _ _ _ _ (fun t ht=>by rw [hO t ht,m3 t ht]) f1,f2⟩)
       refine ⟨(fo++aY t1) :: EF,fun Z1 aI F1=>⟨⟨[],cs,O2, .inl a1,fun t ht _=>m1 t ht,agQ a3 g3, @j5 fr _ _ _ _ _ _ _ _ (lu m1) g6⟩,q1 Z1 aI F1⟩, ?_⟩
       simp only [lV]
       have et:aY (t1++t2)=aY t1++aY t2:=by simp [aY]
       rw [et]
       refine (q2.append_left (fo++aY t1)).trans ?_
       simp only [gD]
       refine vo fo ?_
       rw [<-gD, <-gD]
       exact sU _ BB
    | _=>exact hR.elim
end
end
end
section
open Go
section
variable {e:TypeId} {kk:K} [fr:Fr]
variable {cx:Cx} {Z:St} {J:aH} {a:Act} {w:World}
def su (k:K) (x:El k) (ow wt ht:List TypeId):Root:={ k,x,own:=ow,tags:=[],w:=wt,h:=ht,g:=0,kind:=.par,fixed:=false,keep:=true,ew:=[],eh:=ht }
def vL (R:Root):St:=⟨fun _=>.one .undef,fun r=>bif Nat.beq r (ah 0) then some R else none⟩
def Cb (loc:Nat×Nat) (hdr:List Value) (fo:List Nat):aH:=⟨fun _=>loc,fun _=>hdr,fun _=>fo⟩
theorem Cc {R:Root} {r:Nat} {Q:Root} (h:(vL R).roots r=some Q):r=ah 0/\Q=R:=by
 unfold vL at h
 simp only at h
 cases hb:Nat.beq r (ah 0) with
 | true=>rw [hb] at h; exact ⟨bC hb,(j4 h).symm⟩
 | false=>rw [hb] at h; simp at h
theorem zN {R:Root}:(vL R).roots (ah 0)=some R:=by simp [vL]
theorem alW (H:Rel cx Z J [] a w) (hw0:cx.w0=w) {R0:Root} (hR0:aU Z (ah 0) R0) (lT:∀r,r≠ah 0->Z.roots r=none) (hpar:R0.kind=.par) (hg0:R0.g=0) (hv0:cB Z R0)
  (hown:∀t∈R0.k.tys,aa t R0.own=true) {k':K} (hown':∀t∈k'.tys,aa t R0.own=true) (sG:∀t∈(K.sl e kk).tys,aa t R0.own=true)
  {tb:Nat->List (El kk)} {aO:List nN} {aF:List Nat} {bI:Nat->Value} {h0:bI 0=.slice none 0 0} {hs:∀i,∃a n c,bI i=.slice a n c}
  (hperm:(J.fo (ah 0)).Perm (aF++aY aO)) (hnd:(aO.map (·.1)).Nodup) (hrow:∀q∈aO, @Ow fr (hp w) R0.own (fun _=>False) (.sl e kk) (tb q.1) [q.2.1] q.2.2) (hid:∀q∈aO,bI q.1=q.2.1)
  {Z1:St} {aI:aH} {F1:List Nat} {a1:Act} {w':World} (H1 : @Rel (dU fr bI h0 hs) (iD cx (aY aO)) Z1 aI F1 a1 w') {Q:Root} (hQ:Z1.roots (ah 0)=some Q) (Cq:cB Z1 Q) (EI:Q.k=k') (RH:∀t∈k'.tys,aa t Q.own=true)
  {wt ht:List TypeId} (hwt:iK Q.w wt=true/\iK Q.ew wt=true) (hwk:∀t∈(K.sl e kk).tys,t∈wt) (I5:jM∈ht)
  {y:El R0.k} {jX:List nN} (hP:Rw e kk true tb R0.k Q.k y Q.x (jX.map (·.1))) (yl:∀q∈jX,q∈aO)
  {rs rs':List gN} {c:Cont (eO rs)} {c':Cont (eO rs')} {vs:List Value} {ay:List (List Nat)} {uw:List nN} (hRs:∀q∈uw,q∈aO) (hRR:Ib e kk tb rs rs' c c' (uw.map (·.1)))
  (hL : @vC (dU fr bI h0 hs) (iD cx (aY aO)) Z1 aI F1 w' rs' c' vs ay) (hfn:ay.flatten.Nodup) (qC:∀b∈ay.flatten,b∈F1) (hall:((uw++jX).map (·.1)).Nodup)
  (t_:∀j p ts v,cx.ptrs j p ts v->∃k,ts=iW p k) :
  ∃iM vN,Rel cx (vL (su R0.k y R0.own wt ht)) iM vN.flatten a1 w'/\vC cx (vL (su R0.k y R0.own wt ht)) iM vN.flatten w' rs c vs vN/\vN.flatten.Nodup:=by
 have K0:=H.roots _ R0 hR0
 have hlv1:aU Z1 (ah 0) Q:=⟨hQ,Cq.1⟩
 have K1:=@Rel.roots (dU fr bI h0 hs) _ _ _ _ _ _ H1 _ Q hlv1
 have PD:=@uF.ow (dU fr bI h0 hs) _ _ _ _ _ _ _ K1
 have Px:=@uF.len (dU fr bI h0 hs) _ _ _ _ _ _ _ K1
 have afn:=@uF.mem (dU fr bI h0 hs) _ _ _ _ _ _ _ K1
 have Pz:=@uF.nd (dU fr bI h0 hs) _ _ _ _ _ _ _ K1
 have Py:=@uF.mine (dU fr bI h0 hs) _ _ _ _ _ _ _ K1
 have Sr:∀r R,aU Z r R->r=ah 0/\R=R0:=fun r R hr=>by
  by_cases e:r=ah 0
  ·subst e; refine ⟨rfl, ?_⟩; have:=hr.1; rw [hR0.1] at this; exact (j4 this).symm
  ·have:=hr.1; rw [lT r e] at this; simp at this
 obtain ⟨j0,TS,n0,p1,p2,p3⟩:=H.sK _ R0 hR0 hpar
 obtain ⟨Q',q1,q2,q3,q4⟩:=@Rel.kM (dU fr bI h0 hs) _ _ _ _ _ _ H1 j0 { TS with bl:=TS.bl.filter fun b=>!aa b (aY aO) } (J.loc (ah 0)).1 (J.loc (ah 0)).2 n0 (by simp [iD,p2]) p3
 rw [<-p1] at q1 q3
 have eQ:Q'=Q:=by have:=q1.1; rw [hQ] at this; exact (j4 this).symm
 subst eQ
 have IX:blk J R0 (ah 0)=(J.loc (ah 0)).1 :: J.fo (ah 0):=by unfold blk aK; rw [hpar]; rfl
 have hblk1:blk aI Q' (ah 0)=(J.loc (ah 0)).1 :: aI.fo (ah 0):=by unfold blk aK; rw [q2]; simp [q3]
 have hsize:w.heap.size<=w'.heap.size:=by have:=(@Rel.frame (dU fr bI h0 hs) _ _ _ _ _ _ H1).2.2.2.1; simpa [iD,hw0] using this
 have kK:=K0.nd
 rw [IX] at kK
 have sH:=jg.1 kK
 have jI:=cK.1 (hperm.nodup sH.2)
 have hbad:∀b∈aY aO,b∈J.fo (ah 0):=fun b hb=>hperm.mem_iff.2 (bB _ hb)
 have Cr:∀b∈aY aO,b∈blk J R0 (ah 0):=fun b hb=>by rw [IX]; exact jD _ (hbad b hb)
 have hno:∀b∈aY aO,¬Ow.mine (iD cx (aY aO)) w' b:=fun b hb hm=>by
  have hlt:=(K0.mine b (Cr b hb)).1
  rcases hm.2 with h | ⟨j,kH,h1,h2⟩
  ·have:w.heap.size<=b:=by simpa [iD,hw0] using h
   omega
  ·obtain ⟨pi,_,rfl⟩:=r_ h1
   have:=(eF.1 h2).2
   rw [b_.2 hb] at this
   simp at this
 have hsame:∀b∈aY aO,hp w' b=hp w b:=fun b hb=>by
  have hlt:=(K0.mine b (Cr b hb)).1
  have:=(@Rel.frame (dU fr bI h0 hs) _ _ _ _ _ _ H1).2.2.2.2.1 b (by simpa [iD,hw0] using hlt) (fun j kH h1 h2=>by
   obtain ⟨pi,_,rfl⟩:=r_ h1
   have:=(eF.1 h2).2
   rw [b_.2 hb] at this
   simp at this)
  simpa [iD,hw0] using this
 have hrow':∀q∈aO, @Ow fr (hp w') R0.own (fun _=>False) (.sl e kk) (tb q.1) [q.2.1] q.2.2:=fun q hq=>
  dY (fun _ h=>h.elim) (fun _ h=>h) (fun b hb=>hsame b (jZ.2 ⟨q,hq,hb⟩)) (hrow q hq)
 obtain ⟨vN,r1,r2⟩:=al0 (fr:=fr) (cx:=cx) (dU fr bI h0 hs) rfl sG hRR hL (fun q hq=>⟨hrow' q (hRs q hq),hid q (hRs q hq)⟩)
 have Nt:∀b∈aY uw,b∈aY aO:=fun b hb=>by
  obtain ⟨q,hq,h⟩:=jZ.1 hb
  exact jZ.2 ⟨q,hRs q hq,h⟩
 have CG:∀b∈aY jX,b∈aY aO:=fun b hb=>by
  obtain ⟨q,hq,h⟩:=jZ.1 hb
  exact jZ.2 ⟨q,yl q hq,h⟩
 have hsel:(aY uw++aY jX).Nodup:=by
  have:=UM jI.2.1 hnd (l:=uw++jX) (fun q hq=>(bW.1 hq).elim (hRs q) (yl q)) hall
  have e:aY (uw++jX)=aY uw++aY jX:=by simp [aY]
  rwa [e] at this
 obtain ⟨hnR,Si,IP⟩:=cK.1 hsel
 have Nn:∀b∈F1,Ow.mine (iD cx (aY aO)) w' b:=@Rel.fl (dU fr bI h0 hs) _ _ _ _ _ _ H1
 have zY:∀b∈(J.loc (ah 0)).1 :: aI.fo (ah 0),Ow.mine (iD cx (aY aO)) w' b:=fun b hb=>Py b (by rw [hblk1]; exact hb)
 have I6:∀b,Ow.mine (iD cx (aY aO)) w' b->Ow.mine cx w' b:=fun b hb=>⟨hb.1,hb.2.imp (fun h=>h) (fun ⟨j,kH,h1,h2⟩=>by
  obtain ⟨pi,h3,rfl⟩:=r_ h1
  exact ⟨j,pi,h3,(eF.1 h2).1⟩)⟩
 have Np:∀b∈aY aO,Ow.mine cx w' b:=fun b hb=>by
  obtain ⟨m1,m2⟩:=K0.mine b (Cr b hb)
  exact ⟨by omega,m2⟩
 have Zz:vN.flatten.Nodup:=r2.nodup_iff.2 (cK.2 ⟨hfn,hnR,fun b hb c hc Ca=>by subst Ca; exact hno b (Nt b hc) (Nn b (qC b hb))⟩)
 have IK:∀b∈vN.flatten,b∈ay.flatten\/b∈aY uw:=fun b hb=>bW.1 (r2.mem_iff.1 hb)
 refine ⟨Cb (J.loc (ah 0)) (aI.hdr (ah 0)) (aI.fo (ah 0)++aY jX),vN, ?_,r1 _ _ _,Zz⟩
 have tZ:∀{r R},aU (vL (su R0.k y R0.own wt ht)) r R->r=ah 0/\R=su R0.k y R0.own wt ht:=fun h=>Cc h.1
 have EK:blk (Cb (J.loc (ah 0)) (aI.hdr (ah 0)) (aI.fo (ah 0)++aY jX)) (su R0.k y R0.own wt ht) (ah 0)=(J.loc (ah 0)).1 :: (aI.fo (ah 0)++aY jX):=rfl
 have I8:=Pz
 rw [hblk1] at I8
 have Zy:=jg.1 I8
 have hf1:=@Rel.frame (dU fr bI h0 hs) _ _ _ _ _ _ H1
 have hfd1:=@Rel.fB (dU fr bI h0 hs) _ _ _ _ _ _ H1
 have iH:∀b o,aK (Cb (J.loc (ah 0)) (aI.hdr (ah 0)) (aI.fo (ah 0)++aY jX)) (su R0.k y R0.own wt ht) (ah 0)=some (b,o)->J.loc (ah 0)=(b,o):=fun b o h=>j4 h
 have Nu:R0.k.size=Q'.k.size:=hP.size.symm
 have Sv:∀j p ts v,cx.ptrs j p ts v->ah j=ah 0:=fun j p ts v h=>by
  obtain ⟨_,R,f1,_⟩:=H.ry j p ts v h
  refine kN fun e=>?_
  rw [lT _ e] at f1
  simp at f1
 have hdf:=@Rel.defs (dU fr bI h0 hs) _ _ _ _ _ _ H1
 have hsz0:=@Rel.sz (dU fr bI h0 hs) _ _ _ _ _ _ H1
 have hsz1:cx.nt<=a1.tmps.size:=hsz0
 have Sc:=@Rel.qc (dU fr bI h0 hs) _ _ _ _ _ _ H1
 refine ⟨hdf,hsz1, ?_, ?_,fun s=>trivial,fun s=>trivial, ?_, ?_, ?_, ?_,Zz, ?_, ?_, ?_, ?_, ?_, ?_⟩
 ·intro j pi b o n hj hb
  obtain ⟨R,f1,f2,f3,f4⟩:=H.kM j pi b o n hj hb
  obtain ⟨e1,rfl⟩:=Sr _ R f1
  rw [e1] at f3 ⊢
  exact ⟨_,⟨zN,rfl⟩,rfl,f3,f4⟩
 ·intro r R hr _
  obtain ⟨rfl,rfl⟩:=tZ hr
  exact ⟨j0,TS,n0,p1,p2,p3⟩
 ·intro r R hr
  obtain ⟨rfl,rfl⟩:=tZ hr
  refine ⟨fun _=>?_,by show (aI.hdr (ah 0)).length=R0.k.size; rw [Px,Nu],fun b o hb=>?_, ?_,fun b hb=>?_⟩
  ·have o1 : @Ow (dU fr bI h0 hs) (hp w') R0.own (fun _=>False) Q'.k Q'.x (aI.hdr (ah 0)) (aI.fo (ah 0)):=by
    have hk1:∀t∈Q'.k.tys,aa t Q'.own=true:=fun t ht=>RH t (by rw [<-EI]; exact ht)
    have hk2:∀t∈Q'.k.tys,aa t R0.own=true:=fun t ht=>hown' t (by rw [<-EI]; exact ht)
    exact @j5 (dU fr bI h0 hs) _ _ _ _ _ _ _ _ (lu hk2) (@Mr (dU fr bI h0 hs) _ _ _ _ _ _ _ _ (fun t ht=>by rw [hk1 t ht,hk2 t ht]) (PD Cq))
   have o2:=Qd (fr:=fr) (dU fr bI h0 hs) hown hP o1 (fun q hq=>⟨hrow' q (yl q hq),hid q (yl q hq)⟩)
   exact j5 (lu hown) o2
  ·have hbo:=iH b o hb
   obtain ⟨m1,arr,e',lo,hi,m2,m3,m4,m5⟩:=afn b o (by unfold aK; rw [q2]; simp [q3,hbo])
   exact ⟨m1,arr,e',lo,hi,m2,m3,by show o+R0.k.size<=_; rw [Nu]; exact m4,fun t ht=>by simp [su] at ht⟩
  ·rw [EK]
   refine jg.2 ⟨fun h=>?_,cK.2 ⟨Zy.2,Si,fun b hb c hc Ca=>by subst Ca; exact hno b (CG b hc) (zY b (jD _ hb))⟩⟩
   rcases bW.1 h with h | h
   ·exact Zy.1 h
   ·exact hno _ (CG _ h) (zY _ jE)
  ·rw [EK] at hb
   rcases bT.1 hb with h | h
   ·exact I6 b (zY b (by rw [h]; exact jE))
   ·rcases bW.1 h with h | h
    ·exact I6 b (zY b (jD _ h))
    ·exact Np b (CG b h)
 ·intro r R hr
  obtain ⟨rfl,rfl⟩:=Cc hr
  exact ⟨fun t ht=>by simp [su] at ht,Ad 0,fun n hn=>by simp [su] at hn⟩
 ·intro r R r' R' hr hr' hne
  exact absurd ((tZ hr).1.trans (tZ hr').1.symm) hne
 ·intro b hb
  rcases IK b hb with h | h
  ·exact I6 b (Nn b (qC b h))
  ·exact Np b (Nt b h)
 ·intro r R hr b hb lJ
  obtain ⟨rfl,rfl⟩:=tZ hr
  rw [EK] at hb
  have hc1:b∈(J.loc (ah 0)).1 :: aI.fo (ah 0)\/b∈aY jX:=by
   rcases bT.1 hb with h | h
   ·exact .inl (by rw [h]; exact jE)
   ·exact (bW.1 h).imp (fun h=>jD _ h) id
  rcases hc1 with h | h
  ·rcases IK b lJ with g | g
   ·exact hfd1 _ Q' hlv1 b (by rw [hblk1]; exact h) (qC b g)
   ·exact hno b (Nt b g) (zY b h)
  ·rcases IK b lJ with g | g
   ·exact hno b (CG b h) (Nn b (qC b g))
   ·exact IP b g b h rfl
 ·obtain ⟨f1,f2,f3,f4,f5,f6⟩:=hf1
  refine ⟨f1,f2,f3,f4,fun b hb hnb=>f5 b hb (fun j kH h1 h2=>?_),fun j pi b o n hj hb=>?_⟩
  ·obtain ⟨pi,h3,rfl⟩:=r_ h1
   exact hnb j pi h3 (eF.1 h2).1
  ·exact f6 j { pi with bl:=pi.bl.filter fun b=>!aa b (aY aO) } b o n (by simp [iD,hj]) hb
 ·intro j pi hj hkp
  obtain ⟨R,f1,_⟩:=H.qc j pi hj hkp
  have ej:ah j=ah 0:=kN fun ne=>by rw [lT _ ne] at f1; simp at f1
  refine ⟨su R0.k y R0.own wt ht,by rw [ej]; exact zN,fun _ b hb hnb=>?_⟩
  have hone:∀q Q,aU (vL (su R0.k y R0.own wt ht)) q Q->b∈blk (Cb (J.loc (ah 0)) (aI.hdr (ah 0)) (aI.fo (ah 0)++aY jX)) Q q->q=ah j:=fun q Q hq _=>by rw [(tZ hq).1,ej]
  by_cases hbt:b∈aY aO
  ·by_cases hbR:b∈aY uw
   ·obtain ⟨q,hq,h⟩:=jZ.1 hbR
    obtain ⟨t,t1,_,t3⟩:=zb (hrow q (hRs q hq)) b h
    exact .inl ⟨t,by rw [hw0]; exact t3, .inl (hwk t t1)⟩
   ·refine .inr ⟨by rw [hw0]; exact hsame b hbt,fun hF=>?_,hone⟩
    rcases IK b hF with g | g
    ·exact hno b hbt (Nn b (qC b g))
    ·exact hbR g
  ·obtain ⟨R1,k1,k2⟩:=Sc j { pi with bl:=pi.bl.filter fun b=>!aa b (aY aO) } (by simp [iD,hj]) hkp
   have eR:R1=Q':=by rw [ej,hQ] at k1; exact (j4 k1).symm
   subst eR
   rcases k2 Cq.1 b (eF.2 ⟨hb,by rw [gT.2 hbt]; rfl⟩) (fun h=>hnb (Q3.1 h)) with ⟨t,t1,t2⟩ | ⟨t1,t2,_⟩
   ·exact .inl ⟨t,t1, .inl (t2.elim (rG.1 hwt.1 t) (rG.1 hwt.2 t))⟩
   ·refine .inr ⟨t1,fun hF=>?_,hone⟩
    rcases IK b hF with g | g
    ·exact t2 (qC b g)
    ·exact hbt (Nt b g)
 ·refine ⟨fun j pi hj b hb=>H.mF.1 j pi hj b hb,fun b hb=>H.mF.2.1 b hb,fun b hb=>H.mF.2.2 b hb⟩
 ·intro j p ts v hv
  have ej:=Sv j p ts v hv
  obtain ⟨g1,R,f1,f2⟩:=H.ry j p ts v hv
  obtain ⟨k0,rfl⟩:=t_ j p ts v hv
  refine ⟨g1,su R0.k y R0.own wt ht,by rw [ej]; exact zN,fun hts=>?_⟩
  cases p with
  | cons s p=>exact absurd I5 (hts jM (by simp [iW]))
  | nil=>
   refine ⟨g1,fun R' hR' _ _ _ _=>?_⟩
   rw [ej] at hR'
   obtain ⟨_,rfl⟩:=Cc hR'
   obtain ⟨_,cs,b,o,hn,ev⟩:=(f2 (fun t ht=>by simp [iW] at ht)).2 R0 (by rw [ej]; exact hR0.1) hv0 (by unfold iW clean; simp [aa]) (fun t ht=>by simp [az] at ht) rfl
   rw [ej] at hn
   simp only [aT,au,bS] at hn
   refine ⟨trivial,aI.hdr (ah 0),b,o, ?_,ev⟩
   have h2:=hn.2
   unfold aK at h2
   rw [hpar] at h2
   rw [ej]
   simp only [aT]
   exact congrArg (fun z=>some (aI.hdr (ah 0),z)) h2
 ·intro j v hv
  obtain ⟨⟨R,f1⟩,f2⟩:=H.rz j v hv
  have ej:ah j=ah 0:=kN fun ne=>by rw [lT _ ne] at f1; simp at f1
  rw [ej] at f2
  have:=(f2 R0 hR0 hg0).1
  rw [hpar] at this
  simp at this
end
end
section
open Go
def jJ:List aV->Bool
 | []=>true
 | .val k [] :: l=>rC k && jJ l
 | .fn _ ks :: l=>ks.all rC && jJ l
 | _=>false
section
variable [Fr]
theorem FQ:∀{ps:List aV} {i:Nat} {c:Cont (kin ps)},jJ ps=true->iI ps i c=[]
 | [],_,_,_=>rfl
 | .val k [] :: ps,i,c,h=>by
  simp only [jJ,bg] at h
  exact FQ (ps:=ps) (i:=i+1) (c:=c.2) h.2
 | .fn f ks :: ps,i,c,h=>by
  simp only [jJ,bg] at h
  exact FQ (ps:=ps) (i:=i+1) (c:=Cont.snd ks (kin ps) c) h.2
 | .val _ (_ :: _) :: _,_,_,h=>by simp [jJ] at h
 | .ro _ :: _,_,_,h=>by simp [jJ] at h
 | .rw _ _ _ _ :: _,_,_,h=>by simp [jJ] at h
 | .bR _ _ _ :: _,_,_,h=>by simp [jJ] at h
 | .own _ _ :: _,_,_,h=>by simp [jJ] at h
 | .into _ _ :: _,_,_,h=>by simp [jJ] at h
theorem X6 (i:Nat):∀{ks:List K} {c:Cont ks},ks.all rC=true->∀q∈gp.x8 i ks c,rC q.2.1.1=true/\Cf q.2.2/\q.1=SENT
 | [],_,_,q,hq=>by simp [gp.x8] at hq
 | k :: ks,c,h,q,hq=>by
  simp only [List.all_cons,bg] at h
  simp only [gp.x8] at hq
  rcases bT.1 hq with rfl | hq
  ·exact ⟨h.1,fun t ht=>by simp only [gI] at ht; subst ht; exact uP i,rfl⟩
  ·exact X6 i h.2 q hq
theorem Oa:∀{ps:List aV} {i:Nat} {c:Cont (kin ps)},jJ ps=true->∀s,xV (jm (gp ps i c) s)
 | [],_,_,_,s=>trivial
 | .val k [] :: ps,i,c,h,s=>by
  simp only [jJ,bg] at h
  simp only [gp,jm]
  cases Nat.beq s i with
  | true=>
   refine ⟨h.1,fun t ht=>?_⟩
   cases hf:k.flat with
   | true=>rw [hf] at ht; simp at ht
   | false=>rw [hf] at ht; simp at ht; subst ht; exact uP i
  | false=>exact Oa (ps:=ps) (i:=i+1) (c:=c.2) h.2 s
 | .fn f ks :: ps,i,c,h,s=>by
  simp only [jJ,bg] at h
  simp only [gp,jm]
  cases Nat.beq s i with
  | true=>exact X6 i h.1
  | false=>exact Oa (ps:=ps) (i:=i+1) (c:=Cont.snd ks (kin ps) c) h.2 s
 | .val _ (_ :: _) :: _,_,_,h,_=>by simp [jJ] at h
 | .ro _ :: _,_,_,h,_=>by simp [jJ] at h
 | .rw _ _ _ _ :: _,_,_,h,_=>by simp [jJ] at h
 | .bR _ _ _ :: _,_,_,h,_=>by simp [jJ] at h
 | .own _ _ :: _,_,_,h,_=>by simp [jJ] at h
 | .into _ _ :: _,_,_,h,_=>by simp [jJ] at h
theorem N_ {Z:St}:∀{ps:List aV} {i:Nat} {c:Cont (gq ps)},jJ ps=true->rU Z ps i c
 | [],_,_,_=>trivial
 | .val k [] :: ps,i,c,h=>by
  simp only [jJ,bg] at h
  exact N_ (ps:=ps) (i:=i+1) (c:=c) h.2
 | .fn f ks :: ps,i,c,h=>by
  simp only [jJ,bg] at h
  exact N_ (ps:=ps) (i:=i+1) (c:=c) h.2
 | .val _ (_ :: _) :: _,_,_,h=>by simp [jJ] at h
 | .ro _ :: _,_,_,h=>by simp [jJ] at h
 | .rw _ _ _ _ :: _,_,_,h=>by simp [jJ] at h
 | .bR _ _ _ :: _,_,_,h=>by simp [jJ] at h
 | .own _ _ :: _,_,_,h=>by simp [jJ] at h
 | .into _ _ :: _,_,_,h=>by simp [jJ] at h
theorem Xn {e:TypeId} {kk:K} {z:Bool} {tb:Nat->List (El kk)} {k k1 k2:K} {x:El k} {y1:El k1} {y2:El k2} {ns:List Nat} (ek:k1=k2) (ey:y2=ek▸y1) (h:Rw e kk z tb k k2 x y2 ns):Rw e kk z tb k k1 x y1 ns:=by
 subst ek
 simp only at ey
 subst ey
 exact h
end
theorem aas [fr:Fr] {e:TypeId} {kk:K} {P:Program} {n:Nat} {f:FuncId} {k k':K} {ow wt ht dX ht':List TypeId} {rest:List aV} {rs rs':List gN}
  {F:Nat->Cont (kin (.rw k ow wt ht :: rest))->Option (Cont (eO rs++gq (.rw k ow wt ht :: rest)))} {F':Nat->Cont (kin (.rw k' ow dX ht' :: rest))->Option (Cont (eO rs'++gq (.rw k' ow dX ht' :: rest)))}
  (hrest:jJ rest=true) (hown:∀t∈k.tys,aa t ow=true) (hown':∀t∈k'.tys,aa t ow=true) (sG:∀t∈(K.sl e kk).tys,aa t ow=true)
  (hE:∀fr:Fr, @aD fr P n ⟨f, .rw k' ow dX ht' :: rest,rs',F'⟩) (hwt:iK dX wt=true) (hwk:∀t∈(K.sl e kk).tys,t∈wt) (I5:jM∈ht)
  (hF:∀c out,F n c=some out->∃(x':El k') (ns ms1 ms2:List Nat) (tb:Nat->List (El kk)) (out':Cont (eO rs'++gq (.rw k' ow dX ht' :: rest))),Rw e kk false tb k k' c.1 x' ns/\ns.Nodup/\0∉ns/\F' n (x',c.2)=some out'/\
   Ib e kk tb rs rs' (Cont.fst _ _ out) (Cont.fst _ _ out') ms1/\Rw e kk true tb k k' (Cont.snd _ _ out).1 (Cont.snd _ _ out').1 ms2/\(ms1++ms2).Nodup/\∀m∈ms1++ms2,m∈ns) :
  aD P n ⟨f, .rw k ow wt ht :: rest,rs,F⟩:=by
 intro c out hout cx J args w hnt hw hsz hP H
 obtain ⟨x',ns,ms1,ms2,tb,out',hR,hnd,hn0,hF',hRR,IP,hmm,hsub⟩:=hF c out hout
 have ha:(k.tys.all fun t=>aa t ow)=true:=eH.2 hown
 have ha':(k'.tys.all fun t=>aa t ow)=true:=eH.2 hown'
 have CF:∀r,(fD (.rw k ow wt ht :: rest) c).roots r=bif Nat.beq r (ah 0) then some (bL k c.1 ow [] .par true) else none:=fun r=>by
  show iJ (iI (.rw k ow wt ht :: rest) 0 c) r=_
  simp only [iI,FQ hrest,iJ,ha,gJ]
 have hR0:aU (fD (.rw k ow wt ht :: rest) c) (ah 0) (bL k c.1 ow [] .par true):=⟨by rw [CF]; simp,rfl⟩
 have lT:∀r,r≠ah 0->(fD (.rw k ow wt ht :: rest) c).roots r=none:=fun r hr=>by
  rw [CF]
  have:Nat.beq r (ah 0)=false:=by
   cases hb:Nat.beq r (ah 0) with
   | true=>exact absurd (bC hb) hr
   | false=>rfl
  rw [this]; rfl
 have hsl:∀s,xV ((fD (.rw k ow wt ht :: rest) c).slots s):=fun s=>by
  show xV (jm (gp (.rw k ow wt ht :: rest) 0 c) s)
  simp only [gp,jm]
  cases Nat.beq s 0 with
  | true=>exact ⟨rfl,rfl,rfl⟩
  | false=>exact Oa hrest s
 obtain ⟨aO,aF,bI,i0,is,g1,g2,g3,g4,IQ⟩:=alY H hw hR0 lT rfl rfl hown (sG e (by simp [K.tys])) hsl (k':=k') (x':=x') hR hnd hn0 hown'
 have hst:aJ (fD (.rw k ow wt ht :: rest) c) (ah 0) { bL k c.1 ow [] .par true with k:=k',x:=x' }=fD (.rw k' ow dX ht' :: rest) (x',c.2):=by
  unfold aJ fD
  congr 1
  funext r
  show upd (fD (.rw k ow wt ht :: rest) c).roots (ah 0) _ r=iJ (iI (.rw k' ow dX ht' :: rest) 0 (x',c.2)) r
  simp only [iI,FQ hrest,iJ,ha',gJ]
  unfold upd
  cases hb:Nat.beq r (ah 0) with
  | true=>rfl
  | false=>simp only [kg]; rw [CF,hb]; rfl
 rw [hst] at IQ
 have hP':D9 (iD cx (aY aO)) (.rw k' ow dX ht' :: rest):=by
  refine ⟨fun j kH hj hkp=>?_,fun j p ts v h=>h.elim,fun j v h=>h.elim⟩
  obtain ⟨pi,hj',rfl⟩:=r_ hj
  obtain ⟨k0,o1,o2,o3,h⟩:=hP.par j pi hj' hkp
  cases j with
  | zero=>exact ⟨k',ow,dX,ht', .inl rfl⟩
  | succ j=>exact ⟨k0,o1,o2,o3,by simpa using h⟩
 have h:=hE (dU fr bI i0 is) (x',c.2) out' hF' (iD cx (aY aO)) _ args w hnt hw hsz hP' IQ
 have hpost:∀v w', @Post (dU fr bI i0 is) (iD cx (aY aO)) (.rw k' ow dX ht' :: rest) rs' out' v w'->@Post fr cx (.rw k ow wt ht :: rest) rs out v w':=by
  rintro v w' ⟨Z1,aI,F1,a1,vs,ay,H1,rfl,hL,hfn,qC,hOut,_⟩
  obtain ⟨Q,q1,q2,⟨ek,ey⟩,q4,q5,_⟩:=hOut
  have RJ:=Xn ek ey IP
  obtain ⟨uw,t1,t2⟩:=select (aO:=aO) (ns:=ms1) (fun m hm=>by rw [g1]; exact hsub m (bK _ hm))
  obtain ⟨jX,t3,t4⟩:=select (aO:=aO) (ns:=ms2) (fun m hm=>by rw [g1]; exact hsub m (bB _ hm))
  have nH:=q5
  unfold xx at nH
  simp only [bg] at nH
  obtain ⟨⟨⟨⟨l1,l2⟩,_⟩,_⟩,_⟩:=nH
  have htr:∀{l:List Nat},iK l dX=true->iK l wt=true:=fun hl=>rG.2 fun t ht=>rG.1 hwt t (rG.1 hl t ht)
  obtain ⟨iM,vN,r1,r2,r3⟩:=alW (fr:=fr) H hw hR0 lT rfl rfl ⟨rfl,rfl⟩ hown hown' sG g2 (by rw [g1]; exact hnd) g3 g4 H1 q1 q2 ek (fun t ht=>by
    have:=eH.1 q4 t ht
    rw [hown' t ht] at this
    simpa using this) (wt:=wt) (ht:=ht) ⟨htr l1,htr l2⟩ hwk I5 (y:=(Cont.snd _ _ out).1) (jX:=jX) (by rw [t3]; exact RJ) t4 (uw:=uw) t2 (by rw [t1]; exact hRR) hL hfn qC
    (by rw [rQ,t1,t3]; exact hmm) (fun j p ts v h=>by obtain ⟨k0,_,h⟩:=hP.ptr j p ts v h; exact ⟨k0,h⟩)
  refine ⟨_,iM,vN.flatten,a1,vs,vN,r1,rfl,r2,r3,fun b hb=>hb,⟨_,zN,⟨rfl,rfl⟩,⟨rfl,rfl⟩, ?_, ?_, .inl ha⟩,N_ hrest⟩
  ·exact eH.2 fun t _=>by simp [su]; rfl
  ·unfold xx su
   simp only [iK,List.all_nil,bg,eH]
   exact ⟨⟨⟨⟨fun x hx=>b_.2 hx,trivial⟩,fun x hx=>b_.2 hx⟩,fun x hx=>b_.2 hx⟩,rfl⟩
 rcases h with ⟨h1,h2⟩ | ⟨v,w',h1,h2⟩
 ·refine .inl ⟨h1,h2.mono ?_⟩
  rintro e w' ⟨v,rfl,hv⟩
  exact ⟨v,rfl,hpost v w' hv⟩
 ·exact .inr ⟨v,w',h1,hpost v w' h2⟩
end
section
open Go
theorem Ic {e:TypeId} {kk:K} {z:Bool} {tb:Nat->List (El kk)} {k k':K} {t:TypeId} {C:Type} (hsz:k'.size=k.size) (l:List C) (f:C->El k) (g:C->El k') (q:C->List Nat)
  (h:∀c∈l,Rw e kk z tb k k' (f c) (g c) (q c)):Rw e kk z tb (.sl t k) (.sl t k') (l.map f) (l.map g) (l.map q).flatten:=by
 unfold Rw
 refine ⟨rfl,hsz,by simp,l.map q,by simp,rfl,fun i h1 h2=>?_⟩
 have hi:i<l.length:=by simpa using h1
 have:=h l[i] (jY hi)
 simpa [ig,hi] using this
theorem yE {C:Type} (xs:List C):((xs.zipIdx 1).map (·.2)).Nodup/\0∉(xs.zipIdx 1).map (·.2):=by
 rw [List.zipIdx_map_snd]
 exact ⟨List.nodup_range',by simp⟩
theorem JB {C:Type} (xs:List C):(xs.zipIdx 1).map (·.1)=xs:=List.zipIdx_map_fst ..
theorem TK {C R:Type} {xs:List C} {m:C->R} {d:R} {x:C} {i:Nat} (h:(x,i)∈xs.zipIdx 1):((xs[i - 1]?).map m).getD d=m x/\i≠0:=by
 obtain ⟨h1,h2,h3⟩:=List.mem_zipIdx h
 have hi:i - 1<xs.length:=by omega
 exact ⟨by simp [hi,h3],by omega⟩
end
section
open Go
section
variable {e:TypeId} {kk:K} [fr:Fr]
variable {cx:Cx} {Z:St} {J:aH} {a:Act} {w:World}
def mP (cx:Cx) (bad:List Nat):Cx:={ iD cx bad with refs:=cx.refs }
theorem X0 {bad:List Nat} {Z':St} {J':aH} {F':List Nat}:∀{cs:List (TypeId×Dat×List Tag)} {vs:List Value},nA (iD cx bad) Z' J' F' w cs vs->nA (mP cx bad) Z' J' F' w cs vs
 | [],[],_=>trivial
 | _ :: _,_ :: _,h=>⟨h.1,X0 h.2⟩
 | [],_ :: _,h=>h.elim
 | _ :: _,[],h=>h.elim
theorem acV {bad:List Nat} {Z':St} {J':aH} {F':List Nat} {x:AV} {v:Value} (h:aW (iD cx bad) Z' J' F' w x v):aW (mP cx bad) Z' J' F' w x v:=by
 cases x with
 | fn f cs=>obtain ⟨vs,h1,h2⟩:=h; exact ⟨vs,h1,X0 h2⟩
 | _=>exact h
theorem Qn {e1 e2:TypeId} {k1 k2:K} {v:Value} {cs:List Value} (h:VC (.sl e1 k1) v cs):VC (.sl e2 k2) v cs:=h
def tT (k:K) (x:El k) (ow wt ht:List TypeId):Root:={ k,x,own:=ow,tags:=[],w:=wt,h:=ht,g:=0,kind:=.anon,fixed:=true,keep:=true,ew:=[],eh:=ht }
theorem alZ (H:Rel cx Z J [] a w) (hw0:cx.w0=w) {R0:Root} {e1:TypeId} {k1:K} (hk0:R0.k=.sl e1 k1) (hR0:aU Z (ah 0) R0) (lT:∀r,r≠ah 0->Z.roots r=none) (xm:R0.kind=.anon) (oK:R0.tags=[]) (hown:∀t∈R0.k.tys,aa t R0.own=true) (he:aa e R0.own=true)
  (hs0:Z.slots 0=.one (.ref (ah 0) 0)) (hsl:∀s,s≠0->xV (Z.slots s)) {e2:TypeId} {k2:K} {x':El (.sl e2 k2)} {tb:Nat->List (El kk)} {ns:List Nat} (hR:Rw e kk false tb R0.k (.sl e2 k2) R0.x x' ns) (hnd:ns.Nodup) (hn0:0∉ns) (hown':∀t∈(K.sl e2 k2).tys,aa t R0.own=true) (hg0:R0.g=0) :
  ∃(aO:List nN) (aF:List Nat) (bI:Nat->Value) (h0:bI 0=.slice none 0 0) (hs:∀i,∃a n c,bI i=.slice a n c),aO.map (·.1)=ns/\(J.fo (ah 0)).Perm (aF++aY aO)/\
   (∀q∈aO, @Ow fr (hp w) R0.own (fun _=>False) (.sl e kk) (tb q.1) [q.2.1] q.2.2)/\(∀q∈aO,bI q.1=q.2.1)/\
   @Rel (dU fr bI h0 hs) (mP cx (aY aO)) (aJ Z (ah 0) { R0 with k:=.sl e2 k2,x:=x' }) (aR J (ah 0) (J.loc (ah 0)) (J.hdr (ah 0)) aF) [] a w:=by
 have KR:=H.roots _ R0 hR0
 have hv0:cB Z R0:=⟨hR0.2,by rw [oK]; rfl⟩
 have hO:Ow (hp w) R0.own (fun _=>False) R0.k R0.x (J.hdr (ah 0)) (J.fo (ah 0)):=j5 (lu hown) (KR.ow hv0)
 obtain ⟨aO,aF,g1,g2,g3,g4⟩:=Xj hown hR hO
 obtain ⟨bI,i1,i2,i3⟩:=SK (aO:=aO) (by rw [g1]; exact hnd) (by rw [g1]; exact hn0) (fun q hq=>abV he (g3 q hq))
 refine ⟨aO,aF,bI,i1,i2,g1,g2,g3,i3, ?_⟩
 have hblk:blk J R0 (ah 0)=J.fo (ah 0):=by unfold blk aK; rw [xm]; rfl
 have hsub:∀b∈aF,b∈J.fo (ah 0):=fun b hb=>g2.mem_iff.2 (bK _ hb)
 have hbad:∀b∈aY aO,b∈J.fo (ah 0):=fun b hb=>g2.mem_iff.2 (bB _ hb)
 have L:wP cx Z J R0 { R0 with k:=.sl e2 k2,x:=x' } aF (aY aO):=⟨fun r R hr=>by
  by_cases e:r=ah 0
  ·subst e; refine ⟨rfl, ?_⟩; have:=hr.1; rw [hR0.1] at this; exact (j4 this).symm
  ·have:=hr.1; rw [lT r e] at this; simp at this,hR0,rfl,oK,hsub,hbad⟩
 have kK:=KR.nd
 rw [hblk] at kK
 have jI:=cK.1 (g2.nodup kK)
 have hlv:∀{q Q},aU (aJ Z (ah 0) { R0 with k:=.sl e2 k2,x:=x' }) q Q->q=ah 0/\Q={ R0 with k:=.sl e2 k2,x:=x' }:=fun {q Q} hq=>by
  rcases uo hq with ⟨rfl,rfl,_⟩ | ⟨e,hq'⟩
  ·exact ⟨rfl,rfl⟩
  ·exact absurd (L.only q Q hq').1 e
 have hlv1:aU (aJ Z (ah 0) { R0 with k:=.sl e2 k2,x:=x' }) (ah 0) { R0 with k:=.sl e2 k2,x:=x' }:=⟨fE ..,hR0.2⟩
 have hblk':blk (aR J (ah 0) (J.loc (ah 0)) (J.hdr (ah 0)) aF) { R0 with k:=.sl e2 k2,x:=x' } (ah 0)=aF:=by
  rw [pR]; unfold ji; simp only [xm]; rfl
 have qE:∀v,aW cx Z J [] w (.ref (ah 0) 0) v->@aW (dU fr bI i1 i2) (mP cx (aY aO)) (aJ Z (ah 0) { R0 with k:=.sl e2 k2,x:=x' }) (aR J (ah 0) (J.loc (ah 0)) (J.hdr (ah 0)) aF) [] w (.ref (ah 0) 0) v:=by
  intro v hv Q hQ _
  obtain ⟨_,rfl⟩:=hlv hQ
  obtain ⟨h1,h2⟩:=hv R0 hR0 hg0
  refine ⟨xm, ?_⟩
  rw [hk0] at h2
  simp only [aR,upd_same]
  exact Qn h2
 have vQ:∀{x:gM} {v:Value},xV x->@jv fr cx Z J [] w x v->@jv (dU fr bI i1 i2) (mP cx (aY aO)) (aJ Z (ah 0) { R0 with k:=.sl e2 k2,x:=x' }) (aR J (ah 0) (J.loc (ah 0)) (J.hdr (ah 0)) aF) [] w x v:=fun hx h=>by
  have h1:=wP.av (fr:=fr) (dU fr bI i1 i2) rfl L hx h
  rename_i x v
  cases x with
  | mH l=>exact hx.elim
  | lit _ _ _=>exact hx.elim
  | one x=>exact @acV (dU fr bI i1 i2) _ _ _ _ _ _ _ _ h1
 have jV:∀b∈aF,Ow.mine (mP cx (aY aO)) w b:=fun b hb=>by
  obtain ⟨m1,m2⟩:=KR.mine b (by rw [hblk]; exact hsub b hb)
  refine ⟨m1, ?_⟩
  rcases m2 with m2 | ⟨j,pi,m2,m3⟩
  ·exact .inl m2
  ·refine .inr ⟨j,{ pi with bl:=pi.bl.filter fun b=>!aa b (aY aO) },by simp [mP,iD,m2],eF.2 ⟨m3, ?_⟩⟩
   have:aa b (aY aO)=false:=by
    rw [gT]
    intro hm
    exact jI.2.2 b hb b hm rfl
   rw [this]; rfl
 have xq:∀{j:Nat} {kH:D8},(mP cx (aY aO)).par j=some kH->∃pi,cx.par j=some pi/\kH={ pi with bl:=pi.bl.filter fun b=>!aa b (aY aO) }:=fun h=>r_ (cx:=cx) h
 have hpl:=H.mF
 refine @Rel.mk (dU fr bI i1 i2) _ _ _ _ _ _ H.defs H.sz ?_ ?_ ?_ ?_ ?_ ?_ ?_ (fun b hb=>by simp at hb) mJ (fun r R hr b hb h=>by simp at h) ?_ ?_ ?_ (fun j p ts v h=>h.elim) ?_
 ·intro j kH b o n hj hb
  obtain ⟨pi,hj',rfl⟩:=xq hj
  obtain ⟨R,f1,f2,_⟩:=H.kM j pi b o n hj' hb
  obtain ⟨_,rfl⟩:=L.only _ R f1
  rw [xm] at f2
  simp at f2
 ·intro r R hr hk
  obtain ⟨rfl,rfl⟩:=hlv hr
  have hk:R0.kind=.par:=hk
  rw [xm] at hk
  simp at hk
 ·intro s
  show @jv (dU fr bI i1 i2) _ _ _ _ _ (Z.slots s) _
  by_cases h0:s=0
  ·subst h0
   have:=H.slots 0
   rw [hs0] at this ⊢
   exact qE _ this
  ·exact vQ (hsl s h0) (H.slots s)
 ·intro s
  show nu _ (Z.slots s)
  by_cases h0:s=0
  ·subst h0
   rw [hs0]
   exact ⟨_,fE .., .inr (fT _)⟩
  have hs:=hsl s h0
  cases hx:Z.slots s with
  | mH l=>rw [hx] at hs; exact hs.elim
  | lit _ _ _=>rw [hx] at hs; exact hs.elim
  | one x=>
   rw [hx] at hs
   cases x with
   | undef=>trivial
   | ptr r p n=>obtain ⟨rfl,rfl,rfl⟩:=hs; exact ⟨_,fE .., .inr (fT _)⟩
   | val k x T=>exact fun t ht=>.inl (hs.2 t ht)
   | fn f cs=>exact fun c hc t ht=>.inl ((hs c hc).2.1 t ht)
   | _=>exact hs.elim
 ·intro r R hr
  obtain ⟨rfl,rfl⟩:=hlv hr
  refine @uF.mk (dU fr bI i1 i2) _ _ _ _ _ _ _ (fun _=>?_) ?_ ?_ ?_ ?_
  ·have e1:(aR J (ah 0) (J.loc (ah 0)) (J.hdr (ah 0)) aF).hdr (ah 0)=J.hdr (ah 0):=by simp [aR,upd_same]
   have e2:(aR J (ah 0) (J.loc (ah 0)) (J.hdr (ah 0)) aF).fo (ah 0)=aF:=by simp [aR,upd_same]
   rw [e1,e2]
   exact @j5 (dU fr bI i1 i2) _ _ _ _ _ _ _ _ (lu hown') (g4 (dU fr bI i1 i2) rfl i3)
  ·show ((aR J (ah 0) (J.loc (ah 0)) (J.hdr (ah 0)) aF).hdr (ah 0)).length=(K.sl e2 k2).size
   rw [hR.size]
   simpa [aR,upd_same] using KR.len
  ·intro b o hb
   rw [L.wh] at hb
   unfold aK at hb
   rw [xm] at hb
   simp at hb
  ·rw [hblk']
   exact jI.1
  ·intro b hb
   rw [hblk'] at hb
   exact jV b hb
 ·intro r R hr
  by_cases e:r=ah 0
  ·subst e
   rw [fE] at hr
   have hr:=j4 hr
   subst hr
   exact ⟨fun t ht=>by rw [show ({ R0 with k:=.sl e2 k2,x:=x' }:Root).tags=R0.tags from rfl,oK] at ht; simp at ht,Ad 0,fun n hn=>by rw [show ({ R0 with k:=.sl e2 k2,x:=x' }:Root).tags=R0.tags from rfl,oK] at hn; simp at hn⟩
  ·rw [jW _ _ e,lT r e] at hr; simp at hr
 ·intro r R r' R' hr hr' hne
  exact absurd ((hlv hr).1.trans (hlv hr').1.symm) hne
 ·obtain ⟨f1,f2,f3,f4,f5,f6⟩:=H.frame
  refine ⟨f1,f2,f3,f4,fun b _ _=>by show hp w b=hp cx.w0 b; rw [hw0],fun j kH b o n hj hb=>?_⟩
  obtain ⟨pi,hj',rfl⟩:=xq hj
  exact f6 j pi b o n hj' hb
 ·intro j kH hj hkp
  obtain ⟨pi,hj',rfl⟩:=xq hj
  obtain ⟨R,f1,f2⟩:=H.qc j pi hj' hkp
  by_cases e:ah j=ah 0
  ·refine ⟨_,by rw [e]; exact fE ..,fun _ b hb hnb=>.inr ⟨by show hp w b=hp cx.w0 b; rw [hw0],by simp,fun q Q hq _=>by rw [(hlv hq).1,e]⟩⟩
  ·rw [lT _ e] at f1; simp at f1
 ·refine ⟨fun j kH hj b hb=>?_,fun b hb=>⟨?_,fun j kH hj hbl=>?_⟩,fun b hb=>hpl.2.2 b hb⟩
  ·obtain ⟨pi,hj',rfl⟩:=xq hj
   exact hpl.1 j pi hj' b (eF.1 hb).1
  ·exact (hpl.2.1 b hb).1
  ·obtain ⟨pi,hj',rfl⟩:=xq hj
   exact (hpl.2.1 b hb).2 j pi hj' (eF.1 hbl).1
 ·intro j v hv
  have hv:cx.refs j v:=hv
  obtain ⟨⟨R,f1⟩,f2⟩:=H.rz j v hv
  have ej:ah j=ah 0:=kN fun ne=>by rw [lT _ ne] at f1; simp at f1
  rw [ej] at f2 ⊢
  exact ⟨⟨_,fE ..⟩,qE v f2⟩
theorem alX (H:Rel cx Z J [] a w) (hw0:cx.w0=w) {R0:Root} {e1:TypeId} {k1:K} (hk0:R0.k=.sl e1 k1) (hR0:aU Z (ah 0) R0) (lT:∀r,r≠ah 0->Z.roots r=none) (xm:R0.kind=.anon) (hg0:R0.g=0) (hv0:cB Z R0)
  (hown:∀t∈R0.k.tys,aa t R0.own=true) {e2:TypeId} {k2:K} (hown':∀t∈(K.sl e2 k2).tys,aa t R0.own=true) (sG:∀t∈(K.sl e kk).tys,aa t R0.own=true)
  {tb:Nat->List (El kk)} {aO:List nN} {aF:List Nat} {bI:Nat->Value} {h0:bI 0=.slice none 0 0} {hs:∀i,∃a n c,bI i=.slice a n c}
  (hperm:(J.fo (ah 0)).Perm (aF++aY aO)) (hnd:(aO.map (·.1)).Nodup) (hrow:∀q∈aO, @Ow fr (hp w) R0.own (fun _=>False) (.sl e kk) (tb q.1) [q.2.1] q.2.2) (hid:∀q∈aO,bI q.1=q.2.1)
  {Z1:St} {aI:aH} {F1:List Nat} {a1:Act} {w':World} (H1 : @Rel (dU fr bI h0 hs) (mP cx (aY aO)) Z1 aI F1 a1 w') {Q:Root} (hQ:Z1.roots (ah 0)=some Q) (Cq:cB Z1 Q) (EI:Q.k=.sl e2 k2) (RH:∀t∈(K.sl e2 k2).tys,aa t Q.own=true) (hQn:Q.kind=.anon) (hQg:Q.g=0)
  {wt:List TypeId} (hwt:iK Q.w wt=true/\iK Q.ew wt=true)
  {y:El R0.k} {jX:List nN} (hP:Rw e kk true tb R0.k Q.k y Q.x (jX.map (·.1))) (yl:∀q∈jX,q∈aO) (hall:(jX.map (·.1)).Nodup)
  (t_:∀j p ts v,cx.ptrs j p ts v->j=0->ts=iW p R0.k) :
  Rel cx (vL (tT R0.k y R0.own wt R0.k.tys)) (Cb (J.loc (ah 0)) (aI.hdr (ah 0)) (aI.fo (ah 0)++aY jX)) [] a1 w':=by
 have K0:=H.roots _ R0 hR0
 have hlv1:aU Z1 (ah 0) Q:=⟨hQ,Cq.1⟩
 have K1:=@Rel.roots (dU fr bI h0 hs) _ _ _ _ _ _ H1 _ Q hlv1
 have PD:=@uF.ow (dU fr bI h0 hs) _ _ _ _ _ _ _ K1
 have Px:=@uF.len (dU fr bI h0 hs) _ _ _ _ _ _ _ K1
 have Pz:=@uF.nd (dU fr bI h0 hs) _ _ _ _ _ _ _ K1
 have Py:=@uF.mine (dU fr bI h0 hs) _ _ _ _ _ _ _ K1
 have Sr:∀r R,aU Z r R->r=ah 0/\R=R0:=fun r R hr=>by
  by_cases e:r=ah 0
  ·subst e; refine ⟨rfl, ?_⟩; have:=hr.1; rw [hR0.1] at this; exact (j4 this).symm
  ·have:=hr.1; rw [lT r e] at this; simp at this
 have IX:blk J R0 (ah 0)=J.fo (ah 0):=by unfold blk aK; rw [xm]; rfl
 have hblk1:blk aI Q (ah 0)=aI.fo (ah 0):=by unfold blk aK; rw [hQn]; rfl
 have hsize:w.heap.size<=w'.heap.size:=by have:=(@Rel.frame (dU fr bI h0 hs) _ _ _ _ _ _ H1).2.2.2.1; simpa [mP,iD,hw0] using this
 have kK:=K0.nd
 rw [IX] at kK
 have jI:=cK.1 (hperm.nodup kK)
 have hbad:∀b∈aY aO,b∈J.fo (ah 0):=fun b hb=>hperm.mem_iff.2 (bB _ hb)
 have Cr:∀b∈aY aO,b∈blk J R0 (ah 0):=fun b hb=>by rw [IX]; exact hbad b hb
 have xq:∀{j:Nat} {kH:D8},(mP cx (aY aO)).par j=some kH->∃pi,cx.par j=some pi/\kH={ pi with bl:=pi.bl.filter fun b=>!aa b (aY aO) }:=fun h=>r_ (cx:=cx) h
 have hno:∀b∈aY aO,¬Ow.mine (mP cx (aY aO)) w' b:=fun b hb hm=>by
  have hlt:=(K0.mine b (Cr b hb)).1
  rcases hm.2 with h | ⟨j,kH,h1,h2⟩
  ·have:w.heap.size<=b:=by simpa [mP,iD,hw0] using h
   omega
  ·obtain ⟨pi,_,rfl⟩:=xq h1
   have:=(eF.1 h2).2
   rw [b_.2 hb] at this
   simp at this
 have hsame:∀b∈aY aO,hp w' b=hp w b:=fun b hb=>by
  have hlt:=(K0.mine b (Cr b hb)).1
  have:=(@Rel.frame (dU fr bI h0 hs) _ _ _ _ _ _ H1).2.2.2.2.1 b (by simpa [mP,iD,hw0] using hlt) (fun j kH h1 h2=>by
   obtain ⟨pi,_,rfl⟩:=xq h1
   have:=(eF.1 h2).2
   rw [b_.2 hb] at this
   simp at this)
  simpa [mP,iD,hw0] using this
 have hrow':∀q∈aO, @Ow fr (hp w') R0.own (fun _=>False) (.sl e kk) (tb q.1) [q.2.1] q.2.2:=fun q hq=>
  dY (fun _ h=>h.elim) (fun _ h=>h) (fun b hb=>hsame b (jZ.2 ⟨q,hq,hb⟩)) (hrow q hq)
 have CG:∀b∈aY jX,b∈aY aO:=fun b hb=>by
  obtain ⟨q,hq,h⟩:=jZ.1 hb
  exact jZ.2 ⟨q,yl q hq,h⟩
 have Si:(aY jX).Nodup:=UM jI.2.1 hnd (l:=jX) yl hall
 have zY:∀b∈aI.fo (ah 0),Ow.mine (mP cx (aY aO)) w' b:=fun b hb=>Py b (by rw [hblk1]; exact hb)
 have I6:∀b,Ow.mine (mP cx (aY aO)) w' b->Ow.mine cx w' b:=fun b hb=>⟨hb.1,hb.2.imp (fun h=>h) (fun ⟨j,kH,h1,h2⟩=>by
  obtain ⟨pi,h3,rfl⟩:=xq h1
  exact ⟨j,pi,h3,(eF.1 h2).1⟩)⟩
 have Np:∀b∈aY aO,Ow.mine cx w' b:=fun b hb=>by
  obtain ⟨m1,m2⟩:=K0.mine b (Cr b hb)
  exact ⟨by omega,m2⟩
 have tZ:∀{r R},aU (vL (tT R0.k y R0.own wt R0.k.tys)) r R->r=ah 0/\R=tT R0.k y R0.own wt R0.k.tys:=fun h=>Cc h.1
 have EK:blk (Cb (J.loc (ah 0)) (aI.hdr (ah 0)) (aI.fo (ah 0)++aY jX)) (tT R0.k y R0.own wt R0.k.tys) (ah 0)=aI.fo (ah 0)++aY jX:=rfl
 have I8:=Pz
 rw [hblk1] at I8
 have hf1:=@Rel.frame (dU fr bI h0 hs) _ _ _ _ _ _ H1
 have Nu:R0.k.size=Q.k.size:=hP.size.symm
 have Sv:∀j p ts v,cx.ptrs j p ts v->ah j=ah 0:=fun j p ts v h=>by
  obtain ⟨_,R,f1,_⟩:=H.ry j p ts v h
  refine kN fun e=>?_
  rw [lT _ e] at f1
  simp at f1
 have hdf:=@Rel.defs (dU fr bI h0 hs) _ _ _ _ _ _ H1
 have hsz0:=@Rel.sz (dU fr bI h0 hs) _ _ _ _ _ _ H1
 have hsz1:cx.nt<=a1.tmps.size:=hsz0
 have Sc:=@Rel.qc (dU fr bI h0 hs) _ _ _ _ _ _ H1
 have akD:=@Rel.rz (dU fr bI h0 hs) _ _ _ _ _ _ H1
 refine ⟨hdf,hsz1, ?_, ?_,fun s=>trivial,fun s=>trivial, ?_, ?_, ?_,fun b hb=>by simp at hb,mJ,fun r R hr b hb h=>by simp at h, ?_, ?_, ?_, ?_, ?_⟩
 ·intro j pi b o n hj hb
  obtain ⟨R,f1,f2,_⟩:=H.kM j pi b o n hj hb
  obtain ⟨_,rfl⟩:=Sr _ R f1
  rw [xm] at f2
  simp at f2
 ·intro r R hr hk
  obtain ⟨rfl,rfl⟩:=tZ hr
  simp [tT] at hk
 ·intro r R hr
  obtain ⟨rfl,rfl⟩:=tZ hr
  refine ⟨fun _=>?_,by show (aI.hdr (ah 0)).length=R0.k.size; rw [Px,Nu],fun b o hb=>by simp [aK,tT] at hb, ?_,fun b hb=>?_⟩
  ·have o1 : @Ow (dU fr bI h0 hs) (hp w') R0.own (fun _=>False) Q.k Q.x (aI.hdr (ah 0)) (aI.fo (ah 0)):=by
    have hk1:∀t∈Q.k.tys,aa t Q.own=true:=fun t ht=>RH t (by rw [<-EI]; exact ht)
    have hk2:∀t∈Q.k.tys,aa t R0.own=true:=fun t ht=>hown' t (by rw [<-EI]; exact ht)
    exact @j5 (dU fr bI h0 hs) _ _ _ _ _ _ _ _ (lu hk2) (@Mr (dU fr bI h0 hs) _ _ _ _ _ _ _ _ (fun t ht=>by rw [hk1 t ht,hk2 t ht]) (PD Cq))
   have o2:=Qd (fr:=fr) (dU fr bI h0 hs) hown hP o1 (fun q hq=>⟨hrow' q (yl q hq),hid q (yl q hq)⟩)
   exact j5 (lu hown) o2
  ·rw [EK]
   exact cK.2 ⟨I8,Si,fun b hb c hc Ca=>by subst Ca; exact hno b (CG b hc) (zY b hb)⟩
  ·rw [EK] at hb
   rcases bW.1 hb with h | h
   ·exact I6 b (zY b h)
   ·exact Np b (CG b h)
 ·intro r R hr
  obtain ⟨rfl,rfl⟩:=Cc hr
  exact ⟨fun t ht=>by simp [tT] at ht,Ad 0,fun n hn=>by simp [tT] at hn⟩
 ·intro r R r' R' hr hr' hne
  exact absurd ((tZ hr).1.trans (tZ hr').1.symm) hne
 ·obtain ⟨f1,f2,f3,f4,f5,f6⟩:=hf1
  refine ⟨f1,f2,f3,f4,fun b hb hnb=>f5 b hb (fun j kH h1 h2=>?_),fun j pi b o n hj hb=>?_⟩
  ·obtain ⟨pi,h3,rfl⟩:=xq h1
   exact hnb j pi h3 (eF.1 h2).1
  ·exact f6 j { pi with bl:=pi.bl.filter fun b=>!aa b (aY aO) } b o n (by simp [mP,iD,hj]) hb
 ·intro j pi hj hkp
  obtain ⟨R,f1,_⟩:=H.qc j pi hj hkp
  have ej:ah j=ah 0:=kN fun ne=>by rw [lT _ ne] at f1; simp at f1
  refine ⟨tT R0.k y R0.own wt R0.k.tys,by rw [ej]; exact zN,fun _ b hb hnb=>?_⟩
  have hone:∀q Q,aU (vL (tT R0.k y R0.own wt R0.k.tys)) q Q->b∈blk (Cb (J.loc (ah 0)) (aI.hdr (ah 0)) (aI.fo (ah 0)++aY jX)) Q q->q=ah j:=fun q Q hq _=>by rw [(tZ hq).1,ej]
  by_cases hbt:b∈aY aO
  ·exact .inr ⟨by rw [hw0]; exact hsame b hbt,by simp,hone⟩
  ·obtain ⟨R1,q1,q2⟩:=Sc j { pi with bl:=pi.bl.filter fun b=>!aa b (aY aO) } (by simp [mP,iD,hj]) hkp
   have eR:R1=Q:=by rw [ej,hQ] at q1; exact (j4 q1).symm
   subst eR
   rcases q2 Cq.1 b (eF.2 ⟨hb,by rw [gT.2 hbt]; rfl⟩) (fun h=>hnb (Q3.1 h)) with ⟨t,t1,t2⟩ | ⟨t1,t2,_⟩
   ·exact .inl ⟨t,t1, .inl (t2.elim (rG.1 hwt.1 t) (rG.1 hwt.2 t))⟩
   ·exact .inr ⟨t1,by simp,hone⟩
 ·refine ⟨fun j pi hj b hb=>H.mF.1 j pi hj b hb,fun b hb=>H.mF.2.1 b hb,fun b hb=>H.mF.2.2 b hb⟩
 ·intro j p ts v hv
  have ej:=Sv j p ts v hv
  have ej0:j=0:=by unfold ah at ej; omega
  obtain ⟨g1,R,f1,f2⟩:=H.ry j p ts v hv
  have hts:=t_ j p ts v hv ej0
  refine ⟨g1,tT R0.k y R0.own wt R0.k.tys,by rw [ej]; exact zN,fun hno'=>?_⟩
  refine ⟨g1,fun R' hR' _ _ _ hsome=>?_⟩
  rw [ej] at hR'
  obtain ⟨_,rfl⟩:=Cc hR'
  have hsome:(aB p R0.k y).isSome=true:=hsome
  cases p with
  | nil=>
   have hRR:R=R0:=by rw [ej,hR0.1] at f1; exact (j4 f1).symm
   obtain ⟨_,cs,b,o,hn,ev⟩:=(f2 (fun t ht=>by rw [hts] at ht; simp [iW] at ht)).2 R0 (by rw [ej]; exact hR0.1) hv0 (by unfold iW clean; simp [aa]) (fun t ht=>by simp [az] at ht) rfl
   rw [ej] at hn
   simp only [aT,au,bS] at hn
   have h2:=hn.2
   unfold aK at h2
   rw [xm] at h2
   simp at h2
  | cons s p=>
   cases s with
   | aZ m=>
    rw [hk0] at hts
    have:aB (.aZ m :: p) R0.k y=none:=by
     have hg:∀(k:K) (z:El k),k=.sl e1 k1->aB (.aZ m :: p) k z=none:=by
      intro k z hk; subst hk; rfl
     exact hg _ y hk0
    rw [this] at hsome; simp at hsome
   | idx i=>
    exfalso
    refine hno' e1 ?_ ?_
    ·rw [hts,hk0]; simp [iW,az]
    ·show e1∈R0.k.tys
     rw [hk0]; simp [K.tys]
 ·intro j v hv
  obtain ⟨⟨R,f1⟩,f2⟩:=H.rz j v hv
  have ej:ah j=ah 0:=kN fun ne=>by rw [lT _ ne] at f1; simp at f1
  obtain ⟨_,q2⟩:=akD j v hv
  rw [ej] at q2 ⊢
  refine ⟨⟨_,zN⟩,fun R' hR' _=>?_⟩
  obtain ⟨_,rfl⟩:=tZ hR'
  obtain ⟨z1,z2⟩:=q2 Q hlv1 hQg
  refine ⟨rfl, ?_⟩
  show VC R0.k v (aI.hdr (ah 0))
  rw [hk0]
  rw [EI] at z2
  exact Qn z2
end
theorem alV [fr:Fr] {e e1 e2:TypeId} {kk k1 k2:K} {P:Program} {n:Nat} {f:FuncId} {ow wt dX:List TypeId} {rest:List aV}
  {F:Nat->Cont (kin (.bR (.sl e1 k1) ow wt :: rest))->Option (Cont (eO [.into 0 []]++gq (.bR (.sl e1 k1) ow wt :: rest)))} {F':Nat->Cont (kin (.bR (.sl e2 k2) ow dX :: rest))->Option (Cont (eO [.into 0 []]++gq (.bR (.sl e2 k2) ow dX :: rest)))}
  (hrest:jJ rest=true) (hown:∀t∈(K.sl e1 k1).tys,aa t ow=true) (hown':∀t∈(K.sl e2 k2).tys,aa t ow=true) (sG:∀t∈(K.sl e kk).tys,aa t ow=true)
  (hE:∀fr:Fr, @aD fr P n ⟨f, .bR (.sl e2 k2) ow dX :: rest,[.into 0 []],F'⟩) (hwt:iK dX wt=true)
  (hF:∀c out,F n c=some out->∃(x':El (.sl e2 k2)) (ns ms:List Nat) (tb:Nat->List (El kk)) (out':Cont (eO [.into 0 []]++gq (.bR (.sl e2 k2) ow dX :: rest))),Rw e kk false tb (.sl e1 k1) (.sl e2 k2) c.1 x' ns/\ns.Nodup/\0∉ns/\F' n (x',c.2)=some out'/\
   (show Int from out.1)=(show Int from out'.1)/\Rw e kk true tb (.sl e1 k1) (.sl e2 k2) out.2.1 out'.2.1 ms/\ms.Nodup/\∀m∈ms,m∈ns) :
  aD P n ⟨f, .bR (.sl e1 k1) ow wt :: rest,[.into 0 []],F⟩:=by
 intro c out hout cx J args w hnt hw hsz hP H
 obtain ⟨x',ns,ms,tb,out',hR,hnd,hn0,hF',YY,IP,hmm,hsub⟩:=hF c out hout
 have ha:((K.sl e1 k1).tys.all fun t=>aa t ow)=true:=eH.2 hown
 have ha':((K.sl e2 k2).tys.all fun t=>aa t ow)=true:=eH.2 hown'
 have CF:∀r,(fD (.bR (.sl e1 k1) ow wt :: rest) c).roots r=bif Nat.beq r (ah 0) then some { bL (.sl e1 k1) c.1 ow [] .anon true with fixed:=true } else none:=fun r=>by
  show iJ (iI (.bR (.sl e1 k1) ow wt :: rest) 0 c) r=_
  simp only [iI,FQ hrest,iJ,ha,gJ]
  rfl
 have hR0:aU (fD (.bR (.sl e1 k1) ow wt :: rest) c) (ah 0) { bL (.sl e1 k1) c.1 ow [] .anon true with fixed:=true }:=⟨by rw [CF]; simp,rfl⟩
 have lT:∀r,r≠ah 0->(fD (.bR (.sl e1 k1) ow wt :: rest) c).roots r=none:=fun r hr=>by
  rw [CF]
  have:Nat.beq r (ah 0)=false:=by
   cases hb:Nat.beq r (ah 0) with
   | true=>exact absurd (bC hb) hr
   | false=>rfl
  rw [this]; rfl
 have hs0:(fD (.bR (.sl e1 k1) ow wt :: rest) c).slots 0=.one (.ref (ah 0) 0):=rfl
 have hsl:∀s,s≠0->xV ((fD (.bR (.sl e1 k1) ow wt :: rest) c).slots s):=fun s hs=>by
  show xV (jm (gp (.bR (.sl e1 k1) ow wt :: rest) 0 c) s)
  simp only [gp,jm]
  cases hb:Nat.beq s 0 with
  | true=>exact absurd (bC hb) hs
  | false=>exact Oa hrest s
 obtain ⟨aO,aF,bI,i0,is,g1,g2,g3,g4,IQ⟩:=alZ H hw (R0:={ bL (.sl e1 k1) c.1 ow [] .anon true with fixed:=true }) rfl hR0 lT rfl rfl hown (sG e (by simp [K.tys])) hs0 hsl (x':=x') hR hnd hn0 hown' rfl
 have hst:aJ (fD (.bR (.sl e1 k1) ow wt :: rest) c) (ah 0) { ({ bL (.sl e1 k1) c.1 ow [] .anon true with fixed:=true }:Root) with k:=.sl e2 k2,x:=x' }=fD (.bR (.sl e2 k2) ow dX :: rest) (x',c.2):=by
  unfold aJ fD
  congr 1
  funext r
  show upd (fD (.bR (.sl e1 k1) ow wt :: rest) c).roots (ah 0) _ r=iJ (iI (.bR (.sl e2 k2) ow dX :: rest) 0 (x',c.2)) r
  simp only [iI,FQ hrest,iJ,ha',gJ]
  unfold upd
  cases hb:Nat.beq r (ah 0) with
  | true=>rfl
  | false=>simp only [kg]; rw [CF,hb]; rfl
 rw [hst] at IQ
 have Nk:∀j,(∃k,wO (.bR (.sl e1 k1) ow wt :: rest) j k)->∃k,wO (.bR (.sl e2 k2) ow dX :: rest) j k:=by
  rintro j ⟨k0,o1,o2,o3,h⟩
  cases j with
  | zero=>exact ⟨.sl e2 k2,ow,dX,[], .inr rfl⟩
  | succ j=>exact ⟨k0,o1,o2,o3,by simpa using h⟩
 have hP':D9 (mP cx (aY aO)) (.bR (.sl e2 k2) ow dX :: rest):=by
  refine ⟨fun j kH hj hkp=>?_,fun j p ts v h=>h.elim,fun j v h=>Nk j (hP.ref j v h)⟩
  obtain ⟨pi,hj',rfl⟩:=r_ (cx:=cx) hj
  exact Nk j (hP.par j pi hj' hkp)
 have h:=hE (dU fr bI i0 is) (x',c.2) out' hF' (mP cx (aY aO)) _ args w hnt hw hsz hP' IQ
 have hpost:∀v w', @Post (dU fr bI i0 is) (mP cx (aY aO)) (.bR (.sl e2 k2) ow dX :: rest) [.into 0 []] out' v w'->@Post fr cx (.bR (.sl e1 k1) ow wt :: rest) [.into 0 []] out v w':=by
  rintro v w' ⟨Z1,aI,F1,a1,vs,ay,H1,rfl,hL,hfn,qC,hOut,_⟩
  obtain ⟨Q,q1,q2,⟨ek,ey⟩,q4,q5,_⟩:=hOut
  have RJ:=Xn ek ey IP
  obtain ⟨jX,t3,t4⟩:=select (aO:=aO) (ns:=ms) (fun m hm=>by rw [g1]; exact hsub m hm)
  have nH:=q5
  unfold xx at nH
  simp only [bg] at nH
  obtain ⟨⟨⟨⟨l1,l2⟩,_⟩,_⟩,l5⟩:=nH
  have hg0:Q.g=0:=bC l5
  have htr:∀{l:List Nat},iK l dX=true->iK l wt=true:=fun hl=>rG.2 fun t ht=>rG.1 hwt t (rG.1 hl t ht)
  cases vs with
  | nil=>exact hL.elim
  | cons v vs=>
   cases ay with
   | nil=>exact hL.elim
   | cons fo ay=>
    obtain ⟨⟨rfl,_,b,m,cp,e3,e4,e5⟩,hL2⟩:=hL
    cases vs with
    | cons _ _=>cases ay <;> exact hL2.elim
    | nil=>
     cases ay with
     | cons _ _=>exact hL2.elim
     | nil=>
      obtain ⟨hQn,YW⟩:=e5 Q ⟨q1,q2.1⟩ hg0
      have r1:=alX (fr:=fr) H hw (R0:={ bL (.sl e1 k1) c.1 ow [] .anon true with fixed:=true }) rfl hR0 lT rfl rfl ⟨rfl,rfl⟩ hown hown' sG g2 (by rw [g1]; exact hnd) g3 g4 H1 q1 q2 ek (fun t ht=>by
        have:=eH.1 q4 t ht
        rw [hown' t ht] at this
        simpa using this) hQn hg0 (wt:=wt) ⟨htr l1,htr l2⟩ (y:=out.2.1) (jX:=jX) (by rw [t3]; exact RJ) t4 (by rw [t3]; exact hmm) (fun j p ts v h hj=>by
         obtain ⟨k0,⟨o1,o2,o3,h1⟩,h2⟩:=hP.ptr j p ts v h
         subst hj
         rcases h1 with h1 | h1
         ·simp at h1
         ·simp only [qO,au,aV.bR.injEq] at h1
          rw [h2, <-h1.1]; rfl)
      refine ⟨_,_,[],a1,[v],[[]],r1,rfl,⟨⟨rfl,rfl,b,m,cp, ?_, ?_, ?_⟩,trivial⟩,by simp,by simp,⟨_,zN,⟨rfl,rfl⟩,⟨rfl,rfl⟩, ?_, ?_, .inl ha⟩,N_ hrest⟩
      ·have hI:(show Int from (Cont.fst (eO [gN.into 0 []]) _ out).1)=(show Int from (Cont.fst (eO [gN.into 0 []]) _ out').1):=YY
       rw [hI]; exact e3
      ·have hI:(show Int from (Cont.fst (eO [gN.into 0 []]) _ out).1)=(show Int from (Cont.fst (eO [gN.into 0 []]) _ out').1):=YY
       rw [hI]; exact e4
      ·intro R' hR' _
       obtain ⟨_,rfl⟩:=Cc hR'.1
       refine ⟨rfl, ?_⟩
       have ek:Q.k=.sl e2 k2:=ek
       rw [ek] at YW
       exact Qn YW
      ·exact eH.2 fun t _=>by simp [tT]; rfl
      ·unfold xx tT
       simp only [iK,List.all_nil,bg,eH]
       exact ⟨⟨⟨⟨fun x hx=>b_.2 hx,trivial⟩,fun x hx=>b_.2 hx⟩,fun x hx=>b_.2 hx⟩,rfl⟩
 rcases h with ⟨h1,h2⟩ | ⟨v,w',h1,h2⟩
 ·refine .inl ⟨h1,h2.mono ?_⟩
  rintro e w' ⟨v,rfl,hv⟩
  exact ⟨v,rfl,hpost v w' hv⟩
 ·exact .inr ⟨v,w',h1,hpost v w' h2⟩
end
end Go.Proofs.YtailcbngagacaaaGreat.Ow
