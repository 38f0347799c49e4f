/- A verified reading of translated code: values in place of memory; part E of 6, spaces and remarks taken out. No condition. Own work of this seat. -/
import Derived.Test.YtabnmpabdhmkoaaOwD
import Derived.Test.YtabnmpabdhmkoaaOwC
set_option linter.unusedSectionVars false
set_option linter.unusedVariables false
set_option linter.unusedSimpArgs false
namespace Go.Proofs.Ytabnmpabdhmkoaa.Ow
section
open Go
variable [Fr]
section
variable {P:Program} {T:gL} {cx:Cx} {σ:St} {α:dA} {F:List Nat} {a:Act} {w:World}
structure Tk (cx:Cx) (σ:St) (α:dA) (F:List Nat) (a:Act) (w:World) (σ1:St) (fB:dA) (F1:List Nat) (ids:List Tag):Prop where
 rel:Rel cx σ1 fB F1 a w
 VN:Views cx σ α F w σ1 fB F1 w
 same:∀t∈ids,Same σ α σ1 fB t.1
theorem Tk.sub {σ1:St} {fB:dA} {F1:List Nat} {ids ids':List Tag} (h:Tk cx σ α F a w σ1 fB F1 ids') (hs:∀t∈ids,t∈ids'):Tk cx σ α F a w σ1 fB F1 ids:=⟨h.rel,h.VN,fun t ht=>h.same t (hs t ht)⟩
def M7 (cx:Cx) (σ:St) (α:dA) (F:List Nat) (a:Act) (w:World) (k:K) (x:El k) (ids:List Tag) (v:Value):Prop:=
 ∃cs,VC k v cs∧∀σ1 fB F1,Tk cx σ α F a w σ1 fB F1 ids→Vw (hp w) (gy cx σ1 fB F1 w ids) k x cs
def Hg (cx:Cx) (σ:St) (α:dA) (F:List Nat) (a:Act) (w:World) (k:K) (x:El k) (ids:List Tag) (v:Value):Prop:=
 ∃b o cs,v=.pointer (some ⟨b,o,none⟩)∧Cells (hp w) b o cs∧∀σ1 fB F1,Tk cx σ α F a w σ1 fB F1 ids→Vw (hp w) (gy cx σ1 fB F1 w ids) k x cs∧Ad σ1 fB F1 w ids b
def uL (cx:Cx) (σ:St) (α:dA) (F:List Nat) (a:Act) (w:World) (ids:List Tag):(ks:List K)→Cont ks→List Value→Prop
 | [],_,[]=>True
 | k :: ks,c,v :: vs=>Hg cx σ α F a w k c.1 ids v∧uL cx σ α F a w ids ks c.2 vs
 | _,_,_=>False
structure OI (cx:Cx) (σ:St) (α:dA) (w:World) (k:K) (x:El k) (ow:List TypeId) (i:bW) (wt ht:List TypeId) (r:Nat) (R:Root) (p:List Stp):Prop where
 wb:i.wb=some (r,p,wt,ht)
 ws:i.ws=[]
 ids:i.ids=R.tags
 lv:aM σ r R
 vl:bg σ R
 get:aI p R.k R.x=some ⟨k,x⟩
 pin:jM p R.k R.x
 own:∀t∈aa p R.k,aA t R.own=true
 just:kC k R.own ow=true
def G8 (cx:Cx) (σ:St) (α:dA) (F:List Nat) (a:Act) (w:World):(ps:List fG)→Cont (kin ps)→List Value→List bW→List (Value×gp)→Prop
 | [],_,[],[],[]=>True
 | .val k _ :: ps,c,v :: vs,i :: is,ts=>(i.wb=none∧i.ws=[]∧i.bt=[]∧M7 cx σ α F a w k c.1 i.ids v)∧G8 cx σ α F a w ps c.2 vs is ts
 | .ro k :: ps,c,v :: vs,i :: is,ts=>(i.wb=none∧i.ws=[]∧i.bt=[]∧Hg cx σ α F a w k c.1 i.ids v)∧G8 cx σ α F a w ps c.2 vs is ts
 | .rw k ow wt ht :: ps,c,v :: vs,i :: is,ts=>(∃r R p,OI cx σ α w k c.1 ow i wt ht r R p∧i.bt=[dS R p]∧∃cs b o,bn (hp w) p R.k (α.hdr r) (dY α R r)=some (cs,some (b,o))∧v=.pointer (some ⟨b,o,none⟩))∧G8 cx σ α F a w ps c.2 vs is ts
 | .oV k ow wt :: ps,c,v :: vs,i :: is,ts=>(∃r R p,OI cx σ α w k c.1 ow i wt k.tys r R p∧i.bt=[]∧∃cs wh,bn (hp w) p R.k (α.hdr r) (dY α R r)=some (cs,wh)∧VC k v cs)∧G8 cx σ α F a w ps c.2 vs is ts
 | .own k ow :: ps,c,v :: vs,i :: is,q :: ts=>(q.1=v∧qd cx σ α F w v q.2∧i=⟨q.2.tags,none,q.2.ws,[]⟩∧(∃e:q.2.k=k,c.1=e▸q.2.x)∧kC k q.2.own ow=true)∧G8 cx σ α F a w ps c.2 vs is ts
 | .fn f ks :: ps,c,v :: vs,i :: is,ts=>(i.wb=none∧i.ws=[]∧i.bt=[]∧∃us:List Value,v=.func (.func f) #[] us.toArray∧uL cx σ α F a w i.ids ks (Cont.fst ks (kin ps) c) us)∧G8 cx σ α F a w ps (Cont.snd ks (kin ps) c) vs is ts
 | .into _ p :: ps,c,v :: vs,i :: is,ts=>(i.wb=none∧i.ws=[]∧i.bt=[]∧∃b,v=.slice b 0 0)∧G8 cx σ α F a w ps (Cont.snd (fG.into 0 p).kin (kin ps) c) vs is ts
 | _,_,_,_,_=>False
theorem vZ:∀(ks ls:List K) (c:Cont ks) (d:Cont ls),Cont.fst ks ls (Cont.app ks ls c d)=c
 | [],_,_,_=>rfl
 | _ :: ks,ls,c,d=>by show (c.1,Cont.fst ks ls (Cont.app ks ls c.2 d))=c; rw [vZ ks ls c.2 d]; rfl
theorem wL:∀(ks ls:List K) (c:Cont ks) (d:Cont ls),Cont.snd ks ls (Cont.app ks ls c d)=d
 | [],_,_,_=>rfl
 | _ :: ks,ls,c,d=>wL ks ls c.2 d
theorem Hg.mono {ids ids':List Tag} (h:∀t∈ids,t∈ids') {k:K} {x:El k} {v:Value} (H:Hg cx σ α F a w k x ids v):Hg cx σ α F a w k x ids' v:=by
 obtain ⟨b,o,cs,h1,h2,h3⟩:=H
 refine ⟨b,o,cs,h1,h2,fun σ1 fB F1 hT=>?_⟩
 obtain ⟨g1,g2⟩:=h3 σ1 fB F1 (hT.sub h)
 exact ⟨eT (fun _ _=>rfl) (fun b hb=>pE hb h) g1,L9 g2 h⟩
theorem uL.mono {ids ids':List Tag} (h:∀t∈ids,t∈ids'):∀{ks:List K} {c:Cont ks} {vs:List Value},uL cx σ α F a w ids ks c vs→uL cx σ α F a w ids' ks c vs
 | [],_,[],_=>trivial
 | _ :: _,_,_ :: _,⟨h1,hh⟩=>⟨h1.mono h,uL.mono h hh⟩
 | [],_,_ :: _,hh=>hh.elim
 | _ :: _,_,[],hh=>hh.elim
theorem Tk.clean {σ1:St} {fB:dA} {F1:List Nat} {ids:List Tag} (h:Tk cx σ α F a w σ1 fB F1 ids) (tys:List TypeId):aU σ1 tys ids=aU σ tys ids:=eD (fun t ht=>(h.same t ht).root)
theorem Hg.Pk {bt:TypeId} {k:K} {x:El k} {T:List Tag} {v:Value} (h:Am cx σ α F w bt k x T v) (hw:dW σ T) (hc:aU σ (bt :: k.tys) T=true):Hg cx σ α F a w k x T v:=by
 obtain ⟨b,o,cs,e,h1,h2,h3,h4⟩:=h.2 hc
 refine ⟨b,o,cs,e,h1,fun σ1 fB F1 hT=>?_⟩
 obtain ⟨b',o',cs',e',h1',h2',h3',_⟩:=(hT.VN.ro hw h).2 (by rw [hT.clean]; exact hc)
 have:b'=b∧o'=o:=by rw [e] at e'; simpa using e'.symm
 obtain ⟨rfl,rfl⟩:=this
 have hcs:cs'=cs:=cells_eq h1 h1' ((jh h2').trans (jh h2).symm)
 subst hcs
 exact ⟨h2',h3'⟩
theorem Hg.EJ (H:Rel cx σ α F a w) {r:Nat} {R:Root} {p:List Stp} {d:Dat} {cs:List Value} {b o:Nat} (hr:aM σ r R) (hv:bg σ R) (hg:aI p R.k R.x=some d) (eZ:jM p R.k R.x) (hown:∀t∈aa p R.k,aA t R.own=true)
  (hn:bn (hp w) p R.k (α.hdr r) (dY α R r)=some (cs,some (b,o))) (n:Nat):Hg cx σ α F a w d.1 d.2 ((r,n) :: R.tags) (.pointer (some ⟨b,o,none⟩)):=by
 obtain ⟨hC,_⟩:=kV H hr hv hg eZ hown hn
 refine ⟨b,o,cs,rfl,hC,fun σ1 fB F1 hT=>?_⟩
 have hS:=hT.same (r,n) (by simp)
 have hr1:=(hS.live R).2 hr
 have hv1:bg σ1 R:=⟨hv.1,by rw [eD (fun t ht=>(hT.same t (by simp [ht])).root)]; exact hv.2⟩
 obtain ⟨_,⟨eX,hO,hf⟩,hbb,_,_⟩:=kV hT.rel hr1 hv1 hg eZ hown (by rw [hS.hdr,hS.wh]; exact hn)
 have hq:∀b∈blk fB R r,Ad σ1 fB F1 w ((r,n) :: R.tags) b:=fun b hb=>by
  refine ⟨((hT.rel.roots r R hr1).mine b hb).1,hT.rel.gQ r R hr1 b hb,fun q Q hq hbq=>?_⟩
  by_cases e:q=r
  ·subst e; exact ⟨n,by simp⟩
  ·exact absurd hb (hT.rel.yI q Q r R hq hr1 e b hbq)
 refine ⟨iY _ (fun b hb=>pE hb (fun t ht=>by simp [ht])) (fun b hb=>?_) hO,hq b hbb⟩
 have hbr:b∈blk fB R r:=abu _ (hf b hb)
 obtain ⟨q1,q2,q3⟩:=hq b hbr
 refine ⟨q1,q2,ko hT.rel hr1 (hf b hb),q3,fun h0=>?_⟩
 rcases ((hT.rel.roots r R hr1).mine b hbr).2 with h | ⟨j,pi,h1,h2⟩
 ·omega
 ·exact .inr ⟨j,pi,h1,h2⟩
theorem yX {A:Type} {z:A} (H:Rel cx σ α F a w) {x:AV} {v:Value} {k:(kk:K)→El kk→List Tag→Prog A} (hx:bz cx σ α F w x v) (hw:l9 σ x) (h:(nW x k).ends σ z) :
  ∃kk y T,M7 cx σ α F a w kk y T v∧(k kk y T).ends σ z:=by
 have key:∀{r:Nat} {R:Root} {p:List Stp} {d:Dat} {cs:List Value} {wh:Option (Nat×Nat)},aM σ r R→bg σ R→aI p R.k R.x=some d→jM p R.k R.x→(∀t∈aa p R.k,aA t R.own=true)→bn (hp w) p R.k (α.hdr r) (dY α R r)=some (cs,wh)→VC d.1 v cs→
   M7 cx σ α F a w d.1 d.2 (R.out r d.1) v:=by
  intro r R p d cs wh hr hv hg h1 h2 h3 h4
  refine ⟨cs,h4,fun σ1 fB F1 hT=>?_⟩
  cases hf:d.1.flat with
  | true=>
   obtain ⟨eX,h5,_⟩:=oC H hr hv hg h1 h2 h3
   exact gN hf (iY (fun _=>True) (fun _ _=>trivial) (fun _ _=>trivial) h5)
  | false=>
   rcases uC R r hf with ho | ⟨ho,hn⟩
   ·rw [ho] at hT
    have hS:=hT.same (r,fF R.w) (by simp)
    have hr1:=(hS.live R).2 hr
    have hv1:bg σ1 R:=⟨hv.1,by rw [eD (fun t ht=>(hT.same t (by simp [ht])).root)]; exact hv.2⟩
    obtain ⟨eX,h5,h6⟩:=oC hT.rel hr1 hv1 hg h1 h2 (by rw [hS.hdr,hS.wh]; exact h3)
    exact ku hT.rel hr1 h5 h6
   ·obtain ⟨eX,h5,h6⟩:=oC H hr hv hg h1 h2 h3
    have hV:=ku H hr h5 h6
    rw [ho] at hT hV ⊢
    exact hT.VN.vw (H.cB r R hr.1).1 (by rw [hT.clean]; exact lG hv.2 (fun _ h=>h) (fun t ht=>qy p hg h2 t ((uu ht).resolve_right (by rw [hn t ht]; exact Bool.false_ne_true)))) (fun _ h=>h) hV
 cases x with
 | val kk y T=>
  obtain ⟨h1,h2⟩:=fq h
  obtain ⟨cs,h3,h4⟩:=hx (.inr h1)
  exact ⟨kk,y,T,⟨cs,h3,fun σ1 fB F1 hT=>hT.VN.vw hw (by rw [hT.clean]; exact h1) (fun _ h=>h) h4⟩,h2⟩
 | ref r g=>
  obtain ⟨R,hr,hv,h⟩:=bU h
  rcases ah h with ⟨hg,h⟩ | ⟨_,h⟩
  ·obtain ⟨_,h2⟩:=hx R hr (abw hg)
   exact ⟨R.k,R.x,R.out r R.k,key (p:=[]) (d:=⟨R.k,R.x⟩) hr hv rfl trivial (fun t ht=>by simp [aa] at ht) rfl h2,h⟩
  ·exact h.elim
 | mU r p n=>
  obtain ⟨R,hr,hv,h⟩:=bU h
  rcases ah h with ⟨hg,h⟩ | ⟨_,h⟩
  ·cases nQ:aI p R.k R.x with
   | none=>rw [nQ] at h; exact h.elim
   | some d=>
    rw [nQ] at h
    obtain ⟨h1,h2,cs,wh,h3,h4⟩:=hx R hr.1 hv (abw hg) d nQ
    exact ⟨d.1,d.2,R.out r d.1,key hr hv nQ h1 h2 h3 h4,h⟩
  ·exact h.elim
 | undef=>exact h.elim
 | gK=>exact h.elim
 | ptr r p n=>exact h.elim
 | gV bt k x T=>exact h.elim
 | zo _ _ _ _=>exact h.elim
 | sI _=>exact h.elim
 | part _ _ _ _ _=>exact h.elim
 | qE _ _ _ _=>exact h.elim
 | app _ _ _ _=>exact h.elim
 | mE=>exact h.elim
 | fn f cs=>exact h.elim
theorem M7.flat {k:K} {x:El k} {ids:List Tag} {v:Value} (hf:k.flat=true) (h:M7 cx σ α F a w k x ids v) (H:Rel cx σ α F a w):M7 cx σ α F a w k x [] v:=by
 obtain ⟨cs,h1,h2⟩:=h
 have h3:=h2 σ α F ⟨H,fun T tys _ h=>⟨h,fun b hb _=>⟨hb,rfl⟩,fun b hb _=>⟨hb,rfl⟩⟩,fun _ _=>jg ..⟩
 exact ⟨cs,h1,fun _ _ _ _=>gN hf h3⟩
theorem IZ {A:Type} {z:A}:∀{ks:List K} {l:List (TypeId×Dat×List Tag)} {vs:List Value} {k:Cont ks→List Tag→Prog A},jE cx σ α F w l vs→(∀c∈l,dW σ c.2.2)→(Hz ks l k).ends σ z→
  ∃c T,uL cx σ α F a w T ks c vs∧(k c T).ends σ z:=by
 intro ks
 induction ks with
 | nil=>
  intro l vs k h1 h2 h
  cases l with
  | nil=>
   cases vs with
   | nil=>exact ⟨(),[],trivial,h⟩
   | cons v vs=>exact h1.elim
  | cons q l=>exact h.elim
 | cons kk ks ih=>
  intro l vs k h1 h2 h
  cases l with
  | nil=>exact h.elim
  | cons q l=>
   obtain ⟨t,d,tags⟩:=q
   cases vs with
   | nil=>exact h1.elim
   | cons v vs=>
    simp only [Hz] at h
    obtain ⟨hc,h⟩:=fq h
    cases hk:bL d.1 kk d.2 with
    | none=>rw [hk] at h; exact h.elim
    | some x=>
     rw [hk] at h
     simp only at h
     obtain ⟨ek,ey⟩:=bF hk
     obtain ⟨c,T,g1,g2⟩:=ih h1.2 (fun c hc=>h2 c (by simp [hc])) h
     refine ⟨(x,c),gH tags T,⟨?_,g1.mono (fun t ht=>bX.2 (.inr ht))⟩,g2⟩
     obtain ⟨dk,dx⟩:=d
     simp only at ek ey h1
     subst ek
     subst ey
     exact (Hg.Pk h1.1 (h2 _ abY) hc).mono (fun t ht=>bX.2 (.inl ht))
theorem Gd {A:Type} {z:A} (H:Rel cx σ α F a w):∀{ps:List fG} {Br:List AV} {vs:List Value} {k:Cont (kin ps)→List bW→Prog A},dJ cx σ α F w Br vs→(∀v∈Br,l9 σ v)→(iJ ps Br k).ends σ z→
  ∃c is ts,G8 cx σ α F a w ps c vs is ts∧(k c is).ends σ z:=by
 intro ps
 induction ps with
 | nil=>
  intro Br vs k h1 _ h
  cases Br with
  | nil=>
   cases vs with
   | nil=>exact ⟨(),[],[],trivial,h⟩
   | cons v vs=>exact h1.elim
  | cons x Br=>exact h.elim
 | cons p ps ih=>
  intro Br vs k h1 h2 h
  cases Br with
  | nil=>
   cases p with
   | into j q=>cases q <;> exact h.elim
   | _=>exact h.elim
  | cons x Br=>
   cases vs with
   | nil=>exact h1.elim
   | cons v vs=>
    have h2':∀v∈Br,l9 σ v:=fun v hv=>h2 v (by simp [hv])
    cases p with
    | val kk fU=>
     have hgo:∀(y:El kk) (tags:List Tag),M7 cx σ α F a w kk y tags v→
       (iJ ps Br fun c is=>k (y,c) (⟨tags,none,[],[]⟩ :: is)).ends σ z→∃c is ts,G8 cx σ α F a w (.val kk fU :: ps) c (v :: vs) is ts∧(k c is).ends σ z:=by
      intro y tags hy h
      obtain ⟨c,is,ts,g1,g2⟩:=ih h1.2 h2' h
      exact ⟨(y,c),⟨tags,none,[],[]⟩ :: is,ts,⟨⟨rfl,rfl,rfl,hy⟩,g1⟩,g2⟩
     have hval:(nW x fun k' x tags=>match bL k' kk x with
       | some y=>iJ ps Br fun c is=>k (y,c) (⟨bif kk.flat then [] else tags,none,[],[]⟩ :: is)
       | none=>.fail).ends σ z→∃c is ts,G8 cx σ α F a w (.val kk fU :: ps) c (v :: vs) is ts∧(k c is).ends σ z:=by
      intro h
      obtain ⟨k',y,Tg,f1,f5⟩:=yX H h1.1 (h2 x (by simp)) h
      cases hc:bL k' kk y with
      | none=>rw [hc] at f5; exact f5.elim
      | some y'=>
       rw [hc] at f5
       obtain ⟨ek,ey⟩:=bF hc
       subst ek
       simp only at ey
       subst ey
       cases hf:k'.flat with
       | true=>
        rw [hf] at f5
        exact hgo _ _ (f1.flat hf H) f5
       | false=>
        rw [hf] at f5
        exact hgo _ _ f1 f5
     cases x with
     | gK=>
      cases kk with
      | sl e kk=>
       obtain ⟨b,rfl⟩:=h1.1
       exact hgo [] [] ⟨[.slice b 0 0],wK,fun _ _ _ _=>⟨b,0,0,rfl,rfl,abI _,fun h=>by omega⟩⟩ h
      | _=>exact h.elim
     | undef=>exact hval h
     | val _ _ _=>exact hval h
     | ref _ _=>exact hval h
     | mU _ _ _=>exact hval h
     | ptr _ _ _=>exact hval h
     | gV _ _ _ _=>exact hval h
     | zo _ _ _ _=>exact hval h
     | sI _=>exact hval h
     | part _ _ _ _ _=>exact hval h
     | qE _ _ _ _=>exact hval h
     | app _ _ _ _=>exact hval h
     | mE=>exact hval h
     | fn _ _=>exact hval h
    | ro kk=>
     simp only [iJ] at h
     have hgo:∀(d:Dat) (tags:List Tag),Hg cx σ α F a w d.1 d.2 tags v→(match bL d.1 kk d.2 with
       | some y=>iJ ps Br fun c is=>k (y,c) (⟨tags,none,[],[]⟩ :: is)
       | none=>.fail).ends σ z→∃c is ts,G8 cx σ α F a w (.ro kk :: ps) c (v :: vs) is ts∧(k c is).ends σ z:=by
      intro d tags hd h
      cases hc:bL d.1 kk d.2 with
      | none=>rw [hc] at h; exact h.elim
      | some y=>
       rw [hc] at h
       obtain ⟨ek,ey⟩:=bF hc
       obtain ⟨dk,dx⟩:=d
       simp only at ek ey hd
       subst ek
       subst ey
       obtain ⟨c,is,ts,g1,g2⟩:=ih h1.2 h2' h
       exact ⟨(y,c),⟨tags,none,[],[]⟩ :: is,ts,⟨⟨rfl,rfl,rfl,hd⟩,g1⟩,g2⟩
     cases x with
     | ptr r p n=>
      rcases rD H h1.1 (h2 (.ptr r p n) (by simp)) h with ⟨r',R,p',d,cs,b,o,hr,hv,hg,eZ,hown,hn,e,h5⟩ | ⟨bt,d,Tg,b,o,cs,hw,e,hcs,hV,hok,hb,h5⟩
      ·subst e
       exact hgo d _ (Hg.EJ H hr hv hg eZ hown hn _) h5
      ·simp only [addrOf] at h
       obtain ⟨R,hr,hv,h⟩:=bU h
       rcases ah h with ⟨hc,h⟩ | ⟨_,h⟩
       ·simp only [aby] at hc
        cases nQ:aI p R.k R.x with
        | none=>rw [nQ] at h; exact h.elim
        | some d=>
         rw [nQ] at h
         have hown:=iT hc.2
         obtain ⟨g1,cs,b,o,g2,g3⟩:=h1.1.2 R hr.1 hv hc.1 hown (by rw [nQ]; rfl)
         subst g3
         exact hgo d _ (Hg.EJ H hr hv nQ g1 hown g2 _) h
       ·exact h.elim
     | gV bt kx y Tg=>
      simp only [addrOf] at h
      obtain ⟨hc,h⟩:=fq h
      exact hgo ⟨kx,y⟩ Tg (Hg.Pk h1.1 (h2 (.gV bt kx y Tg) (by simp)) hc) h
     | _=>exact h.elim
    | rw kk ow wt ht=>
     simp only [iJ] at h
     cases x with
     | ptr r p n=>
      simp only at h
      obtain ⟨R,hr,hv,h⟩:=bU h
      rcases ah h with ⟨hc,h⟩ | ⟨_,h⟩
      ·simp only [aby] at hc
       cases nQ:aI p R.k R.x with
       | none=>rw [nQ] at h; exact h.elim
       | some d=>
        rw [nQ] at h
        simp only at h
        cases hck:bL d.1 kk d.2 with
        | none=>rw [hck] at h; exact h.elim
        | some y=>
         rw [hck] at h
         obtain ⟨ek,ey⟩:=bF hck
         obtain ⟨dk,dx⟩:=d
         simp only at ek ey h
         subst ek
         subst ey
         rcases ah h with ⟨hj,h⟩ | ⟨_,h⟩
         ·have hown:=iT hc.2
          obtain ⟨g1,cs,b,o,g2,g3⟩:=h1.1.2 R hr.1 hv hc.1 hown (by rw [nQ]; rfl)
          obtain ⟨c,is,ts,f1,f2⟩:=ih h1.2 h2' h
          exact ⟨(y,c),⟨R.tags,some (r,p,wt,ht),[],[dS R p]⟩ :: is,ts,⟨⟨r,R,p,⟨rfl,rfl,rfl,hr,hv,nQ,g1,hown,hj⟩,rfl,cs,b,o,g2,g3⟩,f1⟩,f2⟩
         ·exact h.elim
      ·exact h.elim
     | _=>exact h.elim
    | oV kk ow wt=>
     simp only [iJ] at h
     have hgo:∀(r:Nat) (R:Root) (p:List Stp) (d:Dat),aM σ r R→bg σ R→aI p R.k R.x=some d→jM p R.k R.x→(∀t∈aa p R.k,aA t R.own=true)→(∃cs wh,bn (hp w) p R.k (α.hdr r) (dY α R r)=some (cs,wh)∧VC d.1 v cs)→
       (match bL d.1 kk d.2 with
       | some y=>bif kC kk R.own ow then iJ ps Br fun c is=>k (y,c) (⟨R.tags,some (r,p,wt,kk.tys),[],[]⟩ :: is) else .fail
       | none=>.fail).ends σ z→∃c is ts,G8 cx σ α F a w (.oV kk ow wt :: ps) c (v :: vs) is ts∧(k c is).ends σ z:=by
      intro r R p d hr hv hg eZ hown hn h
      cases hck:bL d.1 kk d.2 with
      | none=>rw [hck] at h; exact h.elim
      | some y=>
       rw [hck] at h
       obtain ⟨ek,ey⟩:=bF hck
       obtain ⟨dk,dx⟩:=d
       simp only at ek ey h hn
       subst ek
       subst ey
       rcases ah h with ⟨hj,h⟩ | ⟨_,h⟩
       ·obtain ⟨c,is,ts,f1,f2⟩:=ih h1.2 h2' h
        exact ⟨(y,c),⟨R.tags,some (r,p,wt,dk.tys),[],[]⟩ :: is,ts,⟨⟨r,R,p,⟨rfl,rfl,rfl,hr,hv,hg,eZ,hown,hj⟩,rfl,hn⟩,f1⟩,f2⟩
       ·exact h.elim
     cases x with
     | mU r p n=>
      simp only at h
      obtain ⟨R,hr,hv,h⟩:=bU h
      rcases ah h with ⟨hc,h⟩ | ⟨_,h⟩
      ·cases nQ:aI p R.k R.x with
       | none=>rw [nQ] at h; exact h.elim
       | some d=>
        rw [nQ] at h
        obtain ⟨g1,g2,cs,wh,g3,g4⟩:=h1.1 R hr.1 hv (abw hc) d nQ
        exact hgo r R p d hr hv nQ g1 g2 ⟨cs,wh,g3,g4⟩ h
      ·exact h.elim
     | ref r g=>
      simp only at h
      obtain ⟨R,hr,hv,h⟩:=bU h
      rcases ah h with ⟨hc,h⟩ | ⟨_,h⟩
      ·obtain ⟨_,g4⟩:=h1.1 R hr (abw hc)
       exact hgo r R [] ⟨R.k,R.x⟩ hr hv rfl trivial (fun t ht=>by simp [aa] at ht) ⟨_,_,rfl,g4⟩ h
      ·exact h.elim
     | _=>exact h.elim
    | own kk ow=>
     simp only [iJ] at h
     obtain ⟨tk,htk,h⟩:=lN H h1.1 (h2 x (by simp)) h
     cases hck:bL tk.k kk tk.x with
     | none=>rw [hck] at h; exact h.elim
     | some y=>
      rw [hck] at h
      obtain ⟨ek,ey⟩:=bF hck
      simp only at h
      rcases ah h with ⟨hj,h⟩ | ⟨_,h⟩
      ·obtain ⟨c,is,ts,f1,f2⟩:=ih h1.2 h2' h
       exact ⟨(y,c),⟨tk.tags,none,tk.ws,[]⟩ :: is,(v,tk) :: ts,⟨⟨rfl,htk,rfl,⟨ek,ey⟩,hj⟩,f1⟩,f2⟩
      ·exact h.elim
    | fn f ks=>
     simp only [iJ] at h
     cases x with
     | fn f' caps=>
      simp only at h
      rcases ah h with ⟨hf,h⟩ | ⟨_,h⟩
      ·obtain ⟨us,e1,e2⟩:=h1.1
       obtain ⟨c0,T0,g1,h⟩:=IZ (a:=a) e2 (fun c hc=>h2 (.fn f' caps) (by simp) c hc) h
       obtain ⟨c,is,ts,f1,f2⟩:=ih h1.2 h2' h
       refine ⟨Cont.app ks (kin ps) c0 c,⟨T0,none,[],[]⟩ :: is,ts,⟨⟨rfl,rfl,rfl,us, ?_, ?_⟩, ?_⟩,f2⟩
       ·rw [e1,abw hf]
       ·rw [vZ]; exact g1
       ·rw [wL]; exact f1
      ·exact h.elim
     | _=>exact h.elim
    | into j q=>
     cases q with
     | cons _ _=>exact h.elim
     | nil=>
      cases x with
      | gK=>
       obtain ⟨b,hb⟩:=h1.1
       obtain ⟨c,is,ts,f1,f2⟩:=ih h1.2 h2' h
       exact ⟨c,⟨[],none,[],[]⟩ :: is,ts,⟨⟨rfl,rfl,rfl,b,hb⟩,f1⟩,f2⟩
      | _=>exact h.elim
end
end
section
open Go
variable [Fr]
structure GA where
 v:Value
 cs:List Value
 fo:List Nat
 base:Option (Nat×Nat)
 ow:Bool
 wb:Bool
def tH (p:fG) (i:Nat) (c:Cont p.kin):AV:=match p,c with
 | .val k fU,c=>.val k c.1 (bif k.flat then [] else (j4 i,0) :: fU.map fun j=>(aL j,0))
 | .ro k,c=>.gV SENT k c.1 [(j4 i,0)]
 | .rw _ _ _ _,_=>.ptr (aL i) [] 0
 | .oV _ _ _,_=>.ref (aL i) 0
 | .own _ _,_=>.ref (aL i) 0
 | .fn f ks,c=>.fn f (jo.wZ i ks c)
 | .into _ _,_=>.gK
def dH (p:fG) (i:Nat) (c:Cont p.kin):Option Root:=match p,c with
 | .rw k ow _ _,c=>some (aD k c.1 ow (bif k.tys.all (fun t=>aA t ow) then [] else [(j4 i,0)]) .par true)
 | .oV k ow _,c=>some { aD k c.1 ow (bif k.tys.all (fun t=>aA t ow) then [] else [(j4 i,0)]) .anon true with fixed:=true }
 | .own k ow,c=>some (aD k c.1 ow (bif k.tys.all (fun t=>aA t ow) then [] else [(j4 i,0)]) .anon)
 | _,_=>none
def K5:(p:fG)→(ps:List fG)→Cont (kin (p :: ps))→Cont p.kin
 | .val _ _,_,c=>(c.1,())
 | .ro _,_,c=>(c.1,())
 | .rw _ _ _ _,_,c=>(c.1,())
 | .oV _ _ _,_,c=>(c.1,())
 | .own _ _,_,c=>(c.1,())
 | .fn _ ks,ps,c=>Cont.fst ks (kin ps) c
 | .into _ p,ps,c=>Cont.fst (fG.into 0 p).kin (kin ps) c
def Pv:(p:fG)→(ps:List fG)→Cont (kin (p :: ps))→Cont (kin ps)
 | .val _ _,_,c=>c.2
 | .ro _,_,c=>c.2
 | .rw _ _ _ _,_,c=>c.2
 | .oV _ _ _,_,c=>c.2
 | .own _ _,_,c=>c.2
 | .fn _ ks,ps,c=>Cont.snd ks (kin ps) c
 | .into _ p,ps,c=>Cont.snd (fG.into 0 p).kin (kin ps) c
theorem u7 (p:fG) (ps:List fG) (i:Nat) (c:Cont (kin (p :: ps))):jo (p :: ps) i c=(i,tH p i (K5 p ps c)) :: jo ps (i+1) (Pv p ps c):=by cases p <;> rfl
theorem pg (p:fG) (ps:List fG) (i:Nat) (c:Cont (kin (p :: ps))):iL (p :: ps) i c=(match dH p i (K5 p ps c) with
 | some R=>[(aL i,R)]
 | none=>[])++iL ps (i+1) (Pv p ps c):=by cases p <;> rfl
theorem EL {i j:Nat} (h:aL i=aL j):i=j:=by unfold aL at h; omega
theorem xY:∀(ps:List fG) (i:Nat) (c:Cont (kin ps)) (s:Nat),mM (jo ps i c) s=.one .undef∨∃j p cj,s=i+j∧ps[j]?=some p∧mM (jo ps i c) s=.one (tH p s cj)
 | [],i,c,s=>.inl rfl
 | p :: ps,i,c,s=>by
  rw [u7]
  simp only [mM]
  by_cases h:s=i
  ·subst h
   refine .inr ⟨0,p,K5 p ps c,rfl,rfl, ?_⟩
   simp
  ·have:Nat.beq s i=false:=by
    cases hb:Nat.beq s i with
    | true=>exact absurd (abw hb) h
    | false=>rfl
   rw [this]
   simp only [cond_false]
   rcases xY ps (i+1) (Pv p ps c) s with h1 | ⟨j,q,cj,h1,h2,h3⟩
   ·exact .inl h1
   ·exact .inr ⟨j+1,q,cj,by omega,by simpa using h2,h3⟩
theorem qW (l m:List (Nat×Root)) (n:Nat):iF (l++m) n=match iF l n with
 | some R=>some R
 | none=>iF m n:=by
 induction l with
 | nil=>rfl
 | cons q l ih=>
  obtain ⟨s,a⟩:=q
  simp only [List.cons_append,iF]
  cases Nat.beq n s with
  | true=>rfl
  | false=>exact ih
theorem BM:∀(ps:List fG) (i:Nat) (c:Cont (kin ps)) (r:Nat),r<aL i→iF (iL ps i c) r=none
 | [],_,_,_,_=>rfl
 | p :: ps,i,c,r,h=>by
  rw [pg,qW]
  have h2:=BM ps (i+1) (Pv p ps c) r (by unfold aL at h ⊢; omega)
  cases dH p i (K5 p ps c) with
  | none=>exact h2
  | some R=>
   have:Nat.beq r (aL i)=false:=by
    cases hb:Nat.beq r (aL i) with
    | true=>have:=abw hb; omega
    | false=>rfl
   simp only [iF,this,cond_false]
   exact h2
def Ck (cx:Cx) (σ:St) (α:dA) (F:List Nat) (a:Act) (w:World) (r:Nat) (R:Root) (p:List Stp) (d:Dat) (cs1:List Value) (jS:Option (Nat×Nat)) (eX:List Nat):Prop:=
 ∃rest,(α.fo r).Perm (eX++rest)∧(∀b o,jS=some (b,o)→b∈rest∨∃o0,dY α R r=some (b,o0)∧o0≤o∧o+d.1.size≤o0+R.k.size)∧(∀b o,jS=some (b,o)→b∉eX)∧
  ∀{t z:Dat} {tags':List Tag} {lw lh:List TypeId} {kp:Bool} {ft F':List Nat} {cs':List Value} {w':World},mR cx σ α F w r R p d R.own cs1 jS eX rest t z tags' lw lh kp ft F' cs' w'→
    ∃α',Rel cx (ak σ r (bq R z R.own tags' lw lh kp)) α' F' a w'∧jN cx σ α F w (ak σ r (bq R z R.own tags' lw lh kp)) α' F' w' (ni r lw) (ni r lh)∧(∀b∈blk α' (bq R z R.own tags' lw lh kp) r,(∃o,dY α R r=some (b,o))∨b∈ft∨b∈rest)∧
     (mI∉lh→bg (ak σ r (bq R z R.own tags' lw lh kp)) (bq R z R.own tags' lw lh kp)→bn (hp w') p z.1 (α'.hdr r) (dY α' (bq R z R.own tags' lw lh kp) r)=some (cs',jS))∧∀b∈ft,b∈α'.fo r
def J3 (cx:Cx) (σ:St) (α:dA) (F:List Nat) (a:Act) (w:World) (p:fG) (c:Cont p.kin) (v:Value) (i:bW) (g:GA):Prop:=g.v=v∧match p,c with
 | .val k _,c=>g.ow=false∧g.wb=false∧i.wb=none∧g.fo=[]∧g.base=none∧VC k v g.cs∧Vw (hp w) (gy cx σ α F w i.ids) k c.1 g.cs
 | .ro k,c=>g.ow=false∧g.wb=false∧i.wb=none∧g.fo=[]∧g.base=none∧∃b o,v=.pointer (some ⟨b,o,none⟩)∧Cells (hp w) b o g.cs∧Vw (hp w) (gy cx σ α F w i.ids) k c.1 g.cs∧Ad σ α F w i.ids b
 | .rw k ow wt ht,c=>g.ow=false∧g.wb=true∧∃r R p b o,OI cx σ α w k c.1 ow i wt ht r R p∧i.bt=[dS R p]∧bn (hp w) p R.k (α.hdr r) (dY α R r)=some (g.cs,some (b,o))∧v=.pointer (some ⟨b,o,none⟩)∧g.base=some (b,o)∧
   Ow (hp w) R.own (gy cx σ α F w R.tags) k c.1 g.cs g.fo∧(∀b∈g.fo,b∈α.fo r)∧g.fo.Nodup∧b∉g.fo∧Ck cx σ α F a w r R p ⟨k,c.1⟩ g.cs (some (b,o)) g.fo
 | .oV k ow wt,c=>g.ow=false∧g.wb=true∧∃r R p wh,OI cx σ α w k c.1 ow i wt k.tys r R p∧i.bt=[]∧bn (hp w) p R.k (α.hdr r) (dY α R r)=some (g.cs,wh)∧VC k v g.cs∧g.base=none∧
   Ow (hp w) R.own (gy cx σ α F w R.tags) k c.1 g.cs g.fo∧(∀b∈g.fo,b∈α.fo r)∧g.fo.Nodup∧Ck cx σ α F a w r R p ⟨k,c.1⟩ g.cs wh g.fo
 | .own k ow,c=>g.ow=true∧g.wb=false∧i.wb=none∧g.base=none∧VC k v g.cs∧Ow (hp w) ow (gy cx σ α F w i.ids) k c.1 g.cs g.fo∧(∀b∈g.fo,b∈F)∧g.fo.Nodup
 | .fn f ks,c=>g.ow=false∧g.wb=false∧i.wb=none∧g.fo=[]∧g.base=none∧∃us:List Value,v=.func (.func f) #[] us.toArray∧GZ ks c us i.ids
 | .into _ _,_=>g.ow=false∧g.wb=false∧i.wb=none∧g.fo=[]∧g.base=none∧∃b,v=.slice b 0 0
where GZ:(ks:List K)→Cont ks→List Value→List Tag→Prop
 | [],_,[],_=>True
 | k :: ks,c,v :: vs,ids=>(∃b o cs,v=.pointer (some ⟨b,o,none⟩)∧Cells (hp w) b o cs∧Vw (hp w) (gy cx σ α F w ids) k c.1 cs∧Ad σ α F w ids b)∧GZ ks c.2 vs ids
 | _,_,_,_=>False
def ME (cx:Cx) (σ:St) (α:dA) (F:List Nat) (a:Act) (w:World):(ps:List fG)→Cont (kin ps)→List Value→List bW→List GA→Prop
 | [],_,[],[],[]=>True
 | p :: ps,c,v :: vs,i :: is,g :: gs=>J3 cx σ α F a w p (K5 p ps c) v i g∧ME cx σ α F a w ps (Pv p ps c) vs is gs
 | _,_,_,_,_=>False
section
variable {P:Program} {T:gL} {cx:Cx} {σ:St} {α:dA} {F:List Nat} {a:Act} {w:World}
theorem uL.caps {σ1:St} {fB:dA} {F1:List Nat} {ids:List Tag} (hT:Tk cx σ α F a w σ1 fB F1 ids):∀{ks:List K} {c:Cont ks} {us:List Value},uL cx σ α F a w ids ks c us→J3.GZ cx σ1 fB F1 w ks c us ids
 | [],_,[],_=>trivial
 | _ :: _,_,_ :: _,⟨⟨b,o,cs,h1,h2,h3⟩,hh⟩=>⟨⟨b,o,cs,h1,h2,h3 σ1 fB F1 hT⟩,uL.caps hT hh⟩
 | [],_,_ :: _,hh=>hh.elim
 | _ :: _,_,[],hh=>hh.elim
theorem FC {σ1:St} {fB:dA} {F1:List Nat} (H1:Rel cx σ1 fB F1 a w) (hV:Views cx σ α F w σ1 fB F1 w):∀{ps:List fG} {c:Cont (kin ps)} {vs:List Value} {is:List bW} {ts:List (Value×gp)} {hs:List (List Value×List Nat)},
  G8 cx σ α F a w ps c vs is ts→lY cx σ1 fB F1 w ts hs→(∀i∈is,∀t∈i.ids,Same σ α σ1 fB t.1)→(∀i∈is,∀r q,i.wb=some (r,q)→Same σ α σ1 fB r)→
  ∃gs,ME cx σ1 fB F1 a w ps c vs is gs∧(gs.flatMap fun g=>bif g.ow then g.fo else [])=hs.flatMap (·.2):=by
 intro ps
 induction ps with
 | nil=>
  intro c vs is ts hs h hh _ _
  cases vs with
  | cons _ _=>exact h.elim
  | nil=>cases is with
   | cons _ _=>exact h.elim
   | nil=>cases ts with
    | cons _ _=>exact h.elim
    | nil=>cases hs with
     | cons _ _=>exact hh.elim
     | nil=>exact ⟨[],trivial,rfl⟩
 | cons p ps ih=>
  intro c vs is ts hs h hh hS hR
  have hpl:∀{k:K} {x:El k} {ow:List TypeId} {i:bW} {wt ht:List TypeId} {r:Nat} {R:Root} {p:List Stp} {cs:List Value} {wh:Option (Nat×Nat)},OI cx σ α w k x ow i wt ht r R p→(∀t∈i.ids,Same σ α σ1 fB t.1)→Same σ α σ1 fB r→
    bn (hp w) p R.k (α.hdr r) (dY α R r)=some (cs,wh)→OI cx σ1 fB w k x ow i wt ht r R p∧bn (hp w) p R.k (fB.hdr r) (dY fB R r)=some (cs,wh)∧
     ∃fo,Ow (hp w) R.own (gy cx σ1 fB F1 w R.tags) k x cs fo∧(∀b∈fo,b∈fB.fo r)∧fo.Nodup∧(∀b o,wh=some (b,o)→b∉fo)∧Ck cx σ1 fB F1 a w r R p ⟨k,x⟩ cs wh fo:=by
   intro k x ow i wt ht r R p cs wh hP hid hr hn
   have hr1:=(hr.live R).2 hP.lv
   have hv1:bg σ1 R:=⟨hP.vl.1,by rw [eD (fun t ht=>(hid t (by rw [hP.ids]; exact ht)).root)]; exact hP.vl.2⟩
   have hn1:bn (hp w) p R.k (fB.hdr r) (dY fB R r)=some (cs,wh):=by rw [hr.hdr,hr.wh]; exact hn
   have K:=H1.roots r R hr1
   have hnd:=K.nd
   rw [bO,jO] at hnd
   obtain ⟨fd,ok',eX,rest,kQ,wh2,hn',hpf,hd1,hty,hall,sH,hwf,hgo⟩:=H1.place hr1 hv1 (own':=R.own) hP.get hP.pin (fun _ h=>h) hP.own
   rw [hn1] at hn'
   simp only [abr,abD] at hn'
   obtain ⟨rfl,rfl⟩:=hn'
   obtain ⟨Vu,hO⟩:=hall (fun _ _=>rfl)
   subst Vu
   rw [abV] at hpf
   have qU:=hpf.nodup hnd.2
   exact ⟨⟨hP.wb,hP.ws,hP.ids,hr1,hv1,hP.get,hP.pin,hP.own,hP.just⟩,hn1,eX,hO,fun b hb=>hpf.mem_iff.2 (abx _ hb),(abz.1 qU).1,hwf,rest,hpf,sH,hwf,hgo⟩
  cases vs with
  | nil=>cases p <;> exact h.elim
  | cons v vs=>
   cases is with
   | nil=>cases p <;> exact h.elim
   | cons i is=>
    have hS1:=hS i (by simp)
    have Zd:=hR i (by simp)
    have HZ:Tk cx σ α F a w σ1 fB F1 i.ids:=⟨H1,hV,hS1⟩
    have hS2:∀i∈is,∀t∈i.ids,Same σ α σ1 fB t.1:=fun i hi=>hS i (by simp [hi])
    have hR2:∀i∈is,∀r q,i.wb=some (r,q)→Same σ α σ1 fB r:=fun i hi=>hR i (by simp [hi])
    cases p with
    | val k fU=>
     obtain ⟨⟨h1,h2,h3,cs,h4,h5⟩,h6⟩:=h
     obtain ⟨gs,g1,g2⟩:=ih h6 hh hS2 hR2
     exact ⟨⟨v,cs,[],none,false,false⟩ :: gs,⟨⟨rfl,rfl,rfl,h1,rfl,rfl,h4,h5 σ1 fB F1 HZ⟩,g1⟩,by simpa using g2⟩
    | ro k=>
     obtain ⟨⟨h1,h2,h3,b,o,cs,h4,h5,h7⟩,h6⟩:=h
     obtain ⟨gs,g1,g2⟩:=ih h6 hh hS2 hR2
     exact ⟨⟨v,cs,[],none,false,false⟩ :: gs,⟨⟨rfl,rfl,rfl,h1,rfl,rfl,b,o,h4,h5,h7 σ1 fB F1 HZ⟩,g1⟩,by simpa using g2⟩
    | rw k ow wt ht=>
     obtain ⟨⟨r,R,p,hP,hbt,cs,b,o,hn,hv⟩,h6⟩:=h
     obtain ⟨gs,g1,g2⟩:=ih h6 hh hS2 hR2
     obtain ⟨q1,q2,fo,q3,q4,q5,q6,q7⟩:=hpl hP hS1 (Zd r _ hP.wb) hn
     exact ⟨⟨v,cs,fo,some (b,o),false,true⟩ :: gs,⟨⟨rfl,rfl,rfl,r,R,p,b,o,q1,hbt,q2,hv,rfl,q3,q4,q5,q6 b o rfl,q7⟩,g1⟩,by simpa using g2⟩
    | oV k ow wt=>
     obtain ⟨⟨r,R,p,hP,hbt,cs,wh,hn,hv⟩,h6⟩:=h
     obtain ⟨gs,g1,g2⟩:=ih h6 hh hS2 hR2
     obtain ⟨q1,q2,fo,q3,q4,q5,q6,q7⟩:=hpl hP hS1 (Zd r _ hP.wb) hn
     exact ⟨⟨v,cs,fo,none,false,true⟩ :: gs,⟨⟨rfl,rfl,rfl,r,R,p,wh,q1,hbt,q2,hv,rfl,q3,q4,q5,q7⟩,g1⟩,by simpa using g2⟩
    | own k ow=>
     cases ts with
     | nil=>exact h.elim
     | cons q ts=>
      cases hs with
      | nil=>exact hh.elim
      | cons hd hs=>
       obtain ⟨⟨h1,h2,h3,⟨ek,ey⟩,h5⟩,h6⟩:=h
       obtain ⟨⟨k1,k2,k3⟩,k4⟩:=hh
       obtain ⟨gs,g1,g2⟩:=ih h6 k4 hS2 hR2
       obtain ⟨v',tk⟩:=q
       simp only at h1 h2 h3 ek ey h5 k1 k2 k3
       subst h1
       have hO:Ow (hp w) ow (gy cx σ1 fB F1 w tk.tags) k c.1 hd.1 hd.2:=by
        refine lZ (fun t ht=>?_) (rC ek ey (k2.ow k3))
        have:=abH.1 h5 t ht
        exact (by simpa using this:aA t tk.own=aA t ow).symm
       refine ⟨⟨v',hd.1,hd.2,none,true,false⟩ :: gs,⟨⟨rfl,rfl,rfl,by rw [h3],rfl,ek▸k1,by rw [h3]; exact hO,k2.sub,k2.nd⟩,g1⟩,by simp [g2]⟩
    | fn f ks=>
     obtain ⟨⟨h1,h2,h3,us,h4,h5⟩,h6⟩:=h
     obtain ⟨gs,g1,g2⟩:=ih h6 hh hS2 hR2
     exact ⟨⟨v,[],[],none,false,false⟩ :: gs,⟨⟨rfl,rfl,rfl,h1,rfl,rfl,us,h4,h5.caps HZ⟩,g1⟩,by simpa using g2⟩
    | into j q=>
     obtain ⟨⟨h1,h2,h3,b,h4⟩,h6⟩:=h
     obtain ⟨gs,g1,g2⟩:=ih h6 hh hS2 hR2
     exact ⟨⟨v,[],[],none,false,false⟩ :: gs,⟨⟨rfl,rfl,rfl,h1,rfl,rfl,b,h4⟩,g1⟩,by simpa using g2⟩
theorem ME.at:∀{ps:List fG} {c:Cont (kin ps)} {vs:List Value} {is:List bW} {gs:List GA} {i0:Nat},ME cx σ α F a w ps c vs is gs→
  vs.length=ps.length∧is.length=ps.length∧gs.length=ps.length∧∀j p,ps[j]?=some p→∃cj v i g,vs[j]?=some v∧is[j]?=some i∧gs[j]?=some g∧J3 cx σ α F a w p cj v i g∧
   mM (jo ps i0 c) (i0+j)=.one (tH p (i0+j) cj)∧iF (iL ps i0 c) (aL (i0+j))=dH p (i0+j) cj:=by
 intro ps
 induction ps with
 | nil=>
  intro c vs is gs i0 h
  cases vs with
  | cons _ _=>exact h.elim
  | nil=>cases is with
   | cons _ _=>exact h.elim
   | nil=>cases gs with
    | cons _ _=>exact h.elim
    | nil=>exact ⟨rfl,rfl,rfl,fun j p hp=>by simp at hp⟩
 | cons p ps ih=>
  intro c vs is gs i0 h
  cases vs with
  | nil=>exact h.elim
  | cons v vs=>cases is with
   | nil=>exact h.elim
   | cons i is=>cases gs with
    | nil=>exact h.elim
    | cons g gs=>
     obtain ⟨h1,h2⟩:=h
     obtain ⟨l1,l2,l3,h3⟩:=ih (i0:=i0+1) h2
     refine ⟨by simp [l1],by simp [l2],by simp [l3],fun j q hq=>?_⟩
     cases j with
     | zero=>
      simp only [List.getElem?_cons_zero,abr] at hq
      subst hq
      refine ⟨K5 p ps c,v,i,g,rfl,rfl,rfl,h1, ?_, ?_⟩
      ·rw [u7]; simp [mM]
      ·rw [pg,qW]
       cases hr:dH p i0 (K5 p ps c) with
       | none=>
        simp only [iF,Nat.add_zero]
        rw [BM ps (i0+1) (Pv p ps c) (aL i0) (by unfold aL; omega)]
       | some R=>simp [iF]
     | succ j=>
      obtain ⟨cj,v',i',g',e1,e2,e3,e4,e5,e6⟩:=h3 j q (by simpa using hq)
      have ej:i0+(j+1)=i0+1+j:=by omega
      refine ⟨cj,v',i',g',e1,e2,e3,e4, ?_, ?_⟩
      ·rw [u7,ej]
       simp only [mM]
       have:Nat.beq (i0+1+j) i0=false:=by
        cases hb:Nat.beq (i0+1+j) i0 with
        | true=>have:=abw hb; omega
        | false=>rfl
       rw [this]
       exact e5
      ·rw [pg,qW,ej]
       cases hr:dH p i0 (K5 p ps c) with
       | none=>exact e6
       | some R=>
        have:Nat.beq (aL (i0+1+j)) (aL i0)=false:=by
         cases hb:Nat.beq (aL (i0+1+j)) (aL i0) with
         | true=>have:=EL (abw hb); omega
         | false=>rfl
        simp only [iF,this,cond_false]
        exact e6
theorem JG:∀{ps:List fG} {c:Cont (kin ps)} {i0 r:Nat} {R:Root},iF (iL ps i0 c) r=some R→∃j p,r=aL (i0+j)∧ps[j]?=some p:=by
 intro ps
 induction ps with
 | nil=>intro c i0 r R h; simp [iL,iF] at h
 | cons p ps ih=>
  intro c i0 r R h
  rw [pg,qW] at h
  have hrec:iF (iL ps (i0+1) (Pv p ps c)) r=some R→∃j q,r=aL (i0+j)∧(p :: ps)[j]?=some q:=by
   intro h
   obtain ⟨j,q,h1,h2⟩:=ih h
   exact ⟨j+1,q,by rw [h1]; congr 1; omega,by simpa using h2⟩
  cases hr:dH p i0 (K5 p ps c) with
  | none=>rw [hr] at h; exact hrec h
  | some Q=>
   rw [hr] at h
   simp only [iF] at h
   cases hb:Nat.beq r (aL i0) with
   | true=>exact ⟨0,p,abw hb,rfl⟩
   | false=>rw [hb] at h; exact hrec h
end
end
section
open Go
variable [Fr]
def fK (g:GA):List Nat:=(match g.base with
 | some q=>[q.1]
 | none=>[])++g.fo
def Ai:fG→List Nat
 | .val _ fU=>fU
 | _=>[]
def pM:fG→Nat
 | .rw k _ _ _=>k.size
 | _=>0
def dn (cx:Cx) (σ:St) (α:dA) (F:List Nat) (w:World) (ps:List fG) (c:Cont (kin ps)) (is:List bW) (gs:List GA):Cx where
 nt:=0
 w0:=w
 ext:=fun j b=>(∃i,is[j]?=some i∧gy cx σ α F w i.ids b)∧∀(m:Nat) (g:GA) (q:Nat×Nat),gs[m]?=some g→g.base=some q→b≠q.1
 par:=fun j=>match gs[j]?,ps[j]? with
  | some g,some p=>bif g.ow || g.wb then some ⟨g.base.map fun q=>(q.1,q.2,pM p),fK g,g.wb⟩ else none
  | _,_=>none
 ptrs:=fun j q ts v=>∃g R0 c0 b o,gs[j]?=some g∧g.wb=true∧iF (iL ps 0 c) (aL j)=some R0∧ts=fI q R0.k∧(∀t∈aa q R0.k,aA t R0.own=true)∧jM q R0.k R0.x∧bn (hp w) q R0.k g.cs g.base=some (c0,some (b,o))∧v=.pointer (some ⟨b,o,none⟩)
 refs:=fun j v=>∃g,gs[j]?=some g∧g.v=v∧g.base=none∧g.wb=true
def ig (gs:List GA):dA where
 loc:=fun r=>((gs[r / 4]?).bind (·.base)).getD (0,0)
 hdr:=fun r=>((gs[r / 4]?).map (·.cs)).getD []
 fo:=fun r=>((gs[r / 4]?).map (·.fo)).getD []
theorem EK (j:Nat):aL j / 4=j:=by unfold aL; omega
theorem rU (j:Nat):eH (aL j)=false:=by
 unfold eH aL
 have:4 * j % 4=0:=by omega
 rw [this]; rfl
section
variable {P:Program} {T:gL} {cx:Cx} {σ:St} {α:dA} {F:List Nat} {a:Act} {w:World} {ps:List fG} {c:Cont (kin ps)} {vs:List Value} {is:List bW} {gs:List GA}
structure Apart (cx:Cx) (σ:St) (α:dA) (F:List Nat) (w:World) (ps:List fG) (is:List bW) (gs:List GA):Prop where
 one:∀(j j':Nat) (g g':GA),gs[j]?=some g→gs[j']?=some g'→g.wb=true→g'.wb=true→j=j'
 own:(gs.flatMap fun g=>bif g.ow then g.fo else []).Nodup
 fU:∀(j:Nat) (p:fG) (i:bW) (r n:Nat),ps[j]?=some p→is[j]?=some i→(r,n)∈i.ids→∀(m:Nat) (i':bW) q,is[m]?=some i'→i'.wb=some (r,q)→m∈Ai p∧∃k fU,p=.val k fU∧∀b∈i'.bt,b∉k.tys
 prw:∀(j:Nat) (p:fG),ps[j]?=some p→∀m∈Ai p,∃(i':bW) (q:Nat×List Stp×List TypeId×List TypeId),is[m]?=some i'∧i'.wb=some q
theorem flatMap_apart {A:Type} {f:A→List Nat}:∀{l:List A} {i j:Nat} {x y:A},(l.flatMap f).Nodup→l[i]?=some x→l[j]?=some y→i≠j→∀b∈f x,b∉f y:=by
 intro l
 induction l with
 | nil=>intro i j x y _ h; simp at h
 | cons z l ih=>
  intro i j x y hnd hi hj hne b hb hb'
  simp only [List.flatMap_cons] at hnd
  have n:=abz.1 hnd
  cases i with
  | zero=>
   simp only [List.getElem?_cons_zero,abr] at hi
   subst hi
   cases j with
   | zero=>exact hne rfl
   | succ j=>exact n.2.2 b hb b (ab3.2 ⟨y,List.mem_of_getElem? (by simpa using hj),hb'⟩) rfl
  | succ i=>
   cases j with
   | zero=>
    simp only [List.getElem?_cons_zero,abr] at hj
    subst hj
    exact n.2.2 b hb' b (ab3.2 ⟨x,List.mem_of_getElem? (by simpa using hi),hb⟩) rfl
   | succ j=>exact ih n.2.1 (by simpa using hi) (by simpa using hj) (by omega) b hb hb'
theorem MC {p:fG} {cj:Cont p.kin} {v:Value} {i:bW} {g:GA} (h:J3 cx σ α F a w p cj v i g) (hw:g.wb=true) :
  ∃(k:K) (x:El k) (ow wt ht:List TypeId) (r:Nat) (R:Root) (q:List Stp) (wh:Option (Nat×Nat)),((p=.rw k ow wt ht∧i.bt=[dS R q]∧∃b o,wh=some (b,o)∧v=.pointer (some ⟨b,o,none⟩)∧g.base=some (b,o)∧b∉g.fo)∨(p=.oV k ow wt∧ht=k.tys∧i.bt=[]∧VC k v g.cs∧g.base=none))∧
   OI cx σ α w k x ow i wt ht r R q∧bn (hp w) q R.k (α.hdr r) (dY α R r)=some (g.cs,wh)∧Ow (hp w) R.own (gy cx σ α F w R.tags) k x g.cs g.fo∧(∀b∈g.fo,b∈α.fo r)∧g.fo.Nodup∧g.ow=false∧g.v=v:=by
 obtain ⟨hv,h⟩:=h
 cases p with
 | val k fU=>rw [h.2.1] at hw; simp at hw
 | ro k=>rw [h.2.1] at hw; simp at hw
 | rw k ow wt ht=>
  obtain ⟨h1,h2,r,R,q,b,o,h3,h4,h5,h6,h7,h8,h9,h10,h11,_⟩:=h
  exact ⟨k,cj.1,ow,wt,ht,r,R,q,some (b,o), .inl ⟨rfl,h4,b,o,rfl,h6,h7,h11⟩,h3,h5,h8,h9,h10,h1,hv⟩
 | oV k ow wt=>
  obtain ⟨h1,h2,r,R,q,wh,h3,h4,h5,h6,h7,h8,h9,h10,_⟩:=h
  exact ⟨k,cj.1,ow,wt,k.tys,r,R,q,wh, .inr ⟨rfl,rfl,h4,h6,h7⟩,h3,h5,h8,h9,h10,h1,hv⟩
 | own k ow=>rw [h.2.1] at hw; simp at hw
 | fn f ks=>rw [h.2.1] at hw; simp at hw
 | into j q=>rw [h.2.1] at hw; simp at hw
structure RD (cx:Cx) (σ:St) (α:dA) (F:List Nat) (w:World) (ps:List fG) (vs:List Value) (is:List bW) (gs:List GA) (j:Nat) (R:Root) (g:GA) (i:bW) (p:fG):Prop where
 hg:gs[j]?=some g
 hi:is[j]?=some i
 hq:ps[j]?=some p
 hv:vs[j]?=some g.v
 held:g.ow=true∨g.wb=true
 fU:Ai p=[]
 YN:∀k fU,p≠.val k fU
 lw:R.w=[]
 lh:R.h=[]
 g0:R.g=0
 ew:R.ew=[]
 eh:R.eh=[]
 tags:R.tags=bif R.k.tys.all (fun t=>aA t R.own) then [] else [(j4 j,0)]
 ow:Ow (hp w) R.own (gy cx σ α F w i.ids) R.k R.x g.cs g.fo
 nd:g.fo.Nodup
 kind:(R.kind=.par∧pM p=R.k.size∧g.wb=true∧∃b o,g.base=some (b,o)∧b∉g.fo)∨(R.kind=.anon∧g.base=none∧VC R.k g.v g.cs)
theorem uB {p:fG} {cj:Cont p.kin} {v:Value} {i:bW} {g:GA} {j:Nat} {R:Root} (h:J3 cx σ α F a w p cj v i g) (hg:gs[j]?=some g) (hi:is[j]?=some i) (hp:ps[j]?=some p) (hv:vs[j]?=some v) (hR:dH p j cj=some R):RD cx σ α F w ps vs is gs j R g i p:=by
 obtain ⟨h0,h⟩:=h
 subst h0
 have hall:∀{k:K} {ow own:List TypeId},kC k own ow=true→∀t∈k.tys,aA t ow=aA t own:=fun hj t ht=>by
  have:=abH.1 hj t ht
  exact (by simpa using this:aA t _=aA t _).symm
 cases p with
 | rw k ow wt ht=>
  obtain ⟨h1,h2,r,R0,q,b,o,h3,h4,h5,h6,h7,h8,h9,h10,h11,_⟩:=h
  simp only [dH,abr] at hR
  subst hR
  refine ⟨hg,hi,hp,hv, .inr h2,rfl,by simp,rfl,rfl,rfl,rfl,rfl,rfl, ?_,h10, .inl ⟨rfl,rfl,h2,b,o,h7,h11⟩⟩
  rw [h3.ids]
  exact lZ (hall h3.just) h8
 | oV k ow wt=>
  obtain ⟨h1,h2,r,R0,q,wh,h3,h4,h5,h6,h7,h8,h9,h10,_⟩:=h
  simp only [dH,abr] at hR
  subst hR
  refine ⟨hg,hi,hp,hv, .inr h2,rfl,by simp,rfl,rfl,rfl,rfl,rfl,rfl, ?_,h10, .inr ⟨rfl,h7,h6⟩⟩
  rw [h3.ids]
  exact lZ (hall h3.just) h8
 | own k ow=>
  obtain ⟨h1,h2,h3,h4,h5,h6,h7,h8⟩:=h
  simp only [dH,abr] at hR
  subst hR
  exact ⟨hg,hi,hp,hv, .inl h1,rfl,by simp,rfl,rfl,rfl,rfl,rfl,rfl,h6,h8, .inr ⟨rfl,h4,h5⟩⟩
 | val k fU=>simp [dH] at hR
 | ro k=>simp [dH] at hR
 | fn f ks=>simp [dH] at hR
 | into j q=>simp [dH] at hR
theorem uA {p:fG} {cj:Cont p.kin} {v:Value} {i:bW} {g:GA} (j:Nat) (h:J3 cx σ α F a w p cj v i g) (hh:g.ow=true∨g.wb=true):∃R,dH p j cj=some R:=by
 obtain ⟨h0,h⟩:=h
 cases p with
 | rw k ow wt ht=>exact ⟨_,rfl⟩
 | oV k ow wt=>exact ⟨_,rfl⟩
 | own k ow=>exact ⟨_,rfl⟩
 | val k fU=>rcases hh with hh | hh <;> simp [h.1,h.2.1] at hh
 | ro k=>rcases hh with hh | hh <;> simp [h.1,h.2.1] at hh
 | fn f ks=>rcases hh with hh | hh <;> simp [h.1,h.2.1] at hh
 | into j q=>rcases hh with hh | hh <;> simp [h.1,h.2.1] at hh
theorem jY (H:Rel cx σ α F a w) {p:fG} {cj:Cont p.kin} {v:Value} {i:bW} {g:GA} (h:J3 cx σ α F a w p cj v i g):(∀b∈fK g,(g.ow=true∧b∈F)∨(g.wb=true∧∃r R q,i.wb=some (r,q)∧aM σ r R∧b∈blk α R r))∧
  (∀b o,g.base=some (b,o)→∃r R q arr e lo hi,i.wb=some (r,q)∧aM σ r R∧b∈blk α R r∧hp w b=some (.cells arr e (lo,hi))∧wQ arr.size lo hi∧o+pM p≤arr.size∧Cells (hp w) b o g.cs∧((∀t∈i.bt,t=e)∧i.bt≠[]∧¬jq cx b∨jq cx b))∧
  (∀b∈g.fo,g.wb=true→∃r R q,i.wb=some (r,q)∧aM σ r R∧b∈α.fo r)∧(g.wb=true↔i.wb≠none):=by
 obtain ⟨hv,h⟩:=h
 cases p with
 | val k fU=>
  obtain ⟨h1,h2,h3,h4,h5,_⟩:=h
  exact ⟨fun b hb=>by simp [fK,h4,h5] at hb,fun b o hb=>by rw [h5] at hb; simp at hb,fun b hb=>by rw [h4] at hb; simp at hb,by simp [h2,h3]⟩
 | ro k=>
  obtain ⟨h1,h2,h3,h4,h5,_⟩:=h
  exact ⟨fun b hb=>by simp [fK,h4,h5] at hb,fun b o hb=>by rw [h5] at hb; simp at hb,fun b hb=>by rw [h4] at hb; simp at hb,by simp [h2,h3]⟩
 | fn f ks=>
  obtain ⟨h1,h2,h3,h4,h5,_⟩:=h
  exact ⟨fun b hb=>by simp [fK,h4,h5] at hb,fun b o hb=>by rw [h5] at hb; simp at hb,fun b hb=>by rw [h4] at hb; simp at hb,by simp [h2,h3]⟩
 | own k ow=>
  obtain ⟨h1,h2,h3,h4,h5,h6,h7,h8⟩:=h
  exact ⟨fun b hb=>.inl ⟨h1,h7 b (by simpa [fK,h4] using hb)⟩,fun b o hb=>by rw [h4] at hb; simp at hb,fun b hb hw=>by rw [h2] at hw; simp at hw,by simp [h2,h3]⟩
 | oV k ow wt=>
  obtain ⟨h1,h2,r,R,q,wh,h3,h4,h5,h6,h7,h8,h9,h10,_⟩:=h
  have hf:∀b∈g.fo,b∈blk α R r:=fun b hb=>abu _ (h9 b hb)
  exact ⟨fun b hb=>.inr ⟨h2,r,R,_,h3.wb,h3.lv,hf b (by simpa [fK,h7] using hb)⟩,fun b o hb=>by rw [h7] at hb; simp at hb,fun b hb _=>⟨r,R,_,h3.wb,h3.lv,h9 b hb⟩,by simp [h2,h3.wb]⟩
 | rw k ow wt ht=>
  obtain ⟨h1,h2,r,R,q,b,o,h3,h4,h5,h6,h7,h8,h9,h10,h11,_⟩:=h
  have hf:∀b∈g.fo,b∈blk α R r:=fun b hb=>abu _ (h9 b hb)
  obtain ⟨m1,_,m2,⟨arr,e,lo,hi,m3,m4,m5,m6⟩,_⟩:=kV H h3.lv h3.vl h3.get h3.pin h3.own h5
  refine ⟨fun b' hb=>?_,fun b' o' hb=>?_,fun b hb _=>⟨r,R,_,h3.wb,h3.lv,h9 b hb⟩,by simp [h2,h3.wb]⟩
  ·refine .inr ⟨h2,r,R,_,h3.wb,h3.lv, ?_⟩
   simp only [fK,h7,List.cons_append,List.nil_append,abE] at hb
   rcases hb with hb | hb
   ·subst hb; exact m2
   ·exact hf b' hb
  ·rw [h7] at hb
   simp only [abr,abD] at hb
   obtain ⟨rfl,rfl⟩:=hb
   refine ⟨r,R,_,arr,e,lo,hi,h3.wb,h3.lv,m2,m3,m4,m5,m1, ?_⟩
   rcases m6 with ⟨m6,m7⟩ | ⟨m6,_⟩
   ·exact .inl ⟨fun t ht=>by rw [h4] at ht; simp only [abL] at ht; rw [ht,m6],by rw [h4]; simp,m7⟩
   ·exact .inr m6
 | into j q=>
  obtain ⟨h1,h2,h3,h4,h5,_⟩:=h
  exact ⟨fun b hb=>by simp [fK,h4,h5] at hb,fun b o hb=>by rw [h5] at hb; simp at hb,fun b hb=>by rw [h4] at hb; simp at hb,by simp [h2,h3]⟩
end
end
section
open Go
variable [Fr]
section
variable {P:Program} {T:gL} {cx:Cx} {σ:St} {α:dA} {F:List Nat} {a:Act} {w:World} {ps:List fG} {c:Cont (kin ps)} {vs:List Value} {is:List bW} {gs:List GA}
theorem gP {j:Nat} {g:GA} (h:gs[j]?=some g):(ig gs).loc (aL j)=g.base.getD (0,0)∧(ig gs).hdr (aL j)=g.cs∧(ig gs).fo (aL j)=g.fo:=by
 simp [ig,EK,h]
theorem RD.blk {j:Nat} {R:Root} {g:GA} {i:bW} {p:fG} (D:RD cx σ α F w ps vs is gs j R g i p):blk (ig gs) R (aL j)=fK g:=by
 obtain ⟨h1,h2,h3⟩:=gP D.hg
 unfold Ow.blk fK dY
 rw [h1,h3]
 rcases D.kind with ⟨hk,_,_,b,o,hb,_⟩ | ⟨hk,hb,_⟩
 ·rw [hk,hb]; rfl
 ·rw [hk,hb]
theorem RD.wh {j:Nat} {R:Root} {g:GA} {i:bW} {p:fG} (D:RD cx σ α F w ps vs is gs j R g i p):dY (ig gs) R (aL j)=g.base:=by
 obtain ⟨h1,h2,h3⟩:=gP D.hg
 unfold dY
 rw [h1]
 rcases D.kind with ⟨hk,_,_,b,o,hb,_⟩ | ⟨hk,hb,_⟩
 ·rw [hk,hb]; rfl
 ·rw [hk,hb]
theorem RD.live {j:Nat} {R:Root} {g:GA} {i:bW} {p:fG} (D:RD cx σ α F w ps vs is gs j R g i p):R.aT=false:=by
 unfold Root.aT
 rcases D.kind with ⟨hk,_⟩ | ⟨hk,_⟩ <;> rw [hk]
theorem NR (H:Rel cx σ α F a w) (hJ:ME cx σ α F a w ps c vs is gs) (hA:Apart cx σ α F w ps is gs):Rel (dn cx σ α F w ps c is gs) (dN ps c) (ig gs) [] ⟨vs.toArray,[]⟩ w:=by
 obtain ⟨lv,li,lg,hat⟩:=hJ.at (i0:=0)
 simp only [Nat.zero_add] at hat
 have hroot:∀{r:Nat} {R:Root},(dN ps c).roots r=some R→∃j g i p,r=aL j∧RD cx σ α F w ps vs is gs j R g i p:=by
  intro r R h
  obtain ⟨j,p,h1,h2⟩:=JG (show iF (iL ps 0 c) r=some R from h)
  simp only [Nat.zero_add] at h1
  subst h1
  obtain ⟨cj,v,i,g,e1,e2,e3,e4,e5,e6⟩:=hat j p h2
  have hR:dH p j cj=some R:=by rw [←e6]; exact h
  exact ⟨j,g,i,p,rfl,uB e4 e3 e2 h2 e1 hR⟩
 have QE:∀{j:Nat} {R:Root},(dN ps c).roots (aL j)=some R→∃g i p,RD cx σ α F w ps vs is gs j R g i p:=by
  intro j R h
  obtain ⟨j',g,i,p,h1,h2⟩:=hroot h
  have:=EL h1
  subst this
  exact ⟨g,i,p,h2⟩
 have hmk:∀{j:Nat} {g:GA},gs[j]?=some g→(g.ow=true∨g.wb=true)→∃R i p,(dN ps c).roots (aL j)=some R∧RD cx σ α F w ps vs is gs j R g i p:=by
  intro j g hg hh
  have hj:j<ps.length:=by have:=(List.getElem?_eq_some_iff.1 hg).1; omega
  obtain ⟨cj,v,i,g',e1,e2,e3,e4,e5,e6⟩:=hat j ps[j] (abG hj)
  rw [hg] at e3
  simp only [abr] at e3
  subst e3
  obtain ⟨R,hR⟩:=uA j e4 hh
  have hr:(dN ps c).roots (aL j)=some R:=by show iF (iL ps 0 c) (aL j)=some R; rw [e6,hR]
  exact ⟨R,i,ps[j],hr,uB e4 hg e2 (abG hj) e1 hR⟩
 have hgj:∀{j:Nat} {g:GA},gs[j]?=some g→∃p cj v i,ps[j]?=some p∧vs[j]?=some v∧is[j]?=some i∧J3 cx σ α F a w p cj v i g:=by
  intro j g hg
  have hj:j<ps.length:=by have:=(List.getElem?_eq_some_iff.1 hg).1; omega
  obtain ⟨cj,v,i,g',e1,e2,e3,e4,_⟩:=hat j ps[j] (abG hj)
  rw [hg] at e3
  simp only [abr] at e3
  subst e3
  exact ⟨ps[j],cj,v,i,abG hj,e1,e2,e4⟩
 have zQ:∀{j:Nat} {g:GA} {b:Nat},gs[j]?=some g→b∈fK g→(g.ow=true∧b∈F)∨(g.wb=true∧∃i r R q,is[j]?=some i∧i.wb=some (r,q)∧aM σ r R∧b∈blk α R r):=by
  intro j g b hg hb
  obtain ⟨p,cj,v,i,e1,e2,e3,e4⟩:=hgj hg
  rcases (jY H e4).1 b hb with h | ⟨h,r,R,q,h1⟩
  ·exact .inl h
  ·exact .inr ⟨h,i,r,R,q,e3,h1⟩
 have hmn:∀{j:Nat} {g:GA} {b:Nat},gs[j]?=some g→b∈fK g→mine cx w b:=by
  intro j g b hg hb
  rcases zQ hg hb with ⟨_,h⟩ | ⟨_,i,r,R,q,_,_,h1,h2⟩
  ·exact H.fl b h
  ·exact (H.roots r R h1).mine b h2
 have hlt:∀{j:Nat} {g:GA} {b:Nat},gs[j]?=some g→b∈fK g→b<w.heap.size:=fun hg hb=>(hmn hg hb).1
 have Lh:∀{j:Nat} {g:GA} {b:Nat},gs[j]?=some g→g.ow=true→b∈fK g→b∈g.fo:=by
  intro j g b hg ho hb
  obtain ⟨p,cj,v,i,e1,e2,e3,e4⟩:=hgj hg
  unfold fK at hb
  cases hbase:g.base with
  | none=>rw [hbase] at hb; simpa using hb
  | some q=>
   exfalso
   obtain ⟨q1,q2⟩:=q
   obtain ⟨r,R,q,_,_,_,_,h1,_⟩:=(jY H e4).2.1 q1 q2 hbase
   have hw:g.wb=true:=(jY H e4).2.2.2.2 (by rw [h1]; simp)
   obtain ⟨_,h⟩:=e4
   cases p <;> first | (obtain ⟨g1,g2,_⟩:=h; rw [ho] at g1; simp at g1; done) | (obtain ⟨g1,g2,_⟩:=h; rw [hw] at g2; simp at g2; done) | exact h.elim
 have Ui:∀{j j':Nat} {g g':GA} {b:Nat},gs[j]?=some g→gs[j']?=some g'→j≠j'→b∈fK g→b∉fK g':=by
  intro j j' g g' b hg hg' hne hb hb'
  rcases zQ hg hb with ⟨ho,h⟩ | ⟨hw,i,r,R,q,_,_,h1,h2⟩
  ·rcases zQ hg' hb' with ⟨ho',h'⟩ | ⟨_,i',r',R',q',_,_,h1',h2'⟩
   ·refine flatMap_apart hA.own hg hg' hne b ?_ ?_
    ·rw [ho]; exact Lh hg ho hb
    ·rw [ho']; exact Lh hg' ho' hb'
   ·exact H.gQ r' R' h1' b h2' h
  ·rcases zQ hg' hb' with ⟨_,h'⟩ | ⟨hw',_⟩
   ·exact H.gQ r R h1 b h2 h'
   ·exact hne (hA.one j j' g g' hg hg' hw hw')
 have hnd:∀{j:Nat} {R:Root} {g:GA} {i:bW} {p:fG},RD cx σ α F w ps vs is gs j R g i p→(fK g).Nodup:=by
  intro j R g i p D
  unfold fK
  rcases D.kind with ⟨_,_,_,b,o,hb,hno⟩ | ⟨_,hb,_⟩
  ·rw [hb]; exact abZ.2 ⟨hno,D.nd⟩
  ·rw [hb]; exact D.nd
 have CQ:∀{j m:Nat} {i:bW} {p:fG} {g:GA} {b:Nat},is[j]?=some i→ps[j]?=some p→Ad σ α F w i.ids b→gs[m]?=some g→b∈fK g→m∈Ai p∧(∃k fU,p=.val k fU∧∀i',is[m]?=some i'→∀t∈i'.bt,t∉k.tys):=by
  intro j m i p g b hi hp hb hg hbf
  rcases zQ hg hbf with ⟨_,h⟩ | ⟨_,i',r,R,q,h0,h1,h2,h3⟩
  ·exact absurd h hb.2.1
  ·obtain ⟨n,hn⟩:=hb.2.2 r R h2 h3
   obtain ⟨g1,k,fU,g2,g3⟩:=hA.fU j p i r n hp hi hn m i' q h0 h1
   refine ⟨g1,k,fU,g2,fun QL h=>?_⟩
   rw [h0] at h
   simp only [abr] at h
   subst h
   exact g3
 have Qn:∀{j:Nat} {i:bW} {p:fG} {b:Nat},is[j]?=some i→ps[j]?=some p→gy cx σ α F w i.ids b→(∀k fU,p=.val k fU→∃t∈k.tys,oW (hp w) b t)→(dn cx σ α F w ps c is gs).ext j b:=by
  intro j i p b hi hp hb ht
  refine ⟨⟨i,hi,hb⟩,fun m g q hg hbase e=>?_⟩
  have hbf:b∈fK g:=by unfold fK; rw [hbase,e]; simp
  obtain ⟨_,k,fU,h1,h2⟩:=CQ hi hp hb.q hg hbf
  obtain ⟨p',cj,v,i',e1,e2,e3,e4⟩:=hgj hg
  obtain ⟨r,R,q',arr,e',lo,hi',f1,f2,f3,f4,f5,f6,f7,f8⟩:=(jY H e4).2.1 q.1 q.2 (by rw [hbase])
  rcases f8 with ⟨f8,f9,f10⟩ | f8
  ·obtain ⟨t,ht1,ht2⟩:=ht k fU h1
   have ht2:=H.GQ (hmn hg hbf) ht2
   rw [e] at ht2
   unfold lH at ht2
   rw [f4] at ht2
   simp only [abr] at ht2
   cases hbt:i'.bt with
   | nil=>exact f9 hbt
   | cons t0 l=>
    have hm:t0∈i'.bt:=by rw [hbt]; simp
    exact h2 i' e3 t0 hm (by rw [f8 t0 hm,ht2]; exact ht1)
  ·exact hb.2.2.1 (e▸f8)
 have QC:∀{j:Nat} {i:bW} {p:fG} {b:Nat} {T:List Tag},is[j]?=some i→ps[j]?=some p→(dn cx σ α F w ps c is gs).ext j b→(j4 j,0)∈T→(∀n∈Ai p,(aL n,0)∈T)→gy (dn cx σ α F w ps c is gs) (dN ps c) (ig gs) [] w T b:=by
  intro j i p b T hi hp hb ht hpr
  obtain ⟨⟨i',hi',hok⟩,hno⟩:=hb
  rw [hi] at hi'
  simp only [abr] at hi'
  subst hi'
  refine ⟨hok.1,by simp, ?_,fun r R hr hbr=>?_,fun _=>.inl ⟨j,0,ht,⟨i,hi,hok⟩,hno⟩⟩
  ·rintro ⟨m,pi,o,n,h1,h2⟩
   simp only [dn] at h1
   cases hgm:gs[m]? with
   | none=>rw [hgm] at h1; simp at h1
   | some g=>
    cases hpm:ps[m]? with
    | none=>rw [hgm,hpm] at h1; simp at h1
    | some pm=>
     rw [hgm,hpm] at h1
     simp only at h1
     cases hh:(g.ow || g.wb) with
     | false=>rw [hh] at h1; simp at h1
     | true=>
      rw [hh] at h1
      simp only [cond_true,abr] at h1
      subst h1
      simp only at h2
      cases hbase:g.base with
      | none=>rw [hbase] at h2; simp at h2
      | some q=>
       rw [hbase] at h2
       simp only [Option.map_some,abr,abD] at h2
       exact hno m g q hgm hbase h2.1.symm
  ·obtain ⟨m,g,im,pm,h1,D⟩:=hroot hr.1
   subst h1
   rw [D.blk] at hbr
   exact ⟨0,hpr m (CQ hi hp hok.q D.hg hbr).1⟩
 have Yu:∀{j:Nat} {i:bW} {p:fG} {b:Nat},is[j]?=some i→ps[j]?=some p→(∀k fU,p≠.val k fU)→Ad σ α F w i.ids b→Ad (dN ps c) (ig gs) [] w [(j4 j,0)] b:=by
  intro j i p b hi hp Rs hb
  refine ⟨hb.1,by simp,fun r R hr hbr=>?_⟩
  obtain ⟨m,g,im,pm,h1,D⟩:=hroot hr.1
  subst h1
  rw [D.blk] at hbr
  obtain ⟨_,k,fU,h2,_⟩:=CQ hi hp hb D.hg hbr
  exact absurd h2 (Rs k fU)
 have hpar:∀{j:Nat} {pi:M5},(dn cx σ α F w ps c is gs).par j=some pi→∃g p,gs[j]?=some g∧ps[j]?=some p∧(g.ow=true∨g.wb=true)∧pi=⟨g.base.map fun q=>(q.1,q.2,pM p),fK g,g.wb⟩:=by
  intro j pi h1
  simp only [dn] at h1
  cases hgm:gs[j]? with
  | none=>rw [hgm] at h1; simp at h1
  | some g=>
   cases hpm:ps[j]? with
   | none=>rw [hgm,hpm] at h1; simp at h1
   | some pm=>
    rw [hgm,hpm] at h1
    simp only at h1
    cases hh:(g.ow || g.wb) with
    | false=>rw [hh] at h1; simp at h1
    | true=>
     rw [hh] at h1
     simp only [cond_true,abr] at h1
     exact ⟨g,pm,rfl,rfl,by simpa using hh,h1.symm⟩
 have O8:∀{j:Nat} {R:Root} {g:GA} {i:bW} {p:fG},RD cx σ α F w ps vs is gs j R g i p→(dn cx σ α F w ps c is gs).par j=some ⟨g.base.map fun q=>(q.1,q.2,pM p),fK g,g.wb⟩:=by
  intro j R g i p D
  simp only [dn]
  rw [D.hg,D.hq]
  have:(g.ow || g.wb)=true:=by simpa using D.held
  simp only [this,cond_true]
 have hsame:∀{j:Nat} {R R':Root},(dN ps c).roots (aL j)=some R→(dN ps c).roots (aL j)=some R'→R'=R:=fun h1 h2=>by rw [h1] at h2; simpa using h2.symm
 have K4:∀{j:Nat} {g:GA} {p:fG} {b o:Nat},gs[j]?=some g→ps[j]?=some p→g.base=some (b,o)→∃arr e lo hi,hp w b=some (.cells arr e (lo,hi))∧wQ arr.size lo hi∧o+pM p≤arr.size∧Cells (hp w) b o g.cs:=by
  intro j g p b o hg hp hb
  obtain ⟨p',cj,v,i,e1,e2,e3,e4⟩:=hgj hg
  rw [hp] at e1
  simp only [abr] at e1
  subst e1
  obtain ⟨r,R,q',arr,e',lo,hi',f1,f2,f3,f4,f5,f6,f7,f8⟩:=(jY H e4).2.1 b o hb
  exact ⟨arr,e',lo,hi',f4,f5,f6,f7⟩
 have Pd:∀s,iK (dn cx σ α F w ps c is gs) (dN ps c) (ig gs) [] w ((dN ps c).slots s) (vs.toArray.getD s undef)∧rF (dN ps c) ((dN ps c).slots s):=by
  intro s
  rcases xY ps 0 c s with h | ⟨j,p,cj0,hj,hps,hs0⟩
  ·have:(dN ps c).slots s=.one .undef:=h
   rw [this]
   exact ⟨trivial,trivial⟩
  ·simp only [Nat.zero_add] at hj
   subst hj
   obtain ⟨cj,v,i,g,e1,e2,e3,e4,e5,e6⟩:=hat s p hps
   have hsl:(dN ps c).slots s=.one (tH p s cj):=e5
   have hvs:vs.toArray.getD s undef=v:=by
    rw [Array.getD_eq_getD_getElem?]
    simp [e1]
   rw [hsl,hvs]
   have hro:∀{k:K} {x:El k} {v:Value} {b o:Nat} {cs:List Value},(∀k fU,p≠.val k fU)→v=.pointer (some ⟨b,o,none⟩)→Cells (hp w) b o cs→Vw (hp w) (gy cx σ α F w i.ids) k x cs→Ad σ α F w i.ids b→Ai p=[]→
     Am (dn cx σ α F w ps c is gs) (dN ps c) (ig gs) [] w SENT k x [(j4 s,0)] v:=by
    intro k x v b o cs Rs hv hC hV hq hpr
    refine ⟨⟨b,o,hv⟩,fun _=>⟨b,o,cs,hv,hC,eT (fun _ _=>rfl) (fun b hb=>?_) hV,Yu e2 hps Rs hq, .inl ⟨rfl,fun t ht=>by simp only [abL] at ht; subst ht; exact iV s⟩⟩⟩
    exact QC e2 hps (Qn e2 hps hb (fun k fU h=>absurd h (Rs k fU))) (by simp) (by rw [hpr]; simp)
   have Lj:∀{R:Root},dH p s cj=some R→l9 (dN ps c) (.ref (aL s) 0)∧l9 (dN ps c) (.ptr (aL s) [] 0):=by
    intro R hR
    have hr:(dN ps c).roots (aL s)=some R:=by show iF (iL ps 0 c) (aL s)=some R; rw [e6,hR]
    exact ⟨⟨R,hr, .inr (ab0 _)⟩,⟨R,hr, .inr (ab0 _)⟩⟩
   have OZ:dW (dN ps c) [(j4 s,0)]:=fun t ht=>by simp only [abL] at ht; subst ht; exact .inl (iV s)
   have xw:∀{R:Root},dH p s cj=some R→R.kind=.anon→bz (dn cx σ α F w ps c is gs) (dN ps c) (ig gs) [] w (.ref (aL s) 0) v:=by
    intro R hR hk Q hQ _
    have hr:(dN ps c).roots (aL s)=some R:=by show iF (iL ps 0 c) (aL s)=some R; rw [e6,hR]
    have D:=uB e4 e3 e2 hps e1 hR
    have hQR:=hsame hr hQ.1
    subst hQR
    rcases D.kind with ⟨hk',_⟩ | ⟨_,_,hV⟩
    ·rw [hk] at hk'; simp at hk'
    ·refine ⟨hk, ?_⟩
     rw [(gP D.hg).2.1, ←e4.1]
     exact hV
   cases p with
   | val k fU=>
    obtain ⟨h0,h1,h2,h3,h4,h5,h6,h7⟩:=e4
    refine ⟨fun hc=>⟨g.cs,h6, ?_⟩, ?_⟩
    ·cases hf:k.flat with
     | true=>exact gN hf h7
     | false=>
      rw [show (tH (.val k fU) s cj)=.val k cj.1 ((j4 s,0) :: fU.map fun j=>(aL j,0)) by simp [tH,hf]] at *
      refine eT (fun _ _=>rfl) (fun b hb=>?_) (yS k.tys (fun _ h=>h) h7)
      refine QC e2 hps (Qn e2 hps hb.1 (fun k' aaK h=>by simp only [fG.val.injEq] at h; obtain ⟨rfl,_⟩:=h; exact hb.2)) (by simp) (fun n hn=>by exact abQ _ (ab2.2 ⟨n,hn,rfl⟩))
    ·intro t ht
     cases hf:k.flat with
     | true=>simp [tH,hf] at ht
     | false=>
      simp only [tH,hf,cond_false,abE,ab2] at ht
      rcases ht with ht | ⟨m,hm,ht⟩
      ·subst ht; exact .inl (iV s)
      ·subst ht
       obtain ⟨i',q,f1,f2⟩:=hA.prw s _ hps m hm
       have hm':m<gs.length:=by have:=(List.getElem?_eq_some_iff.1 f1).1; omega
       obtain ⟨p',cj',v',QL,k1,k2,k3,k4⟩:=hgj (abG hm')
       rw [f1] at k3
       simp only [abr] at k3
       subst k3
       obtain ⟨R,_,_,hR,_⟩:=hmk (abG hm') (.inr ((jY H k4).2.2.2.2 (by rw [f2]; simp)))
       exact .inr ⟨R,hR, .inr (ab0 _)⟩
   | ro k=>
    obtain ⟨h0,h1,h2,h3,h4,h5,b,o,h6,h7,h8,h9⟩:=e4
    exact ⟨hro (by simp) h6 h7 h8 h9 rfl,OZ⟩
   | rw k ow wt ht=>
    obtain ⟨R,hR⟩:=uA s e4 (.inr e4.2.2.1)
    have hr:(dN ps c).roots (aL s)=some R:=by show iF (iL ps 0 c) (aL s)=some R; rw [e6,hR]
    have D:=uB e4 e3 e2 hps e1 hR
    obtain ⟨h0,h1,h2,r,R0,q,b,o,h3,h4,h5,h6,h7,_⟩:=e4
    refine ⟨⟨⟨b,o,h6⟩,fun Q hQ _ _ _ _=>⟨trivial,g.cs,b,o, ?_,h6⟩⟩,(Lj hR).2⟩
    have hQR:=hsame hr hQ
    subst hQR
    simp only [bn]
    rw [D.wh,h7,(gP D.hg).2.1]
   | oV k ow wt=>
    obtain ⟨R,hR⟩:=uA s e4 (.inr e4.2.2.1)
    exact ⟨xw hR (by simp only [dH,abr] at hR; subst hR; rfl),(Lj hR).1⟩
   | own k ow=>
    obtain ⟨R,hR⟩:=uA s e4 (.inl e4.2.1)
    exact ⟨xw hR (by simp only [dH,abr] at hR; subst hR; rfl),(Lj hR).1⟩
   | fn f ks=>
    obtain ⟨h0,h1,h2,h3,h4,h5,us,h6,h7⟩:=e4
    have Ud:∀(ks:List K) (c0:Cont ks) (us:List Value),J3.GZ cx σ α F w ks c0 us i.ids→jE (dn cx σ α F w ps c is gs) (dN ps c) (ig gs) [] w (jo.wZ s ks c0) us:=by
     intro ks
     induction ks with
     | nil=>intro c0 us h; cases us with
      | nil=>exact trivial
      | cons _ _=>exact h.elim
     | cons k ks ih=>intro c0 us h; cases us with
      | nil=>exact h.elim
      | cons u us=>
       obtain ⟨⟨b,o,cs,g1,g2,g3,g4⟩,g5⟩:=h
       exact ⟨hro (by simp) g1 g2 g3 g4 rfl,ih c0.2 us g5⟩
    have Qk:∀(ks:List K) (c0:Cont ks),∀q∈jo.wZ s ks c0,dW (dN ps c) q.2.2:=by
     intro ks
     induction ks with
     | nil=>intro c0 q hq; simp [jo.wZ] at hq
     | cons k ks ih=>
      intro c0 q hq
      rcases abE.1 hq with h | h
      ·subst h; exact OZ
      ·exact ih c0.2 q h
    exact ⟨⟨us,h6,Ud ks cj us h7⟩,Qk ks cj⟩
   | into j q=>
    obtain ⟨h0,h1,h2,h3,h4,h5,b,h6⟩:=e4
    exact ⟨⟨b,h6⟩,trivial⟩
 constructor
 ·rfl
 ·exact ab0 _
 ·intro j pi b o n hj hb
  obtain ⟨g,p,hg,hp,hh,rfl⟩:=hpar hj
  obtain ⟨R,i,p',hr,D⟩:=hmk hg hh
  have:p'=p:=by have:=D.hq; rw [hp] at this; simpa using this.symm
  subst this
  simp only at hb
  cases hbase:g.base with
  | none=>rw [hbase] at hb; simp at hb
  | some q=>
   rw [hbase] at hb
   simp only [Option.map_some,abr,abD] at hb
   obtain ⟨rfl,rfl,rfl⟩:=hb
   rcases D.kind with ⟨hk,hs,_⟩ | ⟨_,hn,_⟩
   ·refine ⟨R,⟨hr,D.live⟩,hk, ?_,hs.symm⟩
    rw [(gP hg).1,hbase]
    rfl
   ·rw [hbase] at hn; simp at hn
 ·intro r R hr hk
  obtain ⟨j,g,i,p,rfl,D⟩:=hroot hr.1
  rcases D.kind with ⟨_,hs,_,b,o,hb,_⟩ | ⟨hk',_⟩
  ·refine ⟨j,_,pM p,rfl,O8 D, ?_⟩
   rw [(gP D.hg).1,hb]
   rfl
  ·rw [hk] at hk'; simp at hk'
 ·exact fun s=>(Pd s).1
 ·exact fun s=>(Pd s).2
 ·intro r R hr
  obtain ⟨j,g,i,p,rfl,D⟩:=hroot hr.1
  obtain ⟨a1,a2,a3⟩:=gP D.hg
  refine ⟨fun _=>?_,by rw [a2]; exact cz D.ow,fun b o hb=>?_,by rw [D.blk]; exact hnd D,fun b hb=>?_⟩
  ·rw [a2,a3]
   have nL:=D.tags
   cases hall:(R.k.tys.all fun t=>aA t R.own) with
   | true=>exact jC (fP (iT hall)) D.ow
   | false=>
    rw [hall] at nL
    refine aY (fun _ _=>rfl) (fun b hb=>?_) (fun _ _=>rfl) D.ow
    exact QC D.hi D.hq (Qn D.hi D.hq hb (fun k fU h=>absurd h (D.YN k fU))) (by rw [nL]; simp) (by rw [D.fU]; simp)
  ·rw [D.wh] at hb
   obtain ⟨arr,e,lo,hi,m1,m2,m3,m4⟩:=K4 D.hg D.hq hb
   rw [a2]
   rcases D.kind with ⟨hk,hs,_⟩ | ⟨_,hn,_⟩
   ·exact ⟨m4,arr,e,lo,hi,m1,m2,by rw [←hs]; exact m3,fun t ht=>by rw [hk] at ht; simp at ht⟩
   ·rw [hb] at hn; simp at hn
  ·rw [D.blk] at hb
   exact ⟨hlt D.hg hb, .inr ⟨j,_,O8 D,hb⟩⟩
 ·intro r R hr
  obtain ⟨j,g,i,p,rfl,D⟩:=hroot hr
  have nL:=D.tags
  refine ⟨fun t ht=>?_,rU j,fun n hn=>?_⟩
  ·rw [nL] at ht
   cases hall:(R.k.tys.all fun t=>aA t R.own) with
   | true=>rw [hall] at ht; simp at ht
   | false=>rw [hall] at ht; simp only [cond_false,abL] at ht; subst ht; exact .inl (iV j)
  ·rw [nL] at hn
   cases hall:(R.k.tys.all fun t=>aA t R.own) with
   | true=>rw [hall] at hn; simp at hn
   | false=>rw [hall] at hn; simp only [cond_false,abL,abD] at hn; unfold aL j4 at hn; omega
 ·intro r R r' R' hr hr' hne b hb
  obtain ⟨j,g,i,p,rfl,D⟩:=hroot hr.1
  obtain ⟨j',g',i',p',rfl,D'⟩:=hroot hr'.1
  rw [D.blk] at hb
  rw [D'.blk]
  exact Ui D.hg D'.hg (fun e=>hne (by rw [e])) hb
 ·intro b hb; simp at hb
 ·exact List.nodup_nil
 ·intro r R _ b _ h; simp at h
 ·refine ⟨rfl,rfl,rfl,abI _,fun _ _ _=>rfl,fun j pi b o n hj hb=>?_⟩
  obtain ⟨g,p,hg,hp,hh,rfl⟩:=hpar hj
  simp only at hb
  cases hbase:g.base with
  | none=>rw [hbase] at hb; simp at hb
  | some q=>
   rw [hbase] at hb
   simp only [Option.map_some,abr,abD] at hb
   obtain ⟨rfl,rfl,rfl⟩:=hb
   obtain ⟨arr,e,lo,hi,m1,_⟩:=K4 hg hp (b:=q.1) (o:=q.2) (by rw [hbase])
   exact fJ.of_same _ _ m1 rfl
 ·intro j pi hj hk
  obtain ⟨g,p,hg,hp,hh,rfl⟩:=hpar hj
  obtain ⟨R,i,p',hr,D⟩:=hmk hg hh
  refine ⟨R,hr,fun _ b hb _=>.inr ⟨rfl,by simp,fun q Q hq hbq=>?_⟩⟩
  obtain ⟨j',g',i',p'',rfl,D'⟩:=hroot hq.1
  rw [D'.blk] at hbq
  by_cases e:j'=j
  ·rw [e]
  ·exact absurd hb (Ui D'.hg hg e hbq)
 ·refine ⟨fun j pi hj b hb=>?_,fun b hb=>⟨?_,fun j pi hj hbl=>?_⟩,fun b hb=>H.fixed hb⟩
  ·obtain ⟨g,p,hg,hp,hh,rfl⟩:=hpar hj
   exact hlt hg hb
  ·exact Nat.lt_of_lt_of_le (H.pG.2.1 b hb).1 H.frame.2.2.2.1
  ·obtain ⟨g,p,hg,hp,hh,rfl⟩:=hpar hj
   exact H.Iq (hmn hg hbl) hb
 ·intro j q ts v hv
  obtain ⟨g,R0,c0,b,o,h1,h2,h3,h4,h5,h6,h7,h8⟩:=hv
  refine ⟨⟨b,o,h8⟩,R0,h3,fun _=>⟨⟨b,o,h8⟩,fun Q hQ _ _ _ _=>?_⟩⟩
  have hQR:=hsame (show (dN ps c).roots (aL j)=some R0 from h3) hQ
  subst hQR
  obtain ⟨g',i',p',D⟩:=QE hQ
  have:g'=g:=by have:=D.hg; rw [h1] at this; simpa using this.symm
  subst this
  refine ⟨h6,c0,b,o, ?_,h8⟩
  rw [D.wh,(gP D.hg).2.1]
  exact h7
 ·intro j v hv
  obtain ⟨g,h1,h2,h3,h4⟩:=hv
  obtain ⟨R,i,p,hr,D⟩:=hmk h1 (.inr h4)
  refine ⟨⟨R,hr⟩,fun Q hQ _=>?_⟩
  have hQR:=hsame hr hQ.1
  subst hQR
  rcases D.kind with ⟨_,_,_,b,o,hb,_⟩ | ⟨hk,_,hV⟩
  ·rw [h3] at hb; simp at hb
  ·refine ⟨hk, ?_⟩
   rw [(gP D.hg).2.1, ←h2]
   exact hV
end
end
section
open Go
variable [Fr]
def Dw (cx:Cx) (σ:St) (α:dA) (F:List Nat) (w:World):(rs:List wU)→Cont (kK rs)→List Value→List (List Nat)→Prop
 | [],_,[],[]=>True
 | .val k exts fU :: rs,c,v :: vs,fo :: bE=>(fo=[]∧∃T cs,(k.flat=true∨lI exts fU T=true)∧VC k v cs∧Vw (hp w) (gy cx σ α F w T) k c.1 cs)∧Dw cx σ α F w rs c.2 vs bE
 | .own k ow exts fU :: rs,c,v :: vs,fo :: bE=>(∃T cs own,((k.tys.all fun t=>aA t ow)=true∨lI exts fU T=true)∧(∀t∈k.tys,aA t ow=true→aA t own=true)∧VC k v cs∧Ow (hp w) own (gy cx σ α F w T) k c.1 cs fo)∧Dw cx σ α F w rs c.2 vs bE
 | .ptr t k ow exts :: rs,c,v :: vs,fo :: bE=>(∃b o T cs own gu,v=.pointer (some ⟨b,o,none⟩)∧fo=b :: gu∧((k.tys.all fun t=>aA t ow)=true∨lI exts [] T=true)∧(∀t∈k.tys,aA t ow=true→aA t own=true)∧
   (Cells (hp w) b o cs∧∃arr e lo hi,hp w b=some (.cells arr e (lo,hi))∧wQ arr.size lo hi∧o+k.size≤arr.size∧e=t)∧Ow (hp w) own (gy cx σ α F w T) k c.1 cs gu)∧Dw cx σ α F w rs c.2 vs bE
 | .into j p :: rs,c,v :: vs,fo :: bE=>(fo=[]∧p=[]∧∃b n cp,v=.slice b (show Int from c.1).toNat cp∧(show Int from c.1).toNat≤n∧bz cx σ α F w (.ref (aL j) 0) (.slice b n cp))∧Dw cx σ α F w rs c.2 vs bE
 | _,_,_,_=>False
def G9 (σ:St) (k:K) (x:El k) (ow wt ht:List TypeId) (j:Nat):Prop:=
 ∃R,σ.roots (aL j)=some R∧bg σ R∧(∃e:R.k=k,x=e▸R.x)∧kC k R.own ow=true∧BL R (some (wt,ht))=true∧((k.tys.all fun t=>aA t ow)=true∨lI [j] [] R.tags=true)
def wT (σ:St):(ps:List fG)→Nat→Cont (kR ps)→Prop
 | [],_,_=>True
 | .rw k ow wt ht :: ps,j,c=>G9 σ k c.1 ow wt ht j∧wT σ ps (j+1) c.2
 | .oV k ow wt :: ps,j,c=>G9 σ k c.1 ow wt k.tys j∧wT σ ps (j+1) c.2
 | .val _ _ :: ps,j,c=>wT σ ps (j+1) c
 | .ro _ :: ps,j,c=>wT σ ps (j+1) c
 | .own _ _ :: ps,j,c=>wT σ ps (j+1) c
 | .fn _ _ :: ps,j,c=>wT σ ps (j+1) c
 | .into _ _ :: ps,j,c=>wT σ ps (j+1) c
def E9:List Value→Value
 | [v]=>v
 | vs=>.tuple vs.toArray
def Post (cx:Cx) (ps:List fG) (rs:List wU) (out:Cont (kK rs++kR ps)) (v:Value) (w':World):Prop:=
 ∃σ α F a vs bE,Rel cx σ α F a w'∧v=E9 vs∧Dw cx σ α F w' rs (Cont.fst _ _ out) vs bE∧bE.flatten.Nodup∧(∀b∈bE.flatten,b∈F)∧wT σ ps 0 (Cont.snd _ _ out)
def uU (P:Program) (f:FuncId) (args:Array Value) (w:World) (R:Value→World→Prop):Prop:=
 ((callFunc f args).run P w=.ok (.enter f args) w∧Calls P f args w fun e w'=>∃v,e=.returned v∧R v w')∨∃v w',(callFunc f args).run P w=.ok (.value v) w'∧R v w'
def sP (ps:List fG) (j:Nat) (k:K):Prop:=∃ow wt ht,ps[j]?=some (.rw k ow wt ht)∨ps[j]?=some (.oV k ow wt)
structure Cj (cx:Cx) (ps:List fG):Prop where
 par:∀j pi,cx.par j=some pi→pi.kp=true→∃k,sP ps j k
 ptr:∀j p ts v,cx.ptrs j p ts v→∃k,sP ps j k∧ts=fI p k
 ref:∀j v,cx.refs j v→∃k,sP ps j k
def aG (P:Program) (n:Nat) (E:Entry):Prop:=
 ∀(c:Cont (kin E.ps)) (out:Cont (kK E.rs++kR E.ps)),E.F n c=some out→∀(cx:Cx) (α:dA) (args:Array Value) (w:World),cx.nt=0→cx.w0=w→args.size=E.ps.length→Cj cx E.ps→
  Rel cx (dN E.ps c) α [] ⟨args,[]⟩ w→uU P E.f args w (Post cx E.ps E.rs out)
section
variable {P:Program} {T:gL} {cx:Cx} {σ:St} {α:dA} {F:List Nat} {a:Act} {w w':World} {ps:List fG} {c:Cont (kin ps)} {vs:List Value} {is:List bW} {gs:List GA}
structure uT (σ:St) (α:dA) (is:List bW) (gs:List GA) (vJ:St) (uH:dA) (Ff:List Nat) (σ':St) (α':dA) (F':List Nat):Prop where
 blk:∀q Q b,aM σ' q Q→b∈blk α' Q q→b∈Ff∨(∃Q0,aM σ q Q0∧b∈Ow.blk α Q0 q∧∀(m:Nat) (g:GA),gs[m]?=some g→b∉g.fo)∨
  ∃(m:Nat) (i:bW) (R:Root) (u:List Stp×List TypeId×List TypeId),is[m]?=some i∧i.wb=some (q,u)∧aM vJ (aL m) R∧b∈Ow.blk uH R (aL m)
 F:∀b∈F',b∈Ff
theorem mW (H:Rel cx σ α F a w) (hJ:ME cx σ α F a w ps c vs is gs) {j:Nat} {pi:M5} (h:(dn cx σ α F w ps c is gs).par j=some pi):∃g p cj v i,gs[j]?=some g∧ps[j]?=some p∧is[j]?=some i∧J3 cx σ α F a w p cj v i g∧(g.ow=true∨g.wb=true)∧pi=⟨g.base.map fun q=>(q.1,q.2,pM p),fK g,g.wb⟩:=by
 obtain ⟨lv,li,lg,hat⟩:=hJ.at (i0:=0)
 simp only [dn] at h
 cases hgm:gs[j]? with
 | none=>rw [hgm] at h; simp at h
 | some g=>
  cases hpm:ps[j]? with
  | none=>rw [hgm,hpm] at h; simp at h
  | some pm=>
   rw [hgm,hpm] at h
   simp only at h
   cases hh:(g.ow || g.wb) with
   | false=>rw [hh] at h; simp at h
   | true=>
    rw [hh] at h
    simp only [cond_true,abr] at h
    obtain ⟨cj,v,i,g',e1,e2,e3,e4,_⟩:=hat j pm hpm
    rw [hgm] at e3
    simp only [abr] at e3
    subst e3
    exact ⟨g,pm,cj,v,i,rfl,rfl,e2,e4,by simpa using hh,h.symm⟩
theorem Bb (H:Rel cx σ α F a w) (hJ:ME cx σ α F a w ps c vs is gs):Cj (dn cx σ α F w ps c is gs) ps:=by
 obtain ⟨lv,li,lg,hat⟩:=hJ.at (i0:=0)
 simp only [Nat.zero_add] at hat
 have Uu:∀{j:Nat} {g:GA},gs[j]?=some g→g.wb=true→∃p cj,ps[j]?=some p∧iF (iL ps 0 c) (aL j)=dH p j cj∧((∃k ow wt ht,p=.rw k ow wt ht)∨∃k ow wt,p=.oV k ow wt):=by
  intro j g hg hw
  have hj:j<ps.length:=by have:=(List.getElem?_eq_some_iff.1 hg).1; omega
  obtain ⟨cj,v,i,g',e1,e2,e3,e4,e5,e6⟩:=hat j ps[j] (abG hj)
  rw [hg] at e3
  simp only [abr] at e3
  subst e3
  refine ⟨ps[j],cj,abG hj,e6, ?_⟩
  obtain ⟨k,x,ow,wt,ht,r,R,q,wh,h,_⟩:=MC e4 hw
  rcases h with ⟨h,_⟩ | ⟨h,_⟩
  ·exact .inl ⟨k,ow,wt,ht,h⟩
  ·exact .inr ⟨k,ow,wt,h⟩
 have hk:∀{j:Nat} {g:GA},gs[j]?=some g→g.wb=true→∃k,sP ps j k∧∃R0,iF (iL ps 0 c) (aL j)=some R0∧R0.k=k:=by
  intro j g hg hw
  obtain ⟨p,cj,h1,h2,h3⟩:=Uu hg hw
  rcases h3 with ⟨k,ow,wt,ht,rfl⟩ | ⟨k,ow,wt,rfl⟩
  ·exact ⟨k,⟨ow,wt,ht, .inl h1⟩,_,h2,rfl⟩
  ·exact ⟨k,⟨ow,wt,[], .inr h1⟩,_,h2,rfl⟩
 refine ⟨fun j pi hj hkp=>?_,fun j q ts v hv=>?_,fun j v hv=>?_⟩
 ·obtain ⟨g,p,cj,v,i,e1,e2,e3,e4,e5,rfl⟩:=mW H hJ hj
  obtain ⟨k,h,_⟩:=hk e1 hkp
  exact ⟨k,h⟩
 ·obtain ⟨g,R0,c0,b,o,h1,h2,h3,h4,_⟩:=hv
  obtain ⟨k,h,R1,h5,h6⟩:=hk h1 h2
  rw [h3] at h5
  simp only [abr] at h5
  subst h5
  exact ⟨k,h,by rw [h4,h6]⟩
 ·obtain ⟨g,h1,_,_,h2⟩:=hv
  obtain ⟨k,h,_⟩:=hk h1 h2
  exact ⟨k,h⟩
theorem CX (H:Rel cx σ α F a w) (hJ:ME cx σ α F a w ps c vs is gs) {vJ:St} {uH:dA} {Ff:List Nat} {af:Act} (Hf:Rel (dn cx σ α F w ps c is gs) vJ uH Ff af w') {σ':St} {α':dA} {F':List Nat}
  (B:uT σ α is gs vJ uH Ff σ' α' F') {Tg U:List Tag} (Zi:∀j n,(j4 j,n)∈Tg→∀i,is[j]?=some i→∀t∈i.ids,∃n',(t.1,n')∈U) (hU2:∀m n,(aL m,n)∈Tg→∀i q,is[m]?=some i→i.wb=some q→∃n',(q.1,n')∈U)
  {b:Nat} (hb:gy (dn cx σ α F w ps c is gs) vJ uH Ff w' Tg b):gy cx σ' α' F' w' U b:=by
 obtain ⟨hb1,hb2,hb3,hb4,hb5⟩:=hb
 have hcl:w.heap.size≤b∨(b<w.heap.size∧∃j n i,(j4 j,n)∈Tg∧is[j]?=some i∧gy cx σ α F w i.ids b)∨(b<w.heap.size∧∃(j:Nat) (g:GA),gs[j]?=some g∧b∈g.fo∧((g.ow=true∧b∈F)∨(g.wb=true∧∃r R,aM σ r R∧b∈α.fo r))):=by
  by_cases hlt:b<w.heap.size
  ·refine .inr ?_
   rcases hb5 hlt with ⟨j,n,h1,⟨i,h2,h3⟩,_⟩ | ⟨j,pi,h1,h2⟩
   ·exact .inl ⟨hlt,j,n,i,h1,h2,h3⟩
   ·refine .inr ⟨hlt, ?_⟩
    obtain ⟨g,p,cj,v,i,e1,e2,e3,e4,e5,rfl⟩:=mW H hJ h1
    simp only at h2
    have hfo:b∈g.fo:=by
     unfold fK at h2
     cases hbase:g.base with
     | none=>rw [hbase] at h2; simpa using h2
     | some q=>
      rw [hbase] at h2
      simp only [List.cons_append,List.nil_append,abE] at h2
      rcases h2 with h2 | h2
      ·exact absurd ⟨j,_,q.2,pM p,h1,by rw [hbase,h2]; rfl⟩ hb3
      ·exact h2
    refine ⟨j,g,e1,hfo, ?_⟩
    rcases (jY H e4).1 b (by unfold fK; exact abu _ hfo) with h | ⟨h,_⟩
    ·exact .inl h
    ·obtain ⟨r,R,q,_,f2,f3⟩:=(jY H e4).2.2.1 b hfo h
     exact .inr ⟨h,r,R,f2,f3⟩
  ·exact .inl (Nat.le_of_not_lt hlt)
 refine ⟨hb1,fun h=>hb2 (B.F b h), ?_, ?_, ?_⟩
 ·intro hbase
  have hlt:b<w.heap.size:=by
   obtain ⟨j,pi,o,n,h1,h2⟩:=hbase
   obtain ⟨Q,hQ,hk,hl,_⟩:=H.kP j pi b o n h1 h2
   exact ((H.roots _ _ hQ).mine b (by simp [Ow.blk,dY,hk,hl])).1
  rcases hcl with h | ⟨_,j,n,i,_,_,h⟩ | ⟨_,j,g,h1,h2,h⟩
  ·omega
  ·exact h.2.2.1 hbase
  ·rcases h with ⟨_,h⟩ | ⟨_,r,R,h3,h4⟩
   ·exact mO H h hbase
   ·exact ko H h3 h4 hbase
 ·intro q Q hq hbq
  rcases B.blk q Q b hq hbq with h | ⟨Q0,h1,h2,h3⟩ | ⟨m,i,R,u,h1,h2,h3,h4⟩
  ·exact absurd h hb2
  ·have hlt:=((H.roots q Q0 h1).mine b h2).1
   rcases hcl with h | ⟨_,j,n,i,g1,g2,g3⟩ | ⟨_,j,g,g1,g2,_⟩
   ·omega
   ·obtain ⟨n',hn'⟩:=g3.2.2.2.1 q Q0 h1 h2
    exact Zi j n g1 i g2 _ hn'
   ·exact absurd g2 (h3 j g g1)
  ·obtain ⟨n,hn⟩:=hb4 (aL m) R h3 h4
   exact hU2 m n hn i _ h1 h2
 ·intro h0
  have hlt:b<w.heap.size:=Nat.lt_of_lt_of_le h0 H.frame.2.2.2.1
  have jm:Ow.mine cx w b→(∃j n,(j4 j,n)∈U∧cx.ext j b)∨∃j pi,cx.par j=some pi∧b∈pi.bl:=fun hm=>by
   rcases hm.2 with h | ⟨j,pi,h1,h2⟩
   ·omega
   ·exact .inr ⟨j,pi,h1,h2⟩
  rcases hcl with h | ⟨_,j,n,i,g1,g2,g3⟩ | ⟨_,j,g,g1,g2,g3⟩
  ·omega
  ·rcases g3.2.2.2.2 h0 with ⟨j',n',f1,f2⟩ | h
   ·obtain ⟨n2,hn2⟩:=Zi j n g1 i g2 _ f1
    exact .inl ⟨j',n2,hn2,f2⟩
   ·exact .inr h
  ·rcases g3 with ⟨_,h⟩ | ⟨_,r,R,h3,h4⟩
   ·exact jm (H.fl b h)
   ·exact jm ((H.roots r R h3).mine b (abu _ h4))
end
end
section
open Go
variable [Fr]
def oM (σ:St):(ps:List fG)→List bW→Cont (kR ps)→List Wr→Prop
 | [],[],_,ws=>ws=[]
 | .rw k _ _ _ :: ps,i :: is,c,ws=>∃r p wt ht R z ws',i.wb=some (r,p,wt,ht)∧σ.roots r=some R∧dL p R.k R.x ⟨k,c.1⟩=some z∧ws=.r r (some { R with k:=z.1,x:=z.2,w:=(dS R p :: wt)++R.w,h:=ht++R.h }) :: ws'∧oM σ ps is c.2 ws'
 | .oV k _ _ :: ps,i :: is,c,ws=>∃r p wt ht R z ws',i.wb=some (r,p,wt,ht)∧σ.roots r=some R∧dL p R.k R.x ⟨k,c.1⟩=some z∧ws=.r r (some { R with k:=z.1,x:=z.2,w:=(SENT :: (k.tys++wt))++R.w,h:=ht++R.h }) :: ws'∧oM σ ps is c.2 ws'
 | .val _ _ :: ps,_ :: is,c,ws=>oM σ ps is c ws
 | .ro _ :: ps,_ :: is,c,ws=>oM σ ps is c ws
 | .own _ _ :: ps,_ :: is,c,ws=>oM σ ps is c ws
 | .fn _ _ :: ps,_ :: is,c,ws=>oM σ ps is c ws
 | .into _ _ :: ps,_ :: is,c,ws=>oM σ ps is c ws
 | _,_,_,_=>False
theorem IV {A:Type} {z:A} {σ:St}:∀{ps:List fG} {is:List bW} {c:Cont (kR ps)} {k:List Wr→Prog A},(y7 ps is c k).ends σ z→∃ws,oM σ ps is c ws∧(k ws).ends σ z:=by
 intro ps
 induction ps with
 | nil=>
  intro is c k h
  cases is with
  | nil=>exact ⟨[],rfl,h⟩
  | cons _ _=>exact h.elim
 | cons p ps ih=>
  intro is c k h
  cases is with
  | nil=>cases p <;> exact h.elim
  | cons i is=>
   cases p with
   | rw kk ow MP ht0=>
    obtain ⟨ids,wb,ws0,bt⟩:=i
    cases wb with
    | none=>exact h.elim
    | some q=>
     obtain ⟨r,p,wt,ht⟩:=q
     simp only [y7,Prog.ends] at h
     cases hr:σ.roots r with
     | none=>rw [hr] at h; exact h.elim
     | some R=>
      rw [hr] at h
      simp only at h
      cases hz:dL p R.k R.x ⟨kk,c.1⟩ with
      | none=>rw [hz] at h; exact h.elim
      | some z=>
       rw [hz] at h
       obtain ⟨ws,g1,g2⟩:=ih h
       exact ⟨_,⟨r,p,wt,ht,R,z,ws,rfl,hr,hz,rfl,g1⟩,g2⟩
   | oV kk ow MP=>
    obtain ⟨ids,wb,ws0,bt⟩:=i
    cases wb with
    | none=>exact h.elim
    | some q=>
     obtain ⟨r,p,wt,ht⟩:=q
     simp only [y7,Prog.ends] at h
     cases hr:σ.roots r with
     | none=>rw [hr] at h; exact h.elim
     | some R=>
      rw [hr] at h
      simp only at h
      cases hz:dL p R.k R.x ⟨kk,c.1⟩ with
      | none=>rw [hz] at h; exact h.elim
      | some z=>
       rw [hz] at h
       obtain ⟨ws,g1,g2⟩:=ih h
       exact ⟨_,⟨r,p,wt,ht,R,z,ws,rfl,hr,hz,rfl,g1⟩,g2⟩
   | val _ _=>exact ih h
   | ro _=>exact ih h
   | own _ _=>exact ih h
   | fn _ _=>exact ih h
   | into _ _=>exact ih h
theorem Bt {σ:St}:∀{ps:List fG} {is:List bW} {c:Cont (kR ps)} {ws:List Wr},(∀i∈is,i.wb=none)→oM σ ps is c ws→ws=[]:=by
 intro ps
 induction ps with
 | nil=>
  intro is c ws _ h
  cases is with
  | nil=>exact h
  | cons _ _=>exact h.elim
 | cons p ps ih=>
  intro is c ws hn h
  cases is with
  | nil=>cases p <;> exact h.elim
  | cons i is=>
   have hn':∀i∈is,i.wb=none:=fun i hi=>hn i (by simp [hi])
   have h0:=hn i (by simp)
   cases p with
   | rw kk ow MP ht0=>obtain ⟨r,p,wt,ht,R,z,ws',h1,_⟩:=h; rw [h0] at h1; simp at h1
   | oV kk ow MP=>obtain ⟨r,p,wt,ht,R,z,ws',h1,_⟩:=h; rw [h0] at h1; simp at h1
   | val _ _=>exact ih hn' h
   | ro _=>exact ih hn' h
   | own _ _=>exact ih hn' h
   | fn _ _=>exact ih hn' h
   | into _ _=>exact ih hn' h
theorem pF {i:bW} {is:List bW} (h:wI (i :: is)=true):(i.wb=none∧wI is=true)∨(i.wb≠none∧∀i'∈is,i'.wb=none):=by
 unfold wI at h
 cases hw:i.wb with
 | none=>rw [hw] at h; exact .inl ⟨rfl,h⟩
 | some q=>
  rw [hw] at h
  refine .inr ⟨by simp,fun i' hi=>?_⟩
  have:=abH.1 h i' hi
  cases hw':i'.wb with
  | none=>rfl
  | some _=>rw [hw'] at this; simp at this
theorem FD {σ vJ:St}:∀{ps:List fG} {is:List bW} {c:Cont (kR ps)} {ws:List Wr} {j0:Nat},wI is=true→(∀(m:Nat) (p:fG) (i:bW),ps[m]?=some p→is[m]?=some i→(∀k ow wt ht,p≠.rw k ow wt ht)→(∀k ow wt,p≠.oV k ow wt)→i.wb=none)→
  oM σ ps is c ws→wT vJ ps j0 c→(ws=[]∧∀i∈is,i.wb=none)∨
  ∃(j:Nat) (i:bW) (k:K) (x:El k) (ow wt ht:List TypeId) (r:Nat) (p:List Stp) (R:Root) (z:Dat) (Dj ht':List TypeId),is[j]?=some i∧i.wb=some (r,p,Dj,ht')∧σ.roots r=some R∧dL p R.k R.x ⟨k,x⟩=some z∧G9 vJ k x ow wt ht (j0+j)∧(∀(m:Nat) (i':bW),m≠j→is[m]?=some i'→i'.wb=none)∧
   ((ps[j]?=some (.rw k ow wt ht)∧ws=[.r r (some { R with k:=z.1,x:=z.2,w:=(dS R p :: Dj)++R.w,h:=ht'++R.h })])∨(ps[j]?=some (.oV k ow wt)∧ht=k.tys∧ws=[.r r (some { R with k:=z.1,x:=z.2,w:=(SENT :: (k.tys++Dj))++R.w,h:=ht'++R.h })])):=by
 intro ps
 induction ps with
 | nil=>
  intro is c ws j0 _ _ hB _
  cases is with
  | nil=>exact .inl ⟨hB,by simp⟩
  | cons _ _=>exact hB.elim
 | cons p ps ih=>
  intro is c ws j0 h1 hal hB hO
  cases is with
  | nil=>cases p <;> exact hB.elim
  | cons i is=>
   have XT:∀(m:Nat) (p:fG) (i:bW),ps[m]?=some p→is[m]?=some i→(∀k ow wt ht,p≠.rw k ow wt ht)→(∀k ow wt,p≠.oV k ow wt)→i.wb=none:=fun m p i hp hi=>hal (m+1) p i (by simpa using hp) (by simpa using hi)
   have hrest:∀{c':Cont (kR ps)} {ws':List Wr},i.wb=none→oM σ ps is c' ws'→wT vJ ps (j0+1) c'→(ws'=[]∧∀i'∈i :: is,i'.wb=none)∨
     ∃(j:Nat) (i':bW) (k:K) (x:El k) (ow wt ht:List TypeId) (r:Nat) (q:List Stp) (R:Root) (z:Dat) (Dj ht':List TypeId),(i :: is)[j]?=some i'∧i'.wb=some (r,q,Dj,ht')∧σ.roots r=some R∧dL q R.k R.x ⟨k,x⟩=some z∧G9 vJ k x ow wt ht (j0+j)∧(∀(m:Nat) (QL:bW),m≠j→(i :: is)[m]?=some QL→QL.wb=none)∧
      (((p :: ps)[j]?=some (.rw k ow wt ht)∧ws'=[.r r (some { R with k:=z.1,x:=z.2,w:=(dS R q :: Dj)++R.w,h:=ht'++R.h })])∨((p :: ps)[j]?=some (.oV k ow wt)∧ht=k.tys∧ws'=[.r r (some { R with k:=z.1,x:=z.2,w:=(SENT :: (k.tys++Dj))++R.w,h:=ht'++R.h })])):=by
    intro c' ws' hw hB hO
    have ho:wI is=true:=by
     rcases pF h1 with ⟨_,h⟩ | ⟨h,_⟩
     ·exact h
     ·exact absurd hw h
    rcases ih ho XT hB hO with ⟨e,h⟩ | ⟨j,i',k,x,ow,wt,ht,r,q,R,z,Dj,ht',e1,e2,e3,e4,e5,e6,e7⟩
    ·refine .inl ⟨e,fun i' hi=>?_⟩
     rcases abE.1 hi with h' | h'
     ·subst h'; exact hw
     ·exact h i' h'
    ·refine .inr ⟨j+1,i',k,x,ow,wt,ht,r,q,R,z,Dj,ht',by simpa using e1,e2,e3,e4,by rw [show j0+(j+1)=j0+1+j by omega]; exact e5,fun m QL hm hi=>?_,by simpa using e7⟩
     cases m with
     | zero=>simp only [List.getElem?_cons_zero,abr] at hi; subst hi; exact hw
     | succ m=>exact e6 m QL (by omega) (by simpa using hi)
   have hnw:∀{Dj:Option (Nat×List Stp×List TypeId×List TypeId)},i.wb=Dj→Dj≠none→∀i'∈is,i'.wb=none:=by
    intro Dj he hne
    rcases pF h1 with ⟨h,_⟩ | ⟨_,h⟩
    ·rw [he] at h; exact absurd h hne
    ·exact h
   cases p with
   | rw kk ow MP ht0=>
    obtain ⟨r,q,wt,ht,R,z,ws',g1,g2,g3,g4,g5⟩:=hB
    have hn:=hnw g1 (by simp)
    have:=Bt hn g5
    subst this
    refine .inr ⟨0,i,kk,c.1,ow,MP,ht0,r,q,R,z,wt,ht,rfl,g1,g2,g3,hO.1,fun m i' hm hi=>?_, .inl ⟨rfl,g4⟩⟩
    cases m with
    | zero=>exact absurd rfl hm
    | succ m=>exact hn i' (List.mem_of_getElem? (by simpa using hi))
   | oV kk ow MP=>
    obtain ⟨r,q,wt,ht,R,z,ws',g1,g2,g3,g4,g5⟩:=hB
    have hn:=hnw g1 (by simp)
    have:=Bt hn g5
    subst this
    refine .inr ⟨0,i,kk,c.1,ow,MP,kk.tys,r,q,R,z,wt,ht,rfl,g1,g2,g3,hO.1,fun m i' hm hi=>?_, .inr ⟨rfl,rfl,g4⟩⟩
    cases m with
    | zero=>exact absurd rfl hm
    | succ m=>exact hn i' (List.mem_of_getElem? (by simpa using hi))
   | val k fU=>exact hrest (hal 0 _ i rfl rfl (by simp) (by simp)) hB hO
   | ro k=>exact hrest (hal 0 _ i rfl rfl (by simp) (by simp)) hB hO
   | own k ow=>exact hrest (hal 0 _ i rfl rfl (by simp) (by simp)) hB hO
   | fn f ks=>exact hrest (hal 0 _ i rfl rfl (by simp) (by simp)) hB hO
   | into j q=>exact hrest (hal 0 _ i rfl rfl (by simp) (by simp)) hB hO
end
section
open Go
variable [Fr]
section
variable {P:Program} {T:gL} {cx:Cx} {σ:St} {α:dA} {F:List Nat} {a:Act} {w w':World} {ps:List fG} {c:Cont (kin ps)} {vs:List Value} {is:List bW} {gs:List GA}
theorem um {l m:List Nat}:qY l m=true↔∀t∈l,t∈m:=by
 unfold qY
 rw [abH]
 simp [bu]
theorem Io (h:Heap):∀(q:List Stp) {k:K} {cs:List Value} {wh:Option (Nat×Nat)} {c0:List Value} {w0:Option (Nat×Nat)},aa q k≠[]→bn h q k cs wh=some (c0,w0)→(∀jS,bn h q k cs jS=some (c0,w0))∧∃b o,w0=some (b,o):=by
 intro q
 induction q with
 | nil=>intro k cs wh c0 w0 h1; simp [aa] at h1
 | cons s q ih=>
  intro k cs wh c0 w0 h1 h2
  cases s with
  | fu n=>
   cases k with
   | st c=>
    simp only [bn] at h2 ⊢
    cases ho:aV n c with
    | none=>rw [ho] at h2; simp at h2
    | some p=>
     obtain ⟨off,k'⟩:=p
     rw [ho] at h2
     simp only at h2 ⊢
     have hk:aa.yl n c=some k':=by
      have:∀(n:Nat) {c:K} {off:Nat} {k':K},aV n c=some (off,k')→aa.yl n c=some k':=by
       intro n
       induction n with
       | zero=>intro c off k' h; cases c <;> simp_all [aV,aa.yl]
       | succ n ih=>
        intro c off k' h
        cases c with
        | pair a b=>
         simp only [aV] at h
         cases h5:aV n b with
         | none=>rw [h5] at h; simp at h
         | some q=>
          rw [h5] at h
          simp only [abr,abD] at h
          simp only [aa.yl]
          exact ih (by rw [h5, ←h.2])
        | _=>simp [aV] at h
      exact this n ho
     have hpt:aa (.fu n :: q) (.st c)=aa q k':=by simp [aa,hk]
     rw [hpt] at h1
     obtain ⟨g1,g2⟩:=ih h1 h2
     exact ⟨fun jS=>g1 _,g2⟩
   | _=>simp [bn] at h2
  | idx i=>
   cases k with
   | sl e k=>
    simp only [bn] at h2 ⊢
    split at h2
    ·rename_i ad _ _
     refine ⟨fun jS=>h2, ?_⟩
     have key:∀(q:List Stp) {k:K} {cs:List Value} {p:Nat×Nat} {c0:List Value} {w0:Option (Nat×Nat)},bn h q k cs (some p)=some (c0,w0)→∃b o,w0=some (b,o):=by
      intro q
      induction q with
      | nil=>intro k cs p c0 w0 h; simp only [bn,abr,abD] at h; exact ⟨p.1,p.2,h.2.symm⟩
      | cons s q ih=>
       intro k cs p c0 w0 h
       cases s with
       | fu n=>
        cases k with
        | st c=>
         simp only [bn] at h
         cases ho:aV n c with
         | none=>rw [ho] at h; simp at h
         | some q2=>rw [ho] at h; exact ih h
        | _=>simp [bn] at h
       | idx i=>
        cases k with
        | sl e k=>
         simp only [bn] at h
         split at h
         ·exact ih h
         ·simp at h
        | _=>simp [bn] at h
     exact key q h2
    ·simp at h2
   | _=>simp [bn] at h2
theorem vR (H:Rel cx σ α F a w) {vJ:St} {uH:dA} {Ff G:List Nat} {r j:Nat} {R Rf R':Root} {i:bW} {u:List Stp×List TypeId×List TypeId} {g:GA} {rest:List Nat} {vI:dA} {lw lh:List Nat} (hr:aM σ r R) (hi:is[j]?=some i) (hw:i.wb=some (r,u)) (hlf:aM vJ (aL j) Rf)
  (hg:gs[j]?=some g) (hpr:(α.fo r).Perm (g.fo++rest)) (hoth:∀(m:Nat) (gm:GA),m≠j→gs[m]?=some gm→∀b∈gm.fo,b∈F)
  (T:jN cx σ α F w (ak σ r R') vI G w' (ni r lw) (ni r lh)) (hblk:∀b∈Ow.blk vI R' r,(∃o,dY α R r=some (b,o))∨b∈uH.fo (aL j)∨b∈rest) (hG:∀b∈G,b∈Ff):uT σ α is gs vJ uH Ff (ak σ r R') vI G:=by
 have hK:=H.roots r R hr
 have Jo:=hK.nd
 rw [bO,jO] at Jo
 have Ej:=abz.1 (hpr.nodup Jo.2)
 have Qy:∀{q:Nat} {Q:Root} {b:Nat},aM σ q Q→b∈Ow.blk α Q q→b∉g.fo→∀(m:Nat) (gm:GA),gs[m]?=some gm→b∉gm.fo:=by
  intro q Q b hq hb hno m gm hm K4
  by_cases e:m=j
  ·subst e
   rw [hg] at hm
   simp only [abr] at hm
   subst hm
   exact hno K4
  ·exact H.gQ q Q hq b hb (hoth m gm e hm b K4)
 refine ⟨fun q Q b hq hb=>?_,hG⟩
 by_cases e:q=r
 ·subst e
  obtain ⟨rfl,_⟩:=dU hq
  rcases hblk b hb with ⟨o,h⟩ | h | h
  ·have hbb:b∈Ow.blk α R q:=by rw [bO,dX]; exact .inl ⟨o,h⟩
   exact .inr (.inl ⟨R,hr,hbb,Qy hr hbb (fun h'=>Jo.1 b o h (hpr.mem_iff.2 (abx _ h')))⟩)
  ·exact .inr (.inr ⟨j,i,Rf,u,hi,hw,hlf,abu _ h⟩)
  ·have hbb:b∈Ow.blk α R q:=abu _ (hpr.mem_iff.2 (abu _ h))
   exact .inr (.inl ⟨R,hr,hbb,Qy hr hbb (fun h'=>Ej.2.2 b h' b h rfl)⟩)
 ·have hq':=(zW e).1 hq
  obtain ⟨Q2,g1,g2⟩:=T.old q Q hq'.1
  have hS:Same σ α (ak σ r R') vI q:=by
   refine abO fun hns=>?_
   rw [bS σ R' e,hq'.1] at g1
   simp only [abr] at g1
   subst g1
   rcases g2 with ⟨h1,_⟩ | ⟨_,h2⟩
   ·rw [hq'.2] at h1; simp at h1
   ·rcases h2.2.2.2.2.2.2 with h3 | ⟨_,_,h3⟩
    ·rw [lu _ e,lu _ e] at h3; simp at h3
    ·exact hns h3
  rw [hS.blk] at hb
  refine .inr (.inl ⟨Q,hq',hb,Qy hq' hb (fun h'=>?_)⟩)
  exact H.yI r R q Q hr hq' (Ne.symm e) b (abu _ (hpr.mem_iff.2 (abx _ h'))) hb
theorem Od:∀(p:List Stp) {k:K} {x:El k} {t z:Dat},jM p k x→dL p k x t=some z→aI p z.1 z.2=some t∧jM p z.1 z.2∧aa p z.1=aa p k:=by
 intro p
 induction p with
 | nil=>
  intro k x t z _ hz
  simp only [dL,abr] at hz
  subst hz
  exact ⟨rfl,trivial,rfl⟩
 | cons s p ih=>
  intro k x t z hp hz
  cases s with
  | fu n=>
   cases k with
   | st c=>
    simp only [dL] at hz
    simp only [jM] at hp
    cases hg:aC n c x with
    | none=>rw [hg] at hz; simp at hz
    | some s=>
     rw [hg] at hz hp
     simp only at hz hp
     cases hs:dL p s.1 s.2 t with
     | none=>rw [hs] at hz; simp at hz
     | some u=>
      rw [hs] at hz
      simp only at hz
      cases hcp:bT n c x u with
      | none=>rw [hcp] at hz; simp at hz
      | some y=>
       rw [hcp] at hz
       simp only [abr] at hz
       subst hz
       obtain ⟨h1,h2,h3⟩:=ih hp hs
       have hg2:=qQ n hcp
       refine ⟨?_, ?_, ?_⟩
       ·show aI (.fu n :: p) (.st y.1) y.2=some t
        simp only [aI,hg2]
        exact h1
       ·show jM (.fu n :: p) (.st y.1) y.2
        simp only [jM,hg2]
        exact h2
       ·show aa (.fu n :: p) (.st y.1)=_
        simp only [aa,bP n hg2,bP n hg]
        exact h3
   | _=>exact hp.elim
  | idx i=>
   cases k with
   | sl e k=>
    simp only [dL] at hz
    obtain ⟨hp0,hp1,hp2⟩:=hp
    cases hs:dL p k ((show List (El k) from x).getD i.toNat k.zero) t with
    | none=>rw [hs] at hz; simp at hz
    | some u=>
     rw [hs] at hz
     simp only at hz
     cases hc:bL u.1 k u.2 with
     | none=>rw [hc] at hz; simp at hz
     | some y=>
      rw [hc] at hz
      simp only [abr] at hz
      subst hz
      obtain ⟨ek,ey⟩:=bF hc
      obtain ⟨uk,ux⟩:=u
      simp only at ek
      subst ek
      simp only at ey
      subst ey
      obtain ⟨h1,h2,h3⟩:=ih hp2 hs
      have hlt:i.toNat < @List.length (El uk) x:=by
       have:i<((@List.length (El uk) x:Nat):Int):=hp1
       omega
      have hgd:(show List (El uk) from (show List (El uk) from x).set i.toNat y).getD i.toNat uk.zero=y:=by
       have hl2:i.toNat<(@List.set (El uk) x i.toNat y).length:=by rw [List.length_set]; exact hlt
       exact (bR hl2).trans (List.getElem_set_self hl2)
      refine ⟨?_,⟨hp0, ?_, ?_⟩, ?_⟩
      ·simp only [aI]
       rw [hgd]
       exact h1
      ·have:i<((@List.length (El uk) x:Nat):Int):=hp1
       simpa using this
      ·rw [hgd]
       exact h2
      ·rfl
   | _=>exact hp.elim
theorem FE (H:Rel cx σ α F a w) (hJ:ME cx σ α F a w ps c vs is gs) (ho:wI is=true) {vJ:St} {uH:dA} {Ff:List Nat} {af:Act} (Hf:Rel (dn cx σ α F w ps c is gs) vJ uH Ff af w')
  {c':Cont (kR ps)} {ws:List Wr} (hB:oM σ ps is c' ws) (hO:wT vJ ps 0 c') {G:List Nat} (hG:∀b∈G,b∈Ff) (hGn:G.Nodup) :
  ∃vI,Rel cx (aj ws σ) vI G a w'∧uT σ α is gs vJ uH Ff (aj ws σ) vI G∧(aj ws σ).slots=σ.slots∧(∀q,σ.roots q=none→(aj ws σ).roots q=none)∧(∀t,wM σ t→wM (aj ws σ) t)∧(ws=[]∨∃r R,ws=[.r r (some R)])∧
   ∀(j:Nat) (i:bW) (r:Nat) (q:List Stp) (wt ht:List TypeId),mI∉ht→is[j]?=some i→i.wb=some (r,q,wt,ht)→∃Rf R' R,vJ.roots (aL j)=some Rf∧bg vJ Rf∧Rf.g=0∧ws=[.r r (some R')]∧σ.roots r=some R∧jM q R'.k R'.x∧(∀t∈aa q R'.k,aA t R'.own=true)∧
    (bg (aj ws σ) R'→∃wh,bn (hp w') q R'.k (vI.hdr r) (dY vI R' r)=some (uH.hdr (aL j),wh)):=by
 obtain ⟨lv,li,lg,hat⟩:=hJ.at (i0:=0)
 simp only [Nat.zero_add] at hat
 obtain ⟨f1,f2,f3,f4,f5,f6⟩:=Hf.frame
 have hgj:∀{j:Nat} {g:GA},gs[j]?=some g→∃p cj v i,ps[j]?=some p∧vs[j]?=some v∧is[j]?=some i∧J3 cx σ α F a w p cj v i g:=by
  intro j g hg
  have hj:j<ps.length:=by have:=(List.getElem?_eq_some_iff.1 hg).1; omega
  obtain ⟨cj,v,i,g',e1,e2,e3,e4,_⟩:=hat j ps[j] (abG hj)
  rw [hg] at e3
  simp only [abr] at e3
  subst e3
  exact ⟨ps[j],cj,v,i,abG hj,e1,e2,e4⟩
 have zN:∀b,b<w.heap.size→hp w' b≠hp w b→∃(j:Nat) (g:GA),gs[j]?=some g∧b∈fK g∧(g.ow=true∨g.wb=true):=by
  intro b hb hne
  refine abO fun hno=>hne (f5 b hb fun j pi hj hbl=>?_)
  obtain ⟨g,p,cj,v,i,e1,e2,e3,e4,e5,rfl⟩:=mW H hJ hj
  exact hno ⟨j,g,e1,hbl,e5⟩
 have jm:∀b∈Ff,b<w'.heap.size∧(w.heap.size≤b∨∃(j:Nat) (g:GA),gs[j]?=some g∧b∈fK g∧(g.ow=true∨g.wb=true)):=by
  intro b hb
  obtain ⟨h1,h2⟩:=Hf.fl b hb
  refine ⟨h1,h2.imp id ?_⟩
  rintro ⟨j,pi,h3,h4⟩
  obtain ⟨g,p,cj,v,i,e1,e2,e3,e4,e5,rfl⟩:=mW H hJ h3
  exact ⟨j,g,e1,h4,e5⟩
 have hal:∀(m:Nat) (p:fG) (i:bW),ps[m]?=some p→is[m]?=some i→(∀k ow wt ht,p≠.rw k ow wt ht)→(∀k ow wt,p≠.oV k ow wt)→i.wb=none:=by
  intro m p i hp hi h1 h2
  obtain ⟨cj,v,i',g,e1,e2,e3,e4,_⟩:=hat m p hp
  rw [hi] at e2
  simp only [abr] at e2
  subst e2
  obtain ⟨_,e4⟩:=e4
  cases p with
  | val k fU=>exact e4.2.2.1
  | ro k=>exact e4.2.2.1
  | own k ow=>exact e4.2.2.1
  | fn f ks=>exact e4.2.2.1
  | rw k ow wt ht=>exact absurd rfl (h1 k ow wt ht)
  | oV k ow wt=>exact absurd rfl (h2 k ow wt)
  | into j q=>exact e4.2.2.1
 have Jt:∀{m:Nat} {g:GA} {i:bW},gs[m]?=some g→is[m]?=some i→i.wb=none→g.wb=false:=by
  intro m g i hg hi hn
  obtain ⟨p,cj,v,i',e1,e2,e3,e4⟩:=hgj hg
  rw [hi] at e3
  simp only [abr] at e3
  subst e3
  cases hw:g.wb with
  | false=>rfl
  | true=>exact absurd hn ((jY H e4).2.2.2.1 hw)
 have zT:∀{m:Nat} {g:GA} {b:Nat},gs[m]?=some g→g.wb=false→b∈fK g→b∈F:=by
  intro m g b hg hw hb
  obtain ⟨p,cj,v,i,e1,e2,e3,e4⟩:=hgj hg
  rcases (jY H e4).1 b hb with ⟨_,h⟩ | ⟨h,_⟩
  ·exact h
  ·rw [hw] at h; simp at h
 rcases FD (j0:=0) ho hal hB hO with ⟨rfl,hnone⟩ | ⟨j,i,k,x,ow,wt,ht,r,p,R,z,Dj,ht',e1,e2,e3,e4,e5,e6,e7⟩
 ·
  have hnw:∀{m:Nat} {g:GA},gs[m]?=some g→g.wb=false:=by
   intro m g hg
   obtain ⟨p,cj,v,i,g1,g2,g3,g4⟩:=hgj hg
   exact Jt hg g3 (hnone i (List.mem_of_getElem? g3))
  have T:=wG (w':=w') (F':=G) H ⟨f1,f2,f3⟩ f4 (fun b hb hne=>by obtain ⟨j,g,h1,h2,_⟩:=zN b hb hne; exact zT h1 (hnw h1) h2)
   (fun b hb=>by
    obtain ⟨h1,h2⟩:=jm b (hG b hb)
    rcases h2 with h2 | ⟨j,g,h3,h4,_⟩
    ·exact .inr ⟨h2,h1⟩
    ·exact .inl (zT h3 (hnw h3) h4)) hGn
  refine ⟨α,H.mem T,⟨fun q Q b hq hb=>.inr (.inl ⟨Q,hq,hb,fun m g hg hbg=>?_⟩),hG⟩,rfl,fun q h=>h,fun t h=>h, .inl rfl,fun j i r q wt ht _ hi hw=>by rw [hnone i (List.mem_of_getElem? hi)] at hw; simp at hw⟩
  exact H.gQ q Q hq b hb (zT hg (hnw hg) (abu _ hbg))
 ·
  have hj:j<ps.length:=by rcases e7 with ⟨h,_⟩ | ⟨h,_⟩ <;> exact (List.getElem?_eq_some_iff.1 h).1
  obtain ⟨g,hg⟩:∃g,gs[j]?=some g:=⟨gs[j]'(by omega),abG _⟩
  obtain ⟨p0,cj,v,i',g1,g2,g3,g4⟩:=hgj hg
  rw [e1] at g3
  simp only [abr] at g3
  subst g3
  obtain ⟨cj2,v2,i2,Z7,a1,a2,a3,a4,a5,a6⟩:=hat j p0 g1
  obtain ⟨x0,wh,rest,hP,uI,hOw,hfo,hgn,hpr,sH,hwf,hgo,hbase,hps,hwt,hht,hR0⟩:∃(x0:El k) (wh:Option (Nat×Nat)) (rest:List Nat),OI cx σ α w k x0 ow i Dj ht' r R p∧bn (hp w) p R.k (α.hdr r) (dY α R r)=some (g.cs,wh)∧Ow (hp w) R.own (gy cx σ α F w R.tags) k x0 g.cs g.fo∧(∀b∈g.fo,b∈α.fo r)∧g.fo.Nodup∧
    (α.fo r).Perm (g.fo++rest)∧(∀b o,wh=some (b,o)→b∈rest∨∃o0,dY α R r=some (b,o0)∧o0≤o∧o+k.size≤o0+R.k.size)∧(∀b o,wh=some (b,o)→b∉g.fo)∧
    (∀{t z:Dat} {tags':List Tag} {lw lh:List TypeId} {kp:Bool} {ft F':List Nat} {cs':List Value} {w':World},mR cx σ α F w r R p ⟨k,x0⟩ R.own g.cs wh g.fo rest t z tags' lw lh kp ft F' cs' w'→
     ∃α',Rel cx (ak σ r (bq R z R.own tags' lw lh kp)) α' F' a w'∧jN cx σ α F w (ak σ r (bq R z R.own tags' lw lh kp)) α' F' w' (ni r lw) (ni r lh)∧(∀b∈Ow.blk α' (bq R z R.own tags' lw lh kp) r,(∃o,dY α R r=some (b,o))∨b∈ft∨b∈rest)∧
      (mI∉lh→bg (ak σ r (bq R z R.own tags' lw lh kp)) (bq R z R.own tags' lw lh kp)→bn (hp w') p z.1 (α'.hdr r) (dY α' (bq R z R.own tags' lw lh kp) r)=some (cs',wh))∧∀b∈ft,b∈α'.fo r)∧
    ((∃b o,wh=some (b,o)∧g.base=some (b,o))∨(g.base=none∧VC k g.v g.cs))∧(pM p0=k.size∨g.base=none)∧(Dj=wt)∧(ht'=ht)∧
    (∃R0,iF (iL ps 0 c) (aL j)=some R0∧R0.k=k∧HEq R0.x x0∧R0.own=ow):=by
   have h4:J3 cx σ α F a w p0 cj2 v2 i2 Z7:=a4
   rw [hg] at a3
   simp only [abr] at a3
   subst a3
   rw [e1] at a2
   simp only [abr] at a2
   subst a2
   rcases e7 with ⟨h,_⟩ | ⟨h,Yi,_⟩
   ·rw [g1] at h
    simp only [abr] at h
    subst h
    obtain ⟨hv0,h1,h2,r1,R1,q1,b,o,h3,h4',h5,h6,h7,h8,h9,h10,h11,rest,h12,TQ,TR,TS⟩:=h4
    have hwb:=h3.wb
    rw [e2] at hwb
    simp only [abr,abD] at hwb
    obtain ⟨rfl,rfl,rfl,rfl⟩:=hwb
    have hRR:R1=R:=by have:=h3.lv.1; rw [e3] at this; simpa using this.symm
    subst hRR
    refine ⟨cj2.1,some (b,o),rest,h3,h5,h8,h9,h10,h12,TQ,TR,TS, .inl ⟨b,o,rfl,h7⟩, .inl rfl,rfl,rfl, ?_⟩
    rw [a6]
    exact ⟨_,rfl,rfl,HEq.rfl,rfl⟩
   ·rw [g1] at h
    simp only [abr] at h
    subst h
    obtain ⟨hv0,h1,h2,r1,R1,q1,wh,h3,h4',h5,h6,h7,h8,h9,h10,rest,h12,TQ,TR,TS⟩:=h4
    have hwb:=h3.wb
    rw [e2] at hwb
    simp only [abr,abD] at hwb
    obtain ⟨rfl,rfl,rfl,rfl⟩:=hwb
    have hRR:R1=R:=by have:=h3.lv.1; rw [e3] at this; simpa using this.symm
    subst hRR
    refine ⟨cj2.1,wh,rest,h3,h5,h8,h9,h10,h12,TQ,TR,TS, .inr ⟨h7,hv0▸h6⟩, .inr h7,rfl,Yi.symm, ?_⟩
    rw [a6]
    exact ⟨_,rfl,rfl,HEq.rfl,rfl⟩
  subst hwt
  subst hht
  rw [Nat.zero_add] at e5
  obtain ⟨lw,Yo,Yp,Yq,hws⟩:∃lw:List TypeId,(∀e∈Dj,e∈lw)∧lw≠[]∧(g.base≠none→dS R p∈lw)∧ws=[.r r (some (bq R z R.own R.tags lw ht' R.keep))]:=by
   rcases e7 with ⟨h,hw⟩ | ⟨h,hh,hw⟩
   ·exact ⟨dS R p :: Dj,fun e he=>by simp [he],by simp,fun _=>by simp,hw⟩
   ·refine ⟨SENT :: (k.tys++Dj),fun e he=>by simp [he],by simp,fun hb=>?_,by rw [hw,hh]; rfl⟩
    rw [g1] at h
    simp only [abr] at h
    subst h
    exact absurd (g4.2.2.2 |> fun ⟨_,_,_,_,_,_,_,_,hb,_⟩=>hb) hb
  subst hws
  obtain ⟨Rf,Rp,UO,⟨ek,ex⟩,La,xu,wB⟩:=e5
  have hlf:aM vJ (aL j) Rf:=⟨Rp,UO.1⟩
  subst ek
  simp only at ex
  subst ex
  have Kf:=Hf.roots (aL j) Rf hlf
  have hgw:g.wb=true:=(jY H g4).2.2.2.2 (by rw [e2]; simp)
  have H9:(dn cx σ α F w ps c is gs).par j=some ⟨g.base.map fun q=>(q.1,q.2,pM p0),fK g,g.wb⟩:=by
   simp only [dn]
   rw [hg,g1]
   simp [hgw]
  unfold BL at xu
  simp only [aby,um] at xu
  obtain ⟨⟨⟨⟨l1,l2⟩,l3⟩,l4⟩,l5⟩:=xu
  have hg0:Rf.g=0:=abw l5
  have hkind:dY uH Rf (aL j)=g.base∧(g.base=none→uH.hdr (aL j)=g.cs):=by
   rcases hbase with ⟨b,o,_,hb⟩ | ⟨hb,hV⟩
   ·obtain ⟨Q,hQ,hk,hl,_⟩:=Hf.kP j _ b o (pM p0) H9 (by simp [hb])
    have hQR:Q=Rf:=by have:=hQ.1; rw [Rp] at this; simpa using this.symm
    subst hQR
    refine ⟨?_,fun h=>by rw [hb] at h; simp at h⟩
    unfold dY
    rw [hk,hl,hb]
   ·have hrf:=(Hf.tL j g.v ⟨g,hg,rfl,hb,hgw⟩).2 Rf hlf hg0
    refine ⟨by unfold dY; rw [hrf.1,hb],fun _=>?_⟩
    have h1:=hrf.2.cells
    have h2:=hV.cells
    rw [←h1,h2]
  obtain ⟨UR,Uf⟩:=hkind
  have OX:Ow.blk uH Rf (aL j)=(match g.base with | some q=>[q.1] | none=>[])++uH.fo (aL j):=by
   unfold Ow.blk
   rw [UR]
   cases g.base <;> rfl
  have Lf:(uH.fo (aL j)).Nodup:=(abz.1 (OX▸Kf.nd)).2.1
  have Us:(uH.hdr (aL j)).length=Rf.k.size:=Kf.len
  have hK:=H.roots r R hP.lv
  have Jo:=hK.nd
  rw [bO,jO] at Jo
  have aax:∀b,b∈α.fo r↔b∈g.fo∨b∈rest:=fun b=>by rw [hpr.mem_iff,abB]
  have Ej:=abz.1 (hpr.nodup Jo.2)
  have hcells:∀b o,wh=some (b,o)→Cells (hp w') b o (uH.hdr (aL j))∧fJ (hp w) (hp w') b o Rf.k.size:=by
   intro b o hw
   obtain ⟨m1,_,m2,⟨arr,e,lo,hi,m3,m4,m5,m6⟩,_⟩:=kV H hP.lv hP.vl hP.get hP.pin hP.own (by rw [uI,hw])
   rcases hbase with ⟨b',o',hw',hb⟩ | ⟨hb,_⟩
   ·rw [hw] at hw'
    simp only [abr,abD] at hw'
    obtain ⟨rfl,rfl⟩:=hw'
    have hm:=Kf.mem b o (by rw [UR,hb])
    have hsz:pM p0=Rf.k.size:=by
     rcases hps with h | h
     ·exact h
     ·rw [hb] at h; simp at h
    have:=f6 j _ b o (pM p0) H9 (by simp [hb])
    rw [hsz] at this
    exact ⟨hm.1,this⟩
   ·have hlt:=(hK.mine b m2).1
    have hsame:hp w' b=hp w b:=by
     refine abO fun hne=>?_
     obtain ⟨m,gm,h1,h2,h3⟩:=zN b hlt hne
     by_cases e:m=j
     ·subst e
      rw [hg] at h1
      simp only [abr] at h1
      subst h1
      unfold fK at h2
      rw [hb] at h2
      exact hwf b o hw (by simpa using h2)
     ·have hgm:gm.wb=false:=by
       obtain ⟨pm,cm,vm,im,k1,k2,k3,k4⟩:=hgj h1
       exact Jt h1 k3 (e6 m im e k3)
      exact H.gQ r R hP.lv b m2 (zT h1 hgm h2)
    rw [Uf hb]
    exact ⟨m1.congr hsame,fJ.of_same _ _ m3 hsame⟩
  have hwho:∀b,(w.heap.size≤b∨∃(j:Nat) (g:GA),gs[j]?=some g∧b∈fK g∧(g.ow=true∨g.wb=true))→(∀o,g.base≠some (b,o))→b<w'.heap.size→b∈g.fo∨b∈F∨(w.heap.size≤b∧b<w'.heap.size):=by
   intro b hb hnb hlt
   rcases hb with hb | ⟨m,gm,h1,h2,h3⟩
   ·exact .inr (.inr ⟨hb,hlt⟩)
   ·by_cases e:m=j
    ·subst e
     rw [hg] at h1
     simp only [abr] at h1
     subst h1
     unfold fK at h2
     cases hbb:g.base with
     | none=>rw [hbb] at h2; exact .inl (by simpa using h2)
     | some q=>
      rw [hbb] at h2
      simp only [List.cons_append,List.nil_append,abE] at h2
      rcases h2 with h2 | h2
      ·exact absurd (by rw [hbb,h2]) (hnb q.2)
      ·exact .inl h2
    ·have hgm:gm.wb=false:=by
      obtain ⟨pm,cm,vm,im,k1,k2,k3,k4⟩:=hgj h1
      exact Jt h1 k3 (e6 m im e k3)
     exact .inr (.inl (zT h1 hgm h2))
  have zQ:∀b∈g.fo,b∈fK g:=fun b hb=>abu _ hb
  have Qv:∀b∈g.fo,¬jq (dn cx σ α F w ps c is gs) b:=by
   rintro b hb ⟨m,pi,o,n,h1,h2⟩
   obtain ⟨gm,pm,cm,vm,im,k1,k2,k3,k4,k5,rfl⟩:=mW H hJ h1
   simp only at h2
   cases K4:gm.base with
   | none=>rw [K4] at h2; simp at h2
   | some q=>
    rw [K4] at h2
    simp only [Option.map_some,abr,abD] at h2
    have Uq:gm.wb=true:=by
     obtain ⟨_,_,_,_,_,_,_,hw,_⟩:=(jY H k4).2.1 q.1 q.2 (by rw [K4])
     exact (jY H k4).2.2.2.2 (by rw [hw]; simp)
    by_cases e:m=j
    ·subst e
     rw [hg] at k1
     simp only [abr] at k1
     subst k1
     rcases hbase with ⟨b',o',hw',hb'⟩ | ⟨hb',_⟩
     ·rw [K4] at hb'
      simp only [abr] at hb'
      subst hb'
      exact hwf b' o' hw' (by have:=h2.1; simp only at this; rw [this]; exact hb)
     ·rw [K4] at hb'; simp at hb'
    ·have:=Jt k1 k3 (e6 m im e k3)
     rw [this] at Uq
     simp at Uq
  have hkb:∀b∈g.fo,(∃e∈lw,lH (hp w) b=some e)∨(hp w' b=hp w b∧b∉Ff∧∀q Q,aM vJ q Q→b∈Ow.blk uH Q q→q=aL j):=by
   intro b hb
   obtain ⟨R2,h1,h2⟩:=Hf.tJ j _ H9 (by simp [hgw])
   rw [Rp] at h1
   simp only [abr] at h1
   subst h1
   rcases h2 UO.1 b (zQ b hb) (Qv b hb) with ⟨e,h3,h4⟩ | h
   ·refine .inl ⟨e,Yo e ?_,h3⟩
    rcases h4 with h4 | h4
    ·exact l1 e h4
    ·exact l2 e h4
   ·exact .inr h
  have NC:∀b∈uH.fo (aL j),∀o,g.base≠some (b,o):=by
   intro b hb o hbb
   have:=OX▸Kf.nd
   rw [hbb] at this
   simp only [List.cons_append,List.nil_append] at this
   exact (abZ.1 this).1 hb
  have Nw:∀b∈Ff,∀o,g.base≠some (b,o):=fun b hb o hbb=>mO Hf hb ⟨j,_,o,pM p0,H9,by simp [hbb]⟩
  have hoth:∀(m:Nat) (gm:GA),m≠j→gs[m]?=some gm→∀b∈gm.fo,b∈F:=by
   intro m gm e hm b hb
   obtain ⟨pm,cm,vm,im,k1,k2,k3,k4⟩:=hgj hm
   exact zT hm (Jt hm k3 (e6 m im e k3)) (abu _ hb)
  have hPT:mR cx σ α F w r R p ⟨Rf.k,x0⟩ R.own g.cs wh g.fo rest ⟨Rf.k,Rf.x⟩ z R.tags lw ht' R.keep (uH.fo (aL j)) G (uH.hdr (aL j)) w':=by
   refine ⟨e4,rfl,fun _ h=>h,⟨f1,f2,f3⟩,f4, ?_,hcells, ?_,Us, .inl Yp,⟨fun _ h=>h,(H.cB r R e3).1,(H.cB r R e3).2.2⟩, ?_,Lf, ?_,hGn, ?_, .inl rfl, .inl rfl, ?_, ?_⟩
   ·intro b hb hne
    obtain ⟨m,gm,h1,h2,h3⟩:=zN b hb hne
    by_cases e:m=j
    ·subst e
     rw [hg] at h1
     simp only [abr] at h1
     subst h1
     unfold fK at h2
     rcases abB.1 h2 with h2 | h2
     ·cases hbb:g.base with
      | none=>rw [hbb] at h2; simp at h2
      | some q=>
       rw [hbb] at h2
       simp only [abL] at h2
       rcases hbase with ⟨b',o',hw',hb'⟩ | ⟨hb',_⟩
       ·rw [hbb] at hb'
        simp only [abr] at hb'
        subst hb'
        simp only at h2
        exact .inr (.inr ⟨o',by rw [h2]; exact hw',Yq (by rw [hbb]; simp)⟩)
       ·rw [hbb] at hb'; simp at hb'
     ·rcases hkb b h2 with h | h
      ·exact .inr (.inl ⟨h2,h⟩)
      ·exact absurd h.1 hne
    ·have hgm:gm.wb=false:=by
      obtain ⟨pm,cm,vm,im,k1,k2,k3,k4⟩:=hgj h1
      exact Jt h1 k3 (e6 m im e k3)
     exact .inl (zT h1 hgm h2)
   ·intro hw
    rcases hbase with ⟨b',o',hw',_⟩ | ⟨hb',_⟩
    ·rw [hw] at hw'; simp at hw'
    ·exact Uf hb'
   ·intro b hb
    have hbl:b∈Ow.blk uH Rf (aL j):=abu _ hb
    obtain ⟨m1,m2⟩:=Kf.mine b hbl
    refine hwho b (m2.imp id ?_) (NC b hb) m1
    rintro ⟨m,pi,h3,h4⟩
    obtain ⟨gm,pm,cm,vm,im,k1,k2,k3,k4,k5,rfl⟩:=mW H hJ h3
    exact ⟨m,gm,k1,h4,k5⟩
   ·intro b hb
    obtain ⟨m1,m2⟩:=jm b (hG b hb)
    rcases hwho b m2 (Nw b (hG b hb)) m1 with h | h | h
    ·rcases hkb b h with h' | h'
     ·exact .inr (.inr ⟨h,h'⟩)
     ·exact absurd (hG b hb) h'.2.1
    ·exact .inl h
    ·exact .inr (.inl h)
   ·intro b hb hbG
    exact Hf.gQ (aL j) Rf hlf b (abu _ hb) (hG b hbG)
   ·intro Yf q c0 w0 eZ Ls hnq _
    by_cases hpt:aa q Rf.k=[]
    ·exact oz (own:=R.own) q eZ (fun t ht=>by rw [hpt] at ht; simp at ht) hnq
    ·obtain ⟨hany,b,o,hw0⟩:=Io _ q hpt hnq
     subst hw0
     have hq:q≠[]:=fun e=>hpt (by rw [e]; simp [aa])
     have Yx:fI q Rf.k=mI :: aa q Rf.k:=by
      cases q with
      | nil=>exact absurd rfl hq
      | cons s q=>rfl
     have hto:∀t∈aa q Rf.k,aA t ow=true:=fun t ht=>by
      have h1:=abH.1 hP.just t (kD q t ht)
      have h2:=(Ls t ht).1
      have h1':aA t R.own=aA t ow:=by simpa using h1
      rw [←h1',h2]
     obtain ⟨R0,r1,r2,r3,r4⟩:=hR0
     have CL:(dn cx σ α F w ps c is gs).ptrs j q (fI q Rf.k) (.pointer (some ⟨b,o,none⟩)):=by
      refine ⟨g,R0,c0,b,o,hg,hgw,r1,by rw [r2],fun t ht=>by rw [r4]; exact hto t (r2▸ht), ?_, ?_,rfl⟩
      ·obtain ⟨R0k,R0x,_,_,_,_,_,_,_,_,_,_⟩:=R0
       simp only at r2 r3
       subst r2
       rw [eq_of_heq r3]
       exact eZ
      ·rw [r2]; exact hany _
     obtain ⟨_,R2,h1,h2⟩:=Hf.tK j q _ _ CL
     rw [Rp] at h1
     simp only [abr] at h1
     subst h1
     have hno:∀t∈ht',t∉fI q Rf.k:=by
      intro t ht hm
      rw [Yx] at hm
      rcases abE.1 hm with h | h
      ·exact Yf (h▸ht)
      ·exact (Ls t h).2 ht
     obtain ⟨q1,cs,b',o',q2,q3⟩:=(h2 (fun t ht hm=>hno t (l4 t hm) ht)).2 Rf Rp UO (by
       unfold clean
       rw [abH]
       intro t ht
       have:t∈Rf.h:=List.mem_of_mem_take ht
       simp only [Bool.not_eq_true',aO]
       exact hno t (l3 t this))
      (fun t ht=>by
       have h1:=abH.1 La t (kD q t ht)
       have h1':aA t Rf.own=aA t ow:=by simpa using h1
       rw [h1']
       exact hto t ht)
      (by rw [lK q (y:=x0)]; exact He q eZ)
     simp only [Value.pointer.injEq,abr,Addr.mk.injEq,and_true] at q3
     obtain ⟨rfl,rfl⟩:=q3
     exact ⟨q1,cs,(Io _ q hpt q2).1 _⟩
   ·intro α' Tn hblk _
    have Zb:=Kf.ow UO
    have hsame:∀t∈Rf.k.tys,aA t R.own=aA t Rf.own:=fun t ht=>by
     have h1:=abH.1 hP.just t ht
     have h2:=abH.1 La t ht
     have h1':aA t R.own=aA t ow:=by simpa using h1
     have h2':aA t Rf.own=aA t ow:=by simpa using h2
     rw [h1',h2']
    refine lZ hsame ?_
    rcases wB with hall | wB
    ·refine jC (fP (fun t ht=>?_)) Zb
     have h2:=abH.1 La t ht
     have h2':aA t Rf.own=aA t ow:=by simpa using h2
     rw [h2']
     exact iT hall t ht
    ·refine aY (fun _ _=>rfl) (fun b hb=>?_) (fun _ _=>rfl) Zb
     refine CX H hJ Hf (vR H hP.lv e1 e2 hlf hg hpr hoth Tn hblk hG) (fun j' n hn i' hi' t ht=>?_) (fun m n hn=>?_) hb
     ·have h1:=abH.1 wB _ hn
      simp only [iV,cond_true] at h1
      have h2:j4 j' / 4=j':=by unfold j4; omega
      rw [h2,bu,abL] at h1
      subst h1
      rw [e1] at hi'
      simp only [abr] at hi'
      subst hi'
      rw [hP.ids] at ht
      exact ⟨t.2,ht⟩
     ·have h1:=abH.1 wB _ hn
      have h2:Nat.beq (aL m % 4) 0=true:=by unfold aL; simp
      simp only [rU,cond_false,h2,cond_true] at h1
      simp [aA] at h1
  obtain ⟨vI,hR2,XO,hb2,QB,_⟩:=hgo hPT
  refine ⟨vI,hR2,vR H hP.lv e1 e2 hlf hg hpr hoth XO hb2 hG,rfl,fun q hq=>?_,fun t ht=>XO.tag ht, .inr ⟨_,_,rfl⟩,fun j' i' r' q' MP ht0 Yg hi' hw'=>?_⟩
  rotate_left
  ·have ej:j'=j:=by
    refine abO fun hne=>?_
    rw [e6 j' i' hne hi'] at hw'
    simp at hw'
   subst ej
   rw [e1] at hi'
   simp only [abr] at hi'
   subst hi'
   rw [e2] at hw'
   simp only [abr,abD] at hw'
   obtain ⟨rfl,rfl,rfl,rfl⟩:=hw'
   obtain ⟨s1,s2,s3⟩:=Od p hP.pin e4
   exact ⟨Rf,_,R,Rp,UO,hg0,rfl,e3,s2,fun t ht=>hP.own t (by rw [←s3]; exact ht),fun hv'=>⟨wh,QB Yg hv'⟩⟩
  have hne:q≠r:=fun e=>by rw [e,e3] at hq; simp at hq
  show (ak σ r _).roots q=none
  rw [bS σ _ hne]
  exact hq
end
end
section
open Go
variable [Fr]
def Dr (σ:St) (ws:List Wr) (l:List Nat) (tags:List Tag):Prop:=
 (∀r∈l,∃n,(r,n)∈tags)∧∀t∈tags,eH t.1=true∨(∃R,ws.find? (fun w=>w.loc.beq (.r t.1))=some (.r t.1 (some R))∧t.2=fF R.w)∨(∃R,σ.roots t.1=some R∧t.2=fF R.w)
theorem JF {w:Wr} {r:Nat} (h:w.loc.beq (.r r)=true):∃o,w=.r r o:=by
 cases w with
 | s n a=>simp [Wr.loc,Loc.beq] at h
 | r n o=>
  simp only [Wr.loc,Loc.beq] at h
  exact ⟨o,by rw [abw h]⟩
theorem Ab {A:Type} {z:A} {σ:St} {ws:List Wr}:∀{l:List Nat} {k:List Tag→Prog A},(EI ws l k).ends σ z→∃tags,Dr σ ws l tags∧(k tags).ends σ z:=by
 intro l
 induction l with
 | nil=>intro k h; exact ⟨[],⟨by simp,by simp⟩,h⟩
 | cons r l ih=>
  intro k h
  unfold EI at h
  have hadd:∀{n:Nat} {tags:List Tag},Dr σ ws l tags→(eH r=true∨(∃R,ws.find? (fun w=>w.loc.beq (.r r))=some (.r r (some R))∧n=fF R.w)∨(∃R,σ.roots r=some R∧n=fF R.w))→Dr σ ws (r :: l) ((r,n) :: tags):=by
   intro n tags h1 h2
   refine ⟨fun q hq=>?_,fun t ht=>?_⟩
   ·rcases abE.1 hq with h | h
    ·subst h; exact ⟨n,by simp⟩
    ·obtain ⟨m,hm⟩:=h1.1 q h; exact ⟨m,by simp [hm]⟩
   ·rcases abE.1 ht with h | h
    ·subst h; exact h2
    ·exact h1.2 t h
  cases he:eH r with
  | true=>
   rw [he] at h
   obtain ⟨tags,g1,g2⟩:=ih h
   exact ⟨_,hadd g1 (.inl he),g2⟩
  | false=>
   rw [he] at h
   simp only [cond_false] at h
   split at h
   ·rename_i q R hf
    have hq:q=r:=by
     have:=List.find?_some hf
     obtain ⟨o,ho⟩:=JF this
     simp only [Wr.r.injEq] at ho
     exact ho.1
    subst hq
    obtain ⟨tags,g1,g2⟩:=ih h
    exact ⟨_,hadd g1 (.inr (.inl ⟨R,hf,rfl⟩)),g2⟩
   ·exact h.elim
   ·simp only [Prog.ends] at h
    cases hr:σ.roots r with
    | none=>rw [hr] at h; exact h.elim
    | some R=>
     rw [hr] at h
     obtain ⟨tags,g1,g2⟩:=ih h
     exact ⟨_,hadd g1 (.inr (.inr ⟨R,hr,rfl⟩)),g2⟩
def Kj (σ:St) (d:Nat) (is:List bW) (ws:List Wr):(rs:List wU)→Nat→Cont (kK rs)→List AV→List Wr→Prop
 | [],_,_,as,ws'=>as=[]∧ws'=[]
 | .val k exts fU :: rs,c,x,as,ws'=>∃tags as',Dr σ ws (bif k.flat then [] else qB (wD is exts fU)) tags∧as=.val k x.1 tags :: as'∧Kj σ d is ws rs (c+1) x.2 as' ws'
 | .own k ow exts fU :: rs,c,x,as,ws'=>∃tags as' GV,Dr σ ws (bif k.tys.all (fun t=>aA t ow) then [] else qB (wD is exts fU)) tags∧σ.roots (aS d c)=none∧as=.ref (aS d c) 0 :: as'∧ws'=.r (aS d c) (some (aD k x.1 ow tags .anon)) :: GV∧Kj σ d is ws rs (c+1) x.2 as' GV
 | .ptr t k ow exts :: rs,c,x,as,ws'=>∃tags as' GV,Dr σ ws (bif k.tys.all (fun t=>aA t ow) then [] else qB (wD is exts [])) tags∧σ.roots (aS d c)=none∧as=.ptr (aS d c) [] 0 :: as'∧ws'=.r (aS d c) (some (aD k x.1 ow tags (.var t))) :: GV∧Kj σ d is ws rs (c+1) x.2 as' GV
 | .into j p :: rs,c,x,as,ws'=>c=0∧p=[]∧rs=[]∧ws'=[]∧∃i r q wt ht R,is[j]?=some i∧i.wb=some (r,q,wt,ht)∧mI∉ht∧ws.find? (fun w=>w.loc.beq (.r r))=some (.r r (some R))∧as=[.qE r q (fF R.w+fF R.h) (show Int from x.1).toNat]
theorem Mj {A:Type} {z:A} {σ:St} {d:Nat} {is:List bW} {ws:List Wr}:∀{rs:List wU} {c:Nat} {x:Cont (kK rs)} {k:List AV→List Wr→Prog A},(Bc d is ws rs c x k).ends σ z→∃as ws',Kj σ d is ws rs c x as ws'∧(k as ws').ends σ z:=by
 intro rs
 induction rs with
 | nil=>intro c x k h; exact ⟨[],[],⟨rfl,rfl⟩,h⟩
 | cons p rs ih=>
  intro c x k h
  cases p with
  | val kk exts fU=>
   simp only [Bc] at h
   obtain ⟨tags,h1,h⟩:=Ab h
   obtain ⟨as,ws',h2,h⟩:=ih h
   exact ⟨_,ws',⟨tags,as,h1,rfl,h2⟩,h⟩
  | own kk ow exts fU=>
   simp only [Bc] at h
   obtain ⟨tags,h1,h⟩:=Ab h
   obtain ⟨hn,h⟩:=eY h
   obtain ⟨as,ws',h2,h⟩:=ih h
   exact ⟨_,_,⟨tags,as,ws',h1,hn,rfl,rfl,h2⟩,h⟩
  | ptr t kk ow exts=>
   simp only [Bc] at h
   obtain ⟨tags,h1,h⟩:=Ab h
   obtain ⟨hn,h⟩:=eY h
   obtain ⟨as,ws',h2,h⟩:=ih h
   exact ⟨_,_,⟨tags,as,ws',h1,hn,rfl,rfl,h2⟩,h⟩
  | into j q=>
   simp only [Bc] at h
   rcases ah h with ⟨hc,h⟩ | ⟨_,h⟩
   ·simp only [aby,List.isEmpty_iff] at hc
    split at h
    ·rename_i i hi
     split at h
     ·rename_i r q' wt ht hw
      split at h
      ·rename_i r' R hf
       rcases ah h with ⟨_,h⟩ | ⟨nQ,h⟩
       ·exact h.elim
       have hb:=List.find?_some hf
       simp only [Wr.loc,Loc.beq] at hb
       have hb:=abw hb
       subst hb
       exact ⟨_,_,⟨abw hc.1.1,hc.1.2,hc.2,rfl,i,r',q',wt,ht,R,hi,hw,aO.1 nQ,hf,rfl⟩,h⟩
      ·exact h.elim
     ·exact h.elim
    ·exact h.elim
   ·exact h.elim
theorem vB {n:Nat} {l:List Nat}:n∈l→n∈qB l:=by
 induction l with
 | nil=>simp
 | cons m l ih=>
  intro h
  unfold qB
  cases hm:aA m l with
  | true=>
   simp only [cond_true]
   rcases abE.1 h with h | h
   ·subst h; exact ih (bu.1 hm)
   ·exact ih h
  | false=>
   simp only [cond_false]
   rcases abE.1 h with h | h
   ·subst h; simp
   ·simp [ih h]
section
variable {P:Program} {T:gL} {cx:Cx} {σ:St} {α:dA} {F:List Nat} {a:Act} {w w':World} {ps:List fG} {c:Cont (kin ps)} {vs:List Value} {is:List bW} {gs:List GA}
theorem uq {exts fU:List Nat} {Tg U:List Tag} {l:List Nat} (ht:lI exts fU Tg=true) (hU:∀r∈l,∃n,(r,n)∈U) (hl:∀r∈wD is exts fU,r∈l) :
  (∀j n,(j4 j,n)∈Tg→∀i,is[j]?=some i→∀t∈i.ids,∃n',(t.1,n')∈U)∧(∀m n,(aL m,n)∈Tg→∀i q,is[m]?=some i→i.wb=some q→∃n',(q.1,n')∈U):=by
 refine ⟨fun j n hn i hi t ht'=>?_,fun m n hn i q hi hq=>?_⟩
 ·have h1:=abH.1 ht _ hn
  simp only [iV,cond_true] at h1
  have h2:j4 j / 4=j:=by unfold j4; omega
  rw [h2,bu] at h1
  refine hU _ (hl _ ?_)
  unfold wD
  refine abx _ (ab3.2 ⟨j,h1, ?_⟩)
  rw [hi]
  exact ab2.2 ⟨t,ht',rfl⟩
 ·have h1:=abH.1 ht _ hn
  have h2:Nat.beq (aL m % 4) 0=true:=by unfold aL; simp
  simp only [rU,cond_false,h2,cond_true] at h1
  rw [EK,bu] at h1
  refine hU _ (hl _ ?_)
  unfold wD
  refine abu _ (ab3.2 ⟨m,h1, ?_⟩)
  simp [hi,hq]
theorem EA {d c c':Nat} (h:aS d c=aS d c'):c=c':=by unfold aS at h; omega
theorem IQ (H:Rel cx σ α F a w) (hJ:ME cx σ α F a w ps c vs is gs) {vJ:St} {uH:dA} {Ff:List Nat} {af:Act} (Hf:Rel (dn cx σ α F w ps c is gs) vJ uH Ff af w') {RH:St} {d:Nat} {ws:List Wr} :
  ∀{rs:List wU} {ci:Nat} {x:Cont (kK rs)} {as:List AV} {ws':List Wr} {us:List Value} {bE:List (List Nat)} {σ':St} {α':dA},Rel cx σ' α' bE.flatten a w'→uT σ α is gs vJ uH Ff σ' α' bE.flatten→
   Dw (dn cx σ α F w ps c is gs) vJ uH Ff w' rs x us bE→Kj RH d is ws rs ci x as ws'→(∀l tags,Dr RH ws l tags→dW σ' tags)→(∀cj,ci≤cj→RH.roots (aS d cj)=none→σ'.roots (aS d cj)=none)→(∀b∈bE.flatten,b∈Ff)→
   (ci=0→∀(j:Nat) (i:bW) (r:Nat) (q:List Stp) (wt ht:List TypeId) (R:Root) (b:Option Addr) (n cp m:Nat),is[j]?=some i→i.wb=some (r,q,wt,ht)→mI∉ht→ws.find? (fun w=>w.loc.beq (.r r))=some (.r r (some R))→m≤n→bz (dn cx σ α F w ps c is gs) vJ uH Ff w' (.ref (aL j) 0) (.slice b n cp)→
    bz cx σ' α' bE.flatten w' (.qE r q (fF R.w+fF R.h) m) (.slice b m cp)∧l9 σ' (.qE r q (fF R.w+fF R.h) m))→
   ∃α'',Rel cx (aj ws' σ') α'' [] a w'∧dJ cx (aj ws' σ') α'' [] w' as us∧(∀v∈as,l9 (aj ws' σ') v)∧(aj ws' σ').slots=σ'.slots∧uT σ α is gs vJ uH Ff (aj ws' σ') α'' []∧
    (∀u v,l9 σ' u→bz cx σ' α' bE.flatten w' u v→bz cx (aj ws' σ') α'' [] w' u v)∧(∀t,wM σ' t→wM (aj ws' σ') t)∧(∀u,l9 σ' u→l9 (aj ws' σ') u):=by
 intro rs
 induction rs with
 | nil=>
  intro ci x as ws' us bE σ' α' H' B hL hW _ _ _ _
  obtain ⟨rfl,rfl⟩:=hW
  cases us with
  | cons _ _=>exact hL.elim
  | nil=>cases bE with
   | cons _ _=>exact hL.elim
   | nil=>exact ⟨α',H',trivial,by simp,rfl,B,fun _ _ _ h=>h,fun _ h=>h,fun _ h=>h⟩
 | cons p rs ih=>
  intro ci x as ws' us bE σ' α' H' B hL hW nL hfr hFf hcut
  cases us with
  | nil=>cases p <;> exact hL.elim
  | cons u us=>
   cases bE with
   | nil=>cases p <;> exact hL.elim
   | cons fo bE=>
    cases p with
    | val k exts fU=>
     obtain ⟨⟨rfl,Tg,cs,h1,h2,h3⟩,h4⟩:=hL
     obtain ⟨tags,as',hN,rfl,hW⟩:=hW
     simp only [List.flatten_cons,List.nil_append] at H' B hFf
     obtain ⟨α'',k1,k2,k3,k4,k5,k6,k7,k8⟩:=ih H' B h4 hW nL (fun cj hc=>hfr cj (by omega)) hFf (fun h=>absurd h (Nat.succ_ne_zero _))
     refine ⟨α'',k1,⟨fun _=>⟨cs,h2, ?_⟩,k2⟩, ?_,k4,k5,by simpa using k6,k7,k8⟩
     ·cases hf:k.flat with
      | true=>exact gN hf h3
      | false=>
       rw [hf] at hN h1
       obtain ⟨b1,b2⟩:=uq (is:=is) (h1.resolve_left (by simp)) hN.1 (fun r hr=>vB hr)
       exact eT (fun _ _=>rfl) (fun b hb=>CX H hJ Hf k5 b1 b2 hb) h3
     ·intro v hv
      rcases abE.1 hv with h | h
      ·subst h; exact fun t ht=>k7 t (nL _ _ hN t ht)
      ·exact k3 v h
    | own k ow exts fU=>
     obtain ⟨⟨Tg,cs,own,h1,h2,h3,h5⟩,h4⟩:=hL
     obtain ⟨tags,as',GV,hN,hn,rfl,rfl,hW⟩:=hW
     simp only [List.flatten_cons] at H' B hFf
     obtain ⟨gu,fd,hpm,hO⟩:=om (own':=ow) (fun t ht hm=>h2 t ht hm) h5
     have hnd:=abz.1 H'.rZ
     have Ej:=abz.1 (hpm.nodup hnd.1)
     have hk:(aD k x.1 ow tags .anon false).kind=.anon:=rfl
     have hn':=hfr ci (abI _) hn
     have Gf:∀b∈gu,b∈fo:=fun b hb=>hpm.mem_iff.2 (abx _ hb)
     obtain ⟨q1,q2⟩:=Dz (R':=aD k x.1 ow tags .anon false) H' hn' (dZ d ci) rfl (by simp [aD]) (nL _ _ hN) (0,0) cs gu bE.flatten
      (fun b hb=>by rw [fO hk] at hb; exact ⟨abx _ (Gf b hb),fun h=>hnd.2.2 b (Gf b hb) b h rfl⟩) (by rw [fO hk]; exact Ej.1) (fun b hb=>abu _ hb) hnd.2.1
      (fun _=>by
       rw [fO hk]
       show Ow (hp w') ow _ k x.1 cs gu
       cases hall:(k.tys.all fun t=>aA t ow) with
       | true=>exact jC (fP (iT hall)) hO
       | false=>
        rw [hall] at hN h1
        obtain ⟨b1,b2⟩:=uq (is:=is) (h1.resolve_left (by simp)) hN.1 (fun r hr=>vB hr)
        refine aY (fun _ _=>rfl) (fun b hb=>?_) (fun _ _=>rfl) hO
        rcases hb with hb | hb
        ·exact .inl (CX H hJ Hf B b1 b2 hb)
        ·have hbf:b∈fo:=hpm.mem_iff.2 (abu _ hb)
         exact .inr ⟨abx _ hbf,fun h=>hnd.2.2 b hbf b h rfl,fun h=>Ej.2.2 b h b hb rfl⟩) (cz h5) (fun b o hb=>by rw [q8 hk] at hb; simp at hb)
     have hB2:uT σ α is gs vJ uH Ff (ak σ' (aS d ci) (aD k x.1 ow tags .anon false)) (aB α' (aS d ci) (0,0) cs gu) bE.flatten:=by
      refine ⟨fun q Q b hq hb=>?_,fun b hb=>hFf b (abu _ hb)⟩
      rcases jr hq with ⟨rfl,rfl,_⟩ | ⟨e,hq'⟩
      ·rw [eU,fO hk] at hb
       exact .inl (hFf b (abx _ (Gf b hb)))
      ·rw [(fQ (σ:=σ') (α:=α') (R:=aD k x.1 ow tags .anon false) e).blk] at hb
       exact B.blk q Q b hq' hb
     have NB:∀u v,l9 σ' u→bz cx σ' α' (fo++bE.flatten) w' u v→bz cx (ak σ' (aS d ci) (aD k x.1 ow tags .anon false)) (aB α' (aS d ci) (0,0) cs gu) bE.flatten w' u v:=fun u v hu hv=>
      q2.av H' (fun r R hr hs=>absurd (fQ (fun e=>by have:=hr.1; rw [e,hn'] at this; simp at this)) hs) (fun r R hr hs=>absurd (fQ (fun e=>by have:=hr.1; rw [e,hn'] at this; simp at this)) hs) hu hv
     obtain ⟨α'',k1,k2,k3,k4,k5,k6,k7,k8⟩:=ih (ci:=ci+1) q1 hB2 h4 hW (fun l tags hN t ht=>q2.tag (nL l tags hN t ht)) (fun cj hc h=>by
      rw [bS]
      ·exact hfr cj (by omega) h
      ·intro e; have:=EA e; omega) (fun b hb=>hFf b (abu _ hb)) (fun h=>absurd h (Nat.succ_ne_zero _))
     have hroot:(ak σ' (aS d ci) (aD k x.1 ow tags .anon false)).roots (aS d ci)=some (aD k x.1 ow tags .anon false):=aF ..
     have En:l9 (ak σ' (aS d ci) (aD k x.1 ow tags .anon false)) (.ref (aS d ci) 0):=⟨_,hroot, .inr (ab0 _)⟩
     refine ⟨α'',k1,⟨k6 _ _ En (LW h3),k2⟩, ?_,k4,k5,fun u v hu hv=>?_,fun t ht=>k7 t (q2.tag ht),fun u hu=>k8 u (q2.l9 hu)⟩
     ·intro v hv
      rcases abE.1 hv with h | h
      ·subst h
       exact k8 _ En
      ·exact k3 v h
     ·exact k6 u v (q2.l9 hu) (NB u v hu hv)
    | ptr t k ow exts=>
     obtain ⟨⟨b0,o0,Tg,cs,own,qC,h3,rfl,h1,h2,hmem,h5⟩,h4⟩:=hL
     obtain ⟨tags,as',GV,hN,hn,rfl,rfl,hW⟩:=hW
     simp only [List.flatten_cons] at H' B hFf
     obtain ⟨gu,fd,hpm,hO⟩:=om (own':=ow) (fun t ht hm=>h2 t ht hm) h5
     have hnd:=abz.1 H'.rZ
     have uJ:=abZ.1 hnd.1
     have Ej:=abz.1 (hpm.nodup uJ.2)
     have hk:(aD k x.1 ow tags (.var t) false).kind=.var t:=rfl
     have hn':=hfr ci (abI _) hn
     have Gf:∀b∈b0 :: gu,b∈b0 :: qC:=fun b hb=>by
      rcases abE.1 hb with h | h
      ·rw [h]; exact abY
      ·exact abQ _ (hpm.mem_iff.2 (abx _ h))
     obtain ⟨q1,q2⟩:=Dz (R':=aD k x.1 ow tags (.var t) false) H' hn' (dZ d ci) rfl (by simp [aD]) (nL _ _ hN) (b0,o0) cs gu bE.flatten
      (fun b hb=>by rw [oH hk] at hb; exact ⟨abx _ (Gf b hb),fun h=>hnd.2.2 b (Gf b hb) b h rfl⟩) (by rw [oH hk]; exact abZ.2 ⟨fun h=>uJ.1 (hpm.mem_iff.2 (abx _ h)),Ej.1⟩) (fun b hb=>abu _ hb) hnd.2.1
      (fun _=>by
       rw [oH hk]
       show Ow (hp w') ow _ k x.1 cs gu
       cases hall:(k.tys.all fun t=>aA t ow) with
       | true=>exact jC (fP (iT hall)) hO
       | false=>
        rw [hall] at hN h1
        obtain ⟨b1,b2⟩:=uq (is:=is) (h1.resolve_left (by simp)) hN.1 (fun r hr=>vB hr)
        refine aY (fun _ _=>rfl) (fun b hb=>?_) (fun _ _=>rfl) hO
        rcases hb with hb | hb
        ·exact .inl (CX H hJ Hf B b1 b2 hb)
        ·have hbf:b∈b0 :: qC:=abQ _ (hpm.mem_iff.2 (abu _ hb))
         exact .inr ⟨abx _ hbf,fun h=>hnd.2.2 b hbf b h rfl,fun h=>by
          rcases abE.1 h with h | h
          ·subst h; exact uJ.1 (hpm.mem_iff.2 (abu _ hb))
          ·exact Ej.2.2 b h b hb rfl⟩) (cz h5) (fun b o hb=>by
       rw [Fb hk] at hb
       simp only [abr,abD] at hb
       obtain ⟨rfl,rfl⟩:=hb
       obtain ⟨m1,arr,e,lo,hi,m2,m3,m4,m5⟩:=hmem
       exact ⟨m1,arr,e,lo,hi,m2,m3,m4,fun u hu=>by rw [m5]; rw [hk] at hu; simpa using hu⟩)
     have hB2:uT σ α is gs vJ uH Ff (ak σ' (aS d ci) (aD k x.1 ow tags (.var t) false)) (aB α' (aS d ci) (b0,o0) cs gu) bE.flatten:=by
      refine ⟨fun q Q b hq hb=>?_,fun b hb=>hFf b (abu _ hb)⟩
      rcases jr hq with ⟨rfl,rfl,_⟩ | ⟨e,hq'⟩
      ·rw [eU,oH hk] at hb
       exact .inl (hFf b (abx _ (Gf b hb)))
      ·rw [(fQ (σ:=σ') (α:=α') (R:=aD k x.1 ow tags (.var t) false) e).blk] at hb
       exact B.blk q Q b hq' hb
     have NB:∀u v,l9 σ' u→bz cx σ' α' ((b0 :: qC)++bE.flatten) w' u v→bz cx (ak σ' (aS d ci) (aD k x.1 ow tags (.var t) false)) (aB α' (aS d ci) (b0,o0) cs gu) bE.flatten w' u v:=fun u v hu hv=>
      q2.av H' (fun r R hr hs=>absurd (fQ (fun e=>by have:=hr.1; rw [e,hn'] at this; simp at this)) hs) (fun r R hr hs=>absurd (fQ (fun e=>by have:=hr.1; rw [e,hn'] at this; simp at this)) hs) hu hv
     obtain ⟨α'',k1,k2,k3,k4,k5,k6,k7,k8⟩:=ih (ci:=ci+1) q1 hB2 h4 hW (fun l tags hN t ht=>q2.tag (nL l tags hN t ht)) (fun cj hc h=>by
      rw [bS]
      ·exact hfr cj (by omega) h
      ·intro e; have:=EA e; omega) (fun b hb=>hFf b (abu _ hb)) (fun h=>absurd h (Nat.succ_ne_zero _))
     have hroot:(ak σ' (aS d ci) (aD k x.1 ow tags (.var t) false)).roots (aS d ci)=some (aD k x.1 ow tags (.var t) false):=aF ..
     have En:l9 (ak σ' (aS d ci) (aD k x.1 ow tags (.var t) false)) (.ptr (aS d ci) [] 0):=⟨_,hroot, .inr (ab0 _)⟩
     refine ⟨α'',k1,⟨k6 _ _ En (by rw [h3]; exact NW),k2⟩, ?_,k4,k5,fun u v hu hv=>?_,fun t ht=>k7 t (q2.tag ht),fun u hu=>k8 u (q2.l9 hu)⟩
     ·intro v hv
      rcases abE.1 hv with h | h
      ·subst h
       exact k8 _ En
      ·exact k3 v h
     ·exact k6 u v (q2.l9 hu) (NB u v hu hv)
    | into j q=>
     obtain ⟨⟨rfl,_,b,n,cp,e1,e2,e3⟩,h4⟩:=hL
     obtain ⟨hci,_,rfl,rfl,i,r,q',wt,ht,R,g1,g2,g0,g3,rfl⟩:=hW
     cases us with
     | cons _ _=>exact h4.elim
     | nil=>
      cases bE with
      | cons _ _=>exact h4.elim
      | nil=>
       obtain ⟨k1,k2⟩:=hcut hci j i r q' wt ht R b n cp _ g1 g2 g0 g3 e2 e3
       simp only [List.flatten_cons,List.flatten_nil,abV] at H' k1
       simp only [List.flatten_cons,List.flatten_nil,abV] at B
       refine ⟨α',H',⟨by rw [e1]; exact k1,trivial⟩,fun v hv=>?_,rfl,B,fun _ _ _ h=>?_,fun _ h=>h,fun _ h=>h⟩
       ·simp only [abL] at hv
        subst hv
        exact k2
       ·simp only [List.flatten_cons,List.flatten_nil,abV] at h
        exact h
end
end
section
open Go
variable [Fr]
section
variable {P:Program} {T:gL} {cx:Cx} {σ:St} {α:dA} {F:List Nat} {a:Act} {w w':World}
theorem PK:∀{ps:List fG} {c:Cont (kin ps)} {vs:List Value} {is:List bW} {ts:List (Value×gp)},G8 cx σ α F a w ps c vs is ts→
  is.flatMap bW.ws=nO ts∧(∀q∈ts,qd cx σ α F w q.1 q.2)∧(∀t∈lQ ts,∃(j:Nat) (i:bW) (k:K) (ow:List TypeId),ps[j]?=some (.own k ow)∧is[j]?=some i∧t∈i.ids)∧vs.length=ps.length∧is.length=ps.length:=by
 intro ps
 induction ps with
 | nil=>
  intro c vs is ts h
  cases vs with
  | cons _ _=>exact h.elim
  | nil=>cases is with
   | cons _ _=>exact h.elim
   | nil=>cases ts with
    | cons _ _=>exact h.elim
    | nil=>exact ⟨rfl,by simp,by simp [lQ],rfl,rfl⟩
 | cons p ps ih=>
  intro c vs is ts h
  cases vs with
  | nil=>cases p <;> exact h.elim
  | cons v vs=>
   cases is with
   | nil=>cases p <;> exact h.elim
   | cons i is=>
    have hshift:∀{ts:List (Value×gp)},(∀t∈lQ ts,∃(j:Nat) (i:bW) (k:K) (ow:List TypeId),ps[j]?=some (.own k ow)∧is[j]?=some i∧t∈i.ids)→∀t∈lQ ts,∃(j:Nat) (i':bW) (k:K) (ow:List TypeId),(p :: ps)[j]?=some (.own k ow)∧(i :: is)[j]?=some i'∧t∈i'.ids:=by
     intro ts h t ht
     obtain ⟨j,i',k,ow,h1,h2,h3⟩:=h t ht
     exact ⟨j+1,i',k,ow,by simpa using h1,by simpa using h2,h3⟩
    cases p with
    | val k fU=>obtain ⟨⟨_,h1,_⟩,h6⟩:=h; obtain ⟨g1,g2,g3,g4,g5⟩:=ih h6; exact ⟨by simp [h1,g1],g2,hshift g3,by simp [g4],by simp [g5]⟩
    | ro k=>obtain ⟨⟨_,h1,_⟩,h6⟩:=h; obtain ⟨g1,g2,g3,g4,g5⟩:=ih h6; exact ⟨by simp [h1,g1],g2,hshift g3,by simp [g4],by simp [g5]⟩
    | rw k ow wt ht=>obtain ⟨⟨r,R,p,hP,_⟩,h6⟩:=h; obtain ⟨g1,g2,g3,g4,g5⟩:=ih h6; exact ⟨by simp [hP.ws,g1],g2,hshift g3,by simp [g4],by simp [g5]⟩
    | oV k ow wt=>obtain ⟨⟨r,R,p,hP,_⟩,h6⟩:=h; obtain ⟨g1,g2,g3,g4,g5⟩:=ih h6; exact ⟨by simp [hP.ws,g1],g2,hshift g3,by simp [g4],by simp [g5]⟩
    | fn f ks=>obtain ⟨⟨_,h1,_⟩,h6⟩:=h; obtain ⟨g1,g2,g3,g4,g5⟩:=ih h6; exact ⟨by simp [h1,g1],g2,hshift g3,by simp [g4],by simp [g5]⟩
    | own k ow=>
     cases ts with
     | nil=>exact h.elim
     | cons q ts=>
      obtain ⟨⟨h1,h2,h3,h4,h5⟩,h6⟩:=h
      obtain ⟨g1,g2,g3,g4,g5⟩:=ih h6
      refine ⟨?_, ?_, ?_,by simp [g4],by simp [g5]⟩
      ·rw [h3]; simp [g1,nO]
      ·intro q' hq
       rcases abE.1 hq with h | h
       ·subst h; rw [h1]; exact h2
       ·exact g2 q' h
      ·intro t ht
       simp only [lQ,List.flatMap_cons,abB] at ht
       rcases ht with ht | ht
       ·exact ⟨0,i,k,ow,rfl,rfl,by rw [h3]; exact ht⟩
       ·exact hshift g3 t ht
    | into j q=>obtain ⟨⟨_,h1,_⟩,h6⟩:=h; obtain ⟨g1,g2,g3,g4,g5⟩:=ih h6; exact ⟨by simp [h1,g1],g2,hshift g3,by simp [g4],by simp [g5]⟩
theorem Af {r:Nat}:∀{is:List bW} {n m:Nat},sD r is n=some m→∃i q,n≤m∧is[m - n]?=some i∧i.wb=some (r,q):=by
 intro is
 induction is with
 | nil=>intro n m h; simp [sD] at h
 | cons i is ih=>
  intro n m h
  unfold sD at h
  have hrec:sD r is (n+1)=some m→∃i' q,n≤m∧(i :: is)[m - n]?=some i'∧i'.wb=some (r,q):=by
   intro h
   obtain ⟨i',q,h1,h2,h3⟩:=ih h
   refine ⟨i',q,by omega, ?_,h3⟩
   have:m - n=(m - (n+1))+1:=by omega
   rw [this]
   simpa using h2
  cases hw:i.wb with
  | none=>rw [hw] at h; exact hrec h
  | some q=>
   rw [hw] at h
   simp only at h
   cases hb:Nat.beq r q.1 with
   | true=>
    rw [hb] at h
    simp only [cond_true,abr] at h
    subst h
    exact ⟨i,q.2,abI _,by simp,by rw [hw,abw hb]⟩
   | false=>rw [hb] at h; exact hrec h
theorem Gr {r:Nat}:∀{is:List bW} {n:Nat},sD r is n=none→∀i∈is,∀q,i.wb≠some (r,q):=by
 intro is
 induction is with
 | nil=>intro n _ i hi; simp at hi
 | cons i is ih=>
  intro n h i' hi q he
  unfold sD at h
  rcases abE.1 hi with h' | h'
  ·subst h'
   rw [he] at h
   simp at h
  ·cases hw:i.wb with
   | none=>rw [hw] at h; exact ih h i' h' q he
   | some q'=>
    rw [hw] at h
    simp only at h
    cases hb:Nat.beq r q'.1 with
    | true=>rw [hb] at h; simp at h
    | false=>rw [hb] at h; exact ih h i' h' q he
theorem Ae:∀{is:List bW} {j j':Nat} {i i':bW},wI is=true→is[j]?=some i→is[j']?=some i'→i.wb≠none→i'.wb≠none→j=j':=by
 intro is
 induction is with
 | nil=>intro j j' i i' _ h; simp at h
 | cons x is ih=>
  intro j j' i i' ho h1 h2 h3 h4
  cases j with
  | zero=>
   simp only [List.getElem?_cons_zero,abr] at h1
   subst h1
   cases j' with
   | zero=>rfl
   | succ j'=>
    rcases pF ho with ⟨h,_⟩ | ⟨_,h⟩
    ·exact absurd h h3
    ·exact absurd (h i' (List.mem_of_getElem? (by simpa using h2))) h4
  | succ j=>
   cases j' with
   | zero=>
    simp only [List.getElem?_cons_zero,abr] at h2
    subst h2
    rcases pF ho with ⟨h,_⟩ | ⟨_,h⟩
    ·exact absurd h h4
    ·exact absurd (h i (List.mem_of_getElem? (by simpa using h1))) h3
   | succ j'=>
    rcases pF ho with ⟨_,h⟩ | ⟨_,h⟩
    ·have:=ih h (by simpa using h1) (by simpa using h2) h3 h4; omega
    ·exact absurd (h i (List.mem_of_getElem? (by simpa using h1))) h3
def Kn (is:List bW) (p:fG) (i:bW):Prop:=
 (∃(k:K) (fU:List Nat),p=.val k fU∧(∀m∈fU,∃q:bW,is[m]?=some q∧q.wb≠none)∧∀t∈i.ids,(∃(n:Nat) (j':bW),sD t.1 is 0=some n∧n∈fU∧is[n]?=some j'∧∀b∈j'.bt,b∉k.tys)∨(sD t.1 is 0=none∧t.1∉is.flatMap fun j=>j.ws.flatMap Wr.nG))∨
  ((∀k fU,p≠.val k fU)∧∀t∈i.ids,t.1∉is.flatMap bW.touched)
theorem Dh {is:List bW}:∀{ps:List fG} {l:List bW},qw is ps l=true→∀(j:Nat) (p:fG) (i:bW),ps[j]?=some p→l[j]?=some i→Kn is p i:=by
 intro ps
 induction ps with
 | nil=>intro l _ j p i hp; simp at hp
 | cons p ps ih=>
  intro l h j q i hq hi
  cases l with
  | nil=>cases p <;> simp [qw] at h
  | cons x l=>
   have hhead:(j=0→q=p∧i=x):=by
    intro e
    subst e
    simp only [List.getElem?_cons_zero,abr] at hq hi
    exact ⟨hq.symm,hi.symm⟩
   have Pe:qw is ps l=true→j≠0→Kn is q i:=by
    intro h hj
    obtain ⟨j',rfl⟩:∃j',j=j'+1:=⟨j - 1,by omega⟩
    exact ih h j' q i (by simpa using hq) (by simpa using hi)
   have hother:(∀(k:K) (fU:List Nat),p≠.val k fU)→(x.ids.all (fun t=>!aA t.1 (is.flatMap bW.touched)) && qw is ps l)=true→Kn is q i:=by
    intro hp hx
    rw [aby] at hx
    by_cases hj:j=0
    ·obtain ⟨e1,e2⟩:=hhead hj
     rw [e1,e2]
     refine .inr ⟨hp,fun t ht=>?_⟩
     have:=abH.1 hx.1 t ht
     simpa [aO] using this
    ·exact Pe hx.2 hj
   cases p with
   | val k fU=>
    simp only [qw,aby] at h
    by_cases hj:j=0
    ·obtain ⟨rfl,rfl⟩:=hhead hj
     refine .inl ⟨k,fU,rfl,fun m hm=>?_,fun t ht=>?_⟩
     ·have:=abH.1 h.1.1 m hm
      cases Zm:is[m]? with
      | none=>rw [Zm] at this; simp at this
      | some q=>
       rw [Zm] at this
       refine ⟨q,rfl,fun e=>?_⟩
       simp [e] at this
     ·have:=abH.1 h.1.2 t ht
      cases hpo:sD t.1 is 0 with
      | none=>
       rw [hpo] at this
       refine .inr ⟨rfl, ?_⟩
       simpa [aO] using this
      | some n=>
       rw [hpo] at this
       simp only [aby] at this
       cases hni:is[n]? with
       | none=>rw [hni] at this; simp at this
       | some j'=>
        rw [hni] at this
        refine .inl ⟨n,j',rfl,bu.1 this.1,hni,fun b hb=>?_⟩
        have h2:=abH.1 this.2 b hb
        simpa [aO] using h2
    ·exact Pe h.2 hj
   | ro k=>exact hother (by simp) h
   | rw k ow wt ht=>exact hother (by simp) h
   | oV k ow wt=>exact hother (by simp) h
   | own k ow=>exact hother (by simp) h
   | fn f ks=>exact hother (by simp) h
   | into j q=>exact hother (by simp) h
theorem Dn {σ1:St}:∀{ps:List fG} {is:List bW} {c:Cont (kR ps)} {ws:List Wr},(∀i∈is,∀r q,i.wb=some (r,q)→σ1.roots r=σ.roots r)→oM σ ps is c ws→oM σ1 ps is c ws:=by
 intro ps
 induction ps with
 | nil=>
  intro is c ws _ h
  cases is with
  | nil=>exact h
  | cons _ _=>exact h.elim
 | cons p ps ih=>
  intro is c ws hr h
  cases is with
  | nil=>cases p <;> exact h.elim
  | cons i is=>
   have hr':∀i∈is,∀r q,i.wb=some (r,q)→σ1.roots r=σ.roots r:=fun i hi=>hr i (by simp [hi])
   cases p with
   | rw kk ow MP ht0=>obtain ⟨r,p,wt,ht,R,z,ws',h1,h2,h3,h4,h5⟩:=h; exact ⟨r,p,wt,ht,R,z,ws',h1,by rw [hr i (by simp) r _ h1]; exact h2,h3,h4,ih hr' h5⟩
   | oV kk ow MP=>obtain ⟨r,p,wt,ht,R,z,ws',h1,h2,h3,h4,h5⟩:=h; exact ⟨r,p,wt,ht,R,z,ws',h1,by rw [hr i (by simp) r _ h1]; exact h2,h3,h4,ih hr' h5⟩
   | val _ _=>exact ih hr' h
   | ro _=>exact ih hr' h
   | own _ _=>exact ih hr' h
   | fn _ _=>exact ih hr' h
   | into _ _=>exact ih hr' h
theorem Kv {as:List AV} {us:List Value} (h:dJ cx σ α F w as us):iK cx σ α F w (Ku as) (E9 us):=by
 cases as with
 | nil=>cases us with
  | nil=>exact ⟨[],rfl,trivial⟩
  | cons _ _=>exact h.elim
 | cons x as=>cases us with
  | nil=>exact h.elim
  | cons u us=>
   cases as with
   | nil=>cases us with
    | nil=>exact h.1
    | cons _ _=>exact h.2.elim
   | cons y as=>cases us with
    | nil=>exact h.2.elim
    | cons u' us=>exact ⟨u :: u' :: us,rfl,h⟩
theorem M9 {as:List AV} (h:∀v∈as,l9 σ v):rF σ (Ku as):=by
 cases as with
 | nil=>exact fun a ha=>by simp at ha
 | cons x as=>cases as with
  | nil=>exact h x (by simp)
  | cons y as=>exact h
theorem xy {A:Type} {f g:A→List Nat}:∀{l:List A},(∀x∈l,(g x).Sublist (f x))→(l.flatMap f).Nodup→(l.flatMap g).Nodup:=by
 intro l hs h
 refine h.sublist ?_
 clear h
 induction l with
 | nil=>simp
 | cons x l ih=>
  simp only [List.flatMap_cons]
  exact (hs x (by simp)).append (ih (fun y hy=>hs y (by simp [hy])))
theorem zJ {A:Type} {f:A→List Nat}:∀{l:List A} {x:A},x∈l→(l.flatMap f).Nodup→(f x).Nodup:=by
 intro l
 induction l with
 | nil=>intro x hx; simp at hx
 | cons y l ih=>
  intro x hx h
  simp only [List.flatMap_cons] at h
  have n:=abz.1 h
  rcases abE.1 hx with h1 | h1
  ·subst h1; exact n.1
  ·exact ih h1 n.2.1
theorem uU.mono {f:FuncId} {args:Array Value} {R R':Value→World→Prop} (h:uU P f args w R) (hr:∀v w',R v w'→R' v w'):uU P f args w R':=by
 rcases h with ⟨h1,h2⟩ | ⟨v,w',h1,h2⟩
 ·exact .inl ⟨h1,h2.mono fun e w' ⟨v,he,h⟩=>⟨v,he,hr _ _ h⟩⟩
 ·exact .inr ⟨v,w',h1,hr _ _ h2⟩
theorem IX {n:Nat} {E:Entry} (hE:aG P n E) (H:Rel cx σ α F a w) {dst:Option Nat} {Br:List AV} {vs:List Value} (hl:dJ cx σ α F w Br vs) (Uw:∀v∈Br,l9 σ v) (hdn:∀d,dst=some d→d<cx.nt) {ws:List Wr}
  (h:(Ky n E dst Br fun ws=>(.ret ws:Prog (List Wr))).ends σ ws):uU P E.f vs.toArray w fun v w'=>∃α' F',Rel cx (aj ws σ) α' F' (a.put dst v) w':=by
 unfold Ky at h
 obtain ⟨c,is,ts,hG,h⟩:=Gd H hl Uw h
 obtain ⟨gw,gt,Z9,Z8,gl2⟩:=PK hG
 rcases ah h with ⟨hc,h⟩ | ⟨_,h⟩
 ·rw [aby,aby] at hc
  obtain ⟨⟨hap,ho⟩,hvo⟩:=hc
  have hnd:=oU.1 hap
  obtain ⟨out,hout,h⟩:=h
  obtain ⟨Pw,hB,h⟩:=IV h
  have hvs:=Dh hvo
  have Jr:(nO ts).flatMap Wr.nG=is.flatMap fun i=>i.ws.flatMap Wr.nG:=by rw [←gw,List.flatMap_assoc]
  have UE:((nO ts).flatMap Wr.nG).Nodup:=by
   rw [Jr]
   exact xy (fun i _=>by unfold bW.touched; exact List.sublist_append_right _ _) hnd
  have UF:∀r,r∈(nO ts).flatMap Wr.nG→r∈is.flatMap bW.touched:=by
   intro r hr
   rw [Jr] at hr
   obtain ⟨i,hi,h1⟩:=ab3.1 hr
   exact ab3.2 ⟨i,hi,by unfold bW.touched; exact abu _ h1⟩
  have UQ:∀(m:Nat) (i:bW) r q,is[m]?=some i→i.wb=some (r,q)→r∉(nO ts).flatMap Wr.nG:=by
   intro m i r q hi hw hr
   rw [Jr] at hr
   obtain ⟨i',hi',h1⟩:=ab3.1 hr
   obtain ⟨m',hm',he⟩:=List.mem_iff_getElem.1 hi'
   have hi2:is[m']?=some i':=by rw [abG hm',he]
   have ht1:r∈i.touched:=by unfold bW.touched; rw [hw]; simp
   by_cases e:m=m'
   ·subst e
    rw [hi] at hi2
    simp only [abr] at hi2
    subst hi2
    have:=zJ hi' hnd
    unfold bW.touched at this
    rw [hw] at this
    simp only [List.cons_append,List.nil_append] at this
    exact (abZ.1 this).1 h1
   ·exact flatMap_apart hnd hi hi2 e r ht1 (by unfold bW.touched; exact abu _ h1)
  have NH:∀(j:Nat) (i:bW),is[j]?=some i→∀t∈i.ids,t.1∉(nO ts).flatMap Wr.nG:=by
   intro j i hi t ht hr
   have hj:j<E.ps.length:=by have:=(List.getElem?_eq_some_iff.1 hi).1; omega
   rcases hvs j E.ps[j] i (abG hj) hi with ⟨k,fU,_,_,h1⟩ | ⟨_,h1⟩
   ·rcases h1 t ht with ⟨n,j',h2,_,_,_⟩ | ⟨_,h2⟩
    ·obtain ⟨i',q,_,h3,h4⟩:=Af h2
     simp only [Nat.sub_zero] at h3
     exact UQ n i' t.1 q h3 h4 hr
    ·exact h2 (by rw [←Jr]; exact hr)
   ·exact h1 t ht (UF _ hr)
  obtain ⟨fB,F1,hs,H1,hA1,Eh,hnF1,aae,hS1,_,hV1,UK,Qz⟩:=takes ts H gt UE (fun t ht=>by
   obtain ⟨j,i,k,ow,h1,h2,h3⟩:=Z9 t ht
   exact NH j i h2 t h3)
  have TW:∀i∈is,∀t∈i.ids,Same σ α (aj (nO ts) σ) fB t.1:=by
   intro i hi t ht
   obtain ⟨j,hj,he⟩:=List.mem_iff_getElem.1 hi
   exact hS1 _ (NH j i (by rw [abG hj,he]) t ht)
  have TY:∀i∈is,∀r q,i.wb=some (r,q)→Same σ α (aj (nO ts) σ) fB r:=by
   intro i hi r q hw
   obtain ⟨j,hj,he⟩:=List.mem_iff_getElem.1 hi
   exact hS1 _ (UQ j i r q (by rw [abG hj,he]) hw)
  obtain ⟨gs,hJ,hfl⟩:=FC H1 hV1 hG hA1 TW TY
  obtain ⟨lv,li,lg,hat⟩:=hJ.at (i0:=0)
  have hA:Apart cx (aj (nO ts) σ) fB F1 w E.ps is gs:=by
   refine ⟨fun j j' g g' hg hg' hw hw'=>?_,by rw [hfl]; exact Eh,fun j p i r n hp hi hn m i' q hm hq=>?_,fun j p hp m hm=>?_⟩
   ·have hget:∀{j:Nat} {g:GA},gs[j]?=some g→g.wb=true→∃i,is[j]?=some i∧i.wb≠none:=by
     intro j g hg hw
     have hj:j<E.ps.length:=by have:=(List.getElem?_eq_some_iff.1 hg).1; omega
     obtain ⟨cj,v,i,g',e1,e2,e3,e4,_⟩:=hat j E.ps[j] (abG hj)
     rw [hg] at e3
     simp only [abr] at e3
     subst e3
     exact ⟨i,e2,(jY H1 e4).2.2.2.1 hw⟩
    obtain ⟨i,h1,h2⟩:=hget hg hw
    obtain ⟨i',h3,h4⟩:=hget hg' hw'
    exact Ae ho h1 h3 h2 h4
   ·rcases hvs j p i hp hi with ⟨k,fU,h0,_,h1⟩ | ⟨_,h1⟩
    ·rcases h1 (r,n) hn with ⟨n',j',h2,h3,h4,h5⟩ | ⟨h2,_⟩
     ·obtain ⟨QL,q',_,h6,h7⟩:=Af h2
      simp only [Nat.sub_zero] at h6
      have e:=Ae ho h6 hm (by rw [h7]; simp) (by rw [hq]; simp)
      subst e
      rw [hm] at h4
      simp only [abr] at h4
      subst h4
      subst h0
      exact ⟨h3,k,fU,rfl,h5⟩
     ·exact absurd hq (Gr h2 i' (List.mem_of_getElem? hm) q)
    ·refine absurd ?_ (h1 (r,n) hn)
     exact ab3.2 ⟨i',List.mem_of_getElem? hm,by unfold bW.touched; rw [hq]; simp⟩
   ·have hj:j<is.length:=by have:=(List.getElem?_eq_some_iff.1 hp).1; omega
    rcases hvs j p is[j] hp (abG hj) with ⟨k,fU,h0,h1,_⟩ | ⟨h0,_⟩
    ·subst h0
     obtain ⟨q,h2,h3⟩:=h1 m hm
     cases hw:q.wb with
     | none=>exact absurd hw h3
     | some u=>exact ⟨q,u,h2,hw⟩
    ·cases p with
     | val k fU=>exact absurd rfl (h0 k fU)
     | _=>simp [Ai] at hm
  have hinit:=NR H1 hJ hA
  have UA:Cj (dn cx (aj (nO ts) σ) fB F1 w E.ps c is gs) E.ps:=Bb H1 hJ
  refine (hE c out hout _ _ vs.toArray w rfl rfl (by simpa using Z8) UA hinit).mono ?_
  rintro v w' ⟨vJ,uH,Ff,af,us,bE,Hf,hv,hRL,hfn,Rq,hOL⟩
  have hB1:oM (aj (nO ts) σ) E.ps is (Cont.snd (kK E.rs) (kR E.ps) out) Pw:=Dn (fun i hi r q hw=>(TY i hi r q hw).root) hB
  obtain ⟨vI,H2,hBS,hsl2,QA,UL,Ju,QD⟩:=FE H1 hJ ho Hf hB1 hOL Rq hfn
  have Yr:∀l tags,Dr σ Pw l tags→dW (aj Pw (aj (nO ts) σ)) tags:=by
   intro l tags hN t ht
   rcases hN.2 t ht with h | ⟨R,hf,hn⟩ | ⟨R,hr,hn⟩
   ·exact .inl h
   ·rcases Ju with rfl | ⟨r,R',rfl⟩
    ·simp at hf
    ·have hm:=List.mem_of_find?_eq_some hf
     simp only [abL,Wr.r.injEq,abr] at hm
     obtain ⟨h1,h2⟩:=hm
     refine .inr ⟨R, ?_, .inr (by rw [hn]; exact abI _)⟩
     rw [h1,h2]
     exact aF ..
   ·exact UL t (UK t (.inr ⟨R,hr, .inr (by rw [hn]; exact abI _)⟩))
  cases dst with
  | none=>
   simp only at h
   rw [az h,bK,gw]
   exact ⟨vI,_,H2⟩
  | some d=>
   simp only at h
   obtain ⟨as,ws3,hW,h⟩:=Mj h
   rw [az h,bK,bK,bK,gw]
   obtain ⟨α3,k1,k2,k3,k4,_⟩:=IQ H1 hJ Hf H2 hBS hRL hW Yr (fun cj _ hn=>QA _ (Qz _ hn)) Rq (fun _ j i r q wt ht R b n cp m g1 g2 g0 g3 g4 g5=>by
    obtain ⟨Rf,R',R0,p1,p2,p3,p4,p5,p6,p7,p8⟩:=QD j i r q wt ht g0 g1 g2
    have eR:R=R':=by
     rw [p4] at g3
     simp [Wr.loc,Loc.beq] at g3
     exact g3.symm
    subst eR
    have hroot:(aj Pw (aj (nO ts) σ)).roots r=some R:=by
     rw [p4]; exact aF ..
    refine ⟨⟨b,cp,rfl,fun R2 hR2 hv2 _ dd hdd=>?_⟩,R,hroot, .inr (abI _)⟩
    rw [hroot] at hR2
    simp only [abr] at hR2
    subst hR2
    obtain ⟨wh,uI⟩:=p8 hv2
    obtain ⟨hk,wz⟩:=g5 Rf ⟨p1,p2.1⟩ p3
    have hh:uH.hdr (aL j)=[.slice b n cp]:=by
     unfold VC at wz
     split at wz
     ·simp at wz
     ·exact wz.1
    exact ⟨p6,p7,n,wh,by rw [←hh]; exact uI,g4⟩)
   refine ⟨α3,[], ?_⟩
   rw [hv]
   exact k1.put (hdn d rfl) (M9 k3) (Kv k2)
 ·exact h.elim
end
end
section
open Go
variable [Fr]
section
variable {P:Program} {T:gL} {cx:Cx} {σ:St} {α:dA} {F:List Nat} {a:Act} {w:World} {o:Oper} {ws:List Wr} {hi:Hint} {n:Nat}
def Px (P:Program) (cx:Cx) (o:Oper) (a:Act) (w:World) (σ':St):Prop:=
 ∀(K:Act→World→Prop) (Q:Exit→Act→World→Prop),(∀α' F' a' w',Rel cx σ' α' F' a' w'→K a' w')→o.wp P a w K Q
theorem lS.toW {σ':St} (h:lS P cx o a w σ'):Px P cx o a w σ':=fun K Q hK=>h.wp hK
def nZ (P:Program) (n:Nat) (hi:Hint):Prop:=∀q∈hi.calls,aG P n q.2.2
theorem CE {f d:Nat}:∀{l:List (Nat×Option Nat×Entry)} {E:Entry},nI f d l=some E→∃q∈l,q.2.2=E:=by
 intro l
 induction l with
 | nil=>intro E h; simp [nI] at h
 | cons q l ih=>
  intro E h
  obtain ⟨g,od,E'⟩:=q
  cases od with
  | none=>
   unfold nI at h
   cases hb:Nat.beq f g with
   | true=>rw [hb] at h; simp only [cond_true,abr] at h; exact ⟨_,abY,h⟩
   | false=>
    rw [hb] at h
    obtain ⟨q,h1,h2⟩:=ih h
    exact ⟨q,abQ _ h1,h2⟩
  | some e=>
   unfold nI at h
   cases hb:(Nat.beq f g && Nat.beq d e) with
   | true=>rw [hb] at h; simp only [cond_true,abr] at h; exact ⟨_,abY,h⟩
   | false=>
    rw [hb] at h
    obtain ⟨q,h1,h2⟩:=ih h
    exact ⟨q,abQ _ h1,h2⟩
theorem Gl {l m:List AV} {vs us:List Value} (h1:dJ cx σ α F w l vs) (h2:dJ cx σ α F w m us):dJ cx σ α F w (l++m) (vs++us):=by
 induction l generalizing vs with
 | nil=>cases vs with
  | nil=>exact h2
  | cons _ _=>exact h1.elim
 | cons x l ih=>cases vs with
  | nil=>exact h1.elim
  | cons v vs=>exact ⟨h1.1,ih h1.2⟩
theorem BA:∀{cs:List (TypeId×Dat×List Tag)} {vs:List Value},jE cx σ α F w cs vs→dJ cx σ α F w (cs.map fun q=>.gV q.1 q.2.1.1 q.2.1.2 q.2.2) vs
 | [],[],_=>trivial
 | _ :: _,_ :: _,h=>⟨h.1,BA h.2⟩
 | [],_ :: _,h=>h.elim
 | _ :: _,[],h=>h.elim
theorem DN (hC:nZ P n hi) (H:Rel cx σ α F a w) {c:Call} (ho:o.op=.call c) (hdn:∀d,o.dst=some d→d<cx.nt) (h:(Hy hi n o.dst c fun ws=>(.ret ws:Prog (List Wr))).ends σ ws):Px P cx o a w (aj ws σ):=by
 intro K Q hK
 unfold Hy at h
 split at h
 ·rename_i f XX
  obtain ⟨fv,h1,h2,h⟩:=bI H h
  cases fv with
  | fn f' caps=>
   simp only at h
   obtain ⟨us,e1,e2⟩:=h1
   obtain ⟨l,h3,h4,h⟩:=gY H h
   cases hf:nI f' (o.dst.getD 0) hi.calls with
   | none=>rw [hf] at h; exact h.elim
   | some E=>
    rw [hf] at h
    simp only at h
    rcases ah h with ⟨hb,h9⟩ | ⟨_,h⟩
    ·have hEf:E.f=f':=abw hb
     clear h
     subst hEf
     obtain ⟨q,hq,rfl⟩:=CE hf
     have hcall:=IX (hC q hq) H (Gl h3 (BA e2)) (fun v hv=>by
      rcases abB.1 hv with h | h
      ·exact h4 v h
      ·obtain ⟨cc,hcc,rfl⟩:=ab2.1 h
       exact h2 cc hcc) hdn h9
     have hargs:(c.args.toList.map a.eval++us).toArray=c.args.map a.eval++us.toArray:=by
      apply Array.ext'
      simp
     rw [hargs] at hcall
     have hrun:(execOp a.eval o).run P w=(callFunc q.2.2.f (c.args.map a.eval++us.toArray)).run P w:=by
      simp only [execOp,ho,resolve,XX,e1,Deferred.ofValue,abR,abW,abK,invoke,Array.empty_append]
     unfold Oper.wp
     rw [hrun]
     rcases hcall with ⟨g1,g2⟩ | ⟨v,w',g1,α',F',g2⟩
     ·rw [g1]
      refine g2.mono fun e w' he=>?_
      obtain ⟨v,rfl,α',F',hR⟩:=he
      exact hK _ _ _ _ hR
     ·rw [g1]
      exact hK _ _ _ _ g2
    ·exact h.elim
  | _=>exact h.elim
 ·exact h.elim
theorem E5 (hT:dO P T) (hSt:AO P T) (hC:nZ P n hi) (H:Rel cx σ α F a w) (hnt:hi.nt=cx.nt) (h:(yh T hi n o fun ws=>(.ret ws:Prog (List Wr))).ends σ ws):Px P cx o a w (aj ws σ):=by
 unfold yh at h
 cases hd:o.dst with
 | none=>
  rw [hd] at h
  simp only at h
  unfold Pq at h
  split at h
  ·rename_i t x v ho
   exact (FZ hT H hd ho h).toW
  ·rename_i c ho
   split at h
   ·rename_i hcb
    obtain ⟨vs,h1,h2,h⟩:=gY H h
    split at h
    ·split at h
     ·rename_i ht0
      obtain ⟨v,w',α',r1,r2⟩:=Ja hT H ho hcb h1 ht0 h
      refine (show lS P cx o a w (aj ws σ) from ⟨v,w',α',[], .inl r1, ?_⟩).toW
      rw [hd]
      exact r2
     ·exact h.elim
    ·exact h.elim
   ·exact DN hC H ho (by rw [hd]; simp) (by rw [hd]; exact h)
  ·exact h.elim
 | some d=>
  rw [hd] at h
  simp only at h
  rcases ah h with ⟨hb,h⟩ | ⟨_,h⟩
  ·have hdn:d<cx.nt:=by
    rw [←hnt]
    unfold Nat.blt at hb
    exact Nat.le_of_ble_eq_true hb
   rcases ah h with ⟨_,h⟩ | ⟨_,h⟩
   ·exact (CB hT H hd hdn h).toW
   rcases ah h with ⟨_,h⟩ | ⟨_,h⟩
   ·exact (D6 hT H hd hdn h).toW
   unfold Pp at h
   cases ho:o.op with
   | move x=>rw [ho] at h; exact (KI H hd hdn ho h).toW
   | assign x=>rw [ho] at h; exact (FX (L:=Ik hi d) H hd hdn ho h).toW
   | pick c x y=>rw [ho] at h; exact (KJ H hd hdn ho h).toW
   | alloc t=>rw [ho] at h; exact (I7 hT H hd hdn ho h).toW
   | box t x=>rw [ho] at h; exact (Nk H hd hdn ho h).toW
   | build t ps=>rw [ho] at h; exact (BB hT H hd hdn h ho).toW
   | buildSlice t l ps=>rw [ho] at h; exact (zq (L:=Ik hi d) hT H hd hdn h ho).toW
   | load t x=>rw [ho] at h; exact (KH hT H hd hdn ho h).toW
   | nilCheck x=>rw [ho] at h; exact (Cz H hd hdn ho h).toW
   | binOp op t x y t2=>rw [ho] at h; exact (I8 hT hSt H hd hdn ho h).toW
   | unOp op t x=>rw [ho] at h; exact (KL H hd hdn ho h).toW
   | convert s t x=>rw [ho] at h; exact (DX hT H hd hdn ho h).toW
   | field t x n=>rw [ho] at h; exact (Jc hT H hd hdn ho h).toW
   | fieldAddr t x n=>rw [ho] at h; exact (AR hT H hd hdn ho h).toW
   | indexAddr t x y=>rw [ho] at h; exact (AU hT H hd hdn ho h).toW
   | index t x y=>rw [ho] at h; exact (Jd hT H hd hdn ho h).toW
   | extract x i=>rw [ho] at h; exact (DY H hd hdn ho h).toW
   | makeSlice t x y=>rw [ho] at h; exact (AX hT H hd hdn h ho).toW
   | makeFunc f first caps=>
    rw [ho] at h
    cases f with
    | func f=>exact (Cy H hd hdn ho h).toW
    | _=>exact h.elim
   | slice t x lo hi2 mx=>rw [ho] at h; exact (Je hT H hd hdn h ho).toW
   | call c=>
    rw [ho] at h
    simp only at h
    split at h
    ·rename_i hcb; exact (Nl hT H hd hdn ho hcb h).toW
    ·rename_i hcb; exact (FW hT H hd hdn ho hcb h).toW
    ·rename_i hcb; exact (zu (mx:=false) H hd hdn ho hcb h).toW
    ·rename_i hcb; exact (zu (mx:=true) H hd hdn ho hcb h).toW
    ·exact DN hC H ho (by rw [hd]; intro d2 e; simp only [abr] at e; subst e; exact hdn) (by rw [hd]; exact h)
    ·exact h.elim
   | _=>rw [ho] at h; exact h.elim
  ·exact h.elim
end
end
section
open Go
variable [Fr]
def Prog.lJ {α:Type}:Prog α→St→List Loc→α→List Loc→Prop
 | .ret a,_,l,x,l'=>x=a∧l'=l
 | .fail,_,_,_,_=>False
 | .slot n k,σ,l,x,l'=>(k (σ.slots n)).lJ σ (.s n :: l) x l'
 | .root r k,σ,l,x,l'=>(k (σ.roots r)).lJ σ (.r r :: l) x l'
 | .nY c _ k,σ,l,x,l'=>c∧k.lJ σ l x l'
 | .br c t e,σ,l,x,l'=>(c=true∧t.lJ σ l x l')∨(c=false∧e.lJ σ l x l')
 | .opt _ o k,σ,l,x,l'=>∃b,o=some b∧(k b).lJ σ l x l'
theorem BU {α R:Type} (p:Prog α) {σ:St} {l:List Loc} {K:α→List Loc→Option R} {r:R} (h:p.yA σ l K=some r):∃x l',p.lJ σ l x l'∧K x l'=some r:=by
 induction p generalizing l with
 | ret a=>exact ⟨a,l,⟨rfl,rfl⟩,h⟩
 | fail=>simp [Prog.yA] at h
 | slot n k ih=>exact ih _ h
 | root n k ih=>exact ih _ h
 | nY c d k ih=>
  simp only [Prog.yA] at h
  split at h
  ·rename_i hc
   obtain ⟨x,l',h1,h2⟩:=ih h
   exact ⟨x,l',⟨hc,h1⟩,h2⟩
  ·simp at h
 | br c t e Gi Gh=>
  simp only [Prog.yA] at h
  cases c with
  | true=>
   simp only [if_true] at h
   obtain ⟨x,l',h1,h2⟩:=Gi h
   exact ⟨x,l', .inl ⟨rfl,h1⟩,h2⟩
  | false=>
   simp only [abv,if_false] at h
   obtain ⟨x,l',h1,h2⟩:=Gh h
   exact ⟨x,l', .inr ⟨rfl,h1⟩,h2⟩
 | opt β o k ih=>
  simp only [Prog.yA] at h
  cases o with
  | none=>simp at h
  | some b=>
   simp only [abt] at h
   obtain ⟨x,l',h1,h2⟩:=ih b h
   exact ⟨x,l',⟨b,rfl,h1⟩,h2⟩
theorem zC {α:Type} (p:Prog α) {σ:St} {l l':List Loc} {x:α} (h:p.lJ σ l x l'):p.ends σ x:=by
 induction p generalizing l with
 | ret a=>exact h.1
 | fail=>exact h.elim
 | slot n k ih=>exact ih _ h
 | root n k ih=>exact ih _ h
 | nY c d k ih=>exact ⟨h.1,ih h.2⟩
 | br c t e Gi Gh=>exact h.imp (fun h=>⟨h.1,Gi h.2⟩) (fun h=>⟨h.1,Gh h.2⟩)
 | opt β o k ih=>obtain ⟨b,h1,h2⟩:=h; exact ⟨b,h1,ih b h2⟩
theorem zD {α:Type} (p:Prog α) {σ:St} {x:α} (h:p.ends σ x):∀l,∃l',p.lJ σ l x l':=by
 induction p with
 | ret a=>exact fun l=>⟨l,h,rfl⟩
 | fail=>exact h.elim
 | slot n k ih=>exact fun l=>ih _ h _
 | root n k ih=>exact fun l=>ih _ h _
 | nY c d k ih=>exact fun l=>(ih h.2 l).imp fun _ h'=>⟨h.1,h'⟩
 | br c t e Gi Gh=>
  intro l
  rcases h with h | h
  ·exact (Gi h.2 l).imp fun _ h'=>.inl ⟨h.1,h'⟩
  ·exact (Gh h.2 l).imp fun _ h'=>.inr ⟨h.1,h'⟩
 | opt β o k ih=>obtain ⟨b,h1,h2⟩:=h; exact fun l=>(ih b h2 l).imp fun _ h'=>⟨b,h1,h'⟩
theorem xg {α:Type} (p:Prog α) {σ:St} {l l':List Loc} {x:α} (h:p.lJ σ l x l'):∀y∈l,y∈l':=by
 induction p generalizing l with
 | ret a=>rw [h.2]; exact fun _ h=>h
 | fail=>exact h.elim
 | slot n k ih=>exact fun y hy=>ih _ h y (by simp [hy])
 | root n k ih=>exact fun y hy=>ih _ h y (by simp [hy])
 | nY c d k ih=>exact ih h.2
 | br c t e Gi Gh=>rcases h with h | h; exact Gi h.2; exact Gh h.2
 | opt β o k ih=>obtain ⟨b,h1,h2⟩:=h; exact ih b h2
def agree (σ τ:St):Loc→Prop
 | .s n=>τ.slots n=σ.slots n
 | .r n=>τ.roots n=σ.roots n
theorem xN {α:Type} (p:Prog α) {σ τ:St} {l l':List Loc} {x:α} (h:p.lJ σ l x l') (ha:∀y∈l',agree σ τ y):p.lJ τ l x l':=by
 induction p generalizing l with
 | ret a=>exact h
 | fail=>exact h.elim
 | slot n k ih=>
  have h':(k (σ.slots n)).lJ σ (.s n :: l) x l':=h
  have:=ha (.s n) (xg _ h' _ abY)
  show (k (τ.slots n)).lJ τ _ _ _
  rw [show τ.slots n=σ.slots n from this]
  exact ih _ h
 | root n k ih=>
  have h':(k (σ.roots n)).lJ σ (.r n :: l) x l':=h
  have:=ha (.r n) (xg _ h' _ abY)
  show (k (τ.roots n)).lJ τ _ _ _
  rw [show τ.roots n=σ.roots n from this]
  exact ih _ h
 | nY c d k ih=>exact ⟨h.1,ih h.2⟩
 | br c t e Gi Gh=>exact h.imp (fun h=>⟨h.1,Gi h.2⟩) (fun h=>⟨h.1,Gh h.2⟩)
 | opt β o k ih=>obtain ⟨b,h1,h2⟩:=h; exact ⟨b,h1,ih b h2⟩
theorem xX {a b:Loc}:a.beq b=true↔a=b:=by
 cases a <;> cases b <;> simp [Loc.beq]
theorem EE {x:Loc} {l:List Loc}:JH x l=true↔x∈l:=by
 induction l with
 | nil=>simp [JH]
 | cons y l ih=>
  simp only [JH,abE]
  cases h:x.beq y with
  | true=>simp [xX.1 h]
  | false=>
   have:x≠y:=fun e=>by rw [e] at h; rw [(xX (a:=y) (b:=y)).2 rfl] at h; simp at h
   simp [this,ih]
theorem yT {a b:List Loc}:Cn a b=true↔∀x∈a,x∉b:=by
 unfold Cn
 rw [abH]
 refine ⟨fun h x hx hb=>?_,fun h x hx=>?_⟩
 ·have:=h x hx
  rw [EE.2 hb] at this
  simp at this
 ·cases hm:JH x b with
  | false=>rfl
  | true=>exact absurd (EE.1 hm) (h x hx)
theorem wX (wr:Wr) (σ:St) {y:Loc} (h:y≠wr.loc):agree σ (wr.app σ) y:=by
 cases wr with
 | s n a=>
  cases y with
  | s m=>exact upd_ne _ _ (fun e=>h (by rw [e]; rfl))
  | r m=>rfl
 | r n o=>
  cases o with
  | none=>
   cases y with
   | s m=>rfl
   | r m=>exact upd_ne _ _ (fun e=>h (by rw [e]; rfl))
  | some R=>
   cases y with
   | s m=>rfl
   | r m=>exact upd_ne _ _ (fun e=>h (by rw [e]; rfl))
theorem DC {σ τ ρ:St} {y:Loc} (h1:agree σ τ y) (h2:agree τ ρ y):agree σ ρ y:=by
 cases y with
 | s n=>exact h2.trans h1
 | r n=>exact h2.trans h1
theorem kG:∀(ws:List Wr) (σ:St) {y:Loc},y∉ws.map Wr.loc→agree σ (aj ws σ) y
 | [],σ,y,_=>by cases y <;> rfl
 | w :: ws,σ,y,h=>by
  simp only [List.map_cons,abE,not_or] at h
  exact DC (wX w σ h.1) (kG ws _ h.2)
theorem St.ext' {σ τ:St} (h:∀y,agree σ τ y):τ=σ:=by
 obtain ⟨s,r⟩:=σ
 obtain ⟨s',r'⟩:=τ
 have h1:s'=s:=funext fun n=>h (.s n)
 have h2:r'=r:=funext fun n=>h (.r n)
 subst h1
 subst h2
 rfl
theorem DI (w:Wr) (σ τ:St):agree (w.app σ) (w.app τ) w.loc:=by
 cases w with
 | s n a=>show upd τ.slots n a n=upd σ.slots n a n; rw [upd_same,upd_same]
 | r n o=>cases o <;> (show upd _ n _ n=upd _ n _ n; rw [upd_same,upd_same])
theorem Kt (w:Wr) {σ τ:St} {y:Loc} (h:agree σ τ y):agree (w.app σ) (w.app τ) y:=by
 by_cases e:y=w.loc
 ·subst e; exact DI w σ τ
 ·have h1:=wX w σ e
  have h2:=wX w τ e
  cases y with
  | s n=>exact h2.trans (h.trans h1.symm)
  | r n=>exact h2.trans (h.trans h1.symm)
theorem sV:∀(ws:List Wr) {σ τ:St} {y:Loc},agree σ τ y→agree (aj ws σ) (aj ws τ) y
 | [],_,_,_,h=>h
 | w :: ws,_,_,_,h=>sV ws (Kt w h)
theorem Bp:∀(ws:List Wr) {σ τ:St} {y:Loc},y∈ws.map Wr.loc→agree (aj ws σ) (aj ws τ) y
 | [],_,_,_,h=>by simp at h
 | w :: ws,σ,τ,y,h=>by
  simp only [List.map_cons,abE] at h
  by_cases e:y∈ws.map Wr.loc
  ·exact Bp ws e
  ·have e2:y=w.loc:=h.resolve_right e
   subst e2
   exact sV ws (DI w σ τ)
theorem DD {u v:List Wr} (h:∀x∈u.map Wr.loc,x∉v.map Wr.loc) (σ:St):aj u (aj v σ)=aj v (aj u σ):=by
 refine St.ext' fun y=>?_
 by_cases hu:y∈u.map Wr.loc
 ·have h1:agree (aj u σ) (aj v (aj u σ)) y:=kG v _ (h y hu)
  have h2:agree (aj u σ) (aj u (aj v σ)) y:=Bp u hu
  cases y with
  | s n=>exact h2.trans h1.symm
  | r n=>exact h2.trans h1.symm
 ·have h1:agree (aj v σ) (aj u (aj v σ)) y:=kG u _ hu
  have h2:agree (aj v σ) (aj v (aj u σ)) y:=by
   refine sV v ?_
   have:=kG u σ hu
   cases y with
   | s n=>exact this
   | r n=>exact this
  cases y with
  | s n=>exact h1.trans h2.symm
  | r n=>exact h1.trans h2.symm
section
variable {P:Program} {T:gL} {hi:Hint} {n:Nat} {ops:Array Oper}
inductive Ci (T:gL) (hi:Hint) (n:Nat) (ops:Array Oper) (o:Oper) (σ:St):List Wr→List Loc→Prop
 | plain (ws:List Wr) (rd:List Loc) (hg:guardOf ops o=none) (h:(yh T hi n o fun ws=>(.ret ws:Prog (List Wr))).lJ σ [] ws rd):Ci T hi n ops o σ ws rd
 | done (s:Nat) (want:Bool) (tg:List Tag) (ws:List Wr) (rd:List Loc) (hg:guardOf ops o=some (some s,want)) (hs:σ.slots s=.one (.val .bool want tg)) (h:(yh T hi n o fun ws=>(.ret ws:Prog (List Wr))).lJ σ [.s s] ws rd):Ci T hi n ops o σ ws rd
 | skip (s:Nat) (want:Bool) (hg:guardOf ops o=some (some s,want)) (hs:(∃tg,σ.slots s=.one (.val .bool (!want) tg))∨σ.slots s=.Cb []) (hd:zw hi o=true):Ci T hi n ops o σ (yg o) [.s s]
theorem Ci.agree {o:Oper} {σ τ:St} {ws:List Wr} {rd:List Loc} (h:Ci T hi n ops o σ ws rd) (ha:∀y∈rd,Ow.agree σ τ y):Ci T hi n ops o τ ws rd:=by
 cases h with
 | plain _ _ hg h=>exact .plain ws rd hg (xN _ h ha)
 | done s want tg _ _ hg hs h=>
  have:=ha (.s s) (xg _ h _ abY)
  exact .done s want tg ws rd hg (by rw [show τ.slots s=σ.slots s from this]; exact hs) (xN _ h ha)
 | skip s want hg hs hd=>
  have:=ha (.s s) (by simp)
  exact .skip s want hg (by rw [show τ.slots s=σ.slots s from this]; exact hs) hd
theorem BS {σ:St} {s:Nat} {b:Bool} {tg:List Tag} (h:σ.slots s=.one (.val .bool b tg)):refine σ s b tg=σ:=by
 unfold refine
 have:upd σ.slots s (.one (.val .bool b tg))=σ.slots:=by
  funext m
  by_cases e:m=s
  ·subst e; rw [upd_same,h]
  ·rw [upd_ne _ _ e]
 rw [this]
theorem zM {R:Type} {o:Oper} {σ:St} {go skip:List Loc→St→Option R} {r:R} (h:guarded σ ops o go skip=some r) :
  (guardOf ops o=none∧go [] σ=some r)∨(∃s want tg,guardOf ops o=some (some s,want)∧σ.slots s=.one (.val .bool want tg)∧go [.s s] σ=some r)∨
  (∃s want,guardOf ops o=some (some s,want)∧((∃tg,σ.slots s=.one (.val .bool (!want) tg))∨σ.slots s=.Cb [])∧skip [.s s] σ=some r):=by
 unfold guarded at h
 cases hg:guardOf ops o with
 | none=>rw [hg] at h; exact .inl ⟨rfl,h⟩
 | some q=>
  obtain ⟨os,want⟩:=q
  rw [hg] at h
  cases os with
  | none=>simp at h
  | some s=>
   simp only at h
   refine .inr ?_
   split at h
   ·rename_i b tg hs
    cases b with
    | true=>
     simp only [if_true] at h
     rw [BS hs] at h
     cases want with
     | true=>exact .inl ⟨s,true,tg,rfl,hs,h⟩
     | false=>exact .inr ⟨s,false,rfl, .inl ⟨tg,hs⟩,h⟩
    | false=>
     simp only [abv,if_false] at h
     rw [BS hs] at h
     cases want with
     | true=>exact .inr ⟨s,true,rfl, .inl ⟨tg,hs⟩,h⟩
     | false=>exact .inl ⟨s,false,tg,rfl,hs,h⟩
   ·rename_i hs
    exact .inr ⟨s,want,rfl, .inr hs,h⟩
   ·simp at h
variable {cx:Cx} {σ:St} {α:dA} {F:List Nat} {a:Act} {w:World}
theorem Rel.skipped (H:Rel cx σ α F a w) {o:Oper} (hnt:hi.nt=cx.nt) (hd:zw hi o=true):Rel cx (aj (yg o) σ) α F (a.put o.dst undef) w:=by
 unfold yg zw at *
 cases ho:o.dst with
 | none=>exact H
 | some d=>
  rw [ho] at hd
  have hdn:d<cx.nt:=by
   rw [←hnt]
   have:Nat.blt d hi.nt=true:=hd
   unfold Nat.blt at this
   exact Nat.le_of_ble_eq_true this
  exact H.put hdn (fun a ha=>by simp at ha) ⟨[],rfl,trivial⟩
theorem yK (hT:dO P T) (hSt:AO P T) (hC:nZ P n hi) (H:Rel cx σ α F a w) (hnt:hi.nt=cx.nt) {i:Nat} {o:Oper} (ho:ops[i]?=some o) {ws:List Wr} {rd:List Loc} (h:Ci T hi n ops o σ ws rd)
  {K:Act→World→Prop} {Q:Exit→Act→World→Prop} (hK:∀α' F' a' w',Rel cx (aj ws σ) α' F' a' w'→K a' w'):wpOp P ops Q i K a w:=by
 unfold wpOp
 simp only [ho]
 have Lu:∀{s:Nat} {want:Bool},guardOf ops o=some (some s,want)→∃g,o.guard=some (g,want)∧(ops[g]?).bind (·.dst)=some s:=by
  intro s want hg
  unfold guardOf at hg
  cases hgd:o.guard with
  | none=>rw [hgd] at hg; simp at hg
  | some q=>
   obtain ⟨g,wt⟩:=q
   rw [hgd] at hg
   simp only [abr,abD] at hg
   exact ⟨g,by rw [hg.2],hg.1⟩
 have UM:∀{s:Nat} {v:Value},a.tmps.getD s undef=v→(∃b,v=.bool b)→a.tmps[s]?=some v:=by
  rintro s v h ⟨b,rfl⟩
  rw [Array.getD_eq_getD_getElem?] at h
  cases hs:a.tmps[s]? with
  | none=>rw [hs] at h; simp [undef] at h
  | some u=>rw [hs] at h; simpa using h
 cases h with
 | plain _ _ hg h=>
  have hw:Region.wanted o (yielded ops a.tmps)=true:=by
   unfold Region.wanted
   unfold guardOf at hg
   cases hgd:o.guard with
   | none=>rfl
   | some q=>rw [hgd] at hg; simp at hg
  rw [if_pos hw]
  exact .inl (E5 hT hSt hC H hnt (zC _ h) K Q hK)
 | done s want tg _ _ hg hs h=>
  have hw:Region.wanted o (yielded ops a.tmps)=true:=by
   obtain ⟨g,h1,h2⟩:=Lu hg
   unfold Region.wanted
   rw [h1]
   have hb:=H.slots s
   rw [hs] at hb
   have:=qZ (show bz cx σ α F w (.val .bool want tg) _ from hb)
   have h3:=UM this ⟨_,rfl⟩
   show (yielded ops a.tmps g == some want)=true
   unfold yielded
   rw [h2]
   simp only [abt,h3]
   simp
  rw [if_pos hw]
  exact .inl (E5 hT hSt hC H hnt (zC _ h) K Q hK)
 | skip s want hg hs hd=>
  have hw:Region.wanted o (yielded ops a.tmps)=false:=by
   obtain ⟨g,h1,h2⟩:=Lu hg
   unfold Region.wanted
   rw [h1]
   have hb:=H.slots s
   show (yielded ops a.tmps g == some want)=false
   unfold yielded
   rw [h2]
   rcases hs with ⟨tg,hs⟩ | hs
   ·rw [hs] at hb
    have:=qZ (show bz cx σ α F w (.val .bool (!want) tg) _ from hb)
    have h3:=UM this ⟨_,rfl⟩
    simp only [abt,h3]
    cases want <;> rfl
   ·rw [hs] at hb
    obtain ⟨vs,h3,h4⟩:=hb
    cases vs with
    | cons _ _=>exact h4.elim
    | nil=>
     rw [Array.getD_eq_getD_getElem?] at h3
     simp only [abt]
     cases hs2:a.tmps[s]? with
     | none=>rfl
     | some u=>
      rw [hs2] at h3
      simp only [Option.getD_some] at h3
      subst h3
      rfl
  rw [if_neg (by rw [hw]; simp)]
  exact hK _ _ _ _ (H.skipped hnt hd)
theorem F8 (hT:dO P T) (hSt:AO P T) (hC:nZ P n hi) (hnt:hi.nt=cx.nt) {R:Type} {K:St→Option R} {r:R} {Q:Exit→Act→World→Prop} (hQ:∀σ' α' F' a' w',K σ'=some r→Rel cx σ' α' F' a' w'→Q .normal a' w') :
  ∀(l:List Oper) (i:Nat) {σ:St} {α:dA} {F:List Nat} {a:Act} {w:World},ops.toList.drop i=l→vX T hi n ops l σ K=some r→Rel cx σ α F a w→wpOps P ops Q (List.range' i l.length) a w:=by
 intro l
 induction l with
 | nil=>intro i σ α F a w _ h H; exact hQ _ _ _ _ _ h H
 | cons o l ih=>
  intro i σ α F a w hl h H
  have hoi:ops[i]?=some o:=by
   have:=congrArg (fun l=>l[0]?) hl
   simpa using this
  have hl':ops.toList.drop (i+1)=l:=by
   have:=congrArg List.tail hl
   simpa using this
  simp only [abP,List.range'_succ]
  rw [wpOps_cons]
  unfold vX at h
  rcases zM h with ⟨hg,h⟩ | ⟨s,want,tg,hg,hs,h⟩ | ⟨s,want,hg,hs,h⟩
  ·obtain ⟨ws,h1,h2⟩:=pK _ h
   obtain ⟨rd,h3⟩:∃rd,(yh T hi n o fun ws=>(.ret ws:Prog (List Wr))).lJ σ [] ws rd:=zD _ h1 []
   exact yK hT hSt hC H hnt hoi (.plain ws rd hg h3) (fun α' F' a' w' H'=>ih (i+1) hl' h2 H')
  ·obtain ⟨ws,h1,h2⟩:=pK _ h
   obtain ⟨rd,h3⟩:∃rd,(yh T hi n o fun ws=>(.ret ws:Prog (List Wr))).lJ σ [.s s] ws rd:=zD _ h1 _
   exact yK hT hSt hC H hnt hoi (.done s want tg ws rd hg hs h3) (fun α' F' a' w' H'=>ih (i+1) hl' h2 H')
  ·cases hd:zw hi o with
   | false=>rw [hd] at h; simp at h
   | true=>
    rw [hd] at h
    exact yK hT hSt hC H hnt hoi (.skip s want hg hs hd) (fun α' F' a' w' H'=>ih (i+1) hl' h H')
end
end
section
open Go
variable [Fr]
section
variable {P:Program} {T:gL} {hi:Hint} {n:Nat} {ops:Array Oper} {cx:Cx} {σ:St} {α:dA} {F:List Nat} {a:Act} {w:World}
structure Ev where
 i:Nat
 ws:List Wr
 rd:List Loc
def Ev.wr (e:Ev):List Loc:=e.ws.map Wr.loc
def Rm (ops:Array Oper) (j i:Nat):Prop:=leads ops 7 j i=true
theorem Eu {ops:Array Oper}:∀{f:Nat} {j i:Nat},leads ops f j i=true→leads ops (f+1) j i=true
 | 0,_,_,h=>by simp [leads] at h
 | f+1,j,i,h=>by
  unfold leads at h ⊢
  simp only [Bool.or_eq_true,List.any_eq_true,aby] at h ⊢
  rcases h with h | ⟨b,hb,h1,h2⟩
  ·exact .inl h
  ·exact .inr ⟨b,hb,h1,Eu h2⟩
theorem wE {ops:Array Oper} {L:Nat→Prop} (hcl:∀b,L b→∀c∈binders ops b,L c):∀{f:Nat} {j i:Nat},leads ops f j i=true→(∀c∈binders ops i,L c)→L j
 | 0,_,_,h,_=>by simp [leads] at h
 | f+1,j,i,h,hi=>by
  unfold leads at h
  simp only [Bool.or_eq_true,List.any_eq_true,aby] at h
  rcases h with h | ⟨b,hb,_,h2⟩
  ·exact hi j (bu.1 h)
  ·exact wE hcl h2 (hcl b (hi b hb))
def Dq (e e':Ev):Prop:=(∀x∈e.wr,x∉e'.rd++e'.wr)∧∀x∈e.rd,x∉e'.wr
def xI (T:gL) (hi:Hint) (n:Nat) (ops:Array Oper):List Ev→St→St→Prop
 | [],σ,τ=>τ=σ
 | e :: l,σ,τ=>(∃o,ops[e.i]?=some o∧Ci T hi n ops o σ e.ws e.rd)∧xI T hi n ops l (aj e.ws σ) τ
def IM (ops:Array Oper):List Ev→Prop
 | []=>True
 | e :: l=>(∀e'∈l,Rm ops e.i e'.i∨Dq e e')∧IM ops l
theorem FR {e e':Ev} {l:List Ev} {τ:St} (hi':Dq e e') (h:xI T hi n ops (e :: e' :: l) σ τ):xI T hi n ops (e' :: e :: l) σ τ:=by
 obtain ⟨⟨o,ho,h1⟩,⟨o',ho',h2⟩,h3⟩:=h
 have ha:∀y∈e'.rd,Ow.agree (aj e.ws σ) σ y:=by
  intro y hy
  have:=kG e.ws σ (y:=y) (fun hm=>hi'.1 y hm (abx _ hy))
  cases y with
  | s n=>exact this.symm
  | r n=>exact this.symm
 have hb:∀y∈e.rd,Ow.agree σ (aj e'.ws σ) y:=fun y hy=>kG e'.ws σ (hi'.2 y hy)
 refine ⟨⟨o',ho',h2.agree ha⟩,⟨o,ho,h1.agree hb⟩, ?_⟩
 rw [DD (u:=e.ws) (v:=e'.ws) (fun x hx hx'=>hi'.1 x hx (abu _ hx'))]
 exact h3
theorem DU {e:Ev} {l:List Ev}:∀{pre:List Ev} {σ τ:St},(∀x∈pre,Dq x e)→xI T hi n ops (pre++e :: l) σ τ→xI T hi n ops (e :: (pre++l)) σ τ:=by
 intro pre
 induction pre with
 | nil=>intro σ τ _ h; exact h
 | cons x pre ih=>
  intro σ τ hx h
  refine FR (hx x (by simp)) ?_
  obtain ⟨h1,h2⟩:=h
  exact ⟨h1,ih (fun y hy=>hx y (by simp [hy])) h2⟩
theorem JM {e:Ev} {l:List Ev}:∀{pre:List Ev},IM ops (pre++e :: l)→IM ops (pre++l)∧∀x∈pre,Rm ops x.i e.i∨Dq x e:=by
 intro pre
 induction pre with
 | nil=>intro h; exact ⟨h.2,by simp⟩
 | cons x pre ih=>
  intro h
  obtain ⟨g1,g2⟩:=ih h.2
  refine ⟨⟨fun e' he'=>h.1 e' ?_,g1⟩,fun y hy=>?_⟩
  ·rcases abB.1 he' with h | h
   ·exact abx _ h
   ·exact abu _ (abQ _ h)
  ·rcases abE.1 hy with h' | h'
   ·subst h'; exact h.1 e (by simp)
   ·exact g2 y h'
theorem F4 {e:Eff} {l:List Eff} (h:xM ops e l=true):(∀b∈binders ops e.i,b<e.i)∧∀b∈l,Rm ops b.i e.i∨((∀x∈b.wr,x∉e.rd++e.wr)∧∀x∈b.rd,x∉e.wr):=by
 unfold xM at h
 simp only [aby,abH] at h
 refine ⟨fun b hb=>?_,fun b hb=>?_⟩
 ·have:=h.1 b hb
  unfold Nat.blt at this
  exact Nat.le_of_ble_eq_true this
 ·have:=h.2 b hb
  rw [Bool.or_eq_true,Bool.or_eq_true,aby] at this
  rcases this with h1 | ⟨h1,h2⟩ | h1
  ·exact .inl (by unfold Rm leads; rw [h1]; rfl)
  ·exact .inr ⟨yT.1 h1,yT.1 h2⟩
  ·exact .inl (Eu h1)
theorem D8 {R:Type} {K:St→Option R} {r:R}:∀(l:List Oper) (i:Nat) (es:List Eff) {σ:St},ops.toList.drop i=l→zF T hi n ops l i es σ K=some r→
  ∃(evs:List Ev) (τ:St),K τ=some r∧xI T hi n ops evs σ τ∧IM ops evs∧evs.map (·.i)=List.range' i l.length∧(∀e∈evs,∀b∈binders ops e.i,b<e.i)∧
   ∀e∈evs,∀b∈es,Rm ops b.i e.i∨((∀x∈b.wr,x∉e.rd++e.wr)∧∀x∈b.rd,x∉e.wr):=by
 intro l
 induction l with
 | nil=>intro i es σ _ h; exact ⟨[],σ,h,rfl,trivial,rfl,by simp,by simp⟩
 | cons o l ih=>
  intro i es σ hl h
  have hoi:ops[i]?=some o:=by
   have:=congrArg (fun l=>l[0]?) hl
   simpa using this
  have hl':ops.toList.drop (i+1)=l:=by
   have:=congrArg List.tail hl
   simpa using this
  have step:∀{ws:List Wr} {rd:List Loc},Ci T hi n ops o σ ws rd→xM ops ⟨i,rd,ws.map Wr.loc⟩ es=true→zF T hi n ops l (i+1) (⟨i,rd,ws.map Wr.loc⟩ :: es) (aj ws σ) K=some r→
    ∃(evs:List Ev) (τ:St),K τ=some r∧xI T hi n ops evs σ τ∧IM ops evs∧evs.map (·.i)=List.range' i (l.length+1)∧(∀e∈evs,∀b∈binders ops e.i,b<e.i)∧
     ∀e∈evs,∀b∈es,Rm ops b.i e.i∨((∀x∈b.wr,x∉e.rd++e.wr)∧∀x∈b.rd,x∉e.wr):=by
   intro ws rd hab hok h
   obtain ⟨evs,τ,g1,g2,g3,g4,g5,g6⟩:=ih (i+1) _ hl' h
   obtain ⟨k1,k2⟩:=F4 hok
   refine ⟨⟨i,ws,rd⟩ :: evs,τ,g1,⟨⟨o,hoi,hab⟩,g2⟩,⟨fun e' he'=>?_,g3⟩, ?_, ?_, ?_⟩
   ·exact g6 e' he' ⟨i,rd,ws.map Wr.loc⟩ (by simp)
   ·rw [List.range'_succ,List.map_cons,g4]
   ·intro e he
    rcases abE.1 he with h | h
    ·subst h; exact k1
    ·exact g5 e h
   ·intro e he b hb
    rcases abE.1 he with h | h
    ·subst h; exact k2 b hb
    ·exact g6 e h b (by simp [hb])
  simp only [abP]
  unfold zF at h
  rcases zM h with ⟨hg,h⟩ | ⟨s,want,tg,hg,hs,h⟩ | ⟨s,want,hg,hs,h⟩
  ·obtain ⟨ws,rd,h1,h2⟩:=BU _ h
   cases hok:xM ops ⟨i,rd,ws.map Wr.loc⟩ es with
   | false=>rw [hok] at h2; simp at h2
   | true=>rw [hok] at h2; exact step (.plain ws rd hg h1) hok h2
  ·obtain ⟨ws,rd,h1,h2⟩:=BU _ h
   cases hok:xM ops ⟨i,rd,ws.map Wr.loc⟩ es with
   | false=>rw [hok] at h2; simp at h2
   | true=>rw [hok] at h2; exact step (.done s want tg ws rd hg hs h1) hok h2
  ·cases hok:(zw hi o && xM ops ⟨i,[.s s],(yg o).map Wr.loc⟩ es) with
   | false=>rw [hok] at h; simp at h
   | true=>
    rw [hok] at h
    rw [aby] at hok
    exact step (.skip s want hg hs hok.1) hok.2 h
theorem I4 (hT:dO P T) (hSt:AO P T) (hC:nZ P n hi) (hnt:hi.nt=cx.nt) {Q:Exit→Act→World→Prop} {τ:St} (hQ:∀α' F' a' w',Rel cx τ α' F' a' w'→Q .normal a' w') :
  ∀(m:Nat) (evs:List Ev) (listed:Array Bool) {σ:St} {α:dA} {F:List Nat} {a:Act} {w:World},evs.length=m→xI T hi n ops evs σ τ→IM ops evs→(evs.map (·.i)).Pairwise (· < ·)→(∀e∈evs,∀b∈binders ops e.i,b<e.i)→
   listed.size=ops.size→(∀j,j<ops.size→(listed.getD j false=false↔j∈evs.map (·.i)))→(∀e∈evs,e.i<ops.size)→(∀b,listed.getD b false=true→∀c∈binders ops b,listed.getD c false=true)→Rel cx σ α F a w→wpAny P .any ops Q m listed a w:=by
 intro m
 induction m with
 | zero=>
  intro evs listed σ α F a w hl hc _ _ _ hsz hlist _ _ H
  have:evs=[]:=List.eq_nil_of_length_eq_zero hl
  subst this
  have hc':τ=σ:=hc
  subst hc'
  refine ⟨?_,hQ _ _ _ _ H⟩
  cases hr:Region.ready .any ops listed with
  | nil=>rfl
  | cons j l=>
   have hj:j∈Region.ready .any ops listed:=by rw [hr]; simp
   obtain ⟨h0,o,ho,_⟩:=mem_ready.1 hj
   have hlt:=(Array.getElem?_eq_some_iff.1 ho).1
   have:listed.getD j false=false:=by
    have hj2:j<listed.size:=by omega
    simp [hj2] at h0 ⊢
    exact h0
   exact absurd ((hlist j hlt).1 this) (by simp)
 | succ m ih=>
  intro evs listed σ α F a w hl hc hp hsort hbind hsz hlist hlt hcl H
  refine ⟨fun hr=>?_,fun j hj=>?_⟩
  ·
   exfalso
   cases evs with
   | nil=>simp at hl
   | cons e evs=>
    obtain ⟨⟨o,ho,_⟩,_⟩:=hc
    have he:e.i∈Region.ready .any ops listed:=by
     rw [mem_ready]
     have hei:=hlt e (by simp)
     have hun:=(hlist e.i hei).2 (by simp)
     refine ⟨?_,o,ho,fun q hq hb=>?_⟩
     ·have hj2:e.i<listed.size:=by omega
      simp [hj2] at hun ⊢
      exact hun
     ·have hm:q.on∈binders ops e.i:=by
       unfold binders
       rw [ho]
       simp only [Option.getD_some,ab2,abJ]
       exact ⟨q,⟨Array.mem_toList_iff.2 hq,hb⟩,rfl⟩
      have hlt2:=hbind e (by simp) q.on hm
      cases hb2:listed.getD q.on false with
      | true=>rfl
      | false=>
       have:=(hlist q.on (by omega)).1 hb2
       simp only [List.map_cons,abE] at this
       rcases this with h | h
       ·omega
       ·have hlt3:e.i<q.on:=by simpa using (List.pairwise_cons.1 hsort).1 q.on h
        omega
    rw [hr] at he
    simp at he
  ·obtain ⟨h0,o,ho,hall⟩:=mem_ready.1 hj
   have hjlt:=(Array.getElem?_eq_some_iff.1 ho).1
   have hj2:j<listed.size:=by omega
   have hun:listed.getD j false=false:=by
    simp [hj2] at h0 ⊢
    exact h0
   have hjm:=(hlist j hjlt).1 hun
   obtain ⟨e,he,hej⟩:=ab2.1 hjm
   obtain ⟨pre,post,hsplit⟩:=List.append_of_mem he
   subst hsplit
   subst hej
   obtain ⟨p1,p2⟩:=JM hp
   have hle:∀c∈binders ops e.i,listed.getD c false=true:=by
    intro c h
    unfold binders at h
    rw [ho] at h
    simp only [Option.getD_some,ab2,abJ] at h
    obtain ⟨q,⟨hq,hb⟩,hon⟩:=h
    rw [←hon]
    exact hall q (Array.mem_toList_iff.1 hq) hb
   have hpre:∀x∈pre,Dq x e:=by
    intro x hx
    rcases p2 x hx with h | h
    ·exfalso
     have hl2:=wE (L:=fun b=>listed.getD b false=true) hcl h hle
     have hxi:=hlt x (by simp [hx])
     have:=(hlist x.i hxi).2 (by simp only [List.map_append,abB,ab2]; exact .inl ⟨x,hx,rfl⟩)
     rw [hl2] at this
     simp at this
    ·exact h
   have hc2:=DU hpre hc
   obtain ⟨⟨o',ho',hab⟩,hc3⟩:=hc2
   rw [ho] at ho'
   simp only [abr] at ho'
   subst ho'
   have Lm:(pre.map (·.i)++e.i :: post.map (·.i)).Pairwise (· < ·):=by simpa using hsort
   have hsub:(pre++post).Sublist (pre++e :: post):=List.Sublist.append_left (List.sublist_cons_self _ _) _
   refine yK hT hSt hC H hnt ho hab (fun α' F' a' w' H'=>?_)
   refine ih (pre++post) (listed.setIfInBounds e.i true) (by simp at hl ⊢; omega) hc3 p1 (hsort.sublist (hsub.map _)) (fun x hx=>hbind x (hsub.subset hx)) (by simpa using hsz) (fun k hk=>?_) (fun x hx=>hlt x (hsub.subset hx)) ?_ H'
   rotate_left
   ·intro b hb c hc4
    have hset:∀k,listed.getD k false=true→(listed.setIfInBounds e.i true).getD k false=true:=fun k hk=>by
     by_cases hke:k=e.i
     ·subst hke; simp [hj2]
     ·rw [getD_set_ne false (Ne.symm hke)]; exact hk
    by_cases hbe:b=e.i
    ·subst hbe; exact hset c (hle c hc4)
    ·rw [getD_set_ne false (Ne.symm hbe)] at hb
     exact hset c (hcl b hb c hc4)
   have hnot:e.i∉(pre++post).map (·.i):=by
    intro hm
    rw [List.map_append,abB] at hm
    rcases hm with h | h
    ·have:=(List.pairwise_append.1 Lm).2.2 e.i h e.i (by simp)
     omega
    ·have:=(List.pairwise_cons.1 (List.pairwise_append.1 Lm).2.1).1 e.i h
     omega
   by_cases hke:k=e.i
   ·subst hke
    constructor
    ·intro h
     exfalso
     simp [hj2] at h
    ·intro h; exact absurd h hnot
   ·rw [getD_set_ne false (Ne.symm hke),hlist k hk]
    simp only [List.map_append,List.map_cons,abB,abE]
    constructor
    ·rintro (h | h | h)
     ·exact .inl h
     ·exact absurd h hke
     ·exact .inr h
    ·rintro (h | h)
     ·exact .inl h
     ·exact .inr (.inr h)
theorem KQ (hT:dO P T) (hSt:AO P T) (hC:nZ P n hi) (hnt:hi.nt=cx.nt) {R:Type} {K:St→Option R} {r:R} {Q:Exit→Act→World→Prop} (hQ:∀σ' α' F' a' w',K σ'=some r→Rel cx σ' α' F' a' w'→Q .normal a' w')
  (h:zF T hi n ops ops.toList 0 [] σ K=some r) (H:Rel cx σ α F a w):wpAny P .any ops Q ops.size (Array.replicate ops.size false) a w:=by
 obtain ⟨evs,τ,h1,h2,h3,h4,h5,_⟩:=D8 ops.toList 0 [] (by simp) h
 rw [Array.length_toList, ←List.range_eq_range'] at h4
 refine I4 hT hSt hC hnt (fun α' F' a' w' H'=>hQ _ _ _ _ _ h1 H') ops.size evs _ ?_ h2 h3 ?_ h5 (by simp) (fun j hj=>?_) (fun e he=>?_) (fun b hb=>?_) H
 rotate_left 4
 ·exfalso; by_cases hbs:b<ops.size <;> simp [hbs] at hb
 ·have:=congrArg List.length h4; simpa using this
 ·rw [h4]; exact List.pairwise_lt_range
 ·rw [h4]; simp [hj]
 ·have:e.i∈evs.map (·.i):=ab2.2 ⟨e,he,rfl⟩
  rw [h4] at this
  exact List.mem_range.1 this
end
end
end Go.Proofs.Ytabnmpabdhmkoaa.Ow
