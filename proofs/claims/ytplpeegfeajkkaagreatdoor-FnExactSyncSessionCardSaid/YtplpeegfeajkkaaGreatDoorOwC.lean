/- A verified reading of translated code, part C of 7. No condition. -/
import Derived.Test.YtplpeegfeajkkaaGreatDoorOwB
import Derived.Laws.Strings
import Derived.Laws.BytesString
import Derived.Laws.IdiomStrings
import Derived.Laws.MakeOwn
import Derived.Laws.Tables
import Derived.Laws.AppendOwn
set_option linter.unusedSectionVars false
set_option linter.unusedVariables false
set_option linter.unusedSimpArgs false
namespace Go.Proofs.YtplpeegfeajkkaaGreatDoor.Ow
section
open Go
variable [Fr]
theorem beq_true{a b:K}{A:Type}{x y:Prog A}{Z:St}{z:A}(h:(bif a.beq b then x else y).ends Z z):(a=b/\x.ends Z z)\/(a.beq b=false/\y.ends Z z):=by
 cases hb:a.beq b with
 |true=>rw[hb]at h;exact .inl ⟨K.eq_of_beq hb,h⟩
 |false=>rw[hb]at h;exact .inr ⟨rfl,h⟩
section
variable {P:Program}{T:bL}{cx:Cx}{Z:St}{J:aO}{F:List Nat}{a:Act}{w:World}{o:Oper}{d:Nat}{ws:List Wr}
theorem structField{P:Program}{T:bL}:∀(n:Nat) {c:K} {fs:List Field} {wD off:Nat} {k:K},(jK P T c).2 fs wD->bR n c=some (off,k)->∃f,fs[n]?=some f/\f.offset=wD+off/\dO P T f.type k/\0<k.size:=by
 intro n
 induction n with
 |zero=>
  intro c fs wD off k h ho
  cases c with
  |pair a b=>
   simp only[bR,au,bZ]at ho
   obtain⟨rfl,rfl⟩:=ho
   cases fs with
   |nil=>exact h.elim
   |cons f fs=>exact⟨f,rfl,h.1,h.2.1,h.2.2.1⟩
  |_=>simp[bR]at ho
 |succ n ih=>
  intro c fs wD off k h ho
  cases c with
  |pair a b=>
   simp only[bR]at ho
   cases h2:bR n b with
   |none=>rw[h2]at ho;simp at ho
   |some q=>
    rw[h2]at ho
    simp only[au,bZ]at ho
    cases fs with
    |nil=>exact h.elim
    |cons f fs=>
     obtain⟨g,g1,g2,g3,g4⟩:=ih (off:=q.1) (k:=q.2) h.2.2.2 (by rw[h2])
     exact⟨g,by simpa using g1,by rw[g2,<-ho.1];omega,by rw[<-ho.2];exact g3,by rw[<-ho.2];exact g4⟩
  |_=>simp[bR]at ho
theorem dO.st{t:TypeId}{c:K}(h:dO P T t (.st c)):∃fs,P.underlying t=some (.struct fs)/\(jK P T c).2 fs.toList 0:=by
 unfold dO jK at h
 exact h.1
theorem OZ{cs:List Value}{off n:Nat}(h:off+n<=cs.length):((cs.drop off).take n).length=n:=by simp;omega
theorem RI:∀(n:Nat) {c:K} {off:Nat} {k:K},bR n c=some (off,k)->off+k.size<=c.size:=by
 intro n
 induction n with
 |zero=>intro c off k h;cases c with
  |pair a b=>simp only[bR,au,bZ]at h;obtain⟨rfl,rfl⟩:=h;simp[K.size]
  |_=>simp[bR]at h
 |succ n ih=>intro c off k h;cases c with
  |pair a b=>
   simp only[bR]at h
   cases h2:bR n b with
   |none=>rw[h2]at h;simp at h
   |some q=>
    rw[h2]at h
    simp only[au,bZ]at h
    have:=ih (off:=q.1) (k:=q.2) (by rw[h2])
    simp only[K.size]
    rw[<-h.1,<-h.2]
    omega
  |_=>simp[bR]at h
theorem asE{t:TypeId}{k:K}(h:dO P T t k)(hk:0<k.size){cs:List Value}{off:Nat}(hl:off+k.size<=cs.length):∃u,(part t cs.toArray off).run P w=.ok u w/\((∀x,u≠.agg x)\/kQ k=true->VC k u ((cs.drop off).take k.size)):=by
 unfold part
 simp only[dZ,h.isAgg w,Result.andThen]
 cases hs:kQ k with
 |true=>
  refine⟨.agg (cs.toArray.extract off (off+k.size)),by simp[h.info.sizeOf w,Result.andThen],λ_=>?_⟩
  cases k with
  |st c=>
   show Value.agg _=.agg _
   congr 1
   apply vE
   simp[List.extract_eq_take_drop]
  |_=>simp[kQ]at hs
 |false=>
  have hlt:off<cs.length:=by omega
  refine⟨cs[off],by simp[hlt],λhu=>?_⟩
  have hu':∀x,cs[off]≠.agg x:=hu.resolve_right (by simp)
  have hk1:k.size=1:=by
   cases k with
   |st c=>simp[kQ]at hs
   |pair a b=>exact(show False from h).elim
   |unit=>exact(show False from h).elim
   |gap n=>exact(show False from h).elim
   |_=>rfl
  have e:(cs.drop off).take k.size=[cs[off]]:=by
   rw[hk1,ML hlt]
   rfl
  rw[e]
  cases k with
  |st c=>simp[kQ]at hs
  |_=>exact⟨rfl,hu'⟩
theorem aqL{v:Value}(h:v.oneCell'=true):∀x,v≠.agg x:=by
 intro x e
 subst e
 simp[Value.oneCell']at h
theorem asC{t:TypeId}{c:K}(h:dO P T t (.st c)){cs:List Value}{n off:Nat}{k:K}(ho:bR n c=some (off,k))(hl:cs.length=c.size)(h1:∀v∈cs,v.oneCell'=true) :
  ∃u,(Instr.field t (.agg cs.toArray) n).run P w=.ok u w/\VC k u ((cs.drop off).take k.size):=by
 obtain⟨fs,hu,hf⟩:=h.st
 obtain⟨f,f1,f2,f3,f4⟩:=structField n hf ho
 have hle:=RI n ho
 obtain⟨u,g1,g2⟩:=asE (w:=w) f3 f4 (cs:=cs) (off:=off) (by omega)
 have Sb:fs[n]?=some f:=by rw[<-wN];exact f1
 refine⟨u,?_,g2 ?_⟩
 ·unfold Instr.field
  simp only[dZ,ig hu,Result.andThen,Sb,asAgg,fH]
  rw[show f.offset=off from by omega]
  exact g1
 ·cases hs:kQ k with
  |true=>exact .inr rfl
  |false=>
   left
   unfold part at g1
   simp only[dZ,f3.isAgg w,Result.andThen,hs]at g1
   have hlt:off<cs.length:=by omega
   simp[hlt]at g1
   rw[<-g1]
   exact aqL (h1 _ (iC hlt))
theorem IL{r:Nat}{R:Root}{p:List Stp}{v:Value}{dd:Dat}{cs:List Value}{wh:Option (Nat×Nat)}(hr:aX Z r R)(hg:aB p R.k R.x=some dd)(h1:bX p R.k R.x)(h2:∀t∈az p R.k,ah t R.own=true)
  (h3:aW (hp w) p R.k (J.hdr r) (aS J R r)=some (cs,wh)) (h4:VC dd.1 v cs):a_ cx Z J F w (.eP r p R.dY) v:=by
 intro R' hR' _ _ d' hd'
 rw[hr.1]at hR'
 simp only[au]at hR'
 subst hR'
 rw[hg]at hd'
 simp only[au]at hd'
 subst hd'
 exact⟨h1,h2,cs,wh,h3,h4⟩
theorem Rel.aan(H:Rel cx Z J F a w){w':World}(hos:w'.os=w.os)(hout:w'.output=w.output)(hsz:w.heap.size<=w'.heap.size)(hold:∀b,b<w.heap.size->hp w' b=hp w b)(ht:w'.tape=w.tape):Rel cx Z J F a w':=by
 have hs:∀r,Same Z J Z J r:=λr=>⟨rfl,rfl,rfl,rfl⟩
 have hch:∀b,b<w.heap.size->hp w' b=hp w b:=hold
 have T:iO cx Z J F w Z J F w' (λ_=>[]) (λ_=>[]):=by
  refine⟨rfl,⟨hos,ht,hout⟩,hsz,λr R hr=>⟨R,hr,?_⟩,λr R' _ h=>absurd (hs r) h,λr R' h1 h2=>by rw[h1]at h2;simp at h2,λb hb hne=>absurd (hch b hb) hne,?_,H.iw,
   λr R' _ h=>absurd (hs r) h,λr R r' R' _ _ _ h=>absurd (hs r) h,?_,λr R R' h1 h2 _=>by rw[h1]at h2;simp only[au]at h2;subst h2;exact⟨rfl,rfl⟩⟩
  ·cases hd:R.cZ with
   |true=>exact .inl ⟨rfl,λhk=>by unfold Root.cZ at hd;rw[hk]at hd;simp at hd⟩
   |false=>exact .inr ⟨rfl,rfl,rfl,bV _,rfl,rfl,λ_=>rfl,.inr ⟨rfl,rfl,hs r⟩⟩
  ·rintro b (⟨r,R,h1,h2,h3⟩|h)
   ·exact absurd ⟨R,h1,h2⟩ h3
   ·exact .inl h
  ·intro j pi b o n h1 h2 hne
   obtain⟨R,hR,hk,hl,_⟩:=H.kI j pi b o n h1 h2
   exact absurd (hch b ((H.roots _ R hR).mine b (by simp[blk,aS,hk,hl])).1) hne
 exact H.turn T (λr R _ h=>absurd (hs r) h) (λr R _ h=>absurd (hs r) h) (λr R _ h=>absurd (hs r) h)
theorem RH:∀(n:Nat) {c:K},(az.lu n c).isSome=true->∃off k,bR n c=some (off,k):=by
 intro n
 induction n with
 |zero=>intro c h;cases c with
  |pair a b=>exact⟨0,a,rfl⟩
  |_=>simp[az.lu]at h
 |succ n ih=>intro c h;cases c with
  |pair a b=>obtain⟨off,k,h1⟩:=ih (c:=b) h;exact⟨a.size+off,k,by simp[bR,h1]⟩
  |_=>simp[az.lu]at h
theorem ZB:∀(n:Nat) {c k:K},az.lu n c=some k->∃off,bR n c=some (off,k):=by
 intro n
 induction n with
 |zero=>intro c k h;cases c with
  |pair a b=>simp only[az.lu,au]at h;subst h;exact⟨0,rfl⟩
  |_=>simp[az.lu]at h
 |succ n ih=>intro c k h;cases c with
  |pair a b=>obtain⟨off,h1⟩:=ih (c:=b) h;exact⟨a.size+off,by simp[bR,h1]⟩
  |_=>simp[az.lu]at h
theorem am1:∀(p:List Stp) {n:Nat} {k k1 k2:K} {off o2:Nat} {c:K},nK p k=some (off,k1)->k1=.st c->bR n c=some (o2,k2)->nK (p++[.aY n]) k=some (off+o2,k2):=by
 intro p
 induction p with
 |nil=>
  intro n k k1 k2 off o2 c h e h2
  simp only[nK,au,bZ]at h
  obtain⟨rfl,rfl⟩:=h
  subst e
  simp[nK,h2]
 |cons s p ih=>
  intro n k k1 k2 off o2 c h e h2
  cases s with
  |idx i=>simp[nK]at h
  |aY m=>
   cases k with
   |st c'=>
    simp only[nK,kY]at h ⊢
    cases hq:bR m c' with
    |none=>rw[hq]at h;simp at h
    |some q=>
     rw[hq]at h
     simp only at h ⊢
     cases hr:nK p q.2 with
     |none=>rw[hr]at h;simp at h
     |some r=>
      rw[hr]at h
      simp only[au,bZ]at h
      obtain⟨rfl,rfl⟩:=h
      rw[ih (off:=r.1) (k1:=r.2) (by rw[hr]) e h2]
      simp only[oF]
   |_=>simp[nK]at h
theorem apE:∀(p:List Stp) {k k1 k2:K} {off:Nat},Fy p k=some k1->nK p k=some (off,k2)->k2=k1:=by
 intro p
 induction p with
 |nil=>
  intro k k1 k2 off h1 h2
  simp only[Fy,au]at h1
  simp only[nK,au,bZ]at h2
  rw[<-h1,h2.2]
 |cons s p ih=>
  intro k k1 k2 off h1 h2
  cases s with
  |idx i=>simp[nK]at h2
  |aY m=>
   cases k with
   |st c=>
    simp only[Fy,nK]at h1 h2
    cases hk:az.lu m c with
    |none=>rw[hk]at h1;simp at h1
    |some k0=>
     obtain⟨o,ho⟩:=ZB m hk
     rw[hk]at h1
     rw[ho]at h2
     simp only at h1 h2
     cases hr:nK p k0 with
     |none=>rw[hr]at h2;simp at h2
     |some r=>
      rw[hr]at h2
      simp only[au,bZ]at h2
      rw[<-h2.2]
      exact ih (off:=r.1) h1 (by rw[hr])
   |_=>simp[nK]at h2
theorem aag{h:Heap}:∀(p:List Stp) {k k1:K} {x:El k} {cs:List Value} {d:Dat} {off:Nat},aB p k x=some d->nK p k=some (off,k1)->cs.length=k.size->
  k1=d.1/\off+k1.size<=cs.length/\aW h p k cs none=some ((cs.drop off).take k1.size,none)/\bX p k x/\az p k=[]:=by
 intro p
 induction p with
 |nil=>
  intro k k1 x cs d off hg ho hl
  simp only[aB,au]at hg
  simp only[nK,au,bZ]at ho
  obtain⟨rfl,rfl⟩:=ho
  subst hg
  exact⟨rfl,by omega,by simp[aW,<-hl],trivial,by simp[az]⟩
 |cons s p ih=>
  intro k k1 x cs d off hg ho hl
  cases s with
  |idx i=>simp[nK]at ho
  |aY n=>
   cases k with
   |st c=>
    simp only[aB,nK]at hg ho
    cases hcg:aU n c x with
    |none=>rw[hcg]at hg;simp at hg
    |some s=>
     rw[hcg]at hg
     simp only at hg
     cases hq:bR n c with
     |none=>rw[hq]at ho;simp at ho
     |some q=>
      have hk2:q.2=s.1:=Np n (c:=c) hcg hq
      rw[hq]at ho
      obtain⟨q1,q2⟩:=q
      simp only at hk2 ho
      subst hk2
      cases hr:nK p s.1 with
      |none=>rw[hr]at ho;simp at ho
      |some r=>
       rw[hr]at ho
       simp only[au,bZ]at ho
       obtain⟨rfl,rfl⟩:=ho
       have hle:=RI n hq
       have hl':cs.length=c.size:=hl
       obtain⟨g1,g2,g3,g4,g5⟩:=ih (cs:=(cs.drop q1).take s.1.size) (off:=r.1) (k1:=r.2) hg (by rw[hr]) (OZ (by omega))
       rw[OZ (by omega)]at g2
       refine⟨g1,by omega,?_,by simp only[bX,hcg];exact g4,by simp[az,kL n hcg,g5]⟩
       simp only[aW]
       rw[hq]
       simp only[Option.map_none]
       rw[g3]
       simp only[List.drop_take,List.take_take,tT,Nat.min_eq_left (show r.2.size<=s.1.size-r.1 by omega)]
   |_=>simp[aB]at hg
theorem asQ(Z:St)(r:Nat)(A B:Root):aR (aR Z r A) r B=aR Z r B:=by
 unfold aR
 simp only[St.mk.injEq,true_and]
 funext n
 unfold upd
 cases Nat.beq n r<;>rfl
theorem aah{h:Heap}:∀(p:List Stp) {k:K} {x:El k} {t d z:Dat},p.all Stp.j_=true->aB p k x=some d->dz p k x t=some z->t.1.size=d.1.size->
  aB p z.1 z.2=some t/\bX p z.1 z.2/\az p z.1=[]/\∀cs wh,aW h p z.1 cs wh=aW h p k cs wh:=by
 intro p
 induction p with
 |nil=>
  intro k x t d z _ hg hz hs
  simp only[dz,au]at hz
  subst hz
  exact⟨rfl,trivial,by simp[az],λcs wh=>rfl⟩
 |cons s p ih=>
  intro k x t d z hp hg hz hs
  cases s with
  |idx i=>simp[Stp.j_]at hp
  |aY n=>
   have hp':p.all Stp.j_=true:=by simpa[Stp.j_]using hp
   cases k with
   |st c=>
    simp only[aB,dz]at hg hz
    cases hcg:aU n c x with
    |none=>rw[hcg]at hg;simp at hg
    |some s=>
     rw[hcg]at hg hz
     simp only at hg hz
     cases hs':dz p s.1 s.2 t with
     |none=>rw[hs']at hz;simp at hz
     |some u=>
      rw[hs']at hz
      simp only at hz
      cases hcp:dP n c x u with
      |none=>rw[hcp]at hz;simp at hz
      |some y=>
       rw[hcp]at hz
       simp only[au]at hz
       subst hz
       obtain⟨i1,i2,i3,i4⟩:=ih hp' hg hs' hs
       have e1:aU n y.1 y.2=some u:=IM n hcp
       have hsz:u.1.size=s.1.size:=U6 p hg hs hs'
       refine⟨by simp only[aB,e1];exact i1,by simp only[bX,e1];exact i2,by simp[az,kL n e1,i3],λcs wh=>?_⟩
       simp only[aW]
       cases ho:bR n c with
       |none=>
        exfalso
        obtain⟨off,h1⟩:=ZB n (kL n hcg)
        rw[ho]at h1;simp at h1
       |some q=>
        have hk2:q.2=s.1:=Np n (c:=c) hcg ho
        obtain⟨q1,q2⟩:=q
        simp only at hk2
        subst hk2
        rw[RJ n ho hcp]
        simp only
        rw[hsz]
        exact i4 _ _
   |_=>simp[aB]at hg
theorem arh{R:Root}{r:Nat}{p:List Stp}{d:Dat}{tk:fC}{q:Root×Dat}(h:OI R r p d tk=some q) :
  ∃zg own',dz p R.k R.x (oQ d)=some zg/\q=(mo R d zg own',(oQ d))/\(∀t∈zg.1.tys,ah t own'=ah t R.own)/\p.all Stp.j_=true/\(p≠[]\/∃t,R.kind=.var t)/\∀n,(r,n)∉tk.tags:=by
 unfold OI at h
 cases hc:(!d.1.flat&&p.all Stp.j_ && !R.keep&&(!p.isEmpty||R.isVar)&&tk.tags.all (λt=>!Nat.beq t.1 r))with
 |false=>rw[hc]at h;simp at h
 |true=>
  rw[hc]at h
  simp only[gP]at h
  simp only[bB]at hc
  obtain⟨⟨⟨⟨_,c1⟩,_⟩,c2⟩,c3⟩:=hc
  unfold xz at h
  cases hz:dz p R.k R.x (oQ d)with
  |none=>rw[hz]at h;simp at h
  |some zg=>
   rw[hz]at h
   simp only at h
   cases hl:tk.own.filter (λt=>!ah t R.own&&ah t d.1.tys && !ah t zg.1.tys)with
   |nil=>rw[hl]at h;simp at h
   |cons a l=>
    rw[hl]at h
    simp only[au]at h
    refine⟨zg,(a :: l)++R.own,rfl,h.symm,λt ht=>?_,c1,?_,λn hn=>?_⟩
    ·cases hm:ah t R.own with
     |true=>rw[dh]at hm ⊢;exact bH _ hm
     |false=>
      rw[gJ]at hm ⊢
      intro h1
      rcases dD.1 h1 with h1|h1
      ·rw[<-hl]at h1
       have:=(eH.1 h1).2
       simp only[bB,lI,gJ]at this
       exact this.2 ht
      ·exact hm h1
    ·rcases oD .. |>.mp c2 with h1|h1
     ·left;intro e;rw[e]at h1;simp at h1
     ·right
      unfold Root.isVar at h1
      cases hk:R.kind with
      |var t=>exact⟨t,rfl⟩
      |anon=>rw[hk]at h1;simp at h1
      |par=>rw[hk]at h1;simp at h1
      |dead=>rw[hk]at h1;simp at h1
    ·have:=eX.1 c3 _ hn
     simp at this
theorem aeu{t:TypeId}{kk:K}{x:El kk}{F7:List TypeId}{oz:List Tag}{fB:List Wr}{O1:Bool}{cst:List Value}{EH:List Nat}{v:Value}{r:Nat}{R:Root}(ht:dO P T t kk)
  (H:Rel cx Z J F a w) (hr:aX Z r R) (hv:dF Z R) {p:List Stp} {dd:Dat} (hg:aB p R.k R.x=some dd) (dn:bX p R.k R.x) (hown:∀t∈az p R.k,ah t R.own=true)
  (k2:dG Z (bC F7 kk) oz=true) (k3:VC kk v cst) (k1:Held cx Z J F w kk x F7 oz cst EH)
  {cs1:List Value} {b o:Nat} (hn:aW (hp w) p R.k (J.hdr r) (aS J R r)=some (cs1,some (b,o))) {A:Type} {z:A} {k:List Wr->Prog A} {Gh:St} (h:(storeAt kk r p ⟨kk,x,F7,oz,fB,O1⟩ R dd k).ends Gh z) :
  ∃w',(Instr.storeAt t (.pointer (some ⟨b,o,none⟩)) v).run P w=.ok () w'/\∃J' F',∃R',Rel cx (aR Z r R') J' F' a w'/\(k (fB++[.r r (some R')])).ends Gh z:=by
 unfold storeAt at h
 rcases bF h with⟨hc3,h⟩|⟨_,h⟩
 ·simp only[bB]at hc3
  simp only[fC.bad]at hc3 h
  cases hz:dz p R.k R.x ⟨kk,x⟩with
  |none=>rw[hz]at h;exact h.elim
  |some z=>
   rw[hz]at h
   simp only at h
   rcases bF h with⟨_,h⟩|⟨_,h⟩
   ·exact h.elim
   ·obtain⟨w',r1,J',F',r2⟩:=asY (P:=P) (z:=z) ht H hr hv hg hz dn hown k1 k2 k3
     (by
      rcases oD .. |>.mp hc3.1.1 with h|h
      ·exact .inl (K.eq_of_beq h)
      ·exact .inr (K.eq_of_beq (bB .. |>.mp h).1))
     (by
      rcases oD .. |>.mp hc3.1.2 with h|h
      ·exact .inl h
      ·exact .inr h)
     (λt ht=>by
      have:=eX.1 hc3.2 t ht
      simpa[gJ]using this) (R.keep||O1) hn
    exact⟨w',r1,J',F',_,r2,h⟩
 ·exact h.elim
theorem ama(hT:fT P T)(H:Rel cx Z J F a w)(hd:o.dst=none){t:TypeId}{x y:Operand}(ho:o.op=.store t x y){u v:AV}(h1:a_ cx Z J F w u (a.eval x))(h2:dV Z u)(h3:a_ cx Z J F w v (a.eval y))(h4:dV Z v)
  (h:(Vg T t u v λws=>(.ret ws:Prog (List Wr))).ends Z ws):dQ P cx o a w (aL ws Z):=by
 unfold Vg at h
 cases hty:T.ty t with
 |none=>rw[hty]at h;exact h.elim
 |some kk=>
  rw[hty]at h
  cases u with
  |ptr r p n=>
   simp only at h
   have ht:=hT.ty t kk hty
   obtain⟨tk,htk,h⟩:=AJ H h3 h4 h
   rcases bF h with⟨hc1,h⟩|⟨_,h⟩
   ·simp only[bB]at hc1
    obtain⟨R,hr,hv,h⟩:=iA h
    rcases bF h with⟨hc2,h⟩|⟨_,h⟩
    ·simp only[bB]at hc2
     cases hg:aB p R.k R.x with
     |none=>rw[hg]at h;exact h.elim
     |some dd=>
      rw[hg]at h
      simp only at h
      have hkk:tk.k=kk:=K.eq_of_beq hc1.1
      have EZ:=atB hc1.2
      have hown:=pM hc2.1.2
      obtain⟨dn,cs,b,q,hn,e⟩:=h1.2 R hr.1 hv hc2.1.1 hown (by rw[hg];rfl)
      have hap:=Nf.1 hc2.2
      obtain⟨aP,F1,cst,EH,lw,lh,H1,T1,k1,k2,k3,k4,k5,k6⟩:=take1 H htk
      have hS:=k6 r EZ
      have hr1:=(hS.live R).2 hr
      have hv1:dF (aL tk.ws Z) R:=⟨hv.1,by rw[sH (λt ht=>(k6 t.1 (hap t ht)).root)];exact hv.2⟩
      have hn1:aW (hp w) p R.k (aP.hdr r) (aS aP R r)=some (cs,some (b,q)):=by rw[hS.hdr,hS.wh];exact hn
      obtain⟨tkk,tkx,F7,oz,fB,O1⟩:=tk
      simp only at hkk
      subst hkk
      simp only[fC.bad]at k2 k3 h
      cases hrg:OI R r p dd ⟨tkk,tkx,F7,oz,fB,O1⟩with
      |none=>
       rw[hrg]at h
       obtain⟨w',r1,J',F',r2⟩:=aeu (P:=P) ht H1 hr1 hv1 hg dn hown k3 k1 k2 hn1 h
       obtain⟨R',r2,r3⟩:=r2
       rw[bE r3]
       refine⟨undef,w',J',F',.inr ⟨?_,rfl⟩,?_⟩
       ·simp only[execOp,ho,e,dZ,r1,gu,fH]
       ·rw[hd,oM]
        exact r2
      |some qq=>
       rw[hrg]at h
       simp only at h
       obtain⟨hck,h⟩:=uj h
       obtain⟨zg,own',g1,g2,g3,g4,g5,g6⟩:=arh hrg
       subst g2
       simp only at hck h
       have hnt:=(H1.gz r R hr1.1).2.2
       obtain⟨cs1,dm,bu,rest,hn',H2,T2,_,_,hpm⟩:=aak (own':=own') H1 hr1 hv1 hg g1 dn hown g5 g3
       rw[hn1]at hn'
       simp only[au,bZ]at hn'
       obtain⟨rfl,rfl⟩:=hn'
       have hr2:aX (aR (aL fB Z) r (mo R dd zg own')) r (mo R dd zg own'):=⟨fG ..,hr.2⟩
       have hv2:dF (aR (aL fB Z) r (mo R dd zg own')) (mo R dd zg own'):=⟨hv.1,by
        show dG _ _ R.tags=true
        rw[xm hnt,sH (λt ht=>(k6 t.1 (hap t ht)).root)]
        exact hck⟩
       have k1':=k2.turn H1 T2 (λb hb=>⟨rfl,bH _ (k2.sub b hb)⟩)
       have k2':dG (aR (aL fB Z) r (mo R dd zg own')) (bC F7 tkk) oz=true:=by rw[xm g6];exact k3
       obtain⟨f1,f2,f3,f4⟩:=aah (h:=hp w) p g4 hg g1 (Cy dd.1)
       have hsd:(aV aP r (aP.loc r) (aP.hdr r) rest).hdr r=aP.hdr r:=by simp[aV,upd_same]
       have ao5:aS (aV aP r (aP.loc r) (aP.hdr r) rest) (mo R dd zg own') r=aS aP R r:=by rw[wL,Gd (show(mo R dd zg own').kind=R.kind from rfl),<-AX]
       have hn2:aW (hp w) p (mo R dd zg own').k ((aV aP r (aP.loc r) (aP.hdr r) rest).hdr r) (aS (aV aP r (aP.loc r) (aP.hdr r) rest) (mo R dd zg own') r)=some (cs,some (b,q)):=by
        rw[hsd,ao5]
        exact(f4 _ _).trans hn1
       obtain⟨w',r1,J',F',r2⟩:=aeu (P:=P) ht H2 hr2 hv2 f1 f2 (λt ht=>by have ht':t∈az p zg.1:=ht;rw[f3]at ht';simp at ht') k2' k1 k1' hn2 h
       obtain⟨R',r2,r3⟩:=r2
       rw[bE r3]
       refine⟨undef,w',J',F',.inr ⟨?_,rfl⟩,?_⟩
       ·simp only[execOp,ho,e,dZ,r1,gu,fH]
       ·rw[hd,oM]
        rw[asQ]at r2
        exact r2
    ·exact h.elim
   ·exact h.elim
  |_=>exact h.elim
theorem alj{A:Type}{z:A}{x:AV}{kk:K}{yes:Nat->Nat->Prog A}{no:Prog A}(h:(Nr x kk yes no).ends Z z):(∃r g R,x=.ref r g/\aX Z r R/\dF Z R/\R.g=g/\R.k=kk/\(yes r g).ends Z z)\/no.ends Z z:=by
 cases x with
 |ref r g=>
  simp only[Nr,Prog.ends]at h
  cases hr:Z.roots r with
  |none=>rw[hr]at h;exact .inr h
  |some R=>
   rw[hr]at h
   simp only at h
   rcases bF h with⟨_,h⟩|⟨_,h⟩
   ·obtain⟨R',hr',hv,h⟩:=iA h
    rcases bF h with⟨hc,h⟩|⟨_,h⟩
    ·simp only[bB]at hc
     exact .inl ⟨r,g,R',rfl,hr',hv,bD hc.1,K.eq_of_beq hc.2,h⟩
    ·exact h.elim
   ·exact .inr h
 |_=>exact .inr h
theorem alG(H:Rel cx Z J F a w)(hd:o.dst=some d)(hdn:d<cx.nt){t:TypeId}{x:Operand}(ho:o.op=.box t x)
  (h:(match T.ty t with
   |some kk=>eZ x λa=>Nr a kk (λr g=>.ret [Wr.s d (.one (.mg r g kk []))]) <| tC kk a λtk=>bif tk.k.beq kk && !ah t tk.bad then
     kF (aN d 0) (.ret (tk.ws++[Wr.r (aN d 0) (some (bP tk.k tk.x tk.own tk.iQ (.var t) tk.keep)),Wr.s d (.one (.ptr (aN d 0) [] 0))]))
    else(.fail:Prog (List Wr))
   |none=>.fail).ends Z ws):dQ P cx o a w (aL ws Z):=by
 split at h
 ·rename_i kk hty
  obtain⟨u,h1,h2,h⟩:=jN H h
  rcases alj h with⟨r,g,R,eu,hr,hv,eg,ek,h5⟩|h
  ·subst eu eg ek
   obtain⟨hka,j6⟩:=h1 R hr rfl
   have hb0:∀b,b<w.heap.size->hp (w.alloc (.cells (a.eval x).cells t)) b=hp w b:=λb hb=>CB w _ hb
   have H1:Rel cx Z J F a (w.alloc (.cells (a.eval x).cells t)):=H.aan rfl rfl (by show w.heap.size<=(w.heap.push _).size;simp) hb0 rfl
   have hnew:=EX w (.cells (a.eval x).cells t)
   rw[bE h5]
   refine pE (v:=.pointer (some ⟨w.heap.size,0,none⟩)) (x:=.one (.mg r R.g R.k [])) H1 hd hdn (by simp only[execOp,ho,dZ,ad7,gu,fH]) ⟨a.eval x,w.heap.size,0,R.k,rfl,⟨?_,λhF=>?_,λq Q hq hbq=>?_⟩,λi hi=>?_,rfl,h1⟩ h2
   ·show w.heap.size<(w.heap.push _).size;simp
   ·have:=(H.fl _ hF).1;omega
   ·have:=((H.roots q Q hq).mine _ hbq).1;omega
   ·unfold cellAt
    rw[hnew]
    simp
  obtain⟨tk,htk,h⟩:=AJ H h1 h2 h
  rcases bF h with⟨_,h⟩|⟨_,h⟩
  ·obtain⟨g1,g2⟩:=qd h
   rw[bE g2]
   obtain⟨aP,F1,cst,EH,lw,lh,H1,T1,k1,k2,k3,k4,k5,k6⟩:=take1 H htk
   have hnr:aN d 0∉tk.ws.flatMap Wr.fA:=by
    intro hm
    cases htk with
    |held hws cs hv h hc=>rw[hws]at hm;simp at hm
    |ref r R hr hv e hk hd=>rw[e]at hm;simp only[mP,DU,iq,Wr.fA,iD]at hm;rw[hm,hr.1]at g1;simp at g1
    |cut r R cs hr hv hk e hd hl uD how=>rw[e.2.2.1]at hm;simp only[mP,DU,iq,Wr.fA,iD]at hm;rw[hm,hr.1]at g1;simp at g1
    |gap r R p dd z hr hv hg hz dn hown hpv e hn=>rw[e]at hm;simp only[mP,DU,iq,Wr.fA,iD]at hm;rw[hm,hr.1]at g1;simp at g1
   have hn1:(aL tk.ws Z).roots (aN d 0)=none:=by rw[(k6 _ hnr).root];exact g1
   obtain⟨r1,J',F',r2,r3⟩:=Zk (P:=P) (t:=t) H1 hn1 (qi d 0) k2 k3 k1 tk.keep
   rw[oM]
   exact pE (x:=.one (.ptr (aN d 0) [] 0)) r2 hd hdn (by simp only[execOp,ho,dZ,r1,gu,fH]) r3 ⟨_,fG ..,.inr (fQ _)⟩
  ·exact h.elim
 ·exact h.elim
theorem abU{B:Type}{z:B}(hT:fT P T)(H:Rel cx Z J F a w){t:TypeId}{x:Operand}{v:AV}{eP:Bool}(ho:o.op=.load t x)(h1:a_ cx Z J F w v (a.eval x))(h2:dV Z v){k:AV->Prog B}
  (h:(yN T eP t v k).ends Z z):∃u v',(execOp a.eval o).run P w=.ok (.value v') w/\a_ cx Z J F w u v'/\dV Z u/\(k u).ends Z z:=by
 unfold yN at h
 split at h
 ·exact h.elim
 ·rename_i kk hty
  have ht:=hT.ty t kk hty
  obtain⟨s1,s2,s3⟩:=ht.shape
  split at h
  ·rename_i r g k0 p
   obtain⟨u,b,off,k1,e,hq,hC,ho1,hR⟩:=h1
   obtain⟨R,hr,hv,h⟩:=iA h
   rcases bF h with⟨hc,h⟩|⟨_,h⟩
   ·simp only[bB]at hc
    cases hg:aB p R.k R.x with
    |none=>rw[hg]at h;exact h.elim
    |some dd=>
     rw[hg]at h
     simp only at h
     obtain⟨dk,dx⟩:=dd
     rcases beq_true h with⟨ek,h5⟩|⟨_,h⟩
     ·simp only at ek
      subst ek
      have hk0:=K.eq_of_beq hc.1.2
      subst hk0
      obtain⟨hka,j6⟩:=hR R hr (bD hc.1.1)
      rw[j6.cells]at hC
      have hwn:aS J R r=none:=by unfold aS;rw[hka]
      obtain⟨g1,g2,g3,g4,g5⟩:=aag (h:=hp w) p hg ho1 (H.roots r R hr).len
      simp only at g1
      subst g1
      have hown:∀t∈az p R.k,ah t R.own=true:=λt ht=>by rw[g5]at ht;simp at ht
      have hn:aW (hp w) p R.k (J.hdr r) (aS J R r)=some (((J.hdr r).drop off).take k1.size,none):=by rw[hwn];exact g3
      obtain⟨bu,hO,hf⟩:=wH H hr hv hg g4 hown hn
      have hV:=wE H hr hO hf
      have hcs:Cells (hp w) b off (((J.hdr r).drop off).take k1.size):=by
       intro i hi
       have hi':i<k1.size:=by rw[OZ g2]at hi;exact hi
       have:=hC (off+i) (by omega)
       rw[nR]at this
       rw[this,MQ hi',BB]
      obtain⟨u',hu⟩:=VC.mk s1 s2 s3 hV
      have hrun:=FY (P:=P) ht hcs (nV hV) hu
      have hrun':(execOp a.eval o).run P w=.ok (.value u') w:=by simp only[execOp,ho,e,dZ,hrun,gu,fH]
      rcases bF h5 with⟨hf,h6⟩|⟨_,h6⟩
      ·exact⟨.val k1 dx [],u',hrun',λ_=>⟨_,hu,nG hf hV⟩,λt ht=>by simp at ht,h6⟩
      ·exact⟨.eP r p R.dY,u',hrun',IL (cx:=cx) (F:=F) hr hg g4 hown hn hu,⟨R,hr.1,.inr (bV _)⟩,h6⟩
     ·exact h.elim
   ·exact h.elim
  rcases Nb H h1 h2 h with⟨r,R,p,dd,cs,b,q,hr,hv,hg,dn,hown,hn,e,h⟩|⟨bt,dd,Tg,b,q,cs,hw,e,hcs,hV,hok,hb,h⟩
  ·obtain⟨hC,⟨bu,hO,hf⟩,_⟩:=xG H hr hv hg dn hown hn
   obtain⟨dk,dx⟩:=dd
   rcases beq_true h with⟨ek,h5⟩|⟨_,h⟩
   ·simp only at ek
    subst ek
    clear h
    have h:=h5
    clear h5
    have hV:=wE H hr hO hf
    obtain⟨u,hu⟩:=VC.mk s1 s2 s3 hV
    have hrun:=FY (P:=P) ht hC (nV hV) hu
    have hrun':(execOp a.eval o).run P w=.ok (.value u) w:=by simp only[execOp,ho,e,dZ,hrun,gu,fH]
    rcases bF h with⟨_,h⟩|⟨_,h⟩
    ·exact⟨.eP r p R.dY,u,hrun',IL (cx:=cx) (F:=F) hr hg dn hown hn hu,⟨R,hr.1,.inr (bV _)⟩,h⟩
    ·exact⟨.val dk dx _,u,hrun',λ_=>⟨cs,hu,hV⟩,FM H hr _,h⟩
   ·exact h.elim
  ·obtain⟨dk,dx⟩:=dd
   rcases beq_true h with⟨ek,h5⟩|⟨_,h⟩
   ·simp only at ek
    subst ek
    clear h
    have h:=h5
    clear h5
    obtain⟨u,hu⟩:=VC.mk s1 s2 s3 hV
    have hrun:=FY (P:=P) ht hcs (nV hV) hu
    have hrun':(execOp a.eval o).run P w=.ok (.value u) w:=by simp only[execOp,ho,e,dZ,hrun,gu,fH]
    refine⟨.val dk dx _,u,hrun',λ_=>⟨cs,hu,?_⟩,?_,h⟩
    ·cases hf:dk.flat with
     |true=>exact nG hf hV
     |false=>exact hV
    ·cases hf:dk.flat with
     |true=>intro t ht;simp at ht
     |false=>exact hw
   ·exact h.elim
theorem alV(hT:fT P T)(H:Rel cx Z J F a w)(hd:o.dst=some d)(hdn:d<cx.nt){t:TypeId}{x:Operand}{eP:Bool}(ho:o.op=.load t x)
  (h:(eZ x λv=>yN T eP t v λu=>(.ret [Wr.s d (.one u)]:Prog (List Wr))).ends Z ws):dQ P cx o a w (aL ws Z):=by
 obtain⟨v,h1,h2,h⟩:=jN H h
 obtain⟨u,v',g1,g2,g3,h⟩:=abU hT H ho h1 h2 h
 rw[bE h]
 exact fV H hd hdn g1 g2 g3
theorem alW(hT:fT P T)(H:Rel cx Z J F a w)(hd:o.dst=some d)(hdn:d<cx.nt){t:TypeId}{x:Operand}(ho:o.op=.load t x)
  (h:(eZ x λv=>yN T true t v λu=>match T.ty t with
   |some kk=>tC kk u λtk=>kF (aN d 0) (.ret (tk.ws++[Wr.r (aN d 0) (some (bP tk.k tk.x tk.own tk.iQ .anon tk.keep)),Wr.s d (.one (.ref (aN d 0) 0))]))
   |none=>(.fail:Prog (List Wr))).ends Z ws):dQ P cx o a w (aL ws Z):=by
 obtain⟨v,h1,h2,h⟩:=jN H h
 obtain⟨u,v',hrun,g4,g5,h⟩:=abU hT H ho h1 h2 h
 split at h
 ·rename_i kk hty
  obtain⟨tk,htk,h⟩:=AJ H g4 g5 h
  obtain⟨g1,g2⟩:=qd h
  rw[bE g2]
  obtain⟨aP,F1,cst,EH,lw,lh,H1,T1,k1,k2,k3,k4,k5,k6⟩:=take1 H htk
  have hnr:aN d 0∉tk.ws.flatMap Wr.fA:=by
   intro hm
   cases htk with
   |held hws cs hv h hc=>rw[hws]at hm;simp at hm
   |ref r R hr hv e hk hd=>rw[e]at hm;simp only[mP,DU,iq,Wr.fA,iD]at hm;rw[hm,hr.1]at g1;simp at g1
   |cut r R cs hr hv hk e hd hl uD how=>rw[e.2.2.1]at hm;simp only[mP,DU,iq,Wr.fA,iD]at hm;rw[hm,hr.1]at g1;simp at g1
   |gap r R p dd z hr hv hg hz dn hown hpv e hn=>rw[e]at hm;simp only[mP,DU,iq,Wr.fA,iD]at hm;rw[hm,hr.1]at g1;simp at g1
  have hn1:(aL tk.ws Z).roots (aN d 0)=none:=by rw[(k6 _ hnr).root];exact g1
  obtain⟨J',r2,r3⟩:=Eh (F':=F1.filter λb=>!ah b EH) H1 hn1 (qi d 0) k2.sub k2.nd (F6 k2.wt)
   (λb hb=>by
    obtain⟨q1,q2⟩:=eH.1 hb
    simp only[lI,gJ]at q2
    exact⟨q1,q2⟩) (H1.iw.filter _) k2.len
   (λhcl=>by
    cases hb:tk.bad with
    |nil=>exact jU hb (k2.ow k3)
    |cons t0 l=>
     have et:tk.iQ=tk.tags:=by
      unfold fC.iQ
      rw[hb]
     rw[et]at hcl ⊢
     exact eO (λ_ _=>rfl) (λb h=>.inl h) (λ_ _=>rfl) (k2.ow hcl)) k1 tk.keep
  rw[oM]
  exact pE (x:=.one (.ref (aN d 0) 0)) r2 hd hdn hrun r3 ⟨_,fG ..,.inr (fQ _)⟩
 ·exact h.elim
end
end
section
open Go
variable [Fr]
theorem YV{h:Heap}{ok:Nat->Prop}:∀(n:Nat) {c:K} {x:El c} {cs:List Value} {d:Dat},Vw h ok c x cs->aU n c x=some d->∃off,bR n c=some (off,d.1)/\Vw h ok d.1 d.2 ((cs.drop off).take d.1.size):=by
 intro n
 induction n with
 |zero=>
  intro c x cs d H hg
  cases c with
  |pair a b=>
   simp only[aU,au]at hg
   subst hg
   obtain⟨c1,c2,rfl,h1,h2⟩:=H
   refine⟨0,rfl,?_⟩
   have:=nV h1
   simpa[<-this]using h1
  |_=>simp[aU]at hg
 |succ n ih=>
  intro c x cs d H hg
  cases c with
  |pair a b=>
   simp only[aU]at hg
   obtain⟨c1,c2,rfl,h1,h2⟩:=H
   obtain⟨off,g1,g2⟩:=ih h2 hg
   refine⟨a.size+off,by simp[bR,g1],?_⟩
   have:=nV h1
   rw[<-this,<-tT]
   simpa using g2
  |_=>simp[aU]at hg
theorem aal:∀(p:List Stp) {q:List Stp} {k:K} {x:El k} {d:Dat},aB p k x=some d->aB (p++q) k x=aB q d.1 d.2:=by
 intro p
 induction p with
 |nil=>intro q k x d h;simp only[aB,au]at h;subst h;rfl
 |cons s p ih=>
  intro q k x d h
  cases s with
  |aY n=>
   cases k with
   |st c=>
    simp only[aB,kY]at h ⊢
    cases hg:aU n c x with
    |none=>rw[hg]at h;simp at h
    |some s=>rw[hg]at h;exact ih h
   |_=>simp[aB]at h
  |idx i=>
   cases k with
   |sl e k=>simp only[aB,kY]at h ⊢;exact ih h
   |_=>simp[aB]at h
theorem M7:∀(p:List Stp) {q:List Stp} {k:K} {x:El k} {d:Dat},aB p k x=some d->bX p k x->bX q d.1 d.2->bX (p++q) k x:=by
 intro p
 induction p with
 |nil=>intro q k x d h _ h2;simp only[aB,au]at h;subst h;exact h2
 |cons s p ih=>
  intro q k x d h h1 h2
  cases s with
  |aY n=>
   cases k with
   |st c=>
    simp only[aB,bX,kY]at h h1 ⊢
    cases hg:aU n c x with
    |none=>rw[hg]at h;simp at h
    |some s=>rw[hg]at h h1;exact ih h h1 h2
   |_=>simp[aB]at h
  |idx i=>
   cases k with
   |sl e k=>simp only[aB,bX,kY]at h h1 ⊢;exact⟨h1.1,h1.2.1,ih h h1.2.2 h2⟩
   |_=>simp[aB]at h
theorem akh:∀(p:List Stp) {q:List Stp} {k:K} {x:El k} {d:Dat},aB p k x=some d->bX (p++q) k x->bX q d.1 d.2:=by
 intro p
 induction p with
 |nil=>intro q k x d h h2;simp only[aB,au]at h;subst h;exact h2
 |cons s p ih=>
  intro q k x d h h2
  cases s with
  |aY n=>
   cases k with
   |st c=>
    simp only[aB,bX,kY]at h h2
    cases hg:aU n c x with
    |none=>rw[hg]at h;simp at h
    |some s=>rw[hg]at h h2;exact ih h h2
   |_=>simp[aB]at h
  |idx i=>
   cases k with
   |sl e k=>simp only[aB,bX,kY]at h h2;exact ih h h2.2.2
   |_=>simp[aB]at h
theorem acI:∀(p:List Stp) {q:List Stp} {k:K} {x:El k} {d:Dat},aB p k x=some d->az (p++q) k=az p k++az q d.1:=by
 intro p
 induction p with
 |nil=>intro q k x d h;simp only[aB,au]at h;subst h;rfl
 |cons s p ih=>
  intro q k x d h
  cases s with
  |aY n=>
   cases k with
   |st c=>
    simp only[aB,az,kY]at h ⊢
    cases hg:aU n c x with
    |none=>rw[hg]at h;simp at h
    |some s=>rw[hg]at h;rw[kL n hg];exact ih h
   |_=>simp[aB]at h
  |idx i=>
   cases k with
   |sl e k=>simp only[aB,az,kY]at h ⊢;rw[ih h]
   |_=>simp[aB]at h
theorem J2{h:Heap}:∀(p:List Stp) {q:List Stp} {k:K} {x:El k} {d:Dat} {cs:List Value} {wh:Option (Nat×Nat)} {c1:List Value} {w1:Option (Nat×Nat)},aB p k x=some d->aW h p k cs wh=some (c1,w1)->aW h (p++q) k cs wh=aW h q d.1 c1 w1:=by
 intro p
 induction p with
 |nil=>
  intro q k x d cs wh c1 w1 h h1
  simp only[aB,au]at h
  subst h
  simp only[aW,au,bZ]at h1
  obtain⟨rfl,rfl⟩:=h1
  rfl
 |cons s p ih=>
  intro q k x d cs wh c1 w1 h h1
  cases s with
  |aY n=>
   cases k with
   |st c=>
    simp only[aB,aW,kY]at h h1 ⊢
    cases hg:aU n c x with
    |none=>rw[hg]at h;simp at h
    |some s=>
     rw[hg]at h
     cases ho:bR n c with
     |none=>rw[ho]at h1;simp at h1
     |some q2=>
      rw[ho]at h1
      have hk:=Np n (c:=c) hg ho
      obtain⟨o2,k2⟩:=q2
      simp only at hk
      subst hk
      exact ih h h1
   |_=>simp[aB]at h
  |idx i=>
   cases k with
   |sl e k=>
    simp only[aB,kY]at h
    simp only[aW,kY]at h1 ⊢
    split at h1
    ·exact ih h h1
    ·simp at h1
   |_=>simp[aB]at h
theorem Rq{a b:K}(h:a.beq b=true):a.size=b.size:=by rw[K.eq_of_beq h]
theorem ap0:∀{a b:K},a.like b=true->a.size=b.size:=by
 intro a
 induction a with
 |gap n=>intro b h;simp only[K.like]at h;exact bD h
 |pair a b iha ihb=>
  intro c h
  cases c with
  |pair c d=>simp only[K.like,bB]at h;simp[K.size,iha h.1,ihb h.2]
  |_=>exact Rq (by simpa[K.like]using h)
 |st f ih=>
  intro b h
  cases b with
  |st g=>simp only[K.like]at h;exact ih (b:=g) h
  |_=>exact Rq (by simpa[K.like]using h)
 |_=>intro b h;exact Rq (by simpa[K.like]using h)
theorem apZ:∀(n:Nat) {a b:K} {off:Nat} {k:K},a.like b=true->bR n a=some (off,k)->∃k',bR n b=some (off,k'):=by
 intro n
 induction n with
 |zero=>
  intro a b off k h ho
  cases a with
  |pair a1 a2=>
   simp only[bR,au,bZ]at ho
   cases b with
   |pair b1 b2=>exact⟨b1,by simp[bR,ho.1]⟩
   |_=>simp[K.like,K.beq]at h
  |_=>simp[bR]at ho
 |succ n ih=>
  intro a b off k h ho
  cases a with
  |pair a1 a2=>
   simp only[bR]at ho
   cases h2:bR n a2 with
   |none=>rw[h2]at ho;simp at ho
   |some q=>
    rw[h2]at ho
    simp only[au,bZ]at ho
    cases b with
    |pair b1 b2=>
     simp only[K.like,bB]at h
     obtain⟨k',h3⟩:=ih (off:=q.1) (k:=q.2) h.2 (by rw[h2])
     exact⟨k',by simp[bR,h3,<-ho.1,ap0 h.1]⟩
    |_=>simp[K.like,K.beq]at h
  |_=>simp[bR]at ho
section
variable {P:Program}{T:bL}{cx:Cx}{Z:St}{J:aO}{F:List Nat}{a:Act}{w:World}{o:Oper}{d:Nat}{ws:List Wr}
theorem asD{t:TypeId}{c:K}(h:dO P T t (.st c)){n off:Nat}{k:K}(ho:bR n c=some (off,k))(b q:Nat) :
  (Instr.fieldAt t (.pointer (some ⟨b,q,none⟩)) n).run P w=.ok (.pointer (some ⟨b,q+off,none⟩)) w:=by
 obtain⟨fs,hu,hf⟩:=h.st
 obtain⟨f,f1,f2,f3,f4⟩:=structField n hf ho
 have Sb:fs[n]?=some f:=by rw[<-wN];exact f1
 unfold Instr.fieldAt Instr.sureAddr fieldPlace
 simp only[dZ,ig hu,Result.andThen,Sb,fH,f3.info.sizeOf w,Sem.run_ite]
 rw[aC (by omega),addr_add]
 simp[show f.offset=off from by omega]
theorem alP(hT:fT P T)(H:Rel cx Z J F a w)(hd:o.dst=some d)(hdn:d<cx.nt){t:TypeId}{x:Operand}{n:Nat}(ho:o.op=.field t x n)
  (h:(match T.ty t with
   |some kk=>eZ x λa=>I4 kk a n λu=>.ret [Wr.s d (.one u)]
   |none=>(.fail:Prog (List Wr))).ends Z ws):dQ P cx o a w (aL ws Z):=by
 split at h
 case h_2=>exact h.elim
 rename_i kk hty
 have ht:=hT.ty t kk hty
 obtain⟨v,h1,h2,h⟩:=jN H h
 have E9:∀{c:K} {cs:List Value} {off:Nat} {k:K},kk=.st c->a.eval x=.agg cs.toArray->bR n c=some (off,k)->cs.length=c.size->(∀v∈cs,v.oneCell'=true)->
   ∃u,(execOp a.eval o).run P w=.ok (.value u) w/\VC k u ((cs.drop off).take k.size):=by
  intro c cs off k ek ev hoff hl h1
  subst ek
  obtain⟨u,g1,g2⟩:=asC (w:=w) ht hoff hl h1
  exact⟨u,by simp only[execOp,ho,ev,dZ,g1,gu,fH],g2⟩
 have key:∀{r:Nat} {R:Root} {p:List Stp} {d0 dd:Dat} {cs:List Value} {wh:Option (Nat×Nat)},aX Z r R->dF Z R->aB p R.k R.x=some d0->d0.1=kk->aB (p++[.aY n]) R.k R.x=some dd->bX p R.k R.x->(∀t∈az p R.k,ah t R.own=true)->
   aW (hp w) p R.k (J.hdr r) (aS J R r)=some (cs,wh)->VC d0.1 (a.eval x) cs->
   ∃u,(execOp a.eval o).run P w=.ok (.value u) w/\a_ cx Z J F w (.eP r (p++[.aY n]) R.dY) u/\(dd.1.flat=true->a_ cx Z J F w (.val dd.1 dd.2 []) u):=by
  intro r R p d0 dd cs wh hr hv hg0 e0 hg dn hown hn j6
  obtain⟨k0,x0⟩:=d0
  simp only at e0
  subst e0
  have hg1:=aal p (q:=[.aY n]) hg0
  rw[hg]at hg1
  have hpt:=acI p (q:=[.aY n]) hg0
  cases k0 with
  |st c=>
   simp only[aB]at hg1
   cases hcg:aU n c x0 with
   |none=>rw[hcg]at hg1;simp at hg1
   |some s=>
    rw[hcg]at hg1
    simp only[aB,au]at hg1
    subst hg1
    obtain⟨bu,hO,hf⟩:=wH H hr hv hg0 dn hown hn
    obtain⟨off,pre,cs1,post,Ab,fr,ho1,ec,hl,hp,hd2,_⟩:=Nn n (show Ow _ _ _ c x0 cs bu from hO) hcg
    have hsub:(cs.drop off).take s.1.size=cs1:=by rw[ec];exact Ku hl (fU hd2)
    obtain⟨u,r1,r2⟩:=E9 rfl j6 ho1 (fU (k:=c) hO) (M5 ht.gy hO)
    rw[hsub]at r2
    refine⟨u,r1,IL (cs:=cs1) (wh:=wh.map λq=>(q.1,q.2+off)) hr hg ?_ ?_ ?_ r2,λhfl=>λ_=>⟨cs1,r2,nG hfl (qE (λ_=>True) (λ_ _=>trivial) (λ_ _=>trivial) hd2)⟩⟩
    ·exact M7 p hg0 dn (by simp only[bX,hcg])
    ·rw[hpt]
     intro t ht
     rcases dD.1 ht with h|h
     ·exact hown t h
     ·simp[az,kL n hcg]at h
    ·rw[J2 p hg0 hn]
     simp only[aW]
     rw[ho1]
     simp only
     rw[hsub]
  |_=>simp[aB]at hg1
 cases v with
 |val k0 y Tg=>
  cases k0 with
  |st c=>
   simp only[I4]at h
   rcases bF h with⟨hc,h⟩|⟨_,h⟩
   ·have ek:=K.eq_of_beq hc
    cases hg:aU n c y with
    |none=>rw[hg]at h;exact h.elim
    |some dd=>
     rw[hg]at h
     obtain⟨g1,g2⟩:=uj h
     rw[bE g2]
     obtain⟨cs,hv,hV⟩:=h1 (.inr g1)
     obtain⟨off,ho1,ho2⟩:=YV n (show Vw _ _ c y cs from hV) hg
     obtain⟨u,r1,r2⟩:=E9 ek.symm hv ho1 (nV (k:=c) hV) (M9 (k:=.st c) (by rw[ek];exact ht.gy) hV)
     refine fV H hd hdn r1 (show a_ cx Z J F w (.val dd.1 dd.2 _) u from λ_=>⟨_,r2,?_⟩) ?_
     ·cases hf:dd.1.flat with
      |true=>exact nG hf ho2
      |false=>exact ho2
     ·cases hf:dd.1.flat with
      |true=>intro t ht;simp at ht
      |false=>exact h2
   ·exact h.elim
  |_=>exact h.elim
 |ref r g=>
  simp only[I4]at h
  obtain⟨R,hr,hv,h⟩:=iA h
  rcases bF h with⟨hc,h5⟩|⟨_,h⟩
  ·simp only[bB]at hc
   obtain⟨hka,j6⟩:=h1 R hr (bD hc.1)
   have ek:=K.eq_of_beq hc.2
   cases hg:aB [.aY n] R.k R.x with
   |none=>rw[hg]at h5;exact h5.elim
   |some dd=>
    rw[hg]at h5
    simp only at h5
    obtain⟨u,r1,r2,r3⟩:=key (p:=[]) (d0:=⟨R.k,R.x⟩) hr hv rfl ek hg trivial (λt ht=>by simp[az]at ht) rfl j6
    rcases bF h5 with⟨hf,h6⟩|⟨_,h6⟩
    ·rw[bE h6]
     exact fV H hd hdn r1 (r3 hf) (λt ht=>by simp at ht)
    ·rw[bE h6]
     exact fV (x:=.one (.eP r [.aY n] R.dY)) H hd hdn r1 r2 ⟨R,hr.1,.inr (bV _)⟩
  ·exact h.elim
 |eP r p nn=>
  simp only[I4]at h
  obtain⟨R,hr,hv,h⟩:=iA h
  rcases bF h with⟨hc,h5⟩|⟨_,h⟩
  ·cases hg0:aB p R.k R.x with
   |none=>rw[hg0]at h5;exact h5.elim
   |some d0=>
    cases hg:aB (p++[.aY n]) R.k R.x with
    |none=>rw[hg0,hg]at h5;exact h5.elim
    |some dd=>
     rw[hg0,hg]at h5
     simp only at h5
     rcases bF h5 with⟨_,h6⟩|⟨hk,h6⟩
     ·exact h6.elim
     ·have ek:d0.1=kk:=K.eq_of_beq (by simpa using hk)
      obtain⟨g1,g2,cs,wh,g3,g4⟩:=h1 R hr.1 hv (bD hc) d0 hg0
      obtain⟨u,r1,r2,r3⟩:=key hr hv hg0 ek hg g1 g2 g3 g4
      rcases bF h6 with⟨hf,h7⟩|⟨_,h7⟩
      ·rw[bE h7]
       exact fV H hd hdn r1 (r3 hf) (λt ht=>by simp at ht)
      ·rw[bE h7]
       exact fV (x:=.one (.eP r (p++[.aY n]) R.dY)) H hd hdn r1 (show jo cx Z J F w (.one (.eP r (p++[.aY n]) R.dY)) u from r2) ⟨R,hr.1,.inr (bV _)⟩
  ·exact h.elim
 |_=>exact h.elim
theorem alQ(hT:fT P T)(H:Rel cx Z J F a w)(hd:o.dst=some d)(hdn:d<cx.nt){t:TypeId}{x:Operand}{n:Nat}(ho:o.op=.fieldAddr t x n)
  (h:(match T.ty t with
   |some kk=>eZ x λa=>I1 kk a n λu=>.ret [Wr.s d (.one u)]
   |none=>(.fail:Prog (List Wr))).ends Z ws):dQ P cx o a w (aL ws Z):=by
 split at h
 case h_2=>exact h.elim
 rename_i kk hty
 have ht:=hT.ty t kk hty
 obtain⟨v,h1,h2,h⟩:=jN H h
 have hrun:∀{c:K} {off:Nat} {k:K} {b q:Nat},kk=.st c->bR n c=some (off,k)->a.eval x=.pointer (some ⟨b,q,none⟩)->(execOp a.eval o).run P w=.ok (.value (.pointer (some ⟨b,q+off,none⟩))) w:=by
  intro c off k b q ek hoff ev
  subst ek
  have:=asD (w:=w) ht hoff b q
  simp only[execOp,ho,ev,dZ,this,gu,fH]
 cases v with
 |ptr r p m=>
  simp only[I1,Prog.ends]at h
  cases hr0:Z.roots r with
  |none=>rw[hr0]at h;exact h.elim
  |some R=>
   rw[hr0]at h
   simp only at h
   cases hg:aB p R.k R.x with
   |none=>rw[hg]at h;exact h.elim
   |some d0=>
    rw[hg]at h
    simp only at h
    rcases bF h with⟨hc,h5⟩|⟨_,h5⟩
    ·simp only[bB]at hc
     rw[bE h5]
     unfold ND at hc
     cases kk with
     |st c=>
      obtain⟨off,kf,hoff⟩:=RH n hc.2
      obtain⟨⟨b,q,ev⟩,h1'⟩:=h1
      refine fV (x:=.one (.ptr r (p++[.aY n]) m)) H hd hdn (hrun rfl hoff ev) ⟨⟨b,q+off,rfl⟩,?_⟩ h2
      intro R' hR' hv hcl hown hs
      rw[hr0]at hR'
      simp only[au]at hR'
      subst hR'
      have hpt:=acI p (q:=[.aY n]) hg
      have e0:az [.aY n] d0.1=[]:=by
       obtain⟨dk,dx⟩:=d0
       cases dk with
       |st c'=>
        simp only[az]
        cases az.lu n c'<;>rfl
       |_=>rfl
      rw[e0,iq]at hpt
      have hcl':clean R.h m (iL p R.k)=true:=by
       unfold clean at hcl ⊢
       rw[eX]at hcl ⊢
       intro t ht
       have:=hcl t ht
       simp only[lI,gJ]at this ⊢
       intro h6
       refine this ?_
       have e1:iL (p++[.aY n]) R.k=jC :: az (p++[.aY n]) R.k:=by cases p<;>rfl
       rw[e1,hpt]
       cases p with
       |nil=>simp[iL]at h6
       |cons s p=>exact h6
      rw[hpt]at hown
      obtain⟨g1,cs,b',q',g2,g3⟩:=h1' R hr0 hv hcl' hown (by rw[hg];rfl)
      rw[ev]at g3
      simp only[Value.pointer.injEq,au,qU,fM]at g3
      obtain⟨rfl,rfl⟩:=g3
      have hga:=aal p (q:=[.aY n]) hg
      rw[hga]at hs
      obtain⟨dk,dx⟩:=d0
      cases dk with
      |st c'=>
       simp only[aB]at hs
       cases hcg:aU n c' dx with
       |none=>rw[hcg]at hs;simp at hs
       |some s=>
        have hck:(az.lu n c').isSome=true:=by rw[kL n hcg];rfl
        obtain⟨off',kf',aa8⟩:=RH n hck
        have hl:c'.like c=true:=hc.1
        obtain⟨kf2,TC⟩:=apZ n hl aa8
        rw[hoff]at TC
        simp only[au,bZ]at TC
        refine⟨M7 p hg g1 (by simp only[bX,hcg]),(cs.drop off').take kf'.size,b,q+off,?_,rfl⟩
        rw[J2 p hg g2]
        simp only[aW]
        rw[aa8]
        simp[TC.1]
      |_=>simp[aB]at hs
     |_=>simp at hc
    ·exact h5.elim
 |gq bt k0 y Tg=>
  cases k0 with
  |st c=>
   simp only[I1]at h
   rcases bF h with⟨hc,h5⟩|⟨_,h5⟩
   ·have ek:=K.eq_of_beq hc
    cases hg:aU n c y with
    |none=>rw[hg]at h5;exact h5.elim
    |some dd=>
     rw[hg]at h5
     obtain⟨g1,g2⟩:=uj h5
     rw[bE g2]
     obtain⟨b,q,cs,e,hcs,hV,hok,hb⟩:=h1.2 g1
     obtain⟨off,ho1,ho2⟩:=YV n (show Vw _ _ c y cs from hV) hg
     have hle:=RI n ho1
     have hlen:=nV (k:=c) hV
     refine fV (x:=.one (.gq bt dd.1 dd.2 Tg)) H hd hdn (hrun ek.symm ho1 e) ⟨⟨b,q+off,rfl⟩,λ_=>⟨b,q+off,_,rfl,?_,ho2,hok,hb⟩⟩ h2
     intro i hi
     simp only[pX,x8]at hi
     rw[oF,hcs (off+i) (by omega)]
     rw[MQ (by omega),BB]
   ·exact h5.elim
  |_=>exact h.elim
 |mg r g k0 p=>
  simp only[I1]at h
  cases hk:Fy p k0 with
  |none=>rw[hk]at h;exact h.elim
  |some k1=>
   rw[hk]at h
   simp only at h
   rcases bF h with⟨hc,h5⟩|⟨_,h5⟩
   ·simp only[bB]at hc
    rw[bE h5]
    have ek:=K.eq_of_beq hc.1
    subst ek
    obtain⟨u,b,off,k2,e,hq,hC,ho1,hR⟩:=h1
    have e2:=apE p hk ho1
    subst e2
    unfold ND at hc
    cases k2 with
    |st c=>
     obtain⟨o2,kf,hoff⟩:=RH n hc.2
     exact fV (x:=.one (.mg r g k0 (p++[.aY n]))) H hd hdn (hrun rfl hoff e) ⟨u,b,off+o2,kf,rfl,hq,hC,am1 p ho1 rfl hoff,hR⟩ h2
    |_=>simp at hc
   ·exact h5.elim
 |_=>exact h.elim
theorem run_indexAt{t e:TypeId}{k:K}(h:dO P T t (.sl e k)){ik:IntKind}{i:Int}{b q n c:Nat}(h0:0<=i)(h1:i<(n:Int)) :
  (Instr.indexAt t (.slice (some ⟨b,q,none⟩) n c) (.int ik i)).run P w=.ok (.pointer (some ⟨b,q+i.toNat*k.size,none⟩)) w:=by
 obtain⟨hu,he,_,_⟩:=h.sl
 unfold Instr.indexAt
 simp[asIntOf,ig hu,Result.andThen,h0,h1,he.info.sizeOf w,addr_add]
end
end
section
open Go
variable [Fr]
section
variable {P:Program}{T:bL}{cx:Cx}{Z:St}{J:aO}{F:List Nat}{a:Act}{w:World}{o:Oper}{d:Nat}{ws:List Wr}
theorem CZ{e:TypeId}{k:K}{v:Value}{cs:List Value}{h:Heap}{ok:Nat->Prop}{xs:List (El k)}(hv:VC (.sl e k) v cs)(hV:Vw h ok (.sl e k) xs cs) :
  ∃b n c,v=.slice b n c/\cs=[.slice b n c]/\n=xs.length/\n<=c/\(0<n->∃bb q,b=some ⟨bb,q,none⟩/\ok bb/\mh h bb e/\∀(i:Nat) (hi:i<xs.length),∃ds,Cells h bb (q+i*k.size) ds/\Vw h ok k xs[i] ds):=by
 obtain⟨b,n,c,e1,e2,e3,e4⟩:=hV
 obtain⟨e5,_⟩:cs=[v]/\_:=hv
 rw[e1]at e5
 simp only[jr,fM]at e5
 exact⟨b,n,c,e5.symm,e1,e2,e3,e4⟩
theorem alS(hT:fT P T)(H:Rel cx Z J F a w)(hd:o.dst=some d)(hdn:d<cx.nt){t:TypeId}{x y:Operand}(ho:o.op=.indexAddr t x y)
  (h:(match T.ty t with
   |some kk=>eZ x λa=>eZ y λi=>asInt i λ_ i=>JD kk a i λu=>.ret [Wr.s d (.one u)]
   |none=>(.fail:Prog (List Wr))).ends Z ws):dQ P cx o a w (aL ws Z):=by
 split at h
 case h_2=>exact h.elim
 rename_i k0 hty
 have ht:=hT.ty t k0 hty
 obtain⟨v,h1,h2,h⟩:=jN H h
 obtain⟨vi,h3,_,h⟩:=jN H h
 obtain⟨ik,i,ei,_,h⟩:=IJ h3 h
 have hrun:∀{e:TypeId} {k:K} {b q n c:Nat},k0=.sl e k->a.eval x=.slice (some ⟨b,q,none⟩) n c->0<=i->i<(n:Int)->(execOp a.eval o).run P w=.ok (.value (.pointer (some ⟨b,q+i.toNat*k.size,none⟩))) w:=by
  intro e k b q n c ek ev g0 g1
  subst ek
  have:=run_indexAt (w:=w) (ik:=ik) (b:=b) (q:=q) (c:=c) ht g0 g1
  simp only[execOp,ho,ev,ei,dZ,this,gu,fH]
 have key:∀{r:Nat} {R:Root} {p:List Stp} {e:TypeId} {kk:K} {xs:List (El kk)} {cs:List Value} {wh:Option (Nat×Nat)},aX Z r R->dF Z R->aB p R.k R.x=some ⟨.sl e kk,xs⟩->K.sl e kk=k0->bX p R.k R.x->(∀t∈az p R.k,ah t R.own=true)->
   aW (hp w) p R.k (J.hdr r) (aS J R r)=some (cs,wh)->VC (.sl e kk) (a.eval x) cs->aF i xs.length->
   ∃u,(execOp a.eval o).run P w=.ok (.value u) w/\a_ cx Z J F w (.ptr r (p++[.idx i]) (dR R.h)) u/\a_ cx Z J F w (.gq e kk (xs.getD i.toNat kk.zero) (R.out r (.sl e kk))) u:=by
  intro r R p e kk xs cs wh hr hv hg ek dn hown hn j6 hin
  obtain⟨bu,hO,hf⟩:=wH H hr hv hg dn hown hn
  have hV:=wE H hr hO hf
  obtain⟨b,n,c,g1,g2,g3,g4,g5⟩:=CZ j6 hV
  have i0:(0:Int)<=i:=hin.1
  have i1:i<(xs.length:Int):=hin.2
  have hlt:i.toNat<xs.length:=by omega
  obtain⟨bb,q,rfl,hok,hel,hes⟩:=g5 (by rw[g3];exact Nat.lt_of_le_of_lt (fQ _) hlt)
  obtain⟨ds,hc,SS⟩:=hes i.toNat hlt
  refine⟨_,hrun ek.symm g1 i0 (by rw[g3];exact i1),⟨⟨bb,q+i.toNat*kk.size,rfl⟩,?_⟩,⟨⟨bb,q+i.toNat*kk.size,rfl⟩,λ_=>⟨bb,_,ds,rfl,hc,?_,hok.q,.inr ⟨hel,hok.2.2.1⟩⟩⟩⟩
  ·intro R' hR' _ _ _ _
   rw[hr.1]at hR'
   simp only[au]at hR'
   subst hR'
   refine⟨M7 p hg dn ⟨i0,i1,trivial⟩,iW (hp w) bb (q+i.toNat*kk.size) kk.size,bb,q+i.toNat*kk.size,?_,rfl⟩
   rw[J2 p hg hn,g2]
   rfl
  ·rw[oP hlt]
   exact SS
 cases v with
 |val k1 y Tg=>
  cases k1 with
  |sl e kk=>
   simp only[JD]at h
   rcases bF h with⟨hc,h5⟩|⟨_,h5⟩
   ·have ek:=K.eq_of_beq hc
    obtain⟨g1,g2⟩:=uj h5
    obtain⟨hin,g3⟩:=g2
    rw[bE g3]
    obtain⟨cs,j6,hV⟩:=h1 (.inr g1)
    obtain⟨b,n,c,f1,f2,f3,f4,f5⟩:=CZ j6 hV
    obtain⟨i0,i1⟩:=hin
    have hlt:i.toNat < @List.length (El kk) y:=by
     have i1':i<((@List.length (El kk) y:Nat):Int):=i1
     omega
    obtain⟨bb,q,rfl,hok,hel,hes⟩:=f5 (by omega)
    obtain⟨ds,hcs,SS⟩:=hes i.toNat hlt
    refine fV (x:=.one (.gq e kk _ Tg)) H hd hdn (hrun ek.symm f1 i0 (by rw[f3];exact i1)) ⟨⟨bb,_,rfl⟩,λ_=>⟨bb,_,ds,rfl,hcs,?_,hok.q,.inr ⟨hel,hok.2.2.1⟩⟩⟩ h2
    have eg:(show List (El kk)from y).getD i.toNat kk.zero=(show List (El kk)from y)[i.toNat]'hlt:=oP hlt
    rw[eg]
    exact SS
   ·exact h5.elim
  |_=>exact h.elim
 |ref r g=>
  simp only[JD]at h
  obtain⟨R,hr,hv,h⟩:=iA h
  rcases bF h with⟨hc,h5⟩|⟨_,h5⟩
  ·obtain⟨hka,j6⟩:=h1 R hr (bD hc)
   have hg:aB [] R.k R.x=some ⟨R.k,R.x⟩:=rfl
   have hK:∀(q:Dat),aB [] R.k R.x=some q->∀hh:(match q.1,q.2 with
     |.sl e kk,xs=>bif ah e R.own&&(K.sl e kk).beq k0 then Prog.eY (aF i (show List (El kk)from xs).length) inferInstance ((.ret [Wr.s d (.one (.ptr r [.idx i] (dR R.h)))]):Prog (List Wr))else Prog.fail
     |_,_=>Prog.fail).ends Z ws,VC q.1 (a.eval x) (J.hdr r)->dQ P cx o a w (aL ws Z):=by
    intro q hq hh j6
    obtain⟨qk,qx⟩:=q
    cases qk with
    |sl e kk=>
     simp only at hh
     rcases bF hh with⟨hc2,h6⟩|⟨_,h6⟩
     ·simp only[bB]at hc2
      obtain⟨hin,h7⟩:=h6
      rw[bE h7]
      obtain⟨u,r1,r2,_⟩:=key (p:=[]) hr hv hq (K.eq_of_beq hc2.2) trivial (λt ht=>by simp[az]at ht) rfl j6 hin
      exact fV (x:=.one (.ptr r [.idx i] (dR R.h))) H hd hdn r1 r2 ⟨R,hr.1,.inr (bV _)⟩
     ·exact h6.elim
    |_=>exact hh.elim
   exact hK ⟨R.k,R.x⟩ hg h5 j6
  ·exact h5.elim
 |eP r p nn=>
  simp only[JD]at h
  obtain⟨R,hr,hv,h⟩:=iA h
  rcases bF h with⟨hc,h5⟩|⟨_,h5⟩
  ·cases hg0:aB p R.k R.x with
   |none=>rw[hg0]at h5;exact h5.elim
   |some d0=>
    rw[hg0]at h5
    obtain⟨g1,g2,cs,wh,g3,g4⟩:=h1 R hr.1 hv (bD hc) d0 hg0
    obtain⟨dk,dx⟩:=d0
    cases dk with
    |sl e kk=>
     simp only at h5
     rcases bF h5 with⟨_,h6⟩|⟨hk,h6⟩
     ·exact h6.elim
     ·have ek:K.sl e kk=k0:=K.eq_of_beq (by simpa using hk)
      rcases bF h6 with⟨_,h7⟩|⟨_,h7⟩
      ·obtain⟨hin,h8⟩:=h7
       rw[bE h8]
       obtain⟨u,r1,r2,_⟩:=key hr hv hg0 ek g1 g2 g3 g4 hin
       exact fV (x:=.one (.ptr r (p++[.idx i]) (dR R.h))) H hd hdn r1 (show jo cx Z J F w (.one (.ptr r (p++[.idx i]) (dR R.h))) u from r2) ⟨R,hr.1,.inr (bV _)⟩
      ·obtain⟨hin,h8⟩:=h7
       rw[bE h8]
       obtain⟨u,r1,_,r3⟩:=key hr hv hg0 ek g1 g2 g3 g4 hin
       exact fV H hd hdn r1 (show jo cx Z J F w (.one (.gq e kk _ (R.out r (.sl e kk)))) u from r3) (FM H hr _)
    |_=>exact h5.elim
  ·exact h5.elim
 |_=>exact h.elim
theorem akY(B:ByteArray){n:Nat}(h:n<B.size):(bytesOf B).getD n 0=(B[n].toNat:Int):=by
 unfold bytesOf
 have:n<(B.data.toList.map λb=>(b.toNat:Int)).length:=by simpa using h
 rw[oP this]
 simp
 rfl
theorem yw(B:ByteArray):(bytesOf B).length=B.size:=by simp[bytesOf]
theorem alR(hT:fT P T)(H:Rel cx Z J F a w)(hd:o.dst=some d)(hdn:d<cx.nt){t:TypeId}{x y:Operand}(ho:o.op=.index t x y)
  (h:(eZ x λa=>eZ y λi=>asInt i λ_ i=>match T.ty t,a with
   |some .str,.val .str s _=>.eY (aF i (show List Int from s).length) inferInstance (.ret [Wr.s d (.one (.val (.int .u8) ((show List Int from s).getD i.toNat 0) []))])
   |_,_=>(.fail:Prog (List Wr))).ends Z ws):dQ P cx o a w (aL ws Z):=by
 obtain⟨v,h1,h2,h⟩:=jN H h
 obtain⟨vi,h3,_,h⟩:=jN H h
 obtain⟨ik,i,ei,_,h⟩:=IJ h3 h
 cases hty:T.ty t with
 |none=>rw[hty]at h;exact h.elim
 |some k0=>
  rw[hty]at h
  cases k0 with
  |str=>
   cases v with
   |val k1 s Tg=>
    cases k1 with
    |str=>
     simp only at h
     obtain⟨⟨i0,i1⟩,h4⟩:=h
     rw[bE h4]
     obtain⟨B,e1,e2⟩:=AP h1
     subst e2
     have hu:P.underlying t=some .string:=by
      have:=hT.ty t .str hty
      unfold dO jK at this
      exact this.1
     have hlt:i.toNat<B.size:=by
      have i1':i<((bytesOf B).length:Int):=i1
      rw[yw]at i1'
      omega
     refine fV (v:=.int .u8 (B[i.toNat].toNat:Int)) H hd hdn ?_ ?_ (λt ht=>by simp at ht)
     ·simp only[execOp,ho,e1,ei,Instr.index,asIntOf,dZ,fH,gu,ig hu]
      rw[aj i0]
      simp[hlt]
     ·have eg:(show List Int from bytesOf B).getD i.toNat 0=(B[i.toNat].toNat:Int):=akY B hlt
      rw[eg]
      refine Uw ⟨by omega,?_⟩
      have:=B[i.toNat].toNat_lt
      omega
    |_=>exact h.elim
   |_=>exact h.elim
  |_=>cases v<;>exact h.elim
theorem ap2{l:List AV}{vs:List Value}(h:iP cx Z J F w l vs){i:Nat}{x:AV}(hi:l[i]?=some x):∃v,vs[i]?=some v/\a_ cx Z J F w x v:=by
 induction l generalizing vs i with
 |nil=>simp at hi
 |cons b l ih=>
  cases vs with
  |nil=>exact h.elim
  |cons u vs=>
   cases i with
   |zero=>simp only[qA,au]at hi;subst hi;exact⟨u,rfl,h.1⟩
   |succ i=>simp only[YF]at hi;obtain⟨v,h1,h2⟩:=ih h.2 hi;exact⟨v,by simpa using h1,h2⟩
theorem alO(H:Rel cx Z J F a w)(hd:o.dst=some d)(hdn:d<cx.nt){x:Operand}{i:Nat}(ho:o.op=.extract x i)
  (h:(uV x fun
   |.mO l=>match l[i]? with
    |some u=>.ret [Wr.s d (.one u)]
    |none=>.fail
   |_=>(.fail:Prog (List Wr))).ends Z ws):dQ P cx o a w (aL ws Z):=by
 obtain⟨v,h1,h2,h⟩:=EA H h
 cases v with
 |one u=>exact h.elim
 |lit _ _ _=>exact h.elim
 |mO l=>
  simp only at h
  cases hi:l[i]? with
  |none=>rw[hi]at h;exact h.elim
  |some u=>
   rw[hi]at h
   rw[bE h]
   obtain⟨vs,e1,e2⟩:=h1
   obtain⟨v,g1,g2⟩:=ap2 e2 hi
   refine fV (x:=.one u) (v:=v) H hd hdn ?_ g2 (h2 u (rq hi))
   simp[execOp,ho,e1,Instr.extract,g1]
end
end
section
open Go
variable [Fr]
theorem vk(ik:IntKind)(n:Int):lH ik (ik.wrap n):=by
 cases ik<;>simp only[lH]
 simp only[IntKind.wrap,IntKind.bits,IntKind.signed]
 simp
 omega
section
variable {P:Program}{cx:Cx}{Z:St}{J:aO}{F:List Nat}{a:Act}{w:World}{o:Oper}{d:Nat}{ws:List Wr}
theorem qp(ik:IntKind){n:Int}(h:lH ik n):jo cx Z J F w (v1 (.int ik) n) (.int ik n):=Uw h
theorem o8(b:Bool):jo cx Z J F w (v1 .bool b) (.bool b):=aqv
theorem pV{k:K}{x:El k}:nI Z (v1 k x):=λt ht=>by simp at ht
theorem apn{op:BinOp}{ik:IntKind}{x y:Int}{z:List Wr}(hx:lH ik x)(hy:lH ik y)(ht:TypeId){k:gU->Prog (List Wr)}(hk:∀v,k v=.ret [Wr.s d v])(h:(Od op ik x y k).ends Z z) :
  ∃kk y',(∃v,(Go.binOp op ht (.int ik x) (.int ik y)).run P w=.ok v w/\jo cx Z J F w (v1 kk y') v)/\z=[Wr.s d (v1 kk y')]:=by
 unfold Od at h
 cases op<;>simp only[hk]at h
 case add=>exact⟨.int ik,_,⟨_,by simp[Go.binOp,Op.intArith],qp ik (vk ik _)⟩,bE h⟩
 case sub=>exact⟨.int ik,_,⟨_,by simp[Go.binOp,Op.intArith],qp ik (vk ik _)⟩,bE h⟩
 case mul=>exact⟨.int ik,_,⟨_,by simp[Go.binOp,Op.intArith],qp ik (vk ik _)⟩,bE h⟩
 case quo=>
  obtain⟨h0,h⟩:=h
  exact⟨.int ik,_,⟨_,by simp[Go.binOp,Op.intDiv,h0],qp ik (vk ik _)⟩,bE h⟩
 case rem=>
  obtain⟨h0,h⟩:=h
  refine⟨.int ik,_,⟨_,by simp[Go.binOp,Op.intDiv,h0],qp ik ?_⟩,bE h⟩
  cases ik<;>simp only[lH]at hx hy ⊢
  have h1:=Int.tmod_nonneg y hx.1
  have h2:x.tmod y<y:=by
   rw[Qi hx.1]
   exact Int.emod_lt_of_pos x (by omega)
  omega
 case and=>exact⟨.int ik,_,⟨_,by simp[Go.binOp,Op.intBits],qp ik (vk ik _)⟩,bE h⟩
 case or=>exact⟨.int ik,_,⟨_,by simp[Go.binOp,Op.intBits],qp ik (vk ik _)⟩,bE h⟩
 case xor=>exact⟨.int ik,_,⟨_,by simp[Go.binOp,Op.intBits],qp ik (vk ik _)⟩,bE h⟩
 case andNot=>exact⟨.int ik,_,⟨_,by simp[Go.binOp,Op.intBits],qp ik (vk ik _)⟩,bE h⟩
 case eql=>exact⟨.bool,_,⟨.bool (decide (x=y)),by simp only[Go.binOp,ne_eq,not_true_eq_false,↓reduceIte];rfl,o8 _⟩,bE h⟩
 case neq=>exact⟨.bool,_,⟨.bool (!decide (x=y)),by simp only[Go.binOp,ne_eq,not_true_eq_false,↓reduceIte];rfl,o8 _⟩,bE h⟩
 case lss=>exact⟨.bool,_,⟨_,by simp[Go.binOp,Op.intCmp],o8 _⟩,bE h⟩
 case leq=>exact⟨.bool,_,⟨_,by simp[Go.binOp,Op.intCmp],o8 _⟩,bE h⟩
 case gtr=>exact⟨.bool,_,⟨_,by simp[Go.binOp,Op.intCmp],o8 _⟩,bE h⟩
 case geq=>exact⟨.bool,_,⟨_,by simp[Go.binOp,Op.intCmp],o8 _⟩,bE h⟩
 all_goals exact h.elim
theorem apQ:∀(x y:List UInt8),uZ (x.map λb=>(b.toNat:Int)) (y.map λb=>(b.toNat:Int))=Op.bytesLess x y:=by
 intro x
 induction x with
 |nil=>intro y;cases y<;>rfl
 |cons a x ih=>
  intro y
  cases y with
  |nil=>rfl
  |cons b y=>
   simp only[kZ,uZ,Op.bytesLess,ih]
   have h1:decide ((a.toNat:Int)<(b.toNat:Int))=decide (a<b):=by
    apply RY.2
    rw[UInt8.lt_iff_toNat_lt]
    omega
   have h2:decide ((a.toNat:Int)=(b.toNat:Int))=(a==b):=by
    rw[show(a==b)=decide (a=b)from rfl]
    apply RY.2
    rw[<-UInt8.toNat_inj]
    omega
   rw[h1,h2]
theorem aqd:∀{x y:List UInt8},x.map (λb=>(b.toNat:Int))=y.map (λb=>(b.toNat:Int))↔x=y:=by
 intro x
 induction x with
 |nil=>intro y;cases y<;>simp
 |cons a x ih=>
  intro y
  cases y with
  |nil=>simp
  |cons b y=>
   simp only[kZ,jr,ih]
   have:(a.toNat:Int)=(b.toNat:Int)↔a=b:=by rw[<-UInt8.toNat_inj];omega
   rw[this]
theorem akZ{A B:ByteArray}:bytesOf A=bytesOf B↔A.toList=B.toList:=by
 unfold bytesOf
 rw[aqd,Pf,Pf]
theorem Ni{A B:ByteArray}:(A.toList==B.toList)=decide (bytesOf A=bytesOf B):=by
 rw[show(A.toList==B.toList)=decide (A.toList=B.toList)from by
  cases h:(A.toList==B.toList)with
  |true=>simp[eq_of_beq h]
  |false=>simp[ne_of_beq_false h]]
 exact RY.2 akZ.symm
theorem Nj{A B:ByteArray}:Op.bytesLess A.toList B.toList=uZ (bytesOf A) (bytesOf B):=by
 unfold bytesOf
 rw[apQ,Pf,Pf]
theorem akX(A B:ByteArray):bytesOf (A++B)=bytesOf A++bytesOf B:=by
 unfold bytesOf
 rw[<-q9]
 congr 1
theorem asZ{op:BinOp}{A B:ByteArray}{z:List Wr}(ht:TypeId){k:gU->Prog (List Wr)}(hk:∀v,k v=.ret [Wr.s d v])(h:(Vi op (bytesOf A) (bytesOf B) k).ends Z z) :
  ∃kk y',(∃v,(Go.binOp op ht (.string A) (.string B)).run P w=.ok v w/\jo cx Z J F w (v1 kk y') v)/\z=[Wr.s d (v1 kk y')]:=by
 unfold Vi at h
 cases op<;>simp only[hk]at h
 case add=>
  obtain⟨h0,h⟩:=h
  rw[yw,yw]at h0
  refine⟨.str,bytesOf A++bytesOf B,⟨.string (A++B),?_,?_⟩,bE h⟩
  ·have:¬(((A.size+B.size:Nat):Int)>IntKind.i64.max):=by
    simp only[IntKind.max,IntKind.signed,IntKind.bits]
    simp
    omega
   simp only[Go.binOp,Op.stringOp]
   rw[aC this]
   rfl
  ·rw[<-akX];exact Ux
 case eql=>exact⟨.bool,_,⟨.bool (decide (bytesOf A=bytesOf B)),by simp only[Go.binOp,Op.stringOp];rw[Ni];rfl,o8 _⟩,bE h⟩
 case neq=>exact⟨.bool,_,⟨.bool (!decide (bytesOf A=bytesOf B)),by simp only[Go.binOp,Op.stringOp];rw[Ni];rfl,o8 _⟩,bE h⟩
 case lss=>exact⟨.bool,_,⟨.bool (uZ (bytesOf A) (bytesOf B)),by simp only[Go.binOp,Op.stringOp];rw[Nj];rfl,o8 _⟩,bE h⟩
 case leq=>exact⟨.bool,_,⟨.bool (uZ (bytesOf A) (bytesOf B)||decide (bytesOf A=bytesOf B)),by simp only[Go.binOp,Op.stringOp];rw[Nj,Ni];rfl,o8 _⟩,bE h⟩
 case gtr=>exact⟨.bool,_,⟨.bool (!(uZ (bytesOf A) (bytesOf B)||decide (bytesOf A=bytesOf B))),by simp only[Go.binOp,Op.stringOp];rw[Nj,Ni];rfl,o8 _⟩,bE h⟩
 case geq=>exact⟨.bool,_,⟨.bool (!uZ (bytesOf A) (bytesOf B)),by simp only[Go.binOp,Op.stringOp];rw[Nj];rfl,o8 _⟩,bE h⟩
 all_goals exact h.elim
theorem amb(H:Rel cx Z J F a w)(hd:o.dst=some d)(hdn:d<cx.nt){t:TypeId}{x:Operand}{op:UnOp}(ho:o.op=.unOp op t x)
  (h:(eZ x λa=>Vy op a λv=>(.ret [Wr.s d v]:Prog (List Wr))).ends Z ws):dQ P cx o a w (aL ws Z):=by
 obtain⟨v,h1,h2,h⟩:=jN H h
 unfold Vy at h
 split at h
 ·obtain⟨e1,e2⟩:=AO h1
  rw[bE h]
  exact fV H hd hdn (by simp[execOp,ho,e1,Op.unary,Op.intArith]) (qp _ (vk _ _)) pV
 ·obtain⟨e1,e2⟩:=AO h1
  rw[bE h]
  exact fV H hd hdn (by simp[execOp,ho,e1,Op.unary,Op.intBits]) (qp _ (vk _ _)) pV
 ·have e1:=Gb h1
  rw[bE h]
  exact fV H hd hdn (by simp[execOp,ho,e1,Op.unary]) (o8 _) pV
 ·exact h.elim
end
end
section
open Go
variable [Fr]
section
variable {P:Program}{T:bL}{cx:Cx}{Z:St}{J:aO}{F:List Nat}{a:Act}{w:World}{o:Oper}{d:Nat}{ws:List Wr}
theorem ad8{op:BinOp}{t:TypeId}{x y:Operand}{u v:Value}(h:(∀c,u≠.agg c)/\u≠.nilIface):(eqGuard op t x y u v).run P w=.ok () w:=by
 unfold eqGuard
 cases op<;>simp only[fK,jf,bg,↓reduceIte]<;>first|rfl|skip
 all_goals (cases u<;>first|rfl|exact absurd rfl (h.1 _)|exact absurd rfl h.2)
theorem Ur:∃n,Op.maxDepth=n+1:=⟨Op.maxDepth-1,by unfold Op.maxDepth;rfl⟩
theorem run_equal_bool{t:TypeId}(h:P.underlying t=some .bool)(x y:Bool):(Op.equal t (.bool x) (.bool y)).run P w=.ok (x==y) w:=by
 obtain⟨n,e⟩:=Ur
 unfold Op.equal
 rw[e]
 simp[Op.equalIn,ig h]
theorem ad9{t e:TypeId}(h:P.underlying t=some (.pointer e)){u v:Option Addr}(hn:u=none\/v=none):(Op.equal t (.pointer u) (.pointer v)).run P w=.ok (u.isNone&&v.isNone) w:=by
 obtain⟨n,e⟩:=Ur
 unfold Op.equal
 rw[e]
 rcases hn with rfl|rfl
 ·simp[Op.equalIn,ig h]
 ·cases u<;>simp[Op.equalIn,ig h]
theorem aqD{x y:AV}{u v:Value}{b:Bool}(hx:a_ cx Z J F w x u)(hy:a_ cx Z J F w y v)(h:J3 x y=some b):∃p q,u=.pointer p/\v=.pointer q/\(p=none\/q=none)/\(p.isNone&&q.isNone)=b:=by
 unfold J3 at h
 split at h<;>simp only[au,reduceCtorEq]at h<;>subst h
 ·exact⟨none,none,hx,hy,.inl rfl,rfl⟩
 ·obtain⟨b,q,e⟩:=hy.1;exact⟨none,_,hx,e,.inl rfl,rfl⟩
 ·obtain⟨b,q,e⟩:=hx.1;exact⟨_,none,e,hy,.inr rfl,rfl⟩
 ·obtain⟨b,q,e⟩:=hy.1;exact⟨none,_,hx,e,.inl rfl,rfl⟩
 ·obtain⟨b,q,e⟩:=hx.1;exact⟨_,none,e,hy,.inr rfl,rfl⟩
def wZ(P:Program)(T:bL):Prop:=∀(t:TypeId) (c:K) (x y:El c) (u v:Array Value) (w:World) (hp1 hp2:Heap) (ok1 ok2:Nat->Prop),T.ty t=some (.st c)->T.eq t=true->c.flat=true->
 Vw hp1 ok1 c x u.toList->Vw hp2 ok2 c y v.toList->(Op.equal t (.agg u) (.agg v)).run P w=.ok (yE c x y) w/\∀x y op,(eqGuard op t x y (.agg u) (.agg v)).run P w=.ok () w
theorem akO{A:Type}{z:A}{t:TypeId}{op:BinOp}{u v:AV}{k:gU->Prog A}(h:(zS T t op u v k).ends Z z) :
  (∃ik x T1 jk y T2,u=.val (.int ik) x T1/\v=.val (.int jk) y T2)\/(∃x T1 y T2,u=.val .bool x T1/\v=.val .bool y T2)\/(∃x T1 y T2,u=.val .str x T1/\v=.val .str y T2)\/
  (∃c x T1 e y T2,u=.val (.st c) x T1/\v=.val (.st e) y T2)\/(T.ptr t=true/\∃b,J3 u v=some b/\((op=.eql/\(k (v1 .bool b)).ends Z z)\/(op=.neq/\(k (v1 .bool (!b))).ends Z z))):=by
 unfold zS at h
 split at h
 ·exact .inl ⟨_,_,_,_,_,_,rfl,rfl⟩
 ·exact .inr (.inl ⟨_,_,_,_,rfl,rfl⟩)
 ·exact .inr (.inr (.inl ⟨_,_,_,_,rfl,rfl⟩))
 ·exact .inr (.inr (.inr (.inl ⟨_,_,_,_,_,_,rfl,rfl⟩)))
 ·rcases bF h with⟨hp,h5⟩|⟨_,h5⟩
  ·cases hn:J3 u v with
   |none=>rw[hn]at h5;exact h5.elim
   |some b=>
    rw[hn]at h5
    cases op with
    |eql=>exact .inr (.inr (.inr (.inr ⟨hp,b,rfl,.inl ⟨rfl,h5⟩⟩)))
    |neq=>exact .inr (.inr (.inr (.inr ⟨hp,b,rfl,.inr ⟨rfl,h5⟩⟩)))
    |_=>exact h5.elim
  ·exact h5.elim
theorem asB{t e:TypeId}(h:P.underlying t=some (.slice e))(p:Option Addr)(n c:Nat):(Go.binOp .eql t (.slice p n c) (.slice none 0 0)).run P w=.ok (.bool p.isNone) w:=by
 obtain⟨m,em⟩:=Ur
 have:(Op.equal t (.slice p n c) (.slice none 0 0)).run P w=.ok p.isNone w:=by
  unfold Op.equal
  rw[em]
  cases p<;>simp[Op.equalIn,ig h]
 simp only[Go.binOp]
 simp[this,Result.andThen]
theorem alF(hT:fT P T)(hSt:wZ P T)(H:Rel cx Z J F a w)(hd:o.dst=some d)(hdn:d<cx.nt){t t2:TypeId}{x y:Operand}{op:BinOp}(ho:o.op=.binOp op t x y t2)
  (h:(eZ x λa=>eZ y λb=>zS T t op a b λv=>(.ret [Wr.s d v]:Prog (List Wr))).ends Z ws):dQ P cx o a w (aL ws Z):=by
 obtain⟨u,h1,hu1,h5⟩:=jN H h
 obtain⟨v,h3,hu3,h6⟩:=jN H h5
 clear h h5
 have h:=h6
 clear h6
 have hrun:∀{z:Value},((∀c,a.eval x≠.agg c)/\a.eval x≠.nilIface)->(Go.binOp op t (a.eval x) (a.eval y)).run P w=.ok z w->(execOp a.eval o).run P w=.ok (.value z) w:=by
  intro z hz h
  have hg:=ad8 (P:=P) (w:=w) (op:=op) (t:=t) (x:=x) (y:=y) (v:=a.eval y) hz
  simp only[execOp,ho,dZ,hg,h,gu,fH]
 rcases akO h with⟨ik,x1,T1,jk,y1,T2,rfl,rfl⟩|⟨x1,T1,y1,T2,rfl,rfl⟩|⟨x1,T1,y1,T2,rfl,rfl⟩|⟨c,x1,T1,dd,y1,T2,rfl,rfl⟩|⟨hp,b,hne,hop⟩
 ·obtain⟨e1,r1⟩:=AO h1
  obtain⟨e2,r2⟩:=AO h3
  have hag:(∀c,a.eval x≠.agg c)/\a.eval x≠.nilIface:=by rw[e1];simp
  have hplain:(bif uX ik jk then Od op ik x1 y1 λv=>(.ret [Wr.s d v]:Prog (List Wr))else .fail).ends Z ws->dQ P cx o a w (aL ws Z):=by
   intro h
   rcases bF h with⟨hik,h⟩|⟨_,h⟩
   ·have:=JC hik
    subst this
    obtain⟨kk,y',⟨z,g1,g2⟩,g3⟩:=apn (P:=P) (cx:=cx) (Z:=Z) (J:=J) (F:=F) (w:=w) (d:=d) r1 r2 t (λv=>rfl) h
    rw[g3]
    exact fV H hd hdn (hrun hag (by rw[e1,e2];exact g1)) g2 pV
   ·exact h.elim
  cases op with
  |shl=>
   obtain⟨h0,h⟩:=h
   rw[bE h]
   refine fV H hd hdn (hrun hag (z:=.int ik (ik.wrap (x1*2 ^ min y1.toNat ik.bits))) ?_) (qp ik (vk _ _)) pV
   rw[e1,e2]
   simp only[Go.binOp,Op.shift]
   rw[aC (Int.not_lt.2 h0)]
   rfl
  |shr=>
   obtain⟨h0,h⟩:=h
   rw[bE h]
   refine fV H hd hdn (hrun hag (z:=.int ik (x1.fdiv (2 ^ min y1.toNat ik.bits))) ?_) (qp ik ?_) pV
   ·rw[e1,e2]
    simp only[Go.binOp,Op.shift]
    rw[aC (Int.not_lt.2 h0)]
    rfl
   ·cases ik<;>simp only[lH]at r1 ⊢
    have hp:(0:Int)<2 ^ min y1.toNat IntKind.u8.bits:=Int.pow_pos (by omega)
    have g1:0<=x1.fdiv (2 ^ min y1.toNat IntKind.u8.bits):=Int.fdiv_nonneg r1.1 (Int.le_of_lt hp)
    have g2:x1.fdiv (2 ^ min y1.toNat IntKind.u8.bits)<=x1:=by
     rw[Int.fdiv_eq_ediv_of_nonneg _ (Int.le_of_lt hp)]
     exact Int.ediv_le_self _ r1.1
    omega
  |_=>exact hplain h
 ·have e1:=Gb h1
  have e2:=Gb h3
  have hag:(∀c,a.eval x≠.agg c)/\a.eval x≠.nilIface:=by rw[e1];simp
  have hub:T.ty t=some .bool->P.underlying t=some .bool:=λhty=>by
   have:=hT.ty t .bool hty
   unfold dO jK at this
   exact this.1
  cases hty:T.ty t with
  |none=>simp only[zS,hty]at h;exact h.elim
  |some k0=>
   cases k0 with
   |bool=>
    have hu:=hub hty
    simp only[zS,hty]at h
    cases op with
    |eql=>
     rw[bE h]
     refine fV H hd hdn (hrun hag (z:=.bool (x1==y1)) ?_) (o8 _) pV
     rw[e1,e2]
     simp only[Go.binOp,dZ,run_equal_bool hu,gu,fH]
    |neq=>
     rw[bE h]
     refine fV H hd hdn (hrun hag (z:=.bool (!(x1==y1))) ?_) (o8 _) pV
     rw[e1,e2]
     simp only[Go.binOp,dZ,run_equal_bool hu,gu,fH]
    |_=>exact h.elim
   |_=>simp only[zS,hty]at h;exact h.elim
 ·obtain⟨A,e1,f1⟩:=AP h1
  obtain⟨B,e2,f2⟩:=AP h3
  subst f1
  subst f2
  have hag:(∀c,a.eval x≠.agg c)/\a.eval x≠.nilIface:=by rw[e1];simp
  obtain⟨kk,y',⟨z,g1,g2⟩,g3⟩:=asZ (P:=P) (cx:=cx) (Z:=Z) (J:=J) (F:=F) (w:=w) (d:=d) t (λv=>rfl) h
  rw[g3]
  exact fV H hd hdn (hrun hag (by rw[e1,e2];exact g1)) g2 pV
 ·simp only[zS]at h
  cases hck:b_ (.st dd) (.st c) y1 with
  |none=>rw[hck]at h;exact h.elim
  |some y2=>
   rw[hck]at h
   obtain⟨ek,ey⟩:=ji hck
   simp only[K.st.injEq]at ek
   subst ek
   simp only at ey
   subst ey
   simp only at h
   rcases bF h with⟨hc,h5⟩|⟨_,h5⟩
   ·simp only[bB]at hc
    have hty:T.ty t=some (.st dd):=by
     have h2:=hc.2
     cases ht:T.ty t with
     |none=>rw[ht]at h2;simp at h2
     |some kk=>rw[ht]at h2;rw[K.eq_of_beq h2]
    obtain⟨cs1,e1,V1⟩:=h1 (.inl hc.1.1)
    obtain⟨cs2,e2,V2⟩:=h3 (.inl hc.1.1)
    have R3:a.eval x=.agg cs1.toArray:=e1
    have e2':a.eval y=.agg cs2.toArray:=e2
    obtain⟨r1,r2⟩:=hSt t dd x1 y2 cs1.toArray cs2.toArray w _ _ _ _ hty hc.1.2 hc.1.1 (show Vw _ _ dd x1 cs1 from V1) (show Vw _ _ dd y2 cs2 from V2)
    have E8:∀{z:Value},(Go.binOp op t (a.eval x) (a.eval y)).run P w=.ok z w->(execOp a.eval o).run P w=.ok (.value z) w:=by
     intro z h
     have hg:=r2 x y op
     rw[<-R3,<-e2']at hg
     simp only[execOp,ho,dZ,hg,h,gu,fH]
    cases op with
    |eql=>
     rw[bE h5]
     refine fV H hd hdn (E8 (z:=.bool (yE dd x1 y2)) ?_) (o8 _) pV
     rw[R3,e2']
     simp only[Go.binOp,dZ,r1,gu,fH]
    |neq=>
     rw[bE h5]
     refine fV H hd hdn (E8 (z:=.bool (!yE dd x1 y2)) ?_) (o8 _) pV
     rw[R3,e2']
     simp only[Go.binOp,dZ,r1,gu,fH]
    |_=>exact h5.elim
   ·exact h5.elim
 ·obtain⟨e,hu⟩:=hT.ptr t hp
  obtain⟨p,q,e1,e2,hn,hb⟩:=aqD h1 h3 hne
  have hag:(∀c,a.eval x≠.agg c)/\a.eval x≠.nilIface:=by rw[e1];simp
  rcases hop with⟨rfl,h5⟩|⟨rfl,h5⟩
  ·rw[bE h5]
   refine fV H hd hdn (hrun hag (z:=.bool b) ?_) (o8 _) pV
   rw[e1,e2]
   simp only[Go.binOp,dZ,ad9 hu hn,hb,gu,fH]
  ·rw[bE h5]
   refine fV H hd hdn (hrun hag (z:=.bool (!b)) ?_) (o8 _) pV
   rw[e1,e2]
   simp only[Go.binOp,dZ,ad9 hu hn,hb,gu,fH]
theorem alE(hT:fT P T)(hSt:wZ P T)(H:Rel cx Z J F a w)(hd:o.dst=some d)(hdn:d<cx.nt){t t2:TypeId}{x y:Operand}{op:BinOp}(ho:o.op=.binOp op t x y t2)
  (h:(Rt T t op x y λv=>(.ret [Wr.s d v]:Prog (List Wr))).ends Z ws):dQ P cx o a w (aL ws Z):=by
 unfold Rt at h
 rcases bF h with⟨hc,h⟩|⟨_,h⟩
 ·simp only[bB]at hc
  have ey:y=.const (.slice none 0 0):=by
   have:=hc.1
   unfold abC at this
   split at this
   ·rfl
   ·simp at this
  have eop:op=.eql:=by
   have:=hc.2
   unfold abB at this
   split at this
   ·rfl
   ·simp at this
  subst ey eop
  obtain⟨u,h1,hu1,h5⟩:=jN H h
  unfold acj at h5
  split at h5
  ·rename_i e kk hty
   obtain⟨Fz,z,Tg,cs,g1,g2,g3,h6⟩:=En H h1 hu1 h5
   cases Fz with
   |sl e' Fz=>
    simp only at h6
    rw[bE h6]
    obtain⟨p,n,c,rfl,g5,g6,g7⟩:=g2
    have ev:a.eval x=.slice p n c:=by
     have:=g1.cells
     obtain⟨g8,g9⟩:=g1
     first
      |exact(List.cons.inj g8.symm).1
      |(simp only[jr,fM]at g8;exact g8.symm)
      |exact g8
    have hu:=(dO.sl (hT.ty t _ hty)).1
    have hag:(∀c,a.eval x≠.agg c)/\a.eval x≠.nilIface:=by rw[ev];simp
    have hg:=ad8 (P:=P) (w:=w) (op:=.eql) (t:=t) (x:=x) (y:=.const (.slice none 0 0)) (v:=a.eval (.const (.slice none 0 0))) hag
    have hr:=asB (w:=w) hu p n c
    refine fV (v:=.bool p.isNone) H hd hdn ?_ (show a_ cx Z J F w (.pO _) _ from⟨_,rfl,λhp=>?_⟩) trivial
    ·have e2:a.eval (.const (.slice none 0 0))=.slice none 0 0:=rfl
     have hr':(Go.binOp .eql t (a.eval x) (a.eval (.const (.slice none 0 0)))).run P w=.ok (.bool p.isNone) w:=by rw[ev,e2];exact hr
     simp only[execOp,ho,dZ,hg,hr',gu,fH]
    ·cases p with
     |some q=>simp at hp
     |none=>
      have hn:n=0:=by
       refine kD λhne=>?_
       obtain⟨b,o,e1,_⟩:=g7 (by omega)
       simp at e1
      have Sl:n=@List.length (El Fz) z:=g5
      rw[List.isEmpty_iff_length_eq_zero,<-Sl,hn]
   |_=>exact h6.elim
  ·exact h5.elim
 ·exact alF hT hSt H hd hdn ho h
end
end
section
open Go
variable [Fr]
section
variable {P:Program}{T:bL}{cx:Cx}{Z:St}{J:aO}{F:List Nat}{a:Act}{w:World}{o:Oper}{d:Nat}{ws:List Wr}
theorem FX{c:Call}{b:Builtin}(ho:o.op=.call c)(hb:c.callee=.builtin b):∃cs,(execOp a.eval o).run P w=(builtin b c.argTypes o.type cs (c.args.map a.eval)).run P w:=
 ⟨_,by simp only[execOp,ho,resolve,hb,dZ,fH,gu,invoke];rfl⟩
theorem dO.str{t:TypeId}(h:dO P T t .str):P.underlying t=some .string:=by
 unfold dO jK at h
 exact h.1
theorem uK(hT:fT P T){c:Call}{i:Nat}{k:K}(h:(c.argTypes[i]?).bind T.ty=some k):∃t,c.argTypes[i]?=some t/\dO P T t k:=by
 cases ht:c.argTypes[i]? with
 |none=>rw[ht]at h;simp at h
 |some t=>rw[ht]at h;exact⟨t,rfl,hT.ty t k h⟩
theorem ad_{ats:Array TypeId}{ty t:TypeId}{v:Value}{n:Nat}{args:Array Value}(ha:ats[0]?=some t)(hv:args[0]?=some v)(h:(P.underlying t=some .string/\∃B:ByteArray,v=.string B/\B.size=n)\/((∃e,P.underlying t=some (.slice e))/\∃b c,v=.slice b n c)) :
  (Builtin.len_ ats ty args).run P w=.ok (.int .i64 (n:Int)) w:=by
 unfold Builtin.len_
 simp only[ha,hv]
 rcases h with⟨hu,B,rfl,rfl⟩|⟨⟨e,hu⟩,b,c,rfl⟩
 ·simp[ig hu,goInt]
 ·simp[ig hu,goInt]
theorem alT(hT:fT P T)(H:Rel cx Z J F a w)(hd:o.dst=some d)(hdn:d<cx.nt){c:Call}(ho:o.op=.call c)(hb:c.callee=.builtin .len)
  (h:(pF c.args.toList fun
   | [.fZ]=>match (c.argTypes[0]?).bind T.ty with
    |some (.sl _ _)=>(.ret [Wr.s d (.one (.val (.int .i64) 0 []))]:Prog (List Wr))
    |_=>.fail
   | [.val .str s _]=>match (c.argTypes[0]?).bind T.ty with
    |some .str=>.ret [Wr.s d (.one (.val (.int .i64) ((show List Int from s).length:Int) []))]
    |_=>.fail
   | [a]=>match (c.argTypes[0]?).bind T.ty with
    |some (.sl _ _)=>qH a λkk x _=>match kk,x with
     |.sl _ kk,xs=>.ret [Wr.s d (.one (.val (.int .i64) ((show List (El kk)from xs).length:Int) []))]
     |_,_=>.fail
    |_=>.fail
   |_=>.fail).ends Z ws):dQ P cx o a w (aL ws Z):=by
 obtain⟨vs,h1,h2,h⟩:=xx H h
 have hfin:∀{t:TypeId} {n:Nat} {v:Value} {x:Operand},c.args.toList=[x]->c.argTypes[0]?=some t->a.eval x=v->((P.underlying t=some .string/\∃B:ByteArray,v=.string B/\B.size=n)\/((∃e,P.underlying t=some (.slice e))/\∃b c,v=.slice b n c))->
   dQ P cx o a w (aL [Wr.s d (.one (.val (.int .i64) (n:Int) []))] Z):=by
  intro t n v x hx ht hv hs
  have ha:(c.args.map a.eval)[0]?=some v:=by
   rw[<-wN,wO,hx]
   simp[hv]
  refine fV H hd hdn ?_ (qp .i64 (n:=(n:Int)) trivial) pV
  obtain⟨cc,hcc⟩:=FX (P:=P) (a:=a) (w:=w) ho hb
  rw[hcc]
  simp only[builtin,dZ,ad_ (ty:=o.type) (w:=w) ht ha hs,gu,fH]
 have hone:∀{u:AV},vs=[u]->∃x,c.args.toList=[x]/\a_ cx Z J F w u (a.eval x):=by
  intro u e
  subst e
  cases hl:c.args.toList with
  |nil=>rw[hl]at h1;exact h1.elim
  |cons x l=>
   rw[hl]at h1
   cases l with
   |nil=>exact⟨x,rfl,h1.1⟩
   |cons y l=>exact h1.2.elim
 split at h
 ·obtain⟨x,hx,hu⟩:=hone rfl
  split at h
  ·rename_i hty
   obtain⟨t,ht,hk⟩:=uK hT hty
   rw[bE h]
   obtain⟨b,e⟩:=hu
   exact hfin (n:=0) hx ht rfl (.inr ⟨⟨_,hk.sl.1⟩,b,0,e⟩)
  ·exact h.elim
 ·obtain⟨x,hx,hu⟩:=hone rfl
  split at h
  ·rename_i hty
   obtain⟨t,ht,hk⟩:=uK hT hty
   rw[bE h]
   obtain⟨B,e1,e2⟩:=AP hu
   subst e2
   have e:(show List Int from bytesOf B).length=B.size:=yw B
   rw[e]
   exact hfin (n:=B.size) hx ht rfl (.inl ⟨hk.str,B,e1,rfl⟩)
  ·exact h.elim
 ·obtain⟨x,hx,hu⟩:=hone rfl
  split at h
  ·rename_i hty
   obtain⟨t,ht,hk⟩:=uK hT hty
   obtain⟨kk,y,Tg,cs,g1,g2,g3,g4⟩:=En H hu (h2 _ (by simp)) h
   cases kk with
   |sl e kk=>
    rw[bE g4]
    obtain⟨b,n,cc,f1,f2,f3,f4,f5⟩:=CZ g1 g2
    have e:((@List.length (El kk) y:Nat):Int)=(n:Int):=by rw[f3]
    have e':(show List (El kk)from y).length=n:=f3.symm
    rw[e']
    exact hfin (n:=n) hx ht rfl (.inr ⟨⟨_,hk.sl.1⟩,b,cc,f1⟩)
   |_=>exact g4.elim
  ·exact h.elim
 ·exact h.elim
theorem Zh(H:Rel cx Z J F a w){r:Nat}{R:Root}(hr:aX Z r R){b:Nat}(hb:b∈blk J R r)(hnb:¬oh cx b):bK cx Z J F w ((r,dR R.w) :: R.tags) b:=by
 have hm:=(H.roots r R hr).mine b hb
 refine⟨hm.1,H.fI r R hr b hb,hnb,λq Q hq hbq=>?_,λh0=>?_⟩
 ·by_cases e:q=r
  ·subst e;exact⟨dR R.w,by simp⟩
  ·exact absurd hb (H.lN q Q r R hq hr e b hbq)
 ·rcases hm.2 with h|⟨j,pi,h1,h2⟩
  ·omega
  ·exact .inr ⟨j,pi,h1,h2⟩
theorem ak3{A:Type}{z:A}(H:Rel cx Z J F a w):∀{l:List AV} {vs:List Value} {k:List (TypeId×Dat×List Tag)->Prog A},iP cx Z J F w l vs->(∀v∈l,dV Z v)->(Es l k).ends Z z->
  ∃cs,nJ cx Z J F w cs vs/\(∀c∈cs,gB Z c.2.2)/\(k cs).ends Z z:=by
 intro l
 induction l with
 |nil=>
  intro vs k h1 _ h
  cases vs with
  |nil=>exact⟨[],trivial,by simp,h⟩
  |cons v vs=>exact h1.elim
 |cons x l ih=>
  intro vs k h1 h2 h
  cases vs with
  |nil=>exact h1.elim
  |cons v vs=>
   simp only[Es]at h
   rcases Nb H h1.1 (h2 x (by simp)) h with⟨r,R,p,dd,cs,b,q,hr,hv,hg,dn,hown,hn,e,h5⟩|⟨bt,dd,Tg,b,q,cs,hw,e,hcs,hV,hok,hb,h5⟩
   ·rcases bF h5 with⟨_,h6⟩|⟨hne,h6⟩
    ·exact h6.elim
    ·obtain⟨cs2,g1,g2,g3⟩:=ih h1.2 (λv hv=>h2 v (by simp[hv])) h6
     obtain⟨hC,⟨bu,hO,hf⟩,hbb,⟨arr,te,lo,hi,m1,m2,m3,m4⟩,_⟩:=xG H hr hv hg dn hown hn
     have hbase:iV R p=te/\¬oh cx b:=by
      rcases m4 with m4|⟨_,m4⟩
      ·exact m4
      ·rw[m4]at hne;simp at hne
     refine⟨(iV R p,dd,(r,dR R.w) :: R.tags) :: cs2,⟨⟨⟨b,q,e⟩,λ_=>⟨b,q,cs,e,hC,?_,(Zh H hr hbb hbase.2).q,.inr ⟨.inl (by rw[hbase.1];unfold jM;rw[m1]),hbase.2⟩⟩⟩,g1⟩,?_,g3⟩
     ·exact qE _ (λb hb=>CU hb (λt ht=>by simp[ht])) (λb hb=>Zh H hr (bH _ (hf b hb)) (Ac H hr (hf b hb))) hO
     ·intro c hc
      rcases bW.1 hc with h|h
      ·subst h
       intro t ht
       rcases bW.1 ht with h|h
       ·subst h;exact .inr ⟨R,hr.1,.inr (bV _)⟩
       ·exact(H.gz r R hr.1).1 t h
      ·exact g2 c h
   ·obtain⟨cs2,g1,g2,g3⟩:=ih h1.2 (λv hv=>h2 v (by simp[hv])) h5
    refine⟨(bt,dd,Tg) :: cs2,⟨⟨⟨b,q,e⟩,λ_=>⟨b,q,cs,e,hcs,hV,hok,hb⟩⟩,g1⟩,?_,g3⟩
    intro c hc
    rcases bW.1 hc with h|h
    ·subst h;exact hw
    ·exact g2 c h
theorem alX(H:Rel cx Z J F a w)(hd:o.dst=some d)(hdn:d<cx.nt){f:Nat}{first caps:Array Operand}(ho:o.op=.makeFunc (.func f) first caps)
  (h:(bif first.isEmpty then pF caps.toList λl=>Es l λcs=>.ret [Wr.s d (.one (.fn f cs))]else(.fail:Prog (List Wr))).ends Z ws):dQ P cx o a w (aL ws Z):=by
 rcases bF h with⟨he,h5⟩|⟨_,h5⟩
 ·obtain⟨vs,h1,h2,h6⟩:=xx H h5
  obtain⟨cs,g1,g2,g3⟩:=ak3 H h1 h2 h6
  rw[bE g3]
  have hf:first=#[]:=by simpa using he
  refine fV (x:=.one (.fn f cs)) (v:=.func (.func f) #[] (caps.map a.eval)) H hd hdn ?_ ⟨(caps.map a.eval).toList,rfl,by rw[wO];exact g1⟩ g2
  simp[execOp,ho,Instr.makeFunc,hf]
 ·exact h5.elim
end
end
section
open Go
variable [Fr]
section
variable {P:Program}{T:bL}{cx:Cx}{Z:St}{J:aO}{F:List Nat}{a:Act}{w:World}{o:Oper}{d:Nat}{ws:List Wr}
theorem J9{A:Type}{z:A}(H:Rel cx Z J F a w){x:Option Operand}{k:Option Int->Prog A}(h:(ve x k).ends Z z) :
  ∃i:Option Int,(k i).ends Z z/\(i=none↔x=none)/\∀j,i=some j->∃ik,x.map a.eval=some (.int ik j):=by
 cases x with
 |none=>exact⟨none,h,by simp,λj hj=>by simp at hj⟩
 |some y=>
  simp only[ve]at h
  obtain⟨v,h1,_,h⟩:=jN H h
  obtain⟨ik,n,e,_,h⟩:=IJ h1 h
  exact⟨some n,h,by simp,λj hj=>by simp only[au]at hj;subst hj;exact⟨ik,by simp[e]⟩⟩
theorem ad6{TZ:Bool}{len cap:Nat}{lo hi:Option Int}{l h:Option Value}(hlc:len<=cap)(hl:lo=none->l=none)(hl':∀j,lo=some j->∃ik,l=some (.int ik j))(hh:hi=none->h=none)(hh':∀j,hi=some j->∃ik,h=some (.int ik j))
  (h1:∀j,hi=some j->0<=j/\j<=(len:Int)) (h2:∀j,lo=some j->0<=j/\j<=hi.getD (len:Int)) :
  (Instr.sliceBounds TZ len cap l h none).run P w=.ok ((lo.getD 0).toNat,(hi.getD (len:Int)).toNat,cap) w:=by
 unfold Instr.sliceBounds
 cases hi with
 |none=>
  rw[hh rfl]
  cases lo with
  |none=>rw[hl rfl];simp
  |some j=>
   obtain⟨ik,e⟩:=hl' j rfl
   obtain⟨g1,g2⟩:=h2 j rfl
   simp only[D6]at g2
   rw[e]
   simp[Instr.sliceBound,asIntOf,g1,g2]
 |some i=>
  obtain⟨ik,e⟩:=hh' i rfl
  obtain⟨f1,f2⟩:=h1 i rfl
  have f3:i<=(cap:Int):=by omega
  rw[e]
  cases lo with
  |none=>rw[hl rfl];simp[Instr.sliceBound,asIntOf,f1,f3]
  |some j=>
   obtain⟨Ob,e2⟩:=hl' j rfl
   obtain⟨g1,g2⟩:=h2 j rfl
   simp only[tX]at g2
   have g3:j<=max i 0:=by omega
   rw[e2]
   simp[Instr.sliceBound,asIntOf,f1,f3,g1]
   omega
theorem YW{h:Heap}{ok:Nat->Prop}{e:TypeId}{k:K}{xs:List (El k)}{b:Option Addr}{n c l m:Nat}(H:Vw h ok (.sl e k) xs [.slice b n c])(hl:l<=m)(hm:m<=n) :
  Vw h ok (.sl e k) (show List (El k)from(xs.take m).drop l) [.slice (if c=l then b else b.map (·.add (l*k.size))) (m-l) (c-l)]:=by
 obtain⟨b',n',c',e1,e2,e3,e4⟩:=H
 simp only[jr,oJ,fM]at e1
 obtain⟨rfl,rfl,rfl⟩:=e1
 have hxl:xs.length=n:=e2.symm
 have hlen:((xs.take m).drop l).length=m-l:=by simp;omega
 refine⟨_,_,_,rfl,hlen.symm,by omega,λh0=>?_⟩
 obtain⟨bb,q,rfl,hok,hel,hes⟩:=e4 (by omega)
 have hc:¬c=l:=by omega
 refine⟨bb,q+l*k.size,by rw[aC hc];simp[addr_add],hok,hel,λi hi=>?_⟩
 have hi':i<((xs.take m).drop l).length:=hi
 obtain⟨ds,h1,h2⟩:=hes (l+i) (by show l+i<xs.length;omega)
 refine⟨ds,?_,?_⟩
 ·rw[oF,<-iZ]
  exact h1
 ·have:(show List (El k)from(xs.take m).drop l)[i]'hi=xs[l+i]'(by omega):=by
   show((xs.take m).drop l)[i]=_
   simp
  rw[this]
  exact h2
theorem ak0(B:ByteArray)(l m:Nat):bytesOf (B.extract l m)=((bytesOf B).take m).drop l:=by
 unfold bytesOf
 rw[<-List.map_take,<-List.map_drop]
 congr 1
 simp[ByteArray.data_extract,List.extract_eq_take_drop,List.drop_take]
def mE(lo:Option Int):Nat:=(lo.getD 0).toNat
def pI(hi:Option Int)(n:Nat):Nat:=(hi.getD (n:Int)).toNat
theorem asF{t e:TypeId}{k:K}(ht:dO P T t (.sl e k)){b:Option Addr}{n c:Nat}{lo hi:Option Int}{l h:Option Value}(hlc:n<=c)(hl:lo=none->l=none)(hl':∀j,lo=some j->∃ik,l=some (.int ik j))(hh:hi=none->h=none)(hh':∀j,hi=some j->∃ik,h=some (.int ik j))
  (h1:∀j,hi=some j->0<=j/\j<=(n:Int)) (h2:∀j,lo=some j->0<=j/\j<=hi.getD (n:Int)) :
  (Instr.sliceAt t (.slice b n c) l h none).run P w=.ok (.slice (if c=mE lo then b else b.map (·.add (mE lo*k.size))) (pI hi n-mE lo) (c-mE lo)) w:=by
 obtain⟨hu,he,_,_⟩:=ht.sl
 unfold Instr.sliceAt Instr.slice
 simp only[dZ,ig hu,Result.andThen,ad6 (TZ:=true) (w:=w) hlc hl hl' hh hh' h1 h2,he.info.sizeOf w,fH]
 rfl
theorem asG{t:TypeId}(ht:dO P T t .str){B:ByteArray}{lo hi:Option Int}{l h:Option Value}(hl:lo=none->l=none)(hl':∀j,lo=some j->∃ik,l=some (.int ik j))(hh:hi=none->h=none)(hh':∀j,hi=some j->∃ik,h=some (.int ik j))
  (h1:∀j,hi=some j->0<=j/\j<=(B.size:Int)) (h2:∀j,lo=some j->0<=j/\j<=hi.getD (B.size:Int)) :
  (Instr.sliceAt t (.string B) l h none).run P w=.ok (.string (B.extract (mE lo) (pI hi B.size))) w:=by
 have hu:=ht.str
 unfold Instr.sliceAt Instr.slice
 simp[dZ,ig hu,Result.andThen,ad6 (TZ:=false) (w:=w) (bV B.size) hl hl' hh hh' h1 h2,fH,mE,pI]
theorem T_{x:Option Operand}(h:isZero x=true):∃ik,x=some (.const (.int ik 0)):=by
 unfold isZero at h
 split at h
 ·exact⟨_,rfl⟩
 ·simp at h
theorem al6(hT:fT P T)(H:Rel cx Z J F a w)(hd:o.dst=some d)(hdn:d<cx.nt){t:TypeId}{x:Operand}{lo hi mx:Option Operand}
  (h:(match T.ty t with
   |some kk=>bif isZero lo&&isZero hi&&isZero mx then match kk with
     |.sl _ _=>eZ x fun
      |.fZ=>.ret [Wr.s d (.one .fZ)]
      |a=>qH a λk' _ _=>bif k'.beq kk then .ret [Wr.s d (.one .fZ)]else .fail
     |_=>.fail
    else match mx with
     |none=>eZ x λa=>ve lo λlo=>ve hi λhi=>Vb kk a lo hi λu=>.ret [Wr.s d (.one u)]
     |some _=>.fail
   |none=>(.fail:Prog (List Wr))).ends Z ws) (ho:o.op=.slice t x lo hi mx):dQ P cx o a w (aL ws Z):=by
 cases hty:T.ty t with
 |none=>rw[hty]at h;exact h.elim
 |some kk=>
  rw[hty]at h
  have ht:=hT.ty t kk hty
  rcases bF h with⟨hz,h5⟩|⟨_,h5⟩
  ·simp only[bB]at hz
   obtain⟨Fg,rfl⟩:=T_ hz.1.1
   obtain⟨Ob,rfl⟩:=T_ hz.1.2
   obtain⟨ik3,rfl⟩:=T_ hz.2
   cases kk with
   |sl e k=>
    obtain⟨u,h1,h2,h6⟩:=jN H h5
    have hfin:(∃b n c,a.eval x=.slice b n c)->ws=[Wr.s d (.one .fZ)]->dQ P cx o a w (aL ws Z):=by
     rintro⟨b,n,c,e⟩ hws
     rw[hws]
     obtain⟨hu,he,_,_⟩:=ht.sl
     refine fV (x:=.one .fZ) (v:=.slice b 0 0) H hd hdn ?_ ⟨b,rfl⟩ trivial
     have hcv:∀v,a.eval (.const v)=v:=λ_=>rfl
     simp[execOp,ho,e,Instr.sliceAt,Instr.slice,ig hu,Instr.sliceBounds,Instr.sliceBound,asIntOf,he.info.sizeOf w,hcv]
    cases u with
    |fZ=>
     obtain⟨b,e⟩:=h1
     exact hfin ⟨b,0,0,e⟩ (bE h6)
    |_=>
     obtain⟨k',y,Tg,cs,g1,g2,g3,g4⟩:=En H h1 h2 h6
     rcases beq_true g4 with⟨ek,g5⟩|⟨_,g5⟩
     ·subst ek
      obtain⟨b,n,c,f1,_⟩:=CZ g1 g2
      exact hfin ⟨b,n,c,f1⟩ (bE g5)
     ·exact g5.elim
   |_=>exact h5.elim
  ·cases mx with
   |some m=>exact h5.elim
   |none=>
    obtain⟨u,h1,h2,h6⟩:=jN H h5
    obtain⟨l,h7,l1,l2⟩:=J9 H h6
    obtain⟨m,h8,m1,m2⟩:=J9 H h7
    have hl:l=none->lo.map a.eval=none:=λe=>by rw[l1.1 e];rfl
    have hm:m=none->hi.map a.eval=none:=λe=>by rw[m1.1 e];rfl
    have hstr:∀{s:List Int} {Tg:List Tag},u=.val .str s Tg->dQ P cx o a w (aL ws Z):=by
     intro s Tg e
     subst e
     obtain⟨B,e1,e2⟩:=AP h1
     subst e2
     simp only[Vb]at h8
     rcases bF h8 with⟨_,h9⟩|⟨hk,h9⟩
     ·exact h9.elim
     ·have ek:kk=.str:=K.eq_of_beq (by simpa using hk)
      subst ek
      have hln:=yw B
      have hgo:∀{p:List Int},(∀j,m=some j->0<=j/\j<=(B.size:Int))->(∀j,l=some j->0<=j/\j<=m.getD (B.size:Int))->p=((bytesOf B).take (pI m B.size)).drop (mE l)->ws=[Wr.s d (.one (.val .str p []))]->dQ P cx o a w (aL ws Z):=by
       intro p g1 g2 hp hws
       rw[hws,hp]
       have hrun:=asG (w:=w) ht (B:=B) hl l2 hm m2 g1 g2
       refine fV (v:=.string (B.extract (mE l) (pI m B.size))) H hd hdn ?_ ?_ (λt ht=>by simp at ht)
       ·simp only[execOp,ho,e1,dZ]
        rw[show(none:Option Operand).map a.eval=none from rfl,hrun]
        rfl
       ·rw[<-ak0]
        exact Ux
      cases l with
      |none=>
       cases m with
       |none=>exact hgo (by simp) (by simp) (by simp[mE,pI,<-hln]) (bE h9)
       |some j=>
        obtain⟨hc,h9⟩:=h9
        exact hgo (λi hi=>by simp only[au]at hi;subst hi;rw[<-hln];exact hc) (by simp) (by simp[mE,pI]) (bE h9)
      |some i=>
       cases m with
       |none=>
        obtain⟨hc,h9⟩:=h9
        exact hgo (by simp) (λi hi=>by simp only[au]at hi;subst hi;simp only[D6];rw[<-hln];exact hc) (by simp[mE,pI,<-hln]) (bE h9)
       |some j=>
        obtain⟨hc,h9⟩:=h9
        have hc':0<=i/\i<=j/\j<=((bytesOf B).length:Int):=hc
        exact hgo (λi' hi=>by simp only[au]at hi;subst hi;rw[<-hln];exact⟨by omega,hc'.2.2⟩) (λi' hi=>by simp only[au]at hi;subst hi;exact⟨hc'.1,hc'.2.1⟩) (by simp[mE,pI]) (bE h9)
    have hsl:(qH u λk2 y Tg=>match k2,y with
      |.sl e k3,xs=>bif !kk.beq (.sl e k3)then .fail else
       match l,m with
       |none,none=>(.ret [Wr.s d (.one (.val (.sl e k3) xs Tg))]:Prog (List Wr))
       |some l,none=>.eY (0<=l/\l<=((show List (El k3)from xs).length:Int)) inferInstance (.ret [Wr.s d (.one (.val (.sl e k3) ((show List (El k3)from xs).drop l.toNat) Tg))])
       |none,some h=>.eY (0<=h/\h<=((show List (El k3)from xs).length:Int)) inferInstance (.ret [Wr.s d (.one (.val (.sl e k3) ((show List (El k3)from xs).take h.toNat) Tg))])
       |some l,some h=>.eY (0<=l/\l<=h/\h<=((show List (El k3)from xs).length:Int)) inferInstance (.ret [Wr.s d (.one (.val (.sl e k3) (((show List (El k3)from xs).take h.toNat).drop l.toNat) Tg))])
      |_,_=>.fail).ends Z ws->dQ P cx o a w (aL ws Z):=by
     intro h9
     obtain⟨k2,y,Tg,cs,g1,g2,g3,g4⟩:=En H h1 h2 h9
     cases k2 with
     |sl e k3=>
      simp only at g4
      rcases bF g4 with⟨_,g5⟩|⟨hk,g5⟩
      ·exact g5.elim
      ·have ek:kk=.sl e k3:=K.eq_of_beq (by simpa using hk)
       subst ek
       have hln:(show List (El k3)from y).length=@List.length (El k3) y:=rfl
       obtain⟨b,n,c,f1,f2,f3,f4,f5⟩:=CZ g1 g2
       have hgo:∀{p:List (El k3)},(∀j,m=some j->0<=j/\j<=(n:Int))->(∀j,l=some j->0<=j/\j<=m.getD (n:Int))->p=((show List (El k3)from y).take (pI m n)).drop (mE l)->ws=[Wr.s d (.one (.val (.sl e k3) p Tg))]->dQ P cx o a w (aL ws Z):=by
        intro p q1 q2 hp hws
        rw[hws,hp]
        have hrun:=asF (w:=w) ht (b:=b) f4 hl l2 hm m2 q1 q2
        have hlm:mE l<=pI m n/\pI m n<=n:=by
         unfold mE pI
         cases l with
         |none=>
          cases m with
          |none=>simp
          |some j=>have:=q1 j rfl;simp;omega
         |some i=>
          have h3:=q2 i rfl
          cases m with
          |none=>simp at h3 ⊢;omega
          |some j=>have:=q1 j rfl;simp at h3 ⊢;omega
        have hV:=YW (xs:=(show List (El k3)from y)) (by rw[f2]at g2;exact g2) hlm.1 hlm.2
        refine fV H hd hdn ?_ (show a_ cx Z J F w (.val (.sl e k3) _ Tg) (.slice (if c=mE l then b else b.map (·.add (mE l*k3.size))) (pI m n-mE l) (c-mE l))from λ_=>⟨_,⟨rfl,by simp⟩,hV⟩) g3
        simp only[execOp,ho,f1,dZ]
        rw[show(none:Option Operand).map a.eval=none from rfl,hrun]
        rfl
       have f3':((show List (El k3)from y).length:Int)=(n:Int):=by rw[f3]
       cases l with
       |none=>
        cases m with
        |none=>exact hgo (by simp) (by simp) (by simp only[mE,pI,D6,dA,Int.toNat_zero,BA];rw[f3,pY]) (bE g5)
        |some j=>
         obtain⟨hc,h9⟩:=g5
         exact hgo (λi hi=>by simp only[au]at hi;subst hi;rw[<-f3'];exact hc) (by simp) (by simp[mE,pI]) (bE h9)
       |some i=>
        cases m with
        |none=>
         obtain⟨hc,h9⟩:=g5
         exact hgo (by simp) (λi hi=>by simp only[au]at hi;subst hi;simp only[D6];rw[<-f3'];exact hc) (by simp only[mE,pI,D6,tX,dA];rw[f3,pY]) (bE h9)
        |some j=>
         obtain⟨hc,h9⟩:=g5
         have hc':0<=i/\i<=j/\j<=((show List (El k3)from y).length:Int):=hc
         exact hgo (λi' hi=>by simp only[au]at hi;subst hi;rw[<-f3'];exact⟨by omega,hc'.2.2⟩) (λi' hi=>by simp only[au]at hi;subst hi;exact⟨hc'.1,hc'.2.1⟩) (by simp[mE,pI]) (bE h9)
     |_=>exact g4.elim
    cases u with
    |val k1 s Tg=>
     cases k1 with
     |str=>exact hstr rfl
     |_=>exact hsl h8
    |_=>exact hsl h8
end
end
section
open Go
variable [Fr]
section
variable {cx:Cx}{Z:St}{J:aO}{F:List Nat}{a:Act}{w:World}{r:Nat}{R:Root}
theorem Rel.lose(H:Rel cx Z J F a w)(hr:aX Z r R)(hv:dF Z R){l:List TypeId}(hl:l≠[]):∃J',Rel cx (aR Z r (CO R l)) J' F a w:=by
 have K:=H.roots r R hr
 have hnt:=H.gz r R hr.1
 have hsub:∀t,ah t (fF R.own l)=true->ah t R.own=true:=λt ht=>(qm.1 ht).1
 obtain⟨nZ,fd,hp1,hO⟩:=yg (own':=fF R.own l) (λt _ h=>hsub t h) (K.ow hv)
 have hfo:∀b∈nZ,b∈J.fo r:=λb hb=>hp1.mem_iff.2 (bQ _ hb)
 have NI:∀b∈fd,b∈J.fo r:=λb hb=>hp1.mem_iff.2 (bH _ hb)
 have hbk:∀b∈jh (CO R l) (J.loc r) nZ,b∈blk J R r:=λb hb=>by
  rw[jF]
  rcases dD.1 hb with h|h
  ·exact bQ _ h
  ·exact bH _ (hfo b h)
 have hnd:=K.nd
 rw[jF]at hnd
 have Tz:(jh R (J.loc r) (nZ++fd)).Nodup:=by
  have:(jh R (J.loc r) (J.fo r)).Perm (jh R (J.loc r) (nZ++fd)):=vL _ hp1
  exact this.nodup_iff.1 hnd
 have aa5:(jh R (J.loc r) nZ++fd).Nodup:=by
  have e:jh R (J.loc r) (nZ++fd)=jh R (J.loc r) nZ++fd:=by simp[jh,gD]
  rw[<-e];exact Tz
 have T1:vO cx Z J F w r R (CO R l) nZ F w l []:=by
  refine⟨.inr ⟨rfl,rfl,bV _,rfl,λ_=>rfl,.inl hl⟩,⟨λt ht=>hnt.1 t ht,λn hn=>hnt.2.2 n hn⟩,⟨rfl,rfl,rfl⟩,bV _,λb _ hne=>absurd rfl hne,λ_ b hb=>.inl (hbk b hb),λb hb=>.inl hb,H.iw,λ_ b hb=>H.fI r R hr b (hbk b hb),λ_ _ _ _ _ _ _ _ hne=>absurd rfl hne,λ_=>⟨rfl,rfl⟩⟩
 have hcl0:∀tys,dG (aR Z r (CO R l)) tys R.tags=dG Z tys R.tags:=λtys=>xm hnt.2.2
 refine⟨aV J r (J.loc r) (J.hdr r) nZ,T1.rel H hr (λ_=>⟨λhvn=>?_,K.len,λb o hb=>?_,?_⟩) ?_ ?_⟩
 ·refine eO (λ_ _=>rfl) (λb hb=>?_) (λ_ _=>rfl) hO
  have hblk:∀q Q,aX (aR Z r (CO R l)) q Q->b∈blk (aV J r (J.loc r) (J.hdr r) nZ) Q q->(q=r/\b∈jh R (J.loc r) nZ)\/(q≠r/\aX Z q Q/\b∈blk J Q q):=by
   intro q Q hq hbq
   by_cases e:q=r
   ·subst e
    obtain⟨rfl,_⟩:=pK hq
    rw[qa]at hbq
    exact .inl ⟨rfl,hbq⟩
   ·refine .inr ⟨e,(Uh e).1 hq,?_⟩
    cases rE:Nat.beq q r with
    |true=>exact absurd (bD rE) e
    |false=>simpa[blk,aS,aV,upd,rE]using hbq
  rcases hb with hb|hb
  ·obtain⟨g1,g2,g3,g4,g5⟩:=hb
   refine⟨g1,g2,g3,λq Q hq hbq=>?_,g5⟩
   rcases hblk q Q hq hbq with⟨rfl,h⟩|⟨_,h1,h2⟩
   ·exact g4 q R hr (hbk b h)
   ·exact g4 q Q h1 h2
  ·have hbb:b∈blk J R r:=bH _ (NI b hb)
   have hm:=K.mine b hbb
   refine⟨hm.1,H.fI r R hr b hbb,Ac H hr (NI b hb),λq Q hq hbq=>?_,λh0=>?_⟩
   ·exfalso
    rcases hblk q Q hq hbq with⟨rfl,h⟩|⟨h,h1,h2⟩
    ·exact(dH.1 aa5).2.2 b h b hb rfl
    ·exact H.lN q Q r R h1 hr h b h2 hbb
   ·rcases hm.2 with h|⟨j,pi,h1,h2⟩
    ·omega
    ·exact .inr ⟨j,pi,h1,h2⟩
 ·exact K.mem b o (by rw[AX];exact hb)
 ·have:=aa5.sublist (List.sublist_append_left _ _)
  exact this
 ·intro _ p n v hn hold
  refine⟨hold.1,λQ hQ oW hcl hty hs=>?_⟩
  rw[fG]at hQ
  simp only[au]at hQ
  subst hQ
  obtain⟨g1,cs,b,o,g2,g3⟩:=hold.2 R hr.1 hv hcl (λt ht=>hsub t (hty t ht)) hs
  refine⟨g1,cs,b,o,?_,g3⟩
  have e1:(aV J r (J.loc r) (J.hdr r) nZ).hdr r=J.hdr r:=by simp[aV,upd_same]
  have e2:aS (aV J r (J.loc r) (J.hdr r) nZ) (CO R l) r=aS J R r:=by rw[wL,AX];rfl
  rw[e1,e2]
  exact g2
 ·intro _ g v _ hold Q hQ hg
  obtain⟨rfl,_⟩:=pK hQ
  obtain⟨h1,h2⟩:=hold R hr hg
  refine⟨h1,?_⟩
  simp only[aV,upd_same]
  exact h2
theorem aqa(H:Rel cx Z J F a w)(l:List TypeId)(r:Nat):∃J',Rel cx (Ul l r Z) J' F a w:=by
 unfold Ul
 split
 ·exact⟨_,H⟩
 ·rename_i hl
  split
  ·rename_i R hR
   cases hc:R.cZ || !dG Z R.qR R.tags || !R.own.any (λt=>ah t l)with
   |true=>exact⟨_,H⟩
   |false=>
    simp only[za,Bool.not_eq_false']at hc
    exact H.lose (r:=r) (R:=R) ⟨hR,hc.1.1⟩ ⟨hc.1.1,hc.1.2⟩ (λh=>hl h)
  ·exact⟨_,H⟩
theorem Um(hi:Hint):∀(rs:List Nat) {Z:St} {J:aO},Rel cx Z J F a w->∃J',Rel cx (CR hi rs Z) J' F a w
 | [],_,_,H=>⟨_,H⟩
 |r :: rs,_,_,H=>by
  obtain⟨J',h⟩:=aqa H (Cj (1000000+r) hi.less) r
  exact Um hi rs h
end
end
section
open Go
variable [Fr]
section
variable {cx:Cx}{Z:St}{J:aO}{F:List Nat}{a:Act}{w:World}{r:Nat}
theorem ad1(H:Rel cx Z J F a w)(hn:Z.roots r=none)(hx:gZ r=false){e:TypeId}{k:K}{xs:List (El k)}{own:List TypeId}{tags:List Tag}{arr:Array Value}{lo hi n c:Nat}{ay:List (List Nat)}{F1:List Nat}
  (hwt:gB Z tags) (hown:ah e own=true) (hfr:jq arr.size lo hi) (hnx:n=xs.length) (hnc:n<=c) (hca:c*k.size<=arr.size)
  (hfl:ay.length=xs.length) (qK:∀b∈ay.flatten,b∈F) (yH:ay.flatten.Nodup) (hF1:∀b∈F1,b∈F/\b∉ay.flatten) (anj:F1.Nodup)
  (hel:∀(i:Nat) (hi:i<xs.length),∃ds,ds.length=k.size/\(∀j,j<ds.length->arr[i*k.size+j]?=ds[j]?)/\Ow (hp w) own (λb=>bK cx Z J F w tags b\/(b∈F/\b∉F1/\b∉ay.flatten)) k xs[i] ds (ay.getD i [])) (kp:Bool) (dr:Nat) :
  ∃J' F',Rel cx (aR Z r (bP (.sl e k) xs own tags .anon kp)) J' F' a ((dw w dr).alloc (.cells arr e (lo,hi)))/\
   a_ cx (aR Z r (bP (.sl e k) xs own tags .anon kp)) J' F' ((dw w dr).alloc (.cells arr e (lo,hi))) (.ref r 0) (.slice (some ⟨w.heap.size,0,none⟩) n c):=by
 have H0:=H.drawn dr
 obtain⟨H1,T1⟩:=H0.alloc (.cells arr e (lo,hi))
 have hsz:(dw w dr).heap.size=w.heap.size:=rfl
 have hnew:hp ((dw w dr).alloc (.cells arr e (lo,hi))) w.heap.size=some (.cells arr e (lo,hi)):=EX (dw w dr) _
 have hold:∀b,b<w.heap.size->hp ((dw w dr).alloc (.cells arr e (lo,hi))) b=hp w b:=λb hb=>CB (dw w dr) _ hb
 have lC:w.heap.size∉F:=λh=>by have:=(H.fl _ h).1;omega
 have hv:bC own (.sl e k)=bC own k:=by simp[bC,hown]
 obtain⟨J',k1,k2⟩:=Eh (k:=.sl e k) (x:=(xs:El (.sl e k))) (own:=own) (tags:=tags) (v:=.slice (some ⟨w.heap.size,0,none⟩) n c) (cs:=[.slice (some ⟨w.heap.size,0,none⟩) n c]) (fo:=w.heap.size :: ay.flatten) (r:=r) (F':=F1) H1 hn hx
  (λb hb=>by
   rcases bW.1 hb with h|h
   ·subst h;exact jE
   ·exact jD _ (qK b h))
  (jg.2 ⟨λh=>lC (qK _ h),yH⟩) hwt
  (λb hb=>⟨jD _ (hF1 b hb).1,λh=>by
   rcases bW.1 h with h|h
   ·subst h;exact lC (hF1 _ hb).1
   ·exact(hF1 b hb).2 h⟩) anj rfl
  (λhc=>by
   rw[hv]at hc
   obtain⟨_,hV,_⟩:=T1.views H0 tags _ hwt hc
   unfold Ow
   rw[aj hown]
   refine⟨_,_,_,rfl,hnx,hnc,.inr ⟨w.heap.size,0,arr,lo,hi,rfl,hnew,hfr,by omega,ay,hfl,.refl _,λi hi=>?_⟩⟩
   obtain⟨ds,h1,h2,h3⟩:=hel i hi
   refine⟨ds,λj hj=>?_,?_⟩
   ·unfold cellAt
    rw[hnew]
    simp only[nR]
    exact h2 j hj
   ·refine eO ?_ ?_ (λb hb=>hold b (H.fl b (qK b (wB hb))).1) (tY _ (λ_ h=>h) h3)
    ·rintro b ⟨hb|⟨hb,_⟩,_⟩
     ·exact hold b hb.1
     ·exact hold b (H.fl b hb).1
    ·rintro b ⟨hb|⟨g1,g2,g3⟩,hty⟩
     ·exact .inl (hV b hb (.inl hty)).1
     ·refine .inr ⟨jD _ g1,g2,λh=>?_⟩
      rcases bW.1 h with h|h
      ·subst h;exact lC g1
      ·exact g3 h) ⟨rfl,by simp⟩ kp
 exact⟨J',F1,k1,k2⟩
theorem UO(H:Rel cx Z J F a w)(hn:Z.roots r=none)(hx:gZ r=false){e:TypeId}{k:K}{xs:List (El k)}{own:List TypeId}{arr:Array Value}{lo hi n c:Nat}
  (hown:ah e own=true) (hfr:jq arr.size lo hi) (hnx:n=xs.length) (hnc:n<=c) (hca:c*k.size<=arr.size)
  (hel:∀(i:Nat) (hi:i<xs.length),∃ds,ds.length=k.size/\(∀j,j<ds.length->arr[i*k.size+j]?=ds[j]?)/\∀h ok,Ow h own ok k xs[i] ds []) (kp:Bool) (dr:Nat) :
  ∃J' F',Rel cx (aR Z r (bP (.sl e k) xs own [] .anon kp)) J' F' a ((dw w dr).alloc (.cells arr e (lo,hi)))/\
   a_ cx (aR Z r (bP (.sl e k) xs own [] .anon kp)) J' F' ((dw w dr).alloc (.cells arr e (lo,hi))) (.ref r 0) (.slice (some ⟨w.heap.size,0,none⟩) n c):=by
 have hfl:(List.replicate xs.length ([]:List Nat)).flatten=[]:=by simp
 refine ad1 H hn hx (ay:=List.replicate xs.length []) (F1:=F) (λt ht=>by simp at ht) hown hfr hnx hnc hca (by simp) (by rw[hfl];simp) (by rw[hfl];exact lZ) (by rw[hfl];exact λb hb=>⟨hb,by simp⟩) H.iw ?_ kp dr
 intro i hi
 obtain⟨ds,h1,h2,h3⟩:=hel i hi
 refine⟨ds,h1,h2,?_⟩
 have:(List.replicate xs.length ([]:List Nat)).getD i []=[]:=by
  rw[oP (by simpa using hi)];simp
 rw[this]
 exact h3 _ _
end
end
section
open Go
variable [Fr]
section
variable {P:Program}{T:bL}{cx:Cx}{Z:St}{J:aO}{F:List Nat}{a:Act}{w:World}{o:Oper}{d:Nat}{ws:List Wr}
theorem dO.int{t:TypeId}{ik:IntKind}(h:dO P T t (.int ik)):P.underlying t=some (.int ik):=by
 unfold dO jK at h
 exact h.1
theorem dO.und{t:TypeId}{k:K}(h:dO P T t k):∃u,P.underlying t=some u:=by
 unfold dO jK at h
 cases k with
 |int ik=>exact⟨_,h.1⟩
 |bool=>exact⟨_,h.1⟩
 |id e=>exact⟨_,h.1⟩
 |str=>exact⟨_,h.1⟩
 |sl e k=>exact⟨_,h.1⟩
 |unit=>exact h.elim
 |pair a b=>exact h.elim
 |st c=>obtain⟨⟨fs,h1,_⟩,_⟩:=h;exact⟨_,h1⟩
 |gap n=>exact h.elim
theorem aq9(ns:List Int):∀(s:ByteArray),(∀n∈ns,0<=n/\n<256)->bytesOf (ns.foldl (λr n=>r.push (UInt8.ofNat n.toNat)) s)=bytesOf s++ns:=by
 induction ns with
 |nil=>intro s _;simp
 |cons n ns ih=>
  intro s h
  rw[List.foldl_cons,ih _ (λm hm=>h m (by simp[hm]))]
  have h1:=h n (by simp)
  have:bytesOf (s.push (UInt8.ofNat n.toNat))=bytesOf s++[n]:=by
   unfold bytesOf
   simp only[ByteArray.push,Array.toList_push,q9,kZ,List.map_nil]
   congr 2
   simp
   omega
  rw[this]
  simp
theorem akW{h:Heap}{ok:Nat->Prop}{xs:List Int}{bb q:Nat}(hes:∀(i:Nat) (hi:i<xs.length),∃ds,Cells h bb (q+i*1) ds/\Vw h ok (.int .u8) xs[i] ds) :
  Cells h bb q (xs.map (Value.int .u8))/\∀n∈xs,0<=n/\n<256:=by
 refine⟨λi hi=>?_,λn hn=>?_⟩
 ·simp only[nP]at hi
  obtain⟨ds,h1,h2,_⟩:=hes i hi
  have:=h1 0 (by rw[h2];simp)
  rw[h2]at this
  simp only[ry,Nat.mul_one,qA]at this
  rw[this]
  simp[hi]
 ·obtain⟨i,hi,rfl⟩:=qC.1 hn
  obtain⟨ds,_,_,h3⟩:=hes i hi
  exact h3
theorem alL(hT:fT P T)(H:Rel cx Z J F a w)(hd:o.dst=some d)(hdn:d<cx.nt){s t:TypeId}{x:Operand}(ho:o.op=.convert s t x)
  (h:(eZ x λa=>RP T d s t a λws=>(.ret ws:Prog (List Wr))).ends Z ws):dQ P cx o a w (aL ws Z):=by
 obtain⟨u,h1,h2,h5⟩:=jN H h
 have hrun:∀{v:Value} {w':World},(convert s t (a.eval x)).run P w=.ok v w'->(execOp a.eval o).run P w=.ok (.value v) w':=by
  intro v w' h
  simp only[execOp,ho,dZ,h,gu,fH]
 have hstr:∀{B:ByteArray},(convert s t (a.eval x)).run P w=.ok (.string B) w->dQ P cx o a w (aL [Wr.s d (v1 .str (bytesOf B))] Z):=by
  intro B hr
  exact fV H hd hdn (hrun hr) (show a_ cx Z J F w (.val .str (bytesOf B) []) _ from Ux) pV
 unfold RP at h5
 cases hs:T.ty s with
 |none=>rw[hs]at h5;exact h5.elim
 |some ks=>
  have hks:=hT.ty s ks hs
  cases ht:T.ty t with
  |none=>rw[hs,ht]at h5;cases ks<;>exact h5.elim
  |some kt=>
   have hkt:=hT.ty t kt ht
   rw[hs,ht]at h5
   obtain⟨us,hus⟩:=hks.und
   cases kt with
   |int ik=>
    have h6:(match u with
     |.val (.int _) n _=>(.ret [Wr.s d (v1 (.int ik) (ik.wrap n))]:Prog (List Wr))
     |_=>.fail).ends Z ws:=by cases ks<;>exact h5
    split at h6
    ·obtain⟨e1,e2⟩:=AO h1
     rw[bE h6]
     refine fV H hd hdn (hrun ?_) (qp ik (vk _ _)) pV
     rw[e1]
     unfold convert
     simp only[dZ,ig hus,ig hkt.int,Result.andThen]
     rfl
    ·exact h6.elim
   |str=>
    cases ks with
    |str=>
     simp only at h5
     split at h5
     ·obtain⟨B,e1,e2⟩:=AP h1
      subst e2
      rw[bE h5]
      refine hstr ?_
      rw[e1]
      unfold convert
      simp only[dZ,ig hks.str,ig hkt.str,Result.andThen]
      rfl
     ·exact h5.elim
    |sl e k1=>
     cases k1 with
     |int Fg=>
      cases Fg with
      |u8=>
       obtain⟨hu,he,_,_⟩:=hks.sl
       have hgo:∀{b:Option Addr} {n c:Nat} {xs:List Int},a.eval x=.slice b n c->n=xs.length->(0<n->∃bb q,b=some ⟨bb,q,none⟩/\∀(i:Nat) (hi:i<xs.length),∃ds,Cells (hp w) bb (q+i*1) ds/\Vw (hp w) (λ_=>True) (.int .u8) xs[i] ds)->
         ws=[Wr.s d (v1 .str xs)]->dQ P cx o a w (aL ws Z):=by
        intro b n c xs e hn hes hws
        have hcv:(convert s t (a.eval x)).run P w=(Conv.bytesToString (.slice b n c)).run P w:=by
         rw[e]
         unfold convert
         simp only[dZ,ig hu,ig hkt.str,ig he.int,Result.andThen]
        cases b with
        |none=>
         have hx0:xs=[]:=by
          cases xs with
          |nil=>rfl
          |cons y ys=>
           obtain⟨bb,q,h0,_⟩:=hes (by rw[hn];simp)
           simp at h0
         subst hx0
         rw[hws]
         exact hstr (B:=ByteArray.empty) (hcv.trans rfl)
        |some ad=>
         by_cases h0:0<n
         ·obtain⟨bb,q,e0,hes'⟩:=hes h0
          simp only[au]at e0
          subst e0
          obtain⟨g1,g2⟩:=akW hes'
          have hl:(loadCells ⟨bb,q,none⟩ n).run P w=.ok (xs.map (Value.int .u8)).toArray w:=by
           have:=run_loadCells_list (P:=P) w ⟨bb,q,none⟩ (xs.map (Value.int .u8)) (λj v hj=>by
            rw[addr_add,zU,g1 j (qB.1 hj).1]
            exact hj)
           simpa[hn]using this
          have hb:=run_bytesToString w ⟨bb,q,none⟩ n c xs hl
          have hbe:=aq9 xs ByteArray.empty g2
          have:xs=bytesOf (xs.foldl (λr n=>r.push (UInt8.ofNat n.toNat)) ByteArray.empty):=by rw[hbe];rfl
          rw[hws,this]
          exact hstr (hcv.trans hb)
         ·have hx0:xs=[]:=tV (by omega)
          subst hx0
          have hn0:n=0:=by omega
          subst hn0
          have hl:(loadCells ad 0).run P w=.ok (([]:List Int).map (Value.int .u8)).toArray w:=rfl
          have hb:=run_bytesToString w ad 0 c [] hl
          rw[hws]
          exact hstr (B:=ByteArray.empty) (hcv.trans hb)
       cases u with
       |fZ=>
        obtain⟨b,e⟩:=h1
        exact hgo (xs:=[]) e rfl (λh=>by omega) (bE h5)
       |_=>
        obtain⟨k',y,Tg,cs,g1,g2,g3,g4⟩:=En H h1 h2 h5
        cases k' with
        |sl e' k2=>
         cases k2 with
         |int Ob=>
          cases Ob with
          |u8=>
           obtain⟨b,n,c,f1,f2,f3,f4,f5⟩:=CZ g1 g2
           refine hgo (xs:=y) f1 f3 (λh0=>?_) (bE g4)
           obtain⟨bb,q,e0,_,_,hes⟩:=f5 h0
           exact⟨bb,q,e0,λi hi=>by
            obtain⟨ds,m1,m2⟩:=hes i hi
            exact⟨ds,m1,m2⟩⟩
          |_=>exact g4.elim
         |_=>exact g4.elim
        |_=>exact g4.elim
      |_=>exact h5.elim
     |_=>exact h5.elim
    |_=>exact h5.elim
   |sl e k1=>
    cases ks with
    |str=>
     cases k1 with
     |int Fg=>
      cases Fg with
      |u8=>
       simp only at h5
       split at h5
       ·obtain⟨B,e1,e2⟩:=AP h1
        subst e2
        obtain⟨g1,g2⟩:=qd h5
        rw[bE g2]
        obtain⟨hu,he,_,_⟩:=hkt.sl
        have hr:=run_bytes_of_string w s t e B hks.str hu he.int
        have hcap:=grownCap_ge w B.size 0 e
        have hsz:(bytesRow B (grownCap w B.size 0 e)).size=grownCap w B.size 0 e:=by
         simp[bytesRow]
         show B.data.size+_=_
         have:B.data.size=B.size:=rfl
         omega
        obtain⟨J',F',r1,r2⟩:=UO (r:=aN d 0) (e:=e) (k:=.int .u8) (xs:=bytesOf B) (own:=[e]) (arr:=bytesRow B (grownCap w B.size 0 e)) (lo:=(bytesRow B (grownCap w B.size 0 e)).size) (hi:=(bytesRow B (grownCap w B.size 0 e)).size+1) (n:=B.size) (c:=grownCap w B.size 0 e) H g1 (qi d 0)
         (by simp[ah]) ⟨by omega,λi hi=>by omega⟩ (yw B).symm hcap (by simp[K.size,hsz])
         (λi hi=>by
          have hi':i<B.size:=by rw[<-yw B];exact hi
          refine⟨[Value.int .u8 (bytesOf B)[i]],rfl,λj hj=>?_,λh ok=>⟨rfl,rfl,?_⟩⟩
          ·simp only[gL]at hj
           have hj0:j=0:=by omega
           subst hj0
           have hid:i<B.data.size:=hi'
           simp only[K.size,Nat.mul_one,ry,qA]
           unfold bytesRow
           rw[Pb (by simpa using hid)]
           simp[bytesOf]
           exact⟨B.data[i],Array.getElem?_eq_getElem hid,rfl⟩
          ·have:=(bytesOf B)[i]
           have hm:(bytesOf B)[i]∈bytesOf B:=iC hi
           unfold bytesOf at hm
           obtain⟨y,_,hy⟩:=fP.1 hm
           show(0:Int)<=(bytesOf B)[i]/\(bytesOf B)[i]<256
           have hy':(y.toNat:Int)=(bytesOf B)[i]:=hy
           rw[<-hy']
           have:=y.toNat_lt
           omega) false (w.drawn+1)
        exact pE (x:=.one (.ref (aN d 0) 0)) r1 hd hdn (hrun (by rw[e1];exact hr)) r2 ⟨_,fG ..,.inr (fQ _)⟩
       ·exact h5.elim
      |_=>exact h5.elim
     |_=>exact h5.elim
    |_=>
     cases k1 with
     |int Fg=>cases Fg<;>exact h5.elim
     |_=>exact h5.elim
   |_=>cases ks<;>exact h5.elim
end
end
section
open Go
variable [Fr]
section
variable {P:Program}{T:bL}{cx:Cx}{Z:St}{J:aO}{F:List Nat}{a:Act}{w:World}{o:Oper}{d:Nat}{ws:List Wr}
theorem Gg{k:K}(h:(∀a b,k≠.pair a b)/\k≠.unit/\∀n,k≠.gap n):(jB k).cells=(d_ k).toArray:=by
 have:=(aeU h.1 h.2.1 h.2.2).cells
 apply vE
 simpa using this
theorem aqb{z:Array Value}{n j:Nat}(h:j<n)(hz:0<z.size):(madeCells z n)[j]?=z[j%z.size]?:=by
 unfold madeCells
 have:j%z.size<z.size:=Nat.mod_lt _ hz
 simp[h,this]
theorem alY(hT:fT P T)(H:Rel cx Z J F a w)(hd:o.dst=some d)(hdn:d<cx.nt){t:TypeId}{x y:Operand}
  (h:(match T.ty t with
   |some (.sl e kk)=>eZ x λa=>eZ y λb=>asInt a λik i=>asInt b λjk j=>bif uX ik .i64&&uX jk .i64 then
     .eY (i=j/\0<=i/\i*T.bytes e<=140737488355328) inferInstance (kF (aN d 0)
      (.ret [Wr.r (aN d 0) (some (bP (.sl e kk) (List.replicate i.toNat kk.zero) (e :: kk.tys) [] .anon)),Wr.s d (.one (.ref (aN d 0) 0))]))
    else(.fail:Prog (List Wr))
   |_=>.fail).ends Z ws) (ho:o.op=.makeSlice t x y):dQ P cx o a w (aL ws Z):=by
 cases hty:T.ty t with
 |none=>rw[hty]at h;exact h.elim
 |some k0=>
  rw[hty]at h
  cases k0 with
  |sl e kk=>
   have ht:=hT.ty t _ hty
   simp only at h
   obtain⟨u,h1,_,h2⟩:=jN H h
   obtain⟨v,h3,_,h4⟩:=jN H h2
   obtain⟨ik,i,e1,_,h5⟩:=IJ h1 h4
   obtain⟨jk,j,e2,_,h6⟩:=IJ h3 h5
   rcases bF h6 with⟨_,h7⟩|⟨_,h7⟩
   ·obtain⟨⟨hij,h0,hb⟩,h8⟩:=h7
    obtain⟨g1,g2⟩:=qd h8
    rw[bE g2]
    obtain⟨hu,he,hk,ii,hi,hby,hpos⟩:=ht.sl
    obtain⟨i',hi',hs',hz'⟩:=he.info
    rw[hi]at hi'
    simp only[au]at hi'
    subst hi'
    obtain⟨n,rfl⟩:∃n:Nat,i=n:=⟨i.toNat,by omega⟩
    subst hij
    have hbn:n*T.bytes e<=140737488355328:=by
     have:((n*T.bytes e:Nat):Int)<=140737488355328:=by simpa using hb
     omega
    have hn:n<=140737488355328:=by
     have:n*1<=n*T.bytes e:=Nat.mul_le_mul_left _ (by omega)
     omega
    have hbi:(ii.bytes:Int)*(n:Int)<=281474976710656:=by
     rw[hby]
     have:((T.bytes e*n:Nat):Int)<=281474976710656:=by rw[Nat.mul_comm];omega
     simpa using this
    have hr:=run_make (P:=P) w t e ii (jB kk) hu hi hz' ik jk (n:Int) (n:Int) (by omega) (Ie _) hbi (by omega)
    simp only[dA,hs']at hr
    have hsh:=he.shape
    have hzc:=Gg hsh
    have JA:∀h ok,Ow h (e :: kk.tys) ok kk kk.zero (d_ kk) []:=λh ok=>KA he.gy (λt ht=>dh.2 (by simp[ht]))
    have hzl:(d_ kk).length=kk.size:=fU (JA (hp w) (λ_=>True))
    have hms:(madeCells (jB kk).cells (n*kk.size)).size=n*kk.size:=by simp[madeCells]
    obtain⟨J',F',r1,r2⟩:=UO (r:=aN d 0) (e:=e) (k:=kk) (xs:=List.replicate n kk.zero) (own:=e :: kk.tys) (arr:=madeCells (jB kk).cells (n*kk.size)) (lo:=0) (hi:=0) (n:=n) (c:=n) H g1 (qi d 0)
     (dh.2 (by simp)) jq.zero (by simp) (bV _) (by rw[hms];exact bV _)
     (λi hi=>by
      have hi':i<n:=by simpa using hi
      refine⟨d_ kk,hzl,λj hj=>?_,λh ok=>?_⟩
      ·have hlt:i*kk.size+j<n*kk.size:=by
        have:(i+1)*kk.size<=n*kk.size:=j4 _ (by omega)
        rw[iZ,nD]at this
        omega
       rw[aqb hlt (by rw[hzc];simp;omega),hzc]
       simp only[DX,hzl,List.getElem?_toArray]
       congr 1
       rw[Nat.mul_comm,Nat.mul_add_mod]
       exact Nat.mod_eq_of_lt (by omega)
      ·have:(List.replicate n kk.zero)[i]'hi=kk.zero:=by simp
       rw[this]
       exact JA h ok) false w.drawn
    refine pE (x:=.one (.ref (aN d 0) 0)) r1 hd hdn ?_ r2 ⟨_,fG ..,.inr (fQ _)⟩
    simp only[execOp,ho,e1,e2,dZ,hr,gu,fH]
    rfl
   ·exact h7.elim
  |_=>exact h.elim
end
end
section
open Go
variable [Fr]
section
variable {P:Program}{T:bL}{cx:Cx}{Z:St}{J:aO}{F:List Nat}{a:Act}{w:World}{o:Oper}{d:Nat}{ws:List Wr}
def mm2(mx:Bool):Value->Value->Sem Value:=if mx then Builtin.max2 else Builtin.min2
theorem aqu{A:Type}{z:A}{mx:Bool}{ik:IntKind}{k:Int->Prog A}:∀{l:List AV} {vs:List Value} {x:Int},iP cx Z J F w l vs->lH ik x->(FH mx ik x l k).ends Z z->
  ∃y,(vs.foldlM (mm2 mx) (.int ik x)).run P w=.ok (.int ik y) w/\lH ik y/\(k y).ends Z z:=by
 intro l
 induction l with
 |nil=>
  intro vs x h1 hr h
  cases vs with
  |nil=>exact⟨x,rfl,hr,h⟩
  |cons v vs=>exact h1.elim
 |cons u l ih=>
  intro vs x h1 hr h
  cases vs with
  |nil=>exact h1.elim
  |cons v vs=>
   cases u with
   |val k1 y Tg=>
    cases k1 with
    |int jk=>
     simp only[FH]at h
     rcases bF h with⟨hk,h5⟩|⟨_,h5⟩
     ·have:=JC hk
      subst this
      obtain⟨e1,e2⟩:=AO h1.1
      subst e1
      have hr':lH ik (if mx=true then(if(show Int from y)>x then y else x)else(if(show Int from y)<x then y else x)):=by
       split<;>split<;>assumption
      obtain⟨y',g1,g2,g3⟩:=ih h1.2 hr' h5
      refine⟨y',?_,g2,g3⟩
      rw[List.foldlM_cons,dZ]
      have hstep:(mm2 mx (.int ik x) (.int ik y)).run P w=.ok (.int ik (if mx=true then(if(show Int from y)>x then y else x)else(if(show Int from y)<x then y else x))) w:=by
       cases mx<;>rfl
      rw[hstep]
      exact g1
     ·exact h5.elim
    |_=>exact h.elim
   |_=>exact h.elim
theorem ZR(H:Rel cx Z J F a w)(hd:o.dst=some d)(hdn:d<cx.nt){c:Call}{mx:Bool}(ho:o.op=.call c)(hb:c.callee=.builtin (if mx then .max else .min))
  (h:(pF c.args.toList fun
   |.val (.int ik) x _ :: l=>FH mx ik x l λz=>.ret [Wr.s d (.one (.val (.int ik) z []))]
   |_=>(.fail:Prog (List Wr))).ends Z ws):dQ P cx o a w (aL ws Z):=by
 obtain⟨vs,h1,h2,h5⟩:=xx H h
 split at h5
 ·rename_i ik x Tg l
  cases hl:c.args.toList with
  |nil=>rw[hl]at h1;exact h1.elim
  |cons y l'=>
   rw[hl]at h1
   obtain⟨e1,e2⟩:=AO h1.1
   obtain⟨z,g1,g2,g3⟩:=aqu (P:=P) (w:=w) h1.2 e2 h5
   rw[bE g3]
   refine fV (v:=.int ik z) H hd hdn ?_ (Uw g2) (λt ht=>by simp at ht)
   obtain⟨cc,hcc⟩:=FX (P:=P) (a:=a) (w:=w) ho hb
   rw[hcc]
   have hargs:(c.args.map a.eval).toList=.int ik x :: l'.map a.eval:=by rw[wO,hl,kZ,e1]
   cases mx with
   |true=>
    have g1':(List.foldlM Builtin.max2 (Value.int ik x) (l'.map a.eval)).run P w=.ok (.int ik z) w:=g1
    simp only[aQ,builtin,Builtin.max_,hargs,dZ,g1',gu,fH]
   |false=>
    have g1':(List.foldlM Builtin.min2 (Value.int ik x) (l'.map a.eval)).run P w=.ok (.int ik z) w:=g1
    simp only[bg,aZ,builtin,Builtin.min_,hargs,dZ,g1',gu,fH]
 ·exact h5.elim
end
end
section
open Go
variable [Fr]
theorem fold_at:∀(vs:List Value) (k off:Nat) (cells:Array Value),off+k+vs.length<=cells.size->
  ((vs.zipIdx k).foldl (λcs (p:Value×Nat)=>cs.setIfInBounds (off+p.2) p.1) cells).size=cells.size/\
  ∀i,((vs.zipIdx k).foldl (λcs (p:Value×Nat)=>cs.setIfInBounds (off+p.2) p.1) cells)[i]?=if off+k<=i/\i<off+k+vs.length then vs[i-(off+k)]? else cells[i]?:=by
 intro vs
 induction vs with
 |nil=>intro k off cells h;exact⟨rfl,λi=>by simp;omega⟩
 |cons v vs ih=>
  intro k off cells h
  simp only[gF]at h
  simp only[List.zipIdx_cons,List.foldl_cons]
  obtain⟨g1,g2⟩:=ih (k+1) off (cells.setIfInBounds (off+k) v) (by simp;omega)
  refine⟨by rw[g1];simp,λi=>?_⟩
  rw[g2 i]
  simp only[gF]
  by_cases h1:off+(k+1)<=i/\i<off+(k+1)+vs.length
  ·rw[aj h1,aj (by omega)]
   have:i-(off+k)=(i-(off+(k+1)))+1:=by omega
   rw[this,YF]
  ·rw[aC h1]
   by_cases h2:i=off+k
   ·subst h2
    rw[aj (by omega),VL (by omega),Iq]
    rfl
   ·rw[aC (by omega),VK (by omega)]
theorem am4(vs:List Value)(off:Nat)(cells:Array Value)(h:off+vs.length<=cells.size) :
  (vs.zipIdx.foldl (λcs (p:Value×Nat)=>cs.setIfInBounds (off+p.2) p.1) cells)=(cells.toList.take off++(vs++cells.toList.drop (off+vs.length))).toArray:=by
 obtain⟨g1,g2⟩:=fold_at vs 0 off cells (by omega)
 apply Array.ext_getElem?
 intro i
 rw[g2 i]
 simp only[ry,List.getElem?_toArray]
 by_cases h1:i<off
 ·rw[aC (by omega),xY (by simp;omega),MQ h1]
  simp
 ·by_cases h2:i<off+vs.length
  ·rw[aj (by omega),xZ (by simp;omega),xY (by simp;omega)]
   congr 1
   simp
   omega
  ·rw[aC (by omega),xZ (by simp;omega),xZ (by simp;omega),BB]
   rw[wN]
   congr 1
   simp
   omega
theorem Sg{place:Nat->Option (Nat×Nat)}{cells:Array Value}{i off:Nat}{v:Value}{vs:List Value}{rest:List (Nat×Value)}(hp:place i=some (off,vs.length))(hv:v.cells=vs.toArray)(hl:off+vs.length<=cells.size) :
  Instr.fill place cells ((i,v) :: rest)=Instr.fill place (cells.toList.take off++(vs++cells.toList.drop (off+vs.length))).toArray rest:=by
 rw[<-am4 vs off cells hl]
 conv=>lhs;unfold Instr.fill
 rw[hp]
 simp only[hv,DX,ne_eq,not_true_eq_false,cO,Gj,dW]
 rw[aC (by omega)]
 simp
def xh:List (Nat×fC)->xP->Option xP
 | [],b=>some b
 |(n,tk) :: l,b=>match b.k,b.x with
  |.st c,x=>match aU n c x with
   |some d=>bif tk.k.beq d.1 then
     match dP n c x ⟨tk.k,tk.x⟩with
     |some z=>xh l { k:=.st z.1,x:=z.2,bad:=tk.bad++b.bad,tags:=lF tk.iQ b.tags,ws:=b.ws++tk.ws,keep:=tk.keep||b.keep,all:=tk.tags++b.all }
     |none=>none
    else none
   |none=>none
  |_,_=>none
section
variable {P:Program}{T:bL}{cx:Cx}{Z:St}{J:aO}{F:List Nat}{a:Act}{w:World}
theorem Zn{A:Type}{z:A}(H:Rel cx Z J F a w){k:xP->Prog A}:∀{l:List (Nat×AV)} {vs:List Value} {b:xP},iP cx Z J F w (l.map (·.2)) vs->(∀v∈l,dV Z v.2)->(BV l b k).ends Z z->
  ∃(tks:List fC) (b':xP),tks.length=l.length/\vs.length=l.length/\(∀it∈vs.zip tks,su cx Z J F w it.1 it.2)/\xh ((l.map (·.1)).zip tks) b=some b'/\(k b').ends Z z:=by
 intro l
 induction l with
 |nil=>
  intro vs b h1 _ h
  cases vs with
  |nil=>exact⟨[],b,rfl,rfl,by simp,rfl,h⟩
  |cons v vs=>exact h1.elim
 |cons p l ih=>
  obtain⟨n,x⟩:=p
  intro vs b h1 h2 h
  cases vs with
  |nil=>exact h1.elim
  |cons v vs=>
   obtain⟨bk,bx,akM,akU,bws,akP,akL⟩:=b
   cases bk with
   |st c=>
    simp only[BV]at h
    cases hg:aU n c bx with
    |none=>rw[hg]at h;exact h.elim
    |some d=>
     rw[hg]at h
     simp only at h
     obtain⟨tk,htk,h5⟩:=AJ H h1.1 (h2 (n,x) (by simp)) h
     rcases bF h5 with⟨hk,h6⟩|⟨_,h6⟩
     ·cases hp:dP n c bx ⟨tk.k,tk.x⟩with
      |none=>rw[hp]at h6;exact h6.elim
      |some zz=>
       rw[hp]at h6
       obtain⟨tks,b',g1,g2,g3,g4,g5⟩:=ih h1.2 (λv hv=>h2 v (by simp[hv])) h6
       refine⟨tk :: tks,b',by simp[g1],by simp[g2],?_,?_,g5⟩
       ·intro it hit
        rw[BF]at hit
        rcases bW.1 hit with h|h
        ·subst h;exact htk
        ·exact g3 it h
       ·rw[kZ,BF]
        unfold xh
        simp only[hg,hk,gP,hp]
        exact g4
     ·exact h6.elim
   |_=>exact h.elim
end
end
section
open Go
variable [Fr]
def zF(h:Heap)(own:List TypeId)(ok:Nat->Prop):List (Nat×fC)->List Value->List (List Nat)->Prop
 | [],[],[]=>True
 |p :: l,v :: vs,ft :: iG=>(∃cs,VC p.2.k v cs/\Ow h own ok p.2.k p.2.x cs ft)/\zF h own ok l vs iG
 |_,_,_=>False
theorem Zl{h:Heap}{own:List TypeId}{ok:Nat->Prop}{place:Nat->Option (Nat×Nat)}{c:K}(hpl:∀n off k,bR n c=some (off,k)->place n=some (off,k.size)) :
  ∀(l:List (Nat×fC)) {vs:List Value} {iG:List (List Nat)} {x:El c} {cs:List Value} {fo:List Nat} {bad:List TypeId} {tags:List Tag} {ws:List Wr} {kp:Bool} {all:List Tag} {b':xP},
   Ow h own ok c x cs fo->zF h own ok l vs iG->xh l ⟨.st c,x,bad,tags,ws,kp,all⟩=some b'->
   ∃(x':El c) (cs':List Value) (aM rest:List Nat) (bad':List TypeId) (tags':List Tag) (ws':List Wr) (kp':Bool) (all':List Tag),b'=⟨.st c,x',bad',tags',ws',kp',all'⟩/\Ow h own ok c x' cs' aM/\(fo++iG.flatten).Perm (aM++rest)/\
    Instr.fill place cs.toArray ((l.map (·.1)).zip vs)=some cs'.toArray:=by
 intro l
 induction l with
 |nil=>
  intro vs iG x cs fo bad tags ws kp all b' H hP hb
  cases vs with
  |nil=>
   cases iG with
   |nil=>
    simp only[xh,au]at hb
    exact⟨x,cs,fo,[],bad,tags,ws,kp,all,hb.symm,H,by simp,rfl⟩
   |cons f fs=>exact hP.elim
  |cons v vs=>cases iG<;>exact hP.elim
 |cons p l ih=>
  obtain⟨n,tk⟩:=p
  intro vs iG x cs fo bad tags ws kp all b' H hP hb
  cases vs with
  |nil=>cases iG<;>exact hP.elim
  |cons v vs=>
   cases iG with
   |nil=>exact hP.elim
   |cons ft iG=>
    obtain⟨⟨cst,hv,hO⟩,hP'⟩:=hP
    unfold xh at hb
    simp only at hb
    cases hg:aU n c x with
    |none=>rw[hg]at hb;simp at hb
    |some d=>
     rw[hg]at hb
     simp only at hb
     cases hk:tk.k.beq d.1 with
     |false=>rw[hk]at hb;simp at hb
     |true=>
      rw[hk]at hb
      simp only[gP]at hb
      cases hp:dP n c x ⟨tk.k,tk.x⟩with
      |none=>rw[hp]at hb;simp at hb
      |some z=>
       rw[hp]at hb
       simp only at hb
       have ek:=K.eq_of_beq hk
       have ez:=ZE n hg hp ek
       obtain⟨off,pre,cs1,post,bu,fr,ho,ec,hl,hpf,hd,hu,_⟩:=Nn n H hg
       have r:=hu h ok ⟨tk.k,tk.x⟩ cst ft z hp hO (λb hb=>⟨hb,rfl⟩) (λ_ _=>rfl)
       obtain⟨zk,zx⟩:=z
       simp only at ez
       subst ez
       obtain⟨x',cs',aM,rest,bad',tags',ws',kp',all',g1,g2,g3,g4⟩:=ih r hP' hb
       refine⟨x',cs',aM,bu++rest,bad',tags',ws',kp',all',g1,g2,?_,?_⟩
       ·simp only[nO]
        have s1:(fo++(ft++iG.flatten)).Perm ((bu++fr)++(ft++iG.flatten)):=tQ _ hpf
        have s2:((bu++fr)++(ft++iG.flatten)).Perm (bu++((ft++fr)++iG.flatten)):=by
         rw[gD]
         refine vL _ ?_
         rw[<-gD]
         exact tQ _ BD
        exact s1.trans (s2.trans ((vL _ g3).trans FP))
       ·rw[kZ,BF]
        have hcl:cst.length=d.1.size:=by rw[fU hO,ek]
        have j6:v.cells=cst.toArray:=by
         have:=hv.cells
         apply vE
         simpa using this
        rw[Sg (off:=off) (vs:=cst) (by rw[hcl];exact hpl n off d.1 ho) j6 (by rw[ec];simp;have:=fU hd;omega)]
        have e2:(cs.toArray.toList.take off++(cst++cs.toArray.toList.drop (off+cst.length)))=pre++(cst++post):=by
         have hd1:=fU hd
         simp only
         rw[ec,<-hl]
         simp[hcl,<-hd1]
        rw[e2]
        exact g4
end
section
open Go
variable [Fr]
theorem Zm:∀(l:List (Nat×fC)) {b b':xP},xh l b=some b'->
  b'.ws=b.ws++l.flatMap (λp=>p.2.ws)/\(∀p∈l,∀t∈p.2.tags,t∈b'.all)/\(∀t∈b.all,t∈b'.all)/\(∀p∈l,∀t∈p.2.bad,t∈b'.bad)/\(∀t∈b.bad,t∈b'.bad)/\
  (∀p∈l,∀t∈p.2.iQ,t∈b'.tags)/\(∀t∈b.tags,t∈b'.tags)/\(∀t∈b'.tags,t∈b.tags\/∃p∈l,t∈p.2.iQ):=by
 intro l
 induction l with
 |nil=>
  intro b b' h
  simp only[xh,au]at h
  subst h
  simp
 |cons p l ih=>
  obtain⟨n,tk⟩:=p
  intro b b' h
  obtain⟨bk,bx,akM,akU,bws,akP,akL⟩:=b
  cases bk with
  |st c=>
   unfold xh at h
   simp only at h
   cases hg:aU n c bx with
   |none=>rw[hg]at h;simp at h
   |some d=>
    rw[hg]at h
    simp only at h
    cases hk:tk.k.beq d.1 with
    |false=>rw[hk]at h;simp at h
    |true=>
     rw[hk]at h
     simp only[gP]at h
     cases hp:dP n c bx ⟨tk.k,tk.x⟩with
     |none=>rw[hp]at h;simp at h
     |some z=>
      rw[hp]at h
      simp only at h
      obtain⟨g1,g2,g3,g4,g5,g6,g7,g8⟩:=ih h
      refine⟨by rw[g1];simp,?_,λt ht=>g3 t (by simp[ht]),?_,λt ht=>g5 t (by simp[ht]),?_,λt ht=>g7 t (mG.2 (.inr ht)),?_⟩
      ·intro p hp t ht
       rcases bW.1 hp with h|h
       ·subst h;exact g3 t (by simp[ht])
       ·exact g2 p h t ht
      ·intro p hp t ht
       rcases bW.1 hp with h|h
       ·subst h;exact g5 t (by simp[ht])
       ·exact g4 p h t ht
      ·intro p hp t ht
       rcases bW.1 hp with h|h
       ·subst h;exact g7 t (mG.2 (.inl ht))
       ·exact g6 p h t ht
      ·intro t ht
       rcases g8 t ht with h|⟨p,h1,h2⟩
       ·rcases mG.1 h with h|h
        ·exact .inr ⟨(n,tk),by simp,h⟩
        ·exact .inl h
       ·exact .inr ⟨p,by simp[h1],h2⟩
  |_=>simp[xh]at h
theorem zF.mono{h:Heap}{own:List TypeId}{ok ok':Nat->Prop}(hk:∀b,ok b->ok' b):∀{l:List (Nat×fC)} {vs:List Value} {iG:List (List Nat)},zF h own ok l vs iG->zF h own ok' l vs iG
 | [],[],[],_=>trivial
 |_ :: _,_ :: _,_ :: _,hP=>⟨by obtain⟨cs,h1,h2⟩:=hP.1;exact⟨cs,h1,eO (λ_ _=>rfl) hk (λ_ _=>rfl) h2⟩,zF.mono hk hP.2⟩
 | [],[],_ :: _,hP=>hP.elim
 | [],_ :: _,_,hP=>hP.elim
 |_ :: _,[],_,hP=>hP.elim
 |_ :: _,_ :: _,[],hP=>hP.elim
section
variable {cx:Cx}{Z:St}{J:aO}{F:List Nat}{w:World}
theorem UE{own':List TypeId}{T:List Tag}:∀(items:List (Nat×Value×fC)) {hs:List (List Value×List Nat)},vJ cx Z J F w (items.map (·.2)) hs->(∀it∈items,∀t∈it.2.2.bad,ah t own'=false)->(∀it∈items,∀t∈it.2.2.iQ,t∈T)->
  ∃(iG:List (List Nat)) (qb:List Nat),(hs.flatMap (·.2)).Perm (iG.flatten++qb)/\zF (hp w) own' (λb=>bK cx Z J F w T b\/b∈qb) (items.map λp=>(p.1,p.2.2)) (items.map (·.2.1)) iG:=by
 intro items
 induction items with
 |nil=>
  intro hs h _ _
  cases hs with
  |nil=>exact⟨[],[],by simp,trivial⟩
  |cons _ _=>exact h.elim
 |cons it items ih=>
  obtain⟨n,v,tk⟩:=it
  intro hs h hbad htag
  cases hs with
  |nil=>exact h.elim
  |cons hd hs=>
   obtain⟨cs,fo⟩:=hd
   obtain⟨⟨h1,h2,h3⟩,h4⟩:=h
   obtain⟨iG,qb,g1,g2⟩:=ih h4 (λit hit=>hbad it (by simp[hit])) (λit hit=>htag it (by simp[hit]))
   have hO:=h2.ow h3
   have hO2:Ow (hp w) tk.own (λb=>bK cx Z J F w T b) tk.k tk.x cs fo:=by
    cases hb:tk.bad with
    |nil=>exact jU hb hO
    |cons t0 l=>
     have e:tk.iQ=tk.tags:=by unfold fC.iQ;rw[hb]
     exact eO (λ_ _=>rfl) (λb hb=>CU hb (λt ht=>htag (n,v,tk) (by simp) t (by show t∈tk.iQ;rw[e];exact ht))) (λ_ _=>rfl) hO
   obtain⟨ft,jG,p1,p2⟩:=yg (own':=own') (λt ht hm=>by
    rcases Ky (own:=tk.own) ht with h|h
    ·have:=hbad (n,v,tk) (by simp) t h
     rw[hm]at this
     simp at this
    ·exact h) hO2
   refine⟨ft :: iG,jG++qb,?_,⟨cs,h1,eO (λ_ _=>rfl) (λb hb=>?_) (λ_ _=>rfl) p2⟩,g2.mono (λb hb=>?_)⟩
   ·simp only[mP,nO]
    refine(p1.append g1).trans ?_
    simp only[gD]
    refine vL _ ?_
    exact FP
   ·rcases hb with hb|hb
    ·exact .inl hb
    ·exact .inr (by simp[hb])
   ·rcases hb with hb|hb
    ·exact .inl hb
    ·exact .inr (by simp[hb])
end
end
section
open Go
variable [Fr]
theorem aq4{P:Program}{T:bL}:∀{c:K} {fs:List Field} {wD:Nat},(jK P T c).2 fs wD->
  ∃places,fs.mapM (λf=>(P.info? f.type).map λi=>(f.offset,i.size))=some places/\∀n off k,bR n c=some (off,k)->places[n]?=some (wD+off,k.size):=by
 intro c
 induction c with
 |unit=>
  intro fs wD h
  have h':fs=[]:=h
  subst h'
  exact⟨[],rfl,λn off k ho=>by cases n<;>simp[bR]at ho⟩
 |pair a b iha ihb=>
  intro fs wD h
  cases fs with
  |nil=>exact h.elim
  |cons f fs=>
   obtain⟨h1,h2,h3,h4⟩:=h
   obtain⟨pl,g1,g2⟩:=ihb h4
   obtain⟨i,i1,i2,_⟩:=dO.info (show dO P T f.type a from h2)
   refine⟨(wD,a.size) :: pl,?_,?_⟩
   ·rw[Ip,i1,g1]
    simp[h1,i2]
   ·intro n off k ho
    cases n with
    |zero=>
     simp only[bR,au,bZ]at ho
     obtain⟨rfl,rfl⟩:=ho
     rfl
    |succ n=>
     simp only[bR]at ho
     cases h5:bR n b with
     |none=>rw[h5]at ho;simp at ho
     |some q=>
      rw[h5]at ho
      simp only[au,bZ]at ho
      rw[YF,g2 n q.1 q.2 (by rw[h5]),<-ho.1,<-ho.2]
      congr 2
      omega
 |_=>intro fs wD h;exact h.elim
theorem Rz{P:Program}{T:bL}{t:TypeId}{c:K}(ht:dO P T t (.st c)):∃place:Nat->Option (Nat×Nat),(∀n off k,bR n c=some (off,k)->place n=some (off,k.size))/\
  ∀parts,P.built t parts=Instr.fill place (d_ c).toArray parts:=by
 obtain⟨fs,hu,hf⟩:=ht.st
 obtain⟨i,i1,i2,i3⟩:=ht.info
 obtain⟨pl,g1,g2⟩:=aq4 hf
 refine⟨(pl.toArray[·]?),λn off k ho=>?_,λparts=>?_⟩
 ·have:=g2 n off k ho
  simpa using this
 ·unfold Program.built
  rw[i1,hu]
  simp only[i3,g1]
  rfl
theorem Db{h:Heap}{own:List TypeId}{ok:Nat->Prop}:∀{k:K},gy k=true->Ow h own ok k k.zero (d_ k) []:=by
 intro k
 induction k with
 |int ik=>intro _;exact⟨rfl,rfl,by cases ik<;>simp[lH,K.zero]⟩
 |bool=>intro _;exact⟨rfl,rfl⟩
 |id e=>intro _;exact⟨rfl,by show _=[Fr.bM 0];rw[Fr.TU];rfl⟩
 |str=>intro _;exact⟨rfl,ByteArray.empty,rfl,rfl⟩
 |sl e k ih=>intro _;exact J4
 |unit=>intro _;exact⟨rfl,rfl⟩
 |pair a b iha ihb=>
  intro hg
  simp[gy]at hg
  exact⟨d_ a,d_ b,[],[],rfl,.refl _,iha hg.1,ihb hg.2⟩
 |st f ih=>intro hg;exact ih hg
 |gap n=>intro hg;simp[gy]at hg
theorem Vo{cx:Cx}{Z:St}{J:aO}{F:List Nat}{w:World}{r:Nat}(hn:Z.roots r=none):∀{l:List (Value×fC)},(∀it∈l,su cx Z J F w it.1 it.2)->r∉(fB l).flatMap Wr.fA:=by
 intro l h hm
 simp only[fB,jZ]at hm
 obtain⟨wr,⟨it,hit,hw⟩,hr⟩:=hm
 cases h it hit with
 |held hws cs hv hh hc=>rw[hws]at hw;simp at hw
 |ref q R hlr hv e hk hd=>
  rw[e]at hw
  simp only[iD]at hw
  subst hw
  simp only[Wr.fA,iD]at hr
  rw[hr,hlr.1]at hn
  simp at hn
 |cut q R cs hlr hv hk e hd hl uD how=>
  rw[e.2.2.1]at hw
  simp only[iD]at hw
  subst hw
  simp only[Wr.fA,iD]at hr
  rw[hr,hlr.1]at hn
  simp at hn
 |gap q R p dd z hlr hv hg hz dn hown hpv e hnn=>
  rw[e]at hw
  simp only[iD]at hw
  subst hw
  simp only[Wr.fA,iD]at hr
  rw[hr,hlr.1]at hn
  simp at hn
theorem VG:∀(ns:List Nat) (vs:List Value) (ts:List fC),ns.length=ts.length->vs.length=ts.length->
  ((ns.zip (vs.zip ts)).map (·.2)=vs.zip ts)/\((ns.zip (vs.zip ts)).map (λp=>(p.1,p.2.2))=ns.zip ts)/\((ns.zip (vs.zip ts)).map (·.2.1)=vs)/\(fB (vs.zip ts)=(ns.zip ts).flatMap (λp=>p.2.ws)):=by
 intro ns
 induction ns with
 |nil=>
  intro vs ts h1 h2
  cases ts with
  |nil=>cases vs with
   |nil=>exact⟨rfl,rfl,rfl,rfl⟩
   |cons _ _=>simp at h2
  |cons _ _=>simp at h1
 |cons n ns ih=>
  intro vs ts h1 h2
  cases ts with
  |nil=>simp at h1
  |cons t ts=>
   cases vs with
   |nil=>simp at h2
   |cons v vs=>
    obtain⟨g1,g2,g3,g4⟩:=ih vs ts (by simpa using h1) (by simpa using h2)
    refine⟨by simp[g1],by simp[g2],by simp[g3],?_⟩
    unfold fB at g4 ⊢
    simp[g4]
end
section
open Go
variable [Fr]
section
variable {P:Program}{T:bL}{cx:Cx}{Z:St}{J:aO}{F:List Nat}{a:Act}{w:World}{o:Oper}{d:Nat}{ws:List Wr}
theorem NF:∀{l:List (Value×fC)} {hs:List (List Value×List Nat)},vJ cx Z J F w l hs->∀b∈hs.flatMap (·.2),b∈F
 | [],[],_,b,hb=>by simp at hb
 |_ :: _,hd :: hs,h,b,hb=>by
  simp only[mP,dD]at hb
  rcases hb with hb|hb
  ·exact h.1.2.1.sub b hb
  ·exact NF h.2 b hb
 | [],_ :: _,h,_,_=>h.elim
 |_ :: _,[],h,_,_=>h.elim
theorem NG:∀{l:List (Value×fC)} {hs:List (List Value×List Nat)},vJ cx Z J F w l hs->∀it∈l,gB Z it.2.tags
 | [],[],_,it,hi=>by simp at hi
 |_ :: _,hd :: hs,h,it,hi=>by
  rcases bW.1 hi with hi|hi
  ·subst hi;exact h.1.2.1.wt
  ·exact NG h.2 it hi
 | [],_ :: _,h,_,_=>h.elim
 |_ :: _,[],h,_,_=>h.elim
theorem ZQ(hT:fT P T)(H:Rel cx Z J F a w)(hd:o.dst=some d)(hdn:d<cx.nt){t:TypeId}{ps:Array (Nat×Operand)}
  (h:(match T.ty t with
   |some (.st c)=>xy ps.toList λl=>BV l ⟨.st c,(K.st c).zero,[],[],[],false,[]⟩ λb=>bif !tH b.ws b.all then .fail else bif b.k.tys.all λt=>ah t b.bad then
     .ret (b.ws++[Wr.s d (.one (.val b.k b.x b.tags))])
    else kF (aN d 0) (.ret (b.ws++[Wr.r (aN d 0) (some (bP b.k b.x (fF b.k.tys b.bad) b.tags .anon b.keep)),Wr.s d (.one (.ref (aN d 0) 0))]))
   |_=>(.fail:Prog (List Wr))).ends Z ws) (ho:o.op=.build t ps):dQ P cx o a w (aL ws Z):=by
 cases hty:T.ty t with
 |none=>rw[hty]at h;exact h.elim
 |some k0=>
  rw[hty]at h
  cases k0 with
  |st c=>
   have ht:=hT.ty t _ hty
   simp only at h
   obtain⟨vs,e1,h1,h2,h3⟩:=R9 H h
   obtain⟨tks,b',l1,l2,sN,Af,h4⟩:=Zn H h1 h2 h3
   have hlen:vs.length=tks.length:=l1.symm
   have Jq:(vs.map (·.1)).length=tks.length:=by rw[nP];exact hlen
   have CG:((evs a ps.toList).map (·.2)).length=tks.length:=by rw[l2];exact hlen
   generalize hns:vs.map (·.1)=ns at *
   generalize hvv:(evs a ps.toList).map (·.2)=vals at *
   obtain⟨z1,z2,z3,z4⟩:=VG ns vals tks Jq CG
   obtain⟨f1,f2,f3,f4,f5,f6,f7,f8⟩:=Zm _ Af
   simp only[ru]at f1
   rcases bF h4 with⟨_,h5⟩|⟨hws,h5⟩
   ·exact h5.elim
   ·have rF:tH b'.ws b'.all=true:=by simpa using hws
    unfold tH at rF
    simp only[bB]at rF
    have hw1:=II.1 rF.1
    have hw2:=Nf.1 rF.2
    rw[f1,<-z4]at hw1 hw2
    obtain⟨J',F',hs,H',hA,hnd,hnF,SB,hS,_⟩:=takes (vals.zip tks) H sN hw1 (λtg fE=>hw2 tg (by
     obtain⟨it,hit,h6⟩:=jZ.1 fE
     have:it∈(ns.zip (vals.zip tks)).map (·.2):=by rw[z1];exact hit
     obtain⟨q,hq,rfl⟩:=fP.1 this
     exact f2 (q.1,q.2.2) (by rw[<-z2];exact fP.2 ⟨q,hq,rfl⟩) tg h6))
    have Ad:=hA
    rw[<-z1]at hA
    obtain⟨iG,qb,p1,p2⟩:=UE (own':=fF (K.st c).tys b'.bad) (T:=b'.tags) (ns.zip (vals.zip tks)) hA
     (λit hit tg fE=>by
      cases hm:ah tg (fF (K.st c).tys b'.bad)with
      |false=>rfl
      |true=>exact absurd (f4 (it.1,it.2.2) (by rw[<-z2];exact fP.2 ⟨it,hit,rfl⟩) tg fE) (qm.1 hm).2)
     (λit hit tg fE=>f6 (it.1,it.2.2) (by rw[<-z2];exact fP.2 ⟨it,hit,rfl⟩) tg fE)
    rw[z2,z3,z1]at p2
    obtain⟨place,q1,q2⟩:=Rz ht
    obtain⟨x',cs',aM,rest,bad',tags',y_,kp',all',r1,r2,r3,r4⟩:=Zl q1 (ns.zip tks) (x:=(K.st c).zero) (cs:=d_ c) (fo:=[]) (Db (k:=c) ht.gy) p2 Af
    subst r1
    simp only at rF f1 f2 f3 f4 f5 f6 f7 f8 h5 p2 r2 r3
    have hzn:(ns.zip tks).map (·.1)=ns:=by rw[List.map_fst_zip (by omega)]
    have hparts:((ps.map λ(p:Nat×Operand)=>(p.1,a.eval p.2)).toList)=ns.zip vals:=by
     rw[wO,<-hvv,e1]
     have:∀l:List (Nat×Operand),l.map (λp=>(p.1,a.eval p.2))=(l.map (·.1)).zip ((evs a l).map (·.2)):=by
      intro l
      induction l with
      |nil=>rfl
      |cons p l ih=>simp[evs]at ih ⊢;exact ih
     exact this _
    have hrun:(execOp a.eval o).run P w=.ok (.value (.agg cs'.toArray)) w:=by
     have hb:=run_build (P:=P) w t (ps.map λ(p:Nat×Operand)=>(p.1,a.eval p.2)) cs'.toArray (by rw[hparts,q2,<-r4,hzn])
     simp only[execOp,ho,dZ,hb,gu,fH]
    have hperm:(hs.flatMap (·.2)).Perm (aM++(rest++qb)):=by
     refine p1.trans ?_
     rw[<-gD]
     exact tQ _ (by simpa using r3)
    have jH:=hperm.nodup hnd
    have hin:∀b∈hs.flatMap (·.2),b∈F':=NF Ad
    have uW:∀b∈aM,b∈F':=λb hb=>hin b (hperm.mem_iff.2 (by simp[hb]))
    have EO:∀b∈qb,b∈F'/\b∉aM:=λb hb=>⟨hin b (hperm.mem_iff.2 (by simp[hb])),λh=>(dH.1 jH).2.2 b h b (by simp[hb]) rfl⟩
    have hV:VC (.st c) (.agg cs'.toArray) cs':=rfl
    have hwt:gB (aL (fB (vals.zip tks)) Z) tags':=by
     intro tg fE
     rcases f8 tg fE with h|⟨q,hq,hq2⟩
     ·simp at h
     ·rw[<-z2]at hq
      obtain⟨it,hit,rfl⟩:=fP.1 hq
      have hit2:it.2∈vals.zip tks:=by rw[<-z1];exact fP.2 ⟨it,hit,rfl⟩
      exact F6 (NG Ad it.2 hit2) tg hq2
    have Fe:y_=fB (vals.zip tks):=by rw[f1,z4]
    rcases bF h5 with⟨hall,h6⟩|⟨_,h6⟩
    ·rw[bE h6]
     have hnone:∀tg∈c.tys,ah tg (fF (K.st c).tys bad')=false:=by
      intro tg fE
      cases hm:ah tg (fF (K.st c).tys bad')with
      |false=>rfl
      |true=>
       have:=eX.1 hall tg fE
       exact absurd (dh.1 this) (qm.1 hm).2
     have wm:aM=[]:=by
      cases hf:aM with
      |nil=>rfl
      |cons b l=>
       obtain⟨e,g1,g2,_⟩:=zC (k:=c) r2 b (by rw[hf];simp)
       rw[hnone e g1]at g2
       simp at g2
     have T2:=FE (w':=w) (F':=F'.filter λb=>!ah b qb) H' ⟨rfl,rfl,rfl⟩ (bV _) (λ_ _ h=>absurd rfl h) (λb hb=>.inl (eH.1 hb).1) (H'.iw.filter _)
     have H2:=H'.mem T2
     have hok:∀b,(bK cx (aL (fB (vals.zip tks)) Z) J' F' w tags' b\/b∈qb)->bK cx (aL (fB (vals.zip tks)) Z) J' (F'.filter λb=>!ah b qb) w tags' b:=by
      rintro b (hb|hb)
      ·exact⟨hb.1,λh=>hb.2.1 (eH.1 h).1,hb.2.2⟩
      ·have lC:=(EO b hb).1
       have hm:=H'.fl b lC
       refine⟨hm.1,λh=>?_,Bh H' lC,λq Q hq hbq=>absurd lC (H'.fI q Q hq b hbq),λh0=>?_⟩
       ·have:=(eH.1 h).2
        simp only[lI,gJ]at this
        exact this hb
       ·rcases hm.2 with h|⟨j,pi,h1,h2⟩
        ·omega
        ·exact .inr ⟨j,pi,h1,h2⟩
     have hVw:=qE (k:=.st c) _ hok (λb hb=>by rw[wm]at hb;simp at hb) r2
     rw[Fe,oM]
     exact pE (x:=.one (.val (.st c) x' tags')) H2 hd hdn hrun (show a_ cx _ J' _ w (.val (.st c) x' tags') _ from λ_=>⟨cs',hV,hVw⟩) hwt
    ·obtain⟨g1,g2⟩:=qd h6
     rw[bE g2]
     have hnr:=Vo g1 sN
     have hn1:(aL (fB (vals.zip tks)) Z).roots (aN d 0)=none:=by rw[(hS _ hnr).root];exact g1
     obtain⟨jY,k1,k2⟩:=Eh (k:=.st c) (x:=x') (own:=fF (K.st c).tys bad') (tags:=tags') (v:=.agg cs'.toArray) (cs:=cs') (fo:=aM) (r:=aN d 0) (F':=F'.filter λb=>!ah b (aM++qb)) H' hn1 (qi d 0)
      uW (dH.1 jH).1 hwt (λb hb=>by
       rw[eH]at hb
       have:=hb.2
       simp only[lI,gJ,dD,not_or]at this
       exact⟨hb.1,this.1⟩) (H'.iw.filter _) (fU (k:=c) r2)
      (λ_=>eO (k:=.st c) (λ_ _=>rfl) (λb hb=>by
       rcases hb with hb|hb
       ·exact .inl hb
       ·refine .inr ⟨(EO b hb).1,λh=>?_,(EO b hb).2⟩
        rw[eH]at h
        have:=h.2
        simp only[lI,gJ,dD,not_or]at this
        exact this.2 hb) (λ_ _=>rfl) r2) hV kp'
     rw[Fe,oM]
     exact pE (x:=.one (.ref (aN d 0) 0)) k1 hd hdn hrun k2 ⟨_,fG ..,.inr (fQ _)⟩
  |_=>exact h.elim
theorem Uk:∀(ws:List Wr) (Z:St) (n:Nat),(aL ws Z).slots n=(Ar ws n).getD (Z.slots n)
 | [],_,_=>rfl
 |.s m x :: ws,Z,n=>by
  show(aL ws ((Wr.s m x).app Z)).slots n=_
  rw[Uk ws]
  simp only[Ar]
  cases Ar ws n with
  |some b=>rfl
  |none=>
   show upd Z.slots m x n=Option.getD (bif Nat.beq n m then some x else none) (Z.slots n)
   unfold upd
   cases Nat.beq n m<;>rfl
 |.r m q :: ws,Z,n=>by
  show(aL ws ((Wr.r m q).app Z)).slots n=_
  rw[Uk ws]
  simp only[Ar]
  cases q<;>rfl
theorem Uj:∀(ws:List Wr) (Z:St) (n:Nat),(aL ws Z).roots n=(CQ ws n).getD (Z.roots n)
 | [],_,_=>rfl
 |.s m x :: ws,Z,n=>by
  show(aL ws ((Wr.s m x).app Z)).roots n=_
  rw[Uj ws]
  rfl
 |.r m q :: ws,Z,n=>by
  show(aL ws ((Wr.r m q).app Z)).roots n=_
  rw[Uj ws]
  simp only[CQ]
  cases CQ ws n with
  |some b=>rfl
  |none=>
   cases q with
   |none=>
    show upd Z.roots m (some iF) n=Option.getD (bif Nat.beq n m then some (some iF)else none) (Z.roots n)
    unfold upd
    cases Nat.beq n m<;>rfl
   |some q=>
    show upd Z.roots m (some q) n=Option.getD (bif Nat.beq n m then some (some q)else none) (Z.roots n)
    unfold upd
    cases Nat.beq n m<;>rfl
theorem aqS{A:Type}{us:List Wr}{z:A}:∀{p:Prog A},(p.over us).ends Z z->p.ends (aL us Z) z:=by
 intro p
 induction p with
 |ret _=>exact λh=>h
 |fail=>exact λh=>h
 |slot n k ih=>
  intro h
  show(k ((aL us Z).slots n)).ends _ z
  rw[Uk]
  simp only[Prog.over]at h
  cases hl:Ar us n with
  |some v=>rw[hl]at h;exact ih _ h
  |none=>rw[hl]at h;exact ih _ h
 |root n k ih=>
  intro h
  show(k ((aL us Z).roots n)).ends _ z
  rw[Uj]
  simp only[Prog.over]at h
  cases hl:CQ us n with
  |some v=>rw[hl]at h;exact ih _ h
  |none=>rw[hl]at h;exact ih _ h
 |eY c d k ih=>exact λh=>⟨h.1,ih h.2⟩
 |br c t e rH rG=>exact λh=>h.imp (λh=>⟨h.1,rH h.2⟩) (λh=>⟨h.1,rG h.2⟩)
 |opt β q k ih=>
  rintro⟨b,h1,h2⟩
  exact⟨b,h1,ih b h2⟩
theorem Ru{A B:Type}{f:A->Prog B}{z:B}:∀{p:Prog A},(p.bind f).ends Z z->∃x,p.ends Z x/\(f x).ends Z z:=by
 intro p
 induction p with
 |ret x=>exact λh=>⟨x,rfl,h⟩
 |fail=>exact λh=>h.elim
 |slot n k ih=>exact λh=>ih _ h
 |root n k ih=>exact λh=>ih _ h
 |eY c d k ih=>exact λh=>let ⟨x,h1,h2⟩:=ih h.2;⟨x,⟨h.1,h1⟩,h2⟩
 |br c t e rH rG=>
  rintro(h|h)
  ·obtain⟨x,h1,h2⟩:=rH h.2
   exact⟨x,.inl ⟨h.1,h1⟩,h2⟩
  ·obtain⟨x,h1,h2⟩:=rG h.2
   exact⟨x,.inr ⟨h.1,h1⟩,h2⟩
 |opt β q k ih=>
  rintro⟨b,h1,h2⟩
  obtain⟨x,h3,h4⟩:=ih b h2
  exact⟨x,⟨b,h1,h3⟩,h4⟩
theorem U2{p q:Prog (List Wr)}{z:List Wr}(h:(OU p q).ends Z z):∃us vs,p.ends Z us/\q.ends (aL us Z) vs/\z=us++vs:=by
 obtain⟨us,h1,h2⟩:=Ru h
 obtain⟨vs,h3,h4⟩:=Ru h2
 exact⟨us,vs,h1,aqS h3,h4⟩
theorem ap5:∀{c:K} {us us' cs:List Value},FB c us cs->FB c us' cs->us=us':=by
 intro c
 induction c with
 |unit=>
  intro us us' cs h h'
  cases us with
  |nil=>cases us' with
   |nil=>rfl
   |cons _ _=>exact h'.elim
  |cons _ _=>exact h.elim
 |pair k r ihk ih=>
  intro us us' cs h h'
  cases us with
  |nil=>exact h.elim
  |cons u us=>
   cases us' with
   |nil=>exact h'.elim
   |cons u' us'=>
    obtain⟨c1,c2,e,h1,h2,h3⟩:=h
    obtain⟨d1,d2,e',h1',h2',h3'⟩:=h'
    rw[e]at e'
    obtain⟨rfl,rfl⟩:=List.append_inj e' (h2.trans h2'.symm)
    rw[ih h3 h3']
    congr 1
    cases k with
    |st f=>exact(show u=_ from h1).trans (show u'=_ from h1').symm
    |_=>exact(by simpa using (And.left h1).symm.trans (And.left h1'):u=u')
 |_=>intro us us' cs h;cases us<;>exact h.elim
theorem ap4{A:Type}{z:A}(H:Rel cx Z J F a w){p:Prog A}:∀{c:K} {l:List (Nat×AV)} {i:Nat} {vs:List Value},iP cx Z J F w (l.map (·.2)) vs->(∀v∈l,dV Z v.2)->(JU c l i p).ends Z z->
  ∃cs,FB c vs cs/\(l.map (λq=>q.1)).zip vs=rW i vs/\p.ends Z z:=by
 intro c
 induction c with
 |unit=>
  intro l i vs h1 _ h
  cases l with
  |nil=>
   cases vs with
   |nil=>exact⟨[],rfl,rfl,h⟩
   |cons _ _=>exact h1.elim
  |cons _ _=>exact h.elim
 |pair k r ihk ih=>
  intro l i vs h1 h2 h
  cases l with
  |nil=>exact h.elim
  |cons q l=>
   obtain⟨n,x⟩:=q
   cases vs with
   |nil=>exact h1.elim
   |cons v vs=>
    simp only[JU]at h
    rcases bF h with⟨hn,h⟩|⟨_,h⟩
    ·obtain⟨tk,htk,h⟩:=AJ H h1.1 (h2 (n,x) (by simp)) h
     rcases bF h with⟨hk,h⟩|⟨_,h⟩
     ·obtain⟨cs,g1,g2,g3⟩:=ih h1.2 (λv hv=>h2 v (by simp[hv])) h
      obtain⟨aP,F1,cst,EH,lw,lh,H1,T1,k1,k2,_⟩:=take1 H htk
      have ek:=K.eq_of_beq hk
      rw[ek]at k1
      refine⟨cst++cs,⟨cst,cs,rfl,k1,by rw[k2.len,ek],g1⟩,?_,g3⟩
      simp only[kZ,BF,rW]
      rw[g2,bD hn]
     ·exact h.elim
    ·exact h.elim
 |_=>intro l i vs _ _ h;cases l<;>exact h.elim
theorem atC{k:K}(h:gy k=true):(d_ k).length=k.size:=fU (h:=λ_=>none) (own:=[]) (ok:=λ_=>True) (Db h)
theorem Z8{place:Nat->Option (Nat×Nat)}:∀{c:K} {us cs pre:List Value} {j:Nat},gy c=true->FB c us cs->(∀n off k,bR n c=some (off,k)->place (j+n)=some (pre.length+off,k.size))->
  Instr.fill place (pre++d_ c).toArray (rW j us)=some (pre++cs).toArray:=by
 intro c
 induction c with
 |unit=>
  intro us cs pre j _ h _
  cases us with
  |nil=>
   have h':cs=[]:=h
   subst h'
   rfl
  |cons _ _=>exact h.elim
 |pair k r ihk ih=>
  intro us cs pre j hg h hp
  cases us with
  |nil=>exact h.elim
  |cons u us=>
   obtain⟨c1,c2,rfl,h1,h2,h3⟩:=h
   simp only[gy,bB]at hg
   have hz:=atC hg.1
   have j6:u.cells=c1.toArray:=by
    have:=h1.cells
    apply vE
    simpa using this
   have h0:=hp 0 0 k rfl
   simp only[ry]at h0
   simp only[rW]
   rw[Sg (off:=pre.length) (vs:=c1) (by rw[h2];exact h0) j6 (by simp only[d_,DX,dN];omega)]
   have e2:((pre++d_ (.pair k r)).toArray.toList.take pre.length++(c1++(pre++d_ (.pair k r)).toArray.toList.drop (pre.length+c1.length)))=(pre++c1)++d_ r:=by
    simp only[d_]
    rw[<-gD pre]
    have e3:pre.length+c1.length=(pre++d_ k).length:=by simp[h2,hz]
    rw[e3,List.drop_left]
    simp
   rw[e2,ih hg.2 h3 (λn off kk ho=>?_)]
   ·simp
   ·have:=hp (n+1) (k.size+off) kk (by simp[bR,ho])
    rw[show j+1+n=j+(n+1) by omega,this]
    simp[h2]
    omega
 |_=>intro us cs pre j _ h;cases us<;>exact h.elim
theorem parts_eval{ps:Array (Nat×Operand)}{ns:List Nat}{vals:List Value}(e1:ns=ps.toList.map (·.1))(hvv:(evs a ps.toList).map (·.2)=vals):((ps.map λ(p:Nat×Operand)=>(p.1,a.eval p.2)).toList)=ns.zip vals:=by
 rw[wO,<-hvv,e1]
 have:∀l:List (Nat×Operand),l.map (λp=>(p.1,a.eval p.2))=(l.map (·.1)).zip ((evs a l).map (·.2)):=by
  intro l
  induction l with
  |nil=>rfl
  |cons p l ih=>simp[evs]at ih ⊢;exact ih
 exact this _
theorem alU(hT:fT P T)(H:Rel cx Z J F a w)(hd:o.dst=some d)(hdn:d<cx.nt){t:TypeId}{ps:Array (Nat×Operand)}
  (h:(match T.ty t with
   |some (.st c)=>xy ps.toList λl=>JU c l 0 (.ret [Wr.s d (.lit t c (l.map λq:Nat×AV=>q.2))])
   |_=>(.fail:Prog (List Wr))).ends Z ws) (ho:o.op=.build t ps):dQ P cx o a w (aL ws Z):=by
 cases hty:T.ty t with
 |none=>rw[hty]at h;exact h.elim
 |some k0=>
  rw[hty]at h
  cases k0 with
  |st c=>
   have ht:=hT.ty t _ hty
   simp only at h
   obtain⟨vs,e1,h1,h2,h3⟩:=R9 H h
   obtain⟨cs,g1,g2,g3⟩:=ap4 H h1 h2 h3
   rw[bE g3]
   obtain⟨place,q1,q2⟩:=Rz ht
   have hb:=run_build (P:=P) w t (ps.map λ(p:Nat×Operand)=>(p.1,a.eval p.2)) cs.toArray (by
    rw[parts_eval e1 rfl,q2,g2]
    have:=Z8 (pre:=[]) (j:=0) (place:=place) (c:=c) (by simpa[gy]using ht.gy) g1 (λn off k ho=>by simpa using q1 n off k ho)
    simpa using this)
   have hrun:(execOp a.eval o).run P w=.ok (.value (.agg cs.toArray)) w:=by simp only[execOp,ho,dZ,hb,gu,fH]
   refine fV (x:=.lit t c (vs.map (·.2))) (v:=.agg cs.toArray) H hd hdn hrun ⟨_,cs,⟨rfl,g1⟩,h1⟩ (λx hx=>?_)
   obtain⟨q,hq,rfl⟩:=fP.1 hx
   exact h2 q hq
  |_=>exact h.elim
theorem Rel.UM(H:Rel cx Z J F a w){s:Nat}{x:gU}(hw:nI Z x)(hx:jo cx Z J F w x (a.tmps.getD s undef)):Rel cx (uL Z (upd Z.slots s x)) J F a w where
 defs:=H.defs
 sz:=H.sz
 kI:=H.kI
 sW:=H.sW
 slots:=by
  intro n
  rw[VH]
  show jo cx Z J F w (upd Z.slots s x n) _
  by_cases e:n=s
  ·subst e
   rw[upd_same]
   exact hx
  ·rw[upd_ne _ _ e]
   exact H.slots n
 tJ:=by
  intro n
  rw[Zd]
  show nI Z (upd Z.slots s x n)
  by_cases e:n=s
  ·subst e;rw[upd_same];exact hw
  ·rw[upd_ne _ _ e];exact H.tJ n
 roots:=by
  intro r R hr
  have K:=H.roots r R hr
  exact⟨λhv=>K.ow ((AR _).1 hv),K.len,K.mem,K.nd,K.mine⟩
 gz:=H.gz
 lN:=H.lN
 fl:=H.fl
 iw:=H.iw
 fI:=H.fI
 frame:=H.frame
 qj:=H.qj
 mJ:=H.mJ
 rJ:=λj p ts v h=>let ⟨h0,R,h1,h2⟩:=H.rJ j p ts v h;⟨h0,R,h1,λht=>(KD _).2 (h2 ht)⟩
 rM:=H.rM
theorem O_{A:Type}:∀(l:List A) (i:Nat),(rW i l).map (λp=>p.2)=l
 | [],_=>rfl
 |x :: l,i=>by simp only[rW,kZ,O_ l]
theorem aeS{A B:Type}:∀(l:List A) (m:List B) (i:Nat),m.length=l.length->((rW i l).map (λp=>p.1)).zip m=rW i m
 | [],[],_,_=>rfl
 |x :: l,y :: m,i,h=>by simp only[rW,kZ,BF,aeS l m (i+1) (by simpa using h)]
 | [],_ :: _,_,h=>by simp at h
 |_ :: _,[],_,h=>by simp at h
theorem aqn(hT:fT P T)(H:Rel cx Z J F a w){s:Nat}(h:(Uq T s .ret).ends Z ws):∃J' F',Rel cx (aL ws Z) J' F' a w:=by
 unfold Uq at h
 have h:(match Z.slots s with
  |.lit t c l=>_
  |_=>(.fail:Prog (List Wr))).ends Z ws:=h
 have hsl:=H.slots s
 have hsw:=H.tJ s
 cases hs:Z.slots s with
 |one _=>rw[hs]at h;exact h.elim
 |mO _=>rw[hs]at h;exact h.elim
 |lit t c l=>
  rw[hs]at h hsl hsw
  obtain⟨us,cs,⟨ev,NR⟩,hl⟩:=hsl
  rcases bF h with⟨hty,h⟩|⟨_,h⟩
  ·have ht:dO P T t (.st c):=by
    cases hty':T.ty t with
    |none=>rw[hty']at hty;simp at hty
    |some kk=>
     rw[hty']at hty
     have:=K.eq_of_beq hty
     subst this
     exact hT.ty t _ hty'
   have hl':iP cx Z J F w ((rW 0 l).map (·.2)) us:=by rw[O_];exact hl
   obtain⟨tks,b',l1,l2,sN,Af,h4⟩:=Zn H hl' (λv hv=>hsw v.2 (by
    have:v.2∈(rW 0 l).map (·.2):=fP.2 ⟨v,hv,rfl⟩
    rwa[O_]at this)) h
   have NP:us.length=(rW 0 l).length:=l2
   have aoB:us.length=l.length:=by
    have:=congrArg List.length (O_ l 0)
    rw[nP]at this
    omega
   generalize hns:(rW 0 l).map (·.1)=ns at *
   have Jq:ns.length=tks.length:=by rw[<-hns,nP];exact l1.symm
   have CG:us.length=tks.length:=by rw[l2];exact l1.symm
   obtain⟨z1,z2,z3,z4⟩:=VG ns us tks Jq CG
   obtain⟨f1,f2,f3,f4,f5,f6,f7,f8⟩:=Zm _ Af
   simp only[ru]at f1
   rcases bF h4 with⟨_,h5⟩|⟨hws,h5⟩
   ·exact h5.elim
   ·have rF:tH b'.ws b'.all=true:=by simpa using hws
    unfold tH at rF
    simp only[bB]at rF
    have hw1:=II.1 rF.1
    have hw2:=Nf.1 rF.2
    rw[f1,<-z4]at hw1 hw2
    obtain⟨J',F',hs',H',hA,hnd,hnF,SB,hS,_⟩:=takes (us.zip tks) H sN hw1 (λtg fE=>hw2 tg (by
     obtain⟨it,hit,h6⟩:=jZ.1 fE
     have:it∈(ns.zip (us.zip tks)).map (·.2):=by rw[z1];exact hit
     obtain⟨q,hq,rfl⟩:=fP.1 this
     exact f2 (q.1,q.2.2) (by rw[<-z2];exact fP.2 ⟨q,hq,rfl⟩) tg h6))
    have Ad:=hA
    rw[<-z1]at hA
    obtain⟨iG,qb,p1,p2⟩:=UE (own':=fF (K.st c).tys b'.bad) (T:=b'.tags) (ns.zip (us.zip tks)) hA
     (λit hit tg fE=>by
      cases hm:ah tg (fF (K.st c).tys b'.bad)with
      |false=>rfl
      |true=>exact absurd (f4 (it.1,it.2.2) (by rw[<-z2];exact fP.2 ⟨it,hit,rfl⟩) tg fE) (qm.1 hm).2)
     (λit hit tg fE=>f6 (it.1,it.2.2) (by rw[<-z2];exact fP.2 ⟨it,hit,rfl⟩) tg fE)
    rw[z2,z3,z1]at p2
    obtain⟨place,q1,q2⟩:=Rz ht
    obtain⟨x',cs',aM,rest,bad',tags',y_,kp',all',r1,r2,r3,r4⟩:=Zl q1 (ns.zip tks) (x:=(K.st c).zero) (cs:=d_ c) (fo:=[]) (Db (k:=c) ht.gy) p2 Af
    subst r1
    simp only at rF f1 f2 f3 f4 f5 f6 f7 f8 h5 p2 r2 r3
    have hzn:(ns.zip tks).map (·.1)=ns:=by rw[List.map_fst_zip (by omega)]
    have hcs:cs'=cs:=by
     have e:=Z8 (pre:=[]) (j:=0) (place:=place) (c:=c) (by simpa[gy]using ht.gy) NR (λn off k ho=>by simpa using q1 n off k ho)
     simp only[ru]at e
     rw[hzn,<-hns,aeS l us 0 aoB,e]at r4
     simpa using r4.symm
    subst hcs
    have hperm:(hs'.flatMap (·.2)).Perm (aM++(rest++qb)):=by
     refine p1.trans ?_
     rw[<-gD]
     exact tQ _ (by simpa using r3)
    have jH:=hperm.nodup hnd
    have hin:∀b∈hs'.flatMap (·.2),b∈F':=NF Ad
    have uW:∀b∈aM,b∈F':=λb hb=>hin b (hperm.mem_iff.2 (by simp[hb]))
    have EO:∀b∈qb,b∈F'/\b∉aM:=λb hb=>⟨hin b (hperm.mem_iff.2 (by simp[hb])),λh=>(dH.1 jH).2.2 b h b (by simp[hb]) rfl⟩
    have hV:VC (.st c) (.agg cs'.toArray) cs':=rfl
    have hwt:gB (aL (fB (us.zip tks)) Z) tags':=by
     intro tg fE
     rcases f8 tg fE with h|⟨q,hq,hq2⟩
     ·simp at h
     ·rw[<-z2]at hq
      obtain⟨it,hit,rfl⟩:=fP.1 hq
      have hit2:it.2∈us.zip tks:=by rw[<-z1];exact fP.2 ⟨it,hit,rfl⟩
      exact F6 (NG Ad it.2 hit2) tg hq2
    have Fe:y_=fB (us.zip tks):=by rw[f1,z4]
    obtain⟨g1,g2⟩:=qd h5
    rw[bE g2]
    have hnr:=Vo g1 sN
    have hn1:(aL (fB (us.zip tks)) Z).roots (aN s 1)=none:=by rw[(hS _ hnr).root];exact g1
    obtain⟨jY,k1,k2⟩:=Eh (k:=.st c) (x:=x') (own:=fF (K.st c).tys bad') (tags:=tags') (v:=.agg cs'.toArray) (cs:=cs') (fo:=aM) (r:=aN s 1) (F':=F'.filter λb=>!ah b (aM++qb)) H' hn1 (qi s 1)
     uW (dH.1 jH).1 hwt (λb hb=>by
      rw[eH]at hb
      have:=hb.2
      simp only[lI,gJ,dD,not_or]at this
      exact⟨hb.1,this.1⟩) (H'.iw.filter _) (fU (k:=c) r2)
     (λ_=>eO (k:=.st c) (λ_ _=>rfl) (λb hb=>by
      rcases hb with hb|hb
      ·exact .inl hb
      ·refine .inr ⟨(EO b hb).1,λh=>?_,(EO b hb).2⟩
       rw[eH]at h
       have:=h.2
       simp only[lI,gJ,dD,not_or]at this
       exact this.2 hb) (λ_ _=>rfl) r2) hV kp'
    rw[Fe,oM]
    exact⟨jY,_,k1.UM (x:=.one (.ref (aN s 1) 0)) ⟨_,fG ..,.inr (fQ _)⟩ (by rw[ev];exact k2)⟩
  ·exact h.elim
theorem abS{Z':St}{J':aO}{F':List Nat}(f:AV->AV)(hf:∀x v,a_ cx Z J F w x v->a_ cx Z' J' F' w x v->a_ cx Z' J' F' w (f x) v) :
  ∀{l:List AV} {vs:List Value},iP cx Z J F w l vs->iP cx Z' J' F' w l vs->iP cx Z' J' F' w (l.map f) vs
 | [],[],_,_=>trivial
 |x :: l,v :: vs,h1,h2=>⟨hf x v h1.1 h2.1,abS f hf h1.2 h2.2⟩
 | [],_ :: _,h,_=>h.elim
 |_ :: _,[],h,_=>h.elim
theorem aqQ{p q:List Stp}(h:J_ p q=true):∃i j,p=[.aY i]/\q=[.aY j]/\i≠j:=by
 unfold J_ at h
 split at h
 ·rename_i i j
  exact⟨i,j,rfl,rfl,M0 (by simpa using h)⟩
 ·simp at h
theorem asU(H:Rel cx Z J F a w){s s2:Nat}(h:(Vd s s2 .ret).ends Z ws):∃J' F',Rel cx (aL ws Z) J' F' a w:=by
 unfold Vd at h
 have h:(match Z.slots s with
  |.one (.eP r p v)=>_
  |_=>(.fail:Prog (List Wr))).ends Z ws:=h
 have hsl:=H.slots s
 split at h
 case h_2=>exact h.elim
 case h_1 r p v hs=>
  rw[hs]at hsl
  unfold tC at h
  obtain⟨R,hr,hv,h⟩:=iA h
  rcases bF h with⟨uC,h⟩|⟨_,h⟩
  case inr=>exact h.elim
  have uC:=bD uC
  cases fq:aB p R.k R.x with
  |none=>rw[fq]at h;exact h.elim
  |some dd=>
   rw[fq]at h
   obtain⟨dn,hown,cs,wh,EW,j6⟩:=hsl R hr.1 hv uC dd fq
   rcases bF h with⟨hc,h⟩|⟨_,h⟩
   case inr=>
    obtain⟨_,h⟩:=uj h
    rcases bF h with⟨_,h⟩|⟨hc,h⟩
    ·exact h.elim
    ·simp at hc
   cases hga:xz R p dd with
   |none=>rw[hga]at h;exact h.elim
   |some R'=>
    rw[hga]at h
    unfold xz at hga
    cases hz:dz p R.k R.x (oQ dd)with
    |none=>rw[hz]at hga;simp at hga
    |some zz=>
     rw[hz]at hga
     simp only[au]at hga
     have hpv:p≠[]\/∃t,R.kind=.var t:=by
      simp only[bB,oD]at hc
      rcases hc.2 with h|h
      ·left;intro e;subst e;simp at h
      ·right
       unfold Root.isVar at h
       cases hk:R.kind with
       |var t=>exact⟨t,rfl⟩
       |anon=>rw[hk]at h;simp at h
       |par=>rw[hk]at h;simp at h
       |dead=>rw[hk]at h;simp at h
     rcases bF h with⟨_,h⟩|⟨hss,h⟩
     ·exact h.elim
     obtain⟨hne,_⟩:=za.1 hss
     have hne:s≠s2:=M0 hne
     obtain⟨hfr,h⟩:=qd h
     have h:(match Z.slots s2 with
      |.lit t c l=>_
      |_=>(.fail:Prog (List Wr))).ends Z ws:=h
     have hs2:=H.slots s2
     have hw2:=H.tJ s2
     cases hsl2:Z.slots s2 with
     |one _=>rw[hsl2]at h;exact h.elim
     |mO _=>rw[hsl2]at h;exact h.elim
     |lit t c l=>
      rw[hsl2]at h hs2 hw2
      rw[bE h]
      obtain⟨us,cs2,⟨ev,NR⟩,hl⟩:=hs2
      obtain⟨cs1,dm,bu,rest,g1,H1,T1,g4,g5,_⟩:=gap H hr hv fq hz dn hown hpv
      rw[EW]at g1
      simp only[au,bZ]at g1
      obtain⟨rfl,rfl⟩:=g1
      have hR':R'=kr R dd zz:=hga.symm
      subst hR'
      have hrl:aN s 1≠r:=λe=>by rw[e,hr.1]at hfr;simp at hfr
      have hn1:(aR Z r (kr R dd zz)).roots (aN s 1)=none:=by rw[jR Z _ hrl];exact hfr
      have hcl:dG (aR Z r (kr R dd zz)) (bC (dd.1.tys.filter λt=>ah t R.own) dd.1) R.tags=true:=by
       rw[O6 dd.1 (λ_ h=>h),g5]
       exact B_ hv.2 (λ_ h=>h) (O7 p fq hown)
      have hh:Held cx (aR Z r (kr R dd zz)) (aV J r (J.loc r) (J.hdr r) rest) (bu++F) w dd.1 dd.2 (dd.1.tys.filter λt=>ah t R.own) R.tags cs bu:=
       ⟨λhc=>vM (λt ht=>acd t ht) (g4.ow (by rw[O6 dd.1 (λ_ h=>h)]at hc;exact hc)),g4.wt,g4.sub,g4.nd,g4.len⟩
      let tk:fC:=⟨dd.1,dd.2,dd.1.tys.filter (λt=>ah t R.own),R.tags,[.r r (some (kr R dd zz))],R.keep⟩
      have hhw:gB (aR Z r (kr R dd zz)) tk.tags:=hh.wt
      obtain⟨H2,r3⟩:=Y4 (r:=aN s 1) (k:=tk.k) (x:=tk.x) (own:=tk.own) (tags:=tk.iQ) (F':=(bu++F).filter λb=>!ah b bu) H1 hn1 (qi s 1) hh.sub hh.nd (F6 (tk:=tk) hhw)
       (λb hb=>by
        obtain⟨q1,q2⟩:=eH.1 hb
        simp only[lI,gJ]at q2
        exact⟨q1,q2⟩) (H1.iw.filter _) hh.len
       (λaaJ=>by
        cases hb:tk.bad with
        |nil=>exact jU hb (hh.ow hcl)
        |cons t0 l=>
         have et:tk.iQ=tk.tags:=by
          unfold fC.iQ
          rw[hb]
         rw[et]at aaJ ⊢
         exact eO (λ_ _=>rfl) (λb h=>.inl h) (λ_ _=>rfl) (hh.ow aaJ)) j6 R.keep
      have H3:=H2.UM (s:=s) (x:=.one (.ref (aN s 1) 0)) ⟨_,fG ..,.inr (fQ _)⟩ r3
      have hs3:=H3.slots s2
      have hw3:=H3.tJ s2
      have hkeep:(uL (aR (aR Z r (kr R dd zz)) (aN s 1) (bP tk.k tk.x tk.own tk.iQ .anon R.keep)) (upd (aR (aR Z r (kr R dd zz)) (aN s 1) (bP tk.k tk.x tk.own tk.iQ .anon R.keep)).slots s (.one (.ref (aN s 1) 0)))).slots s2=.lit t c l:=by
       show upd Z.slots s _ s2=_
       rw[upd_ne _ _ (Ne.symm hne)]
       exact hsl2
      rw[hkeep]at hs3 hw3
      obtain⟨us',ZJ,⟨ev',aoC⟩,hl'⟩:=hs3
      have R4:ZJ=cs2:=by
       rw[ev]at ev'
       have:=congrArg Value.cells ev'
       simpa[Value.cells]using this.symm
      subst R4
      have eus:=ap5 NR aoC
      subst eus
      have hroot:(aR (aR Z r (kr R dd zz)) (aN s 1) (bP tk.k tk.x tk.own tk.iQ .anon R.keep)).roots r=some (kr R dd zz):=by
       rw[jR _ _ (Ne.symm hrl),fG]
      refine⟨_,_,H3.UM (s:=s2) (x:=.lit t c (l.map (Sk r p v tk.ws))) (λx hx=>?_) ⟨us,ZJ,⟨ev,NR⟩,abS (Sk r p v tk.ws) (λx u hx0 hx1=>?_) hl hl'⟩⟩
      ·obtain⟨y,hy,rfl⟩:=fP.1 hx
       have hy':=hw3 y hy
       show dV _ (freshen r p v (kr R dd zz).dY y)
       unfold freshen
       split
       ·rename_i q p' n
        cases hb:(Nat.beq r q&&Nat.beq n v&&J_ p p')with
        |false=>exact hy'
        |true=>
         simp only[bB]at hb
         rw[<-bD hb.1.1]
         exact⟨_,hroot,.inr (bV _)⟩
       ·exact hy'
      ·show a_ cx _ _ _ w (freshen r p v (kr R dd zz).dY x) u
       unfold freshen
       split
       ·rename_i q p' n
        cases hb:(Nat.beq r q&&Nat.beq n v&&J_ p p')with
        |false=>exact hx1
        |true=>
         simp only[bB]at hb
         have e1:=bD hb.1.1
         have e2:=bD hb.1.2
         subst e1
         subst e2
         obtain⟨i,j,rfl,rfl,hij⟩:=aqQ hb.2
         intro Q hQ oW hnQ d' hd'
         have hQ':Q=kr R dd zz:=by
          have hQ:(aR (aR Z r (kr R dd zz)) (aN s 1) (bP tk.k tk.x tk.own tk.iQ .anon R.keep)).roots r=some Q:=hQ
          rw[hroot]at hQ
          simpa using hQ.symm
         subst hQ'
         have hold:=hx0 R hr.1 hv uC
         obtain⟨Rk,Rx,Q3,Q4,Rw,Rh,Rg,QZ,YO,QY,QX,QW⟩:=R
         cases Rk with
         |st c0=>
          simp only[dz]at hz
          simp only[aB]at fq
          cases hci:aU i c0 Rx with
          |none=>rw[hci]at fq;simp at fq
          |some d0=>
           rw[hci]at hz fq
           simp only[au]at fq
           subst fq
           simp only at hz
           cases hcp:dP i c0 Rx (oQ d0)with
           |none=>rw[hcp]at hz;simp at hz
           |some z0=>
            rw[hcp]at hz
            simp only[au]at hz
            subst hz
            have hput:aU j z0.1 z0.2=aU j c0 Rx:=ZA i j (Ne.symm hij) hcp
            have hd2:aB [.aY j] (.st c0) Rx=some d':=by
             have hd3:aB [.aY j] (.st z0.1) z0.2=some d':=hd'
             simp only[aB]at hd3 ⊢
             rw[hput]at hd3
             exact hd3
            obtain⟨w1,w2,RS,VB,w3,w4⟩:=hold d' hd2
            have hcj:(aU j c0 Rx).isSome=true:=by
             cases hcj:aU j c0 Rx with
             |none=>simp only[aB]at hd2;rw[hcj]at hd2;simp at hd2
             |some _=>rfl
            refine⟨?_,?_,RS,VB,?_,w4⟩
            ·show bX [.aY j] (.st z0.1) z0.2
             simp only[bX]
             rw[hput]
             cases anV:aU j c0 Rx with
             |none=>rw[anV]at hcj;simp at hcj
             |some _=>trivial
            ·intro t' ht'
             have ht':t'∈az [.aY j] (.st z0.1):=ht'
             simp only[az]at ht'
             split at ht'<;>simp at ht'
            ·have e3:(aV (aV J r (J.loc r) (J.hdr r) rest) (aN s 1) (0,0) cs bu).hdr r=J.hdr r:=by simp[aV,upd_same,upd_ne _ _ (Ne.symm hrl)]
             rw[e3]
             have e4:aS (aV (aV J r (J.loc r) (J.hdr r) rest) (aN s 1) (0,0) cs bu) (kr { k:=.st c0,x:=Rx,own:=Q3,tags:=Q4,w:=Rw,h:=Rh,g:=Rg,kind:=QZ,fixed:=YO,keep:=QY,ew:=QX,eh:=QW } d0 ⟨.st z0.1,z0.2⟩) r=aS J { k:=.st c0,x:=Rx,own:=Q3,tags:=Q4,w:=Rw,h:=Rh,g:=Rg,kind:=QZ,fixed:=YO,keep:=QY,ew:=QX,eh:=QW } r:=by
              unfold aS kr
              simp[aV,upd_same,upd_ne _ _ (Ne.symm hrl)]
             rw[e4]
             have w3':aW (hp w) [.aY j] (.st c0) (J.hdr r) _=some (RS,VB):=w3
             show aW (hp w) [.aY j] (.st z0.1) (J.hdr r) _=some (RS,VB)
             simp only[aW]at w3' ⊢
             cases hoj:bR j c0 with
             |none=>rw[hoj]at w3';simp at w3'
             |some q=>
              rw[hoj]at w3'
              rw[ZC i j (Ne.symm hij) hci hcp (Cy d0.1) hoj]
              exact w3'
         |_=>simp[aB]at fq
       ·exact hx1
theorem asV{s2:Nat}:∀{l:List (Nat×Operand)} {ws:List Wr} {Z:St} {J:aO} {F:List Nat},Rel cx Z J F a w->(splits s2 l).ends Z ws->∃J' F',Rel cx (aL ws Z) J' F' a w:=by
 intro l
 induction l with
 |nil=>intro ws Z J F H h;rw[bE h];exact⟨J,F,H⟩
 |cons q l ih=>
  obtain⟨n,x⟩:=q
  intro ws Z J F H h
  cases x with
  |tmp s=>
   simp only[splits]at h
   have h:(match Z.slots s with
    |.one (.eP r _ _)=>_
    |_=>splits s2 l).ends Z ws:=h
   split at h
   ·have h:(match Z.slots s2 with
     |.lit _ _ m=>_
     |_=>(.fail:Prog (List Wr))).ends Z ws:=h
    split at h
    ·rcases bF h with⟨_,h⟩|⟨_,h⟩
     ·obtain⟨us,vs,h1,h2,rfl⟩:=U2 h
      obtain⟨aP,F1,H1⟩:=asU H h1
      rw[oM]
      exact ih H1 h2
     ·exact ih H h
    ·exact h.elim
   ·exact ih H h
  |_=>exact ih H h
theorem amU{A:Type}{z:A}{k:Nat->Prog A}:∀{l:List (Nat×Operand)},(EC l k).ends Z z->∃s,(k s).ends Z z:=by
 intro l
 induction l with
 |nil=>exact λh=>h.elim
 |cons q l ih=>
  obtain⟨n,x⟩:=q
  intro h
  cases x with
  |tmp s=>
   simp only[EC]at h
   have h:(match Z.slots s with
    |.lit _ _ _=>k s
    |_=>EC l k).ends Z z:=h
   split at h
   ·exact⟨s,h⟩
   ·exact ih h
  |_=>exact ih h
theorem al8(hT:fT P T)(H:Rel cx Z J F a w)(hd:o.dst=some d)(hdn:d<cx.nt){t:TypeId}{ps:Array (Nat×Operand)}
  (h:(aep T d t ps).ends Z ws) (ho:o.op=.build t ps):dQ P cx o a w (aL ws Z):=by
 obtain⟨s,h⟩:=amU h
 obtain⟨us,vs,h1,h2,rfl⟩:=U2 h
 obtain⟨us2,vs2,h3,h4,rfl⟩:=U2 h2
 obtain⟨aP,F1,H1⟩:=asV H h1
 obtain⟨jY,F2,H2⟩:=aqn hT H1 h3
 rw[oM,oM]
 exact ZQ hT H2 hd hdn h4 ho
end
end
section
open Go
variable [Fr]
section
variable {P:Program}{T:bL}{w:World}
structure Src(P:Program)(w:World)(size:Nat)(u:TypeId)(x:Value)(m:Nat)(news:List Value):Prop where
 und:(∃e',P.underlying u=some (.slice e'))\/P.underlying u=some .string
 len:∀w',(Builtin.lenOf x).run P w'=.ok m w'
 cells:(Builtin.firstCells size m x).run P w=.ok news.toArray w/\(Builtin.firstCells size m x).run P w.drew=.ok news.toArray w.drew
 nl:news.length=m*size
 one:∀v∈news,v.oneCell'=true
theorem Kr{size:Nat}{u:TypeId}{b:Option Addr}{m c:Nat}{news:List Value}(hu:(∃e',P.underlying u=some (.slice e'))\/P.underlying u=some .string)(hl:news.length=m*size)(h1:∀v∈news,v.oneCell'=true)
  (hc:0<m->∃bb q,b=some ⟨bb,q,none⟩/\Cells (hp w) bb q news):Src P w size u (.slice b m c) m news where
 und:=hu
 len:=λw'=>rfl
 cells:=by
  have key:∀w',hp w'=hp w->(Builtin.firstCells size m (.slice b m c)).run P w'=.ok news.toArray w':=by
   intro w' hw
   by_cases h0:0<m
   ·obtain⟨bb,q,rfl,hcs⟩:=hc h0
    exact CY (P:=P) w' size m ⟨bb,q,none⟩ m c news hl (λj v hj=>by
     rw[addr_add,zU,hw,hcs j (qB.1 hj).1]
     exact hj)
   ·have hm:m=0:=by omega
    subst hm
    have hn:news=[]:=tV (by simpa using hl)
    subst hn
    cases b with
    |none=>exact UY w' size 0 0 c
    |some ad=>exact CY (P:=P) w' size 0 ad 0 c [] (by simp) (λj v hj=>by simp at hj)
  exact⟨key w rfl,key w.drew rfl⟩
 nl:=hl
 one:=h1
theorem asW{u:TypeId}{B:ByteArray}(hu:(∃e',P.underlying u=some (.slice e'))\/P.underlying u=some .string):Src P w 1 u (.string B) B.size (B.data.toList.map λb=>.int .u8 b.toNat) where
 und:=hu
 len:=λw'=>rfl
 cells:=by
  have h:B.extract 0 B.size=B:=by
   apply ByteArray.ext
   simp
  constructor<;>(simp[Builtin.firstCells,h];apply vE;simp)
 nl:=by simp
 one:=by intro v hv;simp only[fP]at hv;obtain⟨b,_,rfl⟩:=hv;rfl
theorem OP{t u ty e:TypeId}{k:K}(ht:dO P T t (.sl e k)){b:Option Addr}{n c m:Nat}{x:Value}{news:List Value}(hs:Src P w k.size u x m news)(hr:n+m<=c) :
  (Builtin.append_ #[t,u] ty #[.slice b n c,x]).run P w=(match b with
   |some a=>(storeCells (a.add (n*k.size)) news).run P w
   |none=>.ok () w).andThen λ_ w'=>.ok (.slice b (n+m) c) w':=by
 obtain⟨hu,he,_,_⟩:=ht.sl
 have e1:=hs.len w
 have e2:=hs.cells.1
 rcases hs.und with⟨e',hd⟩|hd<;>cases b<;>simp[Builtin.append_,ig hu,he.info.sizeOf w,ig hd,e1,e2,hr,Result.andThen]
end
end
section
open Go
variable [Fr]
section
variable {P:Program}{T:bL}{w:World}
theorem UX{t u ty e:TypeId}{k:K}(ht:dO P T t (.sl e k)){b:Option Addr}{n c m:Nat}{x:Value}{news olds:List Value}(hs:Src P w k.size u x m news)
  (hold:(Builtin.firstCells k.size n (.slice b n c)).run P w.drew=.ok olds.toArray w.drew) (hr:¬n+m<=c) (hb:(n+m)*T.bytes e<=140737488355328) :
  ∃nc,n+m<=nc/\(Builtin.append_ #[t,u] ty #[.slice b n c,x]).run P w =
   .ok (.slice (some ⟨w.heap.size,0,none⟩) (n+m) nc) (w.drew.alloc (.cells (olds.toArray++news.toArray++Builtin.zeroCells (jB k).cells (nc-(n+m))) e)):=by
 obtain⟨hu,he,_,i,hi,hby,hpos⟩:=ht.sl
 obtain⟨i',hi',hs',hz'⟩:=he.info
 rw[hi]at hi'
 simp only[au]at hi'
 subst hi'
 have e1:=hs.len w
 have e2:=hs.cells.2
 have h2:¬(281474976710656<Builtin.nextslicecap (n+m) c*i.bytes):=by
  have:=growslice_fits (need:=n+m) (old:=c) (bytes:=i.bytes) (by omega) (by rw[hby];exact hb)
  omega
 have h3:i.bytes≠0:=by omega
 refine⟨grownCap w (n+m) c e,grownCap_ge w (n+m) c e,?_⟩
 rw[<-hs']at hold e2
 rcases hs.und with⟨e',hd⟩|hd
 ·simp[Builtin.append_,ig hu,ig hd,sizeOf,typeInfo,zeroValue,hi,hz',e1,hr,h2,h3,Question.forced,hold,e2,newRow,grownCap]
  congr 2
  apply vE
  simp[gD]
 ·simp[Builtin.append_,ig hu,ig hd,sizeOf,typeInfo,zeroValue,hi,hz',e1,hr,h2,h3,Question.forced,hold,e2,newRow,grownCap]
  congr 2
  apply vE
  simp[gD]
end
end
end Go.Proofs.YtplpeegfeajkkaaGreatDoor.Ow
