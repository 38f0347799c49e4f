/- A verified reading of translated code, part C of 7. No condition. -/
import Derived.Test.YtgppmpedglhhfaaGreatDoorOwB
import Derived.Laws.Strings
import Derived.Laws.BytesString
import Derived.Laws.IdiomStrings
import Derived.Laws.MakeOwn
import Derived.Laws.Tables
import Derived.Laws.AppendOwn
set_option linter.unusedSectionVars false
set_option linter.unusedVariables false
set_option linter.unusedSimpArgs false
namespace Go.Proofs.YtgppmpedglhhfaaGreatDoor.Ow
section
open Go
variable [Fr]
theorem beq_true{a b:K}{A:Type}{x y:Prog A}{Z:St}{z:A}(h:(bif a.beq b then x else y).ends Z z):(a=b/\x.ends Z z)\/(a.beq b=false/\y.ends Z z):=by
 cases hb:a.beq b with
 |true=>rw[hb]at h;exact .inl ⟨K.eq_of_beq hb,h⟩
 |false=>rw[hb]at h;exact .inr ⟨rfl,h⟩
section
variable {P:Program}{T:bF}{cx:Cx}{Z:St}{J:aF}{F:List Nat}{a:Act}{w:World}{o:Oper}{d:Nat}{ws:List Wr}
theorem structField{P:Program}{T:bF}:∀(n:Nat) {c:K} {fs:List Field} {tH off:Nat} {k:K},(iV P T c).2 fs tH->bI n c=some (off,k)->∃f,fs[n]?=some f/\f.offset=tH+off/\cK P T f.type k/\0<k.size:=by
 intro n
 induction n with
 |zero=>
  intro c fs tH off k h ho
  cases c with
  |pair a b=>
   simp only[bI,aa,bK]at ho
   obtain⟨rfl,rfl⟩:=ho
   cases fs with
   |nil=>exact h.elim
   |cons f fs=>exact⟨f,rfl,h.1,h.2.1,h.2.2.1⟩
  |_=>simp[bI]at ho
 |succ n ih=>
  intro c fs tH off k h ho
  cases c with
  |pair a b=>
   simp only[bI]at ho
   cases h2:bI n b with
   |none=>rw[h2]at ho;simp at ho
   |some q=>
    rw[h2]at ho
    simp only[aa,bK]at ho
    cases fs with
    |nil=>exact h.elim
    |cons f fs=>
     obtain⟨g,g1,g2,g3,g4⟩:=ih (off:=q.1) (k:=q.2) h.2.2.2 (by rw[h2])
     exact⟨g,by simpa using g1,by rw[g2,<-ho.1];omega,by rw[<-ho.2];exact g3,by rw[<-ho.2];exact g4⟩
  |_=>simp[bI]at ho
theorem cK.st{t:TypeId}{c:K}(h:cK P T t (.st c)):∃fs,P.underlying t=some (.struct fs)/\(iV P T c).2 fs.toList 0:=by
 unfold cK iV at h
 exact h.1
theorem Ke{cs:List Value}{off n:Nat}(h:off+n<=cs.length):((cs.drop off).take n).length=n:=by simp;omega
theorem Ml:∀(n:Nat) {c:K} {off:Nat} {k:K},bI n c=some (off,k)->off+k.size<=c.size:=by
 intro n
 induction n with
 |zero=>intro c off k h;cases c with
  |pair a b=>simp only[bI,aa,bK]at h;obtain⟨rfl,rfl⟩:=h;simp[K.size]
  |_=>simp[bI]at h
 |succ n ih=>intro c off k h;cases c with
  |pair a b=>
   simp only[bI]at h
   cases h2:bI n b with
   |none=>rw[h2]at h;simp at h
   |some q=>
    rw[h2]at h
    simp only[aa,bK]at h
    have:=ih (off:=q.1) (k:=q.2) (by rw[h2])
    simp only[K.size]
    rw[<-h.1,<-h.2]
    omega
  |_=>simp[bI]at h
theorem aod{t:TypeId}{k:K}(h:cK P T t k)(hk:0<k.size){cs:List Value}{off:Nat}(hl:off+k.size<=cs.length):∃u,(part t cs.toArray off).run P w=.ok u w/\((∀x,u≠.agg x)\/jL k=true->VC k u ((cs.drop off).take k.size)):=by
 unfold part
 simp only[dG,h.isAgg w,Result.andThen]
 cases hs:jL k with
 |true=>
  refine⟨.agg (cs.toArray.extract off (off+k.size)),by simp[h.info.sizeOf w,Result.andThen],λ_=>?_⟩
  cases k with
  |st c=>
   show Value.agg _=.agg _
   congr 1
   apply qV
   simp[List.extract_eq_take_drop]
  |_=>simp[jL]at hs
 |false=>
  have hlt:off<cs.length:=by omega
  refine⟨cs[off],by simp[hlt],λhu=>?_⟩
  have hu':∀x,cs[off]≠.agg x:=hu.resolve_right (by simp)
  have hk1:k.size=1:=by
   cases k with
   |st c=>simp[jL]at hs
   |pair a b=>exact(show False from h).elim
   |unit=>exact(show False from h).elim
   |gap n=>exact(show False from h).elim
   |_=>rfl
  have e:(cs.drop off).take k.size=[cs[off]]:=by
   rw[hk1,wM hlt]
   rfl
  rw[e]
  cases k with
  |st c=>simp[jL]at hs
  |_=>exact⟨rfl,hu'⟩
theorem ang{v:Value}(h:v.oneCell'=true):∀x,v≠.agg x:=by
 intro x e
 subst e
 simp[Value.oneCell']at h
theorem aob{t:TypeId}{c:K}(h:cK P T t (.st c)){cs:List Value}{n off:Nat}{k:K}(ho:bI n c=some (off,k))(hl:cs.length=c.size)(h1:∀v∈cs,v.oneCell'=true) :
  ∃u,(Instr.field t (.agg cs.toArray) n).run P w=.ok u w/\VC k u ((cs.drop off).take k.size):=by
 obtain⟨fs,hu,hf⟩:=h.st
 obtain⟨f,f1,f2,f3,f4⟩:=structField n hf ho
 have hle:=Ml n ho
 obtain⟨u,g1,g2⟩:=aod (w:=w) f3 f4 (cs:=cs) (off:=off) (by omega)
 have MS:fs[n]?=some f:=by rw[<-qW];exact f1
 refine⟨u,?_,g2 ?_⟩
 ·unfold Instr.field
  simp only[dG,gu hu,Result.andThen,MS,asAgg,dW]
  rw[show f.offset=off from by omega]
  exact g1
 ·cases hs:jL k with
  |true=>exact .inr rfl
  |false=>
   left
   unfold part at g1
   simp only[dG,f3.isAgg w,Result.andThen,hs]at g1
   have hlt:off<cs.length:=by omega
   simp[hlt]at g1
   rw[<-g1]
   exact ang (h1 _ (nM hlt))
theorem Dm{r:Nat}{R:Root}{p:List Stp}{v:Value}{dd:Dat}{cs:List Value}{wh:Option (Nat×Nat)}(hr:aU Z r R)(hg:aA p R.k R.x=some dd)(h1:bM p R.k R.x)(h2:∀t∈az p R.k,ah t R.own=true)
  (h3:aN (hp w) p R.k (J.hdr r) (aK J R r)=some (cs,wh)) (h4:VC dd.1 v cs):aR cx Z J F w (.dJ r p R.dF) v:=by
 intro R' hR' _ _ d' hd'
 rw[hr.1]at hR'
 simp only[aa]at hR'
 subst hR'
 rw[hg]at hd'
 simp only[aa]at hd'
 subst hd'
 exact⟨h1,h2,cs,wh,h3,h4⟩
theorem Rel.Vh(H:Rel cx Z J F a w){w':World}(hos:w'.os=w.os)(hout:w'.output=w.output)(hsz:w.heap.size<=w'.heap.size)(hold:∀b,b<w.heap.size->hp w' b=hp w b)(ht:w'.tape=w.tape):Rel cx Z J F a w':=by
 have hs:∀r,Same Z J Z J r:=λr=>⟨rfl,rfl,rfl,rfl⟩
 have hch:∀b,b<w.heap.size->hp w' b=hp w b:=hold
 have T:gL cx Z J F w Z J F w' (λ_=>[]) (λ_=>[]):=by
  refine⟨rfl,⟨hos,ht,hout⟩,hsz,λr R hr=>⟨R,hr,?_⟩,λr R' _ h=>absurd (hs r) h,λr R' h1 h2=>by rw[h1]at h2;simp at h2,λb hb hne=>absurd (hch b hb) hne,?_,H.gD,
   λr R' _ h=>absurd (hs r) h,λr R r' R' _ _ _ h=>absurd (hs r) h,?_,λr R R' h1 h2 _=>by rw[h1]at h2;simp only[aa]at h2;subst h2;exact⟨rfl,rfl⟩⟩
  ·cases hd:R.bV with
   |true=>exact .inl ⟨rfl,λhk=>by unfold Root.bV at hd;rw[hk]at hd;simp at hd⟩
   |false=>exact .inr ⟨rfl,rfl,rfl,bT _,rfl,rfl,λ_=>rfl,.inr ⟨rfl,rfl,hs r⟩⟩
  ·rintro b (⟨r,R,h1,h2,h3⟩|h)
   ·exact absurd ⟨R,h1,h2⟩ h3
   ·exact .inl h
  ·intro j pi b o n h1 h2 hne
   obtain⟨R,hR,hk,hl,_⟩:=H.jT j pi b o n h1 h2
   exact absurd (hch b ((H.roots _ R hR).mine b (by simp[blk,aK,hk,hl])).1) hne
 exact H.turn T (λr R _ h=>absurd (hs r) h) (λr R _ h=>absurd (hs r) h) (λr R _ h=>absurd (hs r) h)
theorem Mk:∀(n:Nat) {c:K},(az.jQ n c).isSome=true->∃off k,bI n c=some (off,k):=by
 intro n
 induction n with
 |zero=>intro c h;cases c with
  |pair a b=>exact⟨0,a,rfl⟩
  |_=>simp[az.jQ]at h
 |succ n ih=>intro c h;cases c with
  |pair a b=>obtain⟨off,k,h1⟩:=ih (c:=b) h;exact⟨a.size+off,k,by simp[bI,h1]⟩
  |_=>simp[az.jQ]at h
theorem Ur:∀(n:Nat) {c k:K},az.jQ n c=some k->∃off,bI n c=some (off,k):=by
 intro n
 induction n with
 |zero=>intro c k h;cases c with
  |pair a b=>simp only[az.jQ,aa]at h;subst h;exact⟨0,rfl⟩
  |_=>simp[az.jQ]at h
 |succ n ih=>intro c k h;cases c with
  |pair a b=>obtain⟨off,h1⟩:=ih (c:=b) h;exact⟨a.size+off,by simp[bI,h1]⟩
  |_=>simp[az.jQ]at h
theorem af5:∀(p:List Stp) {n:Nat} {k k1 k2:K} {off o2:Nat} {c:K},lu p k=some (off,k1)->k1=.st c->bI n c=some (o2,k2)->lu (p++[.aP n]) k=some (off+o2,k2):=by
 intro p
 induction p with
 |nil=>
  intro n k k1 k2 off o2 c h e h2
  simp only[lu,aa,bK]at h
  obtain⟨rfl,rfl⟩:=h
  subst e
  simp[lu,h2]
 |cons s p ih=>
  intro n k k1 k2 off o2 c h e h2
  cases s with
  |idx i=>simp[lu]at h
  |aP m=>
   cases k with
   |st c'=>
    simp only[lu,iR]at h ⊢
    cases hq:bI m c' with
    |none=>rw[hq]at h;simp at h
    |some q=>
     rw[hq]at h
     simp only at h ⊢
     cases hr:lu p q.2 with
     |none=>rw[hr]at h;simp at h
     |some r=>
      rw[hr]at h
      simp only[aa,bK]at h
      obtain⟨rfl,rfl⟩:=h
      rw[ih (off:=r.1) (k1:=r.2) (by rw[hr]) e h2]
      simp only[nO]
   |_=>simp[lu]at h
theorem al4:∀(p:List Stp) {k k1 k2:K} {off:Nat},BH p k=some k1->lu p k=some (off,k2)->k2=k1:=by
 intro p
 induction p with
 |nil=>
  intro k k1 k2 off h1 h2
  simp only[BH,aa]at h1
  simp only[lu,aa,bK]at h2
  rw[<-h1,h2.2]
 |cons s p ih=>
  intro k k1 k2 off h1 h2
  cases s with
  |idx i=>simp[lu]at h2
  |aP m=>
   cases k with
   |st c=>
    simp only[BH,lu]at h1 h2
    cases hk:az.jQ m c with
    |none=>rw[hk]at h1;simp at h1
    |some k0=>
     obtain⟨o,ho⟩:=Ur m hk
     rw[hk]at h1
     rw[ho]at h2
     simp only at h1 h2
     cases hr:lu p k0 with
     |none=>rw[hr]at h2;simp at h2
     |some r=>
      rw[hr]at h2
      simp only[aa,bK]at h2
      rw[<-h2.2]
      exact ih (off:=r.1) h1 (by rw[hr])
   |_=>simp[lu]at h2
theorem Vb{h:Heap}:∀(p:List Stp) {k k1:K} {x:El k} {cs:List Value} {d:Dat} {off:Nat},aA p k x=some d->lu p k=some (off,k1)->cs.length=k.size->
  k1=d.1/\off+k1.size<=cs.length/\aN h p k cs none=some ((cs.drop off).take k1.size,none)/\bM p k x/\az p k=[]:=by
 intro p
 induction p with
 |nil=>
  intro k k1 x cs d off hg ho hl
  simp only[aA,aa]at hg
  simp only[lu,aa,bK]at ho
  obtain⟨rfl,rfl⟩:=ho
  subst hg
  exact⟨rfl,by omega,by simp[aN,<-hl],trivial,by simp[az]⟩
 |cons s p ih=>
  intro k k1 x cs d off hg ho hl
  cases s with
  |idx i=>simp[lu]at ho
  |aP n=>
   cases k with
   |st c=>
    simp only[aA,lu]at hg ho
    cases hcg:aM n c x with
    |none=>rw[hcg]at hg;simp at hg
    |some s=>
     rw[hcg]at hg
     simp only at hg
     cases hq:bI n c with
     |none=>rw[hq]at ho;simp at ho
     |some q=>
      have hk2:q.2=s.1:=H9 n (c:=c) hcg hq
      rw[hq]at ho
      obtain⟨q1,q2⟩:=q
      simp only at hk2 ho
      subst hk2
      cases hr:lu p s.1 with
      |none=>rw[hr]at ho;simp at ho
      |some r=>
       rw[hr]at ho
       simp only[aa,bK]at ho
       obtain⟨rfl,rfl⟩:=ho
       have hle:=Ml n hq
       have hl':cs.length=c.size:=hl
       obtain⟨g1,g2,g3,g4,g5⟩:=ih (cs:=(cs.drop q1).take s.1.size) (off:=r.1) (k1:=r.2) hg (by rw[hr]) (Ke (by omega))
       rw[Ke (by omega)]at g2
       refine⟨g1,by omega,?_,by simp only[bM,hcg];exact g4,by simp[az,jK n hcg,g5]⟩
       simp only[aN]
       rw[hq]
       simp only[Option.map_none]
       rw[g3]
       simp only[List.drop_take,List.take_take,uZ,Nat.min_eq_left (show r.2.size<=s.1.size-r.1 by omega)]
   |_=>simp[aA]at hg
theorem aol(Z:St)(r:Nat)(A B:Root):aL (aL Z r A) r B=aL Z r B:=by
 unfold aL
 simp only[St.mk.injEq,true_and]
 funext n
 unfold upd
 cases Nat.beq n r<;>rfl
theorem Vd{h:Heap}:∀(p:List Stp) {k:K} {x:El k} {t d z:Dat},p.all Stp.jo=true->aA p k x=some d->bJ p k x t=some z->t.1.size=d.1.size->
  aA p z.1 z.2=some t/\bM p z.1 z.2/\az p z.1=[]/\∀cs wh,aN h p z.1 cs wh=aN h p k cs wh:=by
 intro p
 induction p with
 |nil=>
  intro k x t d z _ hg hz hs
  simp only[bJ,aa]at hz
  subst hz
  exact⟨rfl,trivial,by simp[az],λcs wh=>rfl⟩
 |cons s p ih=>
  intro k x t d z hp hg hz hs
  cases s with
  |idx i=>simp[Stp.jo]at hp
  |aP n=>
   have hp':p.all Stp.jo=true:=by simpa[Stp.jo]using hp
   cases k with
   |st c=>
    simp only[aA,bJ]at hg hz
    cases hcg:aM n c x with
    |none=>rw[hcg]at hg;simp at hg
    |some s=>
     rw[hcg]at hg hz
     simp only at hg hz
     cases hs':bJ p s.1 s.2 t with
     |none=>rw[hs']at hz;simp at hz
     |some u=>
      rw[hs']at hz
      simp only at hz
      cases hcp:dh n c x u with
      |none=>rw[hcp]at hz;simp at hz
      |some y=>
       rw[hcp]at hz
       simp only[aa]at hz
       subst hz
       obtain⟨i1,i2,i3,i4⟩:=ih hp' hg hs' hs
       have e1:aM n y.1 y.2=some u:=Dn n hcp
       have hsz:u.1.size=s.1.size:=Qv p hg hs hs'
       refine⟨by simp only[aA,e1];exact i1,by simp only[bM,e1];exact i2,by simp[az,jK n e1,i3],λcs wh=>?_⟩
       simp only[aN]
       cases ho:bI n c with
       |none=>
        exfalso
        obtain⟨off,h1⟩:=Ur n (jK n hcg)
        rw[ho]at h1;simp at h1
       |some q=>
        have hk2:q.2=s.1:=H9 n (c:=c) hcg ho
        obtain⟨q1,q2⟩:=q
        simp only at hk2
        subst hk2
        rw[Mm n ho hcp]
        simp only
        rw[hsz]
        exact i4 _ _
   |_=>simp[aA]at hg
theorem anH{R:Root}{r:Nat}{p:List Stp}{d:Dat}{tk:dS}{q:Root×Dat}(h:J6 R r p d tk=some q) :
  ∃zg own',bJ p R.k R.x (mO d)=some zg/\q=(ku R d zg own',(mO d))/\(∀t∈zg.1.tys,ah t own'=ah t R.own)/\p.all Stp.jo=true/\(p≠[]\/∃t,R.kind=.var t)/\∀n,(r,n)∉tk.tags:=by
 unfold J6 at h
 cases hc:(!d.1.flat&&p.all Stp.jo && !R.keep&&(!p.isEmpty||R.isVar)&&tk.tags.all (λt=>!Nat.beq t.1 r))with
 |false=>rw[hc]at h;simp at h
 |true=>
  rw[hc]at h
  simp only[fJ]at h
  simp only[bg]at hc
  obtain⟨⟨⟨⟨_,c1⟩,_⟩,c2⟩,c3⟩:=hc
  unfold uJ at h
  cases hz:bJ p R.k R.x (mO d)with
  |none=>rw[hz]at h;simp at h
  |some zg=>
   rw[hz]at h
   simp only at h
   cases hl:tk.own.filter (λt=>!ah t R.own&&ah t d.1.tys && !ah t zg.1.tys)with
   |nil=>rw[hl]at h;simp at h
   |cons a l=>
    rw[hl]at h
    simp only[aa]at h
    refine⟨zg,(a :: l)++R.own,rfl,h.symm,λt ht=>?_,c1,?_,λn hn=>?_⟩
    ·cases hm:ah t R.own with
     |true=>rw[fA]at hm ⊢;exact bD _ hm
     |false=>
      rw[gq]at hm ⊢
      intro h1
      rcases cZ.1 h1 with h1|h1
      ·rw[<-hl]at h1
       have:=(iU.1 h1).2
       simp only[bg,jU,gq]at this
       exact this.2 ht
      ·exact hm h1
    ·rcases nI .. |>.mp c2 with h1|h1
     ·left;intro e;rw[e]at h1;simp at h1
     ·right
      unfold Root.isVar at h1
      cases hk:R.kind with
      |var t=>exact⟨t,rfl⟩
      |anon=>rw[hk]at h1;simp at h1
      |par=>rw[hk]at h1;simp at h1
      |dead=>rw[hk]at h1;simp at h1
    ·have:=dX.1 c3 _ hn
     simp at this
theorem aaz{t:TypeId}{kk:K}{x:El kk}{Cn:List TypeId}{l_:List Tag}{cO:List Wr}{Kh:Bool}{cst:List Value}{A9:List Nat}{v:Value}{r:Nat}{R:Root}(ht:cK P T t kk)
  (H:Rel cx Z J F a w) (hr:aU Z r R) (hv:cz Z R) {p:List Stp} {dd:Dat} (hg:aA p R.k R.x=some dd) (b_:bM p R.k R.x) (hown:∀t∈az p R.k,ah t R.own=true)
  (k2:cu Z (aZ Cn kk) l_=true) (k3:VC kk v cst) (k1:Held cx Z J F w kk x Cn l_ cst A9)
  {cs1:List Value} {b o:Nat} (hn:aN (hp w) p R.k (J.hdr r) (aK J R r)=some (cs1,some (b,o))) {A:Type} {z:A} {k:List Wr->Prog A} {jH:St} (h:(storeAt kk r p ⟨kk,x,Cn,l_,cO,Kh⟩ R dd k).ends jH z) :
  ∃w',(Instr.storeAt t (.pointer (some ⟨b,o,none⟩)) v).run P w=.ok () w'/\∃J' F',∃R',Rel cx (aL Z r R') J' F' a w'/\(k (cO++[.r r (some R')])).ends jH z:=by
 unfold storeAt at h
 rcases bz h with⟨hc3,h⟩|⟨_,h⟩
 ·simp only[bg]at hc3
  simp only[dS.bad]at hc3 h
  cases hz:bJ p R.k R.x ⟨kk,x⟩with
  |none=>rw[hz]at h;exact h.elim
  |some z=>
   rw[hz]at h
   simp only at h
   rcases bz h with⟨_,h⟩|⟨_,h⟩
   ·exact h.elim
   ·obtain⟨w',r1,J',F',r2⟩:=aoy (P:=P) (z:=z) ht H hr hv hg hz b_ hown k1 k2 k3
     (by
      rcases nI .. |>.mp hc3.1.1 with h|h
      ·exact .inl (K.eq_of_beq h)
      ·exact .inr (K.eq_of_beq (bg .. |>.mp h).1))
     (by
      rcases nI .. |>.mp hc3.1.2 with h|h
      ·exact .inl h
      ·exact .inr h)
     (λt ht=>by
      have:=dX.1 hc3.2 t ht
      simpa[gq]using this) (R.keep||Kh) hn
    exact⟨w',r1,J',F',_,r2,h⟩
 ·exact h.elim
theorem afm(hT:eG P T)(H:Rel cx Z J F a w)(hd:o.dst=none){t:TypeId}{x y:Operand}(ho:o.op=.store t x y){u v:AV}(h1:aR cx Z J F w u (a.eval x))(h2:dB Z u)(h3:aR cx Z J F w v (a.eval y))(h4:dB Z v)
  (h:(QF T t u v λws=>(.ret ws:Prog (List Wr))).ends Z ws):dn P cx o a w (aB ws Z):=by
 unfold QF at h
 cases hty:T.ty t with
 |none=>rw[hty]at h;exact h.elim
 |some kk=>
  rw[hty]at h
  cases u with
  |ptr r p n=>
   simp only at h
   have ht:=hT.ty t kk hty
   obtain⟨tk,htk,h⟩:=xS H h3 h4 h
   rcases bz h with⟨hc1,h⟩|⟨_,h⟩
   ·simp only[bg]at hc1
    obtain⟨R,hr,hv,h⟩:=gJ h
    rcases bz h with⟨hc2,h⟩|⟨_,h⟩
    ·simp only[bg]at hc2
     cases hg:aA p R.k R.x with
     |none=>rw[hg]at h;exact h.elim
     |some dd=>
      rw[hg]at h
      simp only at h
      have hkk:tk.k=kk:=K.eq_of_beq hc1.1
      have Bq:=aoU hc1.2
      have hown:=mQ hc2.1.2
      obtain⟨b_,cs,b,q,hn,e⟩:=h1.2 R hr.1 hv hc2.1.1 hown (by rw[hg];rfl)
      have hap:=HV.1 hc2.2
      obtain⟨aV,F1,cst,A9,lw,lh,H1,T1,k1,k2,k3,k4,k5,k6⟩:=take1 H htk
      have hS:=k6 r Bq
      have hr1:=(hS.live R).2 hr
      have hv1:cz (aB tk.ws Z) R:=⟨hv.1,by rw[qc (λt ht=>(k6 t.1 (hap t ht)).root)];exact hv.2⟩
      have hn1:aN (hp w) p R.k (aV.hdr r) (aK aV R r)=some (cs,some (b,q)):=by rw[hS.hdr,hS.wh];exact hn
      obtain⟨tkk,tkx,Cn,l_,cO,Kh⟩:=tk
      simp only at hkk
      subst hkk
      simp only[dS.bad]at k2 k3 h
      cases hrg:J6 R r p dd ⟨tkk,tkx,Cn,l_,cO,Kh⟩with
      |none=>
       rw[hrg]at h
       obtain⟨w',r1,J',F',r2⟩:=aaz (P:=P) ht H1 hr1 hv1 hg b_ hown k3 k1 k2 hn1 h
       obtain⟨R',r2,r3⟩:=r2
       rw[bu r3]
       refine⟨undef,w',J',F',.inr ⟨?_,rfl⟩,?_⟩
       ·simp only[execOp,ho,e,dG,r1,eZ,dW]
       ·rw[hd,mF]
        exact r2
      |some qq=>
       rw[hrg]at h
       simp only at h
       obtain⟨hck,h⟩:=qG h
       obtain⟨zg,own',g1,g2,g3,g4,g5,g6⟩:=anH hrg
       subst g2
       simp only at hck h
       have hnt:=(H1.fu r R hr1.1).2.2
       obtain⟨cs1,bZ,aS,rest,hn',H2,T2,_,_,hpm⟩:=Ve (own':=own') H1 hr1 hv1 hg g1 b_ hown g5 g3
       rw[hn1]at hn'
       simp only[aa,bK]at hn'
       obtain⟨rfl,rfl⟩:=hn'
       have hr2:aU (aL (aB cO Z) r (ku R dd zg own')) r (ku R dd zg own'):=⟨fF ..,hr.2⟩
       have hv2:cz (aL (aB cO Z) r (ku R dd zg own')) (ku R dd zg own'):=⟨hv.1,by
        show cu _ _ R.tags=true
        rw[uD hnt,qc (λt ht=>(k6 t.1 (hap t ht)).root)]
        exact hck⟩
       have k1':=k2.turn H1 T2 (λb hb=>⟨rfl,bD _ (k2.sub b hb)⟩)
       have k2':cu (aL (aB cO Z) r (ku R dd zg own')) (aZ Cn tkk) l_=true:=by rw[uD g6];exact k3
       obtain⟨f1,f2,f3,f4⟩:=Vd (h:=hp w) p g4 hg g1 (zq dd.1)
       have hsd:(aW aV r (aV.loc r) (aV.hdr r) rest).hdr r=aV.hdr r:=by simp[aW,upd_same]
       have ahY:aK (aW aV r (aV.loc r) (aV.hdr r) rest) (ku R dd zg own') r=aK aV R r:=by rw[t_,Ct (show(ku R dd zg own').kind=R.kind from rfl),<-x8]
       have hn2:aN (hp w) p (ku R dd zg own').k ((aW aV r (aV.loc r) (aV.hdr r) rest).hdr r) (aK (aW aV r (aV.loc r) (aV.hdr r) rest) (ku R dd zg own') r)=some (cs,some (b,q)):=by
        rw[hsd,ahY]
        exact(f4 _ _).trans hn1
       obtain⟨w',r1,J',F',r2⟩:=aaz (P:=P) ht H2 hr2 hv2 f1 f2 (λt ht=>by have ht':t∈az p zg.1:=ht;rw[f3]at ht';simp at ht') k2' k1 k1' hn2 h
       obtain⟨R',r2,r3⟩:=r2
       rw[bu r3]
       refine⟨undef,w',J',F',.inr ⟨?_,rfl⟩,?_⟩
       ·simp only[execOp,ho,e,dG,r1,eZ,dW]
       ·rw[hd,mF]
        rw[aol]at r2
        exact r2
    ·exact h.elim
   ·exact h.elim
  |_=>exact h.elim
theorem aeu{A:Type}{z:A}{x:AV}{kk:K}{yes:Nat->Nat->Prog A}{no:Prog A}(h:(Ia x kk yes no).ends Z z):(∃r g R,x=.ref r g/\aU Z r R/\cz Z R/\R.g=g/\R.k=kk/\(yes r g).ends Z z)\/no.ends Z z:=by
 cases x with
 |ref r g=>
  simp only[Ia,Prog.ends]at h
  cases hr:Z.roots r with
  |none=>rw[hr]at h;exact .inr h
  |some R=>
   rw[hr]at h
   simp only at h
   rcases bz h with⟨_,h⟩|⟨_,h⟩
   ·obtain⟨R',hr',hv,h⟩:=gJ h
    rcases bz h with⟨hc,h⟩|⟨_,h⟩
    ·simp only[bg]at hc
     exact .inl ⟨r,g,R',rfl,hr',hv,a_ hc.1,K.eq_of_beq hc.2,h⟩
    ·exact h.elim
   ·exact .inr h
 |_=>exact .inr h
theorem aeS(H:Rel cx Z J F a w)(hd:o.dst=some d)(hdn:d<cx.nt){t:TypeId}{x:Operand}(ho:o.op=.box t x)
  (h:(match T.ty t with
   |some kk=>dP x λa=>Ia a kk (λr g=>.ret [Wr.s d (.one (.ko r g kk []))]) <| qp kk a λtk=>bif tk.k.beq kk && !ah t tk.bad then
     jD (aG d 0) (.ret (tk.ws++[Wr.r (aG d 0) (some (bL tk.k tk.x tk.own tk.gV (.var t) tk.keep)),Wr.s d (.one (.ptr (aG d 0) [] 0))]))
    else(.fail:Prog (List Wr))
   |none=>.fail).ends Z ws):dn P cx o a w (aB ws Z):=by
 split at h
 ·rename_i kk hty
  obtain⟨u,h1,h2,h⟩:=iW H h
  rcases aeu h with⟨r,g,R,eu,hr,hv,eg,ek,h5⟩|h
  ·subst eu eg ek
   obtain⟨hka,jm⟩:=h1 R hr rfl
   have hb0:∀b,b<w.heap.size->hp (w.alloc (.cells (a.eval x).cells t)) b=hp w b:=λb hb=>zw w _ hb
   have H1:Rel cx Z J F a (w.alloc (.cells (a.eval x).cells t)):=H.Vh rfl rfl (by show w.heap.size<=(w.heap.push _).size;simp) hb0 rfl
   have hnew:=Bo w (.cells (a.eval x).cells t)
   rw[bu h5]
   refine nk (v:=.pointer (some ⟨w.heap.size,0,none⟩)) (x:=.one (.ko r R.g R.k [])) H1 hd hdn (by simp only[execOp,ho,dG,aac,eZ,dW]) ⟨a.eval x,w.heap.size,0,R.k,rfl,⟨?_,λhF=>?_,λq Q hq hbq=>?_⟩,λi hi=>?_,rfl,h1⟩ h2
   ·show w.heap.size<(w.heap.push _).size;simp
   ·have:=(H.fl _ hF).1;omega
   ·have:=((H.roots q Q hq).mine _ hbq).1;omega
   ·unfold cellAt
    rw[hnew]
    simp
  obtain⟨tk,htk,h⟩:=xS H h1 h2 h
  rcases bz h with⟨_,h⟩|⟨_,h⟩
  ·obtain⟨g1,g2⟩:=nS h
   rw[bu g2]
   obtain⟨aV,F1,cst,A9,lw,lh,H1,T1,k1,k2,k3,k4,k5,k6⟩:=take1 H htk
   have hnr:aG d 0∉tk.ws.flatMap Wr.dR:=by
    intro hm
    cases htk with
    |held hws cs hv h hc=>rw[hws]at hm;simp at hm
    |ref r R hr hv e hk hd=>rw[e]at hm;simp only[kK,Ah,jJ,Wr.dR,gW]at hm;rw[hm,hr.1]at g1;simp at g1
    |cut r R cs hr hv hk e hd hl qO how=>rw[e.2.2.1]at hm;simp only[kK,Ah,jJ,Wr.dR,gW]at hm;rw[hm,hr.1]at g1;simp at g1
    |gap r R p dd z hr hv hg hz b_ hown hpv e hn=>rw[e]at hm;simp only[kK,Ah,jJ,Wr.dR,gW]at hm;rw[hm,hr.1]at g1;simp at g1
   have hn1:(aB tk.ws Z).roots (aG d 0)=none:=by rw[(k6 _ hnr).root];exact g1
   obtain⟨r1,J',F',r2,r3⟩:=Ug (P:=P) (t:=t) H1 hn1 (nX d 0) k2 k3 k1 tk.keep
   rw[mF]
   exact nk (x:=.one (.ptr (aG d 0) [] 0)) r2 hd hdn (by simp only[execOp,ho,dG,r1,eZ,dW]) r3 ⟨_,fF ..,.inr (dY _)⟩
  ·exact h.elim
 ·exact h.elim
theorem YS{B:Type}{z:B}(hT:eG P T)(H:Rel cx Z J F a w){t:TypeId}{x:Operand}{v:AV}{dJ:Bool}(ho:o.op=.load t x)(h1:aR cx Z J F w v (a.eval x))(h2:dB Z v){k:AV->Prog B}
  (h:(vY T dJ t v k).ends Z z):∃u v',(execOp a.eval o).run P w=.ok (.value v') w/\aR cx Z J F w u v'/\dB Z u/\(k u).ends Z z:=by
 unfold vY at h
 split at h
 ·exact h.elim
 ·rename_i kk hty
  have ht:=hT.ty t kk hty
  obtain⟨s1,s2,s3⟩:=ht.shape
  split at h
  ·rename_i r g k0 p
   obtain⟨u,b,off,k1,e,hq,hC,ho1,hR⟩:=h1
   obtain⟨R,hr,hv,h⟩:=gJ h
   rcases bz h with⟨hc,h⟩|⟨_,h⟩
   ·simp only[bg]at hc
    cases hg:aA p R.k R.x with
    |none=>rw[hg]at h;exact h.elim
    |some dd=>
     rw[hg]at h
     simp only at h
     obtain⟨dk,dx⟩:=dd
     rcases beq_true h with⟨ek,h5⟩|⟨_,h⟩
     ·simp only at ek
      subst ek
      have hk0:=K.eq_of_beq hc.1.2
      subst hk0
      obtain⟨hka,jm⟩:=hR R hr (a_ hc.1.1)
      rw[jm.cells]at hC
      have hwn:aK J R r=none:=by unfold aK;rw[hka]
      obtain⟨g1,g2,g3,g4,g5⟩:=Vb (h:=hp w) p hg ho1 (H.roots r R hr).len
      simp only at g1
      subst g1
      have hown:∀t∈az p R.k,ah t R.own=true:=λt ht=>by rw[g5]at ht;simp at ht
      have hn:aN (hp w) p R.k (J.hdr r) (aK J R r)=some (((J.hdr r).drop off).take k1.size,none):=by rw[hwn];exact g3
      obtain⟨aS,hO,hf⟩:=tT H hr hv hg g4 hown hn
      have hV:=tL H hr hO hf
      have hcs:Cells (hp w) b off (((J.hdr r).drop off).take k1.size):=by
       intro i hi
       have hi':i<k1.size:=by rw[Ke g2]at hi;exact hi
       have:=hC (off+i) (by omega)
       rw[jN]at this
       rw[this,CZ hi',yD]
      obtain⟨u',hu⟩:=VC.mk s1 s2 s3 hV
      have hrun:=Ce (P:=P) ht hcs (lQ hV) hu
      have hrun':(execOp a.eval o).run P w=.ok (.value u') w:=by simp only[execOp,ho,e,dG,hrun,eZ,dW]
      rcases bz h5 with⟨hf,h6⟩|⟨_,h6⟩
      ·exact⟨.val k1 dx [],u',hrun',λ_=>⟨_,hu,kL hf hV⟩,λt ht=>by simp at ht,h6⟩
      ·exact⟨.dJ r p R.dF,u',hrun',Dm (cx:=cx) (F:=F) hr hg g4 hown hn hu,⟨R,hr.1,.inr (bT _)⟩,h6⟩
     ·exact h.elim
   ·exact h.elim
  rcases Ht H h1 h2 h with⟨r,R,p,dd,cs,b,q,hr,hv,hg,b_,hown,hn,e,h⟩|⟨bt,dd,Tg,b,q,cs,hw,e,hcs,hV,hok,hb,h⟩
  ·obtain⟨hC,⟨aS,hO,hf⟩,_⟩:=tQ H hr hv hg b_ hown hn
   obtain⟨dk,dx⟩:=dd
   rcases beq_true h with⟨ek,h5⟩|⟨_,h⟩
   ·simp only at ek
    subst ek
    clear h
    have h:=h5
    clear h5
    have hV:=tL H hr hO hf
    obtain⟨u,hu⟩:=VC.mk s1 s2 s3 hV
    have hrun:=Ce (P:=P) ht hC (lQ hV) hu
    have hrun':(execOp a.eval o).run P w=.ok (.value u) w:=by simp only[execOp,ho,e,dG,hrun,eZ,dW]
    rcases bz h with⟨_,h⟩|⟨_,h⟩
    ·exact⟨.dJ r p R.dF,u,hrun',Dm (cx:=cx) (F:=F) hr hg b_ hown hn hu,⟨R,hr.1,.inr (bT _)⟩,h⟩
    ·exact⟨.val dk dx _,u,hrun',λ_=>⟨cs,hu,hV⟩,BR H hr _,h⟩
   ·exact h.elim
  ·obtain⟨dk,dx⟩:=dd
   rcases beq_true h with⟨ek,h5⟩|⟨_,h⟩
   ·simp only at ek
    subst ek
    clear h
    have h:=h5
    clear h5
    obtain⟨u,hu⟩:=VC.mk s1 s2 s3 hV
    have hrun:=Ce (P:=P) ht hcs (lQ hV) hu
    have hrun':(execOp a.eval o).run P w=.ok (.value u) w:=by simp only[execOp,ho,e,dG,hrun,eZ,dW]
    refine⟨.val dk dx _,u,hrun',λ_=>⟨cs,hu,?_⟩,?_,h⟩
    ·cases hf:dk.flat with
     |true=>exact kL hf hV
     |false=>exact hV
    ·cases hf:dk.flat with
     |true=>intro t ht;simp at ht
     |false=>exact hw
   ·exact h.elim
theorem ae7(hT:eG P T)(H:Rel cx Z J F a w)(hd:o.dst=some d)(hdn:d<cx.nt){t:TypeId}{x:Operand}{dJ:Bool}(ho:o.op=.load t x)
  (h:(dP x λv=>vY T dJ t v λu=>(.ret [Wr.s d (.one u)]:Prog (List Wr))).ends Z ws):dn P cx o a w (aB ws Z):=by
 obtain⟨v,h1,h2,h⟩:=iW H h
 obtain⟨u,v',g1,g2,g3,h⟩:=YS hT H ho h1 h2 h
 rw[bu h]
 exact eP H hd hdn g1 g2 g3
theorem ae8(hT:eG P T)(H:Rel cx Z J F a w)(hd:o.dst=some d)(hdn:d<cx.nt){t:TypeId}{x:Operand}(ho:o.op=.load t x)
  (h:(dP x λv=>vY T true t v λu=>match T.ty t with
   |some kk=>qp kk u λtk=>jD (aG d 0) (.ret (tk.ws++[Wr.r (aG d 0) (some (bL tk.k tk.x tk.own tk.gV .anon tk.keep)),Wr.s d (.one (.ref (aG d 0) 0))]))
   |none=>(.fail:Prog (List Wr))).ends Z ws):dn P cx o a w (aB ws Z):=by
 obtain⟨v,h1,h2,h⟩:=iW H h
 obtain⟨u,v',hrun,g4,g5,h⟩:=YS hT H ho h1 h2 h
 split at h
 ·rename_i kk hty
  obtain⟨tk,htk,h⟩:=xS H g4 g5 h
  obtain⟨g1,g2⟩:=nS h
  rw[bu g2]
  obtain⟨aV,F1,cst,A9,lw,lh,H1,T1,k1,k2,k3,k4,k5,k6⟩:=take1 H htk
  have hnr:aG d 0∉tk.ws.flatMap Wr.dR:=by
   intro hm
   cases htk with
   |held hws cs hv h hc=>rw[hws]at hm;simp at hm
   |ref r R hr hv e hk hd=>rw[e]at hm;simp only[kK,Ah,jJ,Wr.dR,gW]at hm;rw[hm,hr.1]at g1;simp at g1
   |cut r R cs hr hv hk e hd hl qO how=>rw[e.2.2.1]at hm;simp only[kK,Ah,jJ,Wr.dR,gW]at hm;rw[hm,hr.1]at g1;simp at g1
   |gap r R p dd z hr hv hg hz b_ hown hpv e hn=>rw[e]at hm;simp only[kK,Ah,jJ,Wr.dR,gW]at hm;rw[hm,hr.1]at g1;simp at g1
  have hn1:(aB tk.ws Z).roots (aG d 0)=none:=by rw[(k6 _ hnr).root];exact g1
  obtain⟨J',r2,r3⟩:=Aw (F':=F1.filter λb=>!ah b A9) H1 hn1 (nX d 0) k2.sub k2.nd (Ck k2.wt)
   (λb hb=>by
    obtain⟨q1,q2⟩:=iU.1 hb
    simp only[jU,gq]at q2
    exact⟨q1,q2⟩) (H1.gD.filter _) k2.len
   (λhcl=>by
    cases hb:tk.bad with
    |nil=>exact lq hb (k2.ow k3)
    |cons t0 l=>
     have et:tk.gV=tk.tags:=by
      unfold dS.gV
      rw[hb]
     rw[et]at hcl ⊢
     exact dK (λ_ _=>rfl) (λb h=>.inl h) (λ_ _=>rfl) (k2.ow hcl)) k1 tk.keep
  rw[mF]
  exact nk (x:=.one (.ref (aG d 0) 0)) r2 hd hdn hrun r3 ⟨_,fF ..,.inr (dY _)⟩
 ·exact h.elim
end
end
section
open Go
variable [Fr]
theorem TG{h:Heap}{ok:Nat->Prop}:∀(n:Nat) {c:K} {x:El c} {cs:List Value} {d:Dat},Vw h ok c x cs->aM n c x=some d->∃off,bI n c=some (off,d.1)/\Vw h ok d.1 d.2 ((cs.drop off).take d.1.size):=by
 intro n
 induction n with
 |zero=>
  intro c x cs d H hg
  cases c with
  |pair a b=>
   simp only[aM,aa]at hg
   subst hg
   obtain⟨c1,c2,rfl,h1,h2⟩:=H
   refine⟨0,rfl,?_⟩
   have:=lQ h1
   simpa[<-this]using h1
  |_=>simp[aM]at hg
 |succ n ih=>
  intro c x cs d H hg
  cases c with
  |pair a b=>
   simp only[aM]at hg
   obtain⟨c1,c2,rfl,h1,h2⟩:=H
   obtain⟨off,g1,g2⟩:=ih h2 hg
   refine⟨a.size+off,by simp[bI,g1],?_⟩
   have:=lQ h1
   rw[<-this,<-uZ]
   simpa using g2
  |_=>simp[aM]at hg
theorem Vf:∀(p:List Stp) {q:List Stp} {k:K} {x:El k} {d:Dat},aA p k x=some d->aA (p++q) k x=aA q d.1 d.2:=by
 intro p
 induction p with
 |nil=>intro q k x d h;simp only[aA,aa]at h;subst h;rfl
 |cons s p ih=>
  intro q k x d h
  cases s with
  |aP n=>
   cases k with
   |st c=>
    simp only[aA,iR]at h ⊢
    cases hg:aM n c x with
    |none=>rw[hg]at h;simp at h
    |some s=>rw[hg]at h;exact ih h
   |_=>simp[aA]at h
  |idx i=>
   cases k with
   |sl e k=>simp only[aA,iR]at h ⊢;exact ih h
   |_=>simp[aA]at h
theorem G7:∀(p:List Stp) {q:List Stp} {k:K} {x:El k} {d:Dat},aA p k x=some d->bM p k x->bM q d.1 d.2->bM (p++q) k x:=by
 intro p
 induction p with
 |nil=>intro q k x d h _ h2;simp only[aA,aa]at h;subst h;exact h2
 |cons s p ih=>
  intro q k x d h h1 h2
  cases s with
  |aP n=>
   cases k with
   |st c=>
    simp only[aA,bM,iR]at h h1 ⊢
    cases hg:aM n c x with
    |none=>rw[hg]at h;simp at h
    |some s=>rw[hg]at h h1;exact ih h h1 h2
   |_=>simp[aA]at h
  |idx i=>
   cases k with
   |sl e k=>simp only[aA,bM,iR]at h h1 ⊢;exact⟨h1.1,h1.2.1,ih h h1.2.2 h2⟩
   |_=>simp[aA]at h
theorem adA:∀(p:List Stp) {q:List Stp} {k:K} {x:El k} {d:Dat},aA p k x=some d->bM (p++q) k x->bM q d.1 d.2:=by
 intro p
 induction p with
 |nil=>intro q k x d h h2;simp only[aA,aa]at h;subst h;exact h2
 |cons s p ih=>
  intro q k x d h h2
  cases s with
  |aP n=>
   cases k with
   |st c=>
    simp only[aA,bM,iR]at h h2
    cases hg:aM n c x with
    |none=>rw[hg]at h;simp at h
    |some s=>rw[hg]at h h2;exact ih h h2
   |_=>simp[aA]at h
  |idx i=>
   cases k with
   |sl e k=>simp only[aA,bM,iR]at h h2;exact ih h h2.2.2
   |_=>simp[aA]at h
theorem Zw:∀(p:List Stp) {q:List Stp} {k:K} {x:El k} {d:Dat},aA p k x=some d->az (p++q) k=az p k++az q d.1:=by
 intro p
 induction p with
 |nil=>intro q k x d h;simp only[aA,aa]at h;subst h;rfl
 |cons s p ih=>
  intro q k x d h
  cases s with
  |aP n=>
   cases k with
   |st c=>
    simp only[aA,az,iR]at h ⊢
    cases hg:aM n c x with
    |none=>rw[hg]at h;simp at h
    |some s=>rw[hg]at h;rw[jK n hg];exact ih h
   |_=>simp[aA]at h
  |idx i=>
   cases k with
   |sl e k=>simp only[aA,az,iR]at h ⊢;rw[ih h]
   |_=>simp[aA]at h
theorem Fb{h:Heap}:∀(p:List Stp) {q:List Stp} {k:K} {x:El k} {d:Dat} {cs:List Value} {wh:Option (Nat×Nat)} {c1:List Value} {w1:Option (Nat×Nat)},aA p k x=some d->aN h p k cs wh=some (c1,w1)->aN h (p++q) k cs wh=aN h q d.1 c1 w1:=by
 intro p
 induction p with
 |nil=>
  intro q k x d cs wh c1 w1 h h1
  simp only[aA,aa]at h
  subst h
  simp only[aN,aa,bK]at h1
  obtain⟨rfl,rfl⟩:=h1
  rfl
 |cons s p ih=>
  intro q k x d cs wh c1 w1 h h1
  cases s with
  |aP n=>
   cases k with
   |st c=>
    simp only[aA,aN,iR]at h h1 ⊢
    cases hg:aM n c x with
    |none=>rw[hg]at h;simp at h
    |some s=>
     rw[hg]at h
     cases ho:bI n c with
     |none=>rw[ho]at h1;simp at h1
     |some q2=>
      rw[ho]at h1
      have hk:=H9 n (c:=c) hg ho
      obtain⟨o2,k2⟩:=q2
      simp only at hk
      subst hk
      exact ih h h1
   |_=>simp[aA]at h
  |idx i=>
   cases k with
   |sl e k=>
    simp only[aA,iR]at h
    simp only[aN,iR]at h1 ⊢
    split at h1
    ·exact ih h h1
    ·simp at h1
   |_=>simp[aA]at h
theorem L6{a b:K}(h:a.beq b=true):a.size=b.size:=by rw[K.eq_of_beq h]
theorem amy:∀{a b:K},a.like b=true->a.size=b.size:=by
 intro a
 induction a with
 |gap n=>intro b h;simp only[K.like]at h;exact a_ h
 |pair a b iha ihb=>
  intro c h
  cases c with
  |pair c d=>simp only[K.like,bg]at h;simp[K.size,iha h.1,ihb h.2]
  |_=>exact L6 (by simpa[K.like]using h)
 |st f ih=>
  intro b h
  cases b with
  |st g=>simp only[K.like]at h;exact ih (b:=g) h
  |_=>exact L6 (by simpa[K.like]using h)
 |_=>intro b h;exact L6 (by simpa[K.like]using h)
theorem amx:∀(n:Nat) {a b:K} {off:Nat} {k:K},a.like b=true->bI n a=some (off,k)->∃k',bI n b=some (off,k'):=by
 intro n
 induction n with
 |zero=>
  intro a b off k h ho
  cases a with
  |pair a1 a2=>
   simp only[bI,aa,bK]at ho
   cases b with
   |pair b1 b2=>exact⟨b1,by simp[bI,ho.1]⟩
   |_=>simp[K.like,K.beq]at h
  |_=>simp[bI]at ho
 |succ n ih=>
  intro a b off k h ho
  cases a with
  |pair a1 a2=>
   simp only[bI]at ho
   cases h2:bI n a2 with
   |none=>rw[h2]at ho;simp at ho
   |some q=>
    rw[h2]at ho
    simp only[aa,bK]at ho
    cases b with
    |pair b1 b2=>
     simp only[K.like,bg]at h
     obtain⟨k',h3⟩:=ih (off:=q.1) (k:=q.2) h.2 (by rw[h2])
     exact⟨k',by simp[bI,h3,<-ho.1,amy h.1]⟩
    |_=>simp[K.like,K.beq]at h
  |_=>simp[bI]at ho
section
variable {P:Program}{T:bF}{cx:Cx}{Z:St}{J:aF}{F:List Nat}{a:Act}{w:World}{o:Oper}{d:Nat}{ws:List Wr}
theorem aoc{t:TypeId}{c:K}(h:cK P T t (.st c)){n off:Nat}{k:K}(ho:bI n c=some (off,k))(b q:Nat) :
  (Instr.fieldAt t (.pointer (some ⟨b,q,none⟩)) n).run P w=.ok (.pointer (some ⟨b,q+off,none⟩)) w:=by
 obtain⟨fs,hu,hf⟩:=h.st
 obtain⟨f,f1,f2,f3,f4⟩:=structField n hf ho
 have MS:fs[n]?=some f:=by rw[<-qW];exact f1
 unfold Instr.fieldAt Instr.sureAddr fieldPlace
 simp only[dG,gu hu,Result.andThen,MS,dW,f3.info.sizeOf w,Sem.run_ite]
 rw[aj (by omega),addr_add]
 simp[show f.offset=off from by omega]
theorem ae1(hT:eG P T)(H:Rel cx Z J F a w)(hd:o.dst=some d)(hdn:d<cx.nt){t:TypeId}{x:Operand}{n:Nat}(ho:o.op=.field t x n)
  (h:(match T.ty t with
   |some kk=>dP x λa=>DC kk a n λu=>.ret [Wr.s d (.one u)]
   |none=>(.fail:Prog (List Wr))).ends Z ws):dn P cx o a w (aB ws Z):=by
 split at h
 case h_2=>exact h.elim
 rename_i kk hty
 have ht:=hT.ty t kk hty
 obtain⟨v,h1,h2,h⟩:=iW H h
 have Bu:∀{c:K} {cs:List Value} {off:Nat} {k:K},kk=.st c->a.eval x=.agg cs.toArray->bI n c=some (off,k)->cs.length=c.size->(∀v∈cs,v.oneCell'=true)->
   ∃u,(execOp a.eval o).run P w=.ok (.value u) w/\VC k u ((cs.drop off).take k.size):=by
  intro c cs off k ek ev hoff hl h1
  subst ek
  obtain⟨u,g1,g2⟩:=aob (w:=w) ht hoff hl h1
  exact⟨u,by simp only[execOp,ho,ev,dG,g1,eZ,dW],g2⟩
 have key:∀{r:Nat} {R:Root} {p:List Stp} {d0 dd:Dat} {cs:List Value} {wh:Option (Nat×Nat)},aU Z r R->cz Z R->aA p R.k R.x=some d0->d0.1=kk->aA (p++[.aP n]) R.k R.x=some dd->bM p R.k R.x->(∀t∈az p R.k,ah t R.own=true)->
   aN (hp w) p R.k (J.hdr r) (aK J R r)=some (cs,wh)->VC d0.1 (a.eval x) cs->
   ∃u,(execOp a.eval o).run P w=.ok (.value u) w/\aR cx Z J F w (.dJ r (p++[.aP n]) R.dF) u/\(dd.1.flat=true->aR cx Z J F w (.val dd.1 dd.2 []) u):=by
  intro r R p d0 dd cs wh hr hv hg0 e0 hg b_ hown hn jm
  obtain⟨k0,x0⟩:=d0
  simp only at e0
  subst e0
  have hg1:=Vf p (q:=[.aP n]) hg0
  rw[hg]at hg1
  have hpt:=Zw p (q:=[.aP n]) hg0
  cases k0 with
  |st c=>
   simp only[aA]at hg1
   cases hcg:aM n c x0 with
   |none=>rw[hcg]at hg1;simp at hg1
   |some s=>
    rw[hcg]at hg1
    simp only[aA,aa]at hg1
    subst hg1
    obtain⟨aS,hO,hf⟩:=tT H hr hv hg0 b_ hown hn
    obtain⟨off,pre,cs1,post,xq,fr,ho1,ec,hl,hp,hd2,_⟩:=H8 n (show Ow _ _ _ c x0 cs aS from hO) hcg
    have hsub:(cs.drop off).take s.1.size=cs1:=by rw[ec];exact FR hl (eO hd2)
    obtain⟨u,r1,r2⟩:=Bu rfl jm ho1 (eO (k:=c) hO) (G6 ht.fq hO)
    rw[hsub]at r2
    refine⟨u,r1,Dm (cs:=cs1) (wh:=wh.map λq=>(q.1,q.2+off)) hr hg ?_ ?_ ?_ r2,λhfl=>λ_=>⟨cs1,r2,kL hfl (oC (λ_=>True) (λ_ _=>trivial) (λ_ _=>trivial) hd2)⟩⟩
    ·exact G7 p hg0 b_ (by simp only[bM,hcg])
    ·rw[hpt]
     intro t ht
     rcases cZ.1 ht with h|h
     ·exact hown t h
     ·simp[az,jK n hcg]at h
    ·rw[Fb p hg0 hn]
     simp only[aN]
     rw[ho1]
     simp only
     rw[hsub]
  |_=>simp[aA]at hg1
 cases v with
 |val k0 y Tg=>
  cases k0 with
  |st c=>
   simp only[DC]at h
   rcases bz h with⟨hc,h⟩|⟨_,h⟩
   ·have ek:=K.eq_of_beq hc
    cases hg:aM n c y with
    |none=>rw[hg]at h;exact h.elim
    |some dd=>
     rw[hg]at h
     obtain⟨g1,g2⟩:=qG h
     rw[bu g2]
     obtain⟨cs,hv,hV⟩:=h1 (.inr g1)
     obtain⟨off,ho1,ho2⟩:=TG n (show Vw _ _ c y cs from hV) hg
     obtain⟨u,r1,r2⟩:=Bu ek.symm hv ho1 (lQ (k:=c) hV) (Ho (k:=.st c) (by rw[ek];exact ht.fq) hV)
     refine eP H hd hdn r1 (show aR cx Z J F w (.val dd.1 dd.2 _) u from λ_=>⟨_,r2,?_⟩) ?_
     ·cases hf:dd.1.flat with
      |true=>exact kL hf ho2
      |false=>exact ho2
     ·cases hf:dd.1.flat with
      |true=>intro t ht;simp at ht
      |false=>exact h2
   ·exact h.elim
  |_=>exact h.elim
 |ref r g=>
  simp only[DC]at h
  obtain⟨R,hr,hv,h⟩:=gJ h
  rcases bz h with⟨hc,h5⟩|⟨_,h⟩
  ·simp only[bg]at hc
   obtain⟨hka,jm⟩:=h1 R hr (a_ hc.1)
   have ek:=K.eq_of_beq hc.2
   cases hg:aA [.aP n] R.k R.x with
   |none=>rw[hg]at h5;exact h5.elim
   |some dd=>
    rw[hg]at h5
    simp only at h5
    obtain⟨u,r1,r2,r3⟩:=key (p:=[]) (d0:=⟨R.k,R.x⟩) hr hv rfl ek hg trivial (λt ht=>by simp[az]at ht) rfl jm
    rcases bz h5 with⟨hf,h6⟩|⟨_,h6⟩
    ·rw[bu h6]
     exact eP H hd hdn r1 (r3 hf) (λt ht=>by simp at ht)
    ·rw[bu h6]
     exact eP (x:=.one (.dJ r [.aP n] R.dF)) H hd hdn r1 r2 ⟨R,hr.1,.inr (bT _)⟩
  ·exact h.elim
 |dJ r p nn=>
  simp only[DC]at h
  obtain⟨R,hr,hv,h⟩:=gJ h
  rcases bz h with⟨hc,h5⟩|⟨_,h⟩
  ·cases hg0:aA p R.k R.x with
   |none=>rw[hg0]at h5;exact h5.elim
   |some d0=>
    cases hg:aA (p++[.aP n]) R.k R.x with
    |none=>rw[hg0,hg]at h5;exact h5.elim
    |some dd=>
     rw[hg0,hg]at h5
     simp only at h5
     rcases bz h5 with⟨_,h6⟩|⟨hk,h6⟩
     ·exact h6.elim
     ·have ek:d0.1=kk:=K.eq_of_beq (by simpa using hk)
      obtain⟨g1,g2,cs,wh,g3,g4⟩:=h1 R hr.1 hv (a_ hc) d0 hg0
      obtain⟨u,r1,r2,r3⟩:=key hr hv hg0 ek hg g1 g2 g3 g4
      rcases bz h6 with⟨hf,h7⟩|⟨_,h7⟩
      ·rw[bu h7]
       exact eP H hd hdn r1 (r3 hf) (λt ht=>by simp at ht)
      ·rw[bu h7]
       exact eP (x:=.one (.dJ r (p++[.aP n]) R.dF)) H hd hdn r1 (show iL cx Z J F w (.one (.dJ r (p++[.aP n]) R.dF)) u from r2) ⟨R,hr.1,.inr (bT _)⟩
  ·exact h.elim
 |_=>exact h.elim
theorem ae2(hT:eG P T)(H:Rel cx Z J F a w)(hd:o.dst=some d)(hdn:d<cx.nt){t:TypeId}{x:Operand}{n:Nat}(ho:o.op=.fieldAddr t x n)
  (h:(match T.ty t with
   |some kk=>dP x λa=>Dz kk a n λu=>.ret [Wr.s d (.one u)]
   |none=>(.fail:Prog (List Wr))).ends Z ws):dn P cx o a w (aB ws Z):=by
 split at h
 case h_2=>exact h.elim
 rename_i kk hty
 have ht:=hT.ty t kk hty
 obtain⟨v,h1,h2,h⟩:=iW H h
 have hrun:∀{c:K} {off:Nat} {k:K} {b q:Nat},kk=.st c->bI n c=some (off,k)->a.eval x=.pointer (some ⟨b,q,none⟩)->(execOp a.eval o).run P w=.ok (.value (.pointer (some ⟨b,q+off,none⟩))) w:=by
  intro c off k b q ek hoff ev
  subst ek
  have:=aoc (w:=w) ht hoff b q
  simp only[execOp,ho,ev,dG,this,eZ,dW]
 cases v with
 |ptr r p m=>
  simp only[Dz,Prog.ends]at h
  cases hr0:Z.roots r with
  |none=>rw[hr0]at h;exact h.elim
  |some R=>
   rw[hr0]at h
   simp only at h
   cases hg:aA p R.k R.x with
   |none=>rw[hg]at h;exact h.elim
   |some d0=>
    rw[hg]at h
    simp only at h
    rcases bz h with⟨hc,h5⟩|⟨_,h5⟩
    ·simp only[bg]at hc
     rw[bu h5]
     unfold Iu at hc
     cases kk with
     |st c=>
      obtain⟨off,kf,hoff⟩:=Mk n hc.2
      obtain⟨⟨b,q,ev⟩,h1'⟩:=h1
      refine eP (x:=.one (.ptr r (p++[.aP n]) m)) H hd hdn (hrun rfl hoff ev) ⟨⟨b,q+off,rfl⟩,?_⟩ h2
      intro R' hR' hv hcl hown hs
      rw[hr0]at hR'
      simp only[aa]at hR'
      subst hR'
      have hpt:=Zw p (q:=[.aP n]) hg
      have e0:az [.aP n] d0.1=[]:=by
       obtain⟨dk,dx⟩:=d0
       cases dk with
       |st c'=>
        simp only[az]
        cases az.jQ n c'<;>rfl
       |_=>rfl
      rw[e0,jJ]at hpt
      have hcl':clean R.h m (iD p R.k)=true:=by
       unfold clean at hcl ⊢
       rw[dX]at hcl ⊢
       intro t ht
       have:=hcl t ht
       simp only[jU,gq]at this ⊢
       intro h6
       refine this ?_
       have e1:iD (p++[.aP n]) R.k=iZ :: az (p++[.aP n]) R.k:=by cases p<;>rfl
       rw[e1,hpt]
       cases p with
       |nil=>simp[iD]at h6
       |cons s p=>exact h6
      rw[hpt]at hown
      obtain⟨g1,cs,b',q',g2,g3⟩:=h1' R hr0 hv hcl' hown (by rw[hg];rfl)
      rw[ev]at g3
      simp only[Value.pointer.injEq,aa,oP,dZ]at g3
      obtain⟨rfl,rfl⟩:=g3
      have hga:=Vf p (q:=[.aP n]) hg
      rw[hga]at hs
      obtain⟨dk,dx⟩:=d0
      cases dk with
      |st c'=>
       simp only[aA]at hs
       cases hcg:aM n c' dx with
       |none=>rw[hcg]at hs;simp at hs
       |some s=>
        have hck:(az.jQ n c').isSome=true:=by rw[jK n hcg];rfl
        obtain⟨off',kf',V6⟩:=Mk n hck
        have hl:c'.like c=true:=hc.1
        obtain⟨kf2,ND⟩:=amx n hl V6
        rw[hoff]at ND
        simp only[aa,bK]at ND
        refine⟨G7 p hg g1 (by simp only[bM,hcg]),(cs.drop off').take kf'.size,b,q+off,?_,rfl⟩
        rw[Fb p hg g2]
        simp only[aN]
        rw[V6]
        simp[ND.1]
      |_=>simp[aA]at hs
     |_=>simp at hc
    ·exact h5.elim
 |eY bt k0 y Tg=>
  cases k0 with
  |st c=>
   simp only[Dz]at h
   rcases bz h with⟨hc,h5⟩|⟨_,h5⟩
   ·have ek:=K.eq_of_beq hc
    cases hg:aM n c y with
    |none=>rw[hg]at h5;exact h5.elim
    |some dd=>
     rw[hg]at h5
     obtain⟨g1,g2⟩:=qG h5
     rw[bu g2]
     obtain⟨b,q,cs,e,hcs,hV,hok,hb⟩:=h1.2 g1
     obtain⟨off,ho1,ho2⟩:=TG n (show Vw _ _ c y cs from hV) hg
     have hle:=Ml n ho1
     have hlen:=lQ (k:=c) hV
     refine eP (x:=.one (.eY bt dd.1 dd.2 Tg)) H hd hdn (hrun ek.symm ho1 e) ⟨⟨b,q+off,rfl⟩,λ_=>⟨b,q+off,_,rfl,?_,ho2,hok,hb⟩⟩ h2
     intro i hi
     simp only[uq,GU]at hi
     rw[nO,hcs (off+i) (by omega)]
     rw[CZ (by omega),yD]
   ·exact h5.elim
  |_=>exact h.elim
 |ko r g k0 p=>
  simp only[Dz]at h
  cases hk:BH p k0 with
  |none=>rw[hk]at h;exact h.elim
  |some k1=>
   rw[hk]at h
   simp only at h
   rcases bz h with⟨hc,h5⟩|⟨_,h5⟩
   ·simp only[bg]at hc
    rw[bu h5]
    have ek:=K.eq_of_beq hc.1
    subst ek
    obtain⟨u,b,off,k2,e,hq,hC,ho1,hR⟩:=h1
    have e2:=al4 p hk ho1
    subst e2
    unfold Iu at hc
    cases k2 with
    |st c=>
     obtain⟨o2,kf,hoff⟩:=Mk n hc.2
     exact eP (x:=.one (.ko r g k0 (p++[.aP n]))) H hd hdn (hrun rfl hoff e) ⟨u,b,off+o2,kf,rfl,hq,hC,af5 p ho1 rfl hoff,hR⟩ h2
    |_=>simp at hc
   ·exact h5.elim
 |_=>exact h.elim
theorem run_indexAt{t e:TypeId}{k:K}(h:cK P T t (.sl e k)){ik:IntKind}{i:Int}{b q n c:Nat}(h0:0<=i)(h1:i<(n:Int)) :
  (Instr.indexAt t (.slice (some ⟨b,q,none⟩) n c) (.int ik i)).run P w=.ok (.pointer (some ⟨b,q+i.toNat*k.size,none⟩)) w:=by
 obtain⟨hu,he,_,_⟩:=h.sl
 unfold Instr.indexAt
 simp[asIntOf,gu hu,Result.andThen,h0,h1,he.info.sizeOf w,addr_add]
end
end
section
open Go
variable [Fr]
section
variable {P:Program}{T:bF}{cx:Cx}{Z:St}{J:aF}{F:List Nat}{a:Act}{w:World}{o:Oper}{d:Nat}{ws:List Wr}
theorem zQ{e:TypeId}{k:K}{v:Value}{cs:List Value}{h:Heap}{ok:Nat->Prop}{xs:List (El k)}(hv:VC (.sl e k) v cs)(hV:Vw h ok (.sl e k) xs cs) :
  ∃b n c,v=.slice b n c/\cs=[.slice b n c]/\n=xs.length/\n<=c/\(0<n->∃bb q,b=some ⟨bb,q,none⟩/\ok bb/\kr h bb e/\∀(i:Nat) (hi:i<xs.length),∃ds,Cells h bb (q+i*k.size) ds/\Vw h ok k xs[i] ds):=by
 obtain⟨b,n,c,e1,e2,e3,e4⟩:=hV
 obtain⟨e5,_⟩:cs=[v]/\_:=hv
 rw[e1]at e5
 simp only[gQ,dZ]at e5
 exact⟨b,n,c,e5.symm,e1,e2,e3,e4⟩
theorem ae4(hT:eG P T)(H:Rel cx Z J F a w)(hd:o.dst=some d)(hdn:d<cx.nt){t:TypeId}{x y:Operand}(ho:o.op=.indexAddr t x y)
  (h:(match T.ty t with
   |some kk=>dP x λa=>dP y λi=>asInt i λ_ i=>Eh kk a i λu=>.ret [Wr.s d (.one u)]
   |none=>(.fail:Prog (List Wr))).ends Z ws):dn P cx o a w (aB ws Z):=by
 split at h
 case h_2=>exact h.elim
 rename_i k0 hty
 have ht:=hT.ty t k0 hty
 obtain⟨v,h1,h2,h⟩:=iW H h
 obtain⟨vi,h3,_,h⟩:=iW H h
 obtain⟨ik,i,ei,_,h⟩:=Dl h3 h
 have hrun:∀{e:TypeId} {k:K} {b q n c:Nat},k0=.sl e k->a.eval x=.slice (some ⟨b,q,none⟩) n c->0<=i->i<(n:Int)->(execOp a.eval o).run P w=.ok (.value (.pointer (some ⟨b,q+i.toNat*k.size,none⟩))) w:=by
  intro e k b q n c ek ev g0 g1
  subst ek
  have:=run_indexAt (w:=w) (ik:=ik) (b:=b) (q:=q) (c:=c) ht g0 g1
  simp only[execOp,ho,ev,ei,dG,this,eZ,dW]
 have key:∀{r:Nat} {R:Root} {p:List Stp} {e:TypeId} {kk:K} {xs:List (El kk)} {cs:List Value} {wh:Option (Nat×Nat)},aU Z r R->cz Z R->aA p R.k R.x=some ⟨.sl e kk,xs⟩->K.sl e kk=k0->bM p R.k R.x->(∀t∈az p R.k,ah t R.own=true)->
   aN (hp w) p R.k (J.hdr r) (aK J R r)=some (cs,wh)->VC (.sl e kk) (a.eval x) cs->aX i xs.length->
   ∃u,(execOp a.eval o).run P w=.ok (.value u) w/\aR cx Z J F w (.ptr r (p++[.idx i]) (dz R.h)) u/\aR cx Z J F w (.eY e kk (xs.getD i.toNat kk.zero) (R.out r (.sl e kk))) u:=by
  intro r R p e kk xs cs wh hr hv hg ek b_ hown hn jm hin
  obtain⟨aS,hO,hf⟩:=tT H hr hv hg b_ hown hn
  have hV:=tL H hr hO hf
  obtain⟨b,n,c,g1,g2,g3,g4,g5⟩:=zQ jm hV
  have i0:(0:Int)<=i:=hin.1
  have i1:i<(xs.length:Int):=hin.2
  have hlt:i.toNat<xs.length:=by omega
  obtain⟨bb,q,rfl,hok,hel,hes⟩:=g5 (by rw[g3];exact Nat.lt_of_le_of_lt (dY _) hlt)
  obtain⟨ds,hc,Nb⟩:=hes i.toNat hlt
  refine⟨_,hrun ek.symm g1 i0 (by rw[g3];exact i1),⟨⟨bb,q+i.toNat*kk.size,rfl⟩,?_⟩,⟨⟨bb,q+i.toNat*kk.size,rfl⟩,λ_=>⟨bb,_,ds,rfl,hc,?_,hok.q,.inr ⟨hel,hok.2.2.1⟩⟩⟩⟩
  ·intro R' hR' _ _ _ _
   rw[hr.1]at hR'
   simp only[aa]at hR'
   subst hR'
   refine⟨G7 p hg b_ ⟨i0,i1,trivial⟩,gZ (hp w) bb (q+i.toNat*kk.size) kk.size,bb,q+i.toNat*kk.size,?_,rfl⟩
   rw[Fb p hg hn,g2]
   rfl
  ·rw[mM hlt]
   exact Nb
 cases v with
 |val k1 y Tg=>
  cases k1 with
  |sl e kk=>
   simp only[Eh]at h
   rcases bz h with⟨hc,h5⟩|⟨_,h5⟩
   ·have ek:=K.eq_of_beq hc
    obtain⟨g1,g2⟩:=qG h5
    obtain⟨hin,g3⟩:=g2
    rw[bu g3]
    obtain⟨cs,jm,hV⟩:=h1 (.inr g1)
    obtain⟨b,n,c,f1,f2,f3,f4,f5⟩:=zQ jm hV
    obtain⟨i0,i1⟩:=hin
    have hlt:i.toNat < @List.length (El kk) y:=by
     have Wy:i<((@List.length (El kk) y:Nat):Int):=i1
     omega
    obtain⟨bb,q,rfl,hok,hel,hes⟩:=f5 (by omega)
    obtain⟨ds,hcs,Nb⟩:=hes i.toNat hlt
    refine eP (x:=.one (.eY e kk _ Tg)) H hd hdn (hrun ek.symm f1 i0 (by rw[f3];exact i1)) ⟨⟨bb,_,rfl⟩,λ_=>⟨bb,_,ds,rfl,hcs,?_,hok.q,.inr ⟨hel,hok.2.2.1⟩⟩⟩ h2
    have eg:(show List (El kk)from y).getD i.toNat kk.zero=(show List (El kk)from y)[i.toNat]'hlt:=mM hlt
    rw[eg]
    exact Nb
   ·exact h5.elim
  |_=>exact h.elim
 |ref r g=>
  simp only[Eh]at h
  obtain⟨R,hr,hv,h⟩:=gJ h
  rcases bz h with⟨hc,h5⟩|⟨_,h5⟩
  ·obtain⟨hka,jm⟩:=h1 R hr (a_ hc)
   have hg:aA [] R.k R.x=some ⟨R.k,R.x⟩:=rfl
   have hK:∀(q:Dat),aA [] R.k R.x=some q->∀hh:(match q.1,q.2 with
     |.sl e kk,xs=>bif ah e R.own&&(K.sl e kk).beq k0 then Prog.dO (aX i (show List (El kk)from xs).length) inferInstance ((.ret [Wr.s d (.one (.ptr r [.idx i] (dz R.h)))]):Prog (List Wr))else Prog.fail
     |_,_=>Prog.fail).ends Z ws,VC q.1 (a.eval x) (J.hdr r)->dn P cx o a w (aB ws Z):=by
    intro q hq hh jm
    obtain⟨qk,qx⟩:=q
    cases qk with
    |sl e kk=>
     simp only at hh
     rcases bz hh with⟨hc2,h6⟩|⟨_,h6⟩
     ·simp only[bg]at hc2
      obtain⟨hin,h7⟩:=h6
      rw[bu h7]
      obtain⟨u,r1,r2,_⟩:=key (p:=[]) hr hv hq (K.eq_of_beq hc2.2) trivial (λt ht=>by simp[az]at ht) rfl jm hin
      exact eP (x:=.one (.ptr r [.idx i] (dz R.h))) H hd hdn r1 r2 ⟨R,hr.1,.inr (bT _)⟩
     ·exact h6.elim
    |_=>exact hh.elim
   exact hK ⟨R.k,R.x⟩ hg h5 jm
  ·exact h5.elim
 |dJ r p nn=>
  simp only[Eh]at h
  obtain⟨R,hr,hv,h⟩:=gJ h
  rcases bz h with⟨hc,h5⟩|⟨_,h5⟩
  ·cases hg0:aA p R.k R.x with
   |none=>rw[hg0]at h5;exact h5.elim
   |some d0=>
    rw[hg0]at h5
    obtain⟨g1,g2,cs,wh,g3,g4⟩:=h1 R hr.1 hv (a_ hc) d0 hg0
    obtain⟨dk,dx⟩:=d0
    cases dk with
    |sl e kk=>
     simp only at h5
     rcases bz h5 with⟨_,h6⟩|⟨hk,h6⟩
     ·exact h6.elim
     ·have ek:K.sl e kk=k0:=K.eq_of_beq (by simpa using hk)
      rcases bz h6 with⟨_,h7⟩|⟨_,h7⟩
      ·obtain⟨hin,h8⟩:=h7
       rw[bu h8]
       obtain⟨u,r1,r2,_⟩:=key hr hv hg0 ek g1 g2 g3 g4 hin
       exact eP (x:=.one (.ptr r (p++[.idx i]) (dz R.h))) H hd hdn r1 (show iL cx Z J F w (.one (.ptr r (p++[.idx i]) (dz R.h))) u from r2) ⟨R,hr.1,.inr (bT _)⟩
      ·obtain⟨hin,h8⟩:=h7
       rw[bu h8]
       obtain⟨u,r1,_,r3⟩:=key hr hv hg0 ek g1 g2 g3 g4 hin
       exact eP H hd hdn r1 (show iL cx Z J F w (.one (.eY e kk _ (R.out r (.sl e kk)))) u from r3) (BR H hr _)
    |_=>exact h5.elim
  ·exact h5.elim
 |_=>exact h.elim
theorem aeb(B:ByteArray){n:Nat}(h:n<B.size):(bytesOf B).getD n 0=(B[n].toNat:Int):=by
 unfold bytesOf
 have:n<(B.data.toList.map λb=>(b.toNat:Int)).length:=by simpa using h
 rw[mM this]
 simp
 rfl
theorem qF(B:ByteArray):(bytesOf B).length=B.size:=by simp[bytesOf]
theorem ae3(hT:eG P T)(H:Rel cx Z J F a w)(hd:o.dst=some d)(hdn:d<cx.nt){t:TypeId}{x y:Operand}(ho:o.op=.index t x y)
  (h:(dP x λa=>dP y λi=>asInt i λ_ i=>match T.ty t,a with
   |some .str,.val .str s _=>.dO (aX i (show List Int from s).length) inferInstance (.ret [Wr.s d (.one (.val (.int .u8) ((show List Int from s).getD i.toNat 0) []))])
   |_,_=>(.fail:Prog (List Wr))).ends Z ws):dn P cx o a w (aB ws Z):=by
 obtain⟨v,h1,h2,h⟩:=iW H h
 obtain⟨vi,h3,_,h⟩:=iW H h
 obtain⟨ik,i,ei,_,h⟩:=Dl h3 h
 cases hty:T.ty t with
 |none=>rw[hty]at h;exact h.elim
 |some k0=>
  rw[hty]at h
  cases k0 with
  |str=>
   cases v with
   |val k1 s Tg=>
    cases k1 with
    |str=>
     simp only at h
     obtain⟨⟨i0,i1⟩,h4⟩:=h
     rw[bu h4]
     obtain⟨B,e1,e2⟩:=xW h1
     subst e2
     have hu:P.underlying t=some .string:=by
      have:=hT.ty t .str hty
      unfold cK iV at this
      exact this.1
     have hlt:i.toNat<B.size:=by
      have Wy:i<((bytesOf B).length:Int):=i1
      rw[qF]at Wy
      omega
     refine eP (v:=.int .u8 (B[i.toNat].toNat:Int)) H hd hdn ?_ ?_ (λt ht=>by simp at ht)
     ·simp only[execOp,ho,e1,ei,Instr.index,asIntOf,dG,dW,eZ,gu hu]
      rw[ak i0]
      simp[hlt]
     ·have eg:(show List Int from bytesOf B).getD i.toNat 0=(B[i.toNat].toNat:Int):=aeb B hlt
      rw[eg]
      refine P7 ⟨by omega,?_⟩
      have:=B[i.toNat].toNat_lt
      omega
    |_=>exact h.elim
   |_=>exact h.elim
  |_=>cases v<;>exact h.elim
theorem amA{l:List AV}{vs:List Value}(h:gU cx Z J F w l vs){i:Nat}{x:AV}(hi:l[i]?=some x):∃v,vs[i]?=some v/\aR cx Z J F w x v:=by
 induction l generalizing vs i with
 |nil=>simp at hi
 |cons b l ih=>
  cases vs with
  |nil=>exact h.elim
  |cons u vs=>
   cases i with
   |zero=>simp only[qC,aa]at hi;subst hi;exact⟨u,rfl,h.1⟩
   |succ i=>simp only[Ti]at hi;obtain⟨v,h1,h2⟩:=ih h.2 hi;exact⟨v,by simpa using h1,h2⟩
theorem ae0(H:Rel cx Z J F a w)(hd:o.dst=some d)(hdn:d<cx.nt){x:Operand}{i:Nat}(ho:o.op=.extract x i)
  (h:(rz x fun
   |.mg l=>match l[i]? with
    |some u=>.ret [Wr.s d (.one u)]
    |none=>.fail
   |_=>(.fail:Prog (List Wr))).ends Z ws):dn P cx o a w (aB ws Z):=by
 obtain⟨v,h1,h2,h⟩:=AX H h
 cases v with
 |one u=>exact h.elim
 |lit _ _ _=>exact h.elim
 |mg l=>
  simp only at h
  cases hi:l[i]? with
  |none=>rw[hi]at h;exact h.elim
  |some u=>
   rw[hi]at h
   rw[bu h]
   obtain⟨vs,e1,e2⟩:=h1
   obtain⟨v,g1,g2⟩:=amA e2 hi
   refine eP (x:=.one u) (v:=v) H hd hdn ?_ g2 (h2 u (pX hi))
   simp[execOp,ho,e1,Instr.extract,g1]
end
end
section
open Go
variable [Fr]
theorem rW(ik:IntKind)(n:Int):kI ik (ik.wrap n):=by
 cases ik<;>simp only[kI]
 simp only[IntKind.wrap,IntKind.bits,IntKind.signed]
 simp
 omega
section
variable {P:Program}{cx:Cx}{Z:St}{J:aF}{F:List Nat}{a:Act}{w:World}{o:Oper}{d:Nat}{ws:List Wr}
theorem oh(ik:IntKind){n:Int}(h:kI ik n):iL cx Z J F w (v1 (.int ik) n) (.int ik n):=P7 h
theorem mV(b:Bool):iL cx Z J F w (v1 .bool b) (.bool b):=amY
theorem nH{k:K}{x:El k}:mG Z (v1 k x):=λt ht=>by simp at ht
theorem aik{op:BinOp}{ik:IntKind}{x y:Int}{z:List Wr}(hx:kI ik x)(hy:kI ik y)(ht:TypeId){k:fQ->Prog (List Wr)}(hk:∀v,k v=.ret [Wr.s d v])(h:(IY op ik x y k).ends Z z) :
  ∃kk y',(∃v,(Go.binOp op ht (.int ik x) (.int ik y)).run P w=.ok v w/\iL cx Z J F w (v1 kk y') v)/\z=[Wr.s d (v1 kk y')]:=by
 unfold IY at h
 cases op<;>simp only[hk]at h
 case add=>exact⟨.int ik,_,⟨_,by simp[Go.binOp,Op.intArith],oh ik (rW ik _)⟩,bu h⟩
 case sub=>exact⟨.int ik,_,⟨_,by simp[Go.binOp,Op.intArith],oh ik (rW ik _)⟩,bu h⟩
 case mul=>exact⟨.int ik,_,⟨_,by simp[Go.binOp,Op.intArith],oh ik (rW ik _)⟩,bu h⟩
 case quo=>
  obtain⟨h0,h⟩:=h
  exact⟨.int ik,_,⟨_,by simp[Go.binOp,Op.intDiv,h0],oh ik (rW ik _)⟩,bu h⟩
 case rem=>
  obtain⟨h0,h⟩:=h
  refine⟨.int ik,_,⟨_,by simp[Go.binOp,Op.intDiv,h0],oh ik ?_⟩,bu h⟩
  cases ik<;>simp only[kI]at hx hy ⊢
  have h1:=Int.tmod_nonneg y hx.1
  have h2:x.tmod y<y:=by
   rw[Int.tmod_eq_emod_of_nonneg hx.1]
   exact Int.emod_lt_of_pos x (by omega)
  omega
 case and=>exact⟨.int ik,_,⟨_,by simp[Go.binOp,Op.intBits],oh ik (rW ik _)⟩,bu h⟩
 case or=>exact⟨.int ik,_,⟨_,by simp[Go.binOp,Op.intBits],oh ik (rW ik _)⟩,bu h⟩
 case xor=>exact⟨.int ik,_,⟨_,by simp[Go.binOp,Op.intBits],oh ik (rW ik _)⟩,bu h⟩
 case andNot=>exact⟨.int ik,_,⟨_,by simp[Go.binOp,Op.intBits],oh ik (rW ik _)⟩,bu h⟩
 case eql=>exact⟨.bool,_,⟨.bool (decide (x=y)),by simp only[Go.binOp,ne_eq,not_true_eq_false,↓reduceIte];rfl,mV _⟩,bu h⟩
 case neq=>exact⟨.bool,_,⟨.bool (!decide (x=y)),by simp only[Go.binOp,ne_eq,not_true_eq_false,↓reduceIte];rfl,mV _⟩,bu h⟩
 case lss=>exact⟨.bool,_,⟨_,by simp[Go.binOp,Op.intCmp],mV _⟩,bu h⟩
 case leq=>exact⟨.bool,_,⟨_,by simp[Go.binOp,Op.intCmp],mV _⟩,bu h⟩
 case gtr=>exact⟨.bool,_,⟨_,by simp[Go.binOp,Op.intCmp],mV _⟩,bu h⟩
 case geq=>exact⟨.bool,_,⟨_,by simp[Go.binOp,Op.intCmp],mV _⟩,bu h⟩
 all_goals exact h.elim
theorem amt:∀(x y:List UInt8),rH (x.map λb=>(b.toNat:Int)) (y.map λb=>(b.toNat:Int))=Op.bytesLess x y:=by
 intro x
 induction x with
 |nil=>intro y;cases y<;>rfl
 |cons a x ih=>
  intro y
  cases y with
  |nil=>rfl
  |cons b y=>
   simp only[jh,rH,Op.bytesLess,ih]
   have h1:decide ((a.toNat:Int)<(b.toNat:Int))=decide (a<b):=by
    apply uE.2
    rw[UInt8.lt_iff_toNat_lt]
    omega
   have h2:decide ((a.toNat:Int)=(b.toNat:Int))=(a==b):=by
    rw[show(a==b)=decide (a=b)from rfl]
    apply uE.2
    rw[<-UInt8.toNat_inj]
    omega
   rw[h1,h2]
theorem amP:∀{x y:List UInt8},x.map (λb=>(b.toNat:Int))=y.map (λb=>(b.toNat:Int))↔x=y:=by
 intro x
 induction x with
 |nil=>intro y;cases y<;>simp
 |cons a x ih=>
  intro y
  cases y with
  |nil=>simp
  |cons b y=>
   simp only[jh,gQ,ih]
   have:(a.toNat:Int)=(b.toNat:Int)↔a=b:=by rw[<-UInt8.toNat_inj];omega
   rw[this]
theorem aec{A B:ByteArray}:bytesOf A=bytesOf B↔A.toList=B.toList:=by
 unfold bytesOf
 rw[amP,FY,FY]
theorem HY{A B:ByteArray}:(A.toList==B.toList)=decide (bytesOf A=bytesOf B):=by
 rw[show(A.toList==B.toList)=decide (A.toList=B.toList)from by
  cases h:(A.toList==B.toList)with
  |true=>simp[eq_of_beq h]
  |false=>simp[ne_of_beq_false h]]
 exact uE.2 aec.symm
theorem HZ{A B:ByteArray}:Op.bytesLess A.toList B.toList=rH (bytesOf A) (bytesOf B):=by
 unfold bytesOf
 rw[amt,FY,FY]
theorem aea(A B:ByteArray):bytesOf (A++B)=bytesOf A++bytesOf B:=by
 unfold bytesOf
 rw[<-Aj]
 congr 1
theorem aoz{op:BinOp}{A B:ByteArray}{z:List Wr}(ht:TypeId){k:fQ->Prog (List Wr)}(hk:∀v,k v=.ret [Wr.s d v])(h:(QH op (bytesOf A) (bytesOf B) k).ends Z z) :
  ∃kk y',(∃v,(Go.binOp op ht (.string A) (.string B)).run P w=.ok v w/\iL cx Z J F w (v1 kk y') v)/\z=[Wr.s d (v1 kk y')]:=by
 unfold QH at h
 cases op<;>simp only[hk]at h
 case add=>
  obtain⟨h0,h⟩:=h
  rw[qF,qF]at h0
  refine⟨.str,bytesOf A++bytesOf B,⟨.string (A++B),?_,?_⟩,bu h⟩
  ·have:¬(((A.size+B.size:Nat):Int)>IntKind.i64.max):=by
    simp only[IntKind.max,IntKind.signed,IntKind.bits]
    simp
    omega
   simp only[Go.binOp,Op.stringOp]
   rw[aj this]
   rfl
  ·rw[<-aea];exact P8
 case eql=>exact⟨.bool,_,⟨.bool (decide (bytesOf A=bytesOf B)),by simp only[Go.binOp,Op.stringOp];rw[HY];rfl,mV _⟩,bu h⟩
 case neq=>exact⟨.bool,_,⟨.bool (!decide (bytesOf A=bytesOf B)),by simp only[Go.binOp,Op.stringOp];rw[HY];rfl,mV _⟩,bu h⟩
 case lss=>exact⟨.bool,_,⟨.bool (rH (bytesOf A) (bytesOf B)),by simp only[Go.binOp,Op.stringOp];rw[HZ];rfl,mV _⟩,bu h⟩
 case leq=>exact⟨.bool,_,⟨.bool (rH (bytesOf A) (bytesOf B)||decide (bytesOf A=bytesOf B)),by simp only[Go.binOp,Op.stringOp];rw[HZ,HY];rfl,mV _⟩,bu h⟩
 case gtr=>exact⟨.bool,_,⟨.bool (!(rH (bytesOf A) (bytesOf B)||decide (bytesOf A=bytesOf B))),by simp only[Go.binOp,Op.stringOp];rw[HZ,HY];rfl,mV _⟩,bu h⟩
 case geq=>exact⟨.bool,_,⟨.bool (!rH (bytesOf A) (bytesOf B)),by simp only[Go.binOp,Op.stringOp];rw[HZ];rfl,mV _⟩,bu h⟩
 all_goals exact h.elim
theorem afn(H:Rel cx Z J F a w)(hd:o.dst=some d)(hdn:d<cx.nt){t:TypeId}{x:Operand}{op:UnOp}(ho:o.op=.unOp op t x)
  (h:(dP x λa=>QN op a λv=>(.ret [Wr.s d v]:Prog (List Wr))).ends Z ws):dn P cx o a w (aB ws Z):=by
 obtain⟨v,h1,h2,h⟩:=iW H h
 unfold QN at h
 split at h
 ·obtain⟨e1,e2⟩:=xV h1
  rw[bu h]
  exact eP H hd hdn (by simp[execOp,ho,e1,Op.unary,Op.intArith]) (oh _ (rW _ _)) nH
 ·obtain⟨e1,e2⟩:=xV h1
  rw[bu h]
  exact eP H hd hdn (by simp[execOp,ho,e1,Op.unary,Op.intBits]) (oh _ (rW _ _)) nH
 ·have e1:=Cr h1
  rw[bu h]
  exact eP H hd hdn (by simp[execOp,ho,e1,Op.unary]) (mV _) nH
 ·exact h.elim
end
end
section
open Go
variable [Fr]
section
variable {P:Program}{T:bF}{cx:Cx}{Z:St}{J:aF}{F:List Nat}{a:Act}{w:World}{o:Oper}{d:Nat}{ws:List Wr}
theorem aad{op:BinOp}{t:TypeId}{x y:Operand}{u v:Value}(h:(∀c,u≠.agg c)/\u≠.nilIface):(eqGuard op t x y u v).run P w=.ok () w:=by
 unfold eqGuard
 cases op<;>simp only[iM,mq,bY,↓reduceIte]<;>first|rfl|skip
 all_goals (cases u<;>first|rfl|exact absurd rfl (h.1 _)|exact absurd rfl h.2)
theorem PX:∃n,Op.maxDepth=n+1:=⟨Op.maxDepth-1,by unfold Op.maxDepth;rfl⟩
theorem run_equal_bool{t:TypeId}(h:P.underlying t=some .bool)(x y:Bool):(Op.equal t (.bool x) (.bool y)).run P w=.ok (x==y) w:=by
 obtain⟨n,e⟩:=PX
 unfold Op.equal
 rw[e]
 simp[Op.equalIn,gu h]
theorem aae{t e:TypeId}(h:P.underlying t=some (.pointer e)){u v:Option Addr}(hn:u=none\/v=none):(Op.equal t (.pointer u) (.pointer v)).run P w=.ok (u.isNone&&v.isNone) w:=by
 obtain⟨n,e⟩:=PX
 unfold Op.equal
 rw[e]
 rcases hn with rfl|rfl
 ·simp[Op.equalIn,gu h]
 ·cases u<;>simp[Op.equalIn,gu h]
theorem am5{x y:AV}{u v:Value}{b:Bool}(hx:aR cx Z J F w x u)(hy:aR cx Z J F w y v)(h:Fj x y=some b):∃p q,u=.pointer p/\v=.pointer q/\(p=none\/q=none)/\(p.isNone&&q.isNone)=b:=by
 unfold Fj at h
 split at h<;>simp only[aa,reduceCtorEq]at h<;>subst h
 ·exact⟨none,none,hx,hy,.inl rfl,rfl⟩
 ·obtain⟨b,q,e⟩:=hy.1;exact⟨none,_,hx,e,.inl rfl,rfl⟩
 ·obtain⟨b,q,e⟩:=hx.1;exact⟨_,none,e,hy,.inr rfl,rfl⟩
 ·obtain⟨b,q,e⟩:=hy.1;exact⟨none,_,hx,e,.inl rfl,rfl⟩
 ·obtain⟨b,q,e⟩:=hx.1;exact⟨_,none,e,hy,.inr rfl,rfl⟩
def uy(P:Program)(T:bF):Prop:=∀(t:TypeId) (c:K) (x y:El c) (u v:Array Value) (w:World) (hp1 hp2:Heap) (ok1 Zj:Nat->Prop),T.ty t=some (.st c)->T.eq t=true->c.flat=true->
 Vw hp1 ok1 c x u.toList->Vw hp2 Zj c y v.toList->(Op.equal t (.agg u) (.agg v)).run P w=.ok (vM c x y) w/\∀x y op,(eqGuard op t x y (.agg u) (.agg v)).run P w=.ok () w
theorem ad4{A:Type}{z:A}{t:TypeId}{op:BinOp}{u v:AV}{k:fQ->Prog A}(h:(w9 T t op u v k).ends Z z) :
  (∃ik x T1 jk y T2,u=.val (.int ik) x T1/\v=.val (.int jk) y T2)\/(∃x T1 y T2,u=.val .bool x T1/\v=.val .bool y T2)\/(∃x T1 y T2,u=.val .str x T1/\v=.val .str y T2)\/
  (∃c x T1 e y T2,u=.val (.st c) x T1/\v=.val (.st e) y T2)\/(T.ptr t=true/\∃b,Fj u v=some b/\((op=.eql/\(k (v1 .bool b)).ends Z z)\/(op=.neq/\(k (v1 .bool (!b))).ends Z z))):=by
 unfold w9 at h
 split at h
 ·exact .inl ⟨_,_,_,_,_,_,rfl,rfl⟩
 ·exact .inr (.inl ⟨_,_,_,_,rfl,rfl⟩)
 ·exact .inr (.inr (.inl ⟨_,_,_,_,rfl,rfl⟩))
 ·exact .inr (.inr (.inr (.inl ⟨_,_,_,_,_,_,rfl,rfl⟩)))
 ·rcases bz h with⟨hp,h5⟩|⟨_,h5⟩
  ·cases hn:Fj u v with
   |none=>rw[hn]at h5;exact h5.elim
   |some b=>
    rw[hn]at h5
    cases op with
    |eql=>exact .inr (.inr (.inr (.inr ⟨hp,b,rfl,.inl ⟨rfl,h5⟩⟩)))
    |neq=>exact .inr (.inr (.inr (.inr ⟨hp,b,rfl,.inr ⟨rfl,h5⟩⟩)))
    |_=>exact h5.elim
  ·exact h5.elim
theorem aoa{t e:TypeId}(h:P.underlying t=some (.slice e))(p:Option Addr)(n c:Nat):(Go.binOp .eql t (.slice p n c) (.slice none 0 0)).run P w=.ok (.bool p.isNone) w:=by
 obtain⟨m,em⟩:=PX
 have:(Op.equal t (.slice p n c) (.slice none 0 0)).run P w=.ok p.isNone w:=by
  unfold Op.equal
  rw[em]
  cases p<;>simp[Op.equalIn,gu h]
 simp only[Go.binOp]
 simp[this,Result.andThen]
theorem aeR(hT:eG P T)(hSt:uy P T)(H:Rel cx Z J F a w)(hd:o.dst=some d)(hdn:d<cx.nt){t t2:TypeId}{x y:Operand}{op:BinOp}(ho:o.op=.binOp op t x y t2)
  (h:(dP x λa=>dP y λb=>w9 T t op a b λv=>(.ret [Wr.s d v]:Prog (List Wr))).ends Z ws):dn P cx o a w (aB ws Z):=by
 obtain⟨u,h1,hu1,h5⟩:=iW H h
 obtain⟨v,h3,hu3,h6⟩:=iW H h5
 clear h h5
 have h:=h6
 clear h6
 have hrun:∀{z:Value},((∀c,a.eval x≠.agg c)/\a.eval x≠.nilIface)->(Go.binOp op t (a.eval x) (a.eval y)).run P w=.ok z w->(execOp a.eval o).run P w=.ok (.value z) w:=by
  intro z hz h
  have hg:=aad (P:=P) (w:=w) (op:=op) (t:=t) (x:=x) (y:=y) (v:=a.eval y) hz
  simp only[execOp,ho,dG,hg,h,eZ,dW]
 rcases ad4 h with⟨ik,x1,T1,jk,y1,T2,rfl,rfl⟩|⟨x1,T1,y1,T2,rfl,rfl⟩|⟨x1,T1,y1,T2,rfl,rfl⟩|⟨c,x1,T1,dd,y1,T2,rfl,rfl⟩|⟨hp,b,hne,hop⟩
 ·obtain⟨e1,r1⟩:=xV h1
  obtain⟨e2,r2⟩:=xV h3
  have hag:(∀c,a.eval x≠.agg c)/\a.eval x≠.nilIface:=by rw[e1];simp
  have hplain:(bif rF ik jk then IY op ik x1 y1 λv=>(.ret [Wr.s d v]:Prog (List Wr))else .fail).ends Z ws->dn P cx o a w (aB ws Z):=by
   intro h
   rcases bz h with⟨hik,h⟩|⟨_,h⟩
   ·have:=Ef hik
    subst this
    obtain⟨kk,y',⟨z,g1,g2⟩,g3⟩:=aik (P:=P) (cx:=cx) (Z:=Z) (J:=J) (F:=F) (w:=w) (d:=d) r1 r2 t (λv=>rfl) h
    rw[g3]
    exact eP H hd hdn (hrun hag (by rw[e1,e2];exact g1)) g2 nH
   ·exact h.elim
  cases op with
  |shl=>
   obtain⟨h0,h⟩:=h
   rw[bu h]
   refine eP H hd hdn (hrun hag (z:=.int ik (ik.wrap (x1*2 ^ min y1.toNat ik.bits))) ?_) (oh ik (rW _ _)) nH
   rw[e1,e2]
   simp only[Go.binOp,Op.shift]
   rw[aj (Int.not_lt.2 h0)]
   rfl
  |shr=>
   obtain⟨h0,h⟩:=h
   rw[bu h]
   refine eP H hd hdn (hrun hag (z:=.int ik (x1.fdiv (2 ^ min y1.toNat ik.bits))) ?_) (oh ik ?_) nH
   ·rw[e1,e2]
    simp only[Go.binOp,Op.shift]
    rw[aj (Int.not_lt.2 h0)]
    rfl
   ·cases ik<;>simp only[kI]at r1 ⊢
    have hp:(0:Int)<2 ^ min y1.toNat IntKind.u8.bits:=Int.pow_pos (by omega)
    have g1:0<=x1.fdiv (2 ^ min y1.toNat IntKind.u8.bits):=Int.fdiv_nonneg r1.1 (Int.le_of_lt hp)
    have g2:x1.fdiv (2 ^ min y1.toNat IntKind.u8.bits)<=x1:=by
     rw[Int.fdiv_eq_ediv_of_nonneg _ (Int.le_of_lt hp)]
     exact Int.ediv_le_self _ r1.1
    omega
  |_=>exact hplain h
 ·have e1:=Cr h1
  have e2:=Cr h3
  have hag:(∀c,a.eval x≠.agg c)/\a.eval x≠.nilIface:=by rw[e1];simp
  have hub:T.ty t=some .bool->P.underlying t=some .bool:=λhty=>by
   have:=hT.ty t .bool hty
   unfold cK iV at this
   exact this.1
  cases hty:T.ty t with
  |none=>simp only[w9,hty]at h;exact h.elim
  |some k0=>
   cases k0 with
   |bool=>
    have hu:=hub hty
    simp only[w9,hty]at h
    cases op with
    |eql=>
     rw[bu h]
     refine eP H hd hdn (hrun hag (z:=.bool (x1==y1)) ?_) (mV _) nH
     rw[e1,e2]
     simp only[Go.binOp,dG,run_equal_bool hu,eZ,dW]
    |neq=>
     rw[bu h]
     refine eP H hd hdn (hrun hag (z:=.bool (!(x1==y1))) ?_) (mV _) nH
     rw[e1,e2]
     simp only[Go.binOp,dG,run_equal_bool hu,eZ,dW]
    |_=>exact h.elim
   |_=>simp only[w9,hty]at h;exact h.elim
 ·obtain⟨A,e1,f1⟩:=xW h1
  obtain⟨B,e2,f2⟩:=xW h3
  subst f1
  subst f2
  have hag:(∀c,a.eval x≠.agg c)/\a.eval x≠.nilIface:=by rw[e1];simp
  obtain⟨kk,y',⟨z,g1,g2⟩,g3⟩:=aoz (P:=P) (cx:=cx) (Z:=Z) (J:=J) (F:=F) (w:=w) (d:=d) t (λv=>rfl) h
  rw[g3]
  exact eP H hd hdn (hrun hag (by rw[e1,e2];exact g1)) g2 nH
 ·simp only[w9]at h
  cases hck:bR (.st dd) (.st c) y1 with
  |none=>rw[hck]at h;exact h.elim
  |some y2=>
   rw[hck]at h
   obtain⟨ek,ey⟩:=iw hck
   simp only[K.st.injEq]at ek
   subst ek
   simp only at ey
   subst ey
   simp only at h
   rcases bz h with⟨hc,h5⟩|⟨_,h5⟩
   ·simp only[bg]at hc
    have hty:T.ty t=some (.st dd):=by
     have h2:=hc.2
     cases ht:T.ty t with
     |none=>rw[ht]at h2;simp at h2
     |some kk=>rw[ht]at h2;rw[K.eq_of_beq h2]
    obtain⟨cs1,e1,V1⟩:=h1 (.inl hc.1.1)
    obtain⟨cs2,e2,V2⟩:=h3 (.inl hc.1.1)
    have MJ:a.eval x=.agg cs1.toArray:=e1
    have e2':a.eval y=.agg cs2.toArray:=e2
    obtain⟨r1,r2⟩:=hSt t dd x1 y2 cs1.toArray cs2.toArray w _ _ _ _ hty hc.1.2 hc.1.1 (show Vw _ _ dd x1 cs1 from V1) (show Vw _ _ dd y2 cs2 from V2)
    have Bt:∀{z:Value},(Go.binOp op t (a.eval x) (a.eval y)).run P w=.ok z w->(execOp a.eval o).run P w=.ok (.value z) w:=by
     intro z h
     have hg:=r2 x y op
     rw[<-MJ,<-e2']at hg
     simp only[execOp,ho,dG,hg,h,eZ,dW]
    cases op with
    |eql=>
     rw[bu h5]
     refine eP H hd hdn (Bt (z:=.bool (vM dd x1 y2)) ?_) (mV _) nH
     rw[MJ,e2']
     simp only[Go.binOp,dG,r1,eZ,dW]
    |neq=>
     rw[bu h5]
     refine eP H hd hdn (Bt (z:=.bool (!vM dd x1 y2)) ?_) (mV _) nH
     rw[MJ,e2']
     simp only[Go.binOp,dG,r1,eZ,dW]
    |_=>exact h5.elim
   ·exact h5.elim
 ·obtain⟨e,hu⟩:=hT.ptr t hp
  obtain⟨p,q,e1,e2,hn,hb⟩:=am5 h1 h3 hne
  have hag:(∀c,a.eval x≠.agg c)/\a.eval x≠.nilIface:=by rw[e1];simp
  rcases hop with⟨rfl,h5⟩|⟨rfl,h5⟩
  ·rw[bu h5]
   refine eP H hd hdn (hrun hag (z:=.bool b) ?_) (mV _) nH
   rw[e1,e2]
   simp only[Go.binOp,dG,aae hu hn,hb,eZ,dW]
  ·rw[bu h5]
   refine eP H hd hdn (hrun hag (z:=.bool (!b)) ?_) (mV _) nH
   rw[e1,e2]
   simp only[Go.binOp,dG,aae hu hn,hb,eZ,dW]
theorem aeQ(hT:eG P T)(hSt:uy P T)(H:Rel cx Z J F a w)(hd:o.dst=some d)(hdn:d<cx.nt){t t2:TypeId}{x y:Operand}{op:BinOp}(ho:o.op=.binOp op t x y t2)
  (h:(L8 T t op x y λv=>(.ret [Wr.s d v]:Prog (List Wr))).ends Z ws):dn P cx o a w (aB ws Z):=by
 unfold L8 at h
 rcases bz h with⟨hc,h⟩|⟨_,h⟩
 ·simp only[bg]at hc
  have ey:y=.const (.slice none 0 0):=by
   have:=hc.1
   unfold WJ at this
   split at this
   ·rfl
   ·simp at this
  have eop:op=.eql:=by
   have:=hc.2
   unfold WI at this
   split at this
   ·rfl
   ·simp at this
  subst ey eop
  obtain⟨u,h1,hu1,h5⟩:=iW H h
  unfold Za at h5
  split at h5
  ·rename_i e kk hty
   obtain⟨BI,z,Tg,cs,g1,g2,g3,h6⟩:=AB H h1 hu1 h5
   cases BI with
   |sl e' BI=>
    simp only at h6
    rw[bu h6]
    obtain⟨p,n,c,rfl,g5,g6,g7⟩:=g2
    have ev:a.eval x=.slice p n c:=by
     have:=g1.cells
     obtain⟨g8,g9⟩:=g1
     first
      |exact(List.cons.inj g8.symm).1
      |(simp only[gQ,dZ]at g8;exact g8.symm)
      |exact g8
    have hu:=(cK.sl (hT.ty t _ hty)).1
    have hag:(∀c,a.eval x≠.agg c)/\a.eval x≠.nilIface:=by rw[ev];simp
    have hg:=aad (P:=P) (w:=w) (op:=.eql) (t:=t) (x:=x) (y:=.const (.slice none 0 0)) (v:=a.eval (.const (.slice none 0 0))) hag
    have hr:=aoa (w:=w) hu p n c
    refine eP (v:=.bool p.isNone) H hd hdn ?_ (show aR cx Z J F w (.nG _) _ from⟨_,rfl,λhp=>?_⟩) trivial
    ·have e2:a.eval (.const (.slice none 0 0))=.slice none 0 0:=rfl
     have hr':(Go.binOp .eql t (a.eval x) (a.eval (.const (.slice none 0 0)))).run P w=.ok (.bool p.isNone) w:=by rw[ev,e2];exact hr
     simp only[execOp,ho,dG,hg,hr',eZ,dW]
    ·cases p with
     |some q=>simp at hp
     |none=>
      have hn:n=0:=by
       refine jI λhne=>?_
       obtain⟨b,o,e1,_⟩:=g7 (by omega)
       simp at e1
      have MX:n=@List.length (El BI) z:=g5
      rw[List.isEmpty_iff_length_eq_zero,<-MX,hn]
   |_=>exact h6.elim
  ·exact h5.elim
 ·exact aeR hT hSt H hd hdn ho h
end
end
section
open Go
variable [Fr]
section
variable {P:Program}{T:bF}{cx:Cx}{Z:St}{J:aF}{F:List Nat}{a:Act}{w:World}{o:Oper}{d:Nat}{ws:List Wr}
theorem Cc{c:Call}{b:Builtin}(ho:o.op=.call c)(hb:c.callee=.builtin b):∃cs,(execOp a.eval o).run P w=(builtin b c.argTypes o.type cs (c.args.map a.eval)).run P w:=
 ⟨_,by simp only[execOp,ho,resolve,hb,dG,dW,eZ,invoke];rfl⟩
theorem cK.str{t:TypeId}(h:cK P T t .str):P.underlying t=some .string:=by
 unfold cK iV at h
 exact h.1
theorem qR(hT:eG P T){c:Call}{i:Nat}{k:K}(h:(c.argTypes[i]?).bind T.ty=some k):∃t,c.argTypes[i]?=some t/\cK P T t k:=by
 cases ht:c.argTypes[i]? with
 |none=>rw[ht]at h;simp at h
 |some t=>rw[ht]at h;exact⟨t,rfl,hT.ty t k h⟩
theorem aaf{ats:Array TypeId}{ty t:TypeId}{v:Value}{n:Nat}{args:Array Value}(ha:ats[0]?=some t)(hv:args[0]?=some v)(h:(P.underlying t=some .string/\∃B:ByteArray,v=.string B/\B.size=n)\/((∃e,P.underlying t=some (.slice e))/\∃b c,v=.slice b n c)) :
  (Builtin.len_ ats ty args).run P w=.ok (.int .i64 (n:Int)) w:=by
 unfold Builtin.len_
 simp only[ha,hv]
 rcases h with⟨hu,B,rfl,rfl⟩|⟨⟨e,hu⟩,b,c,rfl⟩
 ·simp[gu hu,goInt]
 ·simp[gu hu,goInt]
theorem ae5(hT:eG P T)(H:Rel cx Z J F a w)(hd:o.dst=some d)(hdn:d<cx.nt){c:Call}(ho:o.op=.call c)(hb:c.callee=.builtin .len)
  (h:(nu c.args.toList fun
   | [.eH]=>match (c.argTypes[0]?).bind T.ty with
    |some (.sl _ _)=>(.ret [Wr.s d (.one (.val (.int .i64) 0 []))]:Prog (List Wr))
    |_=>.fail
   | [.val .str s _]=>match (c.argTypes[0]?).bind T.ty with
    |some .str=>.ret [Wr.s d (.one (.val (.int .i64) ((show List Int from s).length:Int) []))]
    |_=>.fail
   | [a]=>match (c.argTypes[0]?).bind T.ty with
    |some (.sl _ _)=>oD a λkk x _=>match kk,x with
     |.sl _ kk,xs=>.ret [Wr.s d (.one (.val (.int .i64) ((show List (El kk)from xs).length:Int) []))]
     |_,_=>.fail
    |_=>.fail
   |_=>.fail).ends Z ws):dn P cx o a w (aB ws Z):=by
 obtain⟨vs,h1,h2,h⟩:=uH H h
 have hfin:∀{t:TypeId} {n:Nat} {v:Value} {x:Operand},c.args.toList=[x]->c.argTypes[0]?=some t->a.eval x=v->((P.underlying t=some .string/\∃B:ByteArray,v=.string B/\B.size=n)\/((∃e,P.underlying t=some (.slice e))/\∃b c,v=.slice b n c))->
   dn P cx o a w (aB [Wr.s d (.one (.val (.int .i64) (n:Int) []))] Z):=by
  intro t n v x hx ht hv hs
  have ha:(c.args.map a.eval)[0]?=some v:=by
   rw[<-qW,uf,hx]
   simp[hv]
  refine eP H hd hdn ?_ (oh .i64 (n:=(n:Int)) trivial) nH
  obtain⟨cc,hcc⟩:=Cc (P:=P) (a:=a) (w:=w) ho hb
  rw[hcc]
  simp only[builtin,dG,aaf (ty:=o.type) (w:=w) ht ha hs,eZ,dW]
 have hone:∀{u:AV},vs=[u]->∃x,c.args.toList=[x]/\aR cx Z J F w u (a.eval x):=by
  intro u e
  subst e
  cases hl:c.args.toList with
  |nil=>rw[hl]at h1;exact h1.elim
  |cons x l=>
   rw[hl]at h1
   cases l with
   |nil=>exact⟨x,rfl,h1.1⟩
   |cons y l=>exact h1.2.elim
 split at h
 ·obtain⟨x,hx,hu⟩:=hone rfl
  split at h
  ·rename_i hty
   obtain⟨t,ht,hk⟩:=qR hT hty
   rw[bu h]
   obtain⟨b,e⟩:=hu
   exact hfin (n:=0) hx ht rfl (.inr ⟨⟨_,hk.sl.1⟩,b,0,e⟩)
  ·exact h.elim
 ·obtain⟨x,hx,hu⟩:=hone rfl
  split at h
  ·rename_i hty
   obtain⟨t,ht,hk⟩:=qR hT hty
   rw[bu h]
   obtain⟨B,e1,e2⟩:=xW hu
   subst e2
   have e:(show List Int from bytesOf B).length=B.size:=qF B
   rw[e]
   exact hfin (n:=B.size) hx ht rfl (.inl ⟨hk.str,B,e1,rfl⟩)
  ·exact h.elim
 ·obtain⟨x,hx,hu⟩:=hone rfl
  split at h
  ·rename_i hty
   obtain⟨t,ht,hk⟩:=qR hT hty
   obtain⟨kk,y,Tg,cs,g1,g2,g3,g4⟩:=AB H hu (h2 _ (by simp)) h
   cases kk with
   |sl e kk=>
    rw[bu g4]
    obtain⟨b,n,cc,f1,f2,f3,f4,f5⟩:=zQ g1 g2
    have e:((@List.length (El kk) y:Nat):Int)=(n:Int):=by rw[f3]
    have e':(show List (El kk)from y).length=n:=f3.symm
    rw[e']
    exact hfin (n:=n) hx ht rfl (.inr ⟨⟨_,hk.sl.1⟩,b,cc,f1⟩)
   |_=>exact g4.elim
  ·exact h.elim
 ·exact h.elim
theorem Ue(H:Rel cx Z J F a w){r:Nat}{R:Root}(hr:aU Z r R){b:Nat}(hb:b∈blk J R r)(hnb:¬kV cx b):aO cx Z J F w ((r,dz R.w) :: R.tags) b:=by
 have hm:=(H.roots r R hr).mine b hb
 refine⟨hm.1,H.dM r R hr b hb,hnb,λq Q hq hbq=>?_,λh0=>?_⟩
 ·by_cases e:q=r
  ·subst e;exact⟨dz R.w,by simp⟩
  ·exact absurd hb (H.jc q Q r R hq hr e b hbq)
 ·rcases hm.2 with h|⟨j,pi,h1,h2⟩
  ·omega
  ·exact .inr ⟨j,pi,h1,h2⟩
theorem aeg{A:Type}{z:A}(H:Rel cx Z J F a w):∀{l:List AV} {vs:List Value} {k:List (TypeId×Dat×List Tag)->Prog A},gU cx Z J F w l vs->(∀v∈l,dB Z v)->(AO l k).ends Z z->
  ∃cs,mH cx Z J F w cs vs/\(∀c∈cs,fC Z c.2.2)/\(k cs).ends Z z:=by
 intro l
 induction l with
 |nil=>
  intro vs k h1 _ h
  cases vs with
  |nil=>exact⟨[],trivial,by simp,h⟩
  |cons v vs=>exact h1.elim
 |cons x l ih=>
  intro vs k h1 h2 h
  cases vs with
  |nil=>exact h1.elim
  |cons v vs=>
   simp only[AO]at h
   rcases Ht H h1.1 (h2 x (by simp)) h with⟨r,R,p,dd,cs,b,q,hr,hv,hg,b_,hown,hn,e,h5⟩|⟨bt,dd,Tg,b,q,cs,hw,e,hcs,hV,hok,hb,h5⟩
   ·rcases bz h5 with⟨_,h6⟩|⟨hne,h6⟩
    ·exact h6.elim
    ·obtain⟨cs2,g1,g2,g3⟩:=ih h1.2 (λv hv=>h2 v (by simp[hv])) h6
     obtain⟨hC,⟨aS,hO,hf⟩,hbb,⟨arr,te,lo,hi,m1,m2,m3,m4⟩,_⟩:=tQ H hr hv hg b_ hown hn
     have hbase:fU R p=te/\¬kV cx b:=by
      rcases m4 with m4|⟨_,m4⟩
      ·exact m4
      ·rw[m4]at hne;simp at hne
     refine⟨(fU R p,dd,(r,dz R.w) :: R.tags) :: cs2,⟨⟨⟨b,q,e⟩,λ_=>⟨b,q,cs,e,hC,?_,(Ue H hr hbb hbase.2).q,.inr ⟨.inl (by rw[hbase.1];unfold h_;rw[m1]),hbase.2⟩⟩⟩,g1⟩,?_,g3⟩
     ·exact oC _ (λb hb=>zM hb (λt ht=>by simp[ht])) (λb hb=>Ue H hr (bD _ (hf b hb)) (xu H hr (hf b hb))) hO
     ·intro c hc
      rcases bH.1 hc with h|h
      ·subst h
       intro t ht
       rcases bH.1 ht with h|h
       ·subst h;exact .inr ⟨R,hr.1,.inr (bT _)⟩
       ·exact(H.fu r R hr.1).1 t h
      ·exact g2 c h
   ·obtain⟨cs2,g1,g2,g3⟩:=ih h1.2 (λv hv=>h2 v (by simp[hv])) h5
    refine⟨(bt,dd,Tg) :: cs2,⟨⟨⟨b,q,e⟩,λ_=>⟨b,q,cs,e,hcs,hV,hok,hb⟩⟩,g1⟩,?_,g3⟩
    intro c hc
    rcases bH.1 hc with h|h
    ·subst h;exact hw
    ·exact g2 c h
theorem ae9(H:Rel cx Z J F a w)(hd:o.dst=some d)(hdn:d<cx.nt){f:Nat}{first caps:Array Operand}(ho:o.op=.makeFunc (.func f) first caps)
  (h:(bif first.isEmpty then nu caps.toList λl=>AO l λcs=>.ret [Wr.s d (.one (.fn f cs))]else(.fail:Prog (List Wr))).ends Z ws):dn P cx o a w (aB ws Z):=by
 rcases bz h with⟨he,h5⟩|⟨_,h5⟩
 ·obtain⟨vs,h1,h2,h6⟩:=uH H h5
  obtain⟨cs,g1,g2,g3⟩:=aeg H h1 h2 h6
  rw[bu g3]
  have hf:first=#[]:=by simpa using he
  refine eP (x:=.one (.fn f cs)) (v:=.func (.func f) #[] (caps.map a.eval)) H hd hdn ?_ ⟨(caps.map a.eval).toList,rfl,by rw[uf];exact g1⟩ g2
  simp[execOp,ho,Instr.makeFunc,hf]
 ·exact h5.elim
end
end
section
open Go
variable [Fr]
section
variable {P:Program}{T:bF}{cx:Cx}{Z:St}{J:aF}{F:List Nat}{a:Act}{w:World}{o:Oper}{d:Nat}{ws:List Wr}
theorem Fv{A:Type}{z:A}(H:Rel cx Z J F a w){x:Option Operand}{k:Option Int->Prog A}(h:(rO x k).ends Z z) :
  ∃i:Option Int,(k i).ends Z z/\(i=none↔x=none)/\∀j,i=some j->∃ik,x.map a.eval=some (.int ik j):=by
 cases x with
 |none=>exact⟨none,h,by simp,λj hj=>by simp at hj⟩
 |some y=>
  simp only[rO]at h
  obtain⟨v,h1,_,h⟩:=iW H h
  obtain⟨ik,n,e,_,h⟩:=Dl h1 h
  exact⟨some n,h,by simp,λj hj=>by simp only[aa]at hj;subst hj;exact⟨ik,by simp[e]⟩⟩
theorem aab{N8:Bool}{len cap:Nat}{lo hi:Option Int}{l h:Option Value}(hlc:len<=cap)(hl:lo=none->l=none)(hl':∀j,lo=some j->∃ik,l=some (.int ik j))(hh:hi=none->h=none)(hh':∀j,hi=some j->∃ik,h=some (.int ik j))
  (h1:∀j,hi=some j->0<=j/\j<=(len:Int)) (h2:∀j,lo=some j->0<=j/\j<=hi.getD (len:Int)) :
  (Instr.sliceBounds N8 len cap l h none).run P w=.ok ((lo.getD 0).toNat,(hi.getD (len:Int)).toNat,cap) w:=by
 unfold Instr.sliceBounds
 cases hi with
 |none=>
  rw[hh rfl]
  cases lo with
  |none=>rw[hl rfl];simp
  |some j=>
   obtain⟨ik,e⟩:=hl' j rfl
   obtain⟨g1,g2⟩:=h2 j rfl
   simp only[Aq]at g2
   rw[e]
   simp[Instr.sliceBound,asIntOf,g1,g2]
 |some i=>
  obtain⟨ik,e⟩:=hh' i rfl
  obtain⟨f1,f2⟩:=h1 i rfl
  have f3:i<=(cap:Int):=by omega
  rw[e]
  cases lo with
  |none=>rw[hl rfl];simp[Instr.sliceBound,asIntOf,f1,f3]
  |some j=>
   obtain⟨IW,e2⟩:=hl' j rfl
   obtain⟨g1,g2⟩:=h2 j rfl
   simp only[sF]at g2
   have g3:j<=max i 0:=by omega
   rw[e2]
   simp[Instr.sliceBound,asIntOf,f1,f3,g1]
   omega
theorem TI{h:Heap}{ok:Nat->Prop}{e:TypeId}{k:K}{xs:List (El k)}{b:Option Addr}{n c l m:Nat}(H:Vw h ok (.sl e k) xs [.slice b n c])(hl:l<=m)(hm:m<=n) :
  Vw h ok (.sl e k) (show List (El k)from(xs.take m).drop l) [.slice (if c=l then b else b.map (·.add (l*k.size))) (m-l) (c-l)]:=by
 obtain⟨b',n',c',e1,e2,e3,e4⟩:=H
 simp only[gQ,mE,dZ]at e1
 obtain⟨rfl,rfl,rfl⟩:=e1
 have hxl:xs.length=n:=e2.symm
 have hlen:((xs.take m).drop l).length=m-l:=by simp;omega
 refine⟨_,_,_,rfl,hlen.symm,by omega,λh0=>?_⟩
 obtain⟨bb,q,rfl,hok,hel,hes⟩:=e4 (by omega)
 have hc:¬c=l:=by omega
 refine⟨bb,q+l*k.size,by rw[aj hc];simp[addr_add],hok,hel,λi hi=>?_⟩
 have hi':i<((xs.take m).drop l).length:=hi
 obtain⟨ds,h1,h2⟩:=hes (l+i) (by show l+i<xs.length;omega)
 refine⟨ds,?_,?_⟩
 ·rw[nO,<-gX]
  exact h1
 ·have:(show List (El k)from(xs.take m).drop l)[i]'hi=xs[l+i]'(by omega):=by
   show((xs.take m).drop l)[i]=_
   simp
  rw[this]
  exact h2
theorem aed(B:ByteArray)(l m:Nat):bytesOf (B.extract l m)=((bytesOf B).take m).drop l:=by
 unfold bytesOf
 rw[<-List.map_take,<-List.map_drop]
 congr 1
 simp[ByteArray.data_extract,List.extract_eq_take_drop,List.drop_take]
def kE(lo:Option Int):Nat:=(lo.getD 0).toNat
def nC(hi:Option Int)(n:Nat):Nat:=(hi.getD (n:Int)).toNat
theorem aoe{t e:TypeId}{k:K}(ht:cK P T t (.sl e k)){b:Option Addr}{n c:Nat}{lo hi:Option Int}{l h:Option Value}(hlc:n<=c)(hl:lo=none->l=none)(hl':∀j,lo=some j->∃ik,l=some (.int ik j))(hh:hi=none->h=none)(hh':∀j,hi=some j->∃ik,h=some (.int ik j))
  (h1:∀j,hi=some j->0<=j/\j<=(n:Int)) (h2:∀j,lo=some j->0<=j/\j<=hi.getD (n:Int)) :
  (Instr.sliceAt t (.slice b n c) l h none).run P w=.ok (.slice (if c=kE lo then b else b.map (·.add (kE lo*k.size))) (nC hi n-kE lo) (c-kE lo)) w:=by
 obtain⟨hu,he,_,_⟩:=ht.sl
 unfold Instr.sliceAt Instr.slice
 simp only[dG,gu hu,Result.andThen,aab (N8:=true) (w:=w) hlc hl hl' hh hh' h1 h2,he.info.sizeOf w,dW]
 rfl
theorem aof{t:TypeId}(ht:cK P T t .str){B:ByteArray}{lo hi:Option Int}{l h:Option Value}(hl:lo=none->l=none)(hl':∀j,lo=some j->∃ik,l=some (.int ik j))(hh:hi=none->h=none)(hh':∀j,hi=some j->∃ik,h=some (.int ik j))
  (h1:∀j,hi=some j->0<=j/\j<=(B.size:Int)) (h2:∀j,lo=some j->0<=j/\j<=hi.getD (B.size:Int)) :
  (Instr.sliceAt t (.string B) l h none).run P w=.ok (.string (B.extract (kE lo) (nC hi B.size))) w:=by
 have hu:=ht.str
 unfold Instr.sliceAt Instr.slice
 simp[dG,gu hu,Result.andThen,aab (N8:=false) (w:=w) (bT B.size) hl hl' hh hh' h1 h2,dW,kE,nC]
theorem N_{x:Option Operand}(h:isZero x=true):∃ik,x=some (.const (.int ik 0)):=by
 unfold isZero at h
 split at h
 ·exact⟨_,rfl⟩
 ·simp at h
theorem afh(hT:eG P T)(H:Rel cx Z J F a w)(hd:o.dst=some d)(hdn:d<cx.nt){t:TypeId}{x:Operand}{lo hi mx:Option Operand}
  (h:(match T.ty t with
   |some kk=>bif isZero lo&&isZero hi&&isZero mx then match kk with
     |.sl _ _=>dP x fun
      |.eH=>.ret [Wr.s d (.one .eH)]
      |a=>oD a λk' _ _=>bif k'.beq kk then .ret [Wr.s d (.one .eH)]else .fail
     |_=>.fail
    else match mx with
     |none=>dP x λa=>rO lo λlo=>rO hi λhi=>Qz kk a lo hi λu=>.ret [Wr.s d (.one u)]
     |some _=>.fail
   |none=>(.fail:Prog (List Wr))).ends Z ws) (ho:o.op=.slice t x lo hi mx):dn P cx o a w (aB ws Z):=by
 cases hty:T.ty t with
 |none=>rw[hty]at h;exact h.elim
 |some kk=>
  rw[hty]at h
  have ht:=hT.ty t kk hty
  rcases bz h with⟨hz,h5⟩|⟨_,h5⟩
  ·simp only[bg]at hz
   obtain⟨BC,rfl⟩:=N_ hz.1.1
   obtain⟨IW,rfl⟩:=N_ hz.1.2
   obtain⟨ik3,rfl⟩:=N_ hz.2
   cases kk with
   |sl e k=>
    obtain⟨u,h1,h2,h6⟩:=iW H h5
    have hfin:(∃b n c,a.eval x=.slice b n c)->ws=[Wr.s d (.one .eH)]->dn P cx o a w (aB ws Z):=by
     rintro⟨b,n,c,e⟩ hws
     rw[hws]
     obtain⟨hu,he,_,_⟩:=ht.sl
     refine eP (x:=.one .eH) (v:=.slice b 0 0) H hd hdn ?_ ⟨b,rfl⟩ trivial
     have hcv:∀v,a.eval (.const v)=v:=λ_=>rfl
     simp[execOp,ho,e,Instr.sliceAt,Instr.slice,gu hu,Instr.sliceBounds,Instr.sliceBound,asIntOf,he.info.sizeOf w,hcv]
    cases u with
    |eH=>
     obtain⟨b,e⟩:=h1
     exact hfin ⟨b,0,0,e⟩ (bu h6)
    |_=>
     obtain⟨k',y,Tg,cs,g1,g2,g3,g4⟩:=AB H h1 h2 h6
     rcases beq_true g4 with⟨ek,g5⟩|⟨_,g5⟩
     ·subst ek
      obtain⟨b,n,c,f1,_⟩:=zQ g1 g2
      exact hfin ⟨b,n,c,f1⟩ (bu g5)
     ·exact g5.elim
   |_=>exact h5.elim
  ·cases mx with
   |some m=>exact h5.elim
   |none=>
    obtain⟨u,h1,h2,h6⟩:=iW H h5
    obtain⟨l,h7,l1,l2⟩:=Fv H h6
    obtain⟨m,h8,m1,m2⟩:=Fv H h7
    have hl:l=none->lo.map a.eval=none:=λe=>by rw[l1.1 e];rfl
    have hm:m=none->hi.map a.eval=none:=λe=>by rw[m1.1 e];rfl
    have hstr:∀{s:List Int} {Tg:List Tag},u=.val .str s Tg->dn P cx o a w (aB ws Z):=by
     intro s Tg e
     subst e
     obtain⟨B,e1,e2⟩:=xW h1
     subst e2
     simp only[Qz]at h8
     rcases bz h8 with⟨_,h9⟩|⟨hk,h9⟩
     ·exact h9.elim
     ·have ek:kk=.str:=K.eq_of_beq (by simpa using hk)
      subst ek
      have hln:=qF B
      have hgo:∀{p:List Int},(∀j,m=some j->0<=j/\j<=(B.size:Int))->(∀j,l=some j->0<=j/\j<=m.getD (B.size:Int))->p=((bytesOf B).take (nC m B.size)).drop (kE l)->ws=[Wr.s d (.one (.val .str p []))]->dn P cx o a w (aB ws Z):=by
       intro p g1 g2 hp hws
       rw[hws,hp]
       have hrun:=aof (w:=w) ht (B:=B) hl l2 hm m2 g1 g2
       refine eP (v:=.string (B.extract (kE l) (nC m B.size))) H hd hdn ?_ ?_ (λt ht=>by simp at ht)
       ·simp only[execOp,ho,e1,dG]
        rw[show(none:Option Operand).map a.eval=none from rfl,hrun]
        rfl
       ·rw[<-aed]
        exact P8
      cases l with
      |none=>
       cases m with
       |none=>exact hgo (by simp) (by simp) (by simp[kE,nC,<-hln]) (bu h9)
       |some j=>
        obtain⟨hc,h9⟩:=h9
        exact hgo (λi hi=>by simp only[aa]at hi;subst hi;rw[<-hln];exact hc) (by simp) (by simp[kE,nC]) (bu h9)
      |some i=>
       cases m with
       |none=>
        obtain⟨hc,h9⟩:=h9
        exact hgo (by simp) (λi hi=>by simp only[aa]at hi;subst hi;simp only[Aq];rw[<-hln];exact hc) (by simp[kE,nC,<-hln]) (bu h9)
       |some j=>
        obtain⟨hc,h9⟩:=h9
        have hc':0<=i/\i<=j/\j<=((bytesOf B).length:Int):=hc
        exact hgo (λi' hi=>by simp only[aa]at hi;subst hi;rw[<-hln];exact⟨by omega,hc'.2.2⟩) (λi' hi=>by simp only[aa]at hi;subst hi;exact⟨hc'.1,hc'.2.1⟩) (by simp[kE,nC]) (bu h9)
    have hsl:(oD u λk2 y Tg=>match k2,y with
      |.sl e k3,xs=>bif !kk.beq (.sl e k3)then .fail else
       match l,m with
       |none,none=>(.ret [Wr.s d (.one (.val (.sl e k3) xs Tg))]:Prog (List Wr))
       |some l,none=>.dO (0<=l/\l<=((show List (El k3)from xs).length:Int)) inferInstance (.ret [Wr.s d (.one (.val (.sl e k3) ((show List (El k3)from xs).drop l.toNat) Tg))])
       |none,some h=>.dO (0<=h/\h<=((show List (El k3)from xs).length:Int)) inferInstance (.ret [Wr.s d (.one (.val (.sl e k3) ((show List (El k3)from xs).take h.toNat) Tg))])
       |some l,some h=>.dO (0<=l/\l<=h/\h<=((show List (El k3)from xs).length:Int)) inferInstance (.ret [Wr.s d (.one (.val (.sl e k3) (((show List (El k3)from xs).take h.toNat).drop l.toNat) Tg))])
      |_,_=>.fail).ends Z ws->dn P cx o a w (aB ws Z):=by
     intro h9
     obtain⟨k2,y,Tg,cs,g1,g2,g3,g4⟩:=AB H h1 h2 h9
     cases k2 with
     |sl e k3=>
      simp only at g4
      rcases bz g4 with⟨_,g5⟩|⟨hk,g5⟩
      ·exact g5.elim
      ·have ek:kk=.sl e k3:=K.eq_of_beq (by simpa using hk)
       subst ek
       have hln:(show List (El k3)from y).length=@List.length (El k3) y:=rfl
       obtain⟨b,n,c,f1,f2,f3,f4,f5⟩:=zQ g1 g2
       have hgo:∀{p:List (El k3)},(∀j,m=some j->0<=j/\j<=(n:Int))->(∀j,l=some j->0<=j/\j<=m.getD (n:Int))->p=((show List (El k3)from y).take (nC m n)).drop (kE l)->ws=[Wr.s d (.one (.val (.sl e k3) p Tg))]->dn P cx o a w (aB ws Z):=by
        intro p q1 q2 hp hws
        rw[hws,hp]
        have hrun:=aoe (w:=w) ht (b:=b) f4 hl l2 hm m2 q1 q2
        have hlm:kE l<=nC m n/\nC m n<=n:=by
         unfold kE nC
         cases l with
         |none=>
          cases m with
          |none=>simp
          |some j=>have:=q1 j rfl;simp;omega
         |some i=>
          have h3:=q2 i rfl
          cases m with
          |none=>simp at h3 ⊢;omega
          |some j=>have:=q1 j rfl;simp at h3 ⊢;omega
        have hV:=TI (xs:=(show List (El k3)from y)) (by rw[f2]at g2;exact g2) hlm.1 hlm.2
        refine eP H hd hdn ?_ (show aR cx Z J F w (.val (.sl e k3) _ Tg) (.slice (if c=kE l then b else b.map (·.add (kE l*k3.size))) (nC m n-kE l) (c-kE l))from λ_=>⟨_,⟨rfl,by simp⟩,hV⟩) g3
        simp only[execOp,ho,f1,dG]
        rw[show(none:Option Operand).map a.eval=none from rfl,hrun]
        rfl
       have f3':((show List (El k3)from y).length:Int)=(n:Int):=by rw[f3]
       cases l with
       |none=>
        cases m with
        |none=>exact hgo (by simp) (by simp) (by simp only[kE,nC,Aq,kJ,Int.toNat_zero,u6];rw[f3,Ll]) (bu g5)
        |some j=>
         obtain⟨hc,h9⟩:=g5
         exact hgo (λi hi=>by simp only[aa]at hi;subst hi;rw[<-f3'];exact hc) (by simp) (by simp[kE,nC]) (bu h9)
       |some i=>
        cases m with
        |none=>
         obtain⟨hc,h9⟩:=g5
         exact hgo (by simp) (λi hi=>by simp only[aa]at hi;subst hi;simp only[Aq];rw[<-f3'];exact hc) (by simp only[kE,nC,Aq,sF,kJ];rw[f3,Ll]) (bu h9)
        |some j=>
         obtain⟨hc,h9⟩:=g5
         have hc':0<=i/\i<=j/\j<=((show List (El k3)from y).length:Int):=hc
         exact hgo (λi' hi=>by simp only[aa]at hi;subst hi;rw[<-f3'];exact⟨by omega,hc'.2.2⟩) (λi' hi=>by simp only[aa]at hi;subst hi;exact⟨hc'.1,hc'.2.1⟩) (by simp[kE,nC]) (bu h9)
     |_=>exact g4.elim
    cases u with
    |val k1 s Tg=>
     cases k1 with
     |str=>exact hstr rfl
     |_=>exact hsl h8
    |_=>exact hsl h8
end
end
section
open Go
variable [Fr]
section
variable {cx:Cx}{Z:St}{J:aF}{F:List Nat}{a:Act}{w:World}{r:Nat}{R:Root}
theorem Rel.lose(H:Rel cx Z J F a w)(hr:aU Z r R)(hv:cz Z R){l:List TypeId}(hl:l≠[]):∃J',Rel cx (aL Z r (zG R l)) J' F a w:=by
 have K:=H.roots r R hr
 have hnt:=H.fu r R hr.1
 have hsub:∀t,ah t (dV R.own l)=true->ah t R.own=true:=λt ht=>(nZ.1 ht).1
 obtain⟨lV,fd,hp1,hO⟩:=vo (own':=dV R.own l) (λt _ h=>hsub t h) (K.ow hv)
 have hfo:∀b∈lV,b∈J.fo r:=λb hb=>hp1.mem_iff.2 (bP _ hb)
 have IA:∀b∈fd,b∈J.fo r:=λb hb=>hp1.mem_iff.2 (bD _ hb)
 have hbk:∀b∈iF (zG R l) (J.loc r) lV,b∈blk J R r:=λb hb=>by
  rw[iN]
  rcases cZ.1 hb with h|h
  ·exact bP _ h
  ·exact bD _ (hfo b h)
 have hnd:=K.nd
 rw[iN]at hnd
 have NA:(iF R (J.loc r) (lV++fd)).Nodup:=by
  have:(iF R (J.loc r) (J.fo r)).Perm (iF R (J.loc r) (lV++fd)):=yC _ hp1
  exact this.nodup_iff.1 hnd
 have V3:(iF R (J.loc r) lV++fd).Nodup:=by
  have e:iF R (J.loc r) (lV++fd)=iF R (J.loc r) lV++fd:=by simp[iF,fH]
  rw[<-e];exact NA
 have T1:sH cx Z J F w r R (zG R l) lV F w l []:=by
  refine⟨.inr ⟨rfl,rfl,bT _,rfl,λ_=>rfl,.inl hl⟩,⟨λt ht=>hnt.1 t ht,λn hn=>hnt.2.2 n hn⟩,⟨rfl,rfl,rfl⟩,bT _,λb _ hne=>absurd rfl hne,λ_ b hb=>.inl (hbk b hb),λb hb=>.inl hb,H.gD,λ_ b hb=>H.dM r R hr b (hbk b hb),λ_ _ _ _ _ _ _ _ hne=>absurd rfl hne,λ_=>⟨rfl,rfl⟩⟩
 have hcl0:∀tys,cu (aL Z r (zG R l)) tys R.tags=cu Z tys R.tags:=λtys=>uD hnt.2.2
 refine⟨aW J r (J.loc r) (J.hdr r) lV,T1.rel H hr (λ_=>⟨λhvn=>?_,K.len,λb o hb=>?_,?_⟩) ?_ ?_⟩
 ·refine dK (λ_ _=>rfl) (λb hb=>?_) (λ_ _=>rfl) hO
  have hblk:∀q Q,aU (aL Z r (zG R l)) q Q->b∈blk (aW J r (J.loc r) (J.hdr r) lV) Q q->(q=r/\b∈iF R (J.loc r) lV)\/(q≠r/\aU Z q Q/\b∈blk J Q q):=by
   intro q Q hq hbq
   by_cases e:q=r
   ·subst e
    obtain⟨rfl,_⟩:=nE hq
    rw[o8]at hbq
    exact .inl ⟨rfl,hbq⟩
   ·refine .inr ⟨e,(PN e).1 hq,?_⟩
    cases nV:Nat.beq q r with
    |true=>exact absurd (a_ nV) e
    |false=>simpa[blk,aK,aW,upd,nV]using hbq
  rcases hb with hb|hb
  ·obtain⟨g1,g2,g3,g4,g5⟩:=hb
   refine⟨g1,g2,g3,λq Q hq hbq=>?_,g5⟩
   rcases hblk q Q hq hbq with⟨rfl,h⟩|⟨_,h1,h2⟩
   ·exact g4 q R hr (hbk b h)
   ·exact g4 q Q h1 h2
  ·have hbb:b∈blk J R r:=bD _ (IA b hb)
   have hm:=K.mine b hbb
   refine⟨hm.1,H.dM r R hr b hbb,xu H hr (IA b hb),λq Q hq hbq=>?_,λh0=>?_⟩
   ·exfalso
    rcases hblk q Q hq hbq with⟨rfl,h⟩|⟨h,h1,h2⟩
    ·exact(dA.1 V3).2.2 b h b hb rfl
    ·exact H.jc q Q r R h1 hr h b h2 hbb
   ·rcases hm.2 with h|⟨j,pi,h1,h2⟩
    ·omega
    ·exact .inr ⟨j,pi,h1,h2⟩
 ·exact K.mem b o (by rw[x8];exact hb)
 ·have:=V3.sublist (List.sublist_append_left _ _)
  exact this
 ·intro _ p n v hn hold
  refine⟨hold.1,λQ hQ lF hcl hty hs=>?_⟩
  rw[fF]at hQ
  simp only[aa]at hQ
  subst hQ
  obtain⟨g1,cs,b,o,g2,g3⟩:=hold.2 R hr.1 hv hcl (λt ht=>hsub t (hty t ht)) hs
  refine⟨g1,cs,b,o,?_,g3⟩
  have e1:(aW J r (J.loc r) (J.hdr r) lV).hdr r=J.hdr r:=by simp[aW,upd_same]
  have e2:aK (aW J r (J.loc r) (J.hdr r) lV) (zG R l) r=aK J R r:=by rw[t_,x8];rfl
  rw[e1,e2]
  exact g2
 ·intro _ g v _ hold Q hQ hg
  obtain⟨rfl,_⟩:=nE hQ
  obtain⟨h1,h2⟩:=hold R hr hg
  refine⟨h1,?_⟩
  simp only[aW,upd_same]
  exact h2
theorem amH(H:Rel cx Z J F a w)(l:List TypeId)(r:Nat):∃J',Rel cx (PT l r Z) J' F a w:=by
 unfold PT
 split
 ·exact⟨_,H⟩
 ·rename_i hl
  split
  ·rename_i R hR
   cases hc:R.bV || !cu Z R.oO R.tags || !R.own.any (λt=>ah t l)with
   |true=>exact⟨_,H⟩
   |false=>
    simp only[Kz,Bool.not_eq_false']at hc
    exact H.lose (r:=r) (R:=R) ⟨hR,hc.1.1⟩ ⟨hc.1.1,hc.1.2⟩ (λh=>hl h)
  ·exact⟨_,H⟩
theorem PU(hi:Hint):∀(rs:List Nat) {Z:St} {J:aF},Rel cx Z J F a w->∃J',Rel cx (zK hi rs Z) J' F a w
 | [],_,_,H=>⟨_,H⟩
 |r :: rs,_,_,H=>by
  obtain⟨J',h⟩:=amH H (yZ (1000000+r) hi.less) r
  exact PU hi rs h
end
end
section
open Go
variable [Fr]
section
variable {cx:Cx}{Z:St}{J:aF}{F:List Nat}{a:Act}{w:World}{r:Nat}
theorem Z6(H:Rel cx Z J F a w)(hn:Z.roots r=none)(hx:fO r=false){e:TypeId}{k:K}{xs:List (El k)}{own:List TypeId}{tags:List Tag}{arr:Array Value}{lo hi n c:Nat}{au:List (List Nat)}{F1:List Nat}
  (hwt:fC Z tags) (hown:ah e own=true) (hfr:iE arr.size lo hi) (hnx:n=xs.length) (hnc:n<=c) (hca:c*k.size<=arr.size)
  (hfl:au.length=xs.length) (zf:∀b∈au.flatten,b∈F) (vP:au.flatten.Nodup) (hF1:∀b∈F1,b∈F/\b∉au.flatten) (agl:F1.Nodup)
  (hel:∀(i:Nat) (hi:i<xs.length),∃ds,ds.length=k.size/\(∀j,j<ds.length->arr[i*k.size+j]?=ds[j]?)/\Ow (hp w) own (λb=>aO cx Z J F w tags b\/(b∈F/\b∉F1/\b∉au.flatten)) k xs[i] ds (au.getD i [])) (kp:Bool) (dr:Nat) :
  ∃J' F',Rel cx (aL Z r (bL (.sl e k) xs own tags .anon kp)) J' F' a ((dw w dr).alloc (.cells arr e (lo,hi)))/\
   aR cx (aL Z r (bL (.sl e k) xs own tags .anon kp)) J' F' ((dw w dr).alloc (.cells arr e (lo,hi))) (.ref r 0) (.slice (some ⟨w.heap.size,0,none⟩) n c):=by
 have H0:=H.drawn dr
 obtain⟨H1,T1⟩:=H0.alloc (.cells arr e (lo,hi))
 have hsz:(dw w dr).heap.size=w.heap.size:=rfl
 have hnew:hp ((dw w dr).alloc (.cells arr e (lo,hi))) w.heap.size=some (.cells arr e (lo,hi)):=Bo (dw w dr) _
 have hold:∀b,b<w.heap.size->hp ((dw w dr).alloc (.cells arr e (lo,hi))) b=hp w b:=λb hb=>zw (dw w dr) _ hb
 have kS:w.heap.size∉F:=λh=>by have:=(H.fl _ h).1;omega
 have hv:aZ own (.sl e k)=aZ own k:=by simp[aZ,hown]
 obtain⟨J',k1,k2⟩:=Aw (k:=.sl e k) (x:=(xs:El (.sl e k))) (own:=own) (tags:=tags) (v:=.slice (some ⟨w.heap.size,0,none⟩) n c) (cs:=[.slice (some ⟨w.heap.size,0,none⟩) n c]) (fo:=w.heap.size :: au.flatten) (r:=r) (F':=F1) H1 hn hx
  (λb hb=>by
   rcases bH.1 hb with h|h
   ·subst h;exact jl
   ·exact ji _ (zf b h))
  (jB.2 ⟨λh=>kS (zf _ h),vP⟩) hwt
  (λb hb=>⟨ji _ (hF1 b hb).1,λh=>by
   rcases bH.1 h with h|h
   ·subst h;exact kS (hF1 _ hb).1
   ·exact(hF1 b hb).2 h⟩) agl rfl
  (λhc=>by
   rw[hv]at hc
   obtain⟨_,hV,_⟩:=T1.views H0 tags _ hwt hc
   unfold Ow
   rw[ak hown]
   refine⟨_,_,_,rfl,hnx,hnc,.inr ⟨w.heap.size,0,arr,lo,hi,rfl,hnew,hfr,by omega,au,hfl,.refl _,λi hi=>?_⟩⟩
   obtain⟨ds,h1,h2,h3⟩:=hel i hi
   refine⟨ds,λj hj=>?_,?_⟩
   ·unfold cellAt
    rw[hnew]
    simp only[jN]
    exact h2 j hj
   ·refine dK ?_ ?_ (λb hb=>hold b (H.fl b (zf b (tu hb))).1) (qE _ (λ_ h=>h) h3)
    ·rintro b ⟨hb|⟨hb,_⟩,_⟩
     ·exact hold b hb.1
     ·exact hold b (H.fl b hb).1
    ·rintro b ⟨hb|⟨g1,g2,g3⟩,hty⟩
     ·exact .inl (hV b hb (.inl hty)).1
     ·refine .inr ⟨ji _ g1,g2,λh=>?_⟩
      rcases bH.1 h with h|h
      ·subst h;exact kS g1
      ·exact g3 h) ⟨rfl,by simp⟩ kp
 exact⟨J',F1,k1,k2⟩
theorem Qk(H:Rel cx Z J F a w)(hn:Z.roots r=none)(hx:fO r=false){e:TypeId}{k:K}{xs:List (El k)}{own:List TypeId}{arr:Array Value}{lo hi n c:Nat}
  (hown:ah e own=true) (hfr:iE arr.size lo hi) (hnx:n=xs.length) (hnc:n<=c) (hca:c*k.size<=arr.size)
  (hel:∀(i:Nat) (hi:i<xs.length),∃ds,ds.length=k.size/\(∀j,j<ds.length->arr[i*k.size+j]?=ds[j]?)/\∀h ok,Ow h own ok k xs[i] ds []) (kp:Bool) (dr:Nat) :
  ∃J' F',Rel cx (aL Z r (bL (.sl e k) xs own [] .anon kp)) J' F' a ((dw w dr).alloc (.cells arr e (lo,hi)))/\
   aR cx (aL Z r (bL (.sl e k) xs own [] .anon kp)) J' F' ((dw w dr).alloc (.cells arr e (lo,hi))) (.ref r 0) (.slice (some ⟨w.heap.size,0,none⟩) n c):=by
 have hfl:(List.replicate xs.length ([]:List Nat)).flatten=[]:=by simp
 refine Z6 H hn hx (au:=List.replicate xs.length []) (F1:=F) (λt ht=>by simp at ht) hown hfr hnx hnc hca (by simp) (by rw[hfl];simp) (by rw[hfl];exact lM) (by rw[hfl];exact λb hb=>⟨hb,by simp⟩) H.gD ?_ kp dr
 intro i hi
 obtain⟨ds,h1,h2,h3⟩:=hel i hi
 refine⟨ds,h1,h2,?_⟩
 have:(List.replicate xs.length ([]:List Nat)).getD i []=[]:=by
  rw[mM (by simpa using hi)];simp
 rw[this]
 exact h3 _ _
end
end
section
open Go
variable [Fr]
section
variable {P:Program}{T:bF}{cx:Cx}{Z:St}{J:aF}{F:List Nat}{a:Act}{w:World}{o:Oper}{d:Nat}{ws:List Wr}
theorem cK.int{t:TypeId}{ik:IntKind}(h:cK P T t (.int ik)):P.underlying t=some (.int ik):=by
 unfold cK iV at h
 exact h.1
theorem cK.und{t:TypeId}{k:K}(h:cK P T t k):∃u,P.underlying t=some u:=by
 unfold cK iV at h
 cases k with
 |int ik=>exact⟨_,h.1⟩
 |bool=>exact⟨_,h.1⟩
 |id e=>exact⟨_,h.1⟩
 |str=>exact⟨_,h.1⟩
 |sl e k=>exact⟨_,h.1⟩
 |unit=>exact h.elim
 |pair a b=>exact h.elim
 |st c=>obtain⟨⟨fs,h1,_⟩,_⟩:=h;exact⟨_,h1⟩
 |gap n=>exact h.elim
theorem anz(ns:List Int):∀(s:ByteArray),(∀n∈ns,0<=n/\n<256)->bytesOf (ns.foldl (λr n=>r.push (UInt8.ofNat n.toNat)) s)=bytesOf s++ns:=by
 induction ns with
 |nil=>intro s _;simp
 |cons n ns ih=>
  intro s h
  rw[List.foldl_cons,ih _ (λm hm=>h m (by simp[hm]))]
  have h1:=h n (by simp)
  have:bytesOf (s.push (UInt8.ofNat n.toNat))=bytesOf s++[n]:=by
   unfold bytesOf
   simp only[ByteArray.push,Array.toList_push,Aj,jh,List.map_nil]
   congr 2
   simp
   omega
  rw[this]
  simp
theorem ad_{h:Heap}{ok:Nat->Prop}{xs:List Int}{bb q:Nat}(hes:∀(i:Nat) (hi:i<xs.length),∃ds,Cells h bb (q+i*1) ds/\Vw h ok (.int .u8) xs[i] ds) :
  Cells h bb q (xs.map (Value.int .u8))/\∀n∈xs,0<=n/\n<256:=by
 refine⟨λi hi=>?_,λn hn=>?_⟩
 ·simp only[oz]at hi
  obtain⟨ds,h1,h2,_⟩:=hes i hi
  have:=h1 0 (by rw[h2];simp)
  rw[h2]at this
  simp only[lN,Nat.mul_one,qC]at this
  rw[this]
  simp[hi]
 ·obtain⟨i,hi,rfl⟩:=u_.1 hn
  obtain⟨ds,_,_,h3⟩:=hes i hi
  exact h3
theorem aeX(hT:eG P T)(H:Rel cx Z J F a w)(hd:o.dst=some d)(hdn:d<cx.nt){s t:TypeId}{x:Operand}(ho:o.op=.convert s t x)
  (h:(dP x λa=>Mt T d s t a λws=>(.ret ws:Prog (List Wr))).ends Z ws):dn P cx o a w (aB ws Z):=by
 obtain⟨u,h1,h2,h5⟩:=iW H h
 have hrun:∀{v:Value} {w':World},(convert s t (a.eval x)).run P w=.ok v w'->(execOp a.eval o).run P w=.ok (.value v) w':=by
  intro v w' h
  simp only[execOp,ho,dG,h,eZ,dW]
 have hstr:∀{B:ByteArray},(convert s t (a.eval x)).run P w=.ok (.string B) w->dn P cx o a w (aB [Wr.s d (v1 .str (bytesOf B))] Z):=by
  intro B hr
  exact eP H hd hdn (hrun hr) (show aR cx Z J F w (.val .str (bytesOf B) []) _ from P8) nH
 unfold Mt at h5
 cases hs:T.ty s with
 |none=>rw[hs]at h5;exact h5.elim
 |some ks=>
  have hks:=hT.ty s ks hs
  cases ht:T.ty t with
  |none=>rw[hs,ht]at h5;cases ks<;>exact h5.elim
  |some kt=>
   have hkt:=hT.ty t kt ht
   rw[hs,ht]at h5
   obtain⟨us,hus⟩:=hks.und
   cases kt with
   |int ik=>
    have h6:(match u with
     |.val (.int _) n _=>(.ret [Wr.s d (v1 (.int ik) (ik.wrap n))]:Prog (List Wr))
     |_=>.fail).ends Z ws:=by cases ks<;>exact h5
    split at h6
    ·obtain⟨e1,e2⟩:=xV h1
     rw[bu h6]
     refine eP H hd hdn (hrun ?_) (oh ik (rW _ _)) nH
     rw[e1]
     unfold convert
     simp only[dG,gu hus,gu hkt.int,Result.andThen]
     rfl
    ·exact h6.elim
   |str=>
    cases ks with
    |str=>
     simp only at h5
     split at h5
     ·obtain⟨B,e1,e2⟩:=xW h1
      subst e2
      rw[bu h5]
      refine hstr ?_
      rw[e1]
      unfold convert
      simp only[dG,gu hks.str,gu hkt.str,Result.andThen]
      rfl
     ·exact h5.elim
    |sl e k1=>
     cases k1 with
     |int BC=>
      cases BC with
      |u8=>
       obtain⟨hu,he,_,_⟩:=hks.sl
       have hgo:∀{b:Option Addr} {n c:Nat} {xs:List Int},a.eval x=.slice b n c->n=xs.length->(0<n->∃bb q,b=some ⟨bb,q,none⟩/\∀(i:Nat) (hi:i<xs.length),∃ds,Cells (hp w) bb (q+i*1) ds/\Vw (hp w) (λ_=>True) (.int .u8) xs[i] ds)->
         ws=[Wr.s d (v1 .str xs)]->dn P cx o a w (aB ws Z):=by
        intro b n c xs e hn hes hws
        have hcv:(convert s t (a.eval x)).run P w=(Conv.bytesToString (.slice b n c)).run P w:=by
         rw[e]
         unfold convert
         simp only[dG,gu hu,gu hkt.str,gu he.int,Result.andThen]
        cases b with
        |none=>
         have hx0:xs=[]:=by
          cases xs with
          |nil=>rfl
          |cons y ys=>
           obtain⟨bb,q,h0,_⟩:=hes (by rw[hn];simp)
           simp at h0
         subst hx0
         rw[hws]
         exact hstr (B:=ByteArray.empty) (hcv.trans rfl)
        |some ad=>
         by_cases h0:0<n
         ·obtain⟨bb,q,e0,hes'⟩:=hes h0
          simp only[aa]at e0
          subst e0
          obtain⟨g1,g2⟩:=ad_ hes'
          have hl:(loadCells ⟨bb,q,none⟩ n).run P w=.ok (xs.map (Value.int .u8)).toArray w:=by
           have:=run_loadCells_list (P:=P) w ⟨bb,q,none⟩ (xs.map (Value.int .u8)) (λj v hj=>by
            rw[addr_add,uC,g1 j (nL.1 hj).1]
            exact hj)
           simpa[hn]using this
          have hb:=run_bytesToString w ⟨bb,q,none⟩ n c xs hl
          have hbe:=anz xs ByteArray.empty g2
          have:xs=bytesOf (xs.foldl (λr n=>r.push (UInt8.ofNat n.toNat)) ByteArray.empty):=by rw[hbe];rfl
          rw[hws,this]
          exact hstr (hcv.trans hb)
         ·have hx0:xs=[]:=qB (by omega)
          subst hx0
          have hn0:n=0:=by omega
          subst hn0
          have hl:(loadCells ad 0).run P w=.ok (([]:List Int).map (Value.int .u8)).toArray w:=rfl
          have hb:=run_bytesToString w ad 0 c [] hl
          rw[hws]
          exact hstr (B:=ByteArray.empty) (hcv.trans hb)
       cases u with
       |eH=>
        obtain⟨b,e⟩:=h1
        exact hgo (xs:=[]) e rfl (λh=>by omega) (bu h5)
       |_=>
        obtain⟨k',y,Tg,cs,g1,g2,g3,g4⟩:=AB H h1 h2 h5
        cases k' with
        |sl e' k2=>
         cases k2 with
         |int IW=>
          cases IW with
          |u8=>
           obtain⟨b,n,c,f1,f2,f3,f4,f5⟩:=zQ g1 g2
           refine hgo (xs:=y) f1 f3 (λh0=>?_) (bu g4)
           obtain⟨bb,q,e0,_,_,hes⟩:=f5 h0
           exact⟨bb,q,e0,λi hi=>by
            obtain⟨ds,m1,m2⟩:=hes i hi
            exact⟨ds,m1,m2⟩⟩
          |_=>exact g4.elim
         |_=>exact g4.elim
        |_=>exact g4.elim
      |_=>exact h5.elim
     |_=>exact h5.elim
    |_=>exact h5.elim
   |sl e k1=>
    cases ks with
    |str=>
     cases k1 with
     |int BC=>
      cases BC with
      |u8=>
       simp only at h5
       split at h5
       ·obtain⟨B,e1,e2⟩:=xW h1
        subst e2
        obtain⟨g1,g2⟩:=nS h5
        rw[bu g2]
        obtain⟨hu,he,_,_⟩:=hkt.sl
        have hr:=run_bytes_of_string w s t e B hks.str hu he.int
        have hcap:=grownCap_ge w B.size 0 e
        have hsz:(bytesRow B (grownCap w B.size 0 e)).size=grownCap w B.size 0 e:=by
         simp[bytesRow]
         show B.data.size+_=_
         have:B.data.size=B.size:=rfl
         omega
        obtain⟨J',F',r1,r2⟩:=Qk (r:=aG d 0) (e:=e) (k:=.int .u8) (xs:=bytesOf B) (own:=[e]) (arr:=bytesRow B (grownCap w B.size 0 e)) (lo:=(bytesRow B (grownCap w B.size 0 e)).size) (hi:=(bytesRow B (grownCap w B.size 0 e)).size+1) (n:=B.size) (c:=grownCap w B.size 0 e) H g1 (nX d 0)
         (by simp[ah]) ⟨by omega,λi hi=>by omega⟩ (qF B).symm hcap (by simp[K.size,hsz])
         (λi hi=>by
          have hi':i<B.size:=by rw[<-qF B];exact hi
          refine⟨[Value.int .u8 (bytesOf B)[i]],rfl,λj hj=>?_,λh ok=>⟨rfl,rfl,?_⟩⟩
          ·simp only[aoZ]at hj
           have hj0:j=0:=by omega
           subst hj0
           have hid:i<B.data.size:=hi'
           simp only[K.size,Nat.mul_one,lN,qC]
           unfold bytesRow
           rw[Kv (by simpa using hid)]
           simp[bytesOf]
           exact⟨B.data[i],Array.getElem?_eq_getElem hid,rfl⟩
          ·have:=(bytesOf B)[i]
           have hm:(bytesOf B)[i]∈bytesOf B:=nM hi
           unfold bytesOf at hm
           obtain⟨y,_,hy⟩:=eD.1 hm
           show(0:Int)<=(bytesOf B)[i]/\(bytesOf B)[i]<256
           have hy':(y.toNat:Int)=(bytesOf B)[i]:=hy
           rw[<-hy']
           have:=y.toNat_lt
           omega) false (w.drawn+1)
        exact nk (x:=.one (.ref (aG d 0) 0)) r1 hd hdn (hrun (by rw[e1];exact hr)) r2 ⟨_,fF ..,.inr (dY _)⟩
       ·exact h5.elim
      |_=>exact h5.elim
     |_=>exact h5.elim
    |_=>
     cases k1 with
     |int BC=>cases BC<;>exact h5.elim
     |_=>exact h5.elim
   |_=>cases ks<;>exact h5.elim
end
end
section
open Go
variable [Fr]
section
variable {P:Program}{T:bF}{cx:Cx}{Z:St}{J:aF}{F:List Nat}{a:Act}{w:World}{o:Oper}{d:Nat}{ws:List Wr}
theorem Cu{k:K}(h:(∀a b,k≠.pair a b)/\k≠.unit/\∀n,k≠.gap n):(iK k).cells=(dI k).toArray:=by
 have:=(aaW h.1 h.2.1 h.2.2).cells
 apply qV
 simpa using this
theorem amN{z:Array Value}{n j:Nat}(h:j<n)(hz:0<z.size):(madeCells z n)[j]?=z[j%z.size]?:=by
 unfold madeCells
 have:j%z.size<z.size:=Nat.mod_lt _ hz
 simp[h,this]
theorem ae_(hT:eG P T)(H:Rel cx Z J F a w)(hd:o.dst=some d)(hdn:d<cx.nt){t:TypeId}{x y:Operand}
  (h:(match T.ty t with
   |some (.sl e kk)=>dP x λa=>dP y λb=>asInt a λik i=>asInt b λjk j=>bif rF ik .i64&&rF jk .i64 then
     .dO (i=j/\0<=i/\i*T.bytes e<=140737488355328) inferInstance (jD (aG d 0)
      (.ret [Wr.r (aG d 0) (some (bL (.sl e kk) (List.replicate i.toNat kk.zero) (e :: kk.tys) [] .anon)),Wr.s d (.one (.ref (aG d 0) 0))]))
    else(.fail:Prog (List Wr))
   |_=>.fail).ends Z ws) (ho:o.op=.makeSlice t x y):dn P cx o a w (aB ws Z):=by
 cases hty:T.ty t with
 |none=>rw[hty]at h;exact h.elim
 |some k0=>
  rw[hty]at h
  cases k0 with
  |sl e kk=>
   have ht:=hT.ty t _ hty
   simp only at h
   obtain⟨u,h1,_,h2⟩:=iW H h
   obtain⟨v,h3,_,h4⟩:=iW H h2
   obtain⟨ik,i,e1,_,h5⟩:=Dl h1 h4
   obtain⟨jk,j,e2,_,h6⟩:=Dl h3 h5
   rcases bz h6 with⟨_,h7⟩|⟨_,h7⟩
   ·obtain⟨⟨hij,h0,hb⟩,h8⟩:=h7
    obtain⟨g1,g2⟩:=nS h8
    rw[bu g2]
    obtain⟨hu,he,hk,ii,hi,hby,hpos⟩:=ht.sl
    obtain⟨i',hi',hs',hz'⟩:=he.info
    rw[hi]at hi'
    simp only[aa]at hi'
    subst hi'
    obtain⟨n,rfl⟩:∃n:Nat,i=n:=⟨i.toNat,by omega⟩
    subst hij
    have hbn:n*T.bytes e<=140737488355328:=by
     have:((n*T.bytes e:Nat):Int)<=140737488355328:=by simpa using hb
     omega
    have hn:n<=140737488355328:=by
     have:n*1<=n*T.bytes e:=Nat.mul_le_mul_left _ (by omega)
     omega
    have hbi:(ii.bytes:Int)*(n:Int)<=281474976710656:=by
     rw[hby]
     have:((T.bytes e*n:Nat):Int)<=281474976710656:=by rw[Nat.mul_comm];omega
     simpa using this
    have hr:=run_make (P:=P) w t e ii (iK kk) hu hi hz' ik jk (n:Int) (n:Int) (by omega) (Int.le_refl _) hbi (by omega)
    simp only[kJ,hs']at hr
    have hsh:=he.shape
    have hzc:=Cu hsh
    have Ed:∀h ok,Ow h (e :: kk.tys) ok kk kk.zero (dI kk) []:=λh ok=>FU he.fq (λt ht=>fA.2 (by simp[ht]))
    have hzl:(dI kk).length=kk.size:=eO (Ed (hp w) (λ_=>True))
    have hms:(madeCells (iK kk).cells (n*kk.size)).size=n*kk.size:=by simp[madeCells]
    obtain⟨J',F',r1,r2⟩:=Qk (r:=aG d 0) (e:=e) (k:=kk) (xs:=List.replicate n kk.zero) (own:=e :: kk.tys) (arr:=madeCells (iK kk).cells (n*kk.size)) (lo:=0) (hi:=0) (n:=n) (c:=n) H g1 (nX d 0)
     (fA.2 (by simp)) iE.zero (by simp) (bT _) (by rw[hms];exact bT _)
     (λi hi=>by
      have hi':i<n:=by simpa using hi
      refine⟨dI kk,hzl,λj hj=>?_,λh ok=>?_⟩
      ·have hlt:i*kk.size+j<n*kk.size:=by
        have:(i+1)*kk.size<=n*kk.size:=jC _ (by omega)
        rw[gX,kZ]at this
        omega
       rw[amN hlt (by rw[hzc];simp;omega),hzc]
       simp only[Al,hzl,List.getElem?_toArray]
       congr 1
       rw[Nat.mul_comm,Nat.mul_add_mod]
       exact Nat.mod_eq_of_lt (by omega)
      ·have:(List.replicate n kk.zero)[i]'hi=kk.zero:=by simp
       rw[this]
       exact Ed h ok) false w.drawn
    refine nk (x:=.one (.ref (aG d 0) 0)) r1 hd hdn ?_ r2 ⟨_,fF ..,.inr (dY _)⟩
    simp only[execOp,ho,e1,e2,dG,hr,eZ,dW]
    rfl
   ·exact h7.elim
  |_=>exact h.elim
end
end
section
open Go
variable [Fr]
section
variable {P:Program}{T:bF}{cx:Cx}{Z:St}{J:aF}{F:List Nat}{a:Act}{w:World}{o:Oper}{d:Nat}{ws:List Wr}
def Y8(mx:Bool):Value->Value->Sem Value:=if mx then Builtin.max2 else Builtin.min2
theorem amW{A:Type}{z:A}{mx:Bool}{ik:IntKind}{k:Int->Prog A}:∀{l:List AV} {vs:List Value} {x:Int},gU cx Z J F w l vs->kI ik x->(BP mx ik x l k).ends Z z->
  ∃y,(vs.foldlM (Y8 mx) (.int ik x)).run P w=.ok (.int ik y) w/\kI ik y/\(k y).ends Z z:=by
 intro l
 induction l with
 |nil=>
  intro vs x h1 hr h
  cases vs with
  |nil=>exact⟨x,rfl,hr,h⟩
  |cons v vs=>exact h1.elim
 |cons u l ih=>
  intro vs x h1 hr h
  cases vs with
  |nil=>exact h1.elim
  |cons v vs=>
   cases u with
   |val k1 y Tg=>
    cases k1 with
    |int jk=>
     simp only[BP]at h
     rcases bz h with⟨hk,h5⟩|⟨_,h5⟩
     ·have:=Ef hk
      subst this
      obtain⟨e1,e2⟩:=xV h1.1
      subst e1
      have hr':kI ik (if mx=true then(if(show Int from y)>x then y else x)else(if(show Int from y)<x then y else x)):=by
       split<;>split<;>assumption
      obtain⟨y',g1,g2,g3⟩:=ih h1.2 hr' h5
      refine⟨y',?_,g2,g3⟩
      rw[List.foldlM_cons,dG]
      have hstep:(Y8 mx (.int ik x) (.int ik y)).run P w=.ok (.int ik (if mx=true then(if(show Int from y)>x then y else x)else(if(show Int from y)<x then y else x))) w:=by
       cases mx<;>rfl
      rw[hstep]
      exact g1
     ·exact h5.elim
    |_=>exact h.elim
   |_=>exact h.elim
theorem UI(H:Rel cx Z J F a w)(hd:o.dst=some d)(hdn:d<cx.nt){c:Call}{mx:Bool}(ho:o.op=.call c)(hb:c.callee=.builtin (if mx then .max else .min))
  (h:(nu c.args.toList fun
   |.val (.int ik) x _ :: l=>BP mx ik x l λz=>.ret [Wr.s d (.one (.val (.int ik) z []))]
   |_=>(.fail:Prog (List Wr))).ends Z ws):dn P cx o a w (aB ws Z):=by
 obtain⟨vs,h1,h2,h5⟩:=uH H h
 split at h5
 ·rename_i ik x Tg l
  cases hl:c.args.toList with
  |nil=>rw[hl]at h1;exact h1.elim
  |cons y l'=>
   rw[hl]at h1
   obtain⟨e1,e2⟩:=xV h1.1
   obtain⟨z,g1,g2,g3⟩:=amW (P:=P) (w:=w) h1.2 e2 h5
   rw[bu g3]
   refine eP (v:=.int ik z) H hd hdn ?_ (P7 g2) (λt ht=>by simp at ht)
   obtain⟨cc,hcc⟩:=Cc (P:=P) (a:=a) (w:=w) ho hb
   rw[hcc]
   have hargs:(c.args.map a.eval).toList=.int ik x :: l'.map a.eval:=by rw[uf,hl,jh,e1]
   cases mx with
   |true=>
    have g1':(List.foldlM Builtin.max2 (Value.int ik x) (l'.map a.eval)).run P w=.ok (.int ik z) w:=g1
    simp only[bQ,builtin,Builtin.max_,hargs,dG,g1',eZ,dW]
   |false=>
    have g1':(List.foldlM Builtin.min2 (Value.int ik x) (l'.map a.eval)).run P w=.ok (.int ik z) w:=g1
    simp only[bY,bO,builtin,Builtin.min_,hargs,dG,g1',eZ,dW]
 ·exact h5.elim
end
end
section
open Go
variable [Fr]
theorem fold_at:∀(vs:List Value) (k off:Nat) (cells:Array Value),off+k+vs.length<=cells.size->
  ((vs.zipIdx k).foldl (λcs (p:Value×Nat)=>cs.setIfInBounds (off+p.2) p.1) cells).size=cells.size/\
  ∀i,((vs.zipIdx k).foldl (λcs (p:Value×Nat)=>cs.setIfInBounds (off+p.2) p.1) cells)[i]?=if off+k<=i/\i<off+k+vs.length then vs[i-(off+k)]? else cells[i]?:=by
 intro vs
 induction vs with
 |nil=>intro k off cells h;exact⟨rfl,λi=>by simp;omega⟩
 |cons v vs ih=>
  intro k off cells h
  simp only[iT]at h
  simp only[List.zipIdx_cons,List.foldl_cons]
  obtain⟨g1,g2⟩:=ih (k+1) off (cells.setIfInBounds (off+k) v) (by simp;omega)
  refine⟨by rw[g1];simp,λi=>?_⟩
  rw[g2 i]
  simp only[iT]
  by_cases h1:off+(k+1)<=i/\i<off+(k+1)+vs.length
  ·rw[ak h1,ak (by omega)]
   have:i-(off+k)=(i-(off+(k+1)))+1:=by omega
   rw[this,Ti]
  ·rw[aj h1]
   by_cases h2:i=off+k
   ·subst h2
    rw[ak (by omega),Q8 (by omega),Ao]
    rfl
   ·rw[aj (by omega),Q7 (by omega)]
theorem af8(vs:List Value)(off:Nat)(cells:Array Value)(h:off+vs.length<=cells.size) :
  (vs.zipIdx.foldl (λcs (p:Value×Nat)=>cs.setIfInBounds (off+p.2) p.1) cells)=(cells.toList.take off++(vs++cells.toList.drop (off+vs.length))).toArray:=by
 obtain⟨g1,g2⟩:=fold_at vs 0 off cells (by omega)
 apply Array.ext_getElem?
 intro i
 rw[g2 i]
 simp only[lN,List.getElem?_toArray]
 by_cases h1:i<off
 ·rw[aj (by omega),uo (by simp;omega),CZ h1]
  simp
 ·by_cases h2:i<off+vs.length
  ·rw[ak (by omega),u7 (by simp;omega),uo (by simp;omega)]
   congr 1
   simp
   omega
  ·rw[aj (by omega),u7 (by simp;omega),u7 (by simp;omega),yD]
   rw[qW]
   congr 1
   simp
   omega
theorem MU{place:Nat->Option (Nat×Nat)}{cells:Array Value}{i off:Nat}{v:Value}{vs:List Value}{rest:List (Nat×Value)}(hp:place i=some (off,vs.length))(hv:v.cells=vs.toArray)(hl:off+vs.length<=cells.size) :
  Instr.fill place cells ((i,v) :: rest)=Instr.fill place (cells.toList.take off++(vs++cells.toList.drop (off+vs.length))).toArray rest:=by
 rw[<-af8 vs off cells hl]
 conv=>lhs;unfold Instr.fill
 rw[hp]
 simp only[hv,Al,ne_eq,not_true_eq_false,dL,FX,bN]
 rw[aj (by omega)]
 simp
def uA:List (Nat×dS)->uU->Option uU
 | [],b=>some b
 |(n,tk) :: l,b=>match b.k,b.x with
  |.st c,x=>match aM n c x with
   |some d=>bif tk.k.beq d.1 then
     match dh n c x ⟨tk.k,tk.x⟩with
     |some z=>uA l { k:=.st z.1,x:=z.2,bad:=tk.bad++b.bad,tags:=jS tk.gV b.tags,ws:=b.ws++tk.ws,keep:=tk.keep||b.keep,all:=tk.tags++b.all }
     |none=>none
    else none
   |none=>none
  |_,_=>none
section
variable {P:Program}{T:bF}{cx:Cx}{Z:St}{J:aF}{F:List Nat}{a:Act}{w:World}
theorem Uj{A:Type}{z:A}(H:Rel cx Z J F a w){k:uU->Prog A}:∀{l:List (Nat×AV)} {vs:List Value} {b:uU},gU cx Z J F w (l.map (·.2)) vs->(∀v∈l,dB Z v.2)->(yO l b k).ends Z z->
  ∃(tks:List dS) (b':uU),tks.length=l.length/\vs.length=l.length/\(∀it∈vs.zip tks,p_ cx Z J F w it.1 it.2)/\uA ((l.map (·.1)).zip tks) b=some b'/\(k b').ends Z z:=by
 intro l
 induction l with
 |nil=>
  intro vs b h1 _ h
  cases vs with
  |nil=>exact⟨[],b,rfl,rfl,by simp,rfl,h⟩
  |cons v vs=>exact h1.elim
 |cons p l ih=>
  obtain⟨n,x⟩:=p
  intro vs b h1 h2 h
  cases vs with
  |nil=>exact h1.elim
  |cons v vs=>
   obtain⟨bk,bx,ad2,ad7,bws,ad5,ad1⟩:=b
   cases bk with
   |st c=>
    simp only[yO]at h
    cases hg:aM n c bx with
    |none=>rw[hg]at h;exact h.elim
    |some d=>
     rw[hg]at h
     simp only at h
     obtain⟨tk,htk,h5⟩:=xS H h1.1 (h2 (n,x) (by simp)) h
     rcases bz h5 with⟨hk,h6⟩|⟨_,h6⟩
     ·cases hp:dh n c bx ⟨tk.k,tk.x⟩with
      |none=>rw[hp]at h6;exact h6.elim
      |some zz=>
       rw[hp]at h6
       obtain⟨tks,b',g1,g2,g3,g4,g5⟩:=ih h1.2 (λv hv=>h2 v (by simp[hv])) h6
       refine⟨tk :: tks,b',by simp[g1],by simp[g2],?_,?_,g5⟩
       ·intro it hit
        rw[yF]at hit
        rcases bH.1 hit with h|h
        ·subst h;exact htk
        ·exact g3 it h
       ·rw[jh,yF]
        unfold uA
        simp only[hg,hk,fJ,hp]
        exact g4
     ·exact h6.elim
   |_=>exact h.elim
end
end
section
open Go
variable [Fr]
def wP(h:Heap)(own:List TypeId)(ok:Nat->Prop):List (Nat×dS)->List Value->List (List Nat)->Prop
 | [],[],[]=>True
 |p :: l,v :: vs,ft :: gN=>(∃cs,VC p.2.k v cs/\Ow h own ok p.2.k p.2.x cs ft)/\wP h own ok l vs gN
 |_,_,_=>False
theorem Uh{h:Heap}{own:List TypeId}{ok:Nat->Prop}{place:Nat->Option (Nat×Nat)}{c:K}(hpl:∀n off k,bI n c=some (off,k)->place n=some (off,k.size)) :
  ∀(l:List (Nat×dS)) {vs:List Value} {gN:List (List Nat)} {x:El c} {cs:List Value} {fo:List Nat} {bad:List TypeId} {tags:List Tag} {ws:List Wr} {kp:Bool} {all:List Tag} {b':uU},
   Ow h own ok c x cs fo->wP h own ok l vs gN->uA l ⟨.st c,x,bad,tags,ws,kp,all⟩=some b'->
   ∃(x':El c) (cs':List Value) (bE rest:List Nat) (bad':List TypeId) (tags':List Tag) (ws':List Wr) (kp':Bool) (all':List Tag),b'=⟨.st c,x',bad',tags',ws',kp',all'⟩/\Ow h own ok c x' cs' bE/\(fo++gN.flatten).Perm (bE++rest)/\
    Instr.fill place cs.toArray ((l.map (·.1)).zip vs)=some cs'.toArray:=by
 intro l
 induction l with
 |nil=>
  intro vs gN x cs fo bad tags ws kp all b' H hP hb
  cases vs with
  |nil=>
   cases gN with
   |nil=>
    simp only[uA,aa]at hb
    exact⟨x,cs,fo,[],bad,tags,ws,kp,all,hb.symm,H,by simp,rfl⟩
   |cons f fs=>exact hP.elim
  |cons v vs=>cases gN<;>exact hP.elim
 |cons p l ih=>
  obtain⟨n,tk⟩:=p
  intro vs gN x cs fo bad tags ws kp all b' H hP hb
  cases vs with
  |nil=>cases gN<;>exact hP.elim
  |cons v vs=>
   cases gN with
   |nil=>exact hP.elim
   |cons ft gN=>
    obtain⟨⟨cst,hv,hO⟩,hP'⟩:=hP
    unfold uA at hb
    simp only at hb
    cases hg:aM n c x with
    |none=>rw[hg]at hb;simp at hb
    |some d=>
     rw[hg]at hb
     simp only at hb
     cases hk:tk.k.beq d.1 with
     |false=>rw[hk]at hb;simp at hb
     |true=>
      rw[hk]at hb
      simp only[fJ]at hb
      cases hp:dh n c x ⟨tk.k,tk.x⟩with
      |none=>rw[hp]at hb;simp at hb
      |some z=>
       rw[hp]at hb
       simp only at hb
       have ek:=K.eq_of_beq hk
       have ez:=Ut n hg hp ek
       obtain⟨off,pre,cs1,post,aS,fr,ho,ec,hl,hpf,hd,hu,_⟩:=H8 n H hg
       have r:=hu h ok ⟨tk.k,tk.x⟩ cst ft z hp hO (λb hb=>⟨hb,rfl⟩) (λ_ _=>rfl)
       obtain⟨zk,zx⟩:=z
       simp only at ez
       subst ez
       obtain⟨x',cs',bE,rest,bad',tags',ws',kp',all',g1,g2,g3,g4⟩:=ih r hP' hb
       refine⟨x',cs',bE,aS++rest,bad',tags',ws',kp',all',g1,g2,?_,?_⟩
       ·simp only[oW]
        have s1:(fo++(ft++gN.flatten)).Perm ((aS++fr)++(ft++gN.flatten)):=uY _ hpf
        have s2:((aS++fr)++(ft++gN.flatten)).Perm (aS++((ft++fr)++gN.flatten)):=by
         rw[fH]
         refine yC _ ?_
         rw[<-fH]
         exact uY _ Lj
        exact s1.trans (s2.trans ((yC _ g3).trans BV))
       ·rw[jh,yF]
        have hcl:cst.length=d.1.size:=by rw[eO hO,ek]
        have jm:v.cells=cst.toArray:=by
         have:=hv.cells
         apply qV
         simpa using this
        rw[MU (off:=off) (vs:=cst) (by rw[hcl];exact hpl n off d.1 ho) jm (by rw[ec];simp;have:=eO hd;omega)]
        have e2:(cs.toArray.toList.take off++(cst++cs.toArray.toList.drop (off+cst.length)))=pre++(cst++post):=by
         have hd1:=eO hd
         simp only
         rw[ec,<-hl]
         simp[hcl,<-hd1]
        rw[e2]
        exact g4
end
section
open Go
variable [Fr]
theorem Ui:∀(l:List (Nat×dS)) {b b':uU},uA l b=some b'->
  b'.ws=b.ws++l.flatMap (λp=>p.2.ws)/\(∀p∈l,∀t∈p.2.tags,t∈b'.all)/\(∀t∈b.all,t∈b'.all)/\(∀p∈l,∀t∈p.2.bad,t∈b'.bad)/\(∀t∈b.bad,t∈b'.bad)/\
  (∀p∈l,∀t∈p.2.gV,t∈b'.tags)/\(∀t∈b.tags,t∈b'.tags)/\(∀t∈b'.tags,t∈b.tags\/∃p∈l,t∈p.2.gV):=by
 intro l
 induction l with
 |nil=>
  intro b b' h
  simp only[uA,aa]at h
  subst h
  simp
 |cons p l ih=>
  obtain⟨n,tk⟩:=p
  intro b b' h
  obtain⟨bk,bx,ad2,ad7,bws,ad5,ad1⟩:=b
  cases bk with
  |st c=>
   unfold uA at h
   simp only at h
   cases hg:aM n c bx with
   |none=>rw[hg]at h;simp at h
   |some d=>
    rw[hg]at h
    simp only at h
    cases hk:tk.k.beq d.1 with
    |false=>rw[hk]at h;simp at h
    |true=>
     rw[hk]at h
     simp only[fJ]at h
     cases hp:dh n c bx ⟨tk.k,tk.x⟩with
     |none=>rw[hp]at h;simp at h
     |some z=>
      rw[hp]at h
      simp only at h
      obtain⟨g1,g2,g3,g4,g5,g6,g7,g8⟩:=ih h
      refine⟨by rw[g1];simp,?_,λt ht=>g3 t (by simp[ht]),?_,λt ht=>g5 t (by simp[ht]),?_,λt ht=>g7 t (kF.2 (.inr ht)),?_⟩
      ·intro p hp t ht
       rcases bH.1 hp with h|h
       ·subst h;exact g3 t (by simp[ht])
       ·exact g2 p h t ht
      ·intro p hp t ht
       rcases bH.1 hp with h|h
       ·subst h;exact g5 t (by simp[ht])
       ·exact g4 p h t ht
      ·intro p hp t ht
       rcases bH.1 hp with h|h
       ·subst h;exact g7 t (kF.2 (.inl ht))
       ·exact g6 p h t ht
      ·intro t ht
       rcases g8 t ht with h|⟨p,h1,h2⟩
       ·rcases kF.1 h with h|h
        ·exact .inr ⟨(n,tk),by simp,h⟩
        ·exact .inl h
       ·exact .inr ⟨p,by simp[h1],h2⟩
  |_=>simp[uA]at h
theorem wP.mono{h:Heap}{own:List TypeId}{ok ok':Nat->Prop}(hk:∀b,ok b->ok' b):∀{l:List (Nat×dS)} {vs:List Value} {gN:List (List Nat)},wP h own ok l vs gN->wP h own ok' l vs gN
 | [],[],[],_=>trivial
 |_ :: _,_ :: _,_ :: _,hP=>⟨by obtain⟨cs,h1,h2⟩:=hP.1;exact⟨cs,h1,dK (λ_ _=>rfl) hk (λ_ _=>rfl) h2⟩,wP.mono hk hP.2⟩
 | [],[],_ :: _,hP=>hP.elim
 | [],_ :: _,_,hP=>hP.elim
 |_ :: _,[],_,hP=>hP.elim
 |_ :: _,_ :: _,[],hP=>hP.elim
section
variable {cx:Cx}{Z:St}{J:aF}{F:List Nat}{w:World}
theorem Qf{own':List TypeId}{T:List Tag}:∀(items:List (Nat×Value×dS)) {hs:List (List Value×List Nat)},sw cx Z J F w (items.map (·.2)) hs->(∀it∈items,∀t∈it.2.2.bad,ah t own'=false)->(∀it∈items,∀t∈it.2.2.gV,t∈T)->
  ∃(gN:List (List Nat)) (nQ:List Nat),(hs.flatMap (·.2)).Perm (gN.flatten++nQ)/\wP (hp w) own' (λb=>aO cx Z J F w T b\/b∈nQ) (items.map λp=>(p.1,p.2.2)) (items.map (·.2.1)) gN:=by
 intro items
 induction items with
 |nil=>
  intro hs h _ _
  cases hs with
  |nil=>exact⟨[],[],by simp,trivial⟩
  |cons _ _=>exact h.elim
 |cons it items ih=>
  obtain⟨n,v,tk⟩:=it
  intro hs h hbad htag
  cases hs with
  |nil=>exact h.elim
  |cons hd hs=>
   obtain⟨cs,fo⟩:=hd
   obtain⟨⟨h1,h2,h3⟩,h4⟩:=h
   obtain⟨gN,nQ,g1,g2⟩:=ih h4 (λit hit=>hbad it (by simp[hit])) (λit hit=>htag it (by simp[hit]))
   have hO:=h2.ow h3
   have hO2:Ow (hp w) tk.own (λb=>aO cx Z J F w T b) tk.k tk.x cs fo:=by
    cases hb:tk.bad with
    |nil=>exact lq hb hO
    |cons t0 l=>
     have e:tk.gV=tk.tags:=by unfold dS.gV;rw[hb]
     exact dK (λ_ _=>rfl) (λb hb=>zM hb (λt ht=>htag (n,v,tk) (by simp) t (by show t∈tk.gV;rw[e];exact ht))) (λ_ _=>rfl) hO
   obtain⟨ft,iO,p1,p2⟩:=vo (own':=own') (λt ht hm=>by
    rcases FT (own:=tk.own) ht with h|h
    ·have:=hbad (n,v,tk) (by simp) t h
     rw[hm]at this
     simp at this
    ·exact h) hO2
   refine⟨ft :: gN,iO++nQ,?_,⟨cs,h1,dK (λ_ _=>rfl) (λb hb=>?_) (λ_ _=>rfl) p2⟩,g2.mono (λb hb=>?_)⟩
   ·simp only[kK,oW]
    refine(p1.append g1).trans ?_
    simp only[fH]
    refine yC _ ?_
    exact BV
   ·rcases hb with hb|hb
    ·exact .inl hb
    ·exact .inr (by simp[hb])
   ·rcases hb with hb|hb
    ·exact .inl hb
    ·exact .inr (by simp[hb])
end
end
section
open Go
variable [Fr]
theorem anv{P:Program}{T:bF}:∀{c:K} {fs:List Field} {tH:Nat},(iV P T c).2 fs tH->
  ∃places,fs.mapM (λf=>(P.info? f.type).map λi=>(f.offset,i.size))=some places/\∀n off k,bI n c=some (off,k)->places[n]?=some (tH+off,k.size):=by
 intro c
 induction c with
 |unit=>
  intro fs tH h
  have h':fs=[]:=h
  subst h'
  exact⟨[],rfl,λn off k ho=>by cases n<;>simp[bI]at ho⟩
 |pair a b iha ihb=>
  intro fs tH h
  cases fs with
  |nil=>exact h.elim
  |cons f fs=>
   obtain⟨h1,h2,h3,h4⟩:=h
   obtain⟨pl,g1,g2⟩:=ihb h4
   obtain⟨i,i1,i2,_⟩:=cK.info (show cK P T f.type a from h2)
   refine⟨(tH,a.size) :: pl,?_,?_⟩
   ·rw[C8,i1,g1]
    simp[h1,i2]
   ·intro n off k ho
    cases n with
    |zero=>
     simp only[bI,aa,bK]at ho
     obtain⟨rfl,rfl⟩:=ho
     rfl
    |succ n=>
     simp only[bI]at ho
     cases h5:bI n b with
     |none=>rw[h5]at ho;simp at ho
     |some q=>
      rw[h5]at ho
      simp only[aa,bK]at ho
      rw[Ti,g2 n q.1 q.2 (by rw[h5]),<-ho.1,<-ho.2]
      congr 2
      omega
 |_=>intro fs tH h;exact h.elim
theorem Mc{P:Program}{T:bF}{t:TypeId}{c:K}(ht:cK P T t (.st c)):∃place:Nat->Option (Nat×Nat),(∀n off k,bI n c=some (off,k)->place n=some (off,k.size))/\
  ∀parts,P.built t parts=Instr.fill place (dI c).toArray parts:=by
 obtain⟨fs,hu,hf⟩:=ht.st
 obtain⟨i,i1,i2,i3⟩:=ht.info
 obtain⟨pl,g1,g2⟩:=anv hf
 refine⟨(pl.toArray[·]?),λn off k ho=>?_,λparts=>?_⟩
 ·have:=g2 n off k ho
  simpa using this
 ·unfold Program.built
  rw[i1,hu]
  simp only[i3,g1]
  rfl
theorem zU{h:Heap}{own:List TypeId}{ok:Nat->Prop}:∀{k:K},fq k=true->Ow h own ok k k.zero (dI k) []:=by
 intro k
 induction k with
 |int ik=>intro _;exact⟨rfl,rfl,by cases ik<;>simp[kI,K.zero]⟩
 |bool=>intro _;exact⟨rfl,rfl⟩
 |id e=>intro _;exact⟨rfl,by show _=[Fr.BB 0];rw[Fr.Wz];rfl⟩
 |str=>intro _;exact⟨rfl,ByteArray.empty,rfl,rfl⟩
 |sl e k ih=>intro _;exact Fp
 |unit=>intro _;exact⟨rfl,rfl⟩
 |pair a b iha ihb=>
  intro hg
  simp[fq]at hg
  exact⟨dI a,dI b,[],[],rfl,.refl _,iha hg.1,ihb hg.2⟩
 |st f ih=>intro hg;exact ih hg
 |gap n=>intro hg;simp[fq]at hg
theorem QL{cx:Cx}{Z:St}{J:aF}{F:List Nat}{w:World}{r:Nat}(hn:Z.roots r=none):∀{l:List (Value×dS)},(∀it∈l,p_ cx Z J F w it.1 it.2)->r∉(cO l).flatMap Wr.dR:=by
 intro l h hm
 simp only[cO,nN]at hm
 obtain⟨wr,⟨it,hit,hw⟩,hr⟩:=hm
 cases h it hit with
 |held hws cs hv hh hc=>rw[hws]at hw;simp at hw
 |ref q R hlr hv e hk hd=>
  rw[e]at hw
  simp only[gW]at hw
  subst hw
  simp only[Wr.dR,gW]at hr
  rw[hr,hlr.1]at hn
  simp at hn
 |cut q R cs hlr hv hk e hd hl qO how=>
  rw[e.2.2.1]at hw
  simp only[gW]at hw
  subst hw
  simp only[Wr.dR,gW]at hr
  rw[hr,hlr.1]at hn
  simp at hn
 |gap q R p dd z hlr hv hg hz b_ hown hpv e hnn=>
  rw[e]at hw
  simp only[gW]at hw
  subst hw
  simp only[Wr.dR,gW]at hr
  rw[hr,hlr.1]at hn
  simp at hn
theorem Q3:∀(ns:List Nat) (vs:List Value) (ts:List dS),ns.length=ts.length->vs.length=ts.length->
  ((ns.zip (vs.zip ts)).map (·.2)=vs.zip ts)/\((ns.zip (vs.zip ts)).map (λp=>(p.1,p.2.2))=ns.zip ts)/\((ns.zip (vs.zip ts)).map (·.2.1)=vs)/\(cO (vs.zip ts)=(ns.zip ts).flatMap (λp=>p.2.ws)):=by
 intro ns
 induction ns with
 |nil=>
  intro vs ts h1 h2
  cases ts with
  |nil=>cases vs with
   |nil=>exact⟨rfl,rfl,rfl,rfl⟩
   |cons _ _=>simp at h2
  |cons _ _=>simp at h1
 |cons n ns ih=>
  intro vs ts h1 h2
  cases ts with
  |nil=>simp at h1
  |cons t ts=>
   cases vs with
   |nil=>simp at h2
   |cons v vs=>
    obtain⟨g1,g2,g3,g4⟩:=ih vs ts (by simpa using h1) (by simpa using h2)
    refine⟨by simp[g1],by simp[g2],by simp[g3],?_⟩
    unfold cO at g4 ⊢
    simp[g4]
end
section
open Go
variable [Fr]
section
variable {P:Program}{T:bF}{cx:Cx}{Z:St}{J:aF}{F:List Nat}{a:Act}{w:World}{o:Oper}{d:Nat}{ws:List Wr}
theorem Iw:∀{l:List (Value×dS)} {hs:List (List Value×List Nat)},sw cx Z J F w l hs->∀b∈hs.flatMap (·.2),b∈F
 | [],[],_,b,hb=>by simp at hb
 |_ :: _,hd :: hs,h,b,hb=>by
  simp only[kK,cZ]at hb
  rcases hb with hb|hb
  ·exact h.1.2.1.sub b hb
  ·exact Iw h.2 b hb
 | [],_ :: _,h,_,_=>h.elim
 |_ :: _,[],h,_,_=>h.elim
theorem Iy:∀{l:List (Value×dS)} {hs:List (List Value×List Nat)},sw cx Z J F w l hs->∀it∈l,fC Z it.2.tags
 | [],[],_,it,hi=>by simp at hi
 |_ :: _,hd :: hs,h,it,hi=>by
  rcases bH.1 hi with hi|hi
  ·subst hi;exact h.1.2.1.wt
  ·exact Iy h.2 it hi
 | [],_ :: _,h,_,_=>h.elim
 |_ :: _,[],h,_,_=>h.elim
theorem UH(hT:eG P T)(H:Rel cx Z J F a w)(hd:o.dst=some d)(hdn:d<cx.nt){t:TypeId}{ps:Array (Nat×Operand)}
  (h:(match T.ty t with
   |some (.st c)=>uI ps.toList λl=>yO l ⟨.st c,(K.st c).zero,[],[],[],false,[]⟩ λb=>bif !qw b.ws b.all then .fail else bif b.k.tys.all λt=>ah t b.bad then
     .ret (b.ws++[Wr.s d (.one (.val b.k b.x b.tags))])
    else jD (aG d 0) (.ret (b.ws++[Wr.r (aG d 0) (some (bL b.k b.x (dV b.k.tys b.bad) b.tags .anon b.keep)),Wr.s d (.one (.ref (aG d 0) 0))]))
   |_=>(.fail:Prog (List Wr))).ends Z ws) (ho:o.op=.build t ps):dn P cx o a w (aB ws Z):=by
 cases hty:T.ty t with
 |none=>rw[hty]at h;exact h.elim
 |some k0=>
  rw[hty]at h
  cases k0 with
  |st c=>
   have ht:=hT.ty t _ hty
   simp only at h
   obtain⟨vs,e1,h1,h2,h3⟩:=MQ H h
   obtain⟨tks,b',l1,l2,qh,xz,h4⟩:=Uj H h1 h2 h3
   have hlen:vs.length=tks.length:=l1.symm
   have DZ:(vs.map (·.1)).length=tks.length:=by rw[oz];exact hlen
   have zA:((evs a ps.toList).map (·.2)).length=tks.length:=by rw[l2];exact hlen
   generalize hns:vs.map (·.1)=ns at *
   generalize hvv:(evs a ps.toList).map (·.2)=vals at *
   obtain⟨z1,z2,z3,z4⟩:=Q3 ns vals tks DZ zA
   obtain⟨f1,f2,f3,f4,f5,f6,f7,f8⟩:=Ui _ xz
   simp only[jq]at f1
   rcases bz h4 with⟨_,h5⟩|⟨hws,h5⟩
   ·exact h5.elim
   ·have pz:qw b'.ws b'.all=true:=by simpa using hws
    unfold qw at pz
    simp only[bg]at pz
    have hw1:=Dk.1 pz.1
    have hw2:=HV.1 pz.2
    rw[f1,<-z4]at hw1 hw2
    obtain⟨J',F',hs,H',hA,hnd,hnF,M5,hS,_⟩:=takes (vals.zip tks) H qh hw1 (λtg dU=>hw2 tg (by
     obtain⟨it,hit,h6⟩:=nN.1 dU
     have:it∈(ns.zip (vals.zip tks)).map (·.2):=by rw[z1];exact hit
     obtain⟨q,hq,rfl⟩:=eD.1 this
     exact f2 (q.1,q.2.2) (by rw[<-z2];exact eD.2 ⟨q,hq,rfl⟩) tg h6))
    have xx:=hA
    rw[<-z1]at hA
    obtain⟨gN,nQ,p1,p2⟩:=Qf (own':=dV (K.st c).tys b'.bad) (T:=b'.tags) (ns.zip (vals.zip tks)) hA
     (λit hit tg dU=>by
      cases hm:ah tg (dV (K.st c).tys b'.bad)with
      |false=>rfl
      |true=>exact absurd (f4 (it.1,it.2.2) (by rw[<-z2];exact eD.2 ⟨it,hit,rfl⟩) tg dU) (nZ.1 hm).2)
     (λit hit tg dU=>f6 (it.1,it.2.2) (by rw[<-z2];exact eD.2 ⟨it,hit,rfl⟩) tg dU)
    rw[z2,z3,z1]at p2
    obtain⟨place,q1,q2⟩:=Mc ht
    obtain⟨x',cs',bE,rest,bad',tags',mh,kp',all',r1,r2,r3,r4⟩:=Uh q1 (ns.zip tks) (x:=(K.st c).zero) (cs:=dI c) (fo:=[]) (zU (k:=c) ht.fq) p2 xz
    subst r1
    simp only at pz f1 f2 f3 f4 f5 f6 f7 f8 h5 p2 r2 r3
    have hzn:(ns.zip tks).map (·.1)=ns:=by rw[List.map_fst_zip (by omega)]
    have hparts:((ps.map λ(p:Nat×Operand)=>(p.1,a.eval p.2)).toList)=ns.zip vals:=by
     rw[uf,<-hvv,e1]
     have:∀l:List (Nat×Operand),l.map (λp=>(p.1,a.eval p.2))=(l.map (·.1)).zip ((evs a l).map (·.2)):=by
      intro l
      induction l with
      |nil=>rfl
      |cons p l ih=>simp[evs]at ih ⊢;exact ih
     exact this _
    have hrun:(execOp a.eval o).run P w=.ok (.value (.agg cs'.toArray)) w:=by
     have hb:=run_build (P:=P) w t (ps.map λ(p:Nat×Operand)=>(p.1,a.eval p.2)) cs'.toArray (by rw[hparts,q2,<-r4,hzn])
     simp only[execOp,ho,dG,hb,eZ,dW]
    have hperm:(hs.flatMap (·.2)).Perm (bE++(rest++nQ)):=by
     refine p1.trans ?_
     rw[<-fH]
     exact uY _ (by simpa using r3)
    have kU:=hperm.nodup hnd
    have hin:∀b∈hs.flatMap (·.2),b∈F':=Iw xx
    have rC:∀b∈bE,b∈F':=λb hb=>hin b (hperm.mem_iff.2 (by simp[hb]))
    have Bd:∀b∈nQ,b∈F'/\b∉bE:=λb hb=>⟨hin b (hperm.mem_iff.2 (by simp[hb])),λh=>(dA.1 kU).2.2 b h b (by simp[hb]) rfl⟩
    have hV:VC (.st c) (.agg cs'.toArray) cs':=rfl
    have hwt:fC (aB (cO (vals.zip tks)) Z) tags':=by
     intro tg dU
     rcases f8 tg dU with h|⟨q,hq,hq2⟩
     ·simp at h
     ·rw[<-z2]at hq
      obtain⟨it,hit,rfl⟩:=eD.1 hq
      have hit2:it.2∈vals.zip tks:=by rw[<-z1];exact eD.2 ⟨it,hit,rfl⟩
      exact Ck (Iy xx it.2 hit2) tg hq2
    have BA:mh=cO (vals.zip tks):=by rw[f1,z4]
    rcases bz h5 with⟨hall,h6⟩|⟨_,h6⟩
    ·rw[bu h6]
     have hnone:∀tg∈c.tys,ah tg (dV (K.st c).tys bad')=false:=by
      intro tg dU
      cases hm:ah tg (dV (K.st c).tys bad')with
      |false=>rfl
      |true=>
       have:=dX.1 hall tg dU
       exact absurd (fA.1 this) (nZ.1 hm).2
     have sQ:bE=[]:=by
      cases hf:bE with
      |nil=>rfl
      |cons b l=>
       obtain⟨e,g1,g2,_⟩:=yG (k:=c) r2 b (by rw[hf];simp)
       rw[hnone e g1]at g2
       simp at g2
     have T2:=BO (w':=w) (F':=F'.filter λb=>!ah b nQ) H' ⟨rfl,rfl,rfl⟩ (bT _) (λ_ _ h=>absurd rfl h) (λb hb=>.inl (iU.1 hb).1) (H'.gD.filter _)
     have H2:=H'.mem T2
     have hok:∀b,(aO cx (aB (cO (vals.zip tks)) Z) J' F' w tags' b\/b∈nQ)->aO cx (aB (cO (vals.zip tks)) Z) J' (F'.filter λb=>!ah b nQ) w tags' b:=by
      rintro b (hb|hb)
      ·exact⟨hb.1,λh=>hb.2.1 (iU.1 h).1,hb.2.2⟩
      ·have kS:=(Bd b hb).1
       have hm:=H'.fl b kS
       refine⟨hm.1,λh=>?_,yh H' kS,λq Q hq hbq=>absurd kS (H'.dM q Q hq b hbq),λh0=>?_⟩
       ·have:=(iU.1 h).2
        simp only[jU,gq]at this
        exact this hb
       ·rcases hm.2 with h|⟨j,pi,h1,h2⟩
        ·omega
        ·exact .inr ⟨j,pi,h1,h2⟩
     have hVw:=oC (k:=.st c) _ hok (λb hb=>by rw[sQ]at hb;simp at hb) r2
     rw[BA,mF]
     exact nk (x:=.one (.val (.st c) x' tags')) H2 hd hdn hrun (show aR cx _ J' _ w (.val (.st c) x' tags') _ from λ_=>⟨cs',hV,hVw⟩) hwt
    ·obtain⟨g1,g2⟩:=nS h6
     rw[bu g2]
     have hnr:=QL g1 qh
     have hn1:(aB (cO (vals.zip tks)) Z).roots (aG d 0)=none:=by rw[(hS _ hnr).root];exact g1
     obtain⟨fZ,k1,k2⟩:=Aw (k:=.st c) (x:=x') (own:=dV (K.st c).tys bad') (tags:=tags') (v:=.agg cs'.toArray) (cs:=cs') (fo:=bE) (r:=aG d 0) (F':=F'.filter λb=>!ah b (bE++nQ)) H' hn1 (nX d 0)
      rC (dA.1 kU).1 hwt (λb hb=>by
       rw[iU]at hb
       have:=hb.2
       simp only[jU,gq,cZ,not_or]at this
       exact⟨hb.1,this.1⟩) (H'.gD.filter _) (eO (k:=c) r2)
      (λ_=>dK (k:=.st c) (λ_ _=>rfl) (λb hb=>by
       rcases hb with hb|hb
       ·exact .inl hb
       ·refine .inr ⟨(Bd b hb).1,λh=>?_,(Bd b hb).2⟩
        rw[iU]at h
        have:=h.2
        simp only[jU,gq,cZ,not_or]at this
        exact this.2 hb) (λ_ _=>rfl) r2) hV kp'
     rw[BA,mF]
     exact nk (x:=.one (.ref (aG d 0) 0)) k1 hd hdn hrun k2 ⟨_,fF ..,.inr (dY _)⟩
  |_=>exact h.elim
theorem PS:∀(ws:List Wr) (Z:St) (n:Nat),(aB ws Z).slots n=(xK ws n).getD (Z.slots n)
 | [],_,_=>rfl
 |.s m x :: ws,Z,n=>by
  show(aB ws ((Wr.s m x).app Z)).slots n=_
  rw[PS ws]
  simp only[xK]
  cases xK ws n with
  |some b=>rfl
  |none=>
   show upd Z.slots m x n=Option.getD (bif Nat.beq n m then some x else none) (Z.slots n)
   unfold upd
   cases Nat.beq n m<;>rfl
 |.r m q :: ws,Z,n=>by
  show(aB ws ((Wr.r m q).app Z)).slots n=_
  rw[PS ws]
  simp only[xK]
  cases q<;>rfl
theorem PR:∀(ws:List Wr) (Z:St) (n:Nat),(aB ws Z).roots n=(zJ ws n).getD (Z.roots n)
 | [],_,_=>rfl
 |.s m x :: ws,Z,n=>by
  show(aB ws ((Wr.s m x).app Z)).roots n=_
  rw[PR ws]
  rfl
 |.r m q :: ws,Z,n=>by
  show(aB ws ((Wr.r m q).app Z)).roots n=_
  rw[PR ws]
  simp only[zJ]
  cases zJ ws n with
  |some b=>rfl
  |none=>
   cases q with
   |none=>
    show upd Z.roots m (some gM) n=Option.getD (bif Nat.beq n m then some (some gM)else none) (Z.roots n)
    unfold upd
    cases Nat.beq n m<;>rfl
   |some q=>
    show upd Z.roots m (some q) n=Option.getD (bif Nat.beq n m then some (some q)else none) (Z.roots n)
    unfold upd
    cases Nat.beq n m<;>rfl
theorem anj{A:Type}{us:List Wr}{z:A}:∀{p:Prog A},(p.over us).ends Z z->p.ends (aB us Z) z:=by
 intro p
 induction p with
 |ret _=>exact λh=>h
 |fail=>exact λh=>h
 |slot n k ih=>
  intro h
  show(k ((aB us Z).slots n)).ends _ z
  rw[PS]
  simp only[Prog.over]at h
  cases hl:xK us n with
  |some v=>rw[hl]at h;exact ih _ h
  |none=>rw[hl]at h;exact ih _ h
 |root n k ih=>
  intro h
  show(k ((aB us Z).roots n)).ends _ z
  rw[PR]
  simp only[Prog.over]at h
  cases hl:zJ us n with
  |some v=>rw[hl]at h;exact ih _ h
  |none=>rw[hl]at h;exact ih _ h
 |dO c d k ih=>exact λh=>⟨h.1,ih h.2⟩
 |br c t e pF pE=>exact λh=>h.imp (λh=>⟨h.1,pF h.2⟩) (λh=>⟨h.1,pE h.2⟩)
 |opt β q k ih=>
  rintro⟨b,h1,h2⟩
  exact⟨b,h1,ih b h2⟩
theorem L9{A B:Type}{f:A->Prog B}{z:B}:∀{p:Prog A},(p.bind f).ends Z z->∃x,p.ends Z x/\(f x).ends Z z:=by
 intro p
 induction p with
 |ret x=>exact λh=>⟨x,rfl,h⟩
 |fail=>exact λh=>h.elim
 |slot n k ih=>exact λh=>ih _ h
 |root n k ih=>exact λh=>ih _ h
 |dO c d k ih=>exact λh=>let ⟨x,h1,h2⟩:=ih h.2;⟨x,⟨h.1,h1⟩,h2⟩
 |br c t e pF pE=>
  rintro(h|h)
  ·obtain⟨x,h1,h2⟩:=pF h.2
   exact⟨x,.inl ⟨h.1,h1⟩,h2⟩
  ·obtain⟨x,h1,h2⟩:=pE h.2
   exact⟨x,.inr ⟨h.1,h1⟩,h2⟩
 |opt β q k ih=>
  rintro⟨b,h1,h2⟩
  obtain⟨x,h3,h4⟩:=ih b h2
  exact⟨x,⟨b,h1,h3⟩,h4⟩
theorem Qu{p q:Prog (List Wr)}{z:List Wr}(h:(J_ p q).ends Z z):∃us vs,p.ends Z us/\q.ends (aB us Z) vs/\z=us++vs:=by
 obtain⟨us,h1,h2⟩:=L9 h
 obtain⟨vs,h3,h4⟩:=L9 h2
 exact⟨us,vs,h1,anj h3,h4⟩
theorem amD:∀{c:K} {us us' cs:List Value},BL c us cs->BL c us' cs->us=us':=by
 intro c
 induction c with
 |unit=>
  intro us us' cs h h'
  cases us with
  |nil=>cases us' with
   |nil=>rfl
   |cons _ _=>exact h'.elim
  |cons _ _=>exact h.elim
 |pair k r ihk ih=>
  intro us us' cs h h'
  cases us with
  |nil=>exact h.elim
  |cons u us=>
   cases us' with
   |nil=>exact h'.elim
   |cons u' us'=>
    obtain⟨c1,c2,e,h1,h2,h3⟩:=h
    obtain⟨d1,d2,e',h1',h2',h3'⟩:=h'
    rw[e]at e'
    obtain⟨rfl,rfl⟩:=List.append_inj e' (h2.trans h2'.symm)
    rw[ih h3 h3']
    congr 1
    cases k with
    |st f=>exact(show u=_ from h1).trans (show u'=_ from h1').symm
    |_=>exact(by simpa using (And.left h1).symm.trans (And.left h1'):u=u')
 |_=>intro us us' cs h;cases us<;>exact h.elim
theorem amC{A:Type}{z:A}(H:Rel cx Z J F a w){p:Prog A}:∀{c:K} {l:List (Nat×AV)} {i:Nat} {vs:List Value},gU cx Z J F w (l.map (·.2)) vs->(∀v∈l,dB Z v.2)->(E5 c l i p).ends Z z->
  ∃cs,BL c vs cs/\(l.map (λq=>q.1)).zip vs=pQ i vs/\p.ends Z z:=by
 intro c
 induction c with
 |unit=>
  intro l i vs h1 _ h
  cases l with
  |nil=>
   cases vs with
   |nil=>exact⟨[],rfl,rfl,h⟩
   |cons _ _=>exact h1.elim
  |cons _ _=>exact h.elim
 |pair k r ihk ih=>
  intro l i vs h1 h2 h
  cases l with
  |nil=>exact h.elim
  |cons q l=>
   obtain⟨n,x⟩:=q
   cases vs with
   |nil=>exact h1.elim
   |cons v vs=>
    simp only[E5]at h
    rcases bz h with⟨hn,h⟩|⟨_,h⟩
    ·obtain⟨tk,htk,h⟩:=xS H h1.1 (h2 (n,x) (by simp)) h
     rcases bz h with⟨hk,h⟩|⟨_,h⟩
     ·obtain⟨cs,g1,g2,g3⟩:=ih h1.2 (λv hv=>h2 v (by simp[hv])) h
      obtain⟨aV,F1,cst,A9,lw,lh,H1,T1,k1,k2,_⟩:=take1 H htk
      have ek:=K.eq_of_beq hk
      rw[ek]at k1
      refine⟨cst++cs,⟨cst,cs,rfl,k1,by rw[k2.len,ek],g1⟩,?_,g3⟩
      simp only[jh,yF,pQ]
      rw[g2,a_ hn]
     ·exact h.elim
    ·exact h.elim
 |_=>intro l i vs _ _ h;cases l<;>exact h.elim
theorem aoV{k:K}(h:fq k=true):(dI k).length=k.size:=eO (h:=λ_=>none) (own:=[]) (ok:=λ_=>True) (zU h)
theorem U4{place:Nat->Option (Nat×Nat)}:∀{c:K} {us cs pre:List Value} {j:Nat},fq c=true->BL c us cs->(∀n off k,bI n c=some (off,k)->place (j+n)=some (pre.length+off,k.size))->
  Instr.fill place (pre++dI c).toArray (pQ j us)=some (pre++cs).toArray:=by
 intro c
 induction c with
 |unit=>
  intro us cs pre j _ h _
  cases us with
  |nil=>
   have h':cs=[]:=h
   subst h'
   rfl
  |cons _ _=>exact h.elim
 |pair k r ihk ih=>
  intro us cs pre j hg h hp
  cases us with
  |nil=>exact h.elim
  |cons u us=>
   obtain⟨c1,c2,rfl,h1,h2,h3⟩:=h
   simp only[fq,bg]at hg
   have hz:=aoV hg.1
   have jm:u.cells=c1.toArray:=by
    have:=h1.cells
    apply qV
    simpa using this
   have h0:=hp 0 0 k rfl
   simp only[lN]at h0
   simp only[pQ]
   rw[MU (off:=pre.length) (vs:=c1) (by rw[h2];exact h0) jm (by simp only[dI,Al,d_];omega)]
   have e2:((pre++dI (.pair k r)).toArray.toList.take pre.length++(c1++(pre++dI (.pair k r)).toArray.toList.drop (pre.length+c1.length)))=(pre++c1)++dI r:=by
    simp only[dI]
    rw[<-fH pre]
    have e3:pre.length+c1.length=(pre++dI k).length:=by simp[h2,hz]
    rw[e3,List.drop_left]
    simp
   rw[e2,ih hg.2 h3 (λn off kk ho=>?_)]
   ·simp
   ·have:=hp (n+1) (k.size+off) kk (by simp[bI,ho])
    rw[show j+1+n=j+(n+1) by omega,this]
    simp[h2]
    omega
 |_=>intro us cs pre j _ h;cases us<;>exact h.elim
theorem parts_eval{ps:Array (Nat×Operand)}{ns:List Nat}{vals:List Value}(e1:ns=ps.toList.map (·.1))(hvv:(evs a ps.toList).map (·.2)=vals):((ps.map λ(p:Nat×Operand)=>(p.1,a.eval p.2)).toList)=ns.zip vals:=by
 rw[uf,<-hvv,e1]
 have:∀l:List (Nat×Operand),l.map (λp=>(p.1,a.eval p.2))=(l.map (·.1)).zip ((evs a l).map (·.2)):=by
  intro l
  induction l with
  |nil=>rfl
  |cons p l ih=>simp[evs]at ih ⊢;exact ih
 exact this _
theorem ae6(hT:eG P T)(H:Rel cx Z J F a w)(hd:o.dst=some d)(hdn:d<cx.nt){t:TypeId}{ps:Array (Nat×Operand)}
  (h:(match T.ty t with
   |some (.st c)=>uI ps.toList λl=>E5 c l 0 (.ret [Wr.s d (.lit t c (l.map λq:Nat×AV=>q.2))])
   |_=>(.fail:Prog (List Wr))).ends Z ws) (ho:o.op=.build t ps):dn P cx o a w (aB ws Z):=by
 cases hty:T.ty t with
 |none=>rw[hty]at h;exact h.elim
 |some k0=>
  rw[hty]at h
  cases k0 with
  |st c=>
   have ht:=hT.ty t _ hty
   simp only at h
   obtain⟨vs,e1,h1,h2,h3⟩:=MQ H h
   obtain⟨cs,g1,g2,g3⟩:=amC H h1 h2 h3
   rw[bu g3]
   obtain⟨place,q1,q2⟩:=Mc ht
   have hb:=run_build (P:=P) w t (ps.map λ(p:Nat×Operand)=>(p.1,a.eval p.2)) cs.toArray (by
    rw[parts_eval e1 rfl,q2,g2]
    have:=U4 (pre:=[]) (j:=0) (place:=place) (c:=c) (by simpa[fq]using ht.fq) g1 (λn off k ho=>by simpa using q1 n off k ho)
    simpa using this)
   have hrun:(execOp a.eval o).run P w=.ok (.value (.agg cs.toArray)) w:=by simp only[execOp,ho,dG,hb,eZ,dW]
   refine eP (x:=.lit t c (vs.map (·.2))) (v:=.agg cs.toArray) H hd hdn hrun ⟨_,cs,⟨rfl,g1⟩,h1⟩ (λx hx=>?_)
   obtain⟨q,hq,rfl⟩:=eD.1 hx
   exact h2 q hq
  |_=>exact h.elim
theorem Rel.Qi(H:Rel cx Z J F a w){s:Nat}{x:fQ}(hw:mG Z x)(hx:iL cx Z J F w x (a.tmps.getD s undef)):Rel cx (qU Z (upd Z.slots s x)) J F a w where
 defs:=H.defs
 sz:=H.sz
 jT:=H.jT
 rP:=H.rP
 slots:=by
  intro n
  rw[Q4]
  show iL cx Z J F w (upd Z.slots s x n) _
  by_cases e:n=s
  ·subst e
   rw[upd_same]
   exact hx
  ·rw[upd_ne _ _ e]
   exact H.slots n
 qy:=by
  intro n
  rw[Ub]
  show mG Z (upd Z.slots s x n)
  by_cases e:n=s
  ·subst e;rw[upd_same];exact hw
  ·rw[upd_ne _ _ e];exact H.qy n
 roots:=by
  intro r R hr
  have K:=H.roots r R hr
  exact⟨λhv=>K.ow ((xY _).1 hv),K.len,K.mem,K.nd,K.mine⟩
 fu:=H.fu
 jc:=H.jc
 fl:=H.fl
 gD:=H.gD
 dM:=H.dM
 frame:=H.frame
 rG:=H.rG
 pJ:=H.pJ
 sV:=λj p ts v h=>let ⟨h0,R,h1,h2⟩:=H.sV j p ts v h;⟨h0,R,h1,λht=>(FW _).2 (h2 ht)⟩
 sW:=H.sW
theorem Ku{A:Type}:∀(l:List A) (i:Nat),(pQ i l).map (λp=>p.2)=l
 | [],_=>rfl
 |x :: l,i=>by simp only[pQ,jh,Ku l]
theorem aaU{A B:Type}:∀(l:List A) (m:List B) (i:Nat),m.length=l.length->((pQ i l).map (λp=>p.1)).zip m=pQ i m
 | [],[],_,_=>rfl
 |x :: l,y :: m,i,h=>by simp only[pQ,jh,yF,aaU l m (i+1) (by simpa using h)]
 | [],_ :: _,_,h=>by simp at h
 |_ :: _,[],_,h=>by simp at h
theorem amU(hT:eG P T)(H:Rel cx Z J F a w){s:Nat}(h:(PW T s .ret).ends Z ws):∃J' F',Rel cx (aB ws Z) J' F' a w:=by
 unfold PW at h
 have h:(match Z.slots s with
  |.lit t c l=>_
  |_=>(.fail:Prog (List Wr))).ends Z ws:=h
 have hsl:=H.slots s
 have hsw:=H.qy s
 cases hs:Z.slots s with
 |one _=>rw[hs]at h;exact h.elim
 |mg _=>rw[hs]at h;exact h.elim
 |lit t c l=>
  rw[hs]at h hsl hsw
  obtain⟨us,cs,⟨ev,IJ⟩,hl⟩:=hsl
  rcases bz h with⟨hty,h⟩|⟨_,h⟩
  ·have ht:cK P T t (.st c):=by
    cases hty':T.ty t with
    |none=>rw[hty']at hty;simp at hty
    |some kk=>
     rw[hty']at hty
     have:=K.eq_of_beq hty
     subst this
     exact hT.ty t _ hty'
   have hl':gU cx Z J F w ((pQ 0 l).map (·.2)) us:=by rw[Ku];exact hl
   obtain⟨tks,b',l1,l2,qh,xz,h4⟩:=Uj H hl' (λv hv=>hsw v.2 (by
    have:v.2∈(pQ 0 l).map (·.2):=eD.2 ⟨v,hv,rfl⟩
    rwa[Ku]at this)) h
   have II:us.length=(pQ 0 l).length:=l2
   have ahs:us.length=l.length:=by
    have:=congrArg List.length (Ku l 0)
    rw[oz]at this
    omega
   generalize hns:(pQ 0 l).map (·.1)=ns at *
   have DZ:ns.length=tks.length:=by rw[<-hns,oz];exact l1.symm
   have zA:us.length=tks.length:=by rw[l2];exact l1.symm
   obtain⟨z1,z2,z3,z4⟩:=Q3 ns us tks DZ zA
   obtain⟨f1,f2,f3,f4,f5,f6,f7,f8⟩:=Ui _ xz
   simp only[jq]at f1
   rcases bz h4 with⟨_,h5⟩|⟨hws,h5⟩
   ·exact h5.elim
   ·have pz:qw b'.ws b'.all=true:=by simpa using hws
    unfold qw at pz
    simp only[bg]at pz
    have hw1:=Dk.1 pz.1
    have hw2:=HV.1 pz.2
    rw[f1,<-z4]at hw1 hw2
    obtain⟨J',F',hs',H',hA,hnd,hnF,M5,hS,_⟩:=takes (us.zip tks) H qh hw1 (λtg dU=>hw2 tg (by
     obtain⟨it,hit,h6⟩:=nN.1 dU
     have:it∈(ns.zip (us.zip tks)).map (·.2):=by rw[z1];exact hit
     obtain⟨q,hq,rfl⟩:=eD.1 this
     exact f2 (q.1,q.2.2) (by rw[<-z2];exact eD.2 ⟨q,hq,rfl⟩) tg h6))
    have xx:=hA
    rw[<-z1]at hA
    obtain⟨gN,nQ,p1,p2⟩:=Qf (own':=dV (K.st c).tys b'.bad) (T:=b'.tags) (ns.zip (us.zip tks)) hA
     (λit hit tg dU=>by
      cases hm:ah tg (dV (K.st c).tys b'.bad)with
      |false=>rfl
      |true=>exact absurd (f4 (it.1,it.2.2) (by rw[<-z2];exact eD.2 ⟨it,hit,rfl⟩) tg dU) (nZ.1 hm).2)
     (λit hit tg dU=>f6 (it.1,it.2.2) (by rw[<-z2];exact eD.2 ⟨it,hit,rfl⟩) tg dU)
    rw[z2,z3,z1]at p2
    obtain⟨place,q1,q2⟩:=Mc ht
    obtain⟨x',cs',bE,rest,bad',tags',mh,kp',all',r1,r2,r3,r4⟩:=Uh q1 (ns.zip tks) (x:=(K.st c).zero) (cs:=dI c) (fo:=[]) (zU (k:=c) ht.fq) p2 xz
    subst r1
    simp only at pz f1 f2 f3 f4 f5 f6 f7 f8 h5 p2 r2 r3
    have hzn:(ns.zip tks).map (·.1)=ns:=by rw[List.map_fst_zip (by omega)]
    have hcs:cs'=cs:=by
     have e:=U4 (pre:=[]) (j:=0) (place:=place) (c:=c) (by simpa[fq]using ht.fq) IJ (λn off k ho=>by simpa using q1 n off k ho)
     simp only[jq]at e
     rw[hzn,<-hns,aaU l us 0 ahs,e]at r4
     simpa using r4.symm
    subst hcs
    have hperm:(hs'.flatMap (·.2)).Perm (bE++(rest++nQ)):=by
     refine p1.trans ?_
     rw[<-fH]
     exact uY _ (by simpa using r3)
    have kU:=hperm.nodup hnd
    have hin:∀b∈hs'.flatMap (·.2),b∈F':=Iw xx
    have rC:∀b∈bE,b∈F':=λb hb=>hin b (hperm.mem_iff.2 (by simp[hb]))
    have Bd:∀b∈nQ,b∈F'/\b∉bE:=λb hb=>⟨hin b (hperm.mem_iff.2 (by simp[hb])),λh=>(dA.1 kU).2.2 b h b (by simp[hb]) rfl⟩
    have hV:VC (.st c) (.agg cs'.toArray) cs':=rfl
    have hwt:fC (aB (cO (us.zip tks)) Z) tags':=by
     intro tg dU
     rcases f8 tg dU with h|⟨q,hq,hq2⟩
     ·simp at h
     ·rw[<-z2]at hq
      obtain⟨it,hit,rfl⟩:=eD.1 hq
      have hit2:it.2∈us.zip tks:=by rw[<-z1];exact eD.2 ⟨it,hit,rfl⟩
      exact Ck (Iy xx it.2 hit2) tg hq2
    have BA:mh=cO (us.zip tks):=by rw[f1,z4]
    obtain⟨g1,g2⟩:=nS h5
    rw[bu g2]
    have hnr:=QL g1 qh
    have hn1:(aB (cO (us.zip tks)) Z).roots (aG s 1)=none:=by rw[(hS _ hnr).root];exact g1
    obtain⟨fZ,k1,k2⟩:=Aw (k:=.st c) (x:=x') (own:=dV (K.st c).tys bad') (tags:=tags') (v:=.agg cs'.toArray) (cs:=cs') (fo:=bE) (r:=aG s 1) (F':=F'.filter λb=>!ah b (bE++nQ)) H' hn1 (nX s 1)
     rC (dA.1 kU).1 hwt (λb hb=>by
      rw[iU]at hb
      have:=hb.2
      simp only[jU,gq,cZ,not_or]at this
      exact⟨hb.1,this.1⟩) (H'.gD.filter _) (eO (k:=c) r2)
     (λ_=>dK (k:=.st c) (λ_ _=>rfl) (λb hb=>by
      rcases hb with hb|hb
      ·exact .inl hb
      ·refine .inr ⟨(Bd b hb).1,λh=>?_,(Bd b hb).2⟩
       rw[iU]at h
       have:=h.2
       simp only[jU,gq,cZ,not_or]at this
       exact this.2 hb) (λ_ _=>rfl) r2) hV kp'
    rw[BA,mF]
    exact⟨fZ,_,k1.Qi (x:=.one (.ref (aG s 1) 0)) ⟨_,fF ..,.inr (dY _)⟩ (by rw[ev];exact k2)⟩
  ·exact h.elim
theorem YR{Z':St}{J':aF}{F':List Nat}(f:AV->AV)(hf:∀x v,aR cx Z J F w x v->aR cx Z' J' F' w x v->aR cx Z' J' F' w (f x) v) :
  ∀{l:List AV} {vs:List Value},gU cx Z J F w l vs->gU cx Z' J' F' w l vs->gU cx Z' J' F' w (l.map f) vs
 | [],[],_,_=>trivial
 |x :: l,v :: vs,h1,h2=>⟨hf x v h1.1 h2.1,YR f hf h1.2 h2.2⟩
 | [],_ :: _,h,_=>h.elim
 |_ :: _,[],h,_=>h.elim
theorem anh{p q:List Stp}(h:Fw p q=true):∃i j,p=[.aP i]/\q=[.aP j]/\i≠j:=by
 unfold Fw at h
 split at h
 ·rename_i i j
  exact⟨i,j,rfl,rfl,GZ (by simpa using h)⟩
 ·simp at h
theorem aov(H:Rel cx Z J F a w){s s2:Nat}(h:(QB s s2 .ret).ends Z ws):∃J' F',Rel cx (aB ws Z) J' F' a w:=by
 unfold QB at h
 have h:(match Z.slots s with
  |.one (.dJ r p v)=>_
  |_=>(.fail:Prog (List Wr))).ends Z ws:=h
 have hsl:=H.slots s
 split at h
 case h_2=>exact h.elim
 case h_1 r p v hs=>
  rw[hs]at hsl
  unfold qp at h
  obtain⟨R,hr,hv,h⟩:=gJ h
  rcases bz h with⟨qN,h⟩|⟨_,h⟩
  case inr=>exact h.elim
  have qN:=a_ qN
  cases dQ:aA p R.k R.x with
  |none=>rw[dQ]at h;exact h.elim
  |some dd=>
   rw[dQ]at h
   obtain⟨b_,hown,cs,wh,Bn,jm⟩:=hsl R hr.1 hv qN dd dQ
   rcases bz h with⟨hc,h⟩|⟨_,h⟩
   case inr=>
    obtain⟨_,h⟩:=qG h
    rcases bz h with⟨_,h⟩|⟨hc,h⟩
    ·exact h.elim
    ·simp at hc
   cases hga:uJ R p dd with
   |none=>rw[hga]at h;exact h.elim
   |some R'=>
    rw[hga]at h
    unfold uJ at hga
    cases hz:bJ p R.k R.x (mO dd)with
    |none=>rw[hz]at hga;simp at hga
    |some zz=>
     rw[hz]at hga
     simp only[aa]at hga
     have hpv:p≠[]\/∃t,R.kind=.var t:=by
      simp only[bg,nI]at hc
      rcases hc.2 with h|h
      ·left;intro e;subst e;simp at h
      ·right
       unfold Root.isVar at h
       cases hk:R.kind with
       |var t=>exact⟨t,rfl⟩
       |anon=>rw[hk]at h;simp at h
       |par=>rw[hk]at h;simp at h
       |dead=>rw[hk]at h;simp at h
     rcases bz h with⟨_,h⟩|⟨hss,h⟩
     ·exact h.elim
     obtain⟨hne,_⟩:=Kz.1 hss
     have hne:s≠s2:=GZ hne
     obtain⟨hfr,h⟩:=nS h
     have h:(match Z.slots s2 with
      |.lit t c l=>_
      |_=>(.fail:Prog (List Wr))).ends Z ws:=h
     have hs2:=H.slots s2
     have hw2:=H.qy s2
     cases hsl2:Z.slots s2 with
     |one _=>rw[hsl2]at h;exact h.elim
     |mg _=>rw[hsl2]at h;exact h.elim
     |lit t c l=>
      rw[hsl2]at h hs2 hw2
      rw[bu h]
      obtain⟨us,cs2,⟨ev,IJ⟩,hl⟩:=hs2
      obtain⟨cs1,bZ,aS,rest,g1,H1,T1,g4,g5,_⟩:=gap H hr hv dQ hz b_ hown hpv
      rw[Bn]at g1
      simp only[aa,bK]at g1
      obtain⟨rfl,rfl⟩:=g1
      have hR':R'=jv R dd zz:=hga.symm
      subst hR'
      have hrl:aG s 1≠r:=λe=>by rw[e,hr.1]at hfr;simp at hfr
      have hn1:(aL Z r (jv R dd zz)).roots (aG s 1)=none:=by rw[jf Z _ hrl];exact hfr
      have hcl:cu (aL Z r (jv R dd zz)) (aZ (dd.1.tys.filter λt=>ah t R.own) dd.1) R.tags=true:=by
       rw[Kn dd.1 (λ_ h=>h),g5]
       exact yR hv.2 (λ_ h=>h) (Ko p dQ hown)
      have hh:Held cx (aL Z r (jv R dd zz)) (aW J r (J.loc r) (J.hdr r) rest) (aS++F) w dd.1 dd.2 (dd.1.tys.filter λt=>ah t R.own) R.tags cs aS:=
       ⟨λhc=>q8 (λt ht=>Y4 t ht) (g4.ow (by rw[Kn dd.1 (λ_ h=>h)]at hc;exact hc)),g4.wt,g4.sub,g4.nd,g4.len⟩
      let tk:dS:=⟨dd.1,dd.2,dd.1.tys.filter (λt=>ah t R.own),R.tags,[.r r (some (jv R dd zz))],R.keep⟩
      have hhw:fC (aL Z r (jv R dd zz)) tk.tags:=hh.wt
      obtain⟨H2,r3⟩:=TR (r:=aG s 1) (k:=tk.k) (x:=tk.x) (own:=tk.own) (tags:=tk.gV) (F':=(aS++F).filter λb=>!ah b aS) H1 hn1 (nX s 1) hh.sub hh.nd (Ck (tk:=tk) hhw)
       (λb hb=>by
        obtain⟨q1,q2⟩:=iU.1 hb
        simp only[jU,gq]at q2
        exact⟨q1,q2⟩) (H1.gD.filter _) hh.len
       (λVD=>by
        cases hb:tk.bad with
        |nil=>exact lq hb (hh.ow hcl)
        |cons t0 l=>
         have et:tk.gV=tk.tags:=by
          unfold dS.gV
          rw[hb]
         rw[et]at VD ⊢
         exact dK (λ_ _=>rfl) (λb h=>.inl h) (λ_ _=>rfl) (hh.ow VD)) jm R.keep
      have H3:=H2.Qi (s:=s) (x:=.one (.ref (aG s 1) 0)) ⟨_,fF ..,.inr (dY _)⟩ r3
      have hs3:=H3.slots s2
      have hw3:=H3.qy s2
      have hkeep:(qU (aL (aL Z r (jv R dd zz)) (aG s 1) (bL tk.k tk.x tk.own tk.gV .anon R.keep)) (upd (aL (aL Z r (jv R dd zz)) (aG s 1) (bL tk.k tk.x tk.own tk.gV .anon R.keep)).slots s (.one (.ref (aG s 1) 0)))).slots s2=.lit t c l:=by
       show upd Z.slots s _ s2=_
       rw[upd_ne _ _ (Ne.symm hne)]
       exact hsl2
      rw[hkeep]at hs3 hw3
      obtain⟨us',Mw,⟨ev',aht⟩,hl'⟩:=hs3
      have MK:Mw=cs2:=by
       rw[ev]at ev'
       have:=congrArg Value.cells ev'
       simpa[Value.cells]using this.symm
      subst MK
      have eus:=amD IJ aht
      subst eus
      have hroot:(aL (aL Z r (jv R dd zz)) (aG s 1) (bL tk.k tk.x tk.own tk.gV .anon R.keep)).roots r=some (jv R dd zz):=by
       rw[jf _ _ (Ne.symm hrl),fF]
      refine⟨_,_,H3.Qi (s:=s2) (x:=.lit t c (l.map (MW r p v tk.ws))) (λx hx=>?_) ⟨us,Mw,⟨ev,IJ⟩,YR (MW r p v tk.ws) (λx u hx0 hx1=>?_) hl hl'⟩⟩
      ·obtain⟨y,hy,rfl⟩:=eD.1 hx
       have hy':=hw3 y hy
       show dB _ (freshen r p v (jv R dd zz).dF y)
       unfold freshen
       split
       ·rename_i q p' n
        cases hb:(Nat.beq r q&&Nat.beq n v&&Fw p p')with
        |false=>exact hy'
        |true=>
         simp only[bg]at hb
         rw[<-a_ hb.1.1]
         exact⟨_,hroot,.inr (bT _)⟩
       ·exact hy'
      ·show aR cx _ _ _ w (freshen r p v (jv R dd zz).dF x) u
       unfold freshen
       split
       ·rename_i q p' n
        cases hb:(Nat.beq r q&&Nat.beq n v&&Fw p p')with
        |false=>exact hx1
        |true=>
         simp only[bg]at hb
         have e1:=a_ hb.1.1
         have e2:=a_ hb.1.2
         subst e1
         subst e2
         obtain⟨i,j,rfl,rfl,hij⟩:=anh hb.2
         intro Q hQ lF hnQ d' hd'
         have hQ':Q=jv R dd zz:=by
          have hQ:(aL (aL Z r (jv R dd zz)) (aG s 1) (bL tk.k tk.x tk.own tk.gV .anon R.keep)).roots r=some Q:=hQ
          rw[hroot]at hQ
          simpa using hQ.symm
         subst hQ'
         have hold:=hx0 R hr.1 hv qN
         obtain⟨Rk,Rx,Lx,LA,Rw,Rh,Rg,Lv,TA,Lu,Lt,Ls⟩:=R
         cases Rk with
         |st c0=>
          simp only[bJ]at hz
          simp only[aA]at dQ
          cases hci:aM i c0 Rx with
          |none=>rw[hci]at dQ;simp at dQ
          |some d0=>
           rw[hci]at hz dQ
           simp only[aa]at dQ
           subst dQ
           simp only at hz
           cases hcp:dh i c0 Rx (mO d0)with
           |none=>rw[hcp]at hz;simp at hz
           |some z0=>
            rw[hcp]at hz
            simp only[aa]at hz
            subst hz
            have hput:aM j z0.1 z0.2=aM j c0 Rx:=Uq i j (Ne.symm hij) hcp
            have hd2:aA [.aP j] (.st c0) Rx=some d':=by
             have hd3:aA [.aP j] (.st z0.1) z0.2=some d':=hd'
             simp only[aA]at hd3 ⊢
             rw[hput]at hd3
             exact hd3
            obtain⟨w1,w2,Mx,QW,w3,w4⟩:=hold d' hd2
            have hcj:(aM j c0 Rx).isSome=true:=by
             cases hcj:aM j c0 Rx with
             |none=>simp only[aA]at hd2;rw[hcj]at hd2;simp at hd2
             |some _=>rfl
            refine⟨?_,?_,Mx,QW,?_,w4⟩
            ·show bM [.aP j] (.st z0.1) z0.2
             simp only[bM]
             rw[hput]
             cases agS:aM j c0 Rx with
             |none=>rw[agS]at hcj;simp at hcj
             |some _=>trivial
            ·intro t' ht'
             have ht':t'∈az [.aP j] (.st z0.1):=ht'
             simp only[az]at ht'
             split at ht'<;>simp at ht'
            ·have e3:(aW (aW J r (J.loc r) (J.hdr r) rest) (aG s 1) (0,0) cs aS).hdr r=J.hdr r:=by simp[aW,upd_same,upd_ne _ _ (Ne.symm hrl)]
             rw[e3]
             have e4:aK (aW (aW J r (J.loc r) (J.hdr r) rest) (aG s 1) (0,0) cs aS) (jv { k:=.st c0,x:=Rx,own:=Lx,tags:=LA,w:=Rw,h:=Rh,g:=Rg,kind:=Lv,fixed:=TA,keep:=Lu,ew:=Lt,eh:=Ls } d0 ⟨.st z0.1,z0.2⟩) r=aK J { k:=.st c0,x:=Rx,own:=Lx,tags:=LA,w:=Rw,h:=Rh,g:=Rg,kind:=Lv,fixed:=TA,keep:=Lu,ew:=Lt,eh:=Ls } r:=by
              unfold aK jv
              simp[aW,upd_same,upd_ne _ _ (Ne.symm hrl)]
             rw[e4]
             have w3':aN (hp w) [.aP j] (.st c0) (J.hdr r) _=some (Mx,QW):=w3
             show aN (hp w) [.aP j] (.st z0.1) (J.hdr r) _=some (Mx,QW)
             simp only[aN]at w3' ⊢
             cases hoj:bI j c0 with
             |none=>rw[hoj]at w3';simp at w3'
             |some q=>
              rw[hoj]at w3'
              rw[Us i j (Ne.symm hij) hci hcp (zq d0.1) hoj]
              exact w3'
         |_=>simp[aA]at dQ
       ·exact hx1
theorem aow{s2:Nat}:∀{l:List (Nat×Operand)} {ws:List Wr} {Z:St} {J:aF} {F:List Nat},Rel cx Z J F a w->(splits s2 l).ends Z ws->∃J' F',Rel cx (aB ws Z) J' F' a w:=by
 intro l
 induction l with
 |nil=>intro ws Z J F H h;rw[bu h];exact⟨J,F,H⟩
 |cons q l ih=>
  obtain⟨n,x⟩:=q
  intro ws Z J F H h
  cases x with
  |tmp s=>
   simp only[splits]at h
   have h:(match Z.slots s with
    |.one (.dJ r _ _)=>_
    |_=>splits s2 l).ends Z ws:=h
   split at h
   ·have h:(match Z.slots s2 with
     |.lit _ _ m=>_
     |_=>(.fail:Prog (List Wr))).ends Z ws:=h
    split at h
    ·rcases bz h with⟨_,h⟩|⟨_,h⟩
     ·obtain⟨us,vs,h1,h2,rfl⟩:=Qu h
      obtain⟨aV,F1,H1⟩:=aov H h1
      rw[mF]
      exact ih H1 h2
     ·exact ih H h
    ·exact h.elim
   ·exact ih H h
  |_=>exact ih H h
theorem afX{A:Type}{z:A}{k:Nat->Prog A}:∀{l:List (Nat×Operand)},(A7 l k).ends Z z->∃s,(k s).ends Z z:=by
 intro l
 induction l with
 |nil=>exact λh=>h.elim
 |cons q l ih=>
  obtain⟨n,x⟩:=q
  intro h
  cases x with
  |tmp s=>
   simp only[A7]at h
   have h:(match Z.slots s with
    |.lit _ _ _=>k s
    |_=>A7 l k).ends Z z:=h
   split at h
   ·exact⟨s,h⟩
   ·exact ih h
  |_=>exact ih h
theorem afj(hT:eG P T)(H:Rel cx Z J F a w)(hd:o.dst=some d)(hdn:d<cx.nt){t:TypeId}{ps:Array (Nat×Operand)}
  (h:(aav T d t ps).ends Z ws) (ho:o.op=.build t ps):dn P cx o a w (aB ws Z):=by
 obtain⟨s,h⟩:=afX h
 obtain⟨us,vs,h1,h2,rfl⟩:=Qu h
 obtain⟨us2,vs2,h3,h4,rfl⟩:=Qu h2
 obtain⟨aV,F1,H1⟩:=aow H h1
 obtain⟨fZ,F2,H2⟩:=amU hT H1 h3
 rw[mF,mF]
 exact UH hT H2 hd hdn h4 ho
end
end
section
open Go
variable [Fr]
section
variable {P:Program}{T:bF}{w:World}
structure Src(P:Program)(w:World)(size:Nat)(u:TypeId)(x:Value)(m:Nat)(news:List Value):Prop where
 und:(∃e',P.underlying u=some (.slice e'))\/P.underlying u=some .string
 len:∀w',(Builtin.lenOf x).run P w'=.ok m w'
 cells:(Builtin.firstCells size m x).run P w=.ok news.toArray w/\(Builtin.firstCells size m x).run P w.drew=.ok news.toArray w.drew
 nl:news.length=m*size
 one:∀v∈news,v.oneCell'=true
theorem FO{size:Nat}{u:TypeId}{b:Option Addr}{m c:Nat}{news:List Value}(hu:(∃e',P.underlying u=some (.slice e'))\/P.underlying u=some .string)(hl:news.length=m*size)(h1:∀v∈news,v.oneCell'=true)
  (hc:0<m->∃bb q,b=some ⟨bb,q,none⟩/\Cells (hp w) bb q news):Src P w size u (.slice b m c) m news where
 und:=hu
 len:=λw'=>rfl
 cells:=by
  have key:∀w',hp w'=hp w->(Builtin.firstCells size m (.slice b m c)).run P w'=.ok news.toArray w':=by
   intro w' hw
   by_cases h0:0<m
   ·obtain⟨bb,q,rfl,hcs⟩:=hc h0
    exact zP (P:=P) w' size m ⟨bb,q,none⟩ m c news hl (λj v hj=>by
     rw[addr_add,uC,hw,hcs j (nL.1 hj).1]
     exact hj)
   ·have hm:m=0:=by omega
    subst hm
    have hn:news=[]:=qB (by simpa using hl)
    subst hn
    cases b with
    |none=>exact Qq w' size 0 0 c
    |some ad=>exact zP (P:=P) w' size 0 ad 0 c [] (by simp) (λj v hj=>by simp at hj)
  exact⟨key w rfl,key w.drew rfl⟩
 nl:=hl
 one:=h1
theorem aox{u:TypeId}{B:ByteArray}(hu:(∃e',P.underlying u=some (.slice e'))\/P.underlying u=some .string):Src P w 1 u (.string B) B.size (B.data.toList.map λb=>.int .u8 b.toNat) where
 und:=hu
 len:=λw'=>rfl
 cells:=by
  have h:B.extract 0 B.size=B:=by
   apply ByteArray.ext
   simp
  constructor<;>(simp[Builtin.firstCells,h];apply qV;simp)
 nl:=by simp
 one:=by intro v hv;simp only[eD]at hv;obtain⟨b,_,rfl⟩:=hv;rfl
theorem J7{t u ty e:TypeId}{k:K}(ht:cK P T t (.sl e k)){b:Option Addr}{n c m:Nat}{x:Value}{news:List Value}(hs:Src P w k.size u x m news)(hr:n+m<=c) :
  (Builtin.append_ #[t,u] ty #[.slice b n c,x]).run P w=(match b with
   |some a=>(storeCells (a.add (n*k.size)) news).run P w
   |none=>.ok () w).andThen λ_ w'=>.ok (.slice b (n+m) c) w':=by
 obtain⟨hu,he,_,_⟩:=ht.sl
 have e1:=hs.len w
 have e2:=hs.cells.1
 rcases hs.und with⟨e',hd⟩|hd<;>cases b<;>simp[Builtin.append_,gu hu,he.info.sizeOf w,gu hd,e1,e2,hr,Result.andThen]
end
end
section
open Go
variable [Fr]
section
variable {P:Program}{T:bF}{w:World}
theorem Qp{t u ty e:TypeId}{k:K}(ht:cK P T t (.sl e k)){b:Option Addr}{n c m:Nat}{x:Value}{news olds:List Value}(hs:Src P w k.size u x m news)
  (hold:(Builtin.firstCells k.size n (.slice b n c)).run P w.drew=.ok olds.toArray w.drew) (hr:¬n+m<=c) (hb:(n+m)*T.bytes e<=140737488355328) :
  ∃nc,n+m<=nc/\(Builtin.append_ #[t,u] ty #[.slice b n c,x]).run P w =
   .ok (.slice (some ⟨w.heap.size,0,none⟩) (n+m) nc) (w.drew.alloc (.cells (olds.toArray++news.toArray++Builtin.zeroCells (iK k).cells (nc-(n+m))) e)):=by
 obtain⟨hu,he,_,i,hi,hby,hpos⟩:=ht.sl
 obtain⟨i',hi',hs',hz'⟩:=he.info
 rw[hi]at hi'
 simp only[aa]at hi'
 subst hi'
 have e1:=hs.len w
 have e2:=hs.cells.2
 have h2:¬(281474976710656<Builtin.nextslicecap (n+m) c*i.bytes):=by
  have:=growslice_fits (need:=n+m) (old:=c) (bytes:=i.bytes) (by omega) (by rw[hby];exact hb)
  omega
 have h3:i.bytes≠0:=by omega
 refine⟨grownCap w (n+m) c e,grownCap_ge w (n+m) c e,?_⟩
 rw[<-hs']at hold e2
 rcases hs.und with⟨e',hd⟩|hd
 ·simp[Builtin.append_,gu hu,gu hd,sizeOf,typeInfo,zeroValue,hi,hz',e1,hr,h2,h3,Question.forced,hold,e2,newRow,grownCap]
  congr 2
  apply qV
  simp[fH]
 ·simp[Builtin.append_,gu hu,gu hd,sizeOf,typeInfo,zeroValue,hi,hz',e1,hr,h2,h3,Question.forced,hold,e2,newRow,grownCap]
  congr 2
  apply qV
  simp[fH]
end
end
end Go.Proofs.YtgppmpedglhhfaaGreatDoor.Ow
