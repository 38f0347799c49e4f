/- A verified reading of translated code, part C of 7. No condition. -/
import Derived.Test.YtgppmpedglhhfaaGreatDoorOwB
import Derived.Laws.Strings
import Derived.Laws.BytesString
import Derived.Laws.IdiomStrings
import Derived.Laws.MakeOwn
import Derived.Laws.Tables
import Derived.Laws.AppendOwn
set_option linter.unusedSectionVars false
set_option linter.unusedVariables false
set_option linter.unusedSimpArgs false
namespace Go.Proofs.YtgppmpedglhhfaaGreatDoor.Ow
section
open Go
variable [Fr]
theorem beq_true{a b:K}{A:Type}{x y:Prog A}{Z:St}{z:A}(h:(bif a.beq b then x else y).ends Z z):(a=b/\x.ends Z z)\/(a.beq b=false/\y.ends Z z):=by
 cases hb:a.beq b with
 |true=>rw[hb]at h;exact .inl ⟨K.eq_of_beq hb,h⟩
 |false=>rw[hb]at h;exact .inr ⟨rfl,h⟩
section
variable {P:Program}{T:bK}{cx:Cx}{Z:St}{J:aJ}{F:List Nat}{a:Act}{w:World}{o:Oper}{d:Nat}{ws:List Wr}
theorem structField{P:Program}{T:bK}:∀(n:Nat) {c:K} {fs:List Field} {uP off:Nat} {k:K},(jc P T c).2 fs uP->bQ n c=some (off,k)->∃f,fs[n]?=some f/\f.offset=uP+off/\dz P T f.type k/\0<k.size:=by
 intro n
 induction n with
 |zero=>
  intro c fs uP off k h ho
  cases c with
  |pair a b=>
   simp only[bQ,ak,bS]at ho
   obtain⟨rfl,rfl⟩:=ho
   cases fs with
   |nil=>exact h.elim
   |cons f fs=>exact⟨f,rfl,h.1,h.2.1,h.2.2.1⟩
  |_=>simp[bQ]at ho
 |succ n ih=>
  intro c fs uP off k h ho
  cases c with
  |pair a b=>
   simp only[bQ]at ho
   cases h2:bQ n b with
   |none=>rw[h2]at ho;simp at ho
   |some q=>
    rw[h2]at ho
    simp only[ak,bS]at ho
    cases fs with
    |nil=>exact h.elim
    |cons f fs=>
     obtain⟨g,g1,g2,g3,g4⟩:=ih (off:=q.1) (k:=q.2) h.2.2.2 (by rw[h2])
     exact⟨g,by simpa using g1,by rw[g2,<-ho.1];omega,by rw[<-ho.2];exact g3,by rw[<-ho.2];exact g4⟩
  |_=>simp[bQ]at ho
theorem dz.st{t:TypeId}{c:K}(h:dz P T t (.st c)):∃fs,P.underlying t=some (.struct fs)/\(jc P T c).2 fs.toList 0:=by
 unfold dz jc at h
 exact h.1
theorem Pk{cs:List Value}{off n:Nat}(h:off+n<=cs.length):((cs.drop off).take n).length=n:=by simp;omega
theorem RB:∀(n:Nat) {c:K} {off:Nat} {k:K},bQ n c=some (off,k)->off+k.size<=c.size:=by
 intro n
 induction n with
 |zero=>intro c off k h;cases c with
  |pair a b=>simp only[bQ,ak,bS]at h;obtain⟨rfl,rfl⟩:=h;simp[K.size]
  |_=>simp[bQ]at h
 |succ n ih=>intro c off k h;cases c with
  |pair a b=>
   simp only[bQ]at h
   cases h2:bQ n b with
   |none=>rw[h2]at h;simp at h
   |some q=>
    rw[h2]at h
    simp only[ak,bS]at h
    have:=ih (off:=q.1) (k:=q.2) (by rw[h2])
    simp only[K.size]
    rw[<-h.1,<-h.2]
    omega
  |_=>simp[bQ]at h
theorem W9{t:TypeId}{k:K}(h:dz P T t k)(hk:0<k.size){cs:List Value}{off:Nat}(hl:off+k.size<=cs.length):∃u,(part t cs.toArray off).run P w=.ok u w/\((∀x,u≠.agg x)\/jV k=true->VC k u ((cs.drop off).take k.size)):=by
 unfold part
 simp only[dH,h.isAgg w,Result.andThen]
 cases hs:jV k with
 |true=>
  refine⟨.agg (cs.toArray.extract off (off+k.size)),by simp[h.info.sizeOf w,Result.andThen],λ_=>?_⟩
  cases k with
  |st c=>
   show Value.agg _=.agg _
   congr 1
   apply rW
   simp[List.extract_eq_take_drop]
  |_=>simp[jV]at hs
 |false=>
  have hlt:off<cs.length:=by omega
  refine⟨cs[off],by simp[hlt],λhu=>?_⟩
  have hu':∀x,cs[off]≠.agg x:=hu.resolve_right (by simp)
  have hk1:k.size=1:=by
   cases k with
   |st c=>simp[jV]at hs
   |pair a b=>exact(show False from h).elim
   |unit=>exact(show False from h).elim
   |gap n=>exact(show False from h).elim
   |_=>rfl
  have e:(cs.drop off).take k.size=[cs[off]]:=by
   rw[hk1,x_ hlt]
   rfl
  rw[e]
  cases k with
  |st c=>simp[jV]at hs
  |_=>exact⟨rfl,hu'⟩
theorem axc{v:Value}(h:v.oneCell'=true):∀x,v≠.agg x:=by
 intro x e
 subst e
 simp[Value.oneCell']at h
theorem ax5{t:TypeId}{c:K}(h:dz P T t (.st c)){cs:List Value}{n off:Nat}{k:K}(ho:bQ n c=some (off,k))(hl:cs.length=c.size)(h1:∀v∈cs,v.oneCell'=true) :
  ∃u,(Instr.field t (.agg cs.toArray) n).run P w=.ok u w/\VC k u ((cs.drop off).take k.size):=by
 obtain⟨fs,hu,hf⟩:=h.st
 obtain⟨f,f1,f2,f3,f4⟩:=structField n hf ho
 have hle:=RB n ho
 obtain⟨u,g1,g2⟩:=W9 (w:=w) f3 f4 (cs:=cs) (off:=off) (by omega)
 have Sc:fs[n]?=some f:=by rw[<-rX];exact f1
 refine⟨u,?_,g2 ?_⟩
 ·unfold Instr.field
  simp only[dH,gG hu,Result.andThen,Sc,asAgg,eH]
  rw[show f.offset=off from by omega]
  exact g1
 ·cases hs:jV k with
  |true=>exact .inr rfl
  |false=>
   left
   unfold part at g1
   simp only[dH,f3.isAgg w,Result.andThen,hs]at g1
   have hlt:off<cs.length:=by omega
   simp[hlt]at g1
   rw[<-g1]
   exact axc (h1 _ (om hlt))
theorem GD{r:Nat}{R:Root}{p:List Stp}{v:Value}{dd:Dat}{cs:List Value}{wh:Option (Nat×Nat)}(hr:aY Z r R)(hg:aD p R.k R.x=some dd)(h1:bW p R.k R.x)(h2:∀t∈aC p R.k,ay t R.own=true)
  (h3:aR (hp w) p R.k (J.hdr r) (aL J R r)=some (cs,wh)) (h4:VC dd.1 v cs):aW cx Z J F w (.dP r p R.dM) v:=by
 intro R' hR' _ _ d' hd'
 rw[hr.1]at hR'
 simp only[ak]at hR'
 subst hR'
 rw[hg]at hd'
 simp only[ak]at hd'
 subst hd'
 exact⟨h1,h2,cs,wh,h3,h4⟩
theorem Rel.aa_(H:Rel cx Z J F a w){w':World}(hos:w'.os=w.os)(hout:w'.output=w.output)(hsz:w.heap.size<=w'.heap.size)(hold:∀b,b<w.heap.size->hp w' b=hp w b)(ht:w'.tape=w.tape):Rel cx Z J F a w':=by
 have hs:∀r,Same Z J Z J r:=λr=>⟨rfl,rfl,rfl,rfl⟩
 have hch:∀b,b<w.heap.size->hp w' b=hp w b:=hold
 have T:gQ cx Z J F w Z J F w' (λ_=>[]) (λ_=>[]):=by
  refine⟨rfl,⟨hos,ht,hout⟩,hsz,λr R hr=>⟨R,hr,?_⟩,λr R' _ h=>absurd (hs r) h,λr R' h1 h2=>by rw[h1]at h2;simp at h2,λb hb hne=>absurd (hch b hb) hne,?_,H.gL,
   λr R' _ h=>absurd (hs r) h,λr R r' R' _ _ _ h=>absurd (hs r) h,?_,λr R R' h1 h2 _=>by rw[h1]at h2;simp only[ak]at h2;subst h2;exact⟨rfl,rfl⟩⟩
  ·cases hd:R.cu with
   |true=>exact .inl ⟨rfl,λhk=>by unfold Root.cu at hd;rw[hk]at hd;simp at hd⟩
   |false=>exact .inr ⟨rfl,rfl,rfl,bZ _,rfl,rfl,λ_=>rfl,.inr ⟨rfl,rfl,hs r⟩⟩
  ·rintro b (⟨r,R,h1,h2,h3⟩|h)
   ·exact absurd ⟨R,h1,h2⟩ h3
   ·exact .inl h
  ·intro j pi b o n h1 h2 hne
   obtain⟨R,hR,hk,hl,_⟩:=H.kG j pi b o n h1 h2
   exact absurd (hch b ((H.roots _ R hR).mine b (by simp[blk,aL,hk,hl])).1) hne
 exact H.turn T (λr R _ h=>absurd (hs r) h) (λr R _ h=>absurd (hs r) h) (λr R _ h=>absurd (hs r) h)
theorem RA:∀(n:Nat) {c:K},(aC.kC n c).isSome=true->∃off k,bQ n c=some (off,k):=by
 intro n
 induction n with
 |zero=>intro c h;cases c with
  |pair a b=>exact⟨0,a,rfl⟩
  |_=>simp[aC.kC]at h
 |succ n ih=>intro c h;cases c with
  |pair a b=>obtain⟨off,k,h1⟩:=ih (c:=b) h;exact⟨a.size+off,k,by simp[bQ,h1]⟩
  |_=>simp[aC.kC]at h
theorem aai:∀(n:Nat) {c k:K},aC.kC n c=some k->∃off,bQ n c=some (off,k):=by
 intro n
 induction n with
 |zero=>intro c k h;cases c with
  |pair a b=>simp only[aC.kC,ak]at h;subst h;exact⟨0,rfl⟩
  |_=>simp[aC.kC]at h
 |succ n ih=>intro c k h;cases c with
  |pair a b=>obtain⟨off,h1⟩:=ih (c:=b) h;exact⟨a.size+off,by simp[bQ,h1]⟩
  |_=>simp[aC.kC]at h
theorem aoo:∀(p:List Stp) {n:Nat} {k k1 k2:K} {off o2:Nat} {c:K},lW p k=some (off,k1)->k1=.st c->bQ n c=some (o2,k2)->lW (p++[.aU n]) k=some (off+o2,k2):=by
 intro p
 induction p with
 |nil=>
  intro n k k1 k2 off o2 c h e h2
  simp only[lW,ak,bS]at h
  obtain⟨rfl,rfl⟩:=h
  subst e
  simp[lW,h2]
 |cons s p ih=>
  intro n k k1 k2 off o2 c h e h2
  cases s with
  |idx i=>simp[lW]at h
  |aU m=>
   cases k with
   |st c'=>
    simp only[lW,gX]at h ⊢
    cases hq:bQ m c' with
    |none=>rw[hq]at h;simp at h
    |some q=>
     rw[hq]at h
     simp only at h ⊢
     cases hr:lW p q.2 with
     |none=>rw[hr]at h;simp at h
     |some r=>
      rw[hr]at h
      simp only[ak,bS]at h
      obtain⟨rfl,rfl⟩:=h
      rw[ih (off:=r.1) (k1:=r.2) (by rw[hr]) e h2]
      simp only[ou]
   |_=>simp[lW]at h
theorem av2:∀(p:List Stp) {k k1 k2:K} {off:Nat},ER p k=some k1->lW p k=some (off,k2)->k2=k1:=by
 intro p
 induction p with
 |nil=>
  intro k k1 k2 off h1 h2
  simp only[ER,ak]at h1
  simp only[lW,ak,bS]at h2
  rw[<-h1,h2.2]
 |cons s p ih=>
  intro k k1 k2 off h1 h2
  cases s with
  |idx i=>simp[lW]at h2
  |aU m=>
   cases k with
   |st c=>
    simp only[ER,lW]at h1 h2
    cases hk:aC.kC m c with
    |none=>rw[hk]at h1;simp at h1
    |some k0=>
     obtain⟨o,ho⟩:=aai m hk
     rw[hk]at h1
     rw[ho]at h2
     simp only at h1 h2
     cases hr:lW p k0 with
     |none=>rw[hr]at h2;simp at h2
     |some r=>
      rw[hr]at h2
      simp only[ak,bS]at h2
      rw[<-h2.2]
      exact ih (off:=r.1) h1 (by rw[hr])
   |_=>simp[lW]at h2
theorem aa5{h:Heap}:∀(p:List Stp) {k k1:K} {x:El k} {cs:List Value} {d:Dat} {off:Nat},aD p k x=some d->lW p k=some (off,k1)->cs.length=k.size->
  k1=d.1/\off+k1.size<=cs.length/\aR h p k cs none=some ((cs.drop off).take k1.size,none)/\bW p k x/\aC p k=[]:=by
 intro p
 induction p with
 |nil=>
  intro k k1 x cs d off hg ho hl
  simp only[aD,ak]at hg
  simp only[lW,ak,bS]at ho
  obtain⟨rfl,rfl⟩:=ho
  subst hg
  exact⟨rfl,by omega,by simp[aR,<-hl],trivial,by simp[aC]⟩
 |cons s p ih=>
  intro k k1 x cs d off hg ho hl
  cases s with
  |idx i=>simp[lW]at ho
  |aU n=>
   cases k with
   |st c=>
    simp only[aD,lW]at hg ho
    cases hcg:aP n c x with
    |none=>rw[hcg]at hg;simp at hg
    |some s=>
     rw[hcg]at hg
     simp only at hg
     cases hq:bQ n c with
     |none=>rw[hq]at ho;simp at ho
     |some q=>
      have hk2:q.2=s.1:=LJ n (c:=c) hcg hq
      rw[hq]at ho
      obtain⟨q1,q2⟩:=q
      simp only at hk2 ho
      subst hk2
      cases hr:lW p s.1 with
      |none=>rw[hr]at ho;simp at ho
      |some r=>
       rw[hr]at ho
       simp only[ak,bS]at ho
       obtain⟨rfl,rfl⟩:=ho
       have hle:=RB n hq
       have hl':cs.length=c.size:=hl
       obtain⟨g1,g2,g3,g4,g5⟩:=ih (cs:=(cs.drop q1).take s.1.size) (off:=r.1) (k1:=r.2) hg (by rw[hr]) (Pk (by omega))
       rw[Pk (by omega)]at g2
       refine⟨g1,by omega,?_,by simp only[bW,hcg];exact g4,by simp[aC,kg n hcg,g5]⟩
       simp only[aR]
       rw[hq]
       simp only[Option.map_none]
       rw[g3]
       simp only[List.drop_take,List.take_take,wO,Nat.min_eq_left (show r.2.size<=s.1.size-r.1 by omega)]
   |_=>simp[aD]at hg
theorem ayd(Z:St)(r:Nat)(A B:Root):aO (aO Z r A) r B=aO Z r B:=by
 unfold aO
 simp only[St.mk.injEq,true_and]
 funext n
 unfold upd
 cases Nat.beq n r<;>rfl
theorem aa6{h:Heap}:∀(p:List Stp) {k:K} {x:El k} {t d z:Dat},p.all Stp.jw=true->aD p k x=some d->bO p k x t=some z->t.1.size=d.1.size->
  aD p z.1 z.2=some t/\bW p z.1 z.2/\aC p z.1=[]/\∀cs wh,aR h p z.1 cs wh=aR h p k cs wh:=by
 intro p
 induction p with
 |nil=>
  intro k x t d z _ hg hz hs
  simp only[bO,ak]at hz
  subst hz
  exact⟨rfl,trivial,by simp[aC],λcs wh=>rfl⟩
 |cons s p ih=>
  intro k x t d z hp hg hz hs
  cases s with
  |idx i=>simp[Stp.jw]at hp
  |aU n=>
   have hp':p.all Stp.jw=true:=by simpa[Stp.jw]using hp
   cases k with
   |st c=>
    simp only[aD,bO]at hg hz
    cases hcg:aP n c x with
    |none=>rw[hcg]at hg;simp at hg
    |some s=>
     rw[hcg]at hg hz
     simp only at hg hz
     cases hs':bO p s.1 s.2 t with
     |none=>rw[hs']at hz;simp at hz
     |some u=>
      rw[hs']at hz
      simp only at hz
      cases hcp:dB n c x u with
      |none=>rw[hcp]at hz;simp at hz
      |some y=>
       rw[hcp]at hz
       simp only[ak]at hz
       subst hz
       obtain⟨i1,i2,i3,i4⟩:=ih hp' hg hs' hs
       have e1:aP n y.1 y.2=some u:=GH n hcp
       have hsz:u.1.size=s.1.size:=Xd p hg hs hs'
       refine⟨by simp only[aD,e1];exact i1,by simp only[bW,e1];exact i2,by simp[aC,kg n e1,i3],λcs wh=>?_⟩
       simp only[aR]
       cases ho:bQ n c with
       |none=>
        exfalso
        obtain⟨off,h1⟩:=aai n (kg n hcg)
        rw[ho]at h1;simp at h1
       |some q=>
        have hk2:q.2=s.1:=LJ n (c:=c) hcg ho
        obtain⟨q1,q2⟩:=q
        simp only at hk2
        subst hk2
        rw[RF n ho hcp]
        simp only
        rw[hsz]
        exact i4 _ _
   |_=>simp[aD]at hg
theorem axK{R:Root}{r:Nat}{p:List Stp}{d:Dat}{tk:dS}{q:Root×Dat}(h:O9 R r p d tk=some q) :
  ∃zg own',bO p R.k R.x (nu d)=some zg/\q=(kU R d zg own',(nu d))/\(∀t∈zg.1.tys,ay t own'=ay t R.own)/\p.all Stp.jw=true/\(p≠[]\/∃t,R.kind=.var t)/\∀n,(r,n)∉tk.tags:=by
 unfold O9 at h
 cases hc:(!d.1.flat&&p.all Stp.jw && !R.keep&&(!p.isEmpty||R.isVar)&&tk.tags.all (λt=>!Nat.beq t.1 r))with
 |false=>rw[hc]at h;simp at h
 |true=>
  rw[hc]at h
  simp only[fT]at h
  simp only[bf]at hc
  obtain⟨⟨⟨⟨_,c1⟩,_⟩,c2⟩,c3⟩:=hc
  unfold vV at h
  cases hz:bO p R.k R.x (nu d)with
  |none=>rw[hz]at h;simp at h
  |some zg=>
   rw[hz]at h
   simp only at h
   cases hl:tk.own.filter (λt=>!ay t R.own&&ay t d.1.tys && !ay t zg.1.tys)with
   |nil=>rw[hl]at h;simp at h
   |cons a l=>
    rw[hl]at h
    simp only[ak]at h
    refine⟨zg,(a :: l)++R.own,rfl,h.symm,λt ht=>?_,c1,?_,λn hn=>?_⟩
    ·cases hm:ay t R.own with
     |true=>rw[fF]at hm ⊢;exact bG _ hm
     |false=>
      rw[gF]at hm ⊢
      intro h1
      rcases dh.1 h1 with h1|h1
      ·rw[<-hl]at h1
       have:=(jg.1 h1).2
       simp only[bf,jN,gF]at this
       exact this.2 ht
      ·exact hm h1
    ·rcases og .. |>.mp c2 with h1|h1
     ·left;intro e;rw[e]at h1;simp at h1
     ·right
      unfold Root.isVar at h1
      cases hk:R.kind with
      |var t=>exact⟨t,rfl⟩
      |anon=>rw[hk]at h1;simp at h1
      |par=>rw[hk]at h1;simp at h1
      |dead=>rw[hk]at h1;simp at h1
    ·have:=dV.1 c3 _ hn
     simp at this
theorem aiA{t:TypeId}{kk:K}{x:El kk}{FE:List TypeId}{mP:List Tag}{dA:List Wr}{Po:Bool}{cst:List Value}{Dn:List Nat}{v:Value}{r:Nat}{R:Root}(ht:dz P T t kk)
  (H:Rel cx Z J F a w) (hr:aY Z r R) (hv:cZ Z R) {p:List Stp} {dd:Dat} (hg:aD p R.k R.x=some dd) (cK:bW p R.k R.x) (hown:∀t∈aC p R.k,ay t R.own=true)
  (k2:cO Z (bz FE kk) mP=true) (k3:VC kk v cst) (k1:Held cx Z J F w kk x FE mP cst Dn)
  {cs1:List Value} {b o:Nat} (hn:aR (hp w) p R.k (J.hdr r) (aL J R r)=some (cs1,some (b,o))) {A:Type} {z:A} {k:List Wr->Prog A} {jZ:St} (h:(storeAt kk r p ⟨kk,x,FE,mP,dA,Po⟩ R dd k).ends jZ z) :
  ∃w',(Instr.storeAt t (.pointer (some ⟨b,o,none⟩)) v).run P w=.ok () w'/\∃J' F',∃R',Rel cx (aO Z r R') J' F' a w'/\(k (dA++[.r r (some R')])).ends jZ z:=by
 unfold storeAt at h
 rcases bB h with⟨hc3,h⟩|⟨_,h⟩
 ·simp only[bf]at hc3
  simp only[dS.bad]at hc3 h
  cases hz:bO p R.k R.x ⟨kk,x⟩with
  |none=>rw[hz]at h;exact h.elim
  |some z=>
   rw[hz]at h
   simp only at h
   rcases bB h with⟨_,h⟩|⟨_,h⟩
   ·exact h.elim
   ·obtain⟨w',r1,J',F',r2⟩:=ayp (P:=P) (z:=z) ht H hr hv hg hz cK hown k1 k2 k3
     (by
      rcases og .. |>.mp hc3.1.1 with h|h
      ·exact .inl (K.eq_of_beq h)
      ·exact .inr (K.eq_of_beq (bf .. |>.mp h).1))
     (by
      rcases og .. |>.mp hc3.1.2 with h|h
      ·exact .inl h
      ·exact .inr h)
     (λt ht=>by
      have:=dV.1 hc3.2 t ht
      simpa[gF]using this) (R.keep||Po) hn
    exact⟨w',r1,J',F',_,r2,h⟩
 ·exact h.elim
theorem anF(hT:eU P T)(H:Rel cx Z J F a w)(hd:o.dst=none){t:TypeId}{x y:Operand}(ho:o.op=.store t x y){u v:AV}(h1:aW cx Z J F w u (a.eval x))(h2:dK Z u)(h3:aW cx Z J F w v (a.eval y))(h4:dK Z v)
  (h:(Xn T t u v λws=>(.ret ws:Prog (List Wr))).ends Z ws):dG P cx o a w (aF ws Z):=by
 unfold Xn at h
 cases hty:T.ty t with
 |none=>rw[hty]at h;exact h.elim
 |some kk=>
  rw[hty]at h
  cases u with
  |ptr r p n=>
   simp only at h
   have ht:=hT.ty t kk hty
   obtain⟨tk,htk,h⟩:=xP H h3 h4 h
   rcases bB h with⟨hc1,h⟩|⟨_,h⟩
   ·simp only[bf]at hc1
    obtain⟨R,hr,hv,h⟩:=gH h
    rcases bB h with⟨hc2,h⟩|⟨_,h⟩
    ·simp only[bf]at hc2
     cases hg:aD p R.k R.x with
     |none=>rw[hg]at h;exact h.elim
     |some dd=>
      rw[hg]at h
      simp only at h
      have hkk:tk.k=kk:=K.eq_of_beq hc1.1
      have DK:=ayR hc1.2
      have hown:=nA hc2.1.2
      obtain⟨cK,cs,b,q,hn,e⟩:=h1.2 R hr.1 hv hc2.1.1 hown (by rw[hg];rfl)
      have hap:=LC.1 hc2.2
      obtain⟨a_,F1,cst,Dn,lw,lh,H1,T1,k1,k2,k3,k4,k5,k6⟩:=take1 H htk
      have hS:=k6 r DK
      have hr1:=(hS.live R).2 hr
      have hv1:cZ (aF tk.ws Z) R:=⟨hv.1,by rw[qL (λt ht=>(k6 t.1 (hap t ht)).root)];exact hv.2⟩
      have hn1:aR (hp w) p R.k (a_.hdr r) (aL a_ R r)=some (cs,some (b,q)):=by rw[hS.hdr,hS.wh];exact hn
      obtain⟨tkk,tkx,FE,mP,dA,Po⟩:=tk
      simp only at hkk
      subst hkk
      simp only[dS.bad]at k2 k3 h
      cases hrg:O9 R r p dd ⟨tkk,tkx,FE,mP,dA,Po⟩with
      |none=>
       rw[hrg]at h
       obtain⟨w',r1,J',F',r2⟩:=aiA (P:=P) ht H1 hr1 hv1 hg cK hown k3 k1 k2 hn1 h
       obtain⟨R',r2,r3⟩:=r2
       rw[bC r3]
       refine⟨undef,w',J',F',.inr ⟨?_,rfl⟩,?_⟩
       ·simp only[execOp,ho,e,dH,r1,eZ,eH]
       ·rw[hd,mY]
        exact r2
      |some qq=>
       rw[hrg]at h
       simp only at h
       obtain⟨hck,h⟩:=rF h
       obtain⟨zg,own',g1,g2,g3,g4,g5,g6⟩:=axK hrg
       subst g2
       simp only at hck h
       have hnt:=(H1.fE r R hr1.1).2.2
       obtain⟨cs1,cB,aT,rest,hn',H2,T2,_,_,hpm⟩:=aa7 (own':=own') H1 hr1 hv1 hg g1 cK hown g5 g3
       rw[hn1]at hn'
       simp only[ak,bS]at hn'
       obtain⟨rfl,rfl⟩:=hn'
       have hr2:aY (aO (aF dA Z) r (kU R dd zg own')) r (kU R dd zg own'):=⟨fQ ..,hr.2⟩
       have hv2:cZ (aO (aF dA Z) r (kU R dd zg own')) (kU R dd zg own'):=⟨hv.1,by
        show cO _ _ R.tags=true
        rw[vO hnt,qL (λt ht=>(k6 t.1 (hap t ht)).root)]
        exact hck⟩
       have k1':=k2.turn H1 T2 (λb hb=>⟨rfl,bG _ (k2.sub b hb)⟩)
       have k2':cO (aO (aF dA Z) r (kU R dd zg own')) (bz FE tkk) mP=true:=by rw[vO g6];exact k3
       obtain⟨f1,f2,f3,f4⟩:=aa6 (h:=hp w) p g4 hg g1 (Ba dd.1)
       have hsd:(bn a_ r (a_.loc r) (a_.hdr r) rest).hdr r=a_.hdr r:=by simp[bn,upd_same]
       have aqe:aL (bn a_ r (a_.loc r) (a_.hdr r) rest) (kU R dd zg own') r=aL a_ R r:=by rw[u6,FL (show(kU R dd zg own').kind=R.kind from rfl),<-zK]
       have hn2:aR (hp w) p (kU R dd zg own').k ((bn a_ r (a_.loc r) (a_.hdr r) rest).hdr r) (aL (bn a_ r (a_.loc r) (a_.hdr r) rest) (kU R dd zg own') r)=some (cs,some (b,q)):=by
        rw[hsd,aqe]
        exact(f4 _ _).trans hn1
       obtain⟨w',r1,J',F',r2⟩:=aiA (P:=P) ht H2 hr2 hv2 f1 f2 (λt ht=>by have ht':t∈aC p zg.1:=ht;rw[f3]at ht';simp at ht') k2' k1 k1' hn2 h
       obtain⟨R',r2,r3⟩:=r2
       rw[bC r3]
       refine⟨undef,w',J',F',.inr ⟨?_,rfl⟩,?_⟩
       ·simp only[execOp,ho,e,dH,r1,eZ,eH]
       ·rw[hd,mY]
        rw[ayd]at r2
        exact r2
    ·exact h.elim
   ·exact h.elim
  |_=>exact h.elim
theorem amJ{A:Type}{z:A}{x:AV}{kk:K}{yes:Nat->Nat->Prog A}{no:Prog A}(h:(LM x kk yes no).ends Z z):(∃r g R,x=.ref r g/\aY Z r R/\cZ Z R/\R.g=g/\R.k=kk/\(yes r g).ends Z z)\/no.ends Z z:=by
 cases x with
 |ref r g=>
  simp only[LM,Prog.ends]at h
  cases hr:Z.roots r with
  |none=>rw[hr]at h;exact .inr h
  |some R=>
   rw[hr]at h
   simp only at h
   rcases bB h with⟨_,h⟩|⟨_,h⟩
   ·obtain⟨R',hr',hv,h⟩:=gH h
    rcases bB h with⟨hc,h⟩|⟨_,h⟩
    ·simp only[bf]at hc
     exact .inl ⟨r,g,R',rfl,hr',hv,bu hc.1,K.eq_of_beq hc.2,h⟩
    ·exact h.elim
   ·exact .inr h
 |_=>exact .inr h
theorem am8(H:Rel cx Z J F a w)(hd:o.dst=some d)(hdn:d<cx.nt){t:TypeId}{x:Operand}(ho:o.op=.box t x)
  (h:(match T.ty t with
   |some kk=>dY x λa=>LM a kk (λr g=>.ret [Wr.s d (.one (.kS r g kk []))]) <| qY kk a λtk=>bif tk.k.beq kk && !ay t tk.bad then
     jS (aK d 0) (.ret (tk.ws++[Wr.r (aK d 0) (some (bU tk.k tk.x tk.own tk.ig (.var t) tk.keep)),Wr.s d (.one (.ptr (aK d 0) [] 0))]))
    else(.fail:Prog (List Wr))
   |none=>.fail).ends Z ws):dG P cx o a w (aF ws Z):=by
 split at h
 ·rename_i kk hty
  obtain⟨u,h1,h2,h⟩:=jh H h
  rcases amJ h with⟨r,g,R,eu,hr,hv,eg,ek,h5⟩|h
  ·subst eu eg ek
   obtain⟨hka,jF⟩:=h1 R hr rfl
   have hb0:∀b,b<w.heap.size->hp (w.alloc (.cells (a.eval x).cells t)) b=hp w b:=λb hb=>Bc w _ hb
   have H1:Rel cx Z J F a (w.alloc (.cells (a.eval x).cells t)):=H.aa_ rfl rfl (by show w.heap.size<=(w.heap.push _).size;simp) hb0 rfl
   have hnew:=DI w (.cells (a.eval x).cells t)
   rw[bC h5]
   refine nR (v:=.pointer (some ⟨w.heap.size,0,none⟩)) (x:=.one (.kS r R.g R.k [])) H1 hd hdn (by simp only[execOp,ho,dH,aie,eZ,eH]) ⟨a.eval x,w.heap.size,0,R.k,rfl,⟨?_,λhF=>?_,λq Q hq hbq=>?_⟩,λi hi=>?_,rfl,h1⟩ h2
   ·show w.heap.size<(w.heap.push _).size;simp
   ·have:=(H.fl _ hF).1;omega
   ·have:=((H.roots q Q hq).mine _ hbq).1;omega
   ·unfold cellAt
    rw[hnew]
    simp
  obtain⟨tk,htk,h⟩:=xP H h1 h2 h
  rcases bB h with⟨_,h⟩|⟨_,h⟩
  ·obtain⟨g1,g2⟩:=oF h
   rw[bC g2]
   obtain⟨a_,F1,cst,Dn,lw,lh,H1,T1,k1,k2,k3,k4,k5,k6⟩:=take1 H htk
   have hnr:aK d 0∉tk.ws.flatMap Wr.dZ:=by
    intro hm
    cases htk with
    |held hws cs hv h hc=>rw[hws]at hm;simp at hm
    |ref r R hr hv e hk hd=>rw[e]at hm;simp only[kP,CF,jf,Wr.dZ,gY]at hm;rw[hm,hr.1]at g1;simp at g1
    |cut r R cs hr hv hk e hd hl sU how=>rw[e.2.2.1]at hm;simp only[kP,CF,jf,Wr.dZ,gY]at hm;rw[hm,hr.1]at g1;simp at g1
    |gap r R p dd z hr hv hg hz cK hown hpv e hn=>rw[e]at hm;simp only[kP,CF,jf,Wr.dZ,gY]at hm;rw[hm,hr.1]at g1;simp at g1
   have hn1:(aF tk.ws Z).roots (aK d 0)=none:=by rw[(k6 _ hnr).root];exact g1
   obtain⟨r1,J',F',r2,r3⟩:=Z8 (P:=P) (t:=t) H1 hn1 (oK d 0) k2 k3 k1 tk.keep
   rw[mY]
   exact nR (x:=.one (.ptr (aK d 0) [] 0)) r2 hd hdn (by simp only[execOp,ho,dH,r1,eZ,eH]) r3 ⟨_,fQ ..,.inr (dW _)⟩
  ·exact h.elim
 ·exact h.elim
theorem agN{B:Type}{z:B}(hT:eU P T)(H:Rel cx Z J F a w){t:TypeId}{x:Operand}{v:AV}{dP:Bool}(ho:o.op=.load t x)(h1:aW cx Z J F w v (a.eval x))(h2:dK Z v){k:AV->Prog B}
  (h:(xD T dP t v k).ends Z z):∃u v',(execOp a.eval o).run P w=.ok (.value v') w/\aW cx Z J F w u v'/\dK Z u/\(k u).ends Z z:=by
 unfold xD at h
 split at h
 ·exact h.elim
 ·rename_i kk hty
  have ht:=hT.ty t kk hty
  obtain⟨s1,s2,s3⟩:=ht.shape
  split at h
  ·rename_i r g k0 p
   obtain⟨u,b,off,k1,e,hq,hC,ho1,hR⟩:=h1
   obtain⟨R,hr,hv,h⟩:=gH h
   rcases bB h with⟨hc,h⟩|⟨_,h⟩
   ·simp only[bf]at hc
    cases hg:aD p R.k R.x with
    |none=>rw[hg]at h;exact h.elim
    |some dd=>
     rw[hg]at h
     simp only at h
     obtain⟨dk,dx⟩:=dd
     rcases beq_true h with⟨ek,h5⟩|⟨_,h⟩
     ·simp only at ek
      subst ek
      have hk0:=K.eq_of_beq hc.1.2
      subst hk0
      obtain⟨hka,jF⟩:=hR R hr (bu hc.1.1)
      rw[jF.cells]at hC
      have hwn:aL J R r=none:=by unfold aL;rw[hka]
      obtain⟨g1,g2,g3,g4,g5⟩:=aa5 (h:=hp w) p hg ho1 (H.roots r R hr).len
      simp only at g1
      subst g1
      have hown:∀t∈aC p R.k,ay t R.own=true:=λt ht=>by rw[g5]at ht;simp at ht
      have hn:aR (hp w) p R.k (J.hdr r) (aL J R r)=some (((J.hdr r).drop off).take k1.size,none):=by rw[hwn];exact g3
      obtain⟨aT,hO,hf⟩:=tL H hr hv hg g4 hown hn
      have hV:=tJ H hr hO hf
      have hcs:Cells (hp w) b off (((J.hdr r).drop off).take k1.size):=by
       intro i hi
       have hi':i<k1.size:=by rw[Pk g2]at hi;exact hi
       have:=hC (off+i) (by omega)
       rw[jq]at this
       rw[this,Gl hi',CG]
      obtain⟨u',hu⟩:=VC.mk s1 s2 s3 hV
      have hrun:=Fu (P:=P) ht hcs (lD hV) hu
      have hrun':(execOp a.eval o).run P w=.ok (.value u') w:=by simp only[execOp,ho,e,dH,hrun,eZ,eH]
      rcases bB h5 with⟨hf,h6⟩|⟨_,h6⟩
      ·exact⟨.val k1 dx [],u',hrun',λ_=>⟨_,hu,lC hf hV⟩,λt ht=>by simp at ht,h6⟩
      ·exact⟨.dP r p R.dM,u',hrun',GD (cx:=cx) (F:=F) hr hg g4 hown hn hu,⟨R,hr.1,.inr (bZ _)⟩,h6⟩
     ·exact h.elim
   ·exact h.elim
  rcases Lu H h1 h2 h with⟨r,R,p,dd,cs,b,q,hr,hv,hg,cK,hown,hn,e,h⟩|⟨bt,dd,Tg,b,q,cs,hw,e,hcs,hV,hok,hb,h⟩
  ·obtain⟨hC,⟨aT,hO,hf⟩,_⟩:=uU H hr hv hg cK hown hn
   obtain⟨dk,dx⟩:=dd
   rcases beq_true h with⟨ek,h5⟩|⟨_,h⟩
   ·simp only at ek
    subst ek
    clear h
    have h:=h5
    clear h5
    have hV:=tJ H hr hO hf
    obtain⟨u,hu⟩:=VC.mk s1 s2 s3 hV
    have hrun:=Fu (P:=P) ht hC (lD hV) hu
    have hrun':(execOp a.eval o).run P w=.ok (.value u) w:=by simp only[execOp,ho,e,dH,hrun,eZ,eH]
    rcases bB h with⟨_,h⟩|⟨_,h⟩
    ·exact⟨.dP r p R.dM,u,hrun',GD (cx:=cx) (F:=F) hr hg cK hown hn hu,⟨R,hr.1,.inr (bZ _)⟩,h⟩
    ·exact⟨.val dk dx _,u,hrun',λ_=>⟨cs,hu,hV⟩,E8 H hr _,h⟩
   ·exact h.elim
  ·obtain⟨dk,dx⟩:=dd
   rcases beq_true h with⟨ek,h5⟩|⟨_,h⟩
   ·simp only at ek
    subst ek
    clear h
    have h:=h5
    clear h5
    obtain⟨u,hu⟩:=VC.mk s1 s2 s3 hV
    have hrun:=Fu (P:=P) ht hcs (lD hV) hu
    have hrun':(execOp a.eval o).run P w=.ok (.value u) w:=by simp only[execOp,ho,e,dH,hrun,eZ,eH]
    refine⟨.val dk dx _,u,hrun',λ_=>⟨cs,hu,?_⟩,?_,h⟩
    ·cases hf:dk.flat with
     |true=>exact lC hf hV
     |false=>exact hV
    ·cases hf:dk.flat with
     |true=>intro t ht;simp at ht
     |false=>exact hw
   ·exact h.elim
theorem ann(hT:eU P T)(H:Rel cx Z J F a w)(hd:o.dst=some d)(hdn:d<cx.nt){t:TypeId}{x:Operand}{dP:Bool}(ho:o.op=.load t x)
  (h:(dY x λv=>xD T dP t v λu=>(.ret [Wr.s d (.one u)]:Prog (List Wr))).ends Z ws):dG P cx o a w (aF ws Z):=by
 obtain⟨v,h1,h2,h⟩:=jh H h
 obtain⟨u,v',g1,g2,g3,h⟩:=agN hT H ho h1 h2 h
 rw[bC h]
 exact fq H hd hdn g1 g2 g3
theorem ano(hT:eU P T)(H:Rel cx Z J F a w)(hd:o.dst=some d)(hdn:d<cx.nt){t:TypeId}{x:Operand}(ho:o.op=.load t x)
  (h:(dY x λv=>xD T true t v λu=>match T.ty t with
   |some kk=>takeC kk u λtk=>jS (aK d 0) (.ret (tk.ws++[Wr.r (aK d 0) (some (bU tk.k tk.x tk.own tk.ig .anon tk.keep)),Wr.s d (.one (.ref (aK d 0) 0))]))
   |none=>(.fail:Prog (List Wr))).ends Z ws):dG P cx o a w (aF ws Z):=by
 obtain⟨v,h1,h2,h⟩:=jh H h
 obtain⟨u,v',hrun,g4,g5,h⟩:=agN hT H ho h1 h2 h
 split at h
 ·rename_i kk hty
  obtain⟨tk,htk,h⟩:=ayx H g4 g5 h
  obtain⟨g1,g2⟩:=oF h
  rw[bC g2]
  obtain⟨a_,F1,cst,Dn,lw,lh,H1,T1,k1,k2,k3,k4,k5,k6⟩:=take1 H htk
  have hnr:aK d 0∉tk.ws.flatMap Wr.dZ:=by
   intro hm
   cases htk with
   |held hws cs hv h hc=>rw[hws]at hm;simp at hm
   |ref r R hr hv e hk hd=>rw[e]at hm;simp only[kP,CF,jf,Wr.dZ,gY]at hm;rw[hm,hr.1]at g1;simp at g1
   |cut r R cs hr hv hk e hd hl sU how=>rw[e.2.2.1]at hm;simp only[kP,CF,jf,Wr.dZ,gY]at hm;rw[hm,hr.1]at g1;simp at g1
   |gap r R p dd z hr hv hg hz cK hown hpv e hn=>rw[e]at hm;simp only[kP,CF,jf,Wr.dZ,gY]at hm;rw[hm,hr.1]at g1;simp at g1
  have hn1:(aF tk.ws Z).roots (aK d 0)=none:=by rw[(k6 _ hnr).root];exact g1
  obtain⟨J',r2,r3⟩:=CV (F':=F1.filter λb=>!ay b Dn) H1 hn1 (oK d 0) k2.sub k2.nd (FB k2.wt)
   (λb hb=>by
    obtain⟨q1,q2⟩:=jg.1 hb
    simp only[jN,gF]at q2
    exact⟨q1,q2⟩) (H1.gL.filter _) k2.len
   (λhcl=>by
    cases hb:tk.bad with
    |nil=>exact lU hb (k2.ow k3)
    |cons t0 l=>
     have et:tk.ig=tk.tags:=by
      unfold dS.ig
      rw[hb]
     rw[et]at hcl ⊢
     exact dR (λ_ _=>rfl) (λb h=>.inl h) (λ_ _=>rfl) (k2.ow hcl)) k1 tk.keep
  rw[mY]
  exact nR (x:=.one (.ref (aK d 0) 0)) r2 hd hdn hrun r3 ⟨_,fQ ..,.inr (dW _)⟩
 ·exact h.elim
end
end
section
open Go
variable [Fr]
theorem ZC{h:Heap}{ok:Nat->Prop}:∀(n:Nat) {c:K} {x:El c} {cs:List Value} {d:Dat},Vw h ok c x cs->aP n c x=some d->∃off,bQ n c=some (off,d.1)/\Vw h ok d.1 d.2 ((cs.drop off).take d.1.size):=by
 intro n
 induction n with
 |zero=>
  intro c x cs d H hg
  cases c with
  |pair a b=>
   simp only[aP,ak]at hg
   subst hg
   obtain⟨c1,c2,rfl,h1,h2⟩:=H
   refine⟨0,rfl,?_⟩
   have:=lD h1
   simpa[<-this]using h1
  |_=>simp[aP]at hg
 |succ n ih=>
  intro c x cs d H hg
  cases c with
  |pair a b=>
   simp only[aP]at hg
   obtain⟨c1,c2,rfl,h1,h2⟩:=H
   obtain⟨off,g1,g2⟩:=ih h2 hg
   refine⟨a.size+off,by simp[bQ,g1],?_⟩
   have:=lD h1
   rw[<-this,<-wO]
   simpa using g2
  |_=>simp[aP]at hg
theorem aa8:∀(p:List Stp) {q:List Stp} {k:K} {x:El k} {d:Dat},aD p k x=some d->aD (p++q) k x=aD q d.1 d.2:=by
 intro p
 induction p with
 |nil=>intro q k x d h;simp only[aD,ak]at h;subst h;rfl
 |cons s p ih=>
  intro q k x d h
  cases s with
  |aU n=>
   cases k with
   |st c=>
    simp only[aD,gX]at h ⊢
    cases hg:aP n c x with
    |none=>rw[hg]at h;simp at h
    |some s=>rw[hg]at h;exact ih h
   |_=>simp[aD]at h
  |idx i=>
   cases k with
   |sl e k=>simp only[aD,gX]at h ⊢;exact ih h
   |_=>simp[aD]at h
theorem Lg:∀(p:List Stp) {q:List Stp} {k:K} {x:El k} {d:Dat},aD p k x=some d->bW p k x->bW q d.1 d.2->bW (p++q) k x:=by
 intro p
 induction p with
 |nil=>intro q k x d h _ h2;simp only[aD,ak]at h;subst h;exact h2
 |cons s p ih=>
  intro q k x d h h1 h2
  cases s with
  |aU n=>
   cases k with
   |st c=>
    simp only[aD,bW,gX]at h h1 ⊢
    cases hg:aP n c x with
    |none=>rw[hg]at h;simp at h
    |some s=>rw[hg]at h h1;exact ih h h1 h2
   |_=>simp[aD]at h
  |idx i=>
   cases k with
   |sl e k=>simp only[aD,bW,gX]at h h1 ⊢;exact⟨h1.1,h1.2.1,ih h h1.2.2 h2⟩
   |_=>simp[aD]at h
theorem alI:∀(p:List Stp) {q:List Stp} {k:K} {x:El k} {d:Dat},aD p k x=some d->bW (p++q) k x->bW q d.1 d.2:=by
 intro p
 induction p with
 |nil=>intro q k x d h h2;simp only[aD,ak]at h;subst h;exact h2
 |cons s p ih=>
  intro q k x d h h2
  cases s with
  |aU n=>
   cases k with
   |st c=>
    simp only[aD,bW,gX]at h h2
    cases hg:aP n c x with
    |none=>rw[hg]at h;simp at h
    |some s=>rw[hg]at h h2;exact ih h h2
   |_=>simp[aD]at h
  |idx i=>
   cases k with
   |sl e k=>simp only[aD,bW,gX]at h h2;exact ih h h2.2.2
   |_=>simp[aD]at h
theorem aho:∀(p:List Stp) {q:List Stp} {k:K} {x:El k} {d:Dat},aD p k x=some d->aC (p++q) k=aC p k++aC q d.1:=by
 intro p
 induction p with
 |nil=>intro q k x d h;simp only[aD,ak]at h;subst h;rfl
 |cons s p ih=>
  intro q k x d h
  cases s with
  |aU n=>
   cases k with
   |st c=>
    simp only[aD,aC,gX]at h ⊢
    cases hg:aP n c x with
    |none=>rw[hg]at h;simp at h
    |some s=>rw[hg]at h;rw[kg n hg];exact ih h
   |_=>simp[aD]at h
  |idx i=>
   cases k with
   |sl e k=>simp only[aD,aC,gX]at h ⊢;rw[ih h]
   |_=>simp[aD]at h
theorem JR{h:Heap}:∀(p:List Stp) {q:List Stp} {k:K} {x:El k} {d:Dat} {cs:List Value} {wh:Option (Nat×Nat)} {c1:List Value} {w1:Option (Nat×Nat)},aD p k x=some d->aR h p k cs wh=some (c1,w1)->aR h (p++q) k cs wh=aR h q d.1 c1 w1:=by
 intro p
 induction p with
 |nil=>
  intro q k x d cs wh c1 w1 h h1
  simp only[aD,ak]at h
  subst h
  simp only[aR,ak,bS]at h1
  obtain⟨rfl,rfl⟩:=h1
  rfl
 |cons s p ih=>
  intro q k x d cs wh c1 w1 h h1
  cases s with
  |aU n=>
   cases k with
   |st c=>
    simp only[aD,aR,gX]at h h1 ⊢
    cases hg:aP n c x with
    |none=>rw[hg]at h;simp at h
    |some s=>
     rw[hg]at h
     cases ho:bQ n c with
     |none=>rw[ho]at h1;simp at h1
     |some q2=>
      rw[ho]at h1
      have hk:=LJ n (c:=c) hg ho
      obtain⟨o2,k2⟩:=q2
      simp only at hk
      subst hk
      exact ih h h1
   |_=>simp[aD]at h
  |idx i=>
   cases k with
   |sl e k=>
    simp only[aD,gX]at h
    simp only[aR,gX]at h1 ⊢
    split at h1
    ·exact ih h h1
    ·simp at h1
   |_=>simp[aD]at h
theorem Rj{a b:K}(h:a.beq b=true):a.size=b.size:=by rw[K.eq_of_beq h]
theorem awz:∀{a b:K},a.like b=true->a.size=b.size:=by
 intro a
 induction a with
 |gap n=>intro b h;simp only[K.like]at h;exact bu h
 |pair a b iha ihb=>
  intro c h
  cases c with
  |pair c d=>simp only[K.like,bf]at h;simp[K.size,iha h.1,ihb h.2]
  |_=>exact Rj (by simpa[K.like]using h)
 |st f ih=>
  intro b h
  cases b with
  |st g=>simp only[K.like]at h;exact ih (b:=g) h
  |_=>exact Rj (by simpa[K.like]using h)
 |_=>intro b h;exact Rj (by simpa[K.like]using h)
theorem awy:∀(n:Nat) {a b:K} {off:Nat} {k:K},a.like b=true->bQ n a=some (off,k)->∃k',bQ n b=some (off,k'):=by
 intro n
 induction n with
 |zero=>
  intro a b off k h ho
  cases a with
  |pair a1 a2=>
   simp only[bQ,ak,bS]at ho
   cases b with
   |pair b1 b2=>exact⟨b1,by simp[bQ,ho.1]⟩
   |_=>simp[K.like,K.beq]at h
  |_=>simp[bQ]at ho
 |succ n ih=>
  intro a b off k h ho
  cases a with
  |pair a1 a2=>
   simp only[bQ]at ho
   cases h2:bQ n a2 with
   |none=>rw[h2]at ho;simp at ho
   |some q=>
    rw[h2]at ho
    simp only[ak,bS]at ho
    cases b with
    |pair b1 b2=>
     simp only[K.like,bf]at h
     obtain⟨k',h3⟩:=ih (off:=q.1) (k:=q.2) h.2 (by rw[h2])
     exact⟨k',by simp[bQ,h3,<-ho.1,awz h.1]⟩
    |_=>simp[K.like,K.beq]at h
  |_=>simp[bQ]at ho
section
variable {P:Program}{T:bK}{cx:Cx}{Z:St}{J:aJ}{F:List Nat}{a:Act}{w:World}{o:Oper}{d:Nat}{ws:List Wr}
theorem ax6{t:TypeId}{c:K}(h:dz P T t (.st c)){n off:Nat}{k:K}(ho:bQ n c=some (off,k))(b q:Nat) :
  (Instr.fieldAt t (.pointer (some ⟨b,q,none⟩)) n).run P w=.ok (.pointer (some ⟨b,q+off,none⟩)) w:=by
 obtain⟨fs,hu,hf⟩:=h.st
 obtain⟨f,f1,f2,f3,f4⟩:=structField n hf ho
 have Sc:fs[n]?=some f:=by rw[<-rX];exact f1
 unfold Instr.fieldAt Instr.sureAddr fieldPlace
 simp only[dH,gG hu,Result.andThen,Sc,eH,f3.info.sizeOf w,Sem.run_ite]
 rw[ah (by omega),addr_add]
 simp[show f.offset=off from by omega]
theorem anh(hT:eU P T)(H:Rel cx Z J F a w)(hd:o.dst=some d)(hdn:d<cx.nt){t:TypeId}{x:Operand}{n:Nat}(ho:o.op=.field t x n)
  (h:(match T.ty t with
   |some kk=>dY x λa=>G5 kk a n λu=>.ret [Wr.s d (.one u)]
   |none=>(.fail:Prog (List Wr))).ends Z ws):dG P cx o a w (aF ws Z):=by
 split at h
 case h_2=>exact h.elim
 rename_i kk hty
 have ht:=hT.ty t kk hty
 obtain⟨v,h1,h2,h⟩:=jh H h
 have DR:∀{c:K} {cs:List Value} {off:Nat} {k:K},kk=.st c->a.eval x=.agg cs.toArray->bQ n c=some (off,k)->cs.length=c.size->(∀v∈cs,v.oneCell'=true)->
   ∃u,(execOp a.eval o).run P w=.ok (.value u) w/\VC k u ((cs.drop off).take k.size):=by
  intro c cs off k ek ev hoff hl h1
  subst ek
  obtain⟨u,g1,g2⟩:=ax5 (w:=w) ht hoff hl h1
  exact⟨u,by simp only[execOp,ho,ev,dH,g1,eZ,eH],g2⟩
 have key:∀{r:Nat} {R:Root} {p:List Stp} {d0 dd:Dat} {cs:List Value} {wh:Option (Nat×Nat)},aY Z r R->cZ Z R->aD p R.k R.x=some d0->d0.1=kk->aD (p++[.aU n]) R.k R.x=some dd->bW p R.k R.x->(∀t∈aC p R.k,ay t R.own=true)->
   aR (hp w) p R.k (J.hdr r) (aL J R r)=some (cs,wh)->VC d0.1 (a.eval x) cs->
   ∃u,(execOp a.eval o).run P w=.ok (.value u) w/\aW cx Z J F w (.dP r (p++[.aU n]) R.dM) u/\(dd.1.flat=true->aW cx Z J F w (.val dd.1 dd.2 []) u):=by
  intro r R p d0 dd cs wh hr hv hg0 e0 hg cK hown hn jF
  obtain⟨k0,x0⟩:=d0
  simp only at e0
  subst e0
  have hg1:=aa8 p (q:=[.aU n]) hg0
  rw[hg]at hg1
  have hpt:=aho p (q:=[.aU n]) hg0
  cases k0 with
  |st c=>
   simp only[aD]at hg1
   cases hcg:aP n c x0 with
   |none=>rw[hcg]at hg1;simp at hg1
   |some s=>
    rw[hcg]at hg1
    simp only[aD,ak]at hg1
    subst hg1
    obtain⟨aT,hO,hf⟩:=tL H hr hv hg0 cK hown hn
    obtain⟨off,pre,cs1,post,vT,fr,ho1,ec,hl,hp,hd2,_⟩:=LH n (show Ow _ _ _ c x0 cs aT from hO) hcg
    have hsub:(cs.drop off).take s.1.size=cs1:=by rw[ec];exact Kj hl (eY hd2)
    obtain⟨u,r1,r2⟩:=DR rfl jF ho1 (eY (k:=c) hO) (Le ht.fD hO)
    rw[hsub]at r2
    refine⟨u,r1,GD (cs:=cs1) (wh:=wh.map λq=>(q.1,q.2+off)) hr hg ?_ ?_ ?_ r2,λhfl=>λ_=>⟨cs1,r2,lC hfl (oV (λ_=>True) (λ_ _=>trivial) (λ_ _=>trivial) hd2)⟩⟩
    ·exact Lg p hg0 cK (by simp only[bW,hcg])
    ·rw[hpt]
     intro t ht
     rcases dh.1 ht with h|h
     ·exact hown t h
     ·simp[aC,kg n hcg]at h
    ·rw[JR p hg0 hn]
     simp only[aR]
     rw[ho1]
     simp only
     rw[hsub]
  |_=>simp[aD]at hg1
 cases v with
 |val k0 y Tg=>
  cases k0 with
  |st c=>
   simp only[G5]at h
   rcases bB h with⟨hc,h⟩|⟨_,h⟩
   ·have ek:=K.eq_of_beq hc
    cases hg:aP n c y with
    |none=>rw[hg]at h;exact h.elim
    |some dd=>
     rw[hg]at h
     obtain⟨g1,g2⟩:=rF h
     rw[bC g2]
     obtain⟨cs,hv,hV⟩:=h1 (.inr g1)
     obtain⟨off,ho1,ho2⟩:=ZC n (show Vw _ _ c y cs from hV) hg
     obtain⟨u,r1,r2⟩:=DR ek.symm hv ho1 (lD (k:=c) hV) (Lp (k:=.st c) (by rw[ek];exact ht.fD) hV)
     refine fq H hd hdn r1 (show aW cx Z J F w (.val dd.1 dd.2 _) u from λ_=>⟨_,r2,?_⟩) ?_
     ·cases hf:dd.1.flat with
      |true=>exact lC hf ho2
      |false=>exact ho2
     ·cases hf:dd.1.flat with
      |true=>intro t ht;simp at ht
      |false=>exact h2
   ·exact h.elim
  |_=>exact h.elim
 |ref r g=>
  simp only[G5]at h
  obtain⟨R,hr,hv,h⟩:=gH h
  rcases bB h with⟨hc,h5⟩|⟨_,h⟩
  ·simp only[bf]at hc
   obtain⟨hka,jF⟩:=h1 R hr (bu hc.1)
   have ek:=K.eq_of_beq hc.2
   cases hg:aD [.aU n] R.k R.x with
   |none=>rw[hg]at h5;exact h5.elim
   |some dd=>
    rw[hg]at h5
    simp only at h5
    obtain⟨u,r1,r2,r3⟩:=key (p:=[]) (d0:=⟨R.k,R.x⟩) hr hv rfl ek hg trivial (λt ht=>by simp[aC]at ht) rfl jF
    rcases bB h5 with⟨hf,h6⟩|⟨_,h6⟩
    ·rw[bC h6]
     exact fq H hd hdn r1 (r3 hf) (λt ht=>by simp at ht)
    ·rw[bC h6]
     exact fq (x:=.one (.dP r [.aU n] R.dM)) H hd hdn r1 r2 ⟨R,hr.1,.inr (bZ _)⟩
  ·exact h.elim
 |dP r p nn=>
  simp only[G5]at h
  obtain⟨R,hr,hv,h⟩:=gH h
  rcases bB h with⟨hc,h5⟩|⟨_,h⟩
  ·cases hg0:aD p R.k R.x with
   |none=>rw[hg0]at h5;exact h5.elim
   |some d0=>
    cases hg:aD (p++[.aU n]) R.k R.x with
    |none=>rw[hg0,hg]at h5;exact h5.elim
    |some dd=>
     rw[hg0,hg]at h5
     simp only at h5
     rcases bB h5 with⟨_,h6⟩|⟨hk,h6⟩
     ·exact h6.elim
     ·have ek:d0.1=kk:=K.eq_of_beq (by simpa using hk)
      obtain⟨g1,g2,cs,wh,g3,g4⟩:=h1 R hr.1 hv (bu hc) d0 hg0
      obtain⟨u,r1,r2,r3⟩:=key hr hv hg0 ek hg g1 g2 g3 g4
      rcases bB h6 with⟨hf,h7⟩|⟨_,h7⟩
      ·rw[bC h7]
       exact fq H hd hdn r1 (r3 hf) (λt ht=>by simp at ht)
      ·rw[bC h7]
       exact fq (x:=.one (.dP r (p++[.aU n]) R.dM)) H hd hdn r1 (show iZ cx Z J F w (.one (.dP r (p++[.aU n]) R.dM)) u from r2) ⟨R,hr.1,.inr (bZ _)⟩
  ·exact h.elim
 |_=>exact h.elim
theorem ani(hT:eU P T)(H:Rel cx Z J F a w)(hd:o.dst=some d)(hdn:d<cx.nt){t:TypeId}{x:Operand}{n:Nat}(ho:o.op=.fieldAddr t x n)
  (h:(match T.ty t with
   |some kk=>dY x λa=>GZ kk a n λu=>.ret [Wr.s d (.one u)]
   |none=>(.fail:Prog (List Wr))).ends Z ws):dG P cx o a w (aF ws Z):=by
 split at h
 case h_2=>exact h.elim
 rename_i kk hty
 have ht:=hT.ty t kk hty
 obtain⟨v,h1,h2,h⟩:=jh H h
 have hrun:∀{c:K} {off:Nat} {k:K} {b q:Nat},kk=.st c->bQ n c=some (off,k)->a.eval x=.pointer (some ⟨b,q,none⟩)->(execOp a.eval o).run P w=.ok (.value (.pointer (some ⟨b,q+off,none⟩))) w:=by
  intro c off k b q ek hoff ev
  subst ek
  have:=ax6 (w:=w) ht hoff b q
  simp only[execOp,ho,ev,dH,this,eZ,eH]
 cases v with
 |ptr r p m=>
  simp only[GZ,Prog.ends]at h
  cases hr0:Z.roots r with
  |none=>rw[hr0]at h;exact h.elim
  |some R=>
   rw[hr0]at h
   simp only at h
   cases hg:aD p R.k R.x with
   |none=>rw[hg]at h;exact h.elim
   |some d0=>
    rw[hg]at h
    simp only at h
    rcases bB h with⟨hc,h5⟩|⟨_,h5⟩
    ·simp only[bf]at hc
     rw[bC h5]
     unfold Mf at hc
     cases kk with
     |st c=>
      obtain⟨off,kf,hoff⟩:=RA n hc.2
      obtain⟨⟨b,q,ev⟩,h1'⟩:=h1
      refine fq (x:=.one (.ptr r (p++[.aU n]) m)) H hd hdn (hrun rfl hoff ev) ⟨⟨b,q+off,rfl⟩,?_⟩ h2
      intro R' hR' hv hcl hown hs
      rw[hr0]at hR'
      simp only[ak]at hR'
      subst hR'
      have hpt:=aho p (q:=[.aU n]) hg
      have e0:aC [.aU n] d0.1=[]:=by
       obtain⟨dk,dx⟩:=d0
       cases dk with
       |st c'=>
        simp only[aC]
        cases aC.kC n c'<;>rfl
       |_=>rfl
      rw[e0,jf]at hpt
      have hcl':clean R.h m (iR p R.k)=true:=by
       unfold clean at hcl ⊢
       rw[dV]at hcl ⊢
       intro t ht
       have:=hcl t ht
       simp only[jN,gF]at this ⊢
       intro h6
       refine this ?_
       have e1:iR (p++[.aU n]) R.k=jm :: aC (p++[.aU n]) R.k:=by cases p<;>rfl
       rw[e1,hpt]
       cases p with
       |nil=>simp[iR]at h6
       |cons s p=>exact h6
      rw[hpt]at hown
      obtain⟨g1,cs,b',q',g2,g3⟩:=h1' R hr0 hv hcl' hown (by rw[hg];rfl)
      rw[ev]at g3
      simp only[Value.pointer.injEq,ak,pQ,eO]at g3
      obtain⟨rfl,rfl⟩:=g3
      have hga:=aa8 p (q:=[.aU n]) hg
      rw[hga]at hs
      obtain⟨dk,dx⟩:=d0
      cases dk with
      |st c'=>
       simp only[aD]at hs
       cases hcg:aP n c' dx with
       |none=>rw[hcg]at hs;simp at hs
       |some s=>
        have hck:(aC.kC n c').isSome=true:=by rw[kg n hcg];rfl
        obtain⟨off',kf',abW⟩:=RA n hck
        have hl:c'.like c=true:=hc.1
        obtain⟨kf2,Ti⟩:=awy n hl abW
        rw[hoff]at Ti
        simp only[ak,bS]at Ti
        refine⟨Lg p hg g1 (by simp only[bW,hcg]),(cs.drop off').take kf'.size,b,q+off,?_,rfl⟩
        rw[JR p hg g2]
        simp only[aR]
        rw[abW]
        simp[Ti.1]
      |_=>simp[aD]at hs
     |_=>simp at hc
    ·exact h5.elim
 |fC bt k0 y Tg=>
  cases k0 with
  |st c=>
   simp only[GZ]at h
   rcases bB h with⟨hc,h5⟩|⟨_,h5⟩
   ·have ek:=K.eq_of_beq hc
    cases hg:aP n c y with
    |none=>rw[hg]at h5;exact h5.elim
    |some dd=>
     rw[hg]at h5
     obtain⟨g1,g2⟩:=rF h5
     rw[bC g2]
     obtain⟨b,q,cs,e,hcs,hV,hok,hb⟩:=h1.2 g1
     obtain⟨off,ho1,ho2⟩:=ZC n (show Vw _ _ c y cs from hV) hg
     have hle:=RB n ho1
     have hlen:=lD (k:=c) hV
     refine fq (x:=.one (.fC bt dd.1 dd.2 Tg)) H hd hdn (hrun ek.symm ho1 e) ⟨⟨b,q+off,rfl⟩,λ_=>⟨b,q+off,_,rfl,?_,ho2,hok,hb⟩⟩ h2
     intro i hi
     simp only[wP,K9]at hi
     rw[ou,hcs (off+i) (by omega)]
     rw[Gl (by omega),CG]
   ·exact h5.elim
  |_=>exact h.elim
 |kS r g k0 p=>
  simp only[GZ]at h
  cases hk:ER p k0 with
  |none=>rw[hk]at h;exact h.elim
  |some k1=>
   rw[hk]at h
   simp only at h
   rcases bB h with⟨hc,h5⟩|⟨_,h5⟩
   ·simp only[bf]at hc
    rw[bC h5]
    have ek:=K.eq_of_beq hc.1
    subst ek
    obtain⟨u,b,off,k2,e,hq,hC,ho1,hR⟩:=h1
    have e2:=av2 p hk ho1
    subst e2
    unfold Mf at hc
    cases k2 with
    |st c=>
     obtain⟨o2,kf,hoff⟩:=RA n hc.2
     exact fq (x:=.one (.kS r g k0 (p++[.aU n]))) H hd hdn (hrun rfl hoff e) ⟨u,b,off+o2,kf,rfl,hq,hC,aoo p ho1 rfl hoff,hR⟩ h2
    |_=>simp at hc
   ·exact h5.elim
 |_=>exact h.elim
theorem run_indexAt{t e:TypeId}{k:K}(h:dz P T t (.sl e k)){ik:IntKind}{i:Int}{b q n c:Nat}(h0:0<=i)(h1:i<(n:Int)) :
  (Instr.indexAt t (.slice (some ⟨b,q,none⟩) n c) (.int ik i)).run P w=.ok (.pointer (some ⟨b,q+i.toNat*k.size,none⟩)) w:=by
 obtain⟨hu,he,_,_⟩:=h.sl
 unfold Instr.indexAt
 simp[asIntOf,gG hu,Result.andThen,h0,h1,he.info.sizeOf w,addr_add]
end
end
section
open Go
variable [Fr]
section
variable {P:Program}{T:bK}{cx:Cx}{Z:St}{J:aJ}{F:List Nat}{a:Act}{w:World}{o:Oper}{d:Nat}{ws:List Wr}
theorem BV{e:TypeId}{k:K}{v:Value}{cs:List Value}{h:Heap}{ok:Nat->Prop}{xs:List (El k)}(hv:VC (.sl e k) v cs)(hV:Vw h ok (.sl e k) xs cs) :
  ∃b n c,v=.slice b n c/\cs=[.slice b n c]/\n=xs.length/\n<=c/\(0<n->∃bb q,b=some ⟨bb,q,none⟩/\ok bb/\kT h bb e/\∀(i:Nat) (hi:i<xs.length),∃ds,Cells h bb (q+i*k.size) ds/\Vw h ok k xs[i] ds):=by
 obtain⟨b,n,c,e1,e2,e3,e4⟩:=hV
 obtain⟨e5,_⟩:cs=[v]/\_:=hv
 rw[e1]at e5
 simp only[gW,eO]at e5
 exact⟨b,n,c,e5.symm,e1,e2,e3,e4⟩
theorem ank(hT:eU P T)(H:Rel cx Z J F a w)(hd:o.dst=some d)(hdn:d<cx.nt){t:TypeId}{x y:Operand}(ho:o.op=.indexAddr t x y)
  (h:(match T.ty t with
   |some kk=>dY x λa=>dY y λi=>asInt i λ_ i=>Ih kk a i λu=>.ret [Wr.s d (.one u)]
   |none=>(.fail:Prog (List Wr))).ends Z ws):dG P cx o a w (aF ws Z):=by
 split at h
 case h_2=>exact h.elim
 rename_i k0 hty
 have ht:=hT.ty t k0 hty
 obtain⟨v,h1,h2,h⟩:=jh H h
 obtain⟨vi,h3,_,h⟩:=jh H h
 obtain⟨ik,i,ei,_,h⟩:=Gz h3 h
 have hrun:∀{e:TypeId} {k:K} {b q n c:Nat},k0=.sl e k->a.eval x=.slice (some ⟨b,q,none⟩) n c->0<=i->i<(n:Int)->(execOp a.eval o).run P w=.ok (.value (.pointer (some ⟨b,q+i.toNat*k.size,none⟩))) w:=by
  intro e k b q n c ek ev g0 g1
  subst ek
  have:=run_indexAt (w:=w) (ik:=ik) (b:=b) (q:=q) (c:=c) ht g0 g1
  simp only[execOp,ho,ev,ei,dH,this,eZ,eH]
 have key:∀{r:Nat} {R:Root} {p:List Stp} {e:TypeId} {kk:K} {xs:List (El kk)} {cs:List Value} {wh:Option (Nat×Nat)},aY Z r R->cZ Z R->aD p R.k R.x=some ⟨.sl e kk,xs⟩->K.sl e kk=k0->bW p R.k R.x->(∀t∈aC p R.k,ay t R.own=true)->
   aR (hp w) p R.k (J.hdr r) (aL J R r)=some (cs,wh)->VC (.sl e kk) (a.eval x) cs->aZ i xs.length->
   ∃u,(execOp a.eval o).run P w=.ok (.value u) w/\aW cx Z J F w (.ptr r (p++[.idx i]) (dL R.h)) u/\aW cx Z J F w (.fC e kk (xs.getD i.toNat kk.zero) (R.out r (.sl e kk))) u:=by
  intro r R p e kk xs cs wh hr hv hg ek cK hown hn jF hin
  obtain⟨aT,hO,hf⟩:=tL H hr hv hg cK hown hn
  have hV:=tJ H hr hO hf
  obtain⟨b,n,c,g1,g2,g3,g4,g5⟩:=BV jF hV
  have i0:(0:Int)<=i:=hin.1
  have i1:i<(xs.length:Int):=hin.2
  have hlt:i.toNat<xs.length:=by omega
  obtain⟨bb,q,rfl,hok,hel,hes⟩:=g5 (by rw[g3];exact Nat.lt_of_le_of_lt (dW _) hlt)
  obtain⟨ds,hc,SA⟩:=hes i.toNat hlt
  refine⟨_,hrun ek.symm g1 i0 (by rw[g3];exact i1),⟨⟨bb,q+i.toNat*kk.size,rfl⟩,?_⟩,⟨⟨bb,q+i.toNat*kk.size,rfl⟩,λ_=>⟨bb,_,ds,rfl,hc,?_,hok.q,.inr ⟨hel,hok.2.2.1⟩⟩⟩⟩
  ·intro R' hR' _ _ _ _
   rw[hr.1]at hR'
   simp only[ak]at hR'
   subst hR'
   refine⟨Lg p hg cK ⟨i0,i1,trivial⟩,iE (hp w) bb (q+i.toNat*kk.size) kk.size,bb,q+i.toNat*kk.size,?_,rfl⟩
   rw[JR p hg hn,g2]
   rfl
  ·rw[nk hlt]
   exact SA
 cases v with
 |val k1 y Tg=>
  cases k1 with
  |sl e kk=>
   simp only[Ih]at h
   rcases bB h with⟨hc,h5⟩|⟨_,h5⟩
   ·have ek:=K.eq_of_beq hc
    obtain⟨g1,g2⟩:=rF h5
    obtain⟨hin,g3⟩:=g2
    rw[bC g3]
    obtain⟨cs,jF,hV⟩:=h1 (.inr g1)
    obtain⟨b,n,c,f1,f2,f3,f4,f5⟩:=BV jF hV
    obtain⟨i0,i1⟩:=hin
    have hlt:i.toNat < @List.length (El kk) y:=by
     have i1':i<((@List.length (El kk) y:Nat):Int):=i1
     omega
    obtain⟨bb,q,rfl,hok,hel,hes⟩:=f5 (by omega)
    obtain⟨ds,hcs,SA⟩:=hes i.toNat hlt
    refine fq (x:=.one (.fC e kk _ Tg)) H hd hdn (hrun ek.symm f1 i0 (by rw[f3];exact i1)) ⟨⟨bb,_,rfl⟩,λ_=>⟨bb,_,ds,rfl,hcs,?_,hok.q,.inr ⟨hel,hok.2.2.1⟩⟩⟩ h2
    have eg:(show List (El kk)from y).getD i.toNat kk.zero=(show List (El kk)from y)[i.toNat]'hlt:=nk hlt
    rw[eg]
    exact SA
   ·exact h5.elim
  |_=>exact h.elim
 |ref r g=>
  simp only[Ih]at h
  obtain⟨R,hr,hv,h⟩:=gH h
  rcases bB h with⟨hc,h5⟩|⟨_,h5⟩
  ·obtain⟨hka,jF⟩:=h1 R hr (bu hc)
   have hg:aD [] R.k R.x=some ⟨R.k,R.x⟩:=rfl
   have hK:∀(q:Dat),aD [] R.k R.x=some q->∀hh:(match q.1,q.2 with
     |.sl e kk,xs=>bif ay e R.own&&(K.sl e kk).beq k0 then Prog.dX (aZ i (show List (El kk)from xs).length) inferInstance ((.ret [Wr.s d (.one (.ptr r [.idx i] (dL R.h)))]):Prog (List Wr))else Prog.fail
     |_,_=>Prog.fail).ends Z ws,VC q.1 (a.eval x) (J.hdr r)->dG P cx o a w (aF ws Z):=by
    intro q hq hh jF
    obtain⟨qk,qx⟩:=q
    cases qk with
    |sl e kk=>
     simp only at hh
     rcases bB hh with⟨hc2,h6⟩|⟨_,h6⟩
     ·simp only[bf]at hc2
      obtain⟨hin,h7⟩:=h6
      rw[bC h7]
      obtain⟨u,r1,r2,_⟩:=key (p:=[]) hr hv hq (K.eq_of_beq hc2.2) trivial (λt ht=>by simp[aC]at ht) rfl jF hin
      exact fq (x:=.one (.ptr r [.idx i] (dL R.h))) H hd hdn r1 r2 ⟨R,hr.1,.inr (bZ _)⟩
     ·exact h6.elim
    |_=>exact hh.elim
   exact hK ⟨R.k,R.x⟩ hg h5 jF
  ·exact h5.elim
 |dP r p nn=>
  simp only[Ih]at h
  obtain⟨R,hr,hv,h⟩:=gH h
  rcases bB h with⟨hc,h5⟩|⟨_,h5⟩
  ·cases hg0:aD p R.k R.x with
   |none=>rw[hg0]at h5;exact h5.elim
   |some d0=>
    rw[hg0]at h5
    obtain⟨g1,g2,cs,wh,g3,g4⟩:=h1 R hr.1 hv (bu hc) d0 hg0
    obtain⟨dk,dx⟩:=d0
    cases dk with
    |sl e kk=>
     simp only at h5
     rcases bB h5 with⟨_,h6⟩|⟨hk,h6⟩
     ·exact h6.elim
     ·have ek:K.sl e kk=k0:=K.eq_of_beq (by simpa using hk)
      rcases bB h6 with⟨_,h7⟩|⟨_,h7⟩
      ·obtain⟨hin,h8⟩:=h7
       rw[bC h8]
       obtain⟨u,r1,r2,_⟩:=key hr hv hg0 ek g1 g2 g3 g4 hin
       exact fq (x:=.one (.ptr r (p++[.idx i]) (dL R.h))) H hd hdn r1 (show iZ cx Z J F w (.one (.ptr r (p++[.idx i]) (dL R.h))) u from r2) ⟨R,hr.1,.inr (bZ _)⟩
      ·obtain⟨hin,h8⟩:=h7
       rw[bC h8]
       obtain⟨u,r1,_,r3⟩:=key hr hv hg0 ek g1 g2 g3 g4 hin
       exact fq H hd hdn r1 (show iZ cx Z J F w (.one (.fC e kk _ (R.out r (.sl e kk)))) u from r3) (E8 H hr _)
    |_=>exact h5.elim
  ·exact h5.elim
 |_=>exact h.elim
theorem amo(B:ByteArray){n:Nat}(h:n<B.size):(bytesOf B).getD n 0=(B[n].toNat:Int):=by
 unfold bytesOf
 have:n<(B.data.toList.map λb=>(b.toNat:Int)).length:=by simpa using h
 rw[nk this]
 simp
 rfl
theorem rD(B:ByteArray):(bytesOf B).length=B.size:=by simp[bytesOf]
theorem anj(hT:eU P T)(H:Rel cx Z J F a w)(hd:o.dst=some d)(hdn:d<cx.nt){t:TypeId}{x y:Operand}(ho:o.op=.index t x y)
  (h:(dY x λa=>dY y λi=>asInt i λ_ i=>match T.ty t,a with
   |some .str,.val .str s _=>.dX (aZ i (show List Int from s).length) inferInstance (.ret [Wr.s d (.one (.val (.int .u8) ((show List Int from s).getD i.toNat 0) []))])
   |_,_=>(.fail:Prog (List Wr))).ends Z ws):dG P cx o a w (aF ws Z):=by
 obtain⟨v,h1,h2,h⟩:=jh H h
 obtain⟨vi,h3,_,h⟩:=jh H h
 obtain⟨ik,i,ei,_,h⟩:=Gz h3 h
 cases hty:T.ty t with
 |none=>rw[hty]at h;exact h.elim
 |some k0=>
  rw[hty]at h
  cases k0 with
  |str=>
   cases v with
   |val k1 s Tg=>
    cases k1 with
    |str=>
     simp only at h
     obtain⟨⟨i0,i1⟩,h4⟩:=h
     rw[bC h4]
     obtain⟨B,e1,e2⟩:=zG h1
     subst e2
     have hu:P.underlying t=some .string:=by
      have:=hT.ty t .str hty
      unfold dz jc at this
      exact this.1
     have hlt:i.toNat<B.size:=by
      have i1':i<((bytesOf B).length:Int):=i1
      rw[rD]at i1'
      omega
     refine fq (v:=.int .u8 (B[i.toNat].toNat:Int)) H hd hdn ?_ ?_ (λt ht=>by simp at ht)
     ·simp only[execOp,ho,e1,ei,Instr.index,asIntOf,dH,eH,eZ,gG hu]
      rw[aj i0]
      simp[hlt]
     ·have eg:(show List Int from bytesOf B).getD i.toNat 0=(B[i.toNat].toNat:Int):=amo B hlt
      rw[eg]
      refine Wy ⟨by omega,?_⟩
      have:=B[i.toNat].toNat_lt
      omega
    |_=>exact h.elim
   |_=>exact h.elim
  |_=>cases v<;>exact h.elim
theorem awD{l:List AV}{vs:List Value}(h:h_ cx Z J F w l vs){i:Nat}{x:AV}(hi:l[i]?=some x):∃v,vs[i]?=some v/\aW cx Z J F w x v:=by
 induction l generalizing vs i with
 |nil=>simp at hi
 |cons b l ih=>
  cases vs with
  |nil=>exact h.elim
  |cons u vs=>
   cases i with
   |zero=>simp only[rA,ak]at hi;subst hi;exact⟨u,rfl,h.1⟩
   |succ i=>simp only[Zl]at hi;obtain⟨v,h1,h2⟩:=ih h.2 hi;exact⟨v,by simpa using h1,h2⟩
theorem ang(H:Rel cx Z J F a w)(hd:o.dst=some d)(hdn:d<cx.nt){x:Operand}{i:Nat}(ho:o.op=.extract x i)
  (h:(sN x fun
   |.mQ l=>match l[i]? with
    |some u=>.ret [Wr.s d (.one u)]
    |none=>.fail
   |_=>(.fail:Prog (List Wr))).ends Z ws):dG P cx o a w (aF ws Z):=by
 obtain⟨v,h1,h2,h⟩:=Di H h
 cases v with
 |one u=>exact h.elim
 |lit _ _ _=>exact h.elim
 |mQ l=>
  simp only at h
  cases hi:l[i]? with
  |none=>rw[hi]at h;exact h.elim
  |some u=>
   rw[hi]at h
   rw[bC h]
   obtain⟨vs,e1,e2⟩:=h1
   obtain⟨v,g1,g2⟩:=awD e2 hi
   refine fq (x:=.one u) (v:=v) H hd hdn ?_ g2 (h2 u (p9 hi))
   simp[execOp,ho,e1,Instr.extract,g1]
end
end
section
open Go
variable [Fr]
theorem tQ(ik:IntKind)(n:Int):lq ik (ik.wrap n):=by
 cases ik<;>simp only[lq]
 simp only[IntKind.wrap,IntKind.bits,IntKind.signed]
 simp
 omega
section
variable {P:Program}{cx:Cx}{Z:St}{J:aJ}{F:List Nat}{a:Act}{w:World}{o:Oper}{d:Nat}{ws:List Wr}
theorem oP(ik:IntKind){n:Int}(h:lq ik n):iZ cx Z J F w (v1 (.int ik) n) (.int ik n):=Wy h
theorem nE(b:Bool):iZ cx Z J F w (v1 .bool b) (.bool b):=awU
theorem n_{k:K}{x:El k}:mZ Z (v1 k x):=λt ht=>by simp at ht
theorem aqD{op:BinOp}{ik:IntKind}{x y:Int}{z:List Wr}(hx:lq ik x)(hy:lq ik y)(ht:TypeId){k:f_->Prog (List Wr)}(hk:∀v,k v=.ret [Wr.s d v])(h:(MG op ik x y k).ends Z z) :
  ∃kk y',(∃v,(Go.binOp op ht (.int ik x) (.int ik y)).run P w=.ok v w/\iZ cx Z J F w (v1 kk y') v)/\z=[Wr.s d (v1 kk y')]:=by
 unfold MG at h
 cases op<;>simp only[hk]at h
 case add=>exact⟨.int ik,_,⟨_,by simp[Go.binOp,Op.intArith],oP ik (tQ ik _)⟩,bC h⟩
 case sub=>exact⟨.int ik,_,⟨_,by simp[Go.binOp,Op.intArith],oP ik (tQ ik _)⟩,bC h⟩
 case mul=>exact⟨.int ik,_,⟨_,by simp[Go.binOp,Op.intArith],oP ik (tQ ik _)⟩,bC h⟩
 case quo=>
  obtain⟨h0,h⟩:=h
  exact⟨.int ik,_,⟨_,by simp[Go.binOp,Op.intDiv,h0],oP ik (tQ ik _)⟩,bC h⟩
 case rem=>
  obtain⟨h0,h⟩:=h
  refine⟨.int ik,_,⟨_,by simp[Go.binOp,Op.intDiv,h0],oP ik ?_⟩,bC h⟩
  cases ik<;>simp only[lq]at hx hy ⊢
  have h1:=Int.tmod_nonneg y hx.1
  have h2:x.tmod y<y:=by
   rw[YT hx.1]
   exact Int.emod_lt_of_pos x (by omega)
  omega
 case and=>exact⟨.int ik,_,⟨_,by simp[Go.binOp,Op.intBits],oP ik (tQ ik _)⟩,bC h⟩
 case or=>exact⟨.int ik,_,⟨_,by simp[Go.binOp,Op.intBits],oP ik (tQ ik _)⟩,bC h⟩
 case xor=>exact⟨.int ik,_,⟨_,by simp[Go.binOp,Op.intBits],oP ik (tQ ik _)⟩,bC h⟩
 case andNot=>exact⟨.int ik,_,⟨_,by simp[Go.binOp,Op.intBits],oP ik (tQ ik _)⟩,bC h⟩
 case eql=>exact⟨.bool,_,⟨.bool (decide (x=y)),by simp only[Go.binOp,ne_eq,not_true_eq_false,↓reduceIte];rfl,nE _⟩,bC h⟩
 case neq=>exact⟨.bool,_,⟨.bool (!decide (x=y)),by simp only[Go.binOp,ne_eq,not_true_eq_false,↓reduceIte];rfl,nE _⟩,bC h⟩
 case lss=>exact⟨.bool,_,⟨_,by simp[Go.binOp,Op.intCmp],nE _⟩,bC h⟩
 case leq=>exact⟨.bool,_,⟨_,by simp[Go.binOp,Op.intCmp],nE _⟩,bC h⟩
 case gtr=>exact⟨.bool,_,⟨_,by simp[Go.binOp,Op.intCmp],nE _⟩,bC h⟩
 case geq=>exact⟨.bool,_,⟨_,by simp[Go.binOp,Op.intCmp],nE _⟩,bC h⟩
 all_goals exact h.elim
theorem awu:∀(x y:List UInt8),sZ (x.map λb=>(b.toNat:Int)) (y.map λb=>(b.toNat:Int))=Op.bytesLess x y:=by
 intro x
 induction x with
 |nil=>intro y;cases y<;>rfl
 |cons a x ih=>
  intro y
  cases y with
  |nil=>rfl
  |cons b y=>
   simp only[jo,sZ,Op.bytesLess,ih]
   have h1:decide ((a.toNat:Int)<(b.toNat:Int))=decide (a<b):=by
    apply uA.2
    rw[UInt8.lt_iff_toNat_lt]
    omega
   have h2:decide ((a.toNat:Int)=(b.toNat:Int))=(a==b):=by
    rw[show(a==b)=decide (a=b)from rfl]
    apply uA.2
    rw[<-UInt8.toNat_inj]
    omega
   rw[h1,h2]
theorem awQ:∀{x y:List UInt8},x.map (λb=>(b.toNat:Int))=y.map (λb=>(b.toNat:Int))↔x=y:=by
 intro x
 induction x with
 |nil=>intro y;cases y<;>simp
 |cons a x ih=>
  intro y
  cases y with
  |nil=>simp
  |cons b y=>
   simp only[jo,gW,ih]
   have:(a.toNat:Int)=(b.toNat:Int)↔a=b:=by rw[<-UInt8.toNat_inj];omega
   rw[this]
theorem amq{A B:ByteArray}:bytesOf A=bytesOf B↔A.toList=B.toList:=by
 unfold bytesOf
 rw[awQ,Ku,Ku]
theorem GG{A B:ByteArray}:(A.toList==B.toList)=decide (bytesOf A=bytesOf B):=by
 rw[show(A.toList==B.toList)=decide (A.toList=B.toList)from by
  cases h:(A.toList==B.toList)with
  |true=>simp[eq_of_beq h]
  |false=>simp[ne_of_beq_false h]]
 exact uA.2 amq.symm
theorem LD{A B:ByteArray}:Op.bytesLess A.toList B.toList=sZ (bytesOf A) (bytesOf B):=by
 unfold bytesOf
 rw[awu,Ku,Ku]
theorem amn(A B:ByteArray):bytesOf (A++B)=bytesOf A++bytesOf B:=by
 unfold bytesOf
 rw[<-Aa]
 congr 1
theorem ayq{op:BinOp}{A B:ByteArray}{z:List Wr}(ht:TypeId){k:f_->Prog (List Wr)}(hk:∀v,k v=.ret [Wr.s d v])(h:(Xp op (bytesOf A) (bytesOf B) k).ends Z z) :
  ∃kk y',(∃v,(Go.binOp op ht (.string A) (.string B)).run P w=.ok v w/\iZ cx Z J F w (v1 kk y') v)/\z=[Wr.s d (v1 kk y')]:=by
 unfold Xp at h
 cases op<;>simp only[hk]at h
 case add=>
  obtain⟨h0,h⟩:=h
  rw[rD,rD]at h0
  refine⟨.str,bytesOf A++bytesOf B,⟨.string (A++B),?_,?_⟩,bC h⟩
  ·have:¬(((A.size+B.size:Nat):Int)>IntKind.i64.max):=by
    simp only[IntKind.max,IntKind.signed,IntKind.bits]
    simp
    omega
   simp only[Go.binOp,Op.stringOp]
   rw[ah this]
   rfl
  ·rw[<-amn];exact Wz
 case eql=>exact⟨.bool,_,⟨.bool (decide (bytesOf A=bytesOf B)),by simp only[Go.binOp,Op.stringOp];rw[GG];rfl,nE _⟩,bC h⟩
 case neq=>exact⟨.bool,_,⟨.bool (!decide (bytesOf A=bytesOf B)),by simp only[Go.binOp,Op.stringOp];rw[GG];rfl,nE _⟩,bC h⟩
 case lss=>exact⟨.bool,_,⟨.bool (sZ (bytesOf A) (bytesOf B)),by simp only[Go.binOp,Op.stringOp];rw[LD];rfl,nE _⟩,bC h⟩
 case leq=>exact⟨.bool,_,⟨.bool (sZ (bytesOf A) (bytesOf B)||decide (bytesOf A=bytesOf B)),by simp only[Go.binOp,Op.stringOp];rw[LD,GG];rfl,nE _⟩,bC h⟩
 case gtr=>exact⟨.bool,_,⟨.bool (!(sZ (bytesOf A) (bytesOf B)||decide (bytesOf A=bytesOf B))),by simp only[Go.binOp,Op.stringOp];rw[LD,GG];rfl,nE _⟩,bC h⟩
 case geq=>exact⟨.bool,_,⟨.bool (!sZ (bytesOf A) (bytesOf B)),by simp only[Go.binOp,Op.stringOp];rw[LD];rfl,nE _⟩,bC h⟩
 all_goals exact h.elim
theorem anG(H:Rel cx Z J F a w)(hd:o.dst=some d)(hdn:d<cx.nt){t:TypeId}{x:Operand}{op:UnOp}(ho:o.op=.unOp op t x)
  (h:(dY x λa=>Xu op a λv=>(.ret [Wr.s d v]:Prog (List Wr))).ends Z ws):dG P cx o a w (aF ws Z):=by
 obtain⟨v,h1,h2,h⟩:=jh H h
 unfold Xu at h
 split at h
 ·obtain⟨e1,e2⟩:=zF h1
  rw[bC h]
  exact fq H hd hdn (by simp[execOp,ho,e1,Op.unary,Op.intArith]) (oP _ (tQ _ _)) n_
 ·obtain⟨e1,e2⟩:=zF h1
  rw[bC h]
  exact fq H hd hdn (by simp[execOp,ho,e1,Op.unary,Op.intBits]) (oP _ (tQ _ _)) n_
 ·have e1:=FI h1
  rw[bC h]
  exact fq H hd hdn (by simp[execOp,ho,e1,Op.unary]) (nE _) n_
 ·exact h.elim
end
end
section
open Go
variable [Fr]
section
variable {P:Program}{T:bK}{cx:Cx}{Z:St}{J:aJ}{F:List Nat}{a:Act}{w:World}{o:Oper}{d:Nat}{ws:List Wr}
theorem aif{op:BinOp}{t:TypeId}{x y:Operand}{u v:Value}(h:(∀c,u≠.agg c)/\u≠.nilIface):(eqGuard op t x y u v).run P w=.ok () w:=by
 unfold eqGuard
 cases op<;>simp only[gI,kr,bP,↓reduceIte]<;>first|rfl|skip
 all_goals (cases u<;>first|rfl|exact absurd rfl (h.1 _)|exact absurd rfl h.2)
theorem Wv:∃n,Op.maxDepth=n+1:=⟨Op.maxDepth-1,by unfold Op.maxDepth;rfl⟩
theorem run_equal_bool{t:TypeId}(h:P.underlying t=some .bool)(x y:Bool):(Op.equal t (.bool x) (.bool y)).run P w=.ok (x==y) w:=by
 obtain⟨n,e⟩:=Wv
 unfold Op.equal
 rw[e]
 simp[Op.equalIn,gG h]
theorem aih{t e:TypeId}(h:P.underlying t=some (.pointer e)){u v:Option Addr}(hn:u=none\/v=none):(Op.equal t (.pointer u) (.pointer v)).run P w=.ok (u.isNone&&v.isNone) w:=by
 obtain⟨n,e⟩:=Wv
 unfold Op.equal
 rw[e]
 rcases hn with rfl|rfl
 ·simp[Op.equalIn,gG h]
 ·cases u<;>simp[Op.equalIn,gG h]
theorem aw2{x y:AV}{u v:Value}{b:Bool}(hx:aW cx Z J F w x u)(hy:aW cx Z J F w y v)(h:JW x y=some b):∃p q,u=.pointer p/\v=.pointer q/\(p=none\/q=none)/\(p.isNone&&q.isNone)=b:=by
 unfold JW at h
 split at h<;>simp only[ak,reduceCtorEq]at h<;>subst h
 ·exact⟨none,none,hx,hy,.inl rfl,rfl⟩
 ·obtain⟨b,q,e⟩:=hy.1;exact⟨none,_,hx,e,.inl rfl,rfl⟩
 ·obtain⟨b,q,e⟩:=hx.1;exact⟨_,none,e,hy,.inr rfl,rfl⟩
 ·obtain⟨b,q,e⟩:=hy.1;exact⟨none,_,hx,e,.inl rfl,rfl⟩
 ·obtain⟨b,q,e⟩:=hx.1;exact⟨_,none,e,hy,.inr rfl,rfl⟩
def vJ(P:Program)(T:bK):Prop:=∀(t:TypeId) (c:K) (x y:El c) (u v:Array Value) (w:World) (hp1 hp2:Heap) (ok1 xI:Nat->Prop),T.ty t=some (.st c)->T.eq t=true->c.flat=true->
 Vw hp1 ok1 c x u.toList->Vw hp2 xI c y v.toList->(Op.equal t (.agg u) (.agg v)).run P w=.ok (o8 c x y) w/\∀x y op,(eqGuard op t x y (.agg u) (.agg v)).run P w=.ok () w
theorem amb{A:Type}{z:A}{t:TypeId}{op:BinOp}{u v:AV}{k:f_->Prog A}(h:(yB T t op u v k).ends Z z) :
  (∃ik x T1 jk y T2,u=.val (.int ik) x T1/\v=.val (.int jk) y T2)\/(∃x T1 y T2,u=.val .bool x T1/\v=.val .bool y T2)\/(∃x T1 y T2,u=.val .str x T1/\v=.val .str y T2)\/
  (∃c x T1 e y T2,u=.val (.st c) x T1/\v=.val (.st e) y T2)\/(T.ptr t=true/\∃b,JW u v=some b/\((op=.eql/\(k (v1 .bool b)).ends Z z)\/(op=.neq/\(k (v1 .bool (!b))).ends Z z))):=by
 unfold yB at h
 split at h
 ·exact .inl ⟨_,_,_,_,_,_,rfl,rfl⟩
 ·exact .inr (.inl ⟨_,_,_,_,rfl,rfl⟩)
 ·exact .inr (.inr (.inl ⟨_,_,_,_,rfl,rfl⟩))
 ·exact .inr (.inr (.inr (.inl ⟨_,_,_,_,_,_,rfl,rfl⟩)))
 ·rcases bB h with⟨hp,h5⟩|⟨_,h5⟩
  ·cases hn:JW u v with
   |none=>rw[hn]at h5;exact h5.elim
   |some b=>
    rw[hn]at h5
    cases op with
    |eql=>exact .inr (.inr (.inr (.inr ⟨hp,b,rfl,.inl ⟨rfl,h5⟩⟩)))
    |neq=>exact .inr (.inr (.inr (.inr ⟨hp,b,rfl,.inr ⟨rfl,h5⟩⟩)))
    |_=>exact h5.elim
  ·exact h5.elim
theorem ax4{t e:TypeId}(h:P.underlying t=some (.slice e))(p:Option Addr)(n c:Nat):(Go.binOp .eql t (.slice p n c) (.slice none 0 0)).run P w=.ok (.bool p.isNone) w:=by
 obtain⟨m,em⟩:=Wv
 have:(Op.equal t (.slice p n c) (.slice none 0 0)).run P w=.ok p.isNone w:=by
  unfold Op.equal
  rw[em]
  cases p<;>simp[Op.equalIn,gG h]
 simp only[Go.binOp]
 simp[this,Result.andThen]
theorem am7(hT:eU P T)(hSt:vJ P T)(H:Rel cx Z J F a w)(hd:o.dst=some d)(hdn:d<cx.nt){t t2:TypeId}{x y:Operand}{op:BinOp}(ho:o.op=.binOp op t x y t2)
  (h:(dY x λa=>dY y λb=>yB T t op a b λv=>(.ret [Wr.s d v]:Prog (List Wr))).ends Z ws):dG P cx o a w (aF ws Z):=by
 obtain⟨u,h1,hu1,h5⟩:=jh H h
 obtain⟨v,h3,hu3,h6⟩:=jh H h5
 clear h h5
 have h:=h6
 clear h6
 have hrun:∀{z:Value},((∀c,a.eval x≠.agg c)/\a.eval x≠.nilIface)->(Go.binOp op t (a.eval x) (a.eval y)).run P w=.ok z w->(execOp a.eval o).run P w=.ok (.value z) w:=by
  intro z hz h
  have hg:=aif (P:=P) (w:=w) (op:=op) (t:=t) (x:=x) (y:=y) (v:=a.eval y) hz
  simp only[execOp,ho,dH,hg,h,eZ,eH]
 rcases amb h with⟨ik,x1,T1,jk,y1,T2,rfl,rfl⟩|⟨x1,T1,y1,T2,rfl,rfl⟩|⟨x1,T1,y1,T2,rfl,rfl⟩|⟨c,x1,T1,dd,y1,T2,rfl,rfl⟩|⟨hp,b,hne,hop⟩
 ·obtain⟨e1,r1⟩:=zF h1
  obtain⟨e2,r2⟩:=zF h3
  have hag:(∀c,a.eval x≠.agg c)/\a.eval x≠.nilIface:=by rw[e1];simp
  have hplain:(bif sV ik jk then MG op ik x1 y1 λv=>(.ret [Wr.s d v]:Prog (List Wr))else .fail).ends Z ws->dG P cx o a w (aF ws Z):=by
   intro h
   rcases bB h with⟨hik,h⟩|⟨_,h⟩
   ·have:=Ie hik
    subst this
    obtain⟨kk,y',⟨z,g1,g2⟩,g3⟩:=aqD (P:=P) (cx:=cx) (Z:=Z) (J:=J) (F:=F) (w:=w) (d:=d) r1 r2 t (λv=>rfl) h
    rw[g3]
    exact fq H hd hdn (hrun hag (by rw[e1,e2];exact g1)) g2 n_
   ·exact h.elim
  cases op with
  |shl=>
   obtain⟨h0,h⟩:=h
   rw[bC h]
   refine fq H hd hdn (hrun hag (z:=.int ik (ik.wrap (x1*2 ^ min y1.toNat ik.bits))) ?_) (oP ik (tQ _ _)) n_
   rw[e1,e2]
   simp only[Go.binOp,Op.shift]
   rw[ah (Int.not_lt.2 h0)]
   rfl
  |shr=>
   obtain⟨h0,h⟩:=h
   rw[bC h]
   refine fq H hd hdn (hrun hag (z:=.int ik (x1.fdiv (2 ^ min y1.toNat ik.bits))) ?_) (oP ik ?_) n_
   ·rw[e1,e2]
    simp only[Go.binOp,Op.shift]
    rw[ah (Int.not_lt.2 h0)]
    rfl
   ·cases ik<;>simp only[lq]at r1 ⊢
    have hp:(0:Int)<2 ^ min y1.toNat IntKind.u8.bits:=Int.pow_pos (by omega)
    have g1:0<=x1.fdiv (2 ^ min y1.toNat IntKind.u8.bits):=Int.fdiv_nonneg r1.1 (Int.le_of_lt hp)
    have g2:x1.fdiv (2 ^ min y1.toNat IntKind.u8.bits)<=x1:=by
     rw[Int.fdiv_eq_ediv_of_nonneg _ (Int.le_of_lt hp)]
     exact Int.ediv_le_self _ r1.1
    omega
  |_=>exact hplain h
 ·have e1:=FI h1
  have e2:=FI h3
  have hag:(∀c,a.eval x≠.agg c)/\a.eval x≠.nilIface:=by rw[e1];simp
  have hub:T.ty t=some .bool->P.underlying t=some .bool:=λhty=>by
   have:=hT.ty t .bool hty
   unfold dz jc at this
   exact this.1
  cases hty:T.ty t with
  |none=>simp only[yB,hty]at h;exact h.elim
  |some k0=>
   cases k0 with
   |bool=>
    have hu:=hub hty
    simp only[yB,hty]at h
    cases op with
    |eql=>
     rw[bC h]
     refine fq H hd hdn (hrun hag (z:=.bool (x1==y1)) ?_) (nE _) n_
     rw[e1,e2]
     simp only[Go.binOp,dH,run_equal_bool hu,eZ,eH]
    |neq=>
     rw[bC h]
     refine fq H hd hdn (hrun hag (z:=.bool (!(x1==y1))) ?_) (nE _) n_
     rw[e1,e2]
     simp only[Go.binOp,dH,run_equal_bool hu,eZ,eH]
    |_=>exact h.elim
   |_=>simp only[yB,hty]at h;exact h.elim
 ·obtain⟨A,e1,f1⟩:=zG h1
  obtain⟨B,e2,f2⟩:=zG h3
  subst f1
  subst f2
  have hag:(∀c,a.eval x≠.agg c)/\a.eval x≠.nilIface:=by rw[e1];simp
  obtain⟨kk,y',⟨z,g1,g2⟩,g3⟩:=ayq (P:=P) (cx:=cx) (Z:=Z) (J:=J) (F:=F) (w:=w) (d:=d) t (λv=>rfl) h
  rw[g3]
  exact fq H hd hdn (hrun hag (by rw[e1,e2];exact g1)) g2 n_
 ·simp only[yB]at h
  cases hck:b_ (.st dd) (.st c) y1 with
  |none=>rw[hck]at h;exact h.elim
  |some y2=>
   rw[hck]at h
   obtain⟨ek,ey⟩:=iJ hck
   simp only[K.st.injEq]at ek
   subst ek
   simp only at ey
   subst ey
   simp only at h
   rcases bB h with⟨hc,h5⟩|⟨_,h5⟩
   ·simp only[bf]at hc
    have hty:T.ty t=some (.st dd):=by
     have h2:=hc.2
     cases ht:T.ty t with
     |none=>rw[ht]at h2;simp at h2
     |some kk=>rw[ht]at h2;rw[K.eq_of_beq h2]
    obtain⟨cs1,e1,V1⟩:=h1 (.inl hc.1.1)
    obtain⟨cs2,e2,V2⟩:=h3 (.inl hc.1.1)
    have R3:a.eval x=.agg cs1.toArray:=e1
    have e2':a.eval y=.agg cs2.toArray:=e2
    obtain⟨r1,r2⟩:=hSt t dd x1 y2 cs1.toArray cs2.toArray w _ _ _ _ hty hc.1.2 hc.1.1 (show Vw _ _ dd x1 cs1 from V1) (show Vw _ _ dd y2 cs2 from V2)
    have DN:∀{z:Value},(Go.binOp op t (a.eval x) (a.eval y)).run P w=.ok z w->(execOp a.eval o).run P w=.ok (.value z) w:=by
     intro z h
     have hg:=r2 x y op
     rw[<-R3,<-e2']at hg
     simp only[execOp,ho,dH,hg,h,eZ,eH]
    cases op with
    |eql=>
     rw[bC h5]
     refine fq H hd hdn (DN (z:=.bool (o8 dd x1 y2)) ?_) (nE _) n_
     rw[R3,e2']
     simp only[Go.binOp,dH,r1,eZ,eH]
    |neq=>
     rw[bC h5]
     refine fq H hd hdn (DN (z:=.bool (!o8 dd x1 y2)) ?_) (nE _) n_
     rw[R3,e2']
     simp only[Go.binOp,dH,r1,eZ,eH]
    |_=>exact h5.elim
   ·exact h5.elim
 ·obtain⟨e,hu⟩:=hT.ptr t hp
  obtain⟨p,q,e1,e2,hn,hb⟩:=aw2 h1 h3 hne
  have hag:(∀c,a.eval x≠.agg c)/\a.eval x≠.nilIface:=by rw[e1];simp
  rcases hop with⟨rfl,h5⟩|⟨rfl,h5⟩
  ·rw[bC h5]
   refine fq H hd hdn (hrun hag (z:=.bool b) ?_) (nE _) n_
   rw[e1,e2]
   simp only[Go.binOp,dH,aih hu hn,hb,eZ,eH]
  ·rw[bC h5]
   refine fq H hd hdn (hrun hag (z:=.bool (!b)) ?_) (nE _) n_
   rw[e1,e2]
   simp only[Go.binOp,dH,aih hu hn,hb,eZ,eH]
theorem am6(hT:eU P T)(hSt:vJ P T)(H:Rel cx Z J F a w)(hd:o.dst=some d)(hdn:d<cx.nt){t t2:TypeId}{x y:Operand}{op:BinOp}(ho:o.op=.binOp op t x y t2)
  (h:(Rl T t op x y λv=>(.ret [Wr.s d v]:Prog (List Wr))).ends Z ws):dG P cx o a w (aF ws Z):=by
 unfold Rl at h
 rcases bB h with⟨hc,h⟩|⟨_,h⟩
 ·simp only[bf]at hc
  have ey:y=.const (.slice none 0 0):=by
   have:=hc.1
   unfold acA at this
   split at this
   ·rfl
   ·simp at this
  have eop:op=.eql:=by
   have:=hc.2
   unfold acz at this
   split at this
   ·rfl
   ·simp at this
  subst ey eop
  obtain⟨u,h1,hu1,h5⟩:=jh H h
  unfold ag5 at h5
  split at h5
  ·rename_i e kk hty
   obtain⟨ES,z,Tg,cs,g1,g2,g3,h6⟩:=CZ H h1 hu1 h5
   cases ES with
   |sl e' ES=>
    simp only at h6
    rw[bC h6]
    obtain⟨p,n,c,rfl,g5,g6,g7⟩:=g2
    have ev:a.eval x=.slice p n c:=by
     have:=g1.cells
     obtain⟨g8,g9⟩:=g1
     first
      |exact(List.cons.inj g8.symm).1
      |(simp only[gW,eO]at g8;exact g8.symm)
      |exact g8
    have hu:=(dz.sl (hT.ty t _ hty)).1
    have hag:(∀c,a.eval x≠.agg c)/\a.eval x≠.nilIface:=by rw[ev];simp
    have hg:=aif (P:=P) (w:=w) (op:=.eql) (t:=t) (x:=x) (y:=.const (.slice none 0 0)) (v:=a.eval (.const (.slice none 0 0))) hag
    have hr:=ax4 (w:=w) hu p n c
    refine fq (v:=.bool p.isNone) H hd hdn ?_ (show aW cx Z J F w (.nZ _) _ from⟨_,rfl,λhp=>?_⟩) trivial
    ·have e2:a.eval (.const (.slice none 0 0))=.slice none 0 0:=rfl
     have hr':(Go.binOp .eql t (a.eval x) (a.eval (.const (.slice none 0 0)))).run P w=.ok (.bool p.isNone) w:=by rw[ev,e2];exact hr
     simp only[execOp,ho,dH,hg,hr',eZ,eH]
    ·cases p with
     |some q=>simp at hp
     |none=>
      have hn:n=0:=by
       refine j6 λhne=>?_
       obtain⟨b,o,e1,_⟩:=g7 (by omega)
       simp at e1
      have Sj:n=@List.length (El ES) z:=g5
      rw[List.isEmpty_iff_length_eq_zero,<-Sj,hn]
   |_=>exact h6.elim
  ·exact h5.elim
 ·exact am7 hT hSt H hd hdn ho h
end
end
section
open Go
variable [Fr]
section
variable {P:Program}{T:bK}{cx:Cx}{Z:St}{J:aJ}{F:List Nat}{a:Act}{w:World}{o:Oper}{d:Nat}{ws:List Wr}
theorem Fq{c:Call}{b:Builtin}(ho:o.op=.call c)(hb:c.callee=.builtin b):∃cs,(execOp a.eval o).run P w=(builtin b c.argTypes o.type cs (c.args.map a.eval)).run P w:=
 ⟨_,by simp only[execOp,ho,resolve,hb,dH,eH,eZ,invoke];rfl⟩
theorem dz.str{t:TypeId}(h:dz P T t .str):P.underlying t=some .string:=by
 unfold dz jc at h
 exact h.1
theorem rU(hT:eU P T){c:Call}{i:Nat}{k:K}(h:(c.argTypes[i]?).bind T.ty=some k):∃t,c.argTypes[i]?=some t/\dz P T t k:=by
 cases ht:c.argTypes[i]? with
 |none=>rw[ht]at h;simp at h
 |some t=>rw[ht]at h;exact⟨t,rfl,hT.ty t k h⟩
theorem aii{ats:Array TypeId}{ty t:TypeId}{v:Value}{n:Nat}{args:Array Value}(ha:ats[0]?=some t)(hv:args[0]?=some v)(h:(P.underlying t=some .string/\∃B:ByteArray,v=.string B/\B.size=n)\/((∃e,P.underlying t=some (.slice e))/\∃b c,v=.slice b n c)) :
  (Builtin.len_ ats ty args).run P w=.ok (.int .i64 (n:Int)) w:=by
 unfold Builtin.len_
 simp only[ha,hv]
 rcases h with⟨hu,B,rfl,rfl⟩|⟨⟨e,hu⟩,b,c,rfl⟩
 ·simp[gG hu,goInt]
 ·simp[gG hu,goInt]
theorem anl(hT:eU P T)(H:Rel cx Z J F a w)(hd:o.dst=some d)(hdn:d<cx.nt){c:Call}(ho:o.op=.call c)(hb:c.callee=.builtin .len)
  (h:(nS c.args.toList fun
   | [.eX]=>match (c.argTypes[0]?).bind T.ty with
    |some (.sl _ _)=>(.ret [Wr.s d (.one (.val (.int .i64) 0 []))]:Prog (List Wr))
    |_=>.fail
   | [.val .str s _]=>match (c.argTypes[0]?).bind T.ty with
    |some .str=>.ret [Wr.s d (.one (.val (.int .i64) ((show List Int from s).length:Int) []))]
    |_=>.fail
   | [a]=>match (c.argTypes[0]?).bind T.ty with
    |some (.sl _ _)=>oZ a λkk x _=>match kk,x with
     |.sl _ kk,xs=>.ret [Wr.s d (.one (.val (.int .i64) ((show List (El kk)from xs).length:Int) []))]
     |_,_=>.fail
    |_=>.fail
   |_=>.fail).ends Z ws):dG P cx o a w (aF ws Z):=by
 obtain⟨vs,h1,h2,h⟩:=vR H h
 have hfin:∀{t:TypeId} {n:Nat} {v:Value} {x:Operand},c.args.toList=[x]->c.argTypes[0]?=some t->a.eval x=v->((P.underlying t=some .string/\∃B:ByteArray,v=.string B/\B.size=n)\/((∃e,P.underlying t=some (.slice e))/\∃b c,v=.slice b n c))->
   dG P cx o a w (aF [Wr.s d (.one (.val (.int .i64) (n:Int) []))] Z):=by
  intro t n v x hx ht hv hs
  have ha:(c.args.map a.eval)[0]?=some v:=by
   rw[<-rX,u7,hx]
   simp[hv]
  refine fq H hd hdn ?_ (oP .i64 (n:=(n:Int)) trivial) n_
  obtain⟨cc,hcc⟩:=Fq (P:=P) (a:=a) (w:=w) ho hb
  rw[hcc]
  simp only[builtin,dH,aii (ty:=o.type) (w:=w) ht ha hs,eZ,eH]
 have hone:∀{u:AV},vs=[u]->∃x,c.args.toList=[x]/\aW cx Z J F w u (a.eval x):=by
  intro u e
  subst e
  cases hl:c.args.toList with
  |nil=>rw[hl]at h1;exact h1.elim
  |cons x l=>
   rw[hl]at h1
   cases l with
   |nil=>exact⟨x,rfl,h1.1⟩
   |cons y l=>exact h1.2.elim
 split at h
 ·obtain⟨x,hx,hu⟩:=hone rfl
  split at h
  ·rename_i hty
   obtain⟨t,ht,hk⟩:=rU hT hty
   rw[bC h]
   obtain⟨b,e⟩:=hu
   exact hfin (n:=0) hx ht rfl (.inr ⟨⟨_,hk.sl.1⟩,b,0,e⟩)
  ·exact h.elim
 ·obtain⟨x,hx,hu⟩:=hone rfl
  split at h
  ·rename_i hty
   obtain⟨t,ht,hk⟩:=rU hT hty
   rw[bC h]
   obtain⟨B,e1,e2⟩:=zG hu
   subst e2
   have e:(show List Int from bytesOf B).length=B.size:=rD B
   rw[e]
   exact hfin (n:=B.size) hx ht rfl (.inl ⟨hk.str,B,e1,rfl⟩)
  ·exact h.elim
 ·obtain⟨x,hx,hu⟩:=hone rfl
  split at h
  ·rename_i hty
   obtain⟨t,ht,hk⟩:=rU hT hty
   obtain⟨kk,y,Tg,cs,g1,g2,g3,g4⟩:=CZ H hu (h2 _ (by simp)) h
   cases kk with
   |sl e kk=>
    rw[bC g4]
    obtain⟨b,n,cc,f1,f2,f3,f4,f5⟩:=BV g1 g2
    have e:((@List.length (El kk) y:Nat):Int)=(n:Int):=by rw[f3]
    have e':(show List (El kk)from y).length=n:=f3.symm
    rw[e']
    exact hfin (n:=n) hx ht rfl (.inr ⟨⟨_,hk.sl.1⟩,b,cc,f1⟩)
   |_=>exact g4.elim
  ·exact h.elim
 ·exact h.elim
theorem Z6(H:Rel cx Z J F a w){r:Nat}{R:Root}(hr:aY Z r R){b:Nat}(hb:b∈blk J R r)(hnb:¬lM cx b):aN cx Z J F w ((r,dL R.w) :: R.tags) b:=by
 have hm:=(H.roots r R hr).mine b hb
 refine⟨hm.1,H.dU r R hr b hb,hnb,λq Q hq hbq=>?_,λh0=>?_⟩
 ·by_cases e:q=r
  ·subst e;exact⟨dL R.w,by simp⟩
  ·exact absurd hb (H.jr q Q r R hq hr e b hbq)
 ·rcases hm.2 with h|⟨j,pi,h1,h2⟩
  ·omega
  ·exact .inr ⟨j,pi,h1,h2⟩
theorem amw{A:Type}{z:A}(H:Rel cx Z J F a w):∀{l:List AV} {vs:List Value} {k:List (TypeId×Dat×List Tag)->Prog A},h_ cx Z J F w l vs->(∀v∈l,dK Z v)->(Da l k).ends Z z->
  ∃cs,m_ cx Z J F w cs vs/\(∀c∈cs,fI Z c.2.2)/\(k cs).ends Z z:=by
 intro l
 induction l with
 |nil=>
  intro vs k h1 _ h
  cases vs with
  |nil=>exact⟨[],trivial,by simp,h⟩
  |cons v vs=>exact h1.elim
 |cons x l ih=>
  intro vs k h1 h2 h
  cases vs with
  |nil=>exact h1.elim
  |cons v vs=>
   simp only[Da]at h
   rcases Lu H h1.1 (h2 x (by simp)) h with⟨r,R,p,dd,cs,b,q,hr,hv,hg,cK,hown,hn,e,h5⟩|⟨bt,dd,Tg,b,q,cs,hw,e,hcs,hV,hok,hb,h5⟩
   ·rcases bB h5 with⟨_,h6⟩|⟨hne,h6⟩
    ·exact h6.elim
    ·obtain⟨cs2,g1,g2,g3⟩:=ih h1.2 (λv hv=>h2 v (by simp[hv])) h6
     obtain⟨hC,⟨aT,hO,hf⟩,hbb,⟨arr,te,lo,hi,m1,m2,m3,m4⟩,_⟩:=uU H hr hv hg cK hown hn
     have hbase:gy R p=te/\¬lM cx b:=by
      rcases m4 with m4|⟨_,m4⟩
      ·exact m4
      ·rw[m4]at hne;simp at hne
     refine⟨(gy R p,dd,(r,dL R.w) :: R.tags) :: cs2,⟨⟨⟨b,q,e⟩,λ_=>⟨b,q,cs,e,hC,?_,(Z6 H hr hbb hbase.2).q,.inr ⟨.inl (by rw[hbase.1];unfold iH;rw[m1]),hbase.2⟩⟩⟩,g1⟩,?_,g3⟩
     ·exact oV _ (λb hb=>BN hb (λt ht=>by simp[ht])) (λb hb=>Z6 H hr (bG _ (hf b hb)) (yN H hr (hf b hb))) hO
     ·intro c hc
      rcases bM.1 hc with h|h
      ·subst h
       intro t ht
       rcases bM.1 ht with h|h
       ·subst h;exact .inr ⟨R,hr.1,.inr (bZ _)⟩
       ·exact(H.fE r R hr.1).1 t h
      ·exact g2 c h
   ·obtain⟨cs2,g1,g2,g3⟩:=ih h1.2 (λv hv=>h2 v (by simp[hv])) h5
    refine⟨(bt,dd,Tg) :: cs2,⟨⟨⟨b,q,e⟩,λ_=>⟨b,q,cs,e,hcs,hV,hok,hb⟩⟩,g1⟩,?_,g3⟩
    intro c hc
    rcases bM.1 hc with h|h
    ·subst h;exact hw
    ·exact g2 c h
theorem anp(H:Rel cx Z J F a w)(hd:o.dst=some d)(hdn:d<cx.nt){f:Nat}{first caps:Array Operand}(ho:o.op=.makeFunc (.func f) first caps)
  (h:(bif first.isEmpty then nS caps.toList λl=>Da l λcs=>.ret [Wr.s d (.one (.fn f cs))]else(.fail:Prog (List Wr))).ends Z ws):dG P cx o a w (aF ws Z):=by
 rcases bB h with⟨he,h5⟩|⟨_,h5⟩
 ·obtain⟨vs,h1,h2,h6⟩:=vR H h5
  obtain⟨cs,g1,g2,g3⟩:=amw H h1 h2 h6
  rw[bC g3]
  have hf:first=#[]:=by simpa using he
  refine fq (x:=.one (.fn f cs)) (v:=.func (.func f) #[] (caps.map a.eval)) H hd hdn ?_ ⟨(caps.map a.eval).toList,rfl,by rw[u7];exact g1⟩ g2
  simp[execOp,ho,Instr.makeFunc,hf]
 ·exact h5.elim
end
end
section
open Go
variable [Fr]
section
variable {P:Program}{T:bK}{cx:Cx}{Z:St}{J:aJ}{F:List Nat}{a:Act}{w:World}{o:Oper}{d:Nat}{ws:List Wr}
theorem J3{A:Type}{z:A}(H:Rel cx Z J F a w){x:Option Operand}{k:Option Int->Prog A}(h:(tH x k).ends Z z) :
  ∃i:Option Int,(k i).ends Z z/\(i=none↔x=none)/\∀j,i=some j->∃ik,x.map a.eval=some (.int ik j):=by
 cases x with
 |none=>exact⟨none,h,by simp,λj hj=>by simp at hj⟩
 |some y=>
  simp only[tH]at h
  obtain⟨v,h1,_,h⟩:=jh H h
  obtain⟨ik,n,e,_,h⟩:=Gz h1 h
  exact⟨some n,h,by simp,λj hj=>by simp only[ak]at hj;subst hj;exact⟨ik,by simp[e]⟩⟩
theorem aid{TI:Bool}{len cap:Nat}{lo hi:Option Int}{l h:Option Value}(hlc:len<=cap)(hl:lo=none->l=none)(hl':∀j,lo=some j->∃ik,l=some (.int ik j))(hh:hi=none->h=none)(hh':∀j,hi=some j->∃ik,h=some (.int ik j))
  (h1:∀j,hi=some j->0<=j/\j<=(len:Int)) (h2:∀j,lo=some j->0<=j/\j<=hi.getD (len:Int)) :
  (Instr.sliceBounds TI len cap l h none).run P w=.ok ((lo.getD 0).toNat,(hi.getD (len:Int)).toNat,cap) w:=by
 unfold Instr.sliceBounds
 cases hi with
 |none=>
  rw[hh rfl]
  cases lo with
  |none=>rw[hl rfl];simp
  |some j=>
   obtain⟨ik,e⟩:=hl' j rfl
   obtain⟨g1,g2⟩:=h2 j rfl
   simp only[CQ]at g2
   rw[e]
   simp[Instr.sliceBound,asIntOf,g1,g2]
 |some i=>
  obtain⟨ik,e⟩:=hh' i rfl
  obtain⟨f1,f2⟩:=h1 i rfl
  have f3:i<=(cap:Int):=by omega
  rw[e]
  cases lo with
  |none=>rw[hl rfl];simp[Instr.sliceBound,asIntOf,f1,f3]
  |some j=>
   obtain⟨ME,e2⟩:=hl' j rfl
   obtain⟨g1,g2⟩:=h2 j rfl
   simp only[su]at g2
   have g3:j<=max i 0:=by omega
   rw[e2]
   simp[Instr.sliceBound,asIntOf,f1,f3,g1]
   omega
theorem ZF{h:Heap}{ok:Nat->Prop}{e:TypeId}{k:K}{xs:List (El k)}{b:Option Addr}{n c l m:Nat}(H:Vw h ok (.sl e k) xs [.slice b n c])(hl:l<=m)(hm:m<=n) :
  Vw h ok (.sl e k) (show List (El k)from(xs.take m).drop l) [.slice (if c=l then b else b.map (·.add (l*k.size))) (m-l) (c-l)]:=by
 obtain⟨b',n',c',e1,e2,e3,e4⟩:=H
 simp only[gW,mX,eO]at e1
 obtain⟨rfl,rfl,rfl⟩:=e1
 have hxl:xs.length=n:=e2.symm
 have hlen:((xs.take m).drop l).length=m-l:=by simp;omega
 refine⟨_,_,_,rfl,hlen.symm,by omega,λh0=>?_⟩
 obtain⟨bb,q,rfl,hok,hel,hes⟩:=e4 (by omega)
 have hc:¬c=l:=by omega
 refine⟨bb,q+l*k.size,by rw[ah hc];simp[addr_add],hok,hel,λi hi=>?_⟩
 have hi':i<((xs.take m).drop l).length:=hi
 obtain⟨ds,h1,h2⟩:=hes (l+i) (by show l+i<xs.length;omega)
 refine⟨ds,?_,?_⟩
 ·rw[ou,<-iB]
  exact h1
 ·have:(show List (El k)from(xs.take m).drop l)[i]'hi=xs[l+i]'(by omega):=by
   show((xs.take m).drop l)[i]=_
   simp
  rw[this]
  exact h2
theorem ams(B:ByteArray)(l m:Nat):bytesOf (B.extract l m)=((bytesOf B).take m).drop l:=by
 unfold bytesOf
 rw[<-List.map_take,<-List.map_drop]
 congr 1
 simp[ByteArray.data_extract,List.extract_eq_take_drop,List.drop_take]
def kX(lo:Option Int):Nat:=(lo.getD 0).toNat
def nV(hi:Option Int)(n:Nat):Nat:=(hi.getD (n:Int)).toNat
theorem ax7{t e:TypeId}{k:K}(ht:dz P T t (.sl e k)){b:Option Addr}{n c:Nat}{lo hi:Option Int}{l h:Option Value}(hlc:n<=c)(hl:lo=none->l=none)(hl':∀j,lo=some j->∃ik,l=some (.int ik j))(hh:hi=none->h=none)(hh':∀j,hi=some j->∃ik,h=some (.int ik j))
  (h1:∀j,hi=some j->0<=j/\j<=(n:Int)) (h2:∀j,lo=some j->0<=j/\j<=hi.getD (n:Int)) :
  (Instr.sliceAt t (.slice b n c) l h none).run P w=.ok (.slice (if c=kX lo then b else b.map (·.add (kX lo*k.size))) (nV hi n-kX lo) (c-kX lo)) w:=by
 obtain⟨hu,he,_,_⟩:=ht.sl
 unfold Instr.sliceAt Instr.slice
 simp only[dH,gG hu,Result.andThen,aid (TI:=true) (w:=w) hlc hl hl' hh hh' h1 h2,he.info.sizeOf w,eH]
 rfl
theorem ax8{t:TypeId}(ht:dz P T t .str){B:ByteArray}{lo hi:Option Int}{l h:Option Value}(hl:lo=none->l=none)(hl':∀j,lo=some j->∃ik,l=some (.int ik j))(hh:hi=none->h=none)(hh':∀j,hi=some j->∃ik,h=some (.int ik j))
  (h1:∀j,hi=some j->0<=j/\j<=(B.size:Int)) (h2:∀j,lo=some j->0<=j/\j<=hi.getD (B.size:Int)) :
  (Instr.sliceAt t (.string B) l h none).run P w=.ok (.string (B.extract (kX lo) (nV hi B.size))) w:=by
 have hu:=ht.str
 unfold Instr.sliceAt Instr.slice
 simp[dH,gG hu,Result.andThen,aid (TI:=false) (w:=w) (bZ B.size) hl hl' hh hh' h1 h2,eH,kX,nV]
theorem TK{x:Option Operand}(h:isZero x=true):∃ik,x=some (.const (.int ik 0)):=by
 unfold isZero at h
 split at h
 ·exact⟨_,rfl⟩
 ·simp at h
theorem anA(hT:eU P T)(H:Rel cx Z J F a w)(hd:o.dst=some d)(hdn:d<cx.nt){t:TypeId}{x:Operand}{lo hi mx:Option Operand}
  (h:(match T.ty t with
   |some kk=>bif isZero lo&&isZero hi&&isZero mx then match kk with
     |.sl _ _=>dY x fun
      |.eX=>.ret [Wr.s d (.one .eX)]
      |a=>oZ a λk' _ _=>bif k'.beq kk then .ret [Wr.s d (.one .eX)]else .fail
     |_=>.fail
    else match mx with
     |none=>dY x λa=>tH lo λlo=>tH hi λhi=>Xh kk a lo hi λu=>.ret [Wr.s d (.one u)]
     |some _=>.fail
   |none=>(.fail:Prog (List Wr))).ends Z ws) (ho:o.op=.slice t x lo hi mx):dG P cx o a w (aF ws Z):=by
 cases hty:T.ty t with
 |none=>rw[hty]at h;exact h.elim
 |some kk=>
  rw[hty]at h
  have ht:=hT.ty t kk hty
  rcases bB h with⟨hz,h5⟩|⟨_,h5⟩
  ·simp only[bf]at hz
   obtain⟨DY,rfl⟩:=TK hz.1.1
   obtain⟨ME,rfl⟩:=TK hz.1.2
   obtain⟨ik3,rfl⟩:=TK hz.2
   cases kk with
   |sl e k=>
    obtain⟨u,h1,h2,h6⟩:=jh H h5
    have hfin:(∃b n c,a.eval x=.slice b n c)->ws=[Wr.s d (.one .eX)]->dG P cx o a w (aF ws Z):=by
     rintro⟨b,n,c,e⟩ hws
     rw[hws]
     obtain⟨hu,he,_,_⟩:=ht.sl
     refine fq (x:=.one .eX) (v:=.slice b 0 0) H hd hdn ?_ ⟨b,rfl⟩ trivial
     have hcv:∀v,a.eval (.const v)=v:=λ_=>rfl
     simp[execOp,ho,e,Instr.sliceAt,Instr.slice,gG hu,Instr.sliceBounds,Instr.sliceBound,asIntOf,he.info.sizeOf w,hcv]
    cases u with
    |eX=>
     obtain⟨b,e⟩:=h1
     exact hfin ⟨b,0,0,e⟩ (bC h6)
    |_=>
     obtain⟨k',y,Tg,cs,g1,g2,g3,g4⟩:=CZ H h1 h2 h6
     rcases beq_true g4 with⟨ek,g5⟩|⟨_,g5⟩
     ·subst ek
      obtain⟨b,n,c,f1,_⟩:=BV g1 g2
      exact hfin ⟨b,n,c,f1⟩ (bC g5)
     ·exact g5.elim
   |_=>exact h5.elim
  ·cases mx with
   |some m=>exact h5.elim
   |none=>
    obtain⟨u,h1,h2,h6⟩:=jh H h5
    obtain⟨l,h7,l1,l2⟩:=J3 H h6
    obtain⟨m,h8,m1,m2⟩:=J3 H h7
    have hl:l=none->lo.map a.eval=none:=λe=>by rw[l1.1 e];rfl
    have hm:m=none->hi.map a.eval=none:=λe=>by rw[m1.1 e];rfl
    have hstr:∀{s:List Int} {Tg:List Tag},u=.val .str s Tg->dG P cx o a w (aF ws Z):=by
     intro s Tg e
     subst e
     obtain⟨B,e1,e2⟩:=zG h1
     subst e2
     simp only[Xh]at h8
     rcases bB h8 with⟨_,h9⟩|⟨hk,h9⟩
     ·exact h9.elim
     ·have ek:kk=.str:=K.eq_of_beq (by simpa using hk)
      subst ek
      have hln:=rD B
      have hgo:∀{p:List Int},(∀j,m=some j->0<=j/\j<=(B.size:Int))->(∀j,l=some j->0<=j/\j<=m.getD (B.size:Int))->p=((bytesOf B).take (nV m B.size)).drop (kX l)->ws=[Wr.s d (.one (.val .str p []))]->dG P cx o a w (aF ws Z):=by
       intro p g1 g2 hp hws
       rw[hws,hp]
       have hrun:=ax8 (w:=w) ht (B:=B) hl l2 hm m2 g1 g2
       refine fq (v:=.string (B.extract (kX l) (nV m B.size))) H hd hdn ?_ ?_ (λt ht=>by simp at ht)
       ·simp only[execOp,ho,e1,dH]
        rw[show(none:Option Operand).map a.eval=none from rfl,hrun]
        rfl
       ·rw[<-ams]
        exact Wz
      cases l with
      |none=>
       cases m with
       |none=>exact hgo (by simp) (by simp) (by simp[kX,nV,<-hln]) (bC h9)
       |some j=>
        obtain⟨hc,h9⟩:=h9
        exact hgo (λi hi=>by simp only[ak]at hi;subst hi;rw[<-hln];exact hc) (by simp) (by simp[kX,nV]) (bC h9)
      |some i=>
       cases m with
       |none=>
        obtain⟨hc,h9⟩:=h9
        exact hgo (by simp) (λi hi=>by simp only[ak]at hi;subst hi;simp only[CQ];rw[<-hln];exact hc) (by simp[kX,nV,<-hln]) (bC h9)
       |some j=>
        obtain⟨hc,h9⟩:=h9
        have hc':0<=i/\i<=j/\j<=((bytesOf B).length:Int):=hc
        exact hgo (λi' hi=>by simp only[ak]at hi;subst hi;rw[<-hln];exact⟨by omega,hc'.2.2⟩) (λi' hi=>by simp only[ak]at hi;subst hi;exact⟨hc'.1,hc'.2.1⟩) (by simp[kX,nV]) (bC h9)
    have hsl:(oZ u λk2 y Tg=>match k2,y with
      |.sl e k3,xs=>bif !kk.beq (.sl e k3)then .fail else
       match l,m with
       |none,none=>(.ret [Wr.s d (.one (.val (.sl e k3) xs Tg))]:Prog (List Wr))
       |some l,none=>.dX (0<=l/\l<=((show List (El k3)from xs).length:Int)) inferInstance (.ret [Wr.s d (.one (.val (.sl e k3) ((show List (El k3)from xs).drop l.toNat) Tg))])
       |none,some h=>.dX (0<=h/\h<=((show List (El k3)from xs).length:Int)) inferInstance (.ret [Wr.s d (.one (.val (.sl e k3) ((show List (El k3)from xs).take h.toNat) Tg))])
       |some l,some h=>.dX (0<=l/\l<=h/\h<=((show List (El k3)from xs).length:Int)) inferInstance (.ret [Wr.s d (.one (.val (.sl e k3) (((show List (El k3)from xs).take h.toNat).drop l.toNat) Tg))])
      |_,_=>.fail).ends Z ws->dG P cx o a w (aF ws Z):=by
     intro h9
     obtain⟨k2,y,Tg,cs,g1,g2,g3,g4⟩:=CZ H h1 h2 h9
     cases k2 with
     |sl e k3=>
      simp only at g4
      rcases bB g4 with⟨_,g5⟩|⟨hk,g5⟩
      ·exact g5.elim
      ·have ek:kk=.sl e k3:=K.eq_of_beq (by simpa using hk)
       subst ek
       have hln:(show List (El k3)from y).length=@List.length (El k3) y:=rfl
       obtain⟨b,n,c,f1,f2,f3,f4,f5⟩:=BV g1 g2
       have hgo:∀{p:List (El k3)},(∀j,m=some j->0<=j/\j<=(n:Int))->(∀j,l=some j->0<=j/\j<=m.getD (n:Int))->p=((show List (El k3)from y).take (nV m n)).drop (kX l)->ws=[Wr.s d (.one (.val (.sl e k3) p Tg))]->dG P cx o a w (aF ws Z):=by
        intro p q1 q2 hp hws
        rw[hws,hp]
        have hrun:=ax7 (w:=w) ht (b:=b) f4 hl l2 hm m2 q1 q2
        have hlm:kX l<=nV m n/\nV m n<=n:=by
         unfold kX nV
         cases l with
         |none=>
          cases m with
          |none=>simp
          |some j=>have:=q1 j rfl;simp;omega
         |some i=>
          have h3:=q2 i rfl
          cases m with
          |none=>simp at h3 ⊢;omega
          |some j=>have:=q1 j rfl;simp at h3 ⊢;omega
        have hV:=ZF (xs:=(show List (El k3)from y)) (by rw[f2]at g2;exact g2) hlm.1 hlm.2
        refine fq H hd hdn ?_ (show aW cx Z J F w (.val (.sl e k3) _ Tg) (.slice (if c=kX l then b else b.map (·.add (kX l*k3.size))) (nV m n-kX l) (c-kX l))from λ_=>⟨_,⟨rfl,by simp⟩,hV⟩) g3
        simp only[execOp,ho,f1,dH]
        rw[show(none:Option Operand).map a.eval=none from rfl,hrun]
        rfl
       have f3':((show List (El k3)from y).length:Int)=(n:Int):=by rw[f3]
       cases l with
       |none=>
        cases m with
        |none=>exact hgo (by simp) (by simp) (by simp only[kX,nV,CQ,iw,Int.toNat_zero,vD];rw[f3,QG]) (bC g5)
        |some j=>
         obtain⟨hc,h9⟩:=g5
         exact hgo (λi hi=>by simp only[ak]at hi;subst hi;rw[<-f3'];exact hc) (by simp) (by simp[kX,nV]) (bC h9)
       |some i=>
        cases m with
        |none=>
         obtain⟨hc,h9⟩:=g5
         exact hgo (by simp) (λi hi=>by simp only[ak]at hi;subst hi;simp only[CQ];rw[<-f3'];exact hc) (by simp only[kX,nV,CQ,su,iw];rw[f3,QG]) (bC h9)
        |some j=>
         obtain⟨hc,h9⟩:=g5
         have hc':0<=i/\i<=j/\j<=((show List (El k3)from y).length:Int):=hc
         exact hgo (λi' hi=>by simp only[ak]at hi;subst hi;rw[<-f3'];exact⟨by omega,hc'.2.2⟩) (λi' hi=>by simp only[ak]at hi;subst hi;exact⟨hc'.1,hc'.2.1⟩) (by simp[kX,nV]) (bC h9)
     |_=>exact g4.elim
    cases u with
    |val k1 s Tg=>
     cases k1 with
     |str=>exact hstr rfl
     |_=>exact hsl h8
    |_=>exact hsl h8
end
end
section
open Go
variable [Fr]
section
variable {cx:Cx}{Z:St}{J:aJ}{F:List Nat}{a:Act}{w:World}{r:Nat}{R:Root}
theorem Rel.lose(H:Rel cx Z J F a w)(hr:aY Z r R)(hv:cZ Z R){l:List TypeId}(hl:l≠[]):∃J',Rel cx (aO Z r (BG R l)) J' F a w:=by
 have K:=H.roots r R hr
 have hnt:=H.fE r R hr.1
 have hsub:∀t,ay t (eF R.own l)=true->ay t R.own=true:=λt ht=>(oM.1 ht).1
 obtain⟨mI,fd,hp1,hO⟩:=wS (own':=eF R.own l) (λt _ h=>hsub t h) (K.ow hv)
 have hfo:∀b∈mI,b∈J.fo r:=λb hb=>hp1.mem_iff.2 (bV _ hb)
 have Mj:∀b∈fd,b∈J.fo r:=λb hb=>hp1.mem_iff.2 (bG _ hb)
 have hbk:∀b∈iV (BG R l) (J.loc r) mI,b∈blk J R r:=λb hb=>by
  rw[jd]
  rcases dh.1 hb with h|h
  ·exact bV _ h
  ·exact bG _ (hfo b h)
 have hnd:=K.nd
 rw[jd]at hnd
 have Td:(iV R (J.loc r) (mI++fd)).Nodup:=by
  have:(iV R (J.loc r) (J.fo r)).Perm (iV R (J.loc r) (mI++fd)):=z_ _ hp1
  exact this.nodup_iff.1 hnd
 have abT:(iV R (J.loc r) mI++fd).Nodup:=by
  have e:iV R (J.loc r) (mI++fd)=iV R (J.loc r) mI++fd:=by simp[iV,eG]
  rw[<-e];exact Td
 have T1:uu cx Z J F w r R (BG R l) mI F w l []:=by
  refine⟨.inr ⟨rfl,rfl,bZ _,rfl,λ_=>rfl,.inl hl⟩,⟨λt ht=>hnt.1 t ht,λn hn=>hnt.2.2 n hn⟩,⟨rfl,rfl,rfl⟩,bZ _,λb _ hne=>absurd rfl hne,λ_ b hb=>.inl (hbk b hb),λb hb=>.inl hb,H.gL,λ_ b hb=>H.dU r R hr b (hbk b hb),λ_ _ _ _ _ _ _ _ hne=>absurd rfl hne,λ_=>⟨rfl,rfl⟩⟩
 have hcl0:∀tys,cO (aO Z r (BG R l)) tys R.tags=cO Z tys R.tags:=λtys=>vO hnt.2.2
 refine⟨bn J r (J.loc r) (J.hdr r) mI,T1.rel H hr (λ_=>⟨λhvn=>?_,K.len,λb o hb=>?_,?_⟩) ?_ ?_⟩
 ·refine dR (λ_ _=>rfl) (λb hb=>?_) (λ_ _=>rfl) hO
  have hblk:∀q Q,aY (aO Z r (BG R l)) q Q->b∈blk (bn J r (J.loc r) (J.hdr r) mI) Q q->(q=r/\b∈iV R (J.loc r) mI)\/(q≠r/\aY Z q Q/\b∈blk J Q q):=by
   intro q Q hq hbq
   by_cases e:q=r
   ·subst e
    obtain⟨rfl,_⟩:=nY hq
    rw[qc]at hbq
    exact .inl ⟨rfl,hbq⟩
   ·refine .inr ⟨e,(Wn e).1 hq,?_⟩
    cases oI:Nat.beq q r with
    |true=>exact absurd (bu oI) e
    |false=>simpa[blk,aL,bn,upd,oI]using hbq
  rcases hb with hb|hb
  ·obtain⟨g1,g2,g3,g4,g5⟩:=hb
   refine⟨g1,g2,g3,λq Q hq hbq=>?_,g5⟩
   rcases hblk q Q hq hbq with⟨rfl,h⟩|⟨_,h1,h2⟩
   ·exact g4 q R hr (hbk b h)
   ·exact g4 q Q h1 h2
  ·have hbb:b∈blk J R r:=bG _ (Mj b hb)
   have hm:=K.mine b hbb
   refine⟨hm.1,H.dU r R hr b hbb,yN H hr (Mj b hb),λq Q hq hbq=>?_,λh0=>?_⟩
   ·exfalso
    rcases hblk q Q hq hbq with⟨rfl,h⟩|⟨h,h1,h2⟩
    ·exact(dJ.1 abT).2.2 b h b hb rfl
    ·exact H.jr q Q r R h1 hr h b h2 hbb
   ·rcases hm.2 with h|⟨j,pi,h1,h2⟩
    ·omega
    ·exact .inr ⟨j,pi,h1,h2⟩
 ·exact K.mem b o (by rw[zK];exact hb)
 ·have:=abT.sublist (List.sublist_append_left _ _)
  exact this
 ·intro _ p n v hn hold
  refine⟨hold.1,λQ hQ lZ hcl hty hs=>?_⟩
  rw[fQ]at hQ
  simp only[ak]at hQ
  subst hQ
  obtain⟨g1,cs,b,o,g2,g3⟩:=hold.2 R hr.1 hv hcl (λt ht=>hsub t (hty t ht)) hs
  refine⟨g1,cs,b,o,?_,g3⟩
  have e1:(bn J r (J.loc r) (J.hdr r) mI).hdr r=J.hdr r:=by simp[bn,upd_same]
  have e2:aL (bn J r (J.loc r) (J.hdr r) mI) (BG R l) r=aL J R r:=by rw[u6,zK];rfl
  rw[e1,e2]
  exact g2
 ·intro _ g v _ hold Q hQ hg
  obtain⟨rfl,_⟩:=nY hQ
  obtain⟨h1,h2⟩:=hold R hr hg
  refine⟨h1,?_⟩
  simp only[bn,upd_same]
  exact h2
theorem awK(H:Rel cx Z J F a w)(l:List TypeId)(r:Nat):∃J',Rel cx (Ws l r Z) J' F a w:=by
 unfold Ws
 split
 ·exact⟨_,H⟩
 ·rename_i hl
  split
  ·rename_i R hR
   cases hc:R.cu || !cO Z R.pO R.tags || !R.own.any (λt=>ay t l)with
   |true=>exact⟨_,H⟩
   |false=>
    simp only[PK,Bool.not_eq_false']at hc
    exact H.lose (r:=r) (R:=R) ⟨hR,hc.1.1⟩ ⟨hc.1.1,hc.1.2⟩ (λh=>hl h)
  ·exact⟨_,H⟩
theorem Wt(hi:Hint):∀(rs:List Nat) {Z:St} {J:aJ},Rel cx Z J F a w->∃J',Rel cx (BK hi rs Z) J' F a w
 | [],_,_,H=>⟨_,H⟩
 |r :: rs,_,_,H=>by
  obtain⟨J',h⟩:=awK H (AJ (1000000+r) hi.less) r
  exact Wt hi rs h
end
end
section
open Go
variable [Fr]
section
variable {cx:Cx}{Z:St}{J:aJ}{F:List Nat}{a:Act}{w:World}{r:Nat}
theorem ah5(H:Rel cx Z J F a w)(hn:Z.roots r=none)(hx:fV r=false){e:TypeId}{k:K}{xs:List (El k)}{own:List TypeId}{tags:List Tag}{arr:Array Value}{lo hi n c:Nat}{az:List (List Nat)}{F1:List Nat}
  (hwt:fI Z tags) (hown:ay e own=true) (hfr:iU arr.size lo hi) (hnx:n=xs.length) (hnc:n<=c) (hca:c*k.size<=arr.size)
  (hfl:az.length=xs.length) (AX:∀b∈az.flatten,b∈F) (xh:az.flatten.Nodup) (hF1:∀b∈F1,b∈F/\b∉az.flatten) (aoH:F1.Nodup)
  (hel:∀(i:Nat) (hi:i<xs.length),∃ds,ds.length=k.size/\(∀j,j<ds.length->arr[i*k.size+j]?=ds[j]?)/\Ow (hp w) own (λb=>aN cx Z J F w tags b\/(b∈F/\b∉F1/\b∉az.flatten)) k xs[i] ds (az.getD i [])) (kp:Bool) (dr:Nat) :
  ∃J' F',Rel cx (aO Z r (bU (.sl e k) xs own tags .anon kp)) J' F' a ((dw w dr).alloc (.cells arr e (lo,hi)))/\
   aW cx (aO Z r (bU (.sl e k) xs own tags .anon kp)) J' F' ((dw w dr).alloc (.cells arr e (lo,hi))) (.ref r 0) (.slice (some ⟨w.heap.size,0,none⟩) n c):=by
 have H0:=H.drawn dr
 obtain⟨H1,T1⟩:=H0.alloc (.cells arr e (lo,hi))
 have hsz:(dw w dr).heap.size=w.heap.size:=rfl
 have hnew:hp ((dw w dr).alloc (.cells arr e (lo,hi))) w.heap.size=some (.cells arr e (lo,hi)):=DI (dw w dr) _
 have hold:∀b,b<w.heap.size->hp ((dw w dr).alloc (.cells arr e (lo,hi))) b=hp w b:=λb hb=>Bc (dw w dr) _ hb
 have lJ:w.heap.size∉F:=λh=>by have:=(H.fl _ h).1;omega
 have hv:bz own (.sl e k)=bz own k:=by simp[bz,hown]
 obtain⟨J',k1,k2⟩:=CV (k:=.sl e k) (x:=(xs:El (.sl e k))) (own:=own) (tags:=tags) (v:=.slice (some ⟨w.heap.size,0,none⟩) n c) (cs:=[.slice (some ⟨w.heap.size,0,none⟩) n c]) (fo:=w.heap.size :: az.flatten) (r:=r) (F':=F1) H1 hn hx
  (λb hb=>by
   rcases bM.1 hb with h|h
   ·subst h;exact jE
   ·exact jD _ (AX b h))
  (jO.2 ⟨λh=>lJ (AX _ h),xh⟩) hwt
  (λb hb=>⟨jD _ (hF1 b hb).1,λh=>by
   rcases bM.1 h with h|h
   ·subst h;exact lJ (hF1 _ hb).1
   ·exact(hF1 b hb).2 h⟩) aoH rfl
  (λhc=>by
   rw[hv]at hc
   obtain⟨_,hV,_⟩:=T1.views H0 tags _ hwt hc
   unfold Ow
   rw[aj hown]
   refine⟨_,_,_,rfl,hnx,hnc,.inr ⟨w.heap.size,0,arr,lo,hi,rfl,hnew,hfr,by omega,az,hfl,.refl _,λi hi=>?_⟩⟩
   obtain⟨ds,h1,h2,h3⟩:=hel i hi
   refine⟨ds,λj hj=>?_,?_⟩
   ·unfold cellAt
    rw[hnew]
    simp only[jq]
    exact h2 j hj
   ·refine dR ?_ ?_ (λb hb=>hold b (H.fl b (AX b (uN hb))).1) (rC _ (λ_ h=>h) h3)
    ·rintro b ⟨hb|⟨hb,_⟩,_⟩
     ·exact hold b hb.1
     ·exact hold b (H.fl b hb).1
    ·rintro b ⟨hb|⟨g1,g2,g3⟩,hty⟩
     ·exact .inl (hV b hb (.inl hty)).1
     ·refine .inr ⟨jD _ g1,g2,λh=>?_⟩
      rcases bM.1 h with h|h
      ·subst h;exact lJ g1
      ·exact g3 h) ⟨rfl,by simp⟩ kp
 exact⟨J',F1,k1,k2⟩
theorem WT(H:Rel cx Z J F a w)(hn:Z.roots r=none)(hx:fV r=false){e:TypeId}{k:K}{xs:List (El k)}{own:List TypeId}{arr:Array Value}{lo hi n c:Nat}
  (hown:ay e own=true) (hfr:iU arr.size lo hi) (hnx:n=xs.length) (hnc:n<=c) (hca:c*k.size<=arr.size)
  (hel:∀(i:Nat) (hi:i<xs.length),∃ds,ds.length=k.size/\(∀j,j<ds.length->arr[i*k.size+j]?=ds[j]?)/\∀h ok,Ow h own ok k xs[i] ds []) (kp:Bool) (dr:Nat) :
  ∃J' F',Rel cx (aO Z r (bU (.sl e k) xs own [] .anon kp)) J' F' a ((dw w dr).alloc (.cells arr e (lo,hi)))/\
   aW cx (aO Z r (bU (.sl e k) xs own [] .anon kp)) J' F' ((dw w dr).alloc (.cells arr e (lo,hi))) (.ref r 0) (.slice (some ⟨w.heap.size,0,none⟩) n c):=by
 have hfl:(List.replicate xs.length ([]:List Nat)).flatten=[]:=by simp
 refine ah5 H hn hx (az:=List.replicate xs.length []) (F1:=F) (λt ht=>by simp at ht) hown hfr hnx hnc hca (by simp) (by rw[hfl];simp) (by rw[hfl];exact mq) (by rw[hfl];exact λb hb=>⟨hb,by simp⟩) H.gL ?_ kp dr
 intro i hi
 obtain⟨ds,h1,h2,h3⟩:=hel i hi
 refine⟨ds,h1,h2,?_⟩
 have:(List.replicate xs.length ([]:List Nat)).getD i []=[]:=by
  rw[nk (by simpa using hi)];simp
 rw[this]
 exact h3 _ _
end
end
section
open Go
variable [Fr]
section
variable {P:Program}{T:bK}{cx:Cx}{Z:St}{J:aJ}{F:List Nat}{a:Act}{w:World}{o:Oper}{d:Nat}{ws:List Wr}
theorem dz.int{t:TypeId}{ik:IntKind}(h:dz P T t (.int ik)):P.underlying t=some (.int ik):=by
 unfold dz jc at h
 exact h.1
theorem dz.und{t:TypeId}{k:K}(h:dz P T t k):∃u,P.underlying t=some u:=by
 unfold dz jc at h
 cases k with
 |int ik=>exact⟨_,h.1⟩
 |bool=>exact⟨_,h.1⟩
 |id e=>exact⟨_,h.1⟩
 |str=>exact⟨_,h.1⟩
 |sl e k=>exact⟨_,h.1⟩
 |unit=>exact h.elim
 |pair a b=>exact h.elim
 |st c=>obtain⟨⟨fs,h1,_⟩,_⟩:=h;exact⟨_,h1⟩
 |gap n=>exact h.elim
theorem axx(ns:List Int):∀(s:ByteArray),(∀n∈ns,0<=n/\n<256)->bytesOf (ns.foldl (λr n=>r.push (UInt8.ofNat n.toNat)) s)=bytesOf s++ns:=by
 induction ns with
 |nil=>intro s _;simp
 |cons n ns ih=>
  intro s h
  rw[List.foldl_cons,ih _ (λm hm=>h m (by simp[hm]))]
  have h1:=h n (by simp)
  have:bytesOf (s.push (UInt8.ofNat n.toNat))=bytesOf s++[n]:=by
   unfold bytesOf
   simp only[ByteArray.push,Array.toList_push,Aa,jo,List.map_nil]
   congr 2
   simp
   omega
  rw[this]
  simp
theorem amm{h:Heap}{ok:Nat->Prop}{xs:List Int}{bb q:Nat}(hes:∀(i:Nat) (hi:i<xs.length),∃ds,Cells h bb (q+i*1) ds/\Vw h ok (.int .u8) xs[i] ds) :
  Cells h bb q (xs.map (Value.int .u8))/\∀n∈xs,0<=n/\n<256:=by
 refine⟨λi hi=>?_,λn hn=>?_⟩
 ·simp only[oq]at hi
  obtain⟨ds,h1,h2,_⟩:=hes i hi
  have:=h1 0 (by rw[h2];simp)
  rw[h2]at this
  simp only[mD,Nat.mul_one,rA]at this
  rw[this]
  simp[hi]
 ·obtain⟨i,hi,rfl⟩:=wQ.1 hn
  obtain⟨ds,_,_,h3⟩:=hes i hi
  exact h3
theorem anc(hT:eU P T)(H:Rel cx Z J F a w)(hd:o.dst=some d)(hdn:d<cx.nt){s t:TypeId}{x:Operand}(ho:o.op=.convert s t x)
  (h:(dY x λa=>RL T d s t a λws=>(.ret ws:Prog (List Wr))).ends Z ws):dG P cx o a w (aF ws Z):=by
 obtain⟨u,h1,h2,h5⟩:=jh H h
 have hrun:∀{v:Value} {w':World},(convert s t (a.eval x)).run P w=.ok v w'->(execOp a.eval o).run P w=.ok (.value v) w':=by
  intro v w' h
  simp only[execOp,ho,dH,h,eZ,eH]
 have hstr:∀{B:ByteArray},(convert s t (a.eval x)).run P w=.ok (.string B) w->dG P cx o a w (aF [Wr.s d (v1 .str (bytesOf B))] Z):=by
  intro B hr
  exact fq H hd hdn (hrun hr) (show aW cx Z J F w (.val .str (bytesOf B) []) _ from Wz) n_
 unfold RL at h5
 cases hs:T.ty s with
 |none=>rw[hs]at h5;exact h5.elim
 |some ks=>
  have hks:=hT.ty s ks hs
  cases ht:T.ty t with
  |none=>rw[hs,ht]at h5;cases ks<;>exact h5.elim
  |some kt=>
   have hkt:=hT.ty t kt ht
   rw[hs,ht]at h5
   obtain⟨us,hus⟩:=hks.und
   cases kt with
   |int ik=>
    have h6:(match u with
     |.val (.int _) n _=>(.ret [Wr.s d (v1 (.int ik) (ik.wrap n))]:Prog (List Wr))
     |_=>.fail).ends Z ws:=by cases ks<;>exact h5
    split at h6
    ·obtain⟨e1,e2⟩:=zF h1
     rw[bC h6]
     refine fq H hd hdn (hrun ?_) (oP ik (tQ _ _)) n_
     rw[e1]
     unfold convert
     simp only[dH,gG hus,gG hkt.int,Result.andThen]
     rfl
    ·exact h6.elim
   |str=>
    cases ks with
    |str=>
     simp only at h5
     split at h5
     ·obtain⟨B,e1,e2⟩:=zG h1
      subst e2
      rw[bC h5]
      refine hstr ?_
      rw[e1]
      unfold convert
      simp only[dH,gG hks.str,gG hkt.str,Result.andThen]
      rfl
     ·exact h5.elim
    |sl e k1=>
     cases k1 with
     |int DY=>
      cases DY with
      |u8=>
       obtain⟨hu,he,_,_⟩:=hks.sl
       have hgo:∀{b:Option Addr} {n c:Nat} {xs:List Int},a.eval x=.slice b n c->n=xs.length->(0<n->∃bb q,b=some ⟨bb,q,none⟩/\∀(i:Nat) (hi:i<xs.length),∃ds,Cells (hp w) bb (q+i*1) ds/\Vw (hp w) (λ_=>True) (.int .u8) xs[i] ds)->
         ws=[Wr.s d (v1 .str xs)]->dG P cx o a w (aF ws Z):=by
        intro b n c xs e hn hes hws
        have hcv:(convert s t (a.eval x)).run P w=(Conv.bytesToString (.slice b n c)).run P w:=by
         rw[e]
         unfold convert
         simp only[dH,gG hu,gG hkt.str,gG he.int,Result.andThen]
        cases b with
        |none=>
         have hx0:xs=[]:=by
          cases xs with
          |nil=>rfl
          |cons y ys=>
           obtain⟨bb,q,h0,_⟩:=hes (by rw[hn];simp)
           simp at h0
         subst hx0
         rw[hws]
         exact hstr (B:=ByteArray.empty) (hcv.trans rfl)
        |some ad=>
         by_cases h0:0<n
         ·obtain⟨bb,q,e0,hes'⟩:=hes h0
          simp only[ak]at e0
          subst e0
          obtain⟨g1,g2⟩:=amm hes'
          have hl:(loadCells ⟨bb,q,none⟩ n).run P w=.ok (xs.map (Value.int .u8)).toArray w:=by
           have:=run_loadCells_list (P:=P) w ⟨bb,q,none⟩ (xs.map (Value.int .u8)) (λj v hj=>by
            rw[addr_add,vN,g1 j (oh.1 hj).1]
            exact hj)
           simpa[hn]using this
          have hb:=run_bytesToString w ⟨bb,q,none⟩ n c xs hl
          have hbe:=axx xs ByteArray.empty g2
          have:xs=bytesOf (xs.foldl (λr n=>r.push (UInt8.ofNat n.toNat)) ByteArray.empty):=by rw[hbe];rfl
          rw[hws,this]
          exact hstr (hcv.trans hb)
         ·have hx0:xs=[]:=rz (by omega)
          subst hx0
          have hn0:n=0:=by omega
          subst hn0
          have hl:(loadCells ad 0).run P w=.ok (([]:List Int).map (Value.int .u8)).toArray w:=rfl
          have hb:=run_bytesToString w ad 0 c [] hl
          rw[hws]
          exact hstr (B:=ByteArray.empty) (hcv.trans hb)
       cases u with
       |eX=>
        obtain⟨b,e⟩:=h1
        exact hgo (xs:=[]) e rfl (λh=>by omega) (bC h5)
       |_=>
        obtain⟨k',y,Tg,cs,g1,g2,g3,g4⟩:=CZ H h1 h2 h5
        cases k' with
        |sl e' k2=>
         cases k2 with
         |int ME=>
          cases ME with
          |u8=>
           obtain⟨b,n,c,f1,f2,f3,f4,f5⟩:=BV g1 g2
           refine hgo (xs:=y) f1 f3 (λh0=>?_) (bC g4)
           obtain⟨bb,q,e0,_,_,hes⟩:=f5 h0
           exact⟨bb,q,e0,λi hi=>by
            obtain⟨ds,m1,m2⟩:=hes i hi
            exact⟨ds,m1,m2⟩⟩
          |_=>exact g4.elim
         |_=>exact g4.elim
        |_=>exact g4.elim
      |_=>exact h5.elim
     |_=>exact h5.elim
    |_=>exact h5.elim
   |sl e k1=>
    cases ks with
    |str=>
     cases k1 with
     |int DY=>
      cases DY with
      |u8=>
       simp only at h5
       split at h5
       ·obtain⟨B,e1,e2⟩:=zG h1
        subst e2
        obtain⟨g1,g2⟩:=oF h5
        rw[bC g2]
        obtain⟨hu,he,_,_⟩:=hkt.sl
        have hr:=run_bytes_of_string w s t e B hks.str hu he.int
        have hcap:=grownCap_ge w B.size 0 e
        have hsz:(bytesRow B (grownCap w B.size 0 e)).size=grownCap w B.size 0 e:=by
         simp[bytesRow]
         show B.data.size+_=_
         have:B.data.size=B.size:=rfl
         omega
        obtain⟨J',F',r1,r2⟩:=WT (r:=aK d 0) (e:=e) (k:=.int .u8) (xs:=bytesOf B) (own:=[e]) (arr:=bytesRow B (grownCap w B.size 0 e)) (lo:=(bytesRow B (grownCap w B.size 0 e)).size) (hi:=(bytesRow B (grownCap w B.size 0 e)).size+1) (n:=B.size) (c:=grownCap w B.size 0 e) H g1 (oK d 0)
         (by simp[ay]) ⟨by omega,λi hi=>by omega⟩ (rD B).symm hcap (by simp[K.size,hsz])
         (λi hi=>by
          have hi':i<B.size:=by rw[<-rD B];exact hi
          refine⟨[Value.int .u8 (bytesOf B)[i]],rfl,λj hj=>?_,λh ok=>⟨rfl,rfl,?_⟩⟩
          ·simp only[Zo]at hj
           have hj0:j=0:=by omega
           subst hj0
           have hid:i<B.data.size:=hi'
           simp only[K.size,Nat.mul_one,mD,rA]
           unfold bytesRow
           rw[PE (by simpa using hid)]
           simp[bytesOf]
           exact⟨B.data[i],Array.getElem?_eq_getElem hid,rfl⟩
          ·have:=(bytesOf B)[i]
           have hm:(bytesOf B)[i]∈bytesOf B:=om hi
           unfold bytesOf at hm
           obtain⟨y,_,hy⟩:=d_.1 hm
           show(0:Int)<=(bytesOf B)[i]/\(bytesOf B)[i]<256
           have hy':(y.toNat:Int)=(bytesOf B)[i]:=hy
           rw[<-hy']
           have:=y.toNat_lt
           omega) false (w.drawn+1)
        exact nR (x:=.one (.ref (aK d 0) 0)) r1 hd hdn (hrun (by rw[e1];exact hr)) r2 ⟨_,fQ ..,.inr (dW _)⟩
       ·exact h5.elim
      |_=>exact h5.elim
     |_=>exact h5.elim
    |_=>
     cases k1 with
     |int DY=>cases DY<;>exact h5.elim
     |_=>exact h5.elim
   |_=>cases ks<;>exact h5.elim
end
end
section
open Go
variable [Fr]
section
variable {P:Program}{T:bK}{cx:Cx}{Z:St}{J:aJ}{F:List Nat}{a:Act}{w:World}{o:Oper}{d:Nat}{ws:List Wr}
theorem FM{k:K}(h:(∀a b,k≠.pair a b)/\k≠.unit/\∀n,k≠.gap n):(iY k).cells=(dO k).toArray:=by
 have:=(ai5 h.1 h.2.1 h.2.2).cells
 apply rW
 simpa using this
theorem awO{z:Array Value}{n j:Nat}(h:j<n)(hz:0<z.size):(madeCells z n)[j]?=z[j%z.size]?:=by
 unfold madeCells
 have:j%z.size<z.size:=Nat.mod_lt _ hz
 simp[h,this]
theorem anq(hT:eU P T)(H:Rel cx Z J F a w)(hd:o.dst=some d)(hdn:d<cx.nt){t:TypeId}{x y:Operand}
  (h:(match T.ty t with
   |some (.sl e kk)=>dY x λa=>dY y λb=>asInt a λik i=>asInt b λjk j=>bif sV ik .i64&&sV jk .i64 then
     .dX (i=j/\0<=i/\i*T.bytes e<=140737488355328) inferInstance (jS (aK d 0)
      (.ret [Wr.r (aK d 0) (some (bU (.sl e kk) (List.replicate i.toNat kk.zero) (e :: kk.tys) [] .anon)),Wr.s d (.one (.ref (aK d 0) 0))]))
    else(.fail:Prog (List Wr))
   |_=>.fail).ends Z ws) (ho:o.op=.makeSlice t x y):dG P cx o a w (aF ws Z):=by
 cases hty:T.ty t with
 |none=>rw[hty]at h;exact h.elim
 |some k0=>
  rw[hty]at h
  cases k0 with
  |sl e kk=>
   have ht:=hT.ty t _ hty
   simp only at h
   obtain⟨u,h1,_,h2⟩:=jh H h
   obtain⟨v,h3,_,h4⟩:=jh H h2
   obtain⟨ik,i,e1,_,h5⟩:=Gz h1 h4
   obtain⟨jk,j,e2,_,h6⟩:=Gz h3 h5
   rcases bB h6 with⟨_,h7⟩|⟨_,h7⟩
   ·obtain⟨⟨hij,h0,hb⟩,h8⟩:=h7
    obtain⟨g1,g2⟩:=oF h8
    rw[bC g2]
    obtain⟨hu,he,hk,ii,hi,hby,hpos⟩:=ht.sl
    obtain⟨i',hi',hs',hz'⟩:=he.info
    rw[hi]at hi'
    simp only[ak]at hi'
    subst hi'
    obtain⟨n,rfl⟩:∃n:Nat,i=n:=⟨i.toNat,by omega⟩
    subst hij
    have hbn:n*T.bytes e<=140737488355328:=by
     have:((n*T.bytes e:Nat):Int)<=140737488355328:=by simpa using hb
     omega
    have hn:n<=140737488355328:=by
     have:n*1<=n*T.bytes e:=Nat.mul_le_mul_left _ (by omega)
     omega
    have hbi:(ii.bytes:Int)*(n:Int)<=281474976710656:=by
     rw[hby]
     have:((T.bytes e*n:Nat):Int)<=281474976710656:=by rw[Nat.mul_comm];omega
     simpa using this
    have hr:=run_make (P:=P) w t e ii (iY kk) hu hi hz' ik jk (n:Int) (n:Int) (by omega) (KZ _) hbi (by omega)
    simp only[iw,hs']at hr
    have hsh:=he.shape
    have hzc:=FM hsh
    have Ib:∀h ok,Ow h (e :: kk.tys) ok kk kk.zero (dO kk) []:=λh ok=>Kn he.fD (λt ht=>fF.2 (by simp[ht]))
    have hzl:(dO kk).length=kk.size:=eY (Ib (hp w) (λ_=>True))
    have hms:(madeCells (iY kk).cells (n*kk.size)).size=n*kk.size:=by simp[madeCells]
    obtain⟨J',F',r1,r2⟩:=WT (r:=aK d 0) (e:=e) (k:=kk) (xs:=List.replicate n kk.zero) (own:=e :: kk.tys) (arr:=madeCells (iY kk).cells (n*kk.size)) (lo:=0) (hi:=0) (n:=n) (c:=n) H g1 (oK d 0)
     (fF.2 (by simp)) iU.zero (by simp) (bZ _) (by rw[hms];exact bZ _)
     (λi hi=>by
      have hi':i<n:=by simpa using hi
      refine⟨dO kk,hzl,λj hj=>?_,λh ok=>?_⟩
      ·have hlt:i*kk.size+j<n*kk.size:=by
        have:(i+1)*kk.size<=n*kk.size:=jP _ (by omega)
        rw[iB,lT]at this
        omega
       rw[awO hlt (by rw[hzc];simp;omega),hzc]
       simp only[CO,hzl,List.getElem?_toArray]
       congr 1
       rw[Nat.mul_comm,Nat.mul_add_mod]
       exact Nat.mod_eq_of_lt (by omega)
      ·have:(List.replicate n kk.zero)[i]'hi=kk.zero:=by simp
       rw[this]
       exact Ib h ok) false w.drawn
    refine nR (x:=.one (.ref (aK d 0) 0)) r1 hd hdn ?_ r2 ⟨_,fQ ..,.inr (dW _)⟩
    simp only[execOp,ho,e1,e2,dH,hr,eZ,eH]
    rfl
   ·exact h7.elim
  |_=>exact h.elim
end
end
section
open Go
variable [Fr]
section
variable {P:Program}{T:bK}{cx:Cx}{Z:St}{J:aJ}{F:List Nat}{a:Act}{w:World}{o:Oper}{d:Nat}{ws:List Wr}
def mm2(mx:Bool):Value->Value->Sem Value:=if mx then Builtin.max2 else Builtin.min2
theorem awT{A:Type}{z:A}{mx:Bool}{ik:IntKind}{k:Int->Prog A}:∀{l:List AV} {vs:List Value} {x:Int},h_ cx Z J F w l vs->lq ik x->(EY mx ik x l k).ends Z z->
  ∃y,(vs.foldlM (mm2 mx) (.int ik x)).run P w=.ok (.int ik y) w/\lq ik y/\(k y).ends Z z:=by
 intro l
 induction l with
 |nil=>
  intro vs x h1 hr h
  cases vs with
  |nil=>exact⟨x,rfl,hr,h⟩
  |cons v vs=>exact h1.elim
 |cons u l ih=>
  intro vs x h1 hr h
  cases vs with
  |nil=>exact h1.elim
  |cons v vs=>
   cases u with
   |val k1 y Tg=>
    cases k1 with
    |int jk=>
     simp only[EY]at h
     rcases bB h with⟨hk,h5⟩|⟨_,h5⟩
     ·have:=Ie hk
      subst this
      obtain⟨e1,e2⟩:=zF h1.1
      subst e1
      have hr':lq ik (if mx=true then(if(show Int from y)>x then y else x)else(if(show Int from y)<x then y else x)):=by
       split<;>split<;>assumption
      obtain⟨y',g1,g2,g3⟩:=ih h1.2 hr' h5
      refine⟨y',?_,g2,g3⟩
      rw[List.foldlM_cons,dH]
      have hstep:(mm2 mx (.int ik x) (.int ik y)).run P w=.ok (.int ik (if mx=true then(if(show Int from y)>x then y else x)else(if(show Int from y)<x then y else x))) w:=by
       cases mx<;>rfl
      rw[hstep]
      exact g1
     ·exact h5.elim
    |_=>exact h.elim
   |_=>exact h.elim
theorem aaC(H:Rel cx Z J F a w)(hd:o.dst=some d)(hdn:d<cx.nt){c:Call}{mx:Bool}(ho:o.op=.call c)(hb:c.callee=.builtin (if mx then .max else .min))
  (h:(nS c.args.toList fun
   |.val (.int ik) x _ :: l=>EY mx ik x l λz=>.ret [Wr.s d (.one (.val (.int ik) z []))]
   |_=>(.fail:Prog (List Wr))).ends Z ws):dG P cx o a w (aF ws Z):=by
 obtain⟨vs,h1,h2,h5⟩:=vR H h
 split at h5
 ·rename_i ik x Tg l
  cases hl:c.args.toList with
  |nil=>rw[hl]at h1;exact h1.elim
  |cons y l'=>
   rw[hl]at h1
   obtain⟨e1,e2⟩:=zF h1.1
   obtain⟨z,g1,g2,g3⟩:=awT (P:=P) (w:=w) h1.2 e2 h5
   rw[bC g3]
   refine fq (v:=.int ik z) H hd hdn ?_ (Wy g2) (λt ht=>by simp at ht)
   obtain⟨cc,hcc⟩:=Fq (P:=P) (a:=a) (w:=w) ho hb
   rw[hcc]
   have hargs:(c.args.map a.eval).toList=.int ik x :: l'.map a.eval:=by rw[u7,hl,jo,e1]
   cases mx with
   |true=>
    have g1':(List.foldlM Builtin.max2 (Value.int ik x) (l'.map a.eval)).run P w=.ok (.int ik z) w:=g1
    simp only[bL,builtin,Builtin.max_,hargs,dH,g1',eZ,eH]
   |false=>
    have g1':(List.foldlM Builtin.min2 (Value.int ik x) (l'.map a.eval)).run P w=.ok (.int ik z) w:=g1
    simp only[bP,bI,builtin,Builtin.min_,hargs,dH,g1',eZ,eH]
 ·exact h5.elim
end
end
section
open Go
variable [Fr]
theorem fold_at:∀(vs:List Value) (k off:Nat) (cells:Array Value),off+k+vs.length<=cells.size->
  ((vs.zipIdx k).foldl (λcs (p:Value×Nat)=>cs.setIfInBounds (off+p.2) p.1) cells).size=cells.size/\
  ∀i,((vs.zipIdx k).foldl (λcs (p:Value×Nat)=>cs.setIfInBounds (off+p.2) p.1) cells)[i]?=if off+k<=i/\i<off+k+vs.length then vs[i-(off+k)]? else cells[i]?:=by
 intro vs
 induction vs with
 |nil=>intro k off cells h;exact⟨rfl,λi=>by simp;omega⟩
 |cons v vs ih=>
  intro k off cells h
  simp only[iy]at h
  simp only[List.zipIdx_cons,List.foldl_cons]
  obtain⟨g1,g2⟩:=ih (k+1) off (cells.setIfInBounds (off+k) v) (by simp;omega)
  refine⟨by rw[g1];simp,λi=>?_⟩
  rw[g2 i]
  simp only[iy]
  by_cases h1:off+(k+1)<=i/\i<off+(k+1)+vs.length
  ·rw[aj h1,aj (by omega)]
   have:i-(off+k)=(i-(off+(k+1)))+1:=by omega
   rw[this,Zl]
  ·rw[ah h1]
   by_cases h2:i=off+k
   ·subst h2
    rw[aj (by omega),XL (by omega),Ad]
    rfl
   ·rw[ah (by omega),XK (by omega)]
theorem aor(vs:List Value)(off:Nat)(cells:Array Value)(h:off+vs.length<=cells.size) :
  (vs.zipIdx.foldl (λcs (p:Value×Nat)=>cs.setIfInBounds (off+p.2) p.1) cells)=(cells.toList.take off++(vs++cells.toList.drop (off+vs.length))).toArray:=by
 obtain⟨g1,g2⟩:=fold_at vs 0 off cells (by omega)
 apply Array.ext_getElem?
 intro i
 rw[g2 i]
 simp only[mD,List.getElem?_toArray]
 by_cases h1:i<off
 ·rw[ah (by omega),vE (by simp;omega),Gl h1]
  simp
 ·by_cases h2:i<off+vs.length
  ·rw[aj (by omega),yc (by simp;omega),vE (by simp;omega)]
   congr 1
   simp
   omega
  ·rw[ah (by omega),yc (by simp;omega),yc (by simp;omega),CG]
   rw[rX]
   congr 1
   simp
   omega
theorem Sd{place:Nat->Option (Nat×Nat)}{cells:Array Value}{i off:Nat}{v:Value}{vs:List Value}{rest:List (Nat×Value)}(hp:place i=some (off,vs.length))(hv:v.cells=vs.toArray)(hl:off+vs.length<=cells.size) :
  Instr.fill place cells ((i,v) :: rest)=Instr.fill place (cells.toList.take off++(vs++cells.toList.drop (off+vs.length))).toArray rest:=by
 rw[<-aor vs off cells hl]
 conv=>lhs;unfold Instr.fill
 rw[hp]
 simp only[hv,CO,ne_eq,not_true_eq_false,dm,Kt,bF]
 rw[ah (by omega)]
 simp
def vL:List (Nat×dS)->wH->Option wH
 | [],b=>some b
 |(n,tk) :: l,b=>match b.k,b.x with
  |.st c,x=>match aP n c x with
   |some d=>bif tk.k.beq d.1 then
     match dB n c x ⟨tk.k,tk.x⟩with
     |some z=>vL l { k:=.st z.1,x:=z.2,bad:=tk.bad++b.bad,tags:=kF tk.ig b.tags,ws:=b.ws++tk.ws,keep:=tk.keep||b.keep,all:=tk.tags++b.all }
     |none=>none
    else none
   |none=>none
  |_,_=>none
section
variable {P:Program}{T:bK}{cx:Cx}{Z:St}{J:aJ}{F:List Nat}{a:Act}{w:World}
theorem aaa{A:Type}{z:A}(H:Rel cx Z J F a w){k:wH->Prog A}:∀{l:List (Nat×AV)} {vs:List Value} {b:wH},h_ cx Z J F w (l.map (·.2)) vs->(∀v∈l,dK Z v.2)->(Ao l b k).ends Z z->
  ∃(tks:List dS) (b':wH),tks.length=l.length/\vs.length=l.length/\(∀it∈vs.zip tks,qa cx Z J F w it.1 it.2)/\vL ((l.map (·.1)).zip tks) b=some b'/\(k b').ends Z z:=by
 intro l
 induction l with
 |nil=>
  intro vs b h1 _ h
  cases vs with
  |nil=>exact⟨[],b,rfl,rfl,by simp,rfl,h⟩
  |cons v vs=>exact h1.elim
 |cons p l ih=>
  obtain⟨n,x⟩:=p
  intro vs b h1 h2 h
  cases vs with
  |nil=>exact h1.elim
  |cons v vs=>
   obtain⟨bk,bx,al8,amh,bws,amc,al7⟩:=b
   cases bk with
   |st c=>
    simp only[Ao]at h
    cases hg:aP n c bx with
    |none=>rw[hg]at h;exact h.elim
    |some d=>
     rw[hg]at h
     simp only at h
     obtain⟨tk,htk,h5⟩:=xP H h1.1 (h2 (n,x) (by simp)) h
     rcases bB h5 with⟨hk,h6⟩|⟨_,h6⟩
     ·cases hp:dB n c bx ⟨tk.k,tk.x⟩with
      |none=>rw[hp]at h6;exact h6.elim
      |some zz=>
       rw[hp]at h6
       obtain⟨tks,b',g1,g2,g3,g4,g5⟩:=ih h1.2 (λv hv=>h2 v (by simp[hv])) h6
       refine⟨tk :: tks,b',by simp[g1],by simp[g2],?_,?_,g5⟩
       ·intro it hit
        rw[Ac]at hit
        rcases bM.1 hit with h|h
        ·subst h;exact htk
        ·exact g3 it h
       ·rw[jo,Ac]
        unfold vL
        simp only[hg,hk,fT,hp]
        exact g4
     ·exact h6.elim
   |_=>exact h.elim
end
end
section
open Go
variable [Fr]
def yh(h:Heap)(own:List TypeId)(ok:Nat->Prop):List (Nat×dS)->List Value->List (List Nat)->Prop
 | [],[],[]=>True
 |p :: l,v :: vs,ft :: gU=>(∃cs,VC p.2.k v cs/\Ow h own ok p.2.k p.2.x cs ft)/\yh h own ok l vs gU
 |_,_,_=>False
theorem Z9{h:Heap}{own:List TypeId}{ok:Nat->Prop}{place:Nat->Option (Nat×Nat)}{c:K}(hpl:∀n off k,bQ n c=some (off,k)->place n=some (off,k.size)) :
  ∀(l:List (Nat×dS)) {vs:List Value} {gU:List (List Nat)} {x:El c} {cs:List Value} {fo:List Nat} {bad:List TypeId} {tags:List Tag} {ws:List Wr} {kp:Bool} {all:List Tag} {b':wH},
   Ow h own ok c x cs fo->yh h own ok l vs gU->vL l ⟨.st c,x,bad,tags,ws,kp,all⟩=some b'->
   ∃(x':El c) (cs':List Value) (bH rest:List Nat) (bad':List TypeId) (tags':List Tag) (ws':List Wr) (kp':Bool) (all':List Tag),b'=⟨.st c,x',bad',tags',ws',kp',all'⟩/\Ow h own ok c x' cs' bH/\(fo++gU.flatten).Perm (bH++rest)/\
    Instr.fill place cs.toArray ((l.map (·.1)).zip vs)=some cs'.toArray:=by
 intro l
 induction l with
 |nil=>
  intro vs gU x cs fo bad tags ws kp all b' H hP hb
  cases vs with
  |nil=>
   cases gU with
   |nil=>
    simp only[vL,ak]at hb
    exact⟨x,cs,fo,[],bad,tags,ws,kp,all,hb.symm,H,by simp,rfl⟩
   |cons f fs=>exact hP.elim
  |cons v vs=>cases gU<;>exact hP.elim
 |cons p l ih=>
  obtain⟨n,tk⟩:=p
  intro vs gU x cs fo bad tags ws kp all b' H hP hb
  cases vs with
  |nil=>cases gU<;>exact hP.elim
  |cons v vs=>
   cases gU with
   |nil=>exact hP.elim
   |cons ft gU=>
    obtain⟨⟨cst,hv,hO⟩,hP'⟩:=hP
    unfold vL at hb
    simp only at hb
    cases hg:aP n c x with
    |none=>rw[hg]at hb;simp at hb
    |some d=>
     rw[hg]at hb
     simp only at hb
     cases hk:tk.k.beq d.1 with
     |false=>rw[hk]at hb;simp at hb
     |true=>
      rw[hk]at hb
      simp only[fT]at hb
      cases hp:dB n c x ⟨tk.k,tk.x⟩with
      |none=>rw[hp]at hb;simp at hb
      |some z=>
       rw[hp]at hb
       simp only at hb
       have ek:=K.eq_of_beq hk
       have ez:=aak n hg hp ek
       obtain⟨off,pre,cs1,post,aT,fr,ho,ec,hl,hpf,hd,hu,_⟩:=LH n H hg
       have r:=hu h ok ⟨tk.k,tk.x⟩ cst ft z hp hO (λb hb=>⟨hb,rfl⟩) (λ_ _=>rfl)
       obtain⟨zk,zx⟩:=z
       simp only at ez
       subst ez
       obtain⟨x',cs',bH,rest,bad',tags',ws',kp',all',g1,g2,g3,g4⟩:=ih r hP' hb
       refine⟨x',cs',bH,aT++rest,bad',tags',ws',kp',all',g1,g2,?_,?_⟩
       ·simp only[pX]
        have s1:(fo++(ft++gU.flatten)).Perm ((aT++fr)++(ft++gU.flatten)):=wN _ hpf
        have s2:((aT++fr)++(ft++gU.flatten)).Perm (aT++((ft++fr)++gU.flatten)):=by
         rw[eG]
         refine z_ _ ?_
         rw[<-eG]
         exact wN _ QF
        exact s1.trans (s2.trans ((z_ _ g3).trans Fa))
       ·rw[jo,Ac]
        have hcl:cst.length=d.1.size:=by rw[eY hO,ek]
        have jF:v.cells=cst.toArray:=by
         have:=hv.cells
         apply rW
         simpa using this
        rw[Sd (off:=off) (vs:=cst) (by rw[hcl];exact hpl n off d.1 ho) jF (by rw[ec];simp;have:=eY hd;omega)]
        have e2:(cs.toArray.toList.take off++(cst++cs.toArray.toList.drop (off+cst.length)))=pre++(cst++post):=by
         have hd1:=eY hd
         simp only
         rw[ec,<-hl]
         simp[hcl,<-hd1]
        rw[e2]
        exact g4
end
section
open Go
variable [Fr]
theorem Z_:∀(l:List (Nat×dS)) {b b':wH},vL l b=some b'->
  b'.ws=b.ws++l.flatMap (λp=>p.2.ws)/\(∀p∈l,∀t∈p.2.tags,t∈b'.all)/\(∀t∈b.all,t∈b'.all)/\(∀p∈l,∀t∈p.2.bad,t∈b'.bad)/\(∀t∈b.bad,t∈b'.bad)/\
  (∀p∈l,∀t∈p.2.ig,t∈b'.tags)/\(∀t∈b.tags,t∈b'.tags)/\(∀t∈b'.tags,t∈b.tags\/∃p∈l,t∈p.2.ig):=by
 intro l
 induction l with
 |nil=>
  intro b b' h
  simp only[vL,ak]at h
  subst h
  simp
 |cons p l ih=>
  obtain⟨n,tk⟩:=p
  intro b b' h
  obtain⟨bk,bx,al8,amh,bws,amc,al7⟩:=b
  cases bk with
  |st c=>
   unfold vL at h
   simp only at h
   cases hg:aP n c bx with
   |none=>rw[hg]at h;simp at h
   |some d=>
    rw[hg]at h
    simp only at h
    cases hk:tk.k.beq d.1 with
    |false=>rw[hk]at h;simp at h
    |true=>
     rw[hk]at h
     simp only[fT]at h
     cases hp:dB n c bx ⟨tk.k,tk.x⟩with
     |none=>rw[hp]at h;simp at h
     |some z=>
      rw[hp]at h
      simp only at h
      obtain⟨g1,g2,g3,g4,g5,g6,g7,g8⟩:=ih h
      refine⟨by rw[g1];simp,?_,λt ht=>g3 t (by simp[ht]),?_,λt ht=>g5 t (by simp[ht]),?_,λt ht=>g7 t (kY.2 (.inr ht)),?_⟩
      ·intro p hp t ht
       rcases bM.1 hp with h|h
       ·subst h;exact g3 t (by simp[ht])
       ·exact g2 p h t ht
      ·intro p hp t ht
       rcases bM.1 hp with h|h
       ·subst h;exact g5 t (by simp[ht])
       ·exact g4 p h t ht
      ·intro p hp t ht
       rcases bM.1 hp with h|h
       ·subst h;exact g7 t (kY.2 (.inl ht))
       ·exact g6 p h t ht
      ·intro t ht
       rcases g8 t ht with h|⟨p,h1,h2⟩
       ·rcases kY.1 h with h|h
        ·exact .inr ⟨(n,tk),by simp,h⟩
        ·exact .inl h
       ·exact .inr ⟨p,by simp[h1],h2⟩
  |_=>simp[vL]at h
theorem yh.mono{h:Heap}{own:List TypeId}{ok ok':Nat->Prop}(hk:∀b,ok b->ok' b):∀{l:List (Nat×dS)} {vs:List Value} {gU:List (List Nat)},yh h own ok l vs gU->yh h own ok' l vs gU
 | [],[],[],_=>trivial
 |_ :: _,_ :: _,_ :: _,hP=>⟨by obtain⟨cs,h1,h2⟩:=hP.1;exact⟨cs,h1,dR (λ_ _=>rfl) hk (λ_ _=>rfl) h2⟩,yh.mono hk hP.2⟩
 | [],[],_ :: _,hP=>hP.elim
 | [],_ :: _,_,hP=>hP.elim
 |_ :: _,[],_,hP=>hP.elim
 |_ :: _,_ :: _,[],hP=>hP.elim
section
variable {cx:Cx}{Z:St}{J:aJ}{F:List Nat}{w:World}
theorem WG{own':List TypeId}{T:List Tag}:∀(items:List (Nat×Value×dS)) {hs:List (List Value×List Nat)},uj cx Z J F w (items.map (·.2)) hs->(∀it∈items,∀t∈it.2.2.bad,ay t own'=false)->(∀it∈items,∀t∈it.2.2.ig,t∈T)->
  ∃(gU:List (List Nat)) (oC:List Nat),(hs.flatMap (·.2)).Perm (gU.flatten++oC)/\yh (hp w) own' (λb=>aN cx Z J F w T b\/b∈oC) (items.map λp=>(p.1,p.2.2)) (items.map (·.2.1)) gU:=by
 intro items
 induction items with
 |nil=>
  intro hs h _ _
  cases hs with
  |nil=>exact⟨[],[],by simp,trivial⟩
  |cons _ _=>exact h.elim
 |cons it items ih=>
  obtain⟨n,v,tk⟩:=it
  intro hs h hbad htag
  cases hs with
  |nil=>exact h.elim
  |cons hd hs=>
   obtain⟨cs,fo⟩:=hd
   obtain⟨⟨h1,h2,h3⟩,h4⟩:=h
   obtain⟨gU,oC,g1,g2⟩:=ih h4 (λit hit=>hbad it (by simp[hit])) (λit hit=>htag it (by simp[hit]))
   have hO:=h2.ow h3
   have hO2:Ow (hp w) tk.own (λb=>aN cx Z J F w T b) tk.k tk.x cs fo:=by
    cases hb:tk.bad with
    |nil=>exact lU hb hO
    |cons t0 l=>
     have e:tk.ig=tk.tags:=by unfold dS.ig;rw[hb]
     exact dR (λ_ _=>rfl) (λb hb=>BN hb (λt ht=>htag (n,v,tk) (by simp) t (by show t∈tk.ig;rw[e];exact ht))) (λ_ _=>rfl) hO
   obtain⟨ft,je,p1,p2⟩:=wS (own':=own') (λt ht hm=>by
    rcases Kl (own:=tk.own) ht with h|h
    ·have:=hbad (n,v,tk) (by simp) t h
     rw[hm]at this
     simp at this
    ·exact h) hO2
   refine⟨ft :: gU,je++oC,?_,⟨cs,h1,dR (λ_ _=>rfl) (λb hb=>?_) (λ_ _=>rfl) p2⟩,g2.mono (λb hb=>?_)⟩
   ·simp only[kP,pX]
    refine(p1.append g1).trans ?_
    simp only[eG]
    refine z_ _ ?_
    exact Fa
   ·rcases hb with hb|hb
    ·exact .inl hb
    ·exact .inr (by simp[hb])
   ·rcases hb with hb|hb
    ·exact .inl hb
    ·exact .inr (by simp[hb])
end
end
section
open Go
variable [Fr]
theorem axu{P:Program}{T:bK}:∀{c:K} {fs:List Field} {uP:Nat},(jc P T c).2 fs uP->
  ∃places,fs.mapM (λf=>(P.info? f.type).map λi=>(f.offset,i.size))=some places/\∀n off k,bQ n c=some (off,k)->places[n]?=some (uP+off,k.size):=by
 intro c
 induction c with
 |unit=>
  intro fs uP h
  have h':fs=[]:=h
  subst h'
  exact⟨[],rfl,λn off k ho=>by cases n<;>simp[bQ]at ho⟩
 |pair a b iha ihb=>
  intro fs uP h
  cases fs with
  |nil=>exact h.elim
  |cons f fs=>
   obtain⟨h1,h2,h3,h4⟩:=h
   obtain⟨pl,g1,g2⟩:=ihb h4
   obtain⟨i,i1,i2,_⟩:=dz.info (show dz P T f.type a from h2)
   refine⟨(uP,a.size) :: pl,?_,?_⟩
   ·rw[Gm,i1,g1]
    simp[h1,i2]
   ·intro n off k ho
    cases n with
    |zero=>
     simp only[bQ,ak,bS]at ho
     obtain⟨rfl,rfl⟩:=ho
     rfl
    |succ n=>
     simp only[bQ]at ho
     cases h5:bQ n b with
     |none=>rw[h5]at ho;simp at ho
     |some q=>
      rw[h5]at ho
      simp only[ak,bS]at ho
      rw[Zl,g2 n q.1 q.2 (by rw[h5]),<-ho.1,<-ho.2]
      congr 2
      omega
 |_=>intro fs uP h;exact h.elim
theorem Rq{P:Program}{T:bK}{t:TypeId}{c:K}(ht:dz P T t (.st c)):∃place:Nat->Option (Nat×Nat),(∀n off k,bQ n c=some (off,k)->place n=some (off,k.size))/\
  ∀parts,P.built t parts=Instr.fill place (dO c).toArray parts:=by
 obtain⟨fs,hu,hf⟩:=ht.st
 obtain⟨i,i1,i2,i3⟩:=ht.info
 obtain⟨pl,g1,g2⟩:=axu hf
 refine⟨(pl.toArray[·]?),λn off k ho=>?_,λparts=>?_⟩
 ·have:=g2 n off k ho
  simpa using this
 ·unfold Program.built
  rw[i1,hu]
  simp only[i3,g1]
  rfl
theorem Ce{h:Heap}{own:List TypeId}{ok:Nat->Prop}:∀{k:K},fD k=true->Ow h own ok k k.zero (dO k) []:=by
 intro k
 induction k with
 |int ik=>intro _;exact⟨rfl,rfl,by cases ik<;>simp[lq,K.zero]⟩
 |bool=>intro _;exact⟨rfl,rfl⟩
 |id e=>intro _;exact⟨rfl,by show _=[Fr.DX 0];rw[Fr.acm];rfl⟩
 |str=>intro _;exact⟨rfl,ByteArray.empty,rfl,rfl⟩
 |sl e k ih=>intro _;exact JX
 |unit=>intro _;exact⟨rfl,rfl⟩
 |pair a b iha ihb=>
  intro hg
  simp[fD]at hg
  exact⟨dO a,dO b,[],[],rfl,.refl _,iha hg.1,ihb hg.2⟩
 |st f ih=>intro hg;exact ih hg
 |gap n=>intro hg;simp[fD]at hg
theorem Xr{cx:Cx}{Z:St}{J:aJ}{F:List Nat}{w:World}{r:Nat}(hn:Z.roots r=none):∀{l:List (Value×dS)},(∀it∈l,qa cx Z J F w it.1 it.2)->r∉(dA l).flatMap Wr.dZ:=by
 intro l h hm
 simp only[dA,mW]at hm
 obtain⟨wr,⟨it,hit,hw⟩,hr⟩:=hm
 cases h it hit with
 |held hws cs hv hh hc=>rw[hws]at hw;simp at hw
 |ref q R hlr hv e hk hd=>
  rw[e]at hw
  simp only[gY]at hw
  subst hw
  simp only[Wr.dZ,gY]at hr
  rw[hr,hlr.1]at hn
  simp at hn
 |cut q R cs hlr hv hk e hd hl sU how=>
  rw[e.2.2.1]at hw
  simp only[gY]at hw
  subst hw
  simp only[Wr.dZ,gY]at hr
  rw[hr,hlr.1]at hn
  simp at hn
 |gap q R p dd z hlr hv hg hz cK hown hpv e hnn=>
  rw[e]at hw
  simp only[gY]at hw
  subst hw
  simp only[Wr.dZ,gY]at hr
  rw[hr,hlr.1]at hn
  simp at hn
theorem XG:∀(ns:List Nat) (vs:List Value) (ts:List dS),ns.length=ts.length->vs.length=ts.length->
  ((ns.zip (vs.zip ts)).map (·.2)=vs.zip ts)/\((ns.zip (vs.zip ts)).map (λp=>(p.1,p.2.2))=ns.zip ts)/\((ns.zip (vs.zip ts)).map (·.2.1)=vs)/\(dA (vs.zip ts)=(ns.zip ts).flatMap (λp=>p.2.ws)):=by
 intro ns
 induction ns with
 |nil=>
  intro vs ts h1 h2
  cases ts with
  |nil=>cases vs with
   |nil=>exact⟨rfl,rfl,rfl,rfl⟩
   |cons _ _=>simp at h2
  |cons _ _=>simp at h1
 |cons n ns ih=>
  intro vs ts h1 h2
  cases ts with
  |nil=>simp at h1
  |cons t ts=>
   cases vs with
   |nil=>simp at h2
   |cons v vs=>
    obtain⟨g1,g2,g3,g4⟩:=ih vs ts (by simpa using h1) (by simpa using h2)
    refine⟨by simp[g1],by simp[g2],by simp[g3],?_⟩
    unfold dA at g4 ⊢
    simp[g4]
end
section
open Go
variable [Fr]
section
variable {P:Program}{T:bK}{cx:Cx}{Z:St}{J:aJ}{F:List Nat}{a:Act}{w:World}{o:Oper}{d:Nat}{ws:List Wr}
theorem Mg:∀{l:List (Value×dS)} {hs:List (List Value×List Nat)},uj cx Z J F w l hs->∀b∈hs.flatMap (·.2),b∈F
 | [],[],_,b,hb=>by simp at hb
 |_ :: _,hd :: hs,h,b,hb=>by
  simp only[kP,dh]at hb
  rcases hb with hb|hb
  ·exact h.1.2.1.sub b hb
  ·exact Mg h.2 b hb
 | [],_ :: _,h,_,_=>h.elim
 |_ :: _,[],h,_,_=>h.elim
theorem Mh:∀{l:List (Value×dS)} {hs:List (List Value×List Nat)},uj cx Z J F w l hs->∀it∈l,fI Z it.2.tags
 | [],[],_,it,hi=>by simp at hi
 |_ :: _,hd :: hs,h,it,hi=>by
  rcases bM.1 hi with hi|hi
  ·subst hi;exact h.1.2.1.wt
  ·exact Mh h.2 it hi
 | [],_ :: _,h,_,_=>h.elim
 |_ :: _,[],h,_,_=>h.elim
theorem aaB(hT:eU P T)(H:Rel cx Z J F a w)(hd:o.dst=some d)(hdn:d<cx.nt){t:TypeId}{ps:Array (Nat×Operand)}
  (h:(match T.ty t with
   |some (.st c)=>vS ps.toList λl=>Ao l ⟨.st c,(K.st c).zero,[],[],[],false,[]⟩ λb=>bif !qZ b.ws b.all then .fail else bif b.k.tys.all λt=>ay t b.bad then
     .ret (b.ws++[Wr.s d (.one (.val b.k b.x b.tags))])
    else jS (aK d 0) (.ret (b.ws++[Wr.r (aK d 0) (some (bU b.k b.x (eF b.k.tys b.bad) b.tags .anon b.keep)),Wr.s d (.one (.ref (aK d 0) 0))]))
   |_=>(.fail:Prog (List Wr))).ends Z ws) (ho:o.op=.build t ps):dG P cx o a w (aF ws Z):=by
 cases hty:T.ty t with
 |none=>rw[hty]at h;exact h.elim
 |some k0=>
  rw[hty]at h
  cases k0 with
  |st c=>
   have ht:=hT.ty t _ hty
   simp only at h
   obtain⟨vs,e1,h1,h2,h3⟩:=Sb H h
   obtain⟨tks,b',l1,l2,qP,yQ,h4⟩:=aaa H h1 h2 h3
   have hlen:vs.length=tks.length:=l1.symm
   have Hz:(vs.map (·.1)).length=tks.length:=by rw[oq];exact hlen
   have Be:((evs a ps.toList).map (·.2)).length=tks.length:=by rw[l2];exact hlen
   generalize hns:vs.map (·.1)=ns at *
   generalize hvv:(evs a ps.toList).map (·.2)=vals at *
   obtain⟨z1,z2,z3,z4⟩:=XG ns vals tks Hz Be
   obtain⟨f1,f2,f3,f4,f5,f6,f7,f8⟩:=Z_ _ yQ
   simp only[iA]at f1
   rcases bB h4 with⟨_,h5⟩|⟨hws,h5⟩
   ·exact h5.elim
   ·have qh:qZ b'.ws b'.all=true:=by simpa using hws
    unfold qZ at qh
    simp only[bf]at qh
    have hw1:=Gy.1 qh.1
    have hw2:=LC.1 qh.2
    rw[f1,<-z4]at hw1 hw2
    obtain⟨J',F',hs,H',hA,hnd,hnF,Sq,hS,_⟩:=takes (vals.zip tks) H qP hw1 (λtg eD=>hw2 tg (by
     obtain⟨it,hit,h6⟩:=mW.1 eD
     have:it∈(ns.zip (vals.zip tks)).map (·.2):=by rw[z1];exact hit
     obtain⟨q,hq,rfl⟩:=d_.1 this
     exact f2 (q.1,q.2.2) (by rw[<-z2];exact d_.2 ⟨q,hq,rfl⟩) tg h6))
    have sO:=hA
    rw[<-z1]at hA
    obtain⟨gU,oC,p1,p2⟩:=WG (own':=eF (K.st c).tys b'.bad) (T:=b'.tags) (ns.zip (vals.zip tks)) hA
     (λit hit tg eD=>by
      cases hm:ay tg (eF (K.st c).tys b'.bad)with
      |false=>rfl
      |true=>exact absurd (f4 (it.1,it.2.2) (by rw[<-z2];exact d_.2 ⟨it,hit,rfl⟩) tg eD) (oM.1 hm).2)
     (λit hit tg eD=>f6 (it.1,it.2.2) (by rw[<-z2];exact d_.2 ⟨it,hit,rfl⟩) tg eD)
    rw[z2,z3,z1]at p2
    obtain⟨place,q1,q2⟩:=Rq ht
    obtain⟨x',cs',bH,rest,bad',tags',mU,kp',all',r1,r2,r3,r4⟩:=Z9 q1 (ns.zip tks) (x:=(K.st c).zero) (cs:=dO c) (fo:=[]) (Ce (k:=c) ht.fD) p2 yQ
    subst r1
    simp only at qh f1 f2 f3 f4 f5 f6 f7 f8 h5 p2 r2 r3
    have hzn:(ns.zip tks).map (·.1)=ns:=by rw[List.map_fst_zip (by omega)]
    have hparts:((ps.map λ(p:Nat×Operand)=>(p.1,a.eval p.2)).toList)=ns.zip vals:=by
     rw[u7,<-hvv,e1]
     have:∀l:List (Nat×Operand),l.map (λp=>(p.1,a.eval p.2))=(l.map (·.1)).zip ((evs a l).map (·.2)):=by
      intro l
      induction l with
      |nil=>rfl
      |cons p l ih=>simp[evs]at ih ⊢;exact ih
     exact this _
    have hrun:(execOp a.eval o).run P w=.ok (.value (.agg cs'.toArray)) w:=by
     have hb:=run_build (P:=P) w t (ps.map λ(p:Nat×Operand)=>(p.1,a.eval p.2)) cs'.toArray (by rw[hparts,q2,<-r4,hzn])
     simp only[execOp,ho,dH,hb,eZ,eH]
    have hperm:(hs.flatMap (·.2)).Perm (bH++(rest++oC)):=by
     refine p1.trans ?_
     rw[<-eG]
     exact wN _ (by simpa using r3)
    have lK:=hperm.nodup hnd
    have hin:∀b∈hs.flatMap (·.2),b∈F':=Mg sO
    have sP:∀b∈bH,b∈F':=λb hb=>hin b (hperm.mem_iff.2 (by simp[hb]))
    have Du:∀b∈oC,b∈F'/\b∉bH:=λb hb=>⟨hin b (hperm.mem_iff.2 (by simp[hb])),λh=>(dJ.1 lK).2.2 b h b (by simp[hb]) rfl⟩
    have hV:VC (.st c) (.agg cs'.toArray) cs':=rfl
    have hwt:fI (aF (dA (vals.zip tks)) Z) tags':=by
     intro tg eD
     rcases f8 tg eD with h|⟨q,hq,hq2⟩
     ·simp at h
     ·rw[<-z2]at hq
      obtain⟨it,hit,rfl⟩:=d_.1 hq
      have hit2:it.2∈vals.zip tks:=by rw[<-z1];exact d_.2 ⟨it,hit,rfl⟩
      exact FB (Mh sO it.2 hit2) tg hq2
    have DW:mU=dA (vals.zip tks):=by rw[f1,z4]
    rcases bB h5 with⟨hall,h6⟩|⟨_,h6⟩
    ·rw[bC h6]
     have hnone:∀tg∈c.tys,ay tg (eF (K.st c).tys bad')=false:=by
      intro tg eD
      cases hm:ay tg (eF (K.st c).tys bad')with
      |false=>rfl
      |true=>
       have:=dV.1 hall tg eD
       exact absurd (fF.1 this) (oM.1 hm).2
     have uE:bH=[]:=by
      cases hf:bH with
      |nil=>rfl
      |cons b l=>
       obtain⟨e,g1,g2,_⟩:=Ae (k:=c) r2 b (by rw[hf];simp)
       rw[hnone e g1]at g2
       simp at g2
     have T2:=EX (w':=w) (F':=F'.filter λb=>!ay b oC) H' ⟨rfl,rfl,rfl⟩ (bZ _) (λ_ _ h=>absurd rfl h) (λb hb=>.inl (jg.1 hb).1) (H'.gL.filter _)
     have H2:=H'.mem T2
     have hok:∀b,(aN cx (aF (dA (vals.zip tks)) Z) J' F' w tags' b\/b∈oC)->aN cx (aF (dA (vals.zip tks)) Z) J' (F'.filter λb=>!ay b oC) w tags' b:=by
      rintro b (hb|hb)
      ·exact⟨hb.1,λh=>hb.2.1 (jg.1 h).1,hb.2.2⟩
      ·have lJ:=(Du b hb).1
       have hm:=H'.fl b lJ
       refine⟨hm.1,λh=>?_,zP H' lJ,λq Q hq hbq=>absurd lJ (H'.dU q Q hq b hbq),λh0=>?_⟩
       ·have:=(jg.1 h).2
        simp only[jN,gF]at this
        exact this hb
       ·rcases hm.2 with h|⟨j,pi,h1,h2⟩
        ·omega
        ·exact .inr ⟨j,pi,h1,h2⟩
     have hVw:=oV (k:=.st c) _ hok (λb hb=>by rw[uE]at hb;simp at hb) r2
     rw[DW,mY]
     exact nR (x:=.one (.val (.st c) x' tags')) H2 hd hdn hrun (show aW cx _ J' _ w (.val (.st c) x' tags') _ from λ_=>⟨cs',hV,hVw⟩) hwt
    ·obtain⟨g1,g2⟩:=oF h6
     rw[bC g2]
     have hnr:=Xr g1 qP
     have hn1:(aF (dA (vals.zip tks)) Z).roots (aK d 0)=none:=by rw[(hS _ hnr).root];exact g1
     obtain⟨gB,k1,k2⟩:=CV (k:=.st c) (x:=x') (own:=eF (K.st c).tys bad') (tags:=tags') (v:=.agg cs'.toArray) (cs:=cs') (fo:=bH) (r:=aK d 0) (F':=F'.filter λb=>!ay b (bH++oC)) H' hn1 (oK d 0)
      sP (dJ.1 lK).1 hwt (λb hb=>by
       rw[jg]at hb
       have:=hb.2
       simp only[jN,gF,dh,not_or]at this
       exact⟨hb.1,this.1⟩) (H'.gL.filter _) (eY (k:=c) r2)
      (λ_=>dR (k:=.st c) (λ_ _=>rfl) (λb hb=>by
       rcases hb with hb|hb
       ·exact .inl hb
       ·refine .inr ⟨(Du b hb).1,λh=>?_,(Du b hb).2⟩
        rw[jg]at h
        have:=h.2
        simp only[jN,gF,dh,not_or]at this
        exact this.2 hb) (λ_ _=>rfl) r2) hV kp'
     rw[DW,mY]
     exact nR (x:=.one (.ref (aK d 0) 0)) k1 hd hdn hrun k2 ⟨_,fQ ..,.inr (dW _)⟩
  |_=>exact h.elim
theorem Wq:∀(ws:List Wr) (Z:St) (n:Nat),(aF ws Z).slots n=(zn ws n).getD (Z.slots n)
 | [],_,_=>rfl
 |.s m x :: ws,Z,n=>by
  show(aF ws ((Wr.s m x).app Z)).slots n=_
  rw[Wq ws]
  simp only[zn]
  cases zn ws n with
  |some b=>rfl
  |none=>
   show upd Z.slots m x n=Option.getD (bif Nat.beq n m then some x else none) (Z.slots n)
   unfold upd
   cases Nat.beq n m<;>rfl
 |.r m q :: ws,Z,n=>by
  show(aF ws ((Wr.r m q).app Z)).slots n=_
  rw[Wq ws]
  simp only[zn]
  cases q<;>rfl
theorem Wp:∀(ws:List Wr) (Z:St) (n:Nat),(aF ws Z).roots n=(BJ ws n).getD (Z.roots n)
 | [],_,_=>rfl
 |.s m x :: ws,Z,n=>by
  show(aF ws ((Wr.s m x).app Z)).roots n=_
  rw[Wp ws]
  rfl
 |.r m q :: ws,Z,n=>by
  show(aF ws ((Wr.r m q).app Z)).roots n=_
  rw[Wp ws]
  simp only[BJ]
  cases BJ ws n with
  |some b=>rfl
  |none=>
   cases q with
   |none=>
    show upd Z.roots m (some g_) n=Option.getD (bif Nat.beq n m then some (some g_)else none) (Z.roots n)
    unfold upd
    cases Nat.beq n m<;>rfl
   |some q=>
    show upd Z.roots m (some q) n=Option.getD (bif Nat.beq n m then some (some q)else none) (Z.roots n)
    unfold upd
    cases Nat.beq n m<;>rfl
theorem axh{A:Type}{us:List Wr}{z:A}:∀{p:Prog A},(p.over us).ends Z z->p.ends (aF us Z) z:=by
 intro p
 induction p with
 |ret _=>exact λh=>h
 |fail=>exact λh=>h
 |slot n k ih=>
  intro h
  show(k ((aF us Z).slots n)).ends _ z
  rw[Wq]
  simp only[Prog.over]at h
  cases hl:zn us n with
  |some v=>rw[hl]at h;exact ih _ h
  |none=>rw[hl]at h;exact ih _ h
 |root n k ih=>
  intro h
  show(k ((aF us Z).roots n)).ends _ z
  rw[Wp]
  simp only[Prog.over]at h
  cases hl:BJ us n with
  |some v=>rw[hl]at h;exact ih _ h
  |none=>rw[hl]at h;exact ih _ h
 |dX c d k ih=>exact λh=>⟨h.1,ih h.2⟩
 |br c t e qj qi=>exact λh=>h.imp (λh=>⟨h.1,qj h.2⟩) (λh=>⟨h.1,qi h.2⟩)
 |opt β q k ih=>
  rintro⟨b,h1,h2⟩
  exact⟨b,h1,ih b h2⟩
theorem Rn{A B:Type}{f:A->Prog B}{z:B}:∀{p:Prog A},(p.bind f).ends Z z->∃x,p.ends Z x/\(f x).ends Z z:=by
 intro p
 induction p with
 |ret x=>exact λh=>⟨x,rfl,h⟩
 |fail=>exact λh=>h.elim
 |slot n k ih=>exact λh=>ih _ h
 |root n k ih=>exact λh=>ih _ h
 |dX c d k ih=>exact λh=>let ⟨x,h1,h2⟩:=ih h.2;⟨x,⟨h.1,h1⟩,h2⟩
 |br c t e qj qi=>
  rintro(h|h)
  ·obtain⟨x,h1,h2⟩:=qj h.2
   exact⟨x,.inl ⟨h.1,h1⟩,h2⟩
  ·obtain⟨x,h1,h2⟩:=qi h.2
   exact⟨x,.inr ⟨h.1,h1⟩,h2⟩
 |opt β q k ih=>
  rintro⟨b,h1,h2⟩
  obtain⟨x,h3,h4⟩:=ih b h2
  exact⟨x,⟨b,h1,h3⟩,h4⟩
theorem Xc{p q:Prog (List Wr)}{z:List Wr}(h:(Pe p q).ends Z z):∃us vs,p.ends Z us/\q.ends (aF us Z) vs/\z=us++vs:=by
 obtain⟨us,h1,h2⟩:=Rn h
 obtain⟨vs,h3,h4⟩:=Rn h2
 exact⟨us,vs,h1,axh h3,h4⟩
theorem awG:∀{c:K} {us us' cs:List Value},ET c us cs->ET c us' cs->us=us':=by
 intro c
 induction c with
 |unit=>
  intro us us' cs h h'
  cases us with
  |nil=>cases us' with
   |nil=>rfl
   |cons _ _=>exact h'.elim
  |cons _ _=>exact h.elim
 |pair k r ihk ih=>
  intro us us' cs h h'
  cases us with
  |nil=>exact h.elim
  |cons u us=>
   cases us' with
   |nil=>exact h'.elim
   |cons u' us'=>
    obtain⟨c1,c2,e,h1,h2,h3⟩:=h
    obtain⟨d1,d2,e',h1',h2',h3'⟩:=h'
    rw[e]at e'
    obtain⟨rfl,rfl⟩:=List.append_inj e' (h2.trans h2'.symm)
    rw[ih h3 h3']
    congr 1
    cases k with
    |st f=>exact(show u=_ from h1).trans (show u'=_ from h1').symm
    |_=>exact(by simpa using (And.left h1).symm.trans (And.left h1'):u=u')
 |_=>intro us us' cs h;cases us<;>exact h.elim
theorem awF{A:Type}{z:A}(H:Rel cx Z J F a w){p:Prog A}:∀{c:K} {l:List (Nat×AV)} {i:Nat} {vs:List Value},h_ cx Z J F w (l.map (·.2)) vs->(∀v∈l,dK Z v.2)->(JM c l i p).ends Z z->
  ∃cs,ET c vs cs/\(l.map (λq=>q.1)).zip vs=qz i vs/\p.ends Z z:=by
 intro c
 induction c with
 |unit=>
  intro l i vs h1 _ h
  cases l with
  |nil=>
   cases vs with
   |nil=>exact⟨[],rfl,rfl,h⟩
   |cons _ _=>exact h1.elim
  |cons _ _=>exact h.elim
 |pair k r ihk ih=>
  intro l i vs h1 h2 h
  cases l with
  |nil=>exact h.elim
  |cons q l=>
   obtain⟨n,x⟩:=q
   cases vs with
   |nil=>exact h1.elim
   |cons v vs=>
    simp only[JM]at h
    rcases bB h with⟨hn,h⟩|⟨_,h⟩
    ·obtain⟨tk,htk,h⟩:=xP H h1.1 (h2 (n,x) (by simp)) h
     rcases bB h with⟨hk,h⟩|⟨_,h⟩
     ·obtain⟨cs,g1,g2,g3⟩:=ih h1.2 (λv hv=>h2 v (by simp[hv])) h
      obtain⟨a_,F1,cst,Dn,lw,lh,H1,T1,k1,k2,_⟩:=take1 H htk
      have ek:=K.eq_of_beq hk
      rw[ek]at k1
      refine⟨cst++cs,⟨cst,cs,rfl,k1,by rw[k2.len,ek],g1⟩,?_,g3⟩
      simp only[jo,Ac,qz]
      rw[g2,bu hn]
     ·exact h.elim
    ·exact h.elim
 |_=>intro l i vs _ _ h;cases l<;>exact h.elim
theorem ayS{k:K}(h:fD k=true):(dO k).length=k.size:=eY (h:=λ_=>none) (own:=[]) (ok:=λ_=>True) (Ce h)
theorem aaV{place:Nat->Option (Nat×Nat)}:∀{c:K} {us cs pre:List Value} {j:Nat},fD c=true->ET c us cs->(∀n off k,bQ n c=some (off,k)->place (j+n)=some (pre.length+off,k.size))->
  Instr.fill place (pre++dO c).toArray (qz j us)=some (pre++cs).toArray:=by
 intro c
 induction c with
 |unit=>
  intro us cs pre j _ h _
  cases us with
  |nil=>
   have h':cs=[]:=h
   subst h'
   rfl
  |cons _ _=>exact h.elim
 |pair k r ihk ih=>
  intro us cs pre j hg h hp
  cases us with
  |nil=>exact h.elim
  |cons u us=>
   obtain⟨c1,c2,rfl,h1,h2,h3⟩:=h
   simp only[fD,bf]at hg
   have hz:=ayS hg.1
   have jF:u.cells=c1.toArray:=by
    have:=h1.cells
    apply rW
    simpa using this
   have h0:=hp 0 0 k rfl
   simp only[mD]at h0
   simp only[qz]
   rw[Sd (off:=pre.length) (vs:=c1) (by rw[h2];exact h0) jF (by simp only[dO,CO,dI];omega)]
   have e2:((pre++dO (.pair k r)).toArray.toList.take pre.length++(c1++(pre++dO (.pair k r)).toArray.toList.drop (pre.length+c1.length)))=(pre++c1)++dO r:=by
    simp only[dO]
    rw[<-eG pre]
    have e3:pre.length+c1.length=(pre++dO k).length:=by simp[h2,hz]
    rw[e3,List.drop_left]
    simp
   rw[e2,ih hg.2 h3 (λn off kk ho=>?_)]
   ·simp
   ·have:=hp (n+1) (k.size+off) kk (by simp[bQ,ho])
    rw[show j+1+n=j+(n+1) by omega,this]
    simp[h2]
    omega
 |_=>intro us cs pre j _ h;cases us<;>exact h.elim
theorem parts_eval{ps:Array (Nat×Operand)}{ns:List Nat}{vals:List Value}(e1:ns=ps.toList.map (·.1))(hvv:(evs a ps.toList).map (·.2)=vals):((ps.map λ(p:Nat×Operand)=>(p.1,a.eval p.2)).toList)=ns.zip vals:=by
 rw[u7,<-hvv,e1]
 have:∀l:List (Nat×Operand),l.map (λp=>(p.1,a.eval p.2))=(l.map (·.1)).zip ((evs a l).map (·.2)):=by
  intro l
  induction l with
  |nil=>rfl
  |cons p l ih=>simp[evs]at ih ⊢;exact ih
 exact this _
theorem anm(hT:eU P T)(H:Rel cx Z J F a w)(hd:o.dst=some d)(hdn:d<cx.nt){t:TypeId}{ps:Array (Nat×Operand)}
  (h:(match T.ty t with
   |some (.st c)=>vS ps.toList λl=>JM c l 0 (.ret [Wr.s d (.lit t c (l.map λq:Nat×AV=>q.2))])
   |_=>(.fail:Prog (List Wr))).ends Z ws) (ho:o.op=.build t ps):dG P cx o a w (aF ws Z):=by
 cases hty:T.ty t with
 |none=>rw[hty]at h;exact h.elim
 |some k0=>
  rw[hty]at h
  cases k0 with
  |st c=>
   have ht:=hT.ty t _ hty
   simp only at h
   obtain⟨vs,e1,h1,h2,h3⟩:=Sb H h
   obtain⟨cs,g1,g2,g3⟩:=awF H h1 h2 h3
   rw[bC g3]
   obtain⟨place,q1,q2⟩:=Rq ht
   have hb:=run_build (P:=P) w t (ps.map λ(p:Nat×Operand)=>(p.1,a.eval p.2)) cs.toArray (by
    rw[parts_eval e1 rfl,q2,g2]
    have:=aaV (pre:=[]) (j:=0) (place:=place) (c:=c) (by simpa[fD]using ht.fD) g1 (λn off k ho=>by simpa using q1 n off k ho)
    simpa using this)
   have hrun:(execOp a.eval o).run P w=.ok (.value (.agg cs.toArray)) w:=by simp only[execOp,ho,dH,hb,eZ,eH]
   refine fq (x:=.lit t c (vs.map (·.2))) (v:=.agg cs.toArray) H hd hdn hrun ⟨_,cs,⟨rfl,g1⟩,h1⟩ (λx hx=>?_)
   obtain⟨q,hq,rfl⟩:=d_.1 hx
   exact h2 q hq
  |_=>exact h.elim
theorem Rel.WR(H:Rel cx Z J F a w){s:Nat}{x:f_}(hw:mZ Z x)(hx:iZ cx Z J F w x (a.tmps.getD s undef)):Rel cx (rV Z (upd Z.slots s x)) J F a w where
 defs:=H.defs
 sz:=H.sz
 kG:=H.kG
 tK:=H.tK
 slots:=by
  intro n
  rw[XH]
  show iZ cx Z J F w (upd Z.slots s x n) _
  by_cases e:n=s
  ·subst e
   rw[upd_same]
   exact hx
  ·rw[upd_ne _ _ e]
   exact H.slots n
 q8:=by
  intro n
  rw[ZZ]
  show mZ Z (upd Z.slots s x n)
  by_cases e:n=s
  ·subst e;rw[upd_same];exact hw
  ·rw[upd_ne _ _ e];exact H.q8 n
 roots:=by
  intro r R hr
  have K:=H.roots r R hr
  exact⟨λhv=>K.ow ((zI _).1 hv),K.len,K.mem,K.nd,K.mine⟩
 fE:=H.fE
 jr:=H.jr
 fl:=H.fl
 gL:=H.gL
 dU:=H.dU
 frame:=H.frame
 sW:=H.sW
 ql:=H.ql
 uI:=λj p ts v h=>let ⟨h0,R,h1,h2⟩:=H.uI j p ts v h;⟨h0,R,h1,λht=>(Kq _).2 (h2 ht)⟩
 uJ:=H.uJ
theorem PD{A:Type}:∀(l:List A) (i:Nat),(qz i l).map (λp=>p.2)=l
 | [],_=>rfl
 |x :: l,i=>by simp only[qz,jo,PD l]
theorem ai3{A B:Type}:∀(l:List A) (m:List B) (i:Nat),m.length=l.length->((qz i l).map (λp=>p.1)).zip m=qz i m
 | [],[],_,_=>rfl
 |x :: l,y :: m,i,h=>by simp only[qz,jo,Ac,ai3 l m (i+1) (by simpa using h)]
 | [],_ :: _,_,h=>by simp at h
 |_ :: _,[],_,h=>by simp at h
theorem awR(hT:eU P T)(H:Rel cx Z J F a w){s:Nat}(h:(Wu T s .ret).ends Z ws):∃J' F',Rel cx (aF ws Z) J' F' a w:=by
 unfold Wu at h
 have h:(match Z.slots s with
  |.lit t c l=>_
  |_=>(.fail:Prog (List Wr))).ends Z ws:=h
 have hsl:=H.slots s
 have hsw:=H.q8 s
 cases hs:Z.slots s with
 |one _=>rw[hs]at h;exact h.elim
 |mQ _=>rw[hs]at h;exact h.elim
 |lit t c l=>
  rw[hs]at h hsl hsw
  obtain⟨us,cs,⟨ev,Mr⟩,hl⟩:=hsl
  rcases bB h with⟨hty,h⟩|⟨_,h⟩
  ·have ht:dz P T t (.st c):=by
    cases hty':T.ty t with
    |none=>rw[hty']at hty;simp at hty
    |some kk=>
     rw[hty']at hty
     have:=K.eq_of_beq hty
     subst this
     exact hT.ty t _ hty'
   have hl':h_ cx Z J F w ((qz 0 l).map (·.2)) us:=by rw[PD];exact hl
   obtain⟨tks,b',l1,l2,qP,yQ,h4⟩:=aaa H hl' (λv hv=>hsw v.2 (by
    have:v.2∈(qz 0 l).map (·.2):=d_.2 ⟨v,hv,rfl⟩
    rwa[PD]at this)) h
   have Mq:us.length=(qz 0 l).length:=l2
   have apJ:us.length=l.length:=by
    have:=congrArg List.length (PD l 0)
    rw[oq]at this
    omega
   generalize hns:(qz 0 l).map (·.1)=ns at *
   have Hz:ns.length=tks.length:=by rw[<-hns,oq];exact l1.symm
   have Be:us.length=tks.length:=by rw[l2];exact l1.symm
   obtain⟨z1,z2,z3,z4⟩:=XG ns us tks Hz Be
   obtain⟨f1,f2,f3,f4,f5,f6,f7,f8⟩:=Z_ _ yQ
   simp only[iA]at f1
   rcases bB h4 with⟨_,h5⟩|⟨hws,h5⟩
   ·exact h5.elim
   ·have qh:qZ b'.ws b'.all=true:=by simpa using hws
    unfold qZ at qh
    simp only[bf]at qh
    have hw1:=Gy.1 qh.1
    have hw2:=LC.1 qh.2
    rw[f1,<-z4]at hw1 hw2
    obtain⟨J',F',hs',H',hA,hnd,hnF,Sq,hS,_⟩:=takes (us.zip tks) H qP hw1 (λtg eD=>hw2 tg (by
     obtain⟨it,hit,h6⟩:=mW.1 eD
     have:it∈(ns.zip (us.zip tks)).map (·.2):=by rw[z1];exact hit
     obtain⟨q,hq,rfl⟩:=d_.1 this
     exact f2 (q.1,q.2.2) (by rw[<-z2];exact d_.2 ⟨q,hq,rfl⟩) tg h6))
    have sO:=hA
    rw[<-z1]at hA
    obtain⟨gU,oC,p1,p2⟩:=WG (own':=eF (K.st c).tys b'.bad) (T:=b'.tags) (ns.zip (us.zip tks)) hA
     (λit hit tg eD=>by
      cases hm:ay tg (eF (K.st c).tys b'.bad)with
      |false=>rfl
      |true=>exact absurd (f4 (it.1,it.2.2) (by rw[<-z2];exact d_.2 ⟨it,hit,rfl⟩) tg eD) (oM.1 hm).2)
     (λit hit tg eD=>f6 (it.1,it.2.2) (by rw[<-z2];exact d_.2 ⟨it,hit,rfl⟩) tg eD)
    rw[z2,z3,z1]at p2
    obtain⟨place,q1,q2⟩:=Rq ht
    obtain⟨x',cs',bH,rest,bad',tags',mU,kp',all',r1,r2,r3,r4⟩:=Z9 q1 (ns.zip tks) (x:=(K.st c).zero) (cs:=dO c) (fo:=[]) (Ce (k:=c) ht.fD) p2 yQ
    subst r1
    simp only at qh f1 f2 f3 f4 f5 f6 f7 f8 h5 p2 r2 r3
    have hzn:(ns.zip tks).map (·.1)=ns:=by rw[List.map_fst_zip (by omega)]
    have hcs:cs'=cs:=by
     have e:=aaV (pre:=[]) (j:=0) (place:=place) (c:=c) (by simpa[fD]using ht.fD) Mr (λn off k ho=>by simpa using q1 n off k ho)
     simp only[iA]at e
     rw[hzn,<-hns,ai3 l us 0 apJ,e]at r4
     simpa using r4.symm
    subst hcs
    have hperm:(hs'.flatMap (·.2)).Perm (bH++(rest++oC)):=by
     refine p1.trans ?_
     rw[<-eG]
     exact wN _ (by simpa using r3)
    have lK:=hperm.nodup hnd
    have hin:∀b∈hs'.flatMap (·.2),b∈F':=Mg sO
    have sP:∀b∈bH,b∈F':=λb hb=>hin b (hperm.mem_iff.2 (by simp[hb]))
    have Du:∀b∈oC,b∈F'/\b∉bH:=λb hb=>⟨hin b (hperm.mem_iff.2 (by simp[hb])),λh=>(dJ.1 lK).2.2 b h b (by simp[hb]) rfl⟩
    have hV:VC (.st c) (.agg cs'.toArray) cs':=rfl
    have hwt:fI (aF (dA (us.zip tks)) Z) tags':=by
     intro tg eD
     rcases f8 tg eD with h|⟨q,hq,hq2⟩
     ·simp at h
     ·rw[<-z2]at hq
      obtain⟨it,hit,rfl⟩:=d_.1 hq
      have hit2:it.2∈us.zip tks:=by rw[<-z1];exact d_.2 ⟨it,hit,rfl⟩
      exact FB (Mh sO it.2 hit2) tg hq2
    have DW:mU=dA (us.zip tks):=by rw[f1,z4]
    obtain⟨g1,g2⟩:=oF h5
    rw[bC g2]
    have hnr:=Xr g1 qP
    have hn1:(aF (dA (us.zip tks)) Z).roots (aK s 1)=none:=by rw[(hS _ hnr).root];exact g1
    obtain⟨gB,k1,k2⟩:=CV (k:=.st c) (x:=x') (own:=eF (K.st c).tys bad') (tags:=tags') (v:=.agg cs'.toArray) (cs:=cs') (fo:=bH) (r:=aK s 1) (F':=F'.filter λb=>!ay b (bH++oC)) H' hn1 (oK s 1)
     sP (dJ.1 lK).1 hwt (λb hb=>by
      rw[jg]at hb
      have:=hb.2
      simp only[jN,gF,dh,not_or]at this
      exact⟨hb.1,this.1⟩) (H'.gL.filter _) (eY (k:=c) r2)
     (λ_=>dR (k:=.st c) (λ_ _=>rfl) (λb hb=>by
      rcases hb with hb|hb
      ·exact .inl hb
      ·refine .inr ⟨(Du b hb).1,λh=>?_,(Du b hb).2⟩
       rw[jg]at h
       have:=h.2
       simp only[jN,gF,dh,not_or]at this
       exact this.2 hb) (λ_ _=>rfl) r2) hV kp'
    rw[DW,mY]
    exact⟨gB,_,k1.WR (x:=.one (.ref (aK s 1) 0)) ⟨_,fQ ..,.inr (dW _)⟩ (by rw[ev];exact k2)⟩
  ·exact h.elim
theorem agM{Z':St}{J':aJ}{F':List Nat}(f:AV->AV)(hf:∀x v,aW cx Z J F w x v->aW cx Z' J' F' w x v->aW cx Z' J' F' w (f x) v) :
  ∀{l:List AV} {vs:List Value},h_ cx Z J F w l vs->h_ cx Z' J' F' w l vs->h_ cx Z' J' F' w (l.map f) vs
 | [],[],_,_=>trivial
 |x :: l,v :: vs,h1,h2=>⟨hf x v h1.1 h2.1,agM f hf h1.2 h2.2⟩
 | [],_ :: _,h,_=>h.elim
 |_ :: _,[],h,_=>h.elim
theorem axf{p q:List Stp}(h:J4 p q=true):∃i j,p=[.aU i]/\q=[.aU j]/\i≠j:=by
 unfold J4 at h
 split at h
 ·rename_i i j
  exact⟨i,j,rfl,rfl,Lc (by simpa using h)⟩
 ·simp at h
theorem aym(H:Rel cx Z J F a w){s s2:Nat}(h:(Xj s s2 .ret).ends Z ws):∃J' F',Rel cx (aF ws Z) J' F' a w:=by
 unfold Xj at h
 have h:(match Z.slots s with
  |.one (.dP r p v)=>_
  |_=>(.fail:Prog (List Wr))).ends Z ws:=h
 have hsl:=H.slots s
 split at h
 case h_2=>exact h.elim
 case h_1 r p v hs=>
  rw[hs]at hsl
  unfold qY at h
  obtain⟨R,hr,hv,h⟩:=gH h
  rcases bB h with⟨rP,h⟩|⟨_,h⟩
  case inr=>exact h.elim
  have rP:=bu rP
  cases dN:aD p R.k R.x with
  |none=>rw[dN]at h;exact h.elim
  |some dd=>
   rw[dN]at h
   obtain⟨cK,hown,cs,wh,DF,jF⟩:=hsl R hr.1 hv rP dd dN
   rcases bB h with⟨hc,h⟩|⟨_,h⟩
   case inr=>
    obtain⟨_,h⟩:=rF h
    rcases bB h with⟨_,h⟩|⟨hc,h⟩
    ·exact h.elim
    ·simp at hc
   cases hga:vV R p dd with
   |none=>rw[hga]at h;exact h.elim
   |some R'=>
    rw[hga]at h
    unfold vV at hga
    cases hz:bO p R.k R.x (nu dd)with
    |none=>rw[hz]at hga;simp at hga
    |some zz=>
     rw[hz]at hga
     simp only[ak]at hga
     have hpv:p≠[]\/∃t,R.kind=.var t:=by
      simp only[bf,og]at hc
      rcases hc.2 with h|h
      ·left;intro e;subst e;simp at h
      ·right
       unfold Root.isVar at h
       cases hk:R.kind with
       |var t=>exact⟨t,rfl⟩
       |anon=>rw[hk]at h;simp at h
       |par=>rw[hk]at h;simp at h
       |dead=>rw[hk]at h;simp at h
     rcases bB h with⟨_,h⟩|⟨hss,h⟩
     ·exact h.elim
     obtain⟨hne,_⟩:=PK.1 hss
     have hne:s≠s2:=Lc hne
     obtain⟨hfr,h⟩:=oF h
     have h:(match Z.slots s2 with
      |.lit t c l=>_
      |_=>(.fail:Prog (List Wr))).ends Z ws:=h
     have hs2:=H.slots s2
     have hw2:=H.q8 s2
     cases hsl2:Z.slots s2 with
     |one _=>rw[hsl2]at h;exact h.elim
     |mQ _=>rw[hsl2]at h;exact h.elim
     |lit t c l=>
      rw[hsl2]at h hs2 hw2
      rw[bC h]
      obtain⟨us,cs2,⟨ev,Mr⟩,hl⟩:=hs2
      obtain⟨cs1,cB,aT,rest,g1,H1,T1,g4,g5,_⟩:=gap H hr hv dN hz cK hown hpv
      rw[DF]at g1
      simp only[ak,bS]at g1
      obtain⟨rfl,rfl⟩:=g1
      have hR':R'=jJ R dd zz:=hga.symm
      subst hR'
      have hrl:aK s 1≠r:=λe=>by rw[e,hr.1]at hfr;simp at hfr
      have hn1:(aO Z r (jJ R dd zz)).roots (aK s 1)=none:=by rw[jA Z _ hrl];exact hfr
      have hcl:cO (aO Z r (jJ R dd zz)) (bz (dd.1.tys.filter λt=>ay t R.own) dd.1) R.tags=true:=by
       rw[Pv dd.1 (λ_ h=>h),g5]
       exact yH hv.2 (λ_ h=>h) (Km p dN hown)
      have hh:Held cx (aO Z r (jJ R dd zz)) (bn J r (J.loc r) (J.hdr r) rest) (aT++F) w dd.1 dd.2 (dd.1.tys.filter λt=>ay t R.own) R.tags cs aT:=
       ⟨λhc=>sw (λt ht=>agY t ht) (g4.ow (by rw[Pv dd.1 (λ_ h=>h)]at hc;exact hc)),g4.wt,g4.sub,g4.nd,g4.len⟩
      let tk:dS:=⟨dd.1,dd.2,dd.1.tys.filter (λt=>ay t R.own),R.tags,[.r r (some (jJ R dd zz))],R.keep⟩
      have hhw:fI (aO Z r (jJ R dd zz)) tk.tags:=hh.wt
      obtain⟨H2,r3⟩:=ZM (r:=aK s 1) (k:=tk.k) (x:=tk.x) (own:=tk.own) (tags:=tk.ig) (F':=(aT++F).filter λb=>!ay b aT) H1 hn1 (oK s 1) hh.sub hh.nd (FB (tk:=tk) hhw)
       (λb hb=>by
        obtain⟨q1,q2⟩:=jg.1 hb
        simp only[jN,gF]at q2
        exact⟨q1,q2⟩) (H1.gL.filter _) hh.len
       (λabw=>by
        cases hb:tk.bad with
        |nil=>exact lU hb (hh.ow hcl)
        |cons t0 l=>
         have et:tk.ig=tk.tags:=by
          unfold dS.ig
          rw[hb]
         rw[et]at abw ⊢
         exact dR (λ_ _=>rfl) (λb h=>.inl h) (λ_ _=>rfl) (hh.ow abw)) jF R.keep
      have H3:=H2.WR (s:=s) (x:=.one (.ref (aK s 1) 0)) ⟨_,fQ ..,.inr (dW _)⟩ r3
      have hs3:=H3.slots s2
      have hw3:=H3.q8 s2
      have hkeep:(rV (aO (aO Z r (jJ R dd zz)) (aK s 1) (bU tk.k tk.x tk.own tk.ig .anon R.keep)) (upd (aO (aO Z r (jJ R dd zz)) (aK s 1) (bU tk.k tk.x tk.own tk.ig .anon R.keep)).slots s (.one (.ref (aK s 1) 0)))).slots s2=.lit t c l:=by
       show upd Z.slots s _ s2=_
       rw[upd_ne _ _ (Ne.symm hne)]
       exact hsl2
      rw[hkeep]at hs3 hw3
      obtain⟨us',RO,⟨ev',apK⟩,hl'⟩:=hs3
      have R5:RO=cs2:=by
       rw[ev]at ev'
       have:=congrArg Value.cells ev'
       simpa[Value.cells]using this.symm
      subst R5
      have eus:=awG Mr apK
      subst eus
      have hroot:(aO (aO Z r (jJ R dd zz)) (aK s 1) (bU tk.k tk.x tk.own tk.ig .anon R.keep)).roots r=some (jJ R dd zz):=by
       rw[jA _ _ (Ne.symm hrl),fQ]
      refine⟨_,_,H3.WR (s:=s2) (x:=.lit t c (l.map (Si r p v tk.ws))) (λx hx=>?_) ⟨us,RO,⟨ev,Mr⟩,agM (Si r p v tk.ws) (λx u hx0 hx1=>?_) hl hl'⟩⟩
      ·obtain⟨y,hy,rfl⟩:=d_.1 hx
       have hy':=hw3 y hy
       show dK _ (freshen r p v (jJ R dd zz).dM y)
       unfold freshen
       split
       ·rename_i q p' n
        cases hb:(Nat.beq r q&&Nat.beq n v&&J4 p p')with
        |false=>exact hy'
        |true=>
         simp only[bf]at hb
         rw[<-bu hb.1.1]
         exact⟨_,hroot,.inr (bZ _)⟩
       ·exact hy'
      ·show aW cx _ _ _ w (freshen r p v (jJ R dd zz).dM x) u
       unfold freshen
       split
       ·rename_i q p' n
        cases hb:(Nat.beq r q&&Nat.beq n v&&J4 p p')with
        |false=>exact hx1
        |true=>
         simp only[bf]at hb
         have e1:=bu hb.1.1
         have e2:=bu hb.1.2
         subst e1
         subst e2
         obtain⟨i,j,rfl,rfl,hij⟩:=axf hb.2
         intro Q hQ lZ hnQ d' hd'
         have hQ':Q=jJ R dd zz:=by
          have hQ:(aO (aO Z r (jJ R dd zz)) (aK s 1) (bU tk.k tk.x tk.own tk.ig .anon R.keep)).roots r=some Q:=hQ
          rw[hroot]at hQ
          simpa using hQ.symm
         subst hQ'
         have hold:=hx0 R hr.1 hv rP
         obtain⟨Rk,Rx,QT,QU,Rw,Rh,Rg,QS,Zx,QO,QN,QM⟩:=R
         cases Rk with
         |st c0=>
          simp only[bO]at hz
          simp only[aD]at dN
          cases hci:aP i c0 Rx with
          |none=>rw[hci]at dN;simp at dN
          |some d0=>
           rw[hci]at hz dN
           simp only[ak]at dN
           subst dN
           simp only at hz
           cases hcp:dB i c0 Rx (nu d0)with
           |none=>rw[hcp]at hz;simp at hz
           |some z0=>
            rw[hcp]at hz
            simp only[ak]at hz
            subst hz
            have hput:aP j z0.1 z0.2=aP j c0 Rx:=aah i j (Ne.symm hij) hcp
            have hd2:aD [.aU j] (.st c0) Rx=some d':=by
             have hd3:aD [.aU j] (.st z0.1) z0.2=some d':=hd'
             simp only[aD]at hd3 ⊢
             rw[hput]at hd3
             exact hd3
            obtain⟨w1,w2,RP,XA,w3,w4⟩:=hold d' hd2
            have hcj:(aP j c0 Rx).isSome=true:=by
             cases hcj:aP j c0 Rx with
             |none=>simp only[aD]at hd2;rw[hcj]at hd2;simp at hd2
             |some _=>rfl
            refine⟨?_,?_,RP,XA,?_,w4⟩
            ·show bW [.aU j] (.st z0.1) z0.2
             simp only[bW]
             rw[hput]
             cases apb:aP j c0 Rx with
             |none=>rw[apb]at hcj;simp at hcj
             |some _=>trivial
            ·intro t' ht'
             have ht':t'∈aC [.aU j] (.st z0.1):=ht'
             simp only[aC]at ht'
             split at ht'<;>simp at ht'
            ·have e3:(bn (bn J r (J.loc r) (J.hdr r) rest) (aK s 1) (0,0) cs aT).hdr r=J.hdr r:=by simp[bn,upd_same,upd_ne _ _ (Ne.symm hrl)]
             rw[e3]
             have e4:aL (bn (bn J r (J.loc r) (J.hdr r) rest) (aK s 1) (0,0) cs aT) (jJ { k:=.st c0,x:=Rx,own:=QT,tags:=QU,w:=Rw,h:=Rh,g:=Rg,kind:=QS,fixed:=Zx,keep:=QO,ew:=QN,eh:=QM } d0 ⟨.st z0.1,z0.2⟩) r=aL J { k:=.st c0,x:=Rx,own:=QT,tags:=QU,w:=Rw,h:=Rh,g:=Rg,kind:=QS,fixed:=Zx,keep:=QO,ew:=QN,eh:=QM } r:=by
              unfold aL jJ
              simp[bn,upd_same,upd_ne _ _ (Ne.symm hrl)]
             rw[e4]
             have w3':aR (hp w) [.aU j] (.st c0) (J.hdr r) _=some (RP,XA):=w3
             show aR (hp w) [.aU j] (.st z0.1) (J.hdr r) _=some (RP,XA)
             simp only[aR]at w3' ⊢
             cases hoj:bQ j c0 with
             |none=>rw[hoj]at w3';simp at w3'
             |some q=>
              rw[hoj]at w3'
              rw[aaj i j (Ne.symm hij) hci hcp (Ba d0.1) hoj]
              exact w3'
         |_=>simp[aD]at dN
       ·exact hx1
theorem ayn{s2:Nat}:∀{l:List (Nat×Operand)} {ws:List Wr} {Z:St} {J:aJ} {F:List Nat},Rel cx Z J F a w->(splits s2 l).ends Z ws->∃J' F',Rel cx (aF ws Z) J' F' a w:=by
 intro l
 induction l with
 |nil=>intro ws Z J F H h;rw[bC h];exact⟨J,F,H⟩
 |cons q l ih=>
  obtain⟨n,x⟩:=q
  intro ws Z J F H h
  cases x with
  |tmp s=>
   simp only[splits]at h
   have h:(match Z.slots s with
    |.one (.dP r _ _)=>_
    |_=>splits s2 l).ends Z ws:=h
   split at h
   ·have h:(match Z.slots s2 with
     |.lit _ _ m=>_
     |_=>(.fail:Prog (List Wr))).ends Z ws:=h
    split at h
    ·rcases bB h with⟨_,h⟩|⟨_,h⟩
     ·obtain⟨us,vs,h1,h2,rfl⟩:=Xc h
      obtain⟨a_,F1,H1⟩:=aym H h1
      rw[mY]
      exact ih H1 h2
     ·exact ih H h
    ·exact h.elim
   ·exact ih H h
  |_=>exact ih H h
theorem aog{A:Type}{z:A}{k:Nat->Prog A}:∀{l:List (Nat×Operand)},(Dl l k).ends Z z->∃s,(k s).ends Z z:=by
 intro l
 induction l with
 |nil=>exact λh=>h.elim
 |cons q l ih=>
  obtain⟨n,x⟩:=q
  intro h
  cases x with
  |tmp s=>
   simp only[Dl]at h
   have h:(match Z.slots s with
    |.lit _ _ _=>k s
    |_=>Dl l k).ends Z z:=h
   split at h
   ·exact⟨s,h⟩
   ·exact ih h
  |_=>exact ih h
theorem anC(hT:eU P T)(H:Rel cx Z J F a w)(hd:o.dst=some d)(hdn:d<cx.nt){t:TypeId}{ps:Array (Nat×Operand)}
  (h:(aiw T d t ps).ends Z ws) (ho:o.op=.build t ps):dG P cx o a w (aF ws Z):=by
 obtain⟨s,h⟩:=aog h
 obtain⟨us,vs,h1,h2,rfl⟩:=Xc h
 obtain⟨us2,vs2,h3,h4,rfl⟩:=Xc h2
 obtain⟨a_,F1,H1⟩:=ayn H h1
 obtain⟨gB,F2,H2⟩:=awR hT H1 h3
 rw[mY,mY]
 exact aaB hT H2 hd hdn h4 ho
end
end
section
open Go
variable [Fr]
section
variable {P:Program}{T:bK}{w:World}
structure Src(P:Program)(w:World)(size:Nat)(u:TypeId)(x:Value)(m:Nat)(news:List Value):Prop where
 und:(∃e',P.underlying u=some (.slice e'))\/P.underlying u=some .string
 len:∀w',(Builtin.lenOf x).run P w'=.ok m w'
 cells:(Builtin.firstCells size m x).run P w=.ok news.toArray w/\(Builtin.firstCells size m x).run P w.drew=.ok news.toArray w.drew
 nl:news.length=m*size
 one:∀v∈news,v.oneCell'=true
theorem Kh{size:Nat}{u:TypeId}{b:Option Addr}{m c:Nat}{news:List Value}(hu:(∃e',P.underlying u=some (.slice e'))\/P.underlying u=some .string)(hl:news.length=m*size)(h1:∀v∈news,v.oneCell'=true)
  (hc:0<m->∃bb q,b=some ⟨bb,q,none⟩/\Cells (hp w) bb q news):Src P w size u (.slice b m c) m news where
 und:=hu
 len:=λw'=>rfl
 cells:=by
  have key:∀w',hp w'=hp w->(Builtin.firstCells size m (.slice b m c)).run P w'=.ok news.toArray w':=by
   intro w' hw
   by_cases h0:0<m
   ·obtain⟨bb,q,rfl,hcs⟩:=hc h0
    exact BU (P:=P) w' size m ⟨bb,q,none⟩ m c news hl (λj v hj=>by
     rw[addr_add,vN,hw,hcs j (oh.1 hj).1]
     exact hj)
   ·have hm:m=0:=by omega
    subst hm
    have hn:news=[]:=rz (by simpa using hl)
    subst hn
    cases b with
    |none=>exact WZ w' size 0 0 c
    |some ad=>exact BU (P:=P) w' size 0 ad 0 c [] (by simp) (λj v hj=>by simp at hj)
  exact⟨key w rfl,key w.drew rfl⟩
 nl:=hl
 one:=h1
theorem ayo{u:TypeId}{B:ByteArray}(hu:(∃e',P.underlying u=some (.slice e'))\/P.underlying u=some .string):Src P w 1 u (.string B) B.size (B.data.toList.map λb=>.int .u8 b.toNat) where
 und:=hu
 len:=λw'=>rfl
 cells:=by
  have h:B.extract 0 B.size=B:=by
   apply ByteArray.ext
   simp
  constructor<;>(simp[Builtin.firstCells,h];apply rW;simp)
 nl:=by simp
 one:=by intro v hv;simp only[d_]at hv;obtain⟨b,_,rfl⟩:=hv;rfl
theorem O_{t u ty e:TypeId}{k:K}(ht:dz P T t (.sl e k)){b:Option Addr}{n c m:Nat}{x:Value}{news:List Value}(hs:Src P w k.size u x m news)(hr:n+m<=c) :
  (Builtin.append_ #[t,u] ty #[.slice b n c,x]).run P w=(match b with
   |some a=>(storeCells (a.add (n*k.size)) news).run P w
   |none=>.ok () w).andThen λ_ w'=>.ok (.slice b (n+m) c) w':=by
 obtain⟨hu,he,_,_⟩:=ht.sl
 have e1:=hs.len w
 have e2:=hs.cells.1
 rcases hs.und with⟨e',hd⟩|hd<;>cases b<;>simp[Builtin.append_,gG hu,he.info.sizeOf w,gG hd,e1,e2,hr,Result.andThen]
end
end
section
open Go
variable [Fr]
section
variable {P:Program}{T:bK}{w:World}
theorem WY{t u ty e:TypeId}{k:K}(ht:dz P T t (.sl e k)){b:Option Addr}{n c m:Nat}{x:Value}{news olds:List Value}(hs:Src P w k.size u x m news)
  (hold:(Builtin.firstCells k.size n (.slice b n c)).run P w.drew=.ok olds.toArray w.drew) (hr:¬n+m<=c) (hb:(n+m)*T.bytes e<=140737488355328) :
  ∃nc,n+m<=nc/\(Builtin.append_ #[t,u] ty #[.slice b n c,x]).run P w =
   .ok (.slice (some ⟨w.heap.size,0,none⟩) (n+m) nc) (w.drew.alloc (.cells (olds.toArray++news.toArray++Builtin.zeroCells (iY k).cells (nc-(n+m))) e)):=by
 obtain⟨hu,he,_,i,hi,hby,hpos⟩:=ht.sl
 obtain⟨i',hi',hs',hz'⟩:=he.info
 rw[hi]at hi'
 simp only[ak]at hi'
 subst hi'
 have e1:=hs.len w
 have e2:=hs.cells.2
 have h2:¬(281474976710656<Builtin.nextslicecap (n+m) c*i.bytes):=by
  have:=growslice_fits (need:=n+m) (old:=c) (bytes:=i.bytes) (by omega) (by rw[hby];exact hb)
  omega
 have h3:i.bytes≠0:=by omega
 refine⟨grownCap w (n+m) c e,grownCap_ge w (n+m) c e,?_⟩
 rw[<-hs']at hold e2
 rcases hs.und with⟨e',hd⟩|hd
 ·simp[Builtin.append_,gG hu,gG hd,sizeOf,typeInfo,zeroValue,hi,hz',e1,hr,h2,h3,Question.forced,hold,e2,newRow,grownCap]
  congr 2
  apply rW
  simp[eG]
 ·simp[Builtin.append_,gG hu,gG hd,sizeOf,typeInfo,zeroValue,hi,hz',e1,hr,h2,h3,Question.forced,hold,e2,newRow,grownCap]
  congr 2
  apply rW
  simp[eG]
end
end
end Go.Proofs.YtgppmpedglhhfaaGreatDoor.Ow
