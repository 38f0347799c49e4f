/- A verified reading of translated code, part C of 7. No condition. -/
import Derived.Test.YtailcbngagacaaaGreatOwB
import Derived.Laws.Strings
import Derived.Laws.BytesString
import Derived.Laws.IdiomStrings
import Derived.Laws.MakeOwn
import Derived.Laws.Tables
import Derived.Laws.AppendOwn
set_option linter.unusedSectionVars false
set_option linter.unusedVariables false
set_option linter.unusedSimpArgs false
namespace Go.Proofs.YtailcbngagacaaaGreat.Ow
section
open Go
variable [Fr]
theorem beq_true {a b:K} {A:Type} {x y:Prog A} {Z:St} {z:A} (h:(bif a.beq b then x else y).ends Z z):(a=b/\x.ends Z z)\/(a.beq b=false/\y.ends Z z):=by
  cases hb:a.beq b with
  | true=>rw [hb] at h; exact .inl ⟨K.eq_of_beq hb,h⟩
  | false=>rw [hb] at h; exact .inr ⟨rfl,h⟩
section
variable {P:Program} {T:jh} {cx:Cx} {Z:St} {J:dP} {F:List Nat} {a:Act} {w:World} {o:Oper} {d:Nat} {ws:List Wr}
theorem structField {P:Program} {T:jh}:∀(n:Nat) {c:K} {fs:List Field} {GD off:Nat} {k:K},(j5 P T c).2 fs GD->bG n c=some (off,k)->∃f,fs[n]?=some f/\f.offset=GD+off/\fM P T f.type k/\0<k.size:=by
  intro n
  induction n with
  | zero=>
    intro c fs GD off k h ho
    cases c with
    | pair a b=>
      simp only [bG,ane,anp] at ho
      obtain ⟨rfl,rfl⟩:=ho
      cases fs with
      | nil=>exact h.elim
      | cons f fs=>exact ⟨f,rfl,h.1,h.2.1,h.2.2.1⟩
    | _=>simp [bG] at ho
  | succ n ih=>
    intro c fs GD off k h ho
    cases c with
    | pair a b=>
      simp only [bG] at ho
      cases h2:bG n b with
      | none=>rw [h2] at ho; simp at ho
      | some q=>
        rw [h2] at ho
        simp only [ane,anp] at ho
        cases fs with
        | nil=>exact h.elim
        | cons f fs=>
          obtain ⟨g,g1,g2,g3,g4⟩:=ih (off:=q.1) (k:=q.2) h.2.2.2 (by rw [h2])
          exact ⟨g,by simpa using g1,by rw [g2, <-ho.1]; omega,by rw [<-ho.2]; exact g3,by rw [<-ho.2]; exact g4⟩
    | _=>simp [bG] at ho
theorem fM.st {t:TypeId} {c:K} (h:fM P T t (.st c)):∃fs,P.underlying t=some (.struct fs)/\(j5 P T c).2 fs.toList 0:=by
  unfold fM j5 at h
  exact h.1
theorem zV {cs:List Value} {off n:Nat} (h:off+n<=cs.length):((cs.drop off).take n).length=n:=by simp; omega
theorem FH:∀(n:Nat) {c:K} {off:Nat} {k:K},bG n c=some (off,k)->off+k.size<=c.size:=by
  intro n
  induction n with
  | zero=>intro c off k h; cases c with
    | pair a b=>simp only [bG,ane,anp] at h; obtain ⟨rfl,rfl⟩:=h; simp [K.size]
    | _=>simp [bG] at h
  | succ n ih=>intro c off k h; cases c with
    | pair a b=>
      simp only [bG] at h
      cases h2:bG n b with
      | none=>rw [h2] at h; simp at h
      | some q=>
        rw [h2] at h
        simp only [ane,anp] at h
        have:=ih (off:=q.1) (k:=q.2) (by rw [h2])
        simp only [K.size]
        rw [<-h.1, <-h.2]
        omega
    | _=>simp [bG] at h
theorem Ww {t:TypeId} {k:K} (h:fM P T t k) (hk:0<k.size) {cs:List Value} {off:Nat} (hl:off+k.size<=cs.length):∃u,(part t cs.toArray off).run P w=.ok u w/\((∀x,u≠.agg x)\/tZ k=true->VC k u ((cs.drop off).take k.size)):=by
  unfold part
  simp only [anF,h.isAgg w,Result.andThen]
  cases hs:tZ k with
  | true=>
    refine ⟨.agg (cs.toArray.extract off (off+k.size)),by simp [h.info.sizeOf w,Result.andThen],fun _=>?_⟩
    cases k with
    | st c=>
      show Value.agg _=.agg _
      congr 1
      apply aod
      simp [List.extract_eq_take_drop]
    | _=>simp [tZ] at hs
  | false=>
    have hlt:off<cs.length:=by omega
    refine ⟨cs[off],by simp [hlt],fun hu=>?_⟩
    have hu':∀x,cs[off]≠.agg x:=hu.resolve_right (by simp)
    have hk1:k.size=1:=by
      cases k with
      | st c=>simp [tZ] at hs
      | pair a b=>exact (show False from h).elim
      | unit=>exact (show False from h).elim
      | gap n=>exact (show False from h).elim
      | _=>rfl
    have e:(cs.drop off).take k.size=[cs[off]]:=by
      rw [hk1,aoM hlt]
      rfl
    rw [e]
    cases k with
    | st c=>simp [tZ] at hs
    | _=>exact ⟨rfl,hu'⟩
theorem Ip {v:Value} (h:v.oneCell'=true):∀x,v≠.agg x:=by
  intro x e
  subst e
  simp [Value.oneCell'] at h
theorem S9 {t:TypeId} {c:K} (h:fM P T t (.st c)) {cs:List Value} {n off:Nat} {k:K} (ho:bG n c=some (off,k)) (hl:cs.length=c.size) (h1:∀v∈cs,v.oneCell'=true) :
    ∃u,(Instr.field t (.agg cs.toArray) n).run P w=.ok u w/\VC k u ((cs.drop off).take k.size):=by
  obtain ⟨fs,hu,hf⟩:=h.st
  obtain ⟨f,f1,f2,f3,f4⟩:=structField n hf ho
  have hle:=FH n ho
  obtain ⟨u,g1,g2⟩:=Ww (w:=w) f3 f4 (cs:=cs) (off:=off) (by omega)
  have f1':fs[n]?=some f:=by rw [<-apt]; exact f1
  refine ⟨u, ?_,g2 ?_⟩
  · unfold Instr.field
    simp only [anF,aoR hu,Result.andThen,f1',asAgg,anK]
    rw [show f.offset=off from by omega]
    exact g1
  · cases hs:tZ k with
    | true=>exact .inr rfl
    | false=>
      left
      unfold part at g1
      simp only [anF,f3.isAgg w,Result.andThen,hs] at g1
      have hlt:off<cs.length:=by omega
      simp [hlt] at g1
      rw [<-g1]
      exact Ip (h1 _ (anI hlt))
theorem yQ {r:Nat} {R:Root} {p:List Stp} {v:Value} {dd:Dat} {cs:List Value} {wh:Option (Nat×Nat)} (hr:aQ Z r R) (hg:aR p R.k R.x=some dd) (h1:mG p R.k R.x) (h2:∀t∈ah p R.k,az t R.own=true)
    (h3:bH (hp w) p R.k (J.hdr r) (dY J R r)=some (cs,wh)) (h4:VC dd.1 v cs):bN cx Z J F w (.rH r p R.qJ) v:=by
  intro R' hR' _ _ d' hd'
  rw [hr.1] at hR'
  simp only [ane] at hR'
  subst hR'
  rw [hg] at hd'
  simp only [ane] at hd'
  subst hd'
  exact ⟨h1,h2,cs,wh,h3,h4⟩
theorem Rel.UY (H:Rel cx Z J F a w) {w':World} (hos:w'.os=w.os) (hout:w'.output=w.output) (hsz:w.heap.size<=w'.heap.size) (hold:∀b,b<w.heap.size->hp w' b=hp w b) (ht:w'.tape=w.tape):Rel cx Z J F a w':=by
  have hs:∀r,Same Z J Z J r:=fun r=>⟨rfl,rfl,rfl,rfl⟩
  have hch:∀b,b<w.heap.size->hp w' b=hp w b:=hold
  have T:nA cx Z J F w Z J F w' (fun _=>[]) (fun _=>[]):=by
    refine ⟨rfl,⟨hos,ht,hout⟩,hsz,fun r R hr=>⟨R,hr, ?_⟩,fun r R' _ h=>absurd (hs r) h,fun r R' h1 h2=>by rw [h1] at h2; simp at h2,fun b hb hne=>absurd (hch b hb) hne, ?_,H.xK,
      fun r R' _ h=>absurd (hs r) h,fun r R r' R' _ _ _ h=>absurd (hs r) h, ?_,fun r R R' h1 h2 _=>by rw [h1] at h2; simp only [ane] at h2; subst h2; exact ⟨rfl,rfl⟩⟩
    · cases hd:R.bg with
      | true=>exact .inl ⟨rfl,fun hk=>by unfold Root.bg at hd; rw [hk] at hd; simp at hd⟩
      | false=>exact .inr ⟨rfl,rfl,rfl,anv _,rfl,rfl,fun _=>rfl, .inr ⟨rfl,rfl,hs r⟩⟩
    · rintro b (⟨r,R,h1,h2,h3⟩ | h)
      · exact absurd ⟨R,h1,h2⟩ h3
      · exact .inl h
    · intro j pi b o n h1 h2 hne
      obtain ⟨R,hR,hk,hl,_⟩:=H.mE j pi b o n h1 h2
      exact absurd (hch b ((H.roots _ R hR).mine b (by simp [blk,dY,hk,hl])).1) hne
  exact H.turn T (fun r R _ h=>absurd (hs r) h) (fun r R _ h=>absurd (hs r) h) (fun r R _ h=>absurd (hs r) h)
theorem J5:∀(n:Nat) {c:K},(ah.Eo n c).isSome=true->∃off k,bG n c=some (off,k):=by
  intro n
  induction n with
  | zero=>intro c h; cases c with
    | pair a b=>exact ⟨0,a,rfl⟩
    | _=>simp [ah.Eo] at h
  | succ n ih=>intro c h; cases c with
    | pair a b=>obtain ⟨off,k,h1⟩:=ih (c:=b) h; exact ⟨a.size+off,k,by simp [bG,h1]⟩
    | _=>simp [ah.Eo] at h
theorem LD:∀(n:Nat) {c k:K},ah.Eo n c=some k->∃off,bG n c=some (off,k):=by
  intro n
  induction n with
  | zero=>intro c k h; cases c with
    | pair a b=>simp only [ah.Eo,ane] at h; subst h; exact ⟨0,rfl⟩
    | _=>simp [ah.Eo] at h
  | succ n ih=>intro c k h; cases c with
    | pair a b=>obtain ⟨off,h1⟩:=ih (c:=b) h; exact ⟨a.size+off,by simp [bG,h1]⟩
    | _=>simp [ah.Eo] at h
theorem Ik:∀(p:List Stp) {n:Nat} {k k1 k2:K} {off o2:Nat} {c:K},lG p k=some (off,k1)->k1=.st c->bG n c=some (o2,k2)->lG (p++[.gu n]) k=some (off+o2,k2):=by
  intro p
  induction p with
  | nil=>
    intro n k k1 k2 off o2 c h e h2
    simp only [lG,ane,anp] at h
    obtain ⟨rfl,rfl⟩:=h
    subst e
    simp [lG,h2]
  | cons s p ih=>
    intro n k k1 k2 off o2 c h e h2
    cases s with
    | idx i=>simp [lG] at h
    | gu m=>
      cases k with
      | st c'=>
        simp only [lG,anW] at h ⊢
        cases hq:bG m c' with
        | none=>rw [hq] at h; simp at h
        | some q=>
          rw [hq] at h
          simp only at h ⊢
          cases hr:lG p q.2 with
          | none=>rw [hr] at h; simp at h
          | some r=>
            rw [hr] at h
            simp only [ane,anp] at h
            obtain ⟨rfl,rfl⟩:=h
            rw [ih (off:=r.1) (k1:=r.2) (by rw [hr]) e h2]
            simp only [aoK]
      | _=>simp [lG] at h
theorem Sr:∀(p:List Stp) {k k1 k2:K} {off:Nat},Jd p k=some k1->lG p k=some (off,k2)->k2=k1:=by
  intro p
  induction p with
  | nil=>
    intro k k1 k2 off h1 h2
    simp only [Jd,ane] at h1
    simp only [lG,ane,anp] at h2
    rw [<-h1,h2.2]
  | cons s p ih=>
    intro k k1 k2 off h1 h2
    cases s with
    | idx i=>simp [lG] at h2
    | gu m=>
      cases k with
      | st c=>
        simp only [Jd,lG] at h1 h2
        cases hk:ah.Eo m c with
        | none=>rw [hk] at h1; simp at h1
        | some k0=>
          obtain ⟨o,ho⟩:=LD m hk
          rw [hk] at h1
          rw [ho] at h2
          simp only at h1 h2
          cases hr:lG p k0 with
          | none=>rw [hr] at h2; simp at h2
          | some r=>
            rw [hr] at h2
            simp only [ane,anp] at h2
            rw [<-h2.2]
            exact ih (off:=r.1) h1 (by rw [hr])
      | _=>simp [lG] at h2
theorem F6 {h:Heap}:∀(p:List Stp) {k k1:K} {x:El k} {cs:List Value} {d:Dat} {off:Nat},aR p k x=some d->lG p k=some (off,k1)->cs.length=k.size->
    k1=d.1/\off+k1.size<=cs.length/\bH h p k cs none=some ((cs.drop off).take k1.size,none)/\mG p k x/\ah p k=[]:=by
  intro p
  induction p with
  | nil=>
    intro k k1 x cs d off hg ho hl
    simp only [aR,ane] at hg
    simp only [lG,ane,anp] at ho
    obtain ⟨rfl,rfl⟩:=ho
    subst hg
    exact ⟨rfl,by omega,by simp [bH, <-hl],trivial,by simp [ah]⟩
  | cons s p ih=>
    intro k k1 x cs d off hg ho hl
    cases s with
    | idx i=>simp [lG] at ho
    | gu n=>
      cases k with
      | st c=>
        simp only [aR,lG] at hg ho
        cases hcg:aP n c x with
        | none=>rw [hcg] at hg; simp at hg
        | some s=>
          rw [hcg] at hg
          simp only at hg
          cases hq:bG n c with
          | none=>rw [hq] at ho; simp at ho
          | some q=>
            have hk2:q.2=s.1:=xU n (c:=c) hcg hq
            rw [hq] at ho
            obtain ⟨q1,q2⟩:=q
            simp only at hk2 ho
            subst hk2
            cases hr:lG p s.1 with
            | none=>rw [hr] at ho; simp at ho
            | some r=>
              rw [hr] at ho
              simp only [ane,anp] at ho
              obtain ⟨rfl,rfl⟩:=ho
              have hle:=FH n hq
              have hl':cs.length=c.size:=hl
              obtain ⟨g1,g2,g3,g4,g5⟩:=ih (cs:=(cs.drop q1).take s.1.size) (off:=r.1) (k1:=r.2) hg (by rw [hr]) (zV (by omega))
              rw [zV (by omega)] at g2
              refine ⟨g1,by omega, ?_,by simp only [mG,hcg]; exact g4,by simp [ah,cB n hcg,g5]⟩
              simp only [bH]
              rw [hq]
              simp only [Option.map_none]
              rw [g3]
              simp only [List.drop_take,List.take_take,aoL,Nat.min_eq_left (show r.2.size<=s.1.size - r.1 by omega)]
      | _=>simp [aR] at hg
theorem EE (Z:St) (r:Nat) (A B:Root):au (au Z r A) r B=au Z r B:=by
  unfold au
  simp only [St.mk.injEq,true_and]
  funext n
  unfold upd
  cases Nat.beq n r <;> rfl
theorem I1 {h:Heap}:∀(p:List Stp) {k:K} {x:El k} {t d z:Dat},p.all Stp.lJ=true->aR p k x=some d->eF p k x t=some z->t.1.size=d.1.size->
    aR p z.1 z.2=some t/\mG p z.1 z.2/\ah p z.1=[]/\∀cs wh,bH h p z.1 cs wh=bH h p k cs wh:=by
  intro p
  induction p with
  | nil=>
    intro k x t d z _ hg hz hs
    simp only [eF,ane] at hz
    subst hz
    exact ⟨rfl,trivial,by simp [ah],fun cs wh=>rfl⟩
  | cons s p ih=>
    intro k x t d z hp hg hz hs
    cases s with
    | idx i=>simp [Stp.lJ] at hp
    | gu n=>
      have hp':p.all Stp.lJ=true:=by simpa [Stp.lJ] using hp
      cases k with
      | st c=>
        simp only [aR,eF] at hg hz
        cases hcg:aP n c x with
        | none=>rw [hcg] at hg; simp at hg
        | some s=>
          rw [hcg] at hg hz
          simp only at hg hz
          cases hs':eF p s.1 s.2 t with
          | none=>rw [hs'] at hz; simp at hz
          | some u=>
            rw [hs'] at hz
            simp only at hz
            cases hcp:dm n c x u with
            | none=>rw [hcp] at hz; simp at hz
            | some y=>
              rw [hcp] at hz
              simp only [ane] at hz
              subst hz
              obtain ⟨i1,i2,i3,i4⟩:=ih hp' hg hs' hs
              have e1:aP n y.1 y.2=some u:=xk n hcp
              have hsz:u.1.size=s.1.size:=Dr p hg hs hs'
              refine ⟨by simp only [aR,e1]; exact i1,by simp only [mG,e1]; exact i2,by simp [ah,cB n e1,i3],fun cs wh=>?_⟩
              simp only [bH]
              cases ho:bG n c with
              | none=>
                exfalso
                obtain ⟨off,h1⟩:=LD n (cB n hcg)
                rw [ho] at h1; simp at h1
              | some q=>
                have hk2:q.2=s.1:=xU n (c:=c) hcg ho
                obtain ⟨q1,q2⟩:=q
                simp only at hk2
                subst hk2
                rw [xV n ho hcp]
                simp only
                rw [hsz]
                exact i4 _ _
      | _=>simp [aR] at hg
theorem O5 {R:Root} {r:Nat} {p:List Stp} {d:Dat} {tk:iW} {q:Root×Dat} (h:KM R r p d tk=some q) :
    ∃zg own',eF p R.k R.x (q8 d)=some zg/\q=(fD R d zg own',(q8 d))/\(∀t∈zg.1.tys,az t own'=az t R.own)/\p.all Stp.lJ=true/\(p≠[]\/∃t,R.kind=.var t)/\∀n,(r,n)∉tk.tags:=by
  unfold KM at h
  cases hc:(!d.1.flat && p.all Stp.lJ && !R.keep && (!p.isEmpty || R.isVar) && tk.tags.all (fun t=>!Nat.beq t.1 r)) with
  | false=>rw [hc] at h; simp at h
  | true=>
    rw [hc] at h
    simp only [an0] at h
    simp only [ank] at hc
    obtain ⟨⟨⟨⟨_,c1⟩,_⟩,c2⟩,c3⟩:=hc
    unfold Af at h
    cases hz:eF p R.k R.x (q8 d) with
    | none=>rw [hz] at h; simp at h
    | some zg=>
      rw [hz] at h
      simp only at h
      cases hl:tk.own.filter (fun t=>!az t R.own && az t d.1.tys && !az t zg.1.tys) with
      | nil=>rw [hl] at h; simp at h
      | cons a l=>
        rw [hl] at h
        simp only [ane] at h
        refine ⟨zg,(a :: l)++R.own,rfl,h.symm,fun t ht=>?_,c1, ?_,fun n hn=>?_⟩
        · cases hm:az t R.own with
          | true=>rw [aM] at hm ⊢; exact ang _ hm
          | false=>
            rw [aW] at hm ⊢
            intro h1
            rcases ann.1 h1 with h1 | h1
            · rw [<-hl] at h1
              have:=(anw.1 h1).2
              simp only [ank,an7,aW] at this
              exact this.2 ht
            · exact hm h1
        · rcases aol .. |>.mp c2 with h1 | h1
          · left; intro e; rw [e] at h1; simp at h1
          · right
            unfold Root.isVar at h1
            cases hk:R.kind with
            | var t=>exact ⟨t,rfl⟩
            | anon=>rw [hk] at h1; simp at h1
            | par=>rw [hk] at h1; simp at h1
            | dead=>rw [hk] at h1; simp at h1
        · have:=anu.1 c3 _ hn
          simp at this
theorem Hg {t:TypeId} {kk:K} {x:El kk} {Tj:List TypeId} {qH:List Tag} {um:List Wr} {QI:Bool} {cst:List Value} {fot:List Nat} {v:Value} {r:Nat} {R:Root} (ht:fM P T t kk)
    (H:Rel cx Z J F a w) (hr:aQ Z r R) (hv:bB Z R) {p:List Stp} {dd:Dat} (hg:aR p R.k R.x=some dd) (eZ:mG p R.k R.x) (hown:∀t∈ah p R.k,az t R.own=true)
    (k2:bD Z (aV Tj kk) qH=true) (k3:VC kk v cst) (k1:Held cx Z J F w kk x Tj qH cst fot)
    {cs1:List Value} {b o:Nat} (hn:bH (hp w) p R.k (J.hdr r) (dY J R r)=some (cs1,some (b,o))) {A:Type} {z:A} {k:List Wr->Prog A} {σ0:St} (h:(storeAt kk r p ⟨kk,x,Tj,qH,um,QI⟩ R dd k).ends σ0 z) :
    ∃w',(Instr.storeAt t (.pointer (some ⟨b,o,none⟩)) v).run P w=.ok () w'/\∃J' F',∃R',Rel cx (au Z r R') J' F' a w'/\(k (um++[.r r (some R')])).ends σ0 z:=by
  unfold storeAt at h
  rcases ay h with ⟨hc3,h⟩ | ⟨_,h⟩
  · simp only [ank] at hc3
    simp only [iW.bad] at hc3 h
    cases hz:eF p R.k R.x ⟨kk,x⟩ with
    | none=>rw [hz] at h; exact h.elim
    | some z=>
      rw [hz] at h
      simp only at h
      rcases ay h with ⟨_,h⟩ | ⟨_,h⟩
      · exact h.elim
      · obtain ⟨w',r1,J',F',r2⟩:=Td (P:=P) (z:=z) ht H hr hv hg hz eZ hown k1 k2 k3
          (by
            rcases aol .. |>.mp hc3.1.1 with h | h
            · exact .inl (K.eq_of_beq h)
            · exact .inr (K.eq_of_beq (ank .. |>.mp h).1))
          (by
            rcases aol .. |>.mp hc3.1.2 with h | h
            · exact .inl h
            · exact .inr h)
          (fun t ht=>by
            have:=anu.1 hc3.2 t ht
            simpa [aW] using this) (R.keep || QI) hn
        exact ⟨w',r1,J',F',_,r2,h⟩
  · exact h.elim
theorem Oi (hT:eG P T) (H:Rel cx Z J F a w) (hd:o.dst=none) {t:TypeId} {x y:Operand} (ho:o.op=.store t x y) {u v:AV} (h1:bN cx Z J F w u (a.eval x)) (h2:qM Z u) (h3:bN cx Z J F w v (a.eval y)) (h4:qM Z v)
    (h:(Ph T t u v fun ws=>(.ret ws:Prog (List Wr))).ends Z ws):pY P cx o a w (aB ws Z):=by
  unfold Ph at h
  cases hty:T.ty t with
  | none=>rw [hty] at h; exact h.elim
  | some kk=>
   rw [hty] at h
   cases u with
   | ptr r p n=>
    simp only at h
    have ht:=hT.ty t kk hty
    obtain ⟨tk,htk,h⟩:=qG H h3 h4 h
    rcases ay h with ⟨hc1,h⟩ | ⟨_,h⟩
    · simp only [ank] at hc1
      obtain ⟨R,hr,hv,h⟩:=bU h
      rcases ay h with ⟨hc2,h⟩ | ⟨_,h⟩
      · simp only [ank] at hc2
        cases hg:aR p R.k R.x with
        | none=>rw [hg] at h; exact h.elim
        | some dd=>
          rw [hg] at h
          simp only at h
          have hkk:tk.k=kk:=K.eq_of_beq hc1.1
          have Sc:=Yy hc1.2
          have hown:=jw hc2.1.2
          obtain ⟨eZ,cs,b,q,hn,e⟩:=h1.2 R hr.1 hv hc2.1.1 hown (by rw [hg]; rfl)
          have hap:=xP.1 hc2.2
          obtain ⟨dR,F1,cst,fot,lw,lh,H1,T1,k1,k2,k3,k4,k5,k6⟩:=take1 H htk
          have hS:=k6 r Sc
          have hr1:=(hS.live R).2 hr
          have hv1:bB (aB tk.ws Z) R:=⟨hv.1,by rw [fK (fun t ht=>(k6 t.1 (hap t ht)).root)]; exact hv.2⟩
          have hn1:bH (hp w) p R.k (dR.hdr r) (dY dR R r)=some (cs,some (b,q)):=by rw [hS.hdr,hS.wh]; exact hn
          obtain ⟨tkk,tkx,Tj,qH,um,QI⟩:=tk
          simp only at hkk
          subst hkk
          simp only [iW.bad] at k2 k3 h
          cases hrg:KM R r p dd ⟨tkk,tkx,Tj,qH,um,QI⟩ with
          | none=>
            rw [hrg] at h
            obtain ⟨w',r1,J',F',r2⟩:=Hg (P:=P) ht H1 hr1 hv1 hg eZ hown k3 k1 k2 hn1 h
            obtain ⟨R',r2,r3⟩:=r2
            rw [aD r3]
            refine ⟨undef,w',J',F', .inr ⟨?_,rfl⟩, ?_⟩
            · simp only [execOp,ho,e,anF,r1,anx,anK]
            · rw [hd,bZ]
              exact r2
          | some qq=>
            rw [hrg] at h
            simp only at h
            obtain ⟨hck,h⟩:=gG h
            obtain ⟨zg,own',g1,g2,g3,g4,g5,g6⟩:=O5 hrg
            subst g2
            simp only at hck h
            have hnt:=(H1.dG r R hr1.1).2.2
            obtain ⟨cs1,nG,fT,rest,hn',H2,T2,_,_,hpm⟩:=aeR (own':=own') H1 hr1 hv1 hg g1 eZ hown g5 g3
            rw [hn1] at hn'
            simp only [ane,anp] at hn'
            obtain ⟨rfl,rfl⟩:=hn'
            have hr2:aQ (au (aB um Z) r (fD R dd zg own')) r (fD R dd zg own'):=⟨aI ..,hr.2⟩
            have hv2:bB (au (aB um Z) r (fD R dd zg own')) (fD R dd zg own'):=⟨hv.1,by
              show bD _ _ R.tags=true
              rw [lF hnt,fK (fun t ht=>(k6 t.1 (hap t ht)).root)]
              exact hck⟩
            have k1':=k2.turn H1 T2 (fun b hb=>⟨rfl,ang _ (k2.sub b hb)⟩)
            have k2':bD (au (aB um Z) r (fD R dd zg own')) (aV Tj tkk) qH=true:=by rw [lF g6]; exact k3
            obtain ⟨f1,f2,f3,f4⟩:=I1 (h:=hp w) p g4 hg g1 (rY dd.1)
            have hsd:(aG dR r (dR.loc r) (dR.hdr r) rest).hdr r=dR.hdr r:=by simp [aG,upd_same]
            have aj9:dY (aG dR r (dR.loc r) (dR.hdr r) rest) (fD R dd zg own') r=dY dR R r:=by rw [kE,uZ (show (fD R dd zg own').kind=R.kind from rfl), <-uo]
            have hn2:bH (hp w) p (fD R dd zg own').k ((aG dR r (dR.loc r) (dR.hdr r) rest).hdr r) (dY (aG dR r (dR.loc r) (dR.hdr r) rest) (fD R dd zg own') r)=some (cs,some (b,q)):=by
              rw [hsd,aj9]
              exact (f4 _ _).trans hn1
            obtain ⟨w',r1,J',F',r2⟩:=Hg (P:=P) ht H2 hr2 hv2 f1 f2 (fun t ht=>by have ht':t∈ah p zg.1:=ht; rw [f3] at ht'; simp at ht') k2' k1 k1' hn2 h
            obtain ⟨R',r2,r3⟩:=r2
            rw [aD r3]
            refine ⟨undef,w',J',F', .inr ⟨?_,rfl⟩, ?_⟩
            · simp only [execOp,ho,e,anF,r1,anx,anK]
            · rw [hd,bZ]
              rw [EE] at r2
              exact r2
      · exact h.elim
    · exact h.elim
   | _=>exact h.elim
theorem UE {A:Type} {z:A} {x:AV} {kk:K} {yes:Nat->Nat->Prog A} {no:Prog A} (h:(XC x kk yes no).ends Z z):(∃r g R,x=.ref r g/\aQ Z r R/\bB Z R/\R.g=g/\R.k=kk/\(yes r g).ends Z z)\/no.ends Z z:=by
  cases x with
  | ref r g=>
    simp only [XC,Prog.ends] at h
    cases hr:Z.roots r with
    | none=>rw [hr] at h; exact .inr h
    | some R=>
      rw [hr] at h
      simp only at h
      rcases ay h with ⟨_,h⟩ | ⟨_,h⟩
      · obtain ⟨R',hr',hv,h⟩:=bU h
        rcases ay h with ⟨hc,h⟩ | ⟨_,h⟩
        · simp only [ank] at hc
          exact .inl ⟨r,g,R',rfl,hr',hv,ani hc.1,K.eq_of_beq hc.2,h⟩
        · exact h.elim
      · exact .inr h
  | _=>exact .inr h
theorem XH (H:Rel cx Z J F a w) (hd:o.dst=some d) (hdn:d<cx.nt) {t:TypeId} {x:Operand} (ho:o.op=.box t x)
    (h:(match T.ty t with
      | some kk=>dU x fun a=>XC a kk (fun r g=>.ret [Wr.s d (.one (.FM r g kk []))]) <| wG kk a fun tk=>bif tk.k.beq kk && !az t tk.bad then
          iL (aY d 0) (.ret (tk.ws++[Wr.r (aY d 0) (some (aK tk.k tk.x tk.own tk.iD (.var t) tk.keep)),Wr.s d (.one (.ptr (aY d 0) [] 0))]))
        else (.fail:Prog (List Wr))
      | none=>.fail).ends Z ws):pY P cx o a w (aB ws Z):=by
  split at h
  · rename_i kk hty
    obtain ⟨u,h1,h2,h⟩:=bY H h
    rcases UE h with ⟨r,g,R,eu,hr,hv,eg,ek,h5⟩ | h
    · subst eu eg ek
      obtain ⟨hka,BJ⟩:=h1 R hr rfl
      have hb0:∀b,b<w.heap.size->hp (w.alloc (.cells (a.eval x).cells t)) b=hp w b:=fun b hb=>mW w _ hb
      have H1:Rel cx Z J F a (w.alloc (.cells (a.eval x).cells t)):=H.UY rfl rfl (by show w.heap.size<=(w.heap.push _).size; simp) hb0 rfl
      have hnew:=o9 w (.cells (a.eval x).cells t)
      rw [aD h5]
      refine iF (v:=.pointer (some ⟨w.heap.size,0,none⟩)) (x:=.one (.FM r R.g R.k [])) H1 hd hdn (by simp only [execOp,ho,anF,Jq,anx,anK]) ⟨a.eval x,w.heap.size,0,R.k,rfl,⟨?_,fun hF=>?_,fun q Q hq hbq=>?_⟩,fun i hi=>?_,rfl,h1⟩ h2
      · show w.heap.size<(w.heap.push _).size; simp
      · have:=(H.fl _ hF).1; omega
      · have:=((H.roots q Q hq).mine _ hbq).1; omega
      · unfold cellAt
        rw [hnew]
        simp
    obtain ⟨tk,htk,h⟩:=qG H h1 h2 h
    rcases ay h with ⟨_,h⟩ | ⟨_,h⟩
    · obtain ⟨g1,g2⟩:=fC h
      rw [aD g2]
      obtain ⟨dR,F1,cst,fot,lw,lh,H1,T1,k1,k2,k3,k4,k5,k6⟩:=take1 H htk
      have hnr:aY d 0∉tk.ws.flatMap Wr.tF:=by
        intro hm
        cases htk with
        | held hws cs hv h hc=>rw [hws] at hm; simp at hm
        | ref r R hr hv e hk hd=>rw [e] at hm; simp only [anT,apl,anJ,Wr.tF,anz] at hm; rw [hm,hr.1] at g1; simp at g1
        | cut r R cs hr hv hk e hd hl Sg how=>rw [e.2.2.1] at hm; simp only [anT,apl,anJ,Wr.tF,anz] at hm; rw [hm,hr.1] at g1; simp at g1
        | gap r R p dd z hr hv hg hz eZ hown hpv e hn=>rw [e] at hm; simp only [anT,apl,anJ,Wr.tF,anz] at hm; rw [hm,hr.1] at g1; simp at g1
      have hn1:(aB tk.ws Z).roots (aY d 0)=none:=by rw [(k6 _ hnr).root]; exact g1
      obtain ⟨r1,J',F',r2,r3⟩:=PZ (P:=P) (t:=t) H1 hn1 (fE d 0) k2 k3 k1 tk.keep
      rw [bZ]
      exact iF (x:=.one (.ptr (aY d 0) [] 0)) r2 hd hdn (by simp only [execOp,ho,anF,r1,anx,anK]) r3 ⟨_,aI .., .inr (anO _)⟩
    · exact h.elim
  · exact h.elim
theorem Mx {B:Type} {z:B} (hT:eG P T) (H:Rel cx Z J F a w) {t:TypeId} {x:Operand} {v:AV} {rH:Bool} (ho:o.op=.load t x) (h1:bN cx Z J F w v (a.eval x)) (h2:qM Z v) {k:AV->Prog B}
    (h:(BO T rH t v k).ends Z z):∃u v',(execOp a.eval o).run P w=.ok (.value v') w/\bN cx Z J F w u v'/\qM Z u/\(k u).ends Z z:=by
  unfold BO at h
  split at h
  · exact h.elim
  · rename_i kk hty
    have ht:=hT.ty t kk hty
    obtain ⟨s1,s2,s3⟩:=ht.shape
    split at h
    · rename_i r g k0 p
      obtain ⟨u,b,off,k1,e,hq,hC,ho1,hR⟩:=h1
      obtain ⟨R,hr,hv,h⟩:=bU h
      rcases ay h with ⟨hc,h⟩ | ⟨_,h⟩
      · simp only [ank] at hc
        cases hg:aR p R.k R.x with
        | none=>rw [hg] at h; exact h.elim
        | some dd=>
          rw [hg] at h
          simp only at h
          obtain ⟨dk,dx⟩:=dd
          rcases beq_true h with ⟨ek,h5⟩ | ⟨_,h⟩
          · simp only at ek
            subst ek
            have hk0:=K.eq_of_beq hc.1.2
            subst hk0
            obtain ⟨hka,BJ⟩:=hR R hr (ani hc.1.1)
            rw [BJ.cells] at hC
            have hwn:dY J R r=none:=by unfold dY; rw [hka]
            obtain ⟨g1,g2,g3,g4,g5⟩:=F6 (h:=hp w) p hg ho1 (H.roots r R hr).len
            simp only at g1
            subst g1
            have hown:∀t∈ah p R.k,az t R.own=true:=fun t ht=>by rw [g5] at ht; simp at ht
            have hn:bH (hp w) p R.k (J.hdr r) (dY J R r)=some (((J.hdr r).drop off).take k1.size,none):=by rw [hwn]; exact g3
            obtain ⟨fT,hO,hf⟩:=rC H hr hv hg g4 hown hn
            have hV:=oG H hr hO hf
            have hcs:Cells (hp w) b off (((J.hdr r).drop off).take k1.size):=by
              intro i hi
              have hi':i<k1.size:=by rw [zV g2] at hi; exact hi
              have:=hC (off+i) (by omega)
              rw [anY] at this
              rw [this,apn hi',apo]
            obtain ⟨u',hu⟩:=VC.mk s1 s2 s3 hV
            have hrun:=sD (P:=P) ht hcs (mh hV) hu
            have hrun':(execOp a.eval o).run P w=.ok (.value u') w:=by simp only [execOp,ho,e,anF,hrun,anx,anK]
            rcases ay h5 with ⟨hf,h6⟩ | ⟨_,h6⟩
            · exact ⟨.val k1 dx [],u',hrun',fun _=>⟨_,hu,jA hf hV⟩,fun t ht=>by simp at ht,h6⟩
            · exact ⟨.rH r p R.qJ,u',hrun',yQ (cx:=cx) (F:=F) hr hg g4 hown hn hu,⟨R,hr.1, .inr (anv _)⟩,h6⟩
          · exact h.elim
      · exact h.elim
    rcases xO H h1 h2 h with ⟨r,R,p,dd,cs,b,q,hr,hv,hg,eZ,hown,hn,e,h⟩ | ⟨bt,dd,Tg,b,q,cs,hw,e,hcs,hV,hok,hb,h⟩
    · obtain ⟨hC,⟨fT,hO,hf⟩,_⟩:=pV H hr hv hg eZ hown hn
      obtain ⟨dk,dx⟩:=dd
      rcases beq_true h with ⟨ek,h5⟩ | ⟨_,h⟩
      · simp only at ek
        subst ek
        clear h
        have h:=h5
        clear h5
        have hV:=oG H hr hO hf
        obtain ⟨u,hu⟩:=VC.mk s1 s2 s3 hV
        have hrun:=sD (P:=P) ht hC (mh hV) hu
        have hrun':(execOp a.eval o).run P w=.ok (.value u) w:=by simp only [execOp,ho,e,anF,hrun,anx,anK]
        rcases ay h with ⟨_,h⟩ | ⟨_,h⟩
        · exact ⟨.rH r p R.qJ,u,hrun',yQ (cx:=cx) (F:=F) hr hg eZ hown hn hu,⟨R,hr.1, .inr (anv _)⟩,h⟩
        · exact ⟨.val dk dx _,u,hrun',fun _=>⟨cs,hu,hV⟩,Ji H hr _,h⟩
      · exact h.elim
    · obtain ⟨dk,dx⟩:=dd
      rcases beq_true h with ⟨ek,h5⟩ | ⟨_,h⟩
      · simp only at ek
        subst ek
        clear h
        have h:=h5
        clear h5
        obtain ⟨u,hu⟩:=VC.mk s1 s2 s3 hV
        have hrun:=sD (P:=P) ht hcs (mh hV) hu
        have hrun':(execOp a.eval o).run P w=.ok (.value u) w:=by simp only [execOp,ho,e,anF,hrun,anx,anK]
        refine ⟨.val dk dx _,u,hrun',fun _=>⟨cs,hu, ?_⟩, ?_,h⟩
        · cases hf:dk.flat with
          | true=>exact jA hf hV
          | false=>exact hV
        · cases hf:dk.flat with
          | true=>intro t ht; simp at ht
          | false=>exact hw
      · exact h.elim
theorem UH (hT:eG P T) (H:Rel cx Z J F a w) (hd:o.dst=some d) (hdn:d<cx.nt) {t:TypeId} {x:Operand} {rH:Bool} (ho:o.op=.load t x)
    (h:(dU x fun v=>BO T rH t v fun u=>(.ret [Wr.s d (.one u)]:Prog (List Wr))).ends Z ws):pY P cx o a w (aB ws Z):=by
  obtain ⟨v,h1,h2,h⟩:=bY H h
  obtain ⟨u,v',g1,g2,g3,h⟩:=Mx hT H ho h1 h2 h
  rw [aD h]
  exact bR H hd hdn g1 g2 g3
theorem LM (hT:eG P T) (H:Rel cx Z J F a w) (hd:o.dst=some d) (hdn:d<cx.nt) {t:TypeId} {x:Operand} (ho:o.op=.load t x)
    (h:(dU x fun v=>BO T true t v fun u=>match T.ty t with
      | some kk=>wG kk u fun tk=>iL (aY d 0) (.ret (tk.ws++[Wr.r (aY d 0) (some (aK tk.k tk.x tk.own tk.iD .anon tk.keep)),Wr.s d (.one (.ref (aY d 0) 0))]))
      | none=>(.fail:Prog (List Wr))).ends Z ws):pY P cx o a w (aB ws Z):=by
  obtain ⟨v,h1,h2,h⟩:=bY H h
  obtain ⟨u,v',hrun,g4,g5,h⟩:=Mx hT H ho h1 h2 h
  split at h
  · rename_i kk hty
    obtain ⟨tk,htk,h⟩:=qG H g4 g5 h
    obtain ⟨g1,g2⟩:=fC h
    rw [aD g2]
    obtain ⟨dR,F1,cst,fot,lw,lh,H1,T1,k1,k2,k3,k4,k5,k6⟩:=take1 H htk
    have hnr:aY d 0∉tk.ws.flatMap Wr.tF:=by
      intro hm
      cases htk with
      | held hws cs hv h hc=>rw [hws] at hm; simp at hm
      | ref r R hr hv e hk hd=>rw [e] at hm; simp only [anT,apl,anJ,Wr.tF,anz] at hm; rw [hm,hr.1] at g1; simp at g1
      | cut r R cs hr hv hk e hd hl Sg how=>rw [e.2.2.1] at hm; simp only [anT,apl,anJ,Wr.tF,anz] at hm; rw [hm,hr.1] at g1; simp at g1
      | gap r R p dd z hr hv hg hz eZ hown hpv e hn=>rw [e] at hm; simp only [anT,apl,anJ,Wr.tF,anz] at hm; rw [hm,hr.1] at g1; simp at g1
    have hn1:(aB tk.ws Z).roots (aY d 0)=none:=by rw [(k6 _ hnr).root]; exact g1
    obtain ⟨J',r2,r3⟩:=w9 (F':=F1.filter fun b=>!az b fot) H1 hn1 (fE d 0) k2.sub k2.nd (zW k2.wt)
      (fun b hb=>by
        obtain ⟨q1,q2⟩:=anw.1 hb
        simp only [an7,aW] at q2
        exact ⟨q1,q2⟩) (H1.xK.filter _) k2.len
      (fun hcl=>by
        cases hb:tk.bad with
        | nil=>exact gI hb (k2.ow k3)
        | cons t0 l=>
          have et:tk.iD=tk.tags:=by
            unfold iW.iD
            rw [hb]
          rw [et] at hcl ⊢
          exact bE (fun _ _=>rfl) (fun b h=>.inl h) (fun _ _=>rfl) (k2.ow hcl)) k1 tk.keep
    rw [bZ]
    exact iF (x:=.one (.ref (aY d 0) 0)) r2 hd hdn hrun r3 ⟨_,aI .., .inr (anO _)⟩
  · exact h.elim
end
end
section
open Go
variable [Fr]
theorem Li {h:Heap} {ok:Nat->Prop}:∀(n:Nat) {c:K} {x:El c} {cs:List Value} {d:Dat},Vw h ok c x cs->aP n c x=some d->∃off,bG n c=some (off,d.1)/\Vw h ok d.1 d.2 ((cs.drop off).take d.1.size):=by
 intro n
 induction n with
 | zero=>
  intro c x cs d H hg
  cases c with
  | pair a b=>
   simp only [aP,ane] at hg
   subst hg
   obtain ⟨c1,c2,rfl,h1,h2⟩:=H
   refine ⟨0,rfl, ?_⟩
   have:=mh h1
   simpa [<-this] using h1
  | _=>simp [aP] at hg
 | succ n ih=>
  intro c x cs d H hg
  cases c with
  | pair a b=>
   simp only [aP] at hg
   obtain ⟨c1,c2,rfl,h1,h2⟩:=H
   obtain ⟨off,g1,g2⟩:=ih h2 hg
   refine ⟨a.size+off,by simp [bG,g1], ?_⟩
   have:=mh h1
   rw [<-this, <-aoL]
   simpa using g2
  | _=>simp [aP] at hg
theorem DZ:∀(p:List Stp) {q:List Stp} {k:K} {x:El k} {d:Dat},aR p k x=some d->aR (p++q) k x=aR q d.1 d.2:=by
 intro p
 induction p with
 | nil=>intro q k x d h; simp only [aR,ane] at h; subst h; rfl
 | cons s p ih=>
  intro q k x d h
  cases s with
  | gu n=>
   cases k with
   | st c=>
    simp only [aR,anW] at h ⊢
    cases hg:aP n c x with
    | none=>rw [hg] at h; simp at h
    | some s=>rw [hg] at h; exact ih h
   | _=>simp [aR] at h
  | idx i=>
   cases k with
   | sl e k=>simp only [aR,anW] at h ⊢; exact ih h
   | _=>simp [aR] at h
theorem Al:∀(p:List Stp) {q:List Stp} {k:K} {x:El k} {d:Dat},aR p k x=some d->mG p k x->mG q d.1 d.2->mG (p++q) k x:=by
 intro p
 induction p with
 | nil=>intro q k x d h _ h2; simp only [aR,ane] at h; subst h; exact h2
 | cons s p ih=>
  intro q k x d h h1 h2
  cases s with
  | gu n=>
   cases k with
   | st c=>
    simp only [aR,mG,anW] at h h1 ⊢
    cases hg:aP n c x with
    | none=>rw [hg] at h; simp at h
    | some s=>rw [hg] at h h1; exact ih h h1 h2
   | _=>simp [aR] at h
  | idx i=>
   cases k with
   | sl e k=>simp only [aR,mG,anW] at h h1 ⊢; exact ⟨h1.1,h1.2.1,ih h h1.2.2 h2⟩
   | _=>simp [aR] at h
theorem zn:∀(p:List Stp) {q:List Stp} {k:K} {x:El k} {d:Dat},aR p k x=some d->ah (p++q) k=ah p k++ah q d.1:=by
 intro p
 induction p with
 | nil=>intro q k x d h; simp only [aR,ane] at h; subst h; rfl
 | cons s p ih=>
  intro q k x d h
  cases s with
  | gu n=>
   cases k with
   | st c=>
    simp only [aR,ah,anW] at h ⊢
    cases hg:aP n c x with
    | none=>rw [hg] at h; simp at h
    | some s=>rw [hg] at h; rw [cB n hg]; exact ih h
   | _=>simp [aR] at h
  | idx i=>
   cases k with
   | sl e k=>simp only [aR,ah,anW] at h ⊢; rw [ih h]
   | _=>simp [aR] at h
theorem zh {h:Heap}:∀(p:List Stp) {q:List Stp} {k:K} {x:El k} {d:Dat} {cs:List Value} {wh:Option (Nat×Nat)} {c1:List Value} {w1:Option (Nat×Nat)},aR p k x=some d->bH h p k cs wh=some (c1,w1)->bH h (p++q) k cs wh=bH h q d.1 c1 w1:=by
 intro p
 induction p with
 | nil=>
  intro q k x d cs wh c1 w1 h h1
  simp only [aR,ane] at h
  subst h
  simp only [bH,ane,anp] at h1
  obtain ⟨rfl,rfl⟩:=h1
  rfl
 | cons s p ih=>
  intro q k x d cs wh c1 w1 h h1
  cases s with
  | gu n=>
   cases k with
   | st c=>
    simp only [aR,bH,anW] at h h1 ⊢
    cases hg:aP n c x with
    | none=>rw [hg] at h; simp at h
    | some s=>
     rw [hg] at h
     cases ho:bG n c with
     | none=>rw [ho] at h1; simp at h1
     | some q2=>
      rw [ho] at h1
      have hk:=xU n (c:=c) hg ho
      obtain ⟨o2,k2⟩:=q2
      simp only at hk
      subst hk
      exact ih h h1
   | _=>simp [aR] at h
  | idx i=>
   cases k with
   | sl e k=>
    simp only [aR,anW] at h
    simp only [bH,anW] at h1 ⊢
    split at h1
    ·exact ih h h1
    ·simp at h1
   | _=>simp [aR] at h
theorem Fv {a b:K} (h:a.beq b=true):a.size=b.size:=by rw [K.eq_of_beq h]
theorem Sy:∀{a b:K},a.like b=true->a.size=b.size:=by
 intro a
 induction a with
 | gap n=>intro b h; simp only [K.like] at h; exact ani h
 | pair a b iha ihb=>
  intro c h
  cases c with
  | pair c d=>simp only [K.like,ank] at h; simp [K.size,iha h.1,ihb h.2]
  | _=>exact Fv (by simpa [K.like] using h)
 | st f ih=>
  intro b h
  cases b with
  | st g=>simp only [K.like] at h; exact ih (b:=g) h
  | _=>exact Fv (by simpa [K.like] using h)
 | _=>intro b h; exact Fv (by simpa [K.like] using h)
theorem VO:∀(n:Nat) {a b:K} {off:Nat} {k:K},a.like b=true->bG n a=some (off,k)->∃k',bG n b=some (off,k'):=by
 intro n
 induction n with
 | zero=>
  intro a b off k h ho
  cases a with
  | pair a1 a2=>
   simp only [bG,ane,anp] at ho
   cases b with
   | pair b1 b2=>exact ⟨b1,by simp [bG,ho.1]⟩
   | _=>simp [K.like,K.beq] at h
  | _=>simp [bG] at ho
 | succ n ih=>
  intro a b off k h ho
  cases a with
  | pair a1 a2=>
   simp only [bG] at ho
   cases h2:bG n a2 with
   | none=>rw [h2] at ho; simp at ho
   | some q=>
    rw [h2] at ho
    simp only [ane,anp] at ho
    cases b with
    | pair b1 b2=>
     simp only [K.like,ank] at h
     obtain ⟨k',h3⟩:=ih (off:=q.1) (k:=q.2) h.2 (by rw [h2])
     exact ⟨k',by simp [bG,h3, <-ho.1,Sy h.1]⟩
    | _=>simp [K.like,K.beq] at h
  | _=>simp [bG] at ho
section
variable {P:Program} {T:jh} {cx:Cx} {Z:St} {J:dP} {F:List Nat} {a:Act} {w:World} {o:Oper} {d:Nat} {ws:List Wr}
theorem M4 {t:TypeId} {c:K} (h:fM P T t (.st c)) {n off:Nat} {k:K} (ho:bG n c=some (off,k)) (b q:Nat) :
  (Instr.fieldAt t (.pointer (some ⟨b,q,none⟩)) n).run P w=.ok (.pointer (some ⟨b,q+off,none⟩)) w:=by
 obtain ⟨fs,hu,hf⟩:=h.st
 obtain ⟨f,f1,f2,f3,f4⟩:=structField n hf ho
 have f1':fs[n]?=some f:=by rw [<-apt]; exact f1
 unfold Instr.fieldAt Instr.sureAddr fieldPlace
 simp only [anF,aoR hu,Result.andThen,f1',anK,f3.info.sizeOf w,Sem.run_ite]
 rw [aok (by omega),addr_add]
 simp [show f.offset=off from by omega]
theorem RL (hT:eG P T) (H:Rel cx Z J F a w) (hd:o.dst=some d) (hdn:d<cx.nt) {t:TypeId} {x:Operand} {n:Nat} (ho:o.op=.field t x n)
  (h:(match T.ty t with
   | some kk=>dU x fun a=>F3 kk a n fun u=>.ret [Wr.s d (.one u)]
   | none=>(.fail:Prog (List Wr))).ends Z ws):pY P cx o a w (aB ws Z):=by
 split at h
 case h_2=>exact h.elim
 rename_i kk hty
 have ht:=hT.ty t kk hty
 obtain ⟨v,h1,h2,h⟩:=bY H h
 have I9:∀{c:K} {cs:List Value} {off:Nat} {k:K},kk=.st c->a.eval x=.agg cs.toArray->bG n c=some (off,k)->cs.length=c.size->(∀v∈cs,v.oneCell'=true)->
   ∃u,(execOp a.eval o).run P w=.ok (.value u) w/\VC k u ((cs.drop off).take k.size):=by
  intro c cs off k ek ev hoff hl h1
  subst ek
  obtain ⟨u,g1,g2⟩:=S9 (w:=w) ht hoff hl h1
  exact ⟨u,by simp only [execOp,ho,ev,anF,g1,anx,anK],g2⟩
 have key:∀{r:Nat} {R:Root} {p:List Stp} {d0 dd:Dat} {cs:List Value} {wh:Option (Nat×Nat)},aQ Z r R->bB Z R->aR p R.k R.x=some d0->d0.1=kk->aR (p++[.gu n]) R.k R.x=some dd->mG p R.k R.x->(∀t∈ah p R.k,az t R.own=true)->
   bH (hp w) p R.k (J.hdr r) (dY J R r)=some (cs,wh)->VC d0.1 (a.eval x) cs->
   ∃u,(execOp a.eval o).run P w=.ok (.value u) w/\bN cx Z J F w (.rH r (p++[.gu n]) R.qJ) u/\(dd.1.flat=true->bN cx Z J F w (.val dd.1 dd.2 []) u):=by
  intro r R p d0 dd cs wh hr hv hg0 e0 hg eZ hown hn BJ
  obtain ⟨k0,x0⟩:=d0
  simp only at e0
  subst e0
  have hg1:=DZ p (q:=[.gu n]) hg0
  rw [hg] at hg1
  have hpt:=zn p (q:=[.gu n]) hg0
  cases k0 with
  | st c=>
   simp only [aR] at hg1
   cases hcg:aP n c x0 with
   | none=>rw [hcg] at hg1; simp at hg1
   | some s=>
    rw [hcg] at hg1
    simp only [aR,ane] at hg1
    subst hg1
    obtain ⟨fT,hO,hf⟩:=rC H hr hv hg0 eZ hown hn
    obtain ⟨off,pre,cs1,post,Zd,fr,ho1,ec,hl,hp,hd2,_⟩:=EJ n (show Ow _ _ _ c x0 cs fT from hO) hcg
    have hsub:(cs.drop off).take s.1.size=cs1:=by rw [ec]; exact pX hl (cZ hd2)
    obtain ⟨u,r1,r2⟩:=I9 rfl BJ ho1 (cZ (k:=c) hO) (JM ht.eY hO)
    rw [hsub] at r2
    refine ⟨u,r1,yQ (cs:=cs1) (wh:=wh.map fun q=>(q.1,q.2+off)) hr hg ?_ ?_ ?_ r2,fun hfl=>fun _=>⟨cs1,r2,jA hfl (lU (fun _=>True) (fun _ _=>trivial) (fun _ _=>trivial) hd2)⟩⟩
    ·exact Al p hg0 eZ (by simp only [mG,hcg])
    ·rw [hpt]
     intro t ht
     rcases ann.1 ht with h | h
     ·exact hown t h
     ·simp [ah,cB n hcg] at h
    ·rw [zh p hg0 hn]
     simp only [bH]
     rw [ho1]
     simp only
     rw [hsub]
  | _=>simp [aR] at hg1
 cases v with
 | val k0 y Tg=>
  cases k0 with
  | st c=>
   simp only [F3] at h
   rcases ay h with ⟨hc,h⟩ | ⟨_,h⟩
   ·have ek:=K.eq_of_beq hc
    cases hg:aP n c y with
    | none=>rw [hg] at h; exact h.elim
    | some dd=>
     rw [hg] at h
     obtain ⟨g1,g2⟩:=gG h
     rw [aD g2]
     obtain ⟨cs,hv,hV⟩:=h1 (.inr g1)
     obtain ⟨off,ho1,ho2⟩:=Li n (show Vw _ _ c y cs from hV) hg
     obtain ⟨u,r1,r2⟩:=I9 ek.symm hv ho1 (mh (k:=c) hV) (JQ (k:=.st c) (by rw [ek]; exact ht.eY) hV)
     refine bR H hd hdn r1 (show bN cx Z J F w (.val dd.1 dd.2 _) u from fun _=>⟨_,r2, ?_⟩) ?_
     ·cases hf:dd.1.flat with
      | true=>exact jA hf ho2
      | false=>exact ho2
     ·cases hf:dd.1.flat with
      | true=>intro t ht; simp at ht
      | false=>exact h2
   ·exact h.elim
  | _=>exact h.elim
 | ref r g=>
  simp only [F3] at h
  obtain ⟨R,hr,hv,h⟩:=bU h
  rcases ay h with ⟨hc,h5⟩ | ⟨_,h⟩
  ·simp only [ank] at hc
   obtain ⟨hka,BJ⟩:=h1 R hr (ani hc.1)
   have ek:=K.eq_of_beq hc.2
   cases hg:aR [.gu n] R.k R.x with
   | none=>rw [hg] at h5; exact h5.elim
   | some dd=>
    rw [hg] at h5
    simp only at h5
    obtain ⟨u,r1,r2,r3⟩:=key (p:=[]) (d0:=⟨R.k,R.x⟩) hr hv rfl ek hg trivial (fun t ht=>by simp [ah] at ht) rfl BJ
    rcases ay h5 with ⟨hf,h6⟩ | ⟨_,h6⟩
    ·rw [aD h6]
     exact bR H hd hdn r1 (r3 hf) (fun t ht=>by simp at ht)
    ·rw [aD h6]
     exact bR (x:=.one (.rH r [.gu n] R.qJ)) H hd hdn r1 r2 ⟨R,hr.1, .inr (anv _)⟩
  ·exact h.elim
 | rH r p nn=>
  simp only [F3] at h
  obtain ⟨R,hr,hv,h⟩:=bU h
  rcases ay h with ⟨hc,h5⟩ | ⟨_,h⟩
  ·cases hg0:aR p R.k R.x with
   | none=>rw [hg0] at h5; exact h5.elim
   | some d0=>
    cases hg:aR (p++[.gu n]) R.k R.x with
    | none=>rw [hg0,hg] at h5; exact h5.elim
    | some dd=>
     rw [hg0,hg] at h5
     simp only at h5
     rcases ay h5 with ⟨_,h6⟩ | ⟨hk,h6⟩
     ·exact h6.elim
     ·have ek:d0.1=kk:=K.eq_of_beq (by simpa using hk)
      obtain ⟨g1,g2,cs,wh,g3,g4⟩:=h1 R hr.1 hv (ani hc) d0 hg0
      obtain ⟨u,r1,r2,r3⟩:=key hr hv hg0 ek hg g1 g2 g3 g4
      rcases ay h6 with ⟨hf,h7⟩ | ⟨_,h7⟩
      ·rw [aD h7]
       exact bR H hd hdn r1 (r3 hf) (fun t ht=>by simp at ht)
      ·rw [aD h7]
       exact bR (x:=.one (.rH r (p++[.gu n]) R.qJ)) H hd hdn r1 (show jG cx Z J F w (.one (.rH r (p++[.gu n]) R.qJ)) u from r2) ⟨R,hr.1, .inr (anv _)⟩
  ·exact h.elim
 | _=>exact h.elim
theorem Ie (hT:eG P T) (H:Rel cx Z J F a w) (hd:o.dst=some d) (hdn:d<cx.nt) {t:TypeId} {x:Operand} {n:Nat} (ho:o.op=.fieldAddr t x n)
  (h:(match T.ty t with
   | some kk=>dU x fun a=>vB kk a n fun u=>.ret [Wr.s d (.one u)]
   | none=>(.fail:Prog (List Wr))).ends Z ws):pY P cx o a w (aB ws Z):=by
 split at h
 case h_2=>exact h.elim
 rename_i kk hty
 have ht:=hT.ty t kk hty
 obtain ⟨v,h1,h2,h⟩:=bY H h
 have hrun:∀{c:K} {off:Nat} {k:K} {b q:Nat},kk=.st c->bG n c=some (off,k)->a.eval x=.pointer (some ⟨b,q,none⟩)->(execOp a.eval o).run P w=.ok (.value (.pointer (some ⟨b,q+off,none⟩))) w:=by
  intro c off k b q ek hoff ev
  subst ek
  have:=M4 (w:=w) ht hoff b q
  simp only [execOp,ho,ev,anF,this,anx,anK]
 cases v with
 | ptr r p m=>
  simp only [vB,Prog.ends] at h
  cases hr0:Z.roots r with
  | none=>rw [hr0] at h; exact h.elim
  | some R=>
   rw [hr0] at h
   simp only at h
   cases hg:aR p R.k R.x with
   | none=>rw [hg] at h; exact h.elim
   | some d0=>
    rw [hg] at h
    simp only at h
    rcases ay h with ⟨hc,h5⟩ | ⟨_,h5⟩
    ·simp only [ank] at hc
     rw [aD h5]
     unfold Kl at hc
     cases kk with
     | st c=>
      obtain ⟨off,kf,hoff⟩:=J5 n hc.2
      obtain ⟨⟨b,q,ev⟩,h1'⟩:=h1
      refine bR (x:=.one (.ptr r (p++[.gu n]) m)) H hd hdn (hrun rfl hoff ev) ⟨⟨b,q+off,rfl⟩, ?_⟩ h2
      intro R' hR' hv hcl hown hs
      rw [hr0] at hR'
      simp only [ane] at hR'
      subst hR'
      have hpt:=zn p (q:=[.gu n]) hg
      have e0:ah [.gu n] d0.1=[]:=by
       obtain ⟨dk,dx⟩:=d0
       cases dk with
       | st c'=>
        simp only [ah]
        cases ah.Eo n c' <;> rfl
       | _=>rfl
      rw [e0,anJ] at hpt
      have hcl':clean R.h m (eT p R.k)=true:=by
       unfold clean at hcl ⊢
       rw [anu] at hcl ⊢
       intro t ht
       have:=hcl t ht
       simp only [an7,aW] at this ⊢
       intro h6
       refine this ?_
       have e1:eT (p++[.gu n]) R.k=qh :: ah (p++[.gu n]) R.k:=by cases p <;> rfl
       rw [e1,hpt]
       cases p with
       | nil=>simp [eT] at h6
       | cons s p=>exact h6
      rw [hpt] at hown
      obtain ⟨g1,cs,b',q',g2,g3⟩:=h1' R hr0 hv hcl' hown (by rw [hg]; rfl)
      rw [ev] at g3
      simp only [Value.pointer.injEq,ane,an8,an9] at g3
      obtain ⟨rfl,rfl⟩:=g3
      have hga:=DZ p (q:=[.gu n]) hg
      rw [hga] at hs
      obtain ⟨dk,dx⟩:=d0
      cases dk with
      | st c'=>
       simp only [aR] at hs
       cases hcg:aP n c' dx with
       | none=>rw [hcg] at hs; simp at hs
       | some s=>
        have hck:(ah.Eo n c').isSome=true:=by rw [cB n hcg]; rfl
        obtain ⟨off',kf',Zo⟩:=J5 n hck
        have hl:c'.like c=true:=hc.1
        obtain ⟨kf2,Vl⟩:=VO n hl Zo
        rw [hoff] at Vl
        simp only [ane,anp] at Vl
        refine ⟨Al p hg g1 (by simp only [mG,hcg]),(cs.drop off').take kf'.size,b,q+off, ?_,rfl⟩
        rw [zh p hg g2]
        simp only [bH]
        rw [Zo]
        simp [Vl.1]
      | _=>simp [aR] at hs
     | _=>simp at hc
    ·exact h5.elim
 | jE bt k0 y Tg=>
  cases k0 with
  | st c=>
   simp only [vB] at h
   rcases ay h with ⟨hc,h5⟩ | ⟨_,h5⟩
   ·have ek:=K.eq_of_beq hc
    cases hg:aP n c y with
    | none=>rw [hg] at h5; exact h5.elim
    | some dd=>
     rw [hg] at h5
     obtain ⟨g1,g2⟩:=gG h5
     rw [aD g2]
     obtain ⟨b,q,cs,e,hcs,hV,hok,hb⟩:=h1.2 g1
     obtain ⟨off,ho1,ho2⟩:=Li n (show Vw _ _ c y cs from hV) hg
     have hle:=FH n ho1
     have hlen:=mh (k:=c) hV
     refine bR (x:=.one (.jE bt dd.1 dd.2 Tg)) H hd hdn (hrun ek.symm ho1 e) ⟨⟨b,q+off,rfl⟩,fun _=>⟨b,q+off,_,rfl, ?_,ho2,hok,hb⟩⟩ h2
     intro i hi
     simp only [aoX,ao5] at hi
     rw [aoK,hcs (off+i) (by omega)]
     rw [apn (by omega),apo]
   ·exact h5.elim
  | _=>exact h.elim
 | FM r g k0 p=>
  simp only [vB] at h
  cases hk:Jd p k0 with
  | none=>rw [hk] at h; exact h.elim
  | some k1=>
   rw [hk] at h
   simp only at h
   rcases ay h with ⟨hc,h5⟩ | ⟨_,h5⟩
   ·simp only [ank] at hc
    rw [aD h5]
    have ek:=K.eq_of_beq hc.1
    subst ek
    obtain ⟨u,b,off,k2,e,hq,hC,ho1,hR⟩:=h1
    have e2:=Sr p hk ho1
    subst e2
    unfold Kl at hc
    cases k2 with
    | st c=>
     obtain ⟨o2,kf,hoff⟩:=J5 n hc.2
     exact bR (x:=.one (.FM r g k0 (p++[.gu n]))) H hd hdn (hrun rfl hoff e) ⟨u,b,off+o2,kf,rfl,hq,hC,Ik p ho1 rfl hoff,hR⟩ h2
    | _=>simp at hc
   ·exact h5.elim
 | _=>exact h.elim
theorem run_indexAt {t e:TypeId} {k:K} (h:fM P T t (.sl e k)) {ik:IntKind} {i:Int} {b q n c:Nat} (h0:0<=i) (h1:i<(n:Int)) :
  (Instr.indexAt t (.slice (some ⟨b,q,none⟩) n c) (.int ik i)).run P w=.ok (.pointer (some ⟨b,q+i.toNat * k.size,none⟩)) w:=by
 obtain ⟨hu,he,_,_⟩:=h.sl
 unfold Instr.indexAt
 simp [asIntOf,aoR hu,Result.andThen,h0,h1,he.info.sizeOf w,addr_add]
end
end
section
open Go
variable [Fr]
section
variable {P:Program} {T:jh} {cx:Cx} {Z:St} {J:dP} {F:List Nat} {a:Act} {w:World} {o:Oper} {d:Nat} {ws:List Wr}
theorem A9 {e:TypeId} {k:K} {v:Value} {cs:List Value} {h:Heap} {ok:Nat->Prop} {xs:List (El k)} (hv:VC (.sl e k) v cs) (hV:Vw h ok (.sl e k) xs cs) :
  ∃b n c,v=.slice b n c/\cs=[.slice b n c]/\n=xs.length/\n<=c/\(0<n->∃bb q,b=some ⟨bb,q,none⟩/\ok bb/\vo h bb e/\∀(i:Nat) (hi:i<xs.length),∃ds,Cells h bb (q+i * k.size) ds/\Vw h ok k xs[i] ds):=by
 obtain ⟨b,n,c,e1,e2,e3,e4⟩:=hV
 obtain ⟨e5,_⟩:cs=[v]/\_:=hv
 rw [e1] at e5
 simp only [apr,an9] at e5
 exact ⟨b,n,c,e5.symm,e1,e2,e3,e4⟩
theorem Ig (hT:eG P T) (H:Rel cx Z J F a w) (hd:o.dst=some d) (hdn:d<cx.nt) {t:TypeId} {x y:Operand} (ho:o.op=.indexAddr t x y)
  (h:(match T.ty t with
   | some kk=>dU x fun a=>dU y fun i=>asInt i fun _ i=>vE kk a i fun u=>.ret [Wr.s d (.one u)]
   | none=>(.fail:Prog (List Wr))).ends Z ws):pY P cx o a w (aB ws Z):=by
 split at h
 case h_2=>exact h.elim
 rename_i k0 hty
 have ht:=hT.ty t k0 hty
 obtain ⟨v,h1,h2,h⟩:=bY H h
 obtain ⟨vi,h3,_,h⟩:=bY H h
 obtain ⟨ik,i,ei,_,h⟩:=xe h3 h
 have hrun:∀{e:TypeId} {k:K} {b q n c:Nat},k0=.sl e k->a.eval x=.slice (some ⟨b,q,none⟩) n c->0<=i->i<(n:Int)->(execOp a.eval o).run P w=.ok (.value (.pointer (some ⟨b,q+i.toNat * k.size,none⟩))) w:=by
  intro e k b q n c ek ev g0 g1
  subst ek
  have:=run_indexAt (w:=w) (ik:=ik) (b:=b) (q:=q) (c:=c) ht g0 g1
  simp only [execOp,ho,ev,ei,anF,this,anx,anK]
 have key:∀{r:Nat} {R:Root} {p:List Stp} {e:TypeId} {kk:K} {xs:List (El kk)} {cs:List Value} {wh:Option (Nat×Nat)},aQ Z r R->bB Z R->aR p R.k R.x=some ⟨.sl e kk,xs⟩->K.sl e kk=k0->mG p R.k R.x->(∀t∈ah p R.k,az t R.own=true)->
   bH (hp w) p R.k (J.hdr r) (dY J R r)=some (cs,wh)->VC (.sl e kk) (a.eval x) cs->aL i xs.length->
   ∃u,(execOp a.eval o).run P w=.ok (.value u) w/\bN cx Z J F w (.ptr r (p++[.idx i]) (gY R.h)) u/\bN cx Z J F w (.jE e kk (xs.getD i.toNat kk.zero) (R.out r (.sl e kk))) u:=by
  intro r R p e kk xs cs wh hr hv hg ek eZ hown hn BJ hin
  obtain ⟨fT,hO,hf⟩:=rC H hr hv hg eZ hown hn
  have hV:=oG H hr hO hf
  obtain ⟨b,n,c,g1,g2,g3,g4,g5⟩:=A9 BJ hV
  have i0:(0:Int)<=i:=hin.1
  have i1:i<(xs.length:Int):=hin.2
  have hlt:i.toNat<xs.length:=by omega
  obtain ⟨bb,q,rfl,hok,hel,hes⟩:=g5 (by rw [g3]; exact Nat.lt_of_le_of_lt (anO _) hlt)
  obtain ⟨ds,hc,hVd⟩:=hes i.toNat hlt
  refine ⟨_,hrun ek.symm g1 i0 (by rw [g3]; exact i1),⟨⟨bb,q+i.toNat * kk.size,rfl⟩, ?_⟩,⟨⟨bb,q+i.toNat * kk.size,rfl⟩,fun _=>⟨bb,_,ds,rfl,hc, ?_,hok.q, .inr ⟨hel,hok.2.2.1⟩⟩⟩⟩
  ·intro R' hR' _ _ _ _
   rw [hr.1] at hR'
   simp only [ane] at hR'
   subst hR'
   refine ⟨Al p hg eZ ⟨i0,i1,trivial⟩,nL (hp w) bb (q+i.toNat * kk.size) kk.size,bb,q+i.toNat * kk.size, ?_,rfl⟩
   rw [zh p hg hn,g2]
   rfl
  ·rw [dh hlt]
   exact hVd
 cases v with
 | val k1 y Tg=>
  cases k1 with
  | sl e kk=>
   simp only [vE] at h
   rcases ay h with ⟨hc,h5⟩ | ⟨_,h5⟩
   ·have ek:=K.eq_of_beq hc
    obtain ⟨g1,g2⟩:=gG h5
    obtain ⟨hin,g3⟩:=g2
    rw [aD g3]
    obtain ⟨cs,BJ,hV⟩:=h1 (.inr g1)
    obtain ⟨b,n,c,f1,f2,f3,f4,f5⟩:=A9 BJ hV
    obtain ⟨i0,i1⟩:=hin
    have hlt:i.toNat < @List.length (El kk) y:=by
     have i1':i<((@List.length (El kk) y:Nat):Int):=i1
     omega
    obtain ⟨bb,q,rfl,hok,hel,hes⟩:=f5 (by omega)
    obtain ⟨ds,hcs,hVd⟩:=hes i.toNat hlt
    refine bR (x:=.one (.jE e kk _ Tg)) H hd hdn (hrun ek.symm f1 i0 (by rw [f3]; exact i1)) ⟨⟨bb,_,rfl⟩,fun _=>⟨bb,_,ds,rfl,hcs, ?_,hok.q, .inr ⟨hel,hok.2.2.1⟩⟩⟩ h2
    have eg:(show List (El kk) from y).getD i.toNat kk.zero=(show List (El kk) from y)[i.toNat]'hlt:=dh hlt
    rw [eg]
    exact hVd
   ·exact h5.elim
  | _=>exact h.elim
 | ref r g=>
  simp only [vE] at h
  obtain ⟨R,hr,hv,h⟩:=bU h
  rcases ay h with ⟨hc,h5⟩ | ⟨_,h5⟩
  ·obtain ⟨hka,BJ⟩:=h1 R hr (ani hc)
   have hg:aR [] R.k R.x=some ⟨R.k,R.x⟩:=rfl
   have hK:∀(q:Dat),aR [] R.k R.x=some q->∀hh:(match q.1,q.2 with
     | .sl e kk,xs=>bif az e R.own && (K.sl e kk).beq k0 then Prog.tQ (aL i (show List (El kk) from xs).length) inferInstance ((.ret [Wr.s d (.one (.ptr r [.idx i] (gY R.h)))]):Prog (List Wr)) else Prog.fail
     | _,_=>Prog.fail).ends Z ws,VC q.1 (a.eval x) (J.hdr r)->pY P cx o a w (aB ws Z):=by
    intro q hq hh BJ
    obtain ⟨qk,qx⟩:=q
    cases qk with
    | sl e kk=>
     simp only at hh
     rcases ay hh with ⟨hc2,h6⟩ | ⟨_,h6⟩
     ·simp only [ank] at hc2
      obtain ⟨hin,h7⟩:=h6
      rw [aD h7]
      obtain ⟨u,r1,r2,_⟩:=key (p:=[]) hr hv hq (K.eq_of_beq hc2.2) trivial (fun t ht=>by simp [ah] at ht) rfl BJ hin
      exact bR (x:=.one (.ptr r [.idx i] (gY R.h))) H hd hdn r1 r2 ⟨R,hr.1, .inr (anv _)⟩
     ·exact h6.elim
    | _=>exact hh.elim
   exact hK ⟨R.k,R.x⟩ hg h5 BJ
  ·exact h5.elim
 | rH r p nn=>
  simp only [vE] at h
  obtain ⟨R,hr,hv,h⟩:=bU h
  rcases ay h with ⟨hc,h5⟩ | ⟨_,h5⟩
  ·cases hg0:aR p R.k R.x with
   | none=>rw [hg0] at h5; exact h5.elim
   | some d0=>
    rw [hg0] at h5
    obtain ⟨g1,g2,cs,wh,g3,g4⟩:=h1 R hr.1 hv (ani hc) d0 hg0
    obtain ⟨dk,dx⟩:=d0
    cases dk with
    | sl e kk=>
     simp only at h5
     rcases ay h5 with ⟨_,h6⟩ | ⟨hk,h6⟩
     ·exact h6.elim
     ·have ek:K.sl e kk=k0:=K.eq_of_beq (by simpa using hk)
      rcases ay h6 with ⟨_,h7⟩ | ⟨_,h7⟩
      ·obtain ⟨hin,h8⟩:=h7
       rw [aD h8]
       obtain ⟨u,r1,r2,_⟩:=key hr hv hg0 ek g1 g2 g3 g4 hin
       exact bR (x:=.one (.ptr r (p++[.idx i]) (gY R.h))) H hd hdn r1 (show jG cx Z J F w (.one (.ptr r (p++[.idx i]) (gY R.h))) u from r2) ⟨R,hr.1, .inr (anv _)⟩
      ·obtain ⟨hin,h8⟩:=h7
       rw [aD h8]
       obtain ⟨u,r1,_,r3⟩:=key hr hv hg0 ek g1 g2 g3 g4 hin
       exact bR H hd hdn r1 (show jG cx Z J F w (.one (.jE e kk _ (R.out r (.sl e kk)))) u from r3) (Ji H hr _)
    | _=>exact h5.elim
  ·exact h5.elim
 | _=>exact h.elim
theorem J3 (B:ByteArray) {n:Nat} (h:n<B.size):(bytesOf B).getD n 0=(B[n].toNat:Int):=by
 unfold bytesOf
 have:n<(B.data.toList.map fun b=>(b.toNat:Int)).length:=by simpa using h
 rw [dh this]
 simp
 rfl
theorem mH (B:ByteArray):(bytesOf B).length=B.size:=by simp [bytesOf]
theorem RN (hT:eG P T) (H:Rel cx Z J F a w) (hd:o.dst=some d) (hdn:d<cx.nt) {t:TypeId} {x y:Operand} (ho:o.op=.index t x y)
  (h:(dU x fun a=>dU y fun i=>asInt i fun _ i=>match T.ty t,a with
   | some .str, .val .str s _=>.tQ (aL i (show List Int from s).length) inferInstance (.ret [Wr.s d (.one (.val (.int .u8) ((show List Int from s).getD i.toNat 0) []))])
   | _,_=>(.fail:Prog (List Wr))).ends Z ws):pY P cx o a w (aB ws Z):=by
 obtain ⟨v,h1,h2,h⟩:=bY H h
 obtain ⟨vi,h3,_,h⟩:=bY H h
 obtain ⟨ik,i,ei,_,h⟩:=xe h3 h
 cases hty:T.ty t with
 | none=>rw [hty] at h; exact h.elim
 | some k0=>
  rw [hty] at h
  cases k0 with
  | str=>
   cases v with
   | val k1 s Tg=>
    cases k1 with
    | str=>
     simp only at h
     obtain ⟨⟨i0,i1⟩,h4⟩:=h
     rw [aD h4]
     obtain ⟨B,e1,e2⟩:=wI h1
     subst e2
     have hu:P.underlying t=some .string:=by
      have:=hT.ty t .str hty
      unfold fM j5 at this
      exact this.1
     have hlt:i.toNat<B.size:=by
      have i1':i<((bytesOf B).length:Int):=i1
      rw [mH] at i1'
      omega
     refine bR (v:=.int .u8 (B[i.toNat].toNat:Int)) H hd hdn ?_ ?_ (fun t ht=>by simp at ht)
     ·simp only [execOp,ho,e1,ei,Instr.index,asIntOf,anF,anK,anx,aoR hu]
      rw [aoi i0]
      simp [hlt]
     ·have eg:(show List Int from bytesOf B).getD i.toNat 0=(B[i.toNat].toNat:Int):=J3 B hlt
      rw [eg]
      refine OV ⟨by omega, ?_⟩
      have:=B[i.toNat].toNat_lt
      omega
    | _=>exact h.elim
   | _=>exact h.elim
  | _=>cases v <;> exact h.elim
theorem OT {l:List AV} {vs:List Value} (h:eD cx Z J F w l vs) {i:Nat} {x:AV} (hi:l[i]?=some x):∃v,vs[i]?=some v/\bN cx Z J F w x v:=by
 induction l generalizing vs i with
 | nil=>simp at hi
 | cons b l ih=>
  cases vs with
  | nil=>exact h.elim
  | cons u vs=>
   cases i with
   | zero=>simp only [anU,ane] at hi; subst hi; exact ⟨u,rfl,h.1⟩
   | succ i=>simp only [apI] at hi; obtain ⟨v,h1,h2⟩:=ih h.2 hi; exact ⟨v,by simpa using h1,h2⟩
theorem LK (H:Rel cx Z J F a w) (hd:o.dst=some d) (hdn:d<cx.nt) {x:Operand} {i:Nat} (ho:o.op=.extract x i)
  (h:(uz x fun
   | .Hq l=>match l[i]? with
    | some u=>.ret [Wr.s d (.one u)]
    | none=>.fail
   | _=>(.fail:Prog (List Wr))).ends Z ws):pY P cx o a w (aB ws Z):=by
 obtain ⟨v,h1,h2,h⟩:=rV H h
 cases v with
 | one u=>exact h.elim
 | lit _ _ _=>exact h.elim
 | Hq l=>
  simp only at h
  cases hi:l[i]? with
  | none=>rw [hi] at h; exact h.elim
  | some u=>
   rw [hi] at h
   rw [aD h]
   obtain ⟨vs,e1,e2⟩:=h1
   obtain ⟨v,g1,g2⟩:=OT e2 hi
   refine bR (x:=.one u) (v:=v) H hd hdn ?_ g2 (h2 u (anV hi))
   simp [execOp,ho,e1,Instr.extract,g1]
end
end
section
open Go
variable [Fr]
theorem nE (ik:IntKind) (n:Int):GV ik (ik.wrap n):=by
 cases ik <;> simp only [GV]
 simp only [IntKind.wrap,IntKind.bits,IntKind.signed]
 simp
 omega
section
variable {P:Program} {cx:Cx} {Z:St} {J:dP} {F:List Nat} {a:Act} {w:World} {o:Oper} {d:Nat} {ws:List Wr}
theorem oL (ik:IntKind) {n:Int} (h:GV ik n):jG cx Z J F w (v1 (.int ik) n) (.int ik n):=OV h
theorem jF (b:Bool):jG cx Z J F w (v1 .bool b) (.bool b):=Ye
theorem yK {k:K} {x:El k}:wO Z (v1 k x):=fun t ht=>by simp at ht
theorem Sl {op:BinOp} {ik:IntKind} {x y:Int} {z:List Wr} (hx:GV ik x) (hy:GV ik y) (ht:TypeId) {k:wL->Prog (List Wr)} (hk:∀v,k v=.ret [Wr.s d v]) (h:(Qo op ik x y k).ends Z z) :
  ∃kk y',(∃v,(Go.binOp op ht (.int ik x) (.int ik y)).run P w=.ok v w/\jG cx Z J F w (v1 kk y') v)/\z=[Wr.s d (v1 kk y')]:=by
 unfold Qo at h
 cases op <;> simp only [hk] at h
 case add=>exact ⟨.int ik,_,⟨_,by simp [Go.binOp,Op.intArith],oL ik (nE ik _)⟩,aD h⟩
 case sub=>exact ⟨.int ik,_,⟨_,by simp [Go.binOp,Op.intArith],oL ik (nE ik _)⟩,aD h⟩
 case mul=>exact ⟨.int ik,_,⟨_,by simp [Go.binOp,Op.intArith],oL ik (nE ik _)⟩,aD h⟩
 case quo=>
  obtain ⟨h0,h⟩:=h
  exact ⟨.int ik,_,⟨_,by simp [Go.binOp,Op.intDiv,h0],oL ik (nE ik _)⟩,aD h⟩
 case rem=>
  obtain ⟨h0,h⟩:=h
  refine ⟨.int ik,_,⟨_,by simp [Go.binOp,Op.intDiv,h0],oL ik ?_⟩,aD h⟩
  cases ik <;> simp only [GV] at hx hy ⊢
  have h1:=Int.tmod_nonneg y hx.1
  have h2:x.tmod y<y:=by
   rw [ao8 hx.1]
   exact Int.emod_lt_of_pos x (by omega)
  omega
 case and=>exact ⟨.int ik,_,⟨_,by simp [Go.binOp,Op.intBits],oL ik (nE ik _)⟩,aD h⟩
 case or=>exact ⟨.int ik,_,⟨_,by simp [Go.binOp,Op.intBits],oL ik (nE ik _)⟩,aD h⟩
 case xor=>exact ⟨.int ik,_,⟨_,by simp [Go.binOp,Op.intBits],oL ik (nE ik _)⟩,aD h⟩
 case andNot=>exact ⟨.int ik,_,⟨_,by simp [Go.binOp,Op.intBits],oL ik (nE ik _)⟩,aD h⟩
 case eql=>exact ⟨.bool,_,⟨.bool (decide (x=y)),by simp only [Go.binOp,ne_eq,not_true_eq_false, ↓reduceIte]; rfl,jF _⟩,aD h⟩
 case neq=>exact ⟨.bool,_,⟨.bool (!decide (x=y)),by simp only [Go.binOp,ne_eq,not_true_eq_false, ↓reduceIte]; rfl,jF _⟩,aD h⟩
 case lss=>exact ⟨.bool,_,⟨_,by simp [Go.binOp,Op.intCmp],jF _⟩,aD h⟩
 case leq=>exact ⟨.bool,_,⟨_,by simp [Go.binOp,Op.intCmp],jF _⟩,aD h⟩
 case gtr=>exact ⟨.bool,_,⟨_,by simp [Go.binOp,Op.intCmp],jF _⟩,aD h⟩
 case geq=>exact ⟨.bool,_,⟨_,by simp [Go.binOp,Op.intCmp],jF _⟩,aD h⟩
 all_goals exact h.elim
theorem VK:∀(x y:List UInt8),yE (x.map fun b=>(b.toNat:Int)) (y.map fun b=>(b.toNat:Int))=Op.bytesLess x y:=by
 intro x
 induction x with
 | nil=>intro y; cases y <;> rfl
 | cons a x ih=>
  intro y
  cases y with
  | nil=>rfl
  | cons b y=>
   simp only [aoh,yE,Op.bytesLess,ih]
   have h1:decide ((a.toNat:Int)<(b.toNat:Int))=decide (a<b):=by
    apply apJ.2
    rw [UInt8.lt_iff_toNat_lt]
    omega
   have h2:decide ((a.toNat:Int)=(b.toNat:Int))=(a == b):=by
    rw [show (a == b)=decide (a=b) from rfl]
    apply apJ.2
    rw [<-UInt8.toNat_inj]
    omega
   rw [h1,h2]
theorem MF:∀{x y:List UInt8},x.map (fun b=>(b.toNat:Int))=y.map (fun b=>(b.toNat:Int))↔x=y:=by
 intro x
 induction x with
 | nil=>intro y; cases y <;> simp
 | cons a x ih=>
  intro y
  cases y with
  | nil=>simp
  | cons b y=>
   simp only [aoh,apr,ih]
   have:(a.toNat:Int)=(b.toNat:Int)↔a=b:=by rw [<-UInt8.toNat_inj]; omega
   rw [this]
theorem Lx {A B:ByteArray}:bytesOf A=bytesOf B↔A.toList=B.toList:=by
 unfold bytesOf
 rw [MF,apK,apK]
theorem xQ {A B:ByteArray}:(A.toList == B.toList)=decide (bytesOf A=bytesOf B):=by
 rw [show (A.toList == B.toList)=decide (A.toList=B.toList) from by
  cases h:(A.toList == B.toList) with
  | true=>simp [eq_of_beq h]
  | false=>simp [ne_of_beq_false h]]
 exact apJ.2 Lx.symm
theorem uM {A B:ByteArray}:Op.bytesLess A.toList B.toList=yE (bytesOf A) (bytesOf B):=by
 unfold bytesOf
 rw [VK,apK,apK]
theorem FB (A B:ByteArray):bytesOf (A++B)=bytesOf A++bytesOf B:=by
 unfold bytesOf
 rw [<-aon]
 congr 1
theorem Te {op:BinOp} {A B:ByteArray} {z:List Wr} (ht:TypeId) {k:wL->Prog (List Wr)} (hk:∀v,k v=.ret [Wr.s d v]) (h:(WC op (bytesOf A) (bytesOf B) k).ends Z z) :
  ∃kk y',(∃v,(Go.binOp op ht (.string A) (.string B)).run P w=.ok v w/\jG cx Z J F w (v1 kk y') v)/\z=[Wr.s d (v1 kk y')]:=by
 unfold WC at h
 cases op <;> simp only [hk] at h
 case add=>
  obtain ⟨h0,h⟩:=h
  rw [mH,mH] at h0
  refine ⟨.str,bytesOf A++bytesOf B,⟨.string (A++B), ?_, ?_⟩,aD h⟩
  ·have:¬(((A.size+B.size:Nat):Int)>IntKind.i64.max):=by
    simp only [IntKind.max,IntKind.signed,IntKind.bits]
    simp
    omega
   simp only [Go.binOp,Op.stringOp]
   rw [aok this]
   rfl
  ·rw [<-FB]; exact OW
 case eql=>exact ⟨.bool,_,⟨.bool (decide (bytesOf A=bytesOf B)),by simp only [Go.binOp,Op.stringOp]; rw [xQ]; rfl,jF _⟩,aD h⟩
 case neq=>exact ⟨.bool,_,⟨.bool (!decide (bytesOf A=bytesOf B)),by simp only [Go.binOp,Op.stringOp]; rw [xQ]; rfl,jF _⟩,aD h⟩
 case lss=>exact ⟨.bool,_,⟨.bool (yE (bytesOf A) (bytesOf B)),by simp only [Go.binOp,Op.stringOp]; rw [uM]; rfl,jF _⟩,aD h⟩
 case leq=>exact ⟨.bool,_,⟨.bool (yE (bytesOf A) (bytesOf B) || decide (bytesOf A=bytesOf B)),by simp only [Go.binOp,Op.stringOp]; rw [uM,xQ]; rfl,jF _⟩,aD h⟩
 case gtr=>exact ⟨.bool,_,⟨.bool (!(yE (bytesOf A) (bytesOf B) || decide (bytesOf A=bytesOf B))),by simp only [Go.binOp,Op.stringOp]; rw [uM,xQ]; rfl,jF _⟩,aD h⟩
 case geq=>exact ⟨.bool,_,⟨.bool (!yE (bytesOf A) (bytesOf B)),by simp only [Go.binOp,Op.stringOp]; rw [uM]; rfl,jF _⟩,aD h⟩
 all_goals exact h.elim
theorem UK (H:Rel cx Z J F a w) (hd:o.dst=some d) (hdn:d<cx.nt) {t:TypeId} {x:Operand} {op:UnOp} (ho:o.op=.unOp op t x)
  (h:(dU x fun a=>unP op a fun v=>(.ret [Wr.s d v]:Prog (List Wr))).ends Z ws):pY P cx o a w (aB ws Z):=by
 obtain ⟨v,h1,h2,h⟩:=bY H h
 unfold unP at h
 split at h
 ·obtain ⟨e1,e2⟩:=wH h1
  rw [aD h]
  exact bR H hd hdn (by simp [execOp,ho,e1,Op.unary,Op.intArith]) (oL _ (nE _ _)) yK
 ·obtain ⟨e1,e2⟩:=wH h1
  rw [aD h]
  exact bR H hd hdn (by simp [execOp,ho,e1,Op.unary,Op.intBits]) (oL _ (nE _ _)) yK
 ·have e1:=xH h1
  rw [aD h]
  exact bR H hd hdn (by simp [execOp,ho,e1,Op.unary]) (jF _) yK
 ·exact h.elim
end
end
section
open Go
variable [Fr]
section
variable {P:Program} {T:jh} {cx:Cx} {Z:St} {J:dP} {F:List Nat} {a:Act} {w:World} {o:Oper} {d:Nat} {ws:List Wr}
theorem yG {op:BinOp} {t:TypeId} {x y:Operand} {u v:Value} (h:(∀c,u≠.agg c)/\u≠.nilIface):(eqGuard op t x y u v).run P w=.ok () w:=by
 unfold eqGuard
 cases op <;> simp only [anH,anS,anh, ↓reduceIte] <;> first | rfl | skip
 all_goals (cases u <;> first | rfl | exact absurd rfl (h.1 _) | exact absurd rfl h.2)
theorem yl:∃n,Op.maxDepth=n+1:=⟨Op.maxDepth - 1,by unfold Op.maxDepth; rfl⟩
theorem run_equal_bool {t:TypeId} (h:P.underlying t=some .bool) (x y:Bool):(Op.equal t (.bool x) (.bool y)).run P w=.ok (x == y) w:=by
 obtain ⟨n,e⟩:=yl
 unfold Op.equal
 rw [e]
 simp [Op.equalIn,aoR h]
theorem Aj {t e:TypeId} (h:P.underlying t=some (.pointer e)) {u v:Option Addr} (hn:u=none\/v=none):(Op.equal t (.pointer u) (.pointer v)).run P w=.ok (u.isNone && v.isNone) w:=by
 obtain ⟨n,e⟩:=yl
 unfold Op.equal
 rw [e]
 rcases hn with rfl | rfl
 ·simp [Op.equalIn,aoR h]
 ·cases u <;> simp [Op.equalIn,aoR h]
theorem SK {x y:AV} {u v:Value} {b:Bool} (hx:bN cx Z J F w x u) (hy:bN cx Z J F w y v) (h:MI x y=some b):∃p q,u=.pointer p/\v=.pointer q/\(p=none\/q=none)/\(p.isNone && q.isNone)=b:=by
 unfold MI at h
 split at h <;> simp only [ane,reduceCtorEq] at h <;> subst h
 ·exact ⟨none,none,hx,hy, .inl rfl,rfl⟩
 ·obtain ⟨b,q,e⟩:=hy.1; exact ⟨none,_,hx,e, .inl rfl,rfl⟩
 ·obtain ⟨b,q,e⟩:=hx.1; exact ⟨_,none,e,hy, .inr rfl,rfl⟩
 ·obtain ⟨b,q,e⟩:=hy.1; exact ⟨none,_,hx,e, .inl rfl,rfl⟩
 ·obtain ⟨b,q,e⟩:=hx.1; exact ⟨_,none,e,hy, .inr rfl,rfl⟩
def HZ (P:Program) (T:jh):Prop:=∀(t:TypeId) (c:K) (x y:El c) (u v:Array Value) (w:World) (hp1 hp2:Heap) (ok1 ok2:Nat->Prop),T.ty t=some (.st c)->T.eq t=true->c.flat=true->
 Vw hp1 ok1 c x u.toList->Vw hp2 ok2 c y v.toList->(Op.equal t (.agg u) (.agg v)).run P w=.ok (x8 c x y) w/\∀x y op,(eqGuard op t x y (.agg u) (.agg v)).run P w=.ok () w
theorem NS {A:Type} {z:A} {t:TypeId} {op:BinOp} {u v:AV} {k:wL->Prog A} (h:(Lu T t op u v k).ends Z z) :
  (∃ik x T1 jk y T2,u=.val (.int ik) x T1/\v=.val (.int jk) y T2)\/(∃x T1 y T2,u=.val .bool x T1/\v=.val .bool y T2)\/(∃x T1 y T2,u=.val .str x T1/\v=.val .str y T2)\/
  (∃c x T1 e y T2,u=.val (.st c) x T1/\v=.val (.st e) y T2)\/(T.ptr t=true/\∃b,MI u v=some b/\((op=.eql/\(k (v1 .bool b)).ends Z z)\/(op=.neq/\(k (v1 .bool (!b))).ends Z z))):=by
 unfold Lu at h
 split at h
 ·exact .inl ⟨_,_,_,_,_,_,rfl,rfl⟩
 ·exact .inr (.inl ⟨_,_,_,_,rfl,rfl⟩)
 ·exact .inr (.inr (.inl ⟨_,_,_,_,rfl,rfl⟩))
 ·exact .inr (.inr (.inr (.inl ⟨_,_,_,_,_,_,rfl,rfl⟩)))
 ·rcases ay h with ⟨hp,h5⟩ | ⟨_,h5⟩
  ·cases hn:MI u v with
   | none=>rw [hn] at h5; exact h5.elim
   | some b=>
    rw [hn] at h5
    cases op with
    | eql=>exact .inr (.inr (.inr (.inr ⟨hp,b,rfl, .inl ⟨rfl,h5⟩⟩)))
    | neq=>exact .inr (.inr (.inr (.inr ⟨hp,b,rfl, .inr ⟨rfl,h5⟩⟩)))
    | _=>exact h5.elim
  ·exact h5.elim
theorem Iw {t e:TypeId} (h:P.underlying t=some (.slice e)) (p:Option Addr) (n c:Nat):(Go.binOp .eql t (.slice p n c) (.slice none 0 0)).run P w=.ok (.bool p.isNone) w:=by
 obtain ⟨m,em⟩:=yl
 have:(Op.equal t (.slice p n c) (.slice none 0 0)).run P w=.ok p.isNone w:=by
  unfold Op.equal
  rw [em]
  cases p <;> simp [Op.equalIn,aoR h]
 simp only [Go.binOp]
 simp [this,Result.andThen]
theorem Og (hT:eG P T) (hSt:HZ P T) (H:Rel cx Z J F a w) (hd:o.dst=some d) (hdn:d<cx.nt) {t t2:TypeId} {x y:Operand} {op:BinOp} (ho:o.op=.binOp op t x y t2)
  (h:(dU x fun a=>dU y fun b=>Lu T t op a b fun v=>(.ret [Wr.s d v]:Prog (List Wr))).ends Z ws):pY P cx o a w (aB ws Z):=by
 obtain ⟨u,h1,hu1,h5⟩:=bY H h
 obtain ⟨v,h3,hu3,h6⟩:=bY H h5
 clear h h5
 have h:=h6
 clear h6
 have hrun:∀{z:Value},((∀c,a.eval x≠.agg c)/\a.eval x≠.nilIface)->(Go.binOp op t (a.eval x) (a.eval y)).run P w=.ok z w->(execOp a.eval o).run P w=.ok (.value z) w:=by
  intro z hz h
  have hg:=yG (P:=P) (w:=w) (op:=op) (t:=t) (x:=x) (y:=y) (v:=a.eval y) hz
  simp only [execOp,ho,anF,hg,h,anx,anK]
 rcases NS h with ⟨ik,x1,T1,jk,y1,T2,rfl,rfl⟩ | ⟨x1,T1,y1,T2,rfl,rfl⟩ | ⟨x1,T1,y1,T2,rfl,rfl⟩ | ⟨c,x1,T1,dd,y1,T2,rfl,rfl⟩ | ⟨hp,b,hne,hop⟩
 ·obtain ⟨e1,r1⟩:=wH h1
  obtain ⟨e2,r2⟩:=wH h3
  have hag:(∀c,a.eval x≠.agg c)/\a.eval x≠.nilIface:=by rw [e1]; simp
  have hplain:(bif yD ik jk then Qo op ik x1 y1 fun v=>(.ret [Wr.s d v]:Prog (List Wr)) else .fail).ends Z ws->pY P cx o a w (aB ws Z):=by
   intro h
   rcases ay h with ⟨hik,h⟩ | ⟨_,h⟩
   ·have:=yZ hik
    subst this
    obtain ⟨kk,y',⟨z,g1,g2⟩,g3⟩:=Sl (P:=P) (cx:=cx) (Z:=Z) (J:=J) (F:=F) (w:=w) (d:=d) r1 r2 t (fun v=>rfl) h
    rw [g3]
    exact bR H hd hdn (hrun hag (by rw [e1,e2]; exact g1)) g2 yK
   ·exact h.elim
  cases op with
  | shl=>
   obtain ⟨h0,h⟩:=h
   rw [aD h]
   refine bR H hd hdn (hrun hag (z:=.int ik (ik.wrap (x1 * 2 ^ min y1.toNat ik.bits))) ?_) (oL ik (nE _ _)) yK
   rw [e1,e2]
   simp only [Go.binOp,Op.shift]
   rw [aok (Int.not_lt.2 h0)]
   rfl
  | shr=>
   obtain ⟨h0,h⟩:=h
   rw [aD h]
   refine bR H hd hdn (hrun hag (z:=.int ik (x1.fdiv (2 ^ min y1.toNat ik.bits))) ?_) (oL ik ?_) yK
   ·rw [e1,e2]
    simp only [Go.binOp,Op.shift]
    rw [aok (Int.not_lt.2 h0)]
    rfl
   ·cases ik <;> simp only [GV] at r1 ⊢
    have hp:(0:Int)<2 ^ min y1.toNat IntKind.u8.bits:=Int.pow_pos (by omega)
    have g1:0<=x1.fdiv (2 ^ min y1.toNat IntKind.u8.bits):=Int.fdiv_nonneg r1.1 (Int.le_of_lt hp)
    have g2:x1.fdiv (2 ^ min y1.toNat IntKind.u8.bits)<=x1:=by
     rw [Int.fdiv_eq_ediv_of_nonneg _ (Int.le_of_lt hp)]
     exact Int.ediv_le_self _ r1.1
    omega
  | _=>exact hplain h
 ·have e1:=xH h1
  have e2:=xH h3
  have hag:(∀c,a.eval x≠.agg c)/\a.eval x≠.nilIface:=by rw [e1]; simp
  have hub:T.ty t=some .bool->P.underlying t=some .bool:=fun hty=>by
   have:=hT.ty t .bool hty
   unfold fM j5 at this
   exact this.1
  cases hty:T.ty t with
  | none=>simp only [Lu,hty] at h; exact h.elim
  | some k0=>
   cases k0 with
   | bool=>
    have hu:=hub hty
    simp only [Lu,hty] at h
    cases op with
    | eql=>
     rw [aD h]
     refine bR H hd hdn (hrun hag (z:=.bool (x1 == y1)) ?_) (jF _) yK
     rw [e1,e2]
     simp only [Go.binOp,anF,run_equal_bool hu,anx,anK]
    | neq=>
     rw [aD h]
     refine bR H hd hdn (hrun hag (z:=.bool (!(x1 == y1))) ?_) (jF _) yK
     rw [e1,e2]
     simp only [Go.binOp,anF,run_equal_bool hu,anx,anK]
    | _=>exact h.elim
   | _=>simp only [Lu,hty] at h; exact h.elim
 ·obtain ⟨A,e1,f1⟩:=wI h1
  obtain ⟨B,e2,f2⟩:=wI h3
  subst f1
  subst f2
  have hag:(∀c,a.eval x≠.agg c)/\a.eval x≠.nilIface:=by rw [e1]; simp
  obtain ⟨kk,y',⟨z,g1,g2⟩,g3⟩:=Te (P:=P) (cx:=cx) (Z:=Z) (J:=J) (F:=F) (w:=w) (d:=d) t (fun v=>rfl) h
  rw [g3]
  exact bR H hd hdn (hrun hag (by rw [e1,e2]; exact g1)) g2 yK
 ·simp only [Lu] at h
  cases hck:bQ (.st dd) (.st c) y1 with
  | none=>rw [hck] at h; exact h.elim
  | some y2=>
   rw [hck] at h
   obtain ⟨ek,ey⟩:=bF hck
   simp only [K.st.injEq] at ek
   subst ek
   simp only at ey
   subst ey
   simp only at h
   rcases ay h with ⟨hc,h5⟩ | ⟨_,h5⟩
   ·simp only [ank] at hc
    have hty:T.ty t=some (.st dd):=by
     have h2:=hc.2
     cases ht:T.ty t with
     | none=>rw [ht] at h2; simp at h2
     | some kk=>rw [ht] at h2; rw [K.eq_of_beq h2]
    obtain ⟨cs1,e1,V1⟩:=h1 (.inl hc.1.1)
    obtain ⟨cs2,e2,V2⟩:=h3 (.inl hc.1.1)
    have e1':a.eval x=.agg cs1.toArray:=e1
    have e2':a.eval y=.agg cs2.toArray:=e2
    obtain ⟨r1,r2⟩:=hSt t dd x1 y2 cs1.toArray cs2.toArray w _ _ _ _ hty hc.1.2 hc.1.1 (show Vw _ _ dd x1 cs1 from V1) (show Vw _ _ dd y2 cs2 from V2)
    have I8:∀{z:Value},(Go.binOp op t (a.eval x) (a.eval y)).run P w=.ok z w->(execOp a.eval o).run P w=.ok (.value z) w:=by
     intro z h
     have hg:=r2 x y op
     rw [<-e1', <-e2'] at hg
     simp only [execOp,ho,anF,hg,h,anx,anK]
    cases op with
    | eql=>
     rw [aD h5]
     refine bR H hd hdn (I8 (z:=.bool (x8 dd x1 y2)) ?_) (jF _) yK
     rw [e1',e2']
     simp only [Go.binOp,anF,r1,anx,anK]
    | neq=>
     rw [aD h5]
     refine bR H hd hdn (I8 (z:=.bool (!x8 dd x1 y2)) ?_) (jF _) yK
     rw [e1',e2']
     simp only [Go.binOp,anF,r1,anx,anK]
    | _=>exact h5.elim
   ·exact h5.elim
 ·obtain ⟨e,hu⟩:=hT.ptr t hp
  obtain ⟨p,q,e1,e2,hn,hb⟩:=SK h1 h3 hne
  have hag:(∀c,a.eval x≠.agg c)/\a.eval x≠.nilIface:=by rw [e1]; simp
  rcases hop with ⟨rfl,h5⟩ | ⟨rfl,h5⟩
  ·rw [aD h5]
   refine bR H hd hdn (hrun hag (z:=.bool b) ?_) (jF _) yK
   rw [e1,e2]
   simp only [Go.binOp,anF,Aj hu hn,hb,anx,anK]
  ·rw [aD h5]
   refine bR H hd hdn (hrun hag (z:=.bool (!b)) ?_) (jF _) yK
   rw [e1,e2]
   simp only [Go.binOp,anF,Aj hu hn,hb,anx,anK]
theorem RG (hT:eG P T) (hSt:HZ P T) (H:Rel cx Z J F a w) (hd:o.dst=some d) (hdn:d<cx.nt) {t t2:TypeId} {x y:Operand} {op:BinOp} (ho:o.op=.binOp op t x y t2)
  (h:(NR T t op x y fun v=>(.ret [Wr.s d v]:Prog (List Wr))).ends Z ws):pY P cx o a w (aB ws Z):=by
 unfold NR at h
 rcases ay h with ⟨hc,h⟩ | ⟨_,h⟩
 ·simp only [ank] at hc
  have ey:y=.const (.slice none 0 0):=by
   have:=hc.1
   unfold Vz at this
   split at this
   ·rfl
   ·simp at this
  have eop:op=.eql:=by
   have:=hc.2
   unfold Zw at this
   split at this
   ·rfl
   ·simp at this
  subst ey eop
  obtain ⟨u,h1,hu1,h5⟩:=bY H h
  unfold afZ at h5
  split at h5
  ·rename_i e kk hty
   obtain ⟨kk',z,Tg,cs,g1,g2,g3,h6⟩:=uT H h1 hu1 h5
   cases kk' with
   | sl e' kk'=>
    simp only at h6
    rw [aD h6]
    obtain ⟨p,n,c,rfl,g5,g6,g7⟩:=g2
    have ev:a.eval x=.slice p n c:=by
     have:=g1.cells
     obtain ⟨g8,g9⟩:=g1
     first
      | exact (List.cons.inj g8.symm).1
      | (simp only [apr,an9] at g8; exact g8.symm)
      | exact g8
    have hu:=(fM.sl (hT.ty t _ hty)).1
    have hag:(∀c,a.eval x≠.agg c)/\a.eval x≠.nilIface:=by rw [ev]; simp
    have hg:=yG (P:=P) (w:=w) (op:=.eql) (t:=t) (x:=x) (y:=.const (.slice none 0 0)) (v:=a.eval (.const (.slice none 0 0))) hag
    have hr:=Iw (w:=w) hu p n c
    refine bR (v:=.bool p.isNone) H hd hdn ?_ (show bN cx Z J F w (.yI _) _ from ⟨_,rfl,fun hp=>?_⟩) trivial
    ·have e2:a.eval (.const (.slice none 0 0))=.slice none 0 0:=rfl
     have hr':(Go.binOp .eql t (a.eval x) (a.eval (.const (.slice none 0 0)))).run P w=.ok (.bool p.isNone) w:=by rw [ev,e2]; exact hr
     simp only [execOp,ho,anF,hg,hr',anx,anK]
    ·cases p with
     | some q=>simp at hp
     | none=>
      have hn:n=0:=by
       refine anC fun hne=>?_
       obtain ⟨b,o,e1,_⟩:=g7 (by omega)
       simp at e1
      have g5':n=@List.length (El kk') z:=g5
      rw [List.isEmpty_iff_length_eq_zero, <-g5',hn]
   | _=>exact h6.elim
  ·exact h5.elim
 ·exact Og hT hSt H hd hdn ho h
end
end
section
open Go
variable [Fr]
section
variable {P:Program} {T:jh} {cx:Cx} {Z:St} {J:dP} {F:List Nat} {a:Act} {w:World} {o:Oper} {d:Nat} {ws:List Wr}
theorem jW {c:Call} {b:Builtin} (ho:o.op=.call c) (hb:c.callee=.builtin b):∃cs,(execOp a.eval o).run P w=(builtin b c.argTypes o.type cs (c.args.map a.eval)).run P w:=
 ⟨_,by simp only [execOp,ho,resolve,hb,anF,anK,anx,invoke]; rfl⟩
theorem fM.str {t:TypeId} (h:fM P T t .str):P.underlying t=some .string:=by
 unfold fM j5 at h
 exact h.1
theorem sG (hT:eG P T) {c:Call} {i:Nat} {k:K} (h:(c.argTypes[i]?).bind T.ty=some k):∃t,c.argTypes[i]?=some t/\fM P T t k:=by
 cases ht:c.argTypes[i]? with
 | none=>rw [ht] at h; simp at h
 | some t=>rw [ht] at h; exact ⟨t,rfl,hT.ty t k h⟩
theorem QG {ats:Array TypeId} {ty t:TypeId} {v:Value} {n:Nat} {args:Array Value} (ha:ats[0]?=some t) (hv:args[0]?=some v) (h:(P.underlying t=some .string/\∃B:ByteArray,v=.string B/\B.size=n)\/((∃e,P.underlying t=some (.slice e))/\∃b c,v=.slice b n c)) :
  (Builtin.len_ ats ty args).run P w=.ok (.int .i64 (n:Int)) w:=by
 unfold Builtin.len_
 simp only [ha,hv]
 rcases h with ⟨hu,B,rfl,rfl⟩ | ⟨⟨e,hu⟩,b,c,rfl⟩
 ·simp [aoR hu,goInt]
 ·simp [aoR hu,goInt]
theorem XI (hT:eG P T) (H:Rel cx Z J F a w) (hd:o.dst=some d) (hdn:d<cx.nt) {c:Call} (ho:o.op=.call c) (hb:c.callee=.builtin .len)
  (h:(kH c.args.toList fun
   | [.jy]=>match (c.argTypes[0]?).bind T.ty with
    | some (.sl _ _)=>(.ret [Wr.s d (.one (.val (.int .i64) 0 []))]:Prog (List Wr))
    | _=>.fail
   | [.val .str s _]=>match (c.argTypes[0]?).bind T.ty with
    | some .str=>.ret [Wr.s d (.one (.val (.int .i64) ((show List Int from s).length:Int) []))]
    | _=>.fail
   | [a]=>match (c.argTypes[0]?).bind T.ty with
    | some (.sl _ _)=>uB a fun kk x _=>match kk,x with
     | .sl _ kk,xs=>.ret [Wr.s d (.one (.val (.int .i64) ((show List (El kk) from xs).length:Int) []))]
     | _,_=>.fail
    | _=>.fail
   | _=>.fail).ends Z ws):pY P cx o a w (aB ws Z):=by
 obtain ⟨vs,h1,h2,h⟩:=jJ H h
 have hfin:∀{t:TypeId} {n:Nat} {v:Value} {x:Operand},c.args.toList=[x]->c.argTypes[0]?=some t->a.eval x=v->((P.underlying t=some .string/\∃B:ByteArray,v=.string B/\B.size=n)\/((∃e,P.underlying t=some (.slice e))/\∃b c,v=.slice b n c))->
   pY P cx o a w (aB [Wr.s d (.one (.val (.int .i64) (n:Int) []))] Z):=by
  intro t n v x hx ht hv hs
  have ha:(c.args.map a.eval)[0]?=some v:=by
   rw [<-apt,apG,hx]
   simp [hv]
  refine bR H hd hdn ?_ (oL .i64 (n:=(n:Int)) trivial) yK
  obtain ⟨cc,hcc⟩:=jW (P:=P) (a:=a) (w:=w) ho hb
  rw [hcc]
  simp only [builtin,anF,QG (ty:=o.type) (w:=w) ht ha hs,anx,anK]
 have hone:∀{u:AV},vs=[u]->∃x,c.args.toList=[x]/\bN cx Z J F w u (a.eval x):=by
  intro u e
  subst e
  cases hl:c.args.toList with
  | nil=>rw [hl] at h1; exact h1.elim
  | cons x l=>
   rw [hl] at h1
   cases l with
   | nil=>exact ⟨x,rfl,h1.1⟩
   | cons y l=>exact h1.2.elim
 split at h
 ·obtain ⟨x,hx,hu⟩:=hone rfl
  split at h
  ·rename_i hty
   obtain ⟨t,ht,hk⟩:=sG hT hty
   rw [aD h]
   obtain ⟨b,e⟩:=hu
   exact hfin (n:=0) hx ht rfl (.inr ⟨⟨_,hk.sl.1⟩,b,0,e⟩)
  ·exact h.elim
 ·obtain ⟨x,hx,hu⟩:=hone rfl
  split at h
  ·rename_i hty
   obtain ⟨t,ht,hk⟩:=sG hT hty
   rw [aD h]
   obtain ⟨B,e1,e2⟩:=wI hu
   subst e2
   have e:(show List Int from bytesOf B).length=B.size:=mH B
   rw [e]
   exact hfin (n:=B.size) hx ht rfl (.inl ⟨hk.str,B,e1,rfl⟩)
  ·exact h.elim
 ·obtain ⟨x,hx,hu⟩:=hone rfl
  split at h
  ·rename_i hty
   obtain ⟨t,ht,hk⟩:=sG hT hty
   obtain ⟨kk,y,Tg,cs,g1,g2,g3,g4⟩:=uT H hu (h2 _ (by simp)) h
   cases kk with
   | sl e kk=>
    rw [aD g4]
    obtain ⟨b,n,cc,f1,f2,f3,f4,f5⟩:=A9 g1 g2
    have e:((@List.length (El kk) y:Nat):Int)=(n:Int):=by rw [f3]
    have e':(show List (El kk) from y).length=n:=f3.symm
    rw [e']
    exact hfin (n:=n) hx ht rfl (.inr ⟨⟨_,hk.sl.1⟩,b,cc,f1⟩)
   | _=>exact g4.elim
  ·exact h.elim
 ·exact h.elim
theorem IQ (H:Rel cx Z J F a w) {r:Nat} {R:Root} (hr:aQ Z r R) {b:Nat} (hb:b∈blk J R r) (hnb:¬mD cx b):jc cx Z J F w ((r,gY R.w) :: R.tags) b:=by
 have hm:=(H.roots r R hr).mine b hb
 refine ⟨hm.1,H.iY r R hr b hb,hnb,fun q Q hq hbq=>?_,fun h0=>?_⟩
 ·by_cases e:q=r
  ·subst e; exact ⟨gY R.w,by simp⟩
  ·exact absurd hb (H.EK q Q r R hq hr e b hbq)
 ·rcases hm.2 with h | ⟨j,pi,h1,h2⟩
  ·omega
  ·exact .inr ⟨j,pi,h1,h2⟩
theorem UB {A:Type} {z:A} (H:Rel cx Z J F a w):∀{l:List AV} {vs:List Value} {k:List (TypeId×Dat×List Tag)->Prog A},eD cx Z J F w l vs->(∀v∈l,qM Z v)->(Rq l k).ends Z z->
  ∃cs,lD cx Z J F w cs vs/\(∀c∈cs,fG Z c.2.2)/\(k cs).ends Z z:=by
 intro l
 induction l with
 | nil=>
  intro vs k h1 _ h
  cases vs with
  | nil=>exact ⟨[],trivial,by simp,h⟩
  | cons v vs=>exact h1.elim
 | cons x l ih=>
  intro vs k h1 h2 h
  cases vs with
  | nil=>exact h1.elim
  | cons v vs=>
   simp only [Rq] at h
   rcases xO H h1.1 (h2 x (by simp)) h with ⟨r,R,p,dd,cs,b,q,hr,hv,hg,eZ,hown,hn,e,h5⟩ | ⟨bt,dd,Tg,b,q,cs,hw,e,hcs,hV,hok,hb,h5⟩
   ·rcases ay h5 with ⟨_,h6⟩ | ⟨hne,h6⟩
    ·exact h6.elim
    ·obtain ⟨cs2,g1,g2,g3⟩:=ih h1.2 (fun v hv=>h2 v (by simp [hv])) h6
     obtain ⟨hC,⟨fT,hO,hf⟩,hbb,⟨arr,te,lo,hi,m1,m2,m3,m4⟩,_⟩:=pV H hr hv hg eZ hown hn
     have hbase:eO R p=te/\¬mD cx b:=by
      rcases m4 with m4 | ⟨_,m4⟩
      ·exact m4
      ·rw [m4] at hne; simp at hne
     refine ⟨(eO R p,dd,(r,gY R.w) :: R.tags) :: cs2,⟨⟨⟨b,q,e⟩,fun _=>⟨b,q,cs,e,hC, ?_,(IQ H hr hbb hbase.2).q, .inr ⟨.inl (by rw [hbase.1]; unfold qm; rw [m1]),hbase.2⟩⟩⟩,g1⟩, ?_,g3⟩
     ·exact lU _ (fun b hb=>vN hb (fun t ht=>by simp [ht])) (fun b hb=>IQ H hr (ang _ (hf b hb)) (oq H hr (hf b hb))) hO
     ·intro c hc
      rcases anq.1 hc with h | h
      ·subst h
       intro t ht
       rcases anq.1 ht with h | h
       ·subst h; exact .inr ⟨R,hr.1, .inr (anv _)⟩
       ·exact (H.dG r R hr.1).1 t h
      ·exact g2 c h
   ·obtain ⟨cs2,g1,g2,g3⟩:=ih h1.2 (fun v hv=>h2 v (by simp [hv])) h5
    refine ⟨(bt,dd,Tg) :: cs2,⟨⟨⟨b,q,e⟩,fun _=>⟨b,q,cs,e,hcs,hV,hok,hb⟩⟩,g1⟩, ?_,g3⟩
    intro c hc
    rcases anq.1 hc with h | h
    ·subst h; exact hw
    ·exact g2 c h
theorem Kb (H:Rel cx Z J F a w) (hd:o.dst=some d) (hdn:d<cx.nt) {f:Nat} {first caps:Array Operand} (ho:o.op=.makeFunc (.func f) first caps)
  (h:(bif first.isEmpty then kH caps.toList fun l=>Rq l fun cs=>.ret [Wr.s d (.one (.fn f cs))] else (.fail:Prog (List Wr))).ends Z ws):pY P cx o a w (aB ws Z):=by
 rcases ay h with ⟨he,h5⟩ | ⟨_,h5⟩
 ·obtain ⟨vs,h1,h2,h6⟩:=jJ H h5
  obtain ⟨cs,g1,g2,g3⟩:=UB H h1 h2 h6
  rw [aD g3]
  have hf:first=#[]:=by simpa using he
  refine bR (x:=.one (.fn f cs)) (v:=.func (.func f) #[] (caps.map a.eval)) H hd hdn ?_ ⟨(caps.map a.eval).toList,rfl,by rw [apG]; exact g1⟩ g2
  simp [execOp,ho,Instr.makeFunc,hf]
 ·exact h5.elim
end
end
section
open Go
variable [Fr]
section
variable {P:Program} {T:jh} {cx:Cx} {Z:St} {J:dP} {F:List Nat} {a:Act} {w:World} {o:Oper} {d:Nat} {ws:List Wr}
theorem zl {A:Type} {z:A} (H:Rel cx Z J F a w) {x:Option Operand} {k:Option Int->Prog A} (h:(Ew x k).ends Z z) :
  ∃i:Option Int,(k i).ends Z z/\(i=none↔x=none)/\∀j,i=some j->∃ik,x.map a.eval=some (.int ik j):=by
 cases x with
 | none=>exact ⟨none,h,by simp,fun j hj=>by simp at hj⟩
 | some y=>
  simp only [Ew] at h
  obtain ⟨v,h1,_,h⟩:=bY H h
  obtain ⟨ik,n,e,_,h⟩:=xe h1 h
  exact ⟨some n,h,by simp,fun j hj=>by simp only [ane] at hj; subst hj; exact ⟨ik,by simp [e]⟩⟩
theorem G6 {isS:Bool} {len cap:Nat} {lo hi:Option Int} {l h:Option Value} (hlc:len<=cap) (hl:lo=none->l=none) (hl':∀j,lo=some j->∃ik,l=some (.int ik j)) (hh:hi=none->h=none) (hh':∀j,hi=some j->∃ik,h=some (.int ik j))
  (h1:∀j,hi=some j->0<=j/\j<=(len:Int)) (h2:∀j,lo=some j->0<=j/\j<=hi.getD (len:Int)) :
  (Instr.sliceBounds isS len cap l h none).run P w=.ok ((lo.getD 0).toNat,(hi.getD (len:Int)).toNat,cap) w:=by
 unfold Instr.sliceBounds
 cases hi with
 | none=>
  rw [hh rfl]
  cases lo with
  | none=>rw [hl rfl]; simp
  | some j=>
   obtain ⟨ik,e⟩:=hl' j rfl
   obtain ⟨g1,g2⟩:=h2 j rfl
   simp only [apL] at g2
   rw [e]
   simp [Instr.sliceBound,asIntOf,g1,g2]
 | some i=>
  obtain ⟨ik,e⟩:=hh' i rfl
  obtain ⟨f1,f2⟩:=h1 i rfl
  have f3:i<=(cap:Int):=by omega
  rw [e]
  cases lo with
  | none=>rw [hl rfl]; simp [Instr.sliceBound,asIntOf,f1,f3]
  | some j=>
   obtain ⟨ik2,e2⟩:=hl' j rfl
   obtain ⟨g1,g2⟩:=h2 j rfl
   simp only [aoj] at g2
   have g3:j<=max i 0:=by omega
   rw [e2]
   simp [Instr.sliceBound,asIntOf,f1,f3,g1]
   omega
theorem PY {h:Heap} {ok:Nat->Prop} {e:TypeId} {k:K} {xs:List (El k)} {b:Option Addr} {n c l m:Nat} (H:Vw h ok (.sl e k) xs [.slice b n c]) (hl:l<=m) (hm:m<=n) :
  Vw h ok (.sl e k) (show List (El k) from (xs.take m).drop l) [.slice (if c=l then b else b.map (·.add (l * k.size))) (m - l) (c - l)]:=by
 obtain ⟨b',n',c',e1,e2,e3,e4⟩:=H
 simp only [apr,apM,an9] at e1
 obtain ⟨rfl,rfl,rfl⟩:=e1
 have hxl:xs.length=n:=e2.symm
 have hlen:((xs.take m).drop l).length=m - l:=by simp; omega
 refine ⟨_,_,_,rfl,hlen.symm,by omega,fun h0=>?_⟩
 obtain ⟨bb,q,rfl,hok,hel,hes⟩:=e4 (by omega)
 have hc:¬c=l:=by omega
 refine ⟨bb,q+l * k.size,by rw [aok hc]; simp [addr_add],hok,hel,fun i hi=>?_⟩
 have hi':i<((xs.take m).drop l).length:=hi
 obtain ⟨ds,h1,h2⟩:=hes (l+i) (by show l+i<xs.length; omega)
 refine ⟨ds, ?_, ?_⟩
 ·rw [aoK, <-aoO]
  exact h1
 ·have:(show List (El k) from (xs.take m).drop l)[i]'hi=xs[l+i]'(by omega):=by
   show ((xs.take m).drop l)[i]=_
   simp
  rw [this]
  exact h2
theorem J4 (B:ByteArray) (l m:Nat):bytesOf (B.extract l m)=((bytesOf B).take m).drop l:=by
 unfold bytesOf
 rw [<-List.map_take, <-List.map_drop]
 congr 1
 simp [ByteArray.data_extract,List.extract_eq_take_drop,List.drop_take]
def Gu (lo:Option Int):Nat:=(lo.getD 0).toNat
def K3 (hi:Option Int) (n:Nat):Nat:=(hi.getD (n:Int)).toNat
theorem KQ {t e:TypeId} {k:K} (ht:fM P T t (.sl e k)) {b:Option Addr} {n c:Nat} {lo hi:Option Int} {l h:Option Value} (hlc:n<=c) (hl:lo=none->l=none) (hl':∀j,lo=some j->∃ik,l=some (.int ik j)) (hh:hi=none->h=none) (hh':∀j,hi=some j->∃ik,h=some (.int ik j))
  (h1:∀j,hi=some j->0<=j/\j<=(n:Int)) (h2:∀j,lo=some j->0<=j/\j<=hi.getD (n:Int)) :
  (Instr.sliceAt t (.slice b n c) l h none).run P w=.ok (.slice (if c=Gu lo then b else b.map (·.add (Gu lo * k.size))) (K3 hi n - Gu lo) (c - Gu lo)) w:=by
 obtain ⟨hu,he,_,_⟩:=ht.sl
 unfold Instr.sliceAt Instr.slice
 simp only [anF,aoR hu,Result.andThen,G6 (isS:=true) (w:=w) hlc hl hl' hh hh' h1 h2,he.info.sizeOf w,anK]
 rfl
theorem Iy {t:TypeId} (ht:fM P T t .str) {B:ByteArray} {lo hi:Option Int} {l h:Option Value} (hl:lo=none->l=none) (hl':∀j,lo=some j->∃ik,l=some (.int ik j)) (hh:hi=none->h=none) (hh':∀j,hi=some j->∃ik,h=some (.int ik j))
  (h1:∀j,hi=some j->0<=j/\j<=(B.size:Int)) (h2:∀j,lo=some j->0<=j/\j<=hi.getD (B.size:Int)) :
  (Instr.sliceAt t (.string B) l h none).run P w=.ok (.string (B.extract (Gu lo) (K3 hi B.size))) w:=by
 have hu:=ht.str
 unfold Instr.sliceAt Instr.slice
 simp [anF,aoR hu,Result.andThen,G6 (isS:=false) (w:=w) (anv B.size) hl hl' hh hh' h1 h2,anK,Gu,K3]
theorem AB {x:Option Operand} (h:isZero x=true):∃ik,x=some (.const (.int ik 0)):=by
 unfold isZero at h
 split at h
 ·exact ⟨_,rfl⟩
 ·simp at h
theorem RP (hT:eG P T) (H:Rel cx Z J F a w) (hd:o.dst=some d) (hdn:d<cx.nt) {t:TypeId} {x:Operand} {lo hi mx:Option Operand}
  (h:(match T.ty t with
   | some kk=>bif isZero lo && isZero hi && isZero mx then match kk with
     | .sl _ _=>dU x fun
      | .jy=>.ret [Wr.s d (.one .jy)]
      | a=>uB a fun k' _ _=>bif k'.beq kk then .ret [Wr.s d (.one .jy)] else .fail
     | _=>.fail
    else match mx with
     | none=>dU x fun a=>Ew lo fun lo=>Ew hi fun hi=>Pd kk a lo hi fun u=>.ret [Wr.s d (.one u)]
     | some _=>.fail
   | none=>(.fail:Prog (List Wr))).ends Z ws) (ho:o.op=.slice t x lo hi mx):pY P cx o a w (aB ws Z):=by
 cases hty:T.ty t with
 | none=>rw [hty] at h; exact h.elim
 | some kk=>
  rw [hty] at h
  have ht:=hT.ty t kk hty
  rcases ay h with ⟨hz,h5⟩ | ⟨_,h5⟩
  ·simp only [ank] at hz
   obtain ⟨ik1,rfl⟩:=AB hz.1.1
   obtain ⟨ik2,rfl⟩:=AB hz.1.2
   obtain ⟨ik3,rfl⟩:=AB hz.2
   cases kk with
   | sl e k=>
    obtain ⟨u,h1,h2,h6⟩:=bY H h5
    have hfin:(∃b n c,a.eval x=.slice b n c)->ws=[Wr.s d (.one .jy)]->pY P cx o a w (aB ws Z):=by
     rintro ⟨b,n,c,e⟩ hws
     rw [hws]
     obtain ⟨hu,he,_,_⟩:=ht.sl
     refine bR (x:=.one .jy) (v:=.slice b 0 0) H hd hdn ?_ ⟨b,rfl⟩ trivial
     have hcv:∀v,a.eval (.const v)=v:=fun _=>rfl
     simp [execOp,ho,e,Instr.sliceAt,Instr.slice,aoR hu,Instr.sliceBounds,Instr.sliceBound,asIntOf,he.info.sizeOf w,hcv]
    cases u with
    | jy=>
     obtain ⟨b,e⟩:=h1
     exact hfin ⟨b,0,0,e⟩ (aD h6)
    | _=>
     obtain ⟨k',y,Tg,cs,g1,g2,g3,g4⟩:=uT H h1 h2 h6
     rcases beq_true g4 with ⟨ek,g5⟩ | ⟨_,g5⟩
     ·subst ek
      obtain ⟨b,n,c,f1,_⟩:=A9 g1 g2
      exact hfin ⟨b,n,c,f1⟩ (aD g5)
     ·exact g5.elim
   | _=>exact h5.elim
  ·cases mx with
   | some m=>exact h5.elim
   | none=>
    obtain ⟨u,h1,h2,h6⟩:=bY H h5
    obtain ⟨l,h7,l1,l2⟩:=zl H h6
    obtain ⟨m,h8,m1,m2⟩:=zl H h7
    have hl:l=none->lo.map a.eval=none:=fun e=>by rw [l1.1 e]; rfl
    have hm:m=none->hi.map a.eval=none:=fun e=>by rw [m1.1 e]; rfl
    have hstr:∀{s:List Int} {Tg:List Tag},u=.val .str s Tg->pY P cx o a w (aB ws Z):=by
     intro s Tg e
     subst e
     obtain ⟨B,e1,e2⟩:=wI h1
     subst e2
     simp only [Pd] at h8
     rcases ay h8 with ⟨_,h9⟩ | ⟨hk,h9⟩
     ·exact h9.elim
     ·have ek:kk=.str:=K.eq_of_beq (by simpa using hk)
      subst ek
      have hln:=mH B
      have hgo:∀{p:List Int},(∀j,m=some j->0<=j/\j<=(B.size:Int))->(∀j,l=some j->0<=j/\j<=m.getD (B.size:Int))->p=((bytesOf B).take (K3 m B.size)).drop (Gu l)->ws=[Wr.s d (.one (.val .str p []))]->pY P cx o a w (aB ws Z):=by
       intro p g1 g2 hp hws
       rw [hws,hp]
       have hrun:=Iy (w:=w) ht (B:=B) hl l2 hm m2 g1 g2
       refine bR (v:=.string (B.extract (Gu l) (K3 m B.size))) H hd hdn ?_ ?_ (fun t ht=>by simp at ht)
       ·simp only [execOp,ho,e1,anF]
        rw [show (none:Option Operand).map a.eval=none from rfl,hrun]
        rfl
       ·rw [<-J4]
        exact OW
      cases l with
      | none=>
       cases m with
       | none=>exact hgo (by simp) (by simp) (by simp [Gu,K3, <-hln]) (aD h9)
       | some j=>
        obtain ⟨hc,h9⟩:=h9
        exact hgo (fun i hi=>by simp only [ane] at hi; subst hi; rw [<-hln]; exact hc) (by simp) (by simp [Gu,K3]) (aD h9)
      | some i=>
       cases m with
       | none=>
        obtain ⟨hc,h9⟩:=h9
        exact hgo (by simp) (fun i hi=>by simp only [ane] at hi; subst hi; simp only [apL]; rw [<-hln]; exact hc) (by simp [Gu,K3, <-hln]) (aD h9)
       | some j=>
        obtain ⟨hc,h9⟩:=h9
        have hc':0<=i/\i<=j/\j<=((bytesOf B).length:Int):=hc
        exact hgo (fun i' hi=>by simp only [ane] at hi; subst hi; rw [<-hln]; exact ⟨by omega,hc'.2.2⟩) (fun i' hi=>by simp only [ane] at hi; subst hi; exact ⟨hc'.1,hc'.2.1⟩) (by simp [Gu,K3]) (aD h9)
    have hsl:(uB u fun k2 y Tg=>match k2,y with
      | .sl e k3,xs=>bif !kk.beq (.sl e k3) then .fail else
       match l,m with
       | none,none=>(.ret [Wr.s d (.one (.val (.sl e k3) xs Tg))]:Prog (List Wr))
       | some l,none=>.tQ (0<=l/\l<=((show List (El k3) from xs).length:Int)) inferInstance (.ret [Wr.s d (.one (.val (.sl e k3) ((show List (El k3) from xs).drop l.toNat) Tg))])
       | none,some h=>.tQ (0<=h/\h<=((show List (El k3) from xs).length:Int)) inferInstance (.ret [Wr.s d (.one (.val (.sl e k3) ((show List (El k3) from xs).take h.toNat) Tg))])
       | some l,some h=>.tQ (0<=l/\l<=h/\h<=((show List (El k3) from xs).length:Int)) inferInstance (.ret [Wr.s d (.one (.val (.sl e k3) (((show List (El k3) from xs).take h.toNat).drop l.toNat) Tg))])
      | _,_=>.fail).ends Z ws->pY P cx o a w (aB ws Z):=by
     intro h9
     obtain ⟨k2,y,Tg,cs,g1,g2,g3,g4⟩:=uT H h1 h2 h9
     cases k2 with
     | sl e k3=>
      simp only at g4
      rcases ay g4 with ⟨_,g5⟩ | ⟨hk,g5⟩
      ·exact g5.elim
      ·have ek:kk=.sl e k3:=K.eq_of_beq (by simpa using hk)
       subst ek
       have hln:(show List (El k3) from y).length=@List.length (El k3) y:=rfl
       obtain ⟨b,n,c,f1,f2,f3,f4,f5⟩:=A9 g1 g2
       have hgo:∀{p:List (El k3)},(∀j,m=some j->0<=j/\j<=(n:Int))->(∀j,l=some j->0<=j/\j<=m.getD (n:Int))->p=((show List (El k3) from y).take (K3 m n)).drop (Gu l)->ws=[Wr.s d (.one (.val (.sl e k3) p Tg))]->pY P cx o a w (aB ws Z):=by
        intro p q1 q2 hp hws
        rw [hws,hp]
        have hrun:=KQ (w:=w) ht (b:=b) f4 hl l2 hm m2 q1 q2
        have hlm:Gu l<=K3 m n/\K3 m n<=n:=by
         unfold Gu K3
         cases l with
         | none=>
          cases m with
          | none=>simp
          | some j=>have:=q1 j rfl; simp; omega
         | some i=>
          have h3:=q2 i rfl
          cases m with
          | none=>simp at h3 ⊢; omega
          | some j=>have:=q1 j rfl; simp at h3 ⊢; omega
        have hV:=PY (xs:=(show List (El k3) from y)) (by rw [f2] at g2; exact g2) hlm.1 hlm.2
        refine bR H hd hdn ?_ (show bN cx Z J F w (.val (.sl e k3) _ Tg) (.slice (if c=Gu l then b else b.map (·.add (Gu l * k3.size))) (K3 m n - Gu l) (c - Gu l)) from fun _=>⟨_,⟨rfl,by simp⟩,hV⟩) g3
        simp only [execOp,ho,f1,anF]
        rw [show (none:Option Operand).map a.eval=none from rfl,hrun]
        rfl
       have f3':((show List (El k3) from y).length:Int)=(n:Int):=by rw [f3]
       cases l with
       | none=>
        cases m with
        | none=>exact hgo (by simp) (by simp) (by simp only [Gu,K3,apL,ano,Int.toNat_zero,apf]; rw [f3,ape]) (aD g5)
        | some j=>
         obtain ⟨hc,h9⟩:=g5
         exact hgo (fun i hi=>by simp only [ane] at hi; subst hi; rw [<-f3']; exact hc) (by simp) (by simp [Gu,K3]) (aD h9)
       | some i=>
        cases m with
        | none=>
         obtain ⟨hc,h9⟩:=g5
         exact hgo (by simp) (fun i hi=>by simp only [ane] at hi; subst hi; simp only [apL]; rw [<-f3']; exact hc) (by simp only [Gu,K3,apL,aoj,ano]; rw [f3,ape]) (aD h9)
        | some j=>
         obtain ⟨hc,h9⟩:=g5
         have hc':0<=i/\i<=j/\j<=((show List (El k3) from y).length:Int):=hc
         exact hgo (fun i' hi=>by simp only [ane] at hi; subst hi; rw [<-f3']; exact ⟨by omega,hc'.2.2⟩) (fun i' hi=>by simp only [ane] at hi; subst hi; exact ⟨hc'.1,hc'.2.1⟩) (by simp [Gu,K3]) (aD h9)
     | _=>exact g4.elim
    cases u with
    | val k1 s Tg=>
     cases k1 with
     | str=>exact hstr rfl
     | _=>exact hsl h8
    | _=>exact hsl h8
end
end
section
open Go
variable [Fr]
section
variable {cx:Cx} {Z:St} {J:dP} {F:List Nat} {a:Act} {w:World} {r:Nat} {R:Root}
theorem Rel.lose (H:Rel cx Z J F a w) (hr:aQ Z r R) (hv:bB Z R) {l:List TypeId} (hl:l≠[]):∃J',Rel cx (au Z r (vM R l)) J' F a w:=by
 have K:=H.roots r R hr
 have hnt:=H.dG r R hr.1
 have hsub:∀t,az t (bM R.own l)=true->az t R.own=true:=fun t ht=>(dK.1 ht).1
 obtain ⟨I4,fd,hp1,hO⟩:=uK (own':=bM R.own l) (fun t _ h=>hsub t h) (K.ow hv)
 have hfo:∀b∈I4,b∈J.fo r:=fun b hb=>hp1.mem_iff.2 (anj _ hb)
 have hfd:∀b∈fd,b∈J.fo r:=fun b hb=>hp1.mem_iff.2 (ang _ hb)
 have hbk:∀b∈iX (vM R l) (J.loc r) I4,b∈blk J R r:=fun b hb=>by
  rw [bX]
  rcases ann.1 hb with h | h
  ·exact anj _ h
  ·exact ang _ (hfo b h)
 have hnd:=K.nd
 rw [bX] at hnd
 have aa8:(iX R (J.loc r) (I4++fd)).Nodup:=by
  have:(iX R (J.loc r) (J.fo r)).Perm (iX R (J.loc r) (I4++fd)):=aoD _ hp1
  exact this.nodup_iff.1 hnd
 have Zn:(iX R (J.loc r) I4++fd).Nodup:=by
  have e:iX R (J.loc r) (I4++fd)=iX R (J.loc r) I4++fd:=by simp [iX,anB]
  rw [<-e]; exact aa8
 have T1:yN cx Z J F w r R (vM R l) I4 F w l []:=by
  refine ⟨.inr ⟨rfl,rfl,anv _,rfl,fun _=>rfl, .inl hl⟩,⟨fun t ht=>hnt.1 t ht,fun n hn=>hnt.2.2 n hn⟩,⟨rfl,rfl,rfl⟩,anv _,fun b _ hne=>absurd rfl hne,fun _ b hb=>.inl (hbk b hb),fun b hb=>.inl hb,H.xK,fun _ b hb=>H.iY r R hr b (hbk b hb),fun _ _ _ _ _ _ _ _ hne=>absurd rfl hne,fun _=>⟨rfl,rfl⟩⟩
 have hcl0:∀tys,bD (au Z r (vM R l)) tys R.tags=bD Z tys R.tags:=fun tys=>lF hnt.2.2
 refine ⟨aG J r (J.loc r) (J.hdr r) I4,T1.rel H hr (fun _=>⟨fun hvn=>?_,K.len,fun b o hb=>?_, ?_⟩) ?_ ?_⟩
 ·refine bE (fun _ _=>rfl) (fun b hb=>?_) (fun _ _=>rfl) hO
  have hblk:∀q Q,aQ (au Z r (vM R l)) q Q->b∈blk (aG J r (J.loc r) (J.hdr r) I4) Q q->(q=r/\b∈iX R (J.loc r) I4)\/(q≠r/\aQ Z q Q/\b∈blk J Q q):=by
   intro q Q hq hbq
   by_cases e:q=r
   ·subst e
    obtain ⟨rfl,_⟩:=eP hq
    rw [fB] at hbq
    exact .inl ⟨rfl,hbq⟩
   ·refine .inr ⟨e,(Gt e).1 hq, ?_⟩
    cases OH:Nat.beq q r with
    | true=>exact absurd (ani OH) e
    | false=>simpa [blk,dY,aG,upd,OH] using hbq
  rcases hb with hb | hb
  ·obtain ⟨g1,g2,g3,g4,g5⟩:=hb
   refine ⟨g1,g2,g3,fun q Q hq hbq=>?_,g5⟩
   rcases hblk q Q hq hbq with ⟨rfl,h⟩ | ⟨_,h1,h2⟩
   ·exact g4 q R hr (hbk b h)
   ·exact g4 q Q h1 h2
  ·have hbb:b∈blk J R r:=ang _ (hfd b hb)
   have hm:=K.mine b hbb
   refine ⟨hm.1,H.iY r R hr b hbb,oq H hr (hfd b hb),fun q Q hq hbq=>?_,fun h0=>?_⟩
   ·exfalso
    rcases hblk q Q hq hbq with ⟨rfl,h⟩ | ⟨h,h1,h2⟩
    ·exact (anl.1 Zn).2.2 b h b hb rfl
    ·exact H.EK q Q r R h1 hr h b h2 hbb
   ·rcases hm.2 with h | ⟨j,pi,h1,h2⟩
    ·omega
    ·exact .inr ⟨j,pi,h1,h2⟩
 ·exact K.mem b o (by rw [uo]; exact hb)
 ·have:=Zn.sublist (List.sublist_append_left _ _)
  exact this
 ·intro _ p n v hn hold
  refine ⟨hold.1,fun Q hQ Kr hcl hty hs=>?_⟩
  rw [aI] at hQ
  simp only [ane] at hQ
  subst hQ
  obtain ⟨g1,cs,b,o,g2,g3⟩:=hold.2 R hr.1 hv hcl (fun t ht=>hsub t (hty t ht)) hs
  refine ⟨g1,cs,b,o, ?_,g3⟩
  have e1:(aG J r (J.loc r) (J.hdr r) I4).hdr r=J.hdr r:=by simp [aG,upd_same]
  have e2:dY (aG J r (J.loc r) (J.hdr r) I4) (vM R l) r=dY J R r:=by rw [kE,uo]; rfl
  rw [e1,e2]
  exact g2
 ·intro _ g v _ hold Q hQ hg
  obtain ⟨rfl,_⟩:=eP hQ
  obtain ⟨h1,h2⟩:=hold R hr hg
  refine ⟨h1, ?_⟩
  simp only [aG,upd_same]
  exact h2
theorem abz (H:Rel cx Z J F a w) (l:List TypeId) (r:Nat):∃J',Rel cx (VU l r Z) J' F a w:=by
 unfold VU
 split
 ·exact ⟨_,H⟩
 ·rename_i hl
  split
  ·rename_i R hR
   cases hc:R.bg || !bD Z R.z8 R.tags || !R.own.any (fun t=>az t l) with
   | true=>exact ⟨_,H⟩
   | false=>
    simp only [aor,Bool.not_eq_false'] at hc
    exact H.lose (r:=r) (R:=R) ⟨hR,hc.1.1⟩ ⟨hc.1.1,hc.1.2⟩ (fun h=>hl h)
  ·exact ⟨_,H⟩
theorem Kw (hi:Hint):∀(rs:List Nat) {Z:St} {J:dP},Rel cx Z J F a w->∃J',Rel cx (AP hi rs Z) J' F a w
 | [],_,_,H=>⟨_,H⟩
 | r :: rs,_,_,H=>by
  obtain ⟨J',h⟩:=abz H (vC (1000000+r) hi.less) r
  exact Kw hi rs h
end
end
section
open Go
variable [Fr]
section
variable {cx:Cx} {Z:St} {J:dP} {F:List Nat} {a:Act} {w:World} {r:Nat}
theorem QE (H:Rel cx Z J F a w) (hn:Z.roots r=none) (hx:gy r=false) {e:TypeId} {k:K} {xs:List (El k)} {own:List TypeId} {tags:List Tag} {arr:Array Value} {lo hi n c:Nat} {bC:List (List Nat)} {F1:List Nat}
  (hwt:fG Z tags) (hown:az e own=true) (hfr:zY arr.size lo hi) (hnx:n=xs.length) (hnc:n<=c) (hca:c * k.size<=arr.size)
  (hfl:bC.length=xs.length) (Nl:∀b∈bC.flatten,b∈F) (Kn:bC.flatten.Nodup) (hF1:∀b∈F1,b∈F/\b∉bC.flatten) (aeS:F1.Nodup)
  (hel:∀(i:Nat) (hi:i<xs.length),∃ds,ds.length=k.size/\(∀j,j<ds.length->arr[i * k.size+j]?=ds[j]?)/\Ow (hp w) own (fun b=>jc cx Z J F w tags b\/(b∈F/\b∉F1/\b∉bC.flatten)) k xs[i] ds (bC.getD i [])) (kp:Bool) (dr:Nat) :
  ∃J' F',Rel cx (au Z r (aK (.sl e k) xs own tags .anon kp)) J' F' a ((dw w dr).alloc (.cells arr e (lo,hi)))/\
   bN cx (au Z r (aK (.sl e k) xs own tags .anon kp)) J' F' ((dw w dr).alloc (.cells arr e (lo,hi))) (.ref r 0) (.slice (some ⟨w.heap.size,0,none⟩) n c):=by
 have H0:=H.drawn dr
 obtain ⟨H1,T1⟩:=H0.alloc (.cells arr e (lo,hi))
 have hsz:(dw w dr).heap.size=w.heap.size:=rfl
 have hnew:hp ((dw w dr).alloc (.cells arr e (lo,hi))) w.heap.size=some (.cells arr e (lo,hi)):=o9 (dw w dr) _
 have hold:∀b,b<w.heap.size->hp ((dw w dr).alloc (.cells arr e (lo,hi))) b=hp w b:=fun b hb=>mW (dw w dr) _ hb
 have Es:w.heap.size∉F:=fun h=>by have:=(H.fl _ h).1; omega
 have hv:aV own (.sl e k)=aV own k:=by simp [aV,hown]
 obtain ⟨J',k1,k2⟩:=w9 (k:=.sl e k) (x:=(xs:El (.sl e k))) (own:=own) (tags:=tags) (v:=.slice (some ⟨w.heap.size,0,none⟩) n c) (cs:=[.slice (some ⟨w.heap.size,0,none⟩) n c]) (fo:=w.heap.size :: bC.flatten) (r:=r) (F':=F1) H1 hn hx
  (fun b hb=>by
   rcases anq.1 hb with h | h
   ·subst h; exact anM
   ·exact anE _ (Nl b h))
  (anN.2 ⟨fun h=>Es (Nl _ h),Kn⟩) hwt
  (fun b hb=>⟨anE _ (hF1 b hb).1,fun h=>by
   rcases anq.1 h with h | h
   ·subst h; exact Es (hF1 _ hb).1
   ·exact (hF1 b hb).2 h⟩) aeS rfl
  (fun hc=>by
   rw [hv] at hc
   obtain ⟨_,hV,_⟩:=T1.views H0 tags _ hwt hc
   unfold Ow
   rw [aoi hown]
   refine ⟨_,_,_,rfl,hnx,hnc, .inr ⟨w.heap.size,0,arr,lo,hi,rfl,hnew,hfr,by omega,bC,hfl, .refl _,fun i hi=>?_⟩⟩
   obtain ⟨ds,h1,h2,h3⟩:=hel i hi
   refine ⟨ds,fun j hj=>?_, ?_⟩
   ·unfold cellAt
    rw [hnew]
    simp only [anY]
    exact h2 j hj
   ·refine bE ?_ ?_ (fun b hb=>hold b (H.fl b (Nl b (rz hb))).1) (rQ _ (fun _ h=>h) h3)
    ·rintro b ⟨hb | ⟨hb,_⟩,_⟩
     ·exact hold b hb.1
     ·exact hold b (H.fl b hb).1
    ·rintro b ⟨hb | ⟨g1,g2,g3⟩,hty⟩
     ·exact .inl (hV b hb (.inl hty)).1
     ·refine .inr ⟨anE _ g1,g2,fun h=>?_⟩
      rcases anq.1 h with h | h
      ·subst h; exact Es g1
      ·exact g3 h) ⟨rfl,by simp⟩ kp
 exact ⟨J',F1,k1,k2⟩
theorem KN (H:Rel cx Z J F a w) (hn:Z.roots r=none) (hx:gy r=false) {e:TypeId} {k:K} {xs:List (El k)} {own:List TypeId} {arr:Array Value} {lo hi n c:Nat}
  (hown:az e own=true) (hfr:zY arr.size lo hi) (hnx:n=xs.length) (hnc:n<=c) (hca:c * k.size<=arr.size)
  (hel:∀(i:Nat) (hi:i<xs.length),∃ds,ds.length=k.size/\(∀j,j<ds.length->arr[i * k.size+j]?=ds[j]?)/\∀h ok,Ow h own ok k xs[i] ds []) (kp:Bool) (dr:Nat) :
  ∃J' F',Rel cx (au Z r (aK (.sl e k) xs own [] .anon kp)) J' F' a ((dw w dr).alloc (.cells arr e (lo,hi)))/\
   bN cx (au Z r (aK (.sl e k) xs own [] .anon kp)) J' F' ((dw w dr).alloc (.cells arr e (lo,hi))) (.ref r 0) (.slice (some ⟨w.heap.size,0,none⟩) n c):=by
 have hfl:(List.replicate xs.length ([]:List Nat)).flatten=[]:=by simp
 refine QE H hn hx (bC:=List.replicate xs.length []) (F1:=F) (fun t ht=>by simp at ht) hown hfr hnx hnc hca (by simp) (by rw [hfl]; simp) (by rw [hfl]; exact an4) (by rw [hfl]; exact fun b hb=>⟨hb,by simp⟩) H.xK ?_ kp dr
 intro i hi
 obtain ⟨ds,h1,h2,h3⟩:=hel i hi
 refine ⟨ds,h1,h2, ?_⟩
 have:(List.replicate xs.length ([]:List Nat)).getD i []=[]:=by
  rw [dh (by simpa using hi)]; simp
 rw [this]
 exact h3 _ _
end
end
section
open Go
variable [Fr]
section
variable {P:Program} {T:jh} {cx:Cx} {Z:St} {J:dP} {F:List Nat} {a:Act} {w:World} {o:Oper} {d:Nat} {ws:List Wr}
theorem fM.int {t:TypeId} {ik:IntKind} (h:fM P T t (.int ik)):P.underlying t=some (.int ik):=by
 unfold fM j5 at h
 exact h.1
theorem fM.und {t:TypeId} {k:K} (h:fM P T t k):∃u,P.underlying t=some u:=by
 unfold fM j5 at h
 cases k with
 | int ik=>exact ⟨_,h.1⟩
 | bool=>exact ⟨_,h.1⟩
 | id e=>exact ⟨_,h.1⟩
 | str=>exact ⟨_,h.1⟩
 | sl e k=>exact ⟨_,h.1⟩
 | unit=>exact h.elim
 | pair a b=>exact h.elim
 | st c=>obtain ⟨⟨fs,h1,_⟩,_⟩:=h; exact ⟨_,h1⟩
 | gap n=>exact h.elim
theorem O4 (ns:List Int):∀(s:ByteArray),(∀n∈ns,0<=n/\n<256)->bytesOf (ns.foldl (fun r n=>r.push (UInt8.ofNat n.toNat)) s)=bytesOf s++ns:=by
 induction ns with
 | nil=>intro s _; simp
 | cons n ns ih=>
  intro s h
  rw [List.foldl_cons,ih _ (fun m hm=>h m (by simp [hm]))]
  have h1:=h n (by simp)
  have:bytesOf (s.push (UInt8.ofNat n.toNat))=bytesOf s++[n]:=by
   unfold bytesOf
   simp only [ByteArray.push,Array.toList_push,aon,aoh,List.map_nil]
   congr 2
   simp
   omega
  rw [this]
  simp
theorem Ro {h:Heap} {ok:Nat->Prop} {xs:List Int} {bb q:Nat} (hes:∀(i:Nat) (hi:i<xs.length),∃ds,Cells h bb (q+i * 1) ds/\Vw h ok (.int .u8) xs[i] ds) :
  Cells h bb q (xs.map (Value.int .u8))/\∀n∈xs,0<=n/\n<256:=by
 refine ⟨fun i hi=>?_,fun n hn=>?_⟩
 ·simp only [aoy] at hi
  obtain ⟨ds,h1,h2,_⟩:=hes i hi
  have:=h1 0 (by rw [h2]; simp)
  rw [h2] at this
  simp only [aoS,Nat.mul_one,anU] at this
  rw [this]
  simp [hi]
 ·obtain ⟨i,hi,rfl⟩:=aoc.1 hn
  obtain ⟨ds,_,_,h3⟩:=hes i hi
  exact h3
theorem LJ (hT:eG P T) (H:Rel cx Z J F a w) (hd:o.dst=some d) (hdn:d<cx.nt) {s t:TypeId} {x:Operand} (ho:o.op=.convert s t x)
  (h:(dU x fun a=>UC T d s t a fun ws=>(.ret ws:Prog (List Wr))).ends Z ws):pY P cx o a w (aB ws Z):=by
 obtain ⟨u,h1,h2,h5⟩:=bY H h
 have hrun:∀{v:Value} {w':World},(convert s t (a.eval x)).run P w=.ok v w'->(execOp a.eval o).run P w=.ok (.value v) w':=by
  intro v w' h
  simp only [execOp,ho,anF,h,anx,anK]
 have hstr:∀{B:ByteArray},(convert s t (a.eval x)).run P w=.ok (.string B) w->pY P cx o a w (aB [Wr.s d (v1 .str (bytesOf B))] Z):=by
  intro B hr
  exact bR H hd hdn (hrun hr) (show bN cx Z J F w (.val .str (bytesOf B) []) _ from OW) yK
 unfold UC at h5
 cases hs:T.ty s with
 | none=>rw [hs] at h5; exact h5.elim
 | some ks=>
  have hks:=hT.ty s ks hs
  cases ht:T.ty t with
  | none=>rw [hs,ht] at h5; cases ks <;> exact h5.elim
  | some kt=>
   have hkt:=hT.ty t kt ht
   rw [hs,ht] at h5
   obtain ⟨us,hus⟩:=hks.und
   cases kt with
   | int ik=>
    have h6:(match u with
     | .val (.int _) n _=>(.ret [Wr.s d (v1 (.int ik) (ik.wrap n))]:Prog (List Wr))
     | _=>.fail).ends Z ws:=by cases ks <;> exact h5
    split at h6
    ·obtain ⟨e1,e2⟩:=wH h1
     rw [aD h6]
     refine bR H hd hdn (hrun ?_) (oL ik (nE _ _)) yK
     rw [e1]
     unfold convert
     simp only [anF,aoR hus,aoR hkt.int,Result.andThen]
     rfl
    ·exact h6.elim
   | str=>
    cases ks with
    | str=>
     simp only at h5
     split at h5
     ·obtain ⟨B,e1,e2⟩:=wI h1
      subst e2
      rw [aD h5]
      refine hstr ?_
      rw [e1]
      unfold convert
      simp only [anF,aoR hks.str,aoR hkt.str,Result.andThen]
      rfl
     ·exact h5.elim
    | sl e k1=>
     cases k1 with
     | int ik1=>
      cases ik1 with
      | u8=>
       obtain ⟨hu,he,_,_⟩:=hks.sl
       have hgo:∀{b:Option Addr} {n c:Nat} {xs:List Int},a.eval x=.slice b n c->n=xs.length->(0<n->∃bb q,b=some ⟨bb,q,none⟩/\∀(i:Nat) (hi:i<xs.length),∃ds,Cells (hp w) bb (q+i * 1) ds/\Vw (hp w) (fun _=>True) (.int .u8) xs[i] ds)->
         ws=[Wr.s d (v1 .str xs)]->pY P cx o a w (aB ws Z):=by
        intro b n c xs e hn hes hws
        have hcv:(convert s t (a.eval x)).run P w=(Conv.bytesToString (.slice b n c)).run P w:=by
         rw [e]
         unfold convert
         simp only [anF,aoR hu,aoR hkt.str,aoR he.int,Result.andThen]
        cases b with
        | none=>
         have hx0:xs=[]:=by
          cases xs with
          | nil=>rfl
          | cons y ys=>
           obtain ⟨bb,q,h0,_⟩:=hes (by rw [hn]; simp)
           simp at h0
         subst hx0
         rw [hws]
         exact hstr (B:=ByteArray.empty) (hcv.trans rfl)
        | some ad=>
         by_cases h0:0<n
         ·obtain ⟨bb,q,e0,hes'⟩:=hes h0
          simp only [ane] at e0
          subst e0
          obtain ⟨g1,g2⟩:=Ro hes'
          have hl:(loadCells ⟨bb,q,none⟩ n).run P w=.ok (xs.map (Value.int .u8)).toArray w:=by
           have:=run_loadCells_list (P:=P) w ⟨bb,q,none⟩ (xs.map (Value.int .u8)) (fun j v hj=>by
            rw [addr_add,wu,g1 j (anZ.1 hj).1]
            exact hj)
           simpa [hn] using this
          have hb:=run_bytesToString w ⟨bb,q,none⟩ n c xs hl
          have hbe:=O4 xs ByteArray.empty g2
          have:xs=bytesOf (xs.foldl (fun r n=>r.push (UInt8.ofNat n.toNat)) ByteArray.empty):=by rw [hbe]; rfl
          rw [hws,this]
          exact hstr (hcv.trans hb)
         ·have hx0:xs=[]:=aom (by omega)
          subst hx0
          have hn0:n=0:=by omega
          subst hn0
          have hl:(loadCells ad 0).run P w=.ok (([]:List Int).map (Value.int .u8)).toArray w:=rfl
          have hb:=run_bytesToString w ad 0 c [] hl
          rw [hws]
          exact hstr (B:=ByteArray.empty) (hcv.trans hb)
       cases u with
       | jy=>
        obtain ⟨b,e⟩:=h1
        exact hgo (xs:=[]) e rfl (fun h=>by omega) (aD h5)
       | _=>
        obtain ⟨k',y,Tg,cs,g1,g2,g3,g4⟩:=uT H h1 h2 h5
        cases k' with
        | sl e' k2=>
         cases k2 with
         | int ik2=>
          cases ik2 with
          | u8=>
           obtain ⟨b,n,c,f1,f2,f3,f4,f5⟩:=A9 g1 g2
           refine hgo (xs:=y) f1 f3 (fun h0=>?_) (aD g4)
           obtain ⟨bb,q,e0,_,_,hes⟩:=f5 h0
           exact ⟨bb,q,e0,fun i hi=>by
            obtain ⟨ds,m1,m2⟩:=hes i hi
            exact ⟨ds,m1,m2⟩⟩
          | _=>exact g4.elim
         | _=>exact g4.elim
        | _=>exact g4.elim
      | _=>exact h5.elim
     | _=>exact h5.elim
    | _=>exact h5.elim
   | sl e k1=>
    cases ks with
    | str=>
     cases k1 with
     | int ik1=>
      cases ik1 with
      | u8=>
       simp only at h5
       split at h5
       ·obtain ⟨B,e1,e2⟩:=wI h1
        subst e2
        obtain ⟨g1,g2⟩:=fC h5
        rw [aD g2]
        obtain ⟨hu,he,_,_⟩:=hkt.sl
        have hr:=run_bytes_of_string w s t e B hks.str hu he.int
        have hcap:=grownCap_ge w B.size 0 e
        have hsz:(bytesRow B (grownCap w B.size 0 e)).size=grownCap w B.size 0 e:=by
         simp [bytesRow]
         show B.data.size+_=_
         have:B.data.size=B.size:=rfl
         omega
        obtain ⟨J',F',r1,r2⟩:=KN (r:=aY d 0) (e:=e) (k:=.int .u8) (xs:=bytesOf B) (own:=[e]) (arr:=bytesRow B (grownCap w B.size 0 e)) (lo:=(bytesRow B (grownCap w B.size 0 e)).size) (hi:=(bytesRow B (grownCap w B.size 0 e)).size+1) (n:=B.size) (c:=grownCap w B.size 0 e) H g1 (fE d 0)
         (by simp [az]) ⟨by omega,fun i hi=>by omega⟩ (mH B).symm hcap (by simp [K.size,hsz])
         (fun i hi=>by
          have hi':i<B.size:=by rw [<-mH B]; exact hi
          refine ⟨[Value.int .u8 (bytesOf B)[i]],rfl,fun j hj=>?_,fun h ok=>⟨rfl,rfl, ?_⟩⟩
          ·simp only [anA] at hj
           have hj0:j=0:=by omega
           subst hj0
           have hid:i<B.data.size:=hi'
           simp only [K.size,Nat.mul_one,aoS,anU]
           unfold bytesRow
           rw [apF (by simpa using hid)]
           simp [bytesOf]
           exact ⟨B.data[i],Array.getElem?_eq_getElem hid,rfl⟩
          ·have:=(bytesOf B)[i]
           have hm:(bytesOf B)[i]∈bytesOf B:=anI hi
           unfold bytesOf at hm
           obtain ⟨y,_,hy⟩:=anQ.1 hm
           show (0:Int)<=(bytesOf B)[i]/\(bytesOf B)[i]<256
           have hy':(y.toNat:Int)=(bytesOf B)[i]:=hy
           rw [<-hy']
           have:=y.toNat_lt
           omega) false (w.drawn+1)
        exact iF (x:=.one (.ref (aY d 0) 0)) r1 hd hdn (hrun (by rw [e1]; exact hr)) r2 ⟨_,aI .., .inr (anO _)⟩
       ·exact h5.elim
      | _=>exact h5.elim
     | _=>exact h5.elim
    | _=>
     cases k1 with
     | int ik1=>cases ik1 <;> exact h5.elim
     | _=>exact h5.elim
   | _=>cases ks <;> exact h5.elim
end
end
section
open Go
variable [Fr]
section
variable {P:Program} {T:jh} {cx:Cx} {Z:St} {J:dP} {F:List Nat} {a:Act} {w:World} {o:Oper} {d:Nat} {ws:List Wr}
theorem sJ {k:K} (h:(∀a b,k≠.pair a b)/\k≠.unit/\∀n,k≠.gap n):(pG k).cells=(bS k).toArray:=by
 have:=(QL h.1 h.2.1 h.2.2).cells
 apply aod
 simpa using this
theorem Ky {z:Array Value} {n j:Nat} (h:j<n) (hz:0<z.size):(madeCells z n)[j]?=z[j % z.size]?:=by
 unfold madeCells
 have:j % z.size<z.size:=Nat.mod_lt _ hz
 simp [h,this]
theorem Ih (hT:eG P T) (H:Rel cx Z J F a w) (hd:o.dst=some d) (hdn:d<cx.nt) {t:TypeId} {x y:Operand}
  (h:(match T.ty t with
   | some (.sl e kk)=>dU x fun a=>dU y fun b=>asInt a fun ik i=>asInt b fun jk j=>bif yD ik .i64 && yD jk .i64 then
     .tQ (i=j/\0<=i/\i * T.bytes e<=140737488355328) inferInstance (iL (aY d 0)
      (.ret [Wr.r (aY d 0) (some (aK (.sl e kk) (List.replicate i.toNat kk.zero) (e :: kk.tys) [] .anon)),Wr.s d (.one (.ref (aY d 0) 0))]))
    else (.fail:Prog (List Wr))
   | _=>.fail).ends Z ws) (ho:o.op=.makeSlice t x y):pY P cx o a w (aB ws Z):=by
 cases hty:T.ty t with
 | none=>rw [hty] at h; exact h.elim
 | some k0=>
  rw [hty] at h
  cases k0 with
  | sl e kk=>
   have ht:=hT.ty t _ hty
   simp only at h
   obtain ⟨u,h1,_,h2⟩:=bY H h
   obtain ⟨v,h3,_,h4⟩:=bY H h2
   obtain ⟨ik,i,e1,_,h5⟩:=xe h1 h4
   obtain ⟨jk,j,e2,_,h6⟩:=xe h3 h5
   rcases ay h6 with ⟨_,h7⟩ | ⟨_,h7⟩
   ·obtain ⟨⟨hij,h0,hb⟩,h8⟩:=h7
    obtain ⟨g1,g2⟩:=fC h8
    rw [aD g2]
    obtain ⟨hu,he,hk,ii,hi,hby,hpos⟩:=ht.sl
    obtain ⟨i',hi',hs',hz'⟩:=he.info
    rw [hi] at hi'
    simp only [ane] at hi'
    subst hi'
    obtain ⟨n,rfl⟩:∃n:Nat,i=n:=⟨i.toNat,by omega⟩
    subst hij
    have hbn:n * T.bytes e<=140737488355328:=by
     have:((n * T.bytes e:Nat):Int)<=140737488355328:=by simpa using hb
     omega
    have hn:n<=140737488355328:=by
     have:n * 1<=n * T.bytes e:=Nat.mul_le_mul_left _ (by omega)
     omega
    have hbi:(ii.bytes:Int) * (n:Int)<=281474976710656:=by
     rw [hby]
     have:((T.bytes e * n:Nat):Int)<=281474976710656:=by rw [Nat.mul_comm]; omega
     simpa using this
    have hr:=run_make (P:=P) w t e ii (pG kk) hu hi hz' ik jk (n:Int) (n:Int) (by omega) (ao3 _) hbi (by omega)
    simp only [ano,hs'] at hr
    have hsh:=he.shape
    have hzc:=sJ hsh
    have hzO:∀h ok,Ow h (e :: kk.tys) ok kk kk.zero (bS kk) []:=fun h ok=>Cq he.eY (fun t ht=>aM.2 (by simp [ht]))
    have hzl:(bS kk).length=kk.size:=cZ (hzO (hp w) (fun _=>True))
    have hms:(madeCells (pG kk).cells (n * kk.size)).size=n * kk.size:=by simp [madeCells]
    obtain ⟨J',F',r1,r2⟩:=KN (r:=aY d 0) (e:=e) (k:=kk) (xs:=List.replicate n kk.zero) (own:=e :: kk.tys) (arr:=madeCells (pG kk).cells (n * kk.size)) (lo:=0) (hi:=0) (n:=n) (c:=n) H g1 (fE d 0)
     (aM.2 (by simp)) zY.zero (by simp) (anv _) (by rw [hms]; exact anv _)
     (fun i hi=>by
      have hi':i<n:=by simpa using hi
      refine ⟨bS kk,hzl,fun j hj=>?_,fun h ok=>?_⟩
      ·have hlt:i * kk.size+j<n * kk.size:=by
        have:(i+1) * kk.size<=n * kk.size:=anL _ (by omega)
        rw [aoO,aoP] at this
        omega
       rw [Ky hlt (by rw [hzc]; simp; omega),hzc]
       simp only [apE,hzl,List.getElem?_toArray]
       congr 1
       rw [Nat.mul_comm,Nat.mul_add_mod]
       exact Nat.mod_eq_of_lt (by omega)
      ·have:(List.replicate n kk.zero)[i]'hi=kk.zero:=by simp
       rw [this]
       exact hzO h ok) false w.drawn
    refine iF (x:=.one (.ref (aY d 0) 0)) r1 hd hdn ?_ r2 ⟨_,aI .., .inr (anO _)⟩
    simp only [execOp,ho,e1,e2,anF,hr,anx,anK]
    rfl
   ·exact h7.elim
  | _=>exact h.elim
end
end
section
open Go
variable [Fr]
section
variable {P:Program} {T:jh} {cx:Cx} {Z:St} {J:dP} {F:List Nat} {a:Act} {w:World} {o:Oper} {d:Nat} {ws:List Wr}
def mm2 (mx:Bool):Value->Value->Sem Value:=if mx then Builtin.max2 else Builtin.min2
theorem VX {A:Type} {z:A} {mx:Bool} {ik:IntKind} {k:Int->Prog A}:∀{l:List AV} {vs:List Value} {x:Int},eD cx Z J F w l vs->GV ik x->(SG mx ik x l k).ends Z z->
  ∃y,(vs.foldlM (mm2 mx) (.int ik x)).run P w=.ok (.int ik y) w/\GV ik y/\(k y).ends Z z:=by
 intro l
 induction l with
 | nil=>
  intro vs x h1 hr h
  cases vs with
  | nil=>exact ⟨x,rfl,hr,h⟩
  | cons v vs=>exact h1.elim
 | cons u l ih=>
  intro vs x h1 hr h
  cases vs with
  | nil=>exact h1.elim
  | cons v vs=>
   cases u with
   | val k1 y Tg=>
    cases k1 with
    | int jk=>
     simp only [SG] at h
     rcases ay h with ⟨hk,h5⟩ | ⟨_,h5⟩
     ·have:=yZ hk
      subst this
      obtain ⟨e1,e2⟩:=wH h1.1
      subst e1
      have hr':GV ik (if mx=true then (if (show Int from y)>x then y else x) else (if (show Int from y)<x then y else x)):=by
       split <;> split <;> assumption
      obtain ⟨y',g1,g2,g3⟩:=ih h1.2 hr' h5
      refine ⟨y', ?_,g2,g3⟩
      rw [List.foldlM_cons,anF]
      have hstep:(mm2 mx (.int ik x) (.int ik y)).run P w=.ok (.int ik (if mx=true then (if (show Int from y)>x then y else x) else (if (show Int from y)<x then y else x))) w:=by
       cases mx <;> rfl
      rw [hstep]
      exact g1
     ·exact h5.elim
    | _=>exact h.elim
   | _=>exact h.elim
theorem FQ (H:Rel cx Z J F a w) (hd:o.dst=some d) (hdn:d<cx.nt) {c:Call} {mx:Bool} (ho:o.op=.call c) (hb:c.callee=.builtin (if mx then .max else .min))
  (h:(kH c.args.toList fun
   | .val (.int ik) x _ :: l=>SG mx ik x l fun z=>.ret [Wr.s d (.one (.val (.int ik) z []))]
   | _=>(.fail:Prog (List Wr))).ends Z ws):pY P cx o a w (aB ws Z):=by
 obtain ⟨vs,h1,h2,h5⟩:=jJ H h
 split at h5
 ·rename_i ik x Tg l
  cases hl:c.args.toList with
  | nil=>rw [hl] at h1; exact h1.elim
  | cons y l'=>
   rw [hl] at h1
   obtain ⟨e1,e2⟩:=wH h1.1
   obtain ⟨z,g1,g2,g3⟩:=VX (P:=P) (w:=w) h1.2 e2 h5
   rw [aD g3]
   refine bR (v:=.int ik z) H hd hdn ?_ (OV g2) (fun t ht=>by simp at ht)
   obtain ⟨cc,hcc⟩:=jW (P:=P) (a:=a) (w:=w) ho hb
   rw [hcc]
   have hargs:(c.args.map a.eval).toList=.int ik x :: l'.map a.eval:=by rw [apG,hl,aoh,e1]
   cases mx with
   | true=>
    have g1':(List.foldlM Builtin.max2 (Value.int ik x) (l'.map a.eval)).run P w=.ok (.int ik z) w:=g1
    simp only [aof,builtin,Builtin.max_,hargs,anF,g1',anx,anK]
   | false=>
    have g1':(List.foldlM Builtin.min2 (Value.int ik x) (l'.map a.eval)).run P w=.ok (.int ik z) w:=g1
    simp only [anh,aog,builtin,Builtin.min_,hargs,anF,g1',anx,anK]
 ·exact h5.elim
end
end
section
open Go
variable [Fr]
theorem fold_at:∀(vs:List Value) (k off:Nat) (cells:Array Value),off+k+vs.length<=cells.size->
  ((vs.zipIdx k).foldl (fun cs (p:Value×Nat)=>cs.setIfInBounds (off+p.2) p.1) cells).size=cells.size/\
  ∀i,((vs.zipIdx k).foldl (fun cs (p:Value×Nat)=>cs.setIfInBounds (off+p.2) p.1) cells)[i]?=if off+k<=i/\i<off+k+vs.length then vs[i - (off+k)]? else cells[i]?:=by
 intro vs
 induction vs with
 | nil=>intro k off cells h; exact ⟨rfl,fun i=>by simp; omega⟩
 | cons v vs ih=>
  intro k off cells h
  simp only [anD] at h
  simp only [List.zipIdx_cons,List.foldl_cons]
  obtain ⟨g1,g2⟩:=ih (k+1) off (cells.setIfInBounds (off+k) v) (by simp; omega)
  refine ⟨by rw [g1]; simp,fun i=>?_⟩
  rw [g2 i]
  simp only [anD]
  by_cases h1:off+(k+1)<=i/\i<off+(k+1)+vs.length
  ·rw [aoi h1,aoi (by omega)]
   have:i - (off+k)=(i - (off+(k+1)))+1:=by omega
   rw [this,apI]
  ·rw [aok h1]
   by_cases h2:i=off+k
   ·subst h2
    rw [aoi (by omega),aoU (by omega),aps]
    rfl
   ·rw [aok (by omega),aoV (by omega)]
theorem UW (vs:List Value) (off:Nat) (cells:Array Value) (h:off+vs.length<=cells.size) :
  (vs.zipIdx.foldl (fun cs (p:Value×Nat)=>cs.setIfInBounds (off+p.2) p.1) cells)=(cells.toList.take off++(vs++cells.toList.drop (off+vs.length))).toArray:=by
 obtain ⟨g1,g2⟩:=fold_at vs 0 off cells (by omega)
 apply Array.ext_getElem?
 intro i
 rw [g2 i]
 simp only [aoS,List.getElem?_toArray]
 by_cases h1:i<off
 ·rw [aok (by omega),aoI (by simp; omega),apn h1]
  simp
 ·by_cases h2:i<off+vs.length
  ·rw [aoi (by omega),aoJ (by simp; omega),aoI (by simp; omega)]
   congr 1
   simp
   omega
  ·rw [aok (by omega),aoJ (by simp; omega),aoJ (by simp; omega),apo]
   rw [apt]
   congr 1
   simp
   omega
theorem CR {place:Nat->Option (Nat×Nat)} {cells:Array Value} {i off:Nat} {v:Value} {vs:List Value} {rest:List (Nat×Value)} (hp:place i=some (off,vs.length)) (hv:v.cells=vs.toArray) (hl:off+vs.length<=cells.size) :
  Instr.fill place cells ((i,v) :: rest)=Instr.fill place (cells.toList.take off++(vs++cells.toList.drop (off+vs.length))).toArray rest:=by
 rw [<-UW vs off cells hl]
 conv=>lhs; unfold Instr.fill
 rw [hp]
 simp only [hv,apE,ne_eq,not_true_eq_false,apd,aos,ao1]
 rw [aok (by omega)]
 simp
def nJ:List (Nat×iW)->Bn->Option Bn
 | [],b=>some b
 | (n,tk) :: l,b=>match b.k,b.x with
  | .st c,x=>match aP n c x with
   | some d=>bif tk.k.beq d.1 then
     match dm n c x ⟨tk.k,tk.x⟩ with
     | some z=>nJ l { k:=.st z.1,x:=z.2,bad:=tk.bad++b.bad,tags:=jq tk.iD b.tags,ws:=b.ws++tk.ws,keep:=tk.keep || b.keep,all:=tk.tags++b.all }
     | none=>none
    else none
   | none=>none
  | _,_=>none
section
variable {P:Program} {T:jh} {cx:Cx} {Z:St} {J:dP} {F:List Nat} {a:Act} {w:World}
theorem Fy {A:Type} {z:A} (H:Rel cx Z J F a w) {k:Bn->Prog A}:∀{l:List (Nat×AV)} {vs:List Value} {b:Bn},eD cx Z J F w (l.map (·.2)) vs->(∀v∈l,qM Z v.2)->(Ao l b k).ends Z z->
  ∃(tks:List iW) (b':Bn),tks.length=l.length/\vs.length=l.length/\(∀it∈vs.zip tks,wo cx Z J F w it.1 it.2)/\nJ ((l.map (·.1)).zip tks) b=some b'/\(k b').ends Z z:=by
 intro l
 induction l with
 | nil=>
  intro vs b h1 _ h
  cases vs with
  | nil=>exact ⟨[],b,rfl,rfl,by simp,rfl,h⟩
  | cons v vs=>exact h1.elim
 | cons p l ih=>
  obtain ⟨n,x⟩:=p
  intro vs b h1 h2 h
  cases vs with
  | nil=>exact h1.elim
  | cons v vs=>
   obtain ⟨bk,bx,ai3,aeL,bws,aeK,ai2⟩:=b
   cases bk with
   | st c=>
    simp only [Ao] at h
    cases hg:aP n c bx with
    | none=>rw [hg] at h; exact h.elim
    | some d=>
     rw [hg] at h
     simp only at h
     obtain ⟨tk,htk,h5⟩:=qG H h1.1 (h2 (n,x) (by simp)) h
     rcases ay h5 with ⟨hk,h6⟩ | ⟨_,h6⟩
     ·cases hp:dm n c bx ⟨tk.k,tk.x⟩ with
      | none=>rw [hp] at h6; exact h6.elim
      | some zz=>
       rw [hp] at h6
       obtain ⟨tks,b',g1,g2,g3,g4,g5⟩:=ih h1.2 (fun v hv=>h2 v (by simp [hv])) h6
       refine ⟨tk :: tks,b',by simp [g1],by simp [g2], ?_, ?_,g5⟩
       ·intro it hit
        rw [apH] at hit
        rcases anq.1 hit with h | h
        ·subst h; exact htk
        ·exact g3 it h
       ·rw [aoh,apH]
        unfold nJ
        simp only [hg,hk,an0,hp]
        exact g4
     ·exact h6.elim
   | _=>exact h.elim
end
end
section
open Go
variable [Fr]
def wm (h:Heap) (own:List TypeId) (ok:Nat->Prop):List (Nat×iW)->List Value->List (List Nat)->Prop
 | [],[],[]=>True
 | p :: l,v :: vs,ft :: x9=>(∃cs,VC p.2.k v cs/\Ow h own ok p.2.k p.2.x cs ft)/\wm h own ok l vs x9
 | _,_,_=>False
theorem Fx {h:Heap} {own:List TypeId} {ok:Nat->Prop} {place:Nat->Option (Nat×Nat)} {c:K} (hpl:∀n off k,bG n c=some (off,k)->place n=some (off,k.size)) :
  ∀(l:List (Nat×iW)) {vs:List Value} {x9:List (List Nat)} {x:El c} {cs:List Value} {fo:List Nat} {bad:List TypeId} {tags:List Tag} {ws:List Wr} {kp:Bool} {all:List Tag} {b':Bn},
   Ow h own ok c x cs fo->wm h own ok l vs x9->nJ l ⟨.st c,x,bad,tags,ws,kp,all⟩=some b'->
   ∃(x':El c) (cs':List Value) (dO rest:List Nat) (bad':List TypeId) (tags':List Tag) (ws':List Wr) (kp':Bool) (all':List Tag),b'=⟨.st c,x',bad',tags',ws',kp',all'⟩/\Ow h own ok c x' cs' dO/\(fo++x9.flatten).Perm (dO++rest)/\
    Instr.fill place cs.toArray ((l.map (·.1)).zip vs)=some cs'.toArray:=by
 intro l
 induction l with
 | nil=>
  intro vs x9 x cs fo bad tags ws kp all b' H hP hb
  cases vs with
  | nil=>
   cases x9 with
   | nil=>
    simp only [nJ,ane] at hb
    exact ⟨x,cs,fo,[],bad,tags,ws,kp,all,hb.symm,H,by simp,rfl⟩
   | cons f fs=>exact hP.elim
  | cons v vs=>cases x9 <;> exact hP.elim
 | cons p l ih=>
  obtain ⟨n,tk⟩:=p
  intro vs x9 x cs fo bad tags ws kp all b' H hP hb
  cases vs with
  | nil=>cases x9 <;> exact hP.elim
  | cons v vs=>
   cases x9 with
   | nil=>exact hP.elim
   | cons ft x9=>
    obtain ⟨⟨cst,hv,hO⟩,hP'⟩:=hP
    unfold nJ at hb
    simp only at hb
    cases hg:aP n c x with
    | none=>rw [hg] at hb; simp at hb
    | some d=>
     rw [hg] at hb
     simp only at hb
     cases hk:tk.k.beq d.1 with
     | false=>rw [hk] at hb; simp at hb
     | true=>
      rw [hk] at hb
      simp only [an0] at hb
      cases hp:dm n c x ⟨tk.k,tk.x⟩ with
      | none=>rw [hp] at hb; simp at hb
      | some z=>
       rw [hp] at hb
       simp only at hb
       have ek:=K.eq_of_beq hk
       have ez:=FJ n hg hp ek
       obtain ⟨off,pre,cs1,post,fT,fr,ho,ec,hl,hpf,hd,hu,_⟩:=EJ n H hg
       have r:=hu h ok ⟨tk.k,tk.x⟩ cst ft z hp hO (fun b hb=>⟨hb,rfl⟩) (fun _ _=>rfl)
       obtain ⟨zk,zx⟩:=z
       simp only at ez
       subst ez
       obtain ⟨x',cs',dO,rest,bad',tags',ws',kp',all',g1,g2,g3,g4⟩:=ih r hP' hb
       refine ⟨x',cs',dO,fT++rest,bad',tags',ws',kp',all',g1,g2, ?_, ?_⟩
       ·simp only [aoa]
        have s1:(fo++(ft++x9.flatten)).Perm ((fT++fr)++(ft++x9.flatten)):=aoE _ hpf
        have s2:((fT++fr)++(ft++x9.flatten)).Perm (fT++((ft++fr)++x9.flatten)):=by
         rw [anB]
         refine aoD _ ?_
         rw [<-anB]
         exact aoE _ aoF
        exact s1.trans (s2.trans ((aoD _ g3).trans xA))
       ·rw [aoh,apH]
        have hcl:cst.length=d.1.size:=by rw [cZ hO,ek]
        have BJ:v.cells=cst.toArray:=by
         have:=hv.cells
         apply aod
         simpa using this
        rw [CR (off:=off) (vs:=cst) (by rw [hcl]; exact hpl n off d.1 ho) BJ (by rw [ec]; simp; have:=cZ hd; omega)]
        have e2:(cs.toArray.toList.take off++(cst++cs.toArray.toList.drop (off+cst.length)))=pre++(cst++post):=by
         have hd1:=cZ hd
         simp only
         rw [ec, <-hl]
         simp [hcl, <-hd1]
        rw [e2]
        exact g4
end
section
open Go
variable [Fr]
theorem yC:∀(l:List (Nat×iW)) {b b':Bn},nJ l b=some b'->
  b'.ws=b.ws++l.flatMap (fun p=>p.2.ws)/\(∀p∈l,∀t∈p.2.tags,t∈b'.all)/\(∀t∈b.all,t∈b'.all)/\(∀p∈l,∀t∈p.2.bad,t∈b'.bad)/\(∀t∈b.bad,t∈b'.bad)/\
  (∀p∈l,∀t∈p.2.iD,t∈b'.tags)/\(∀t∈b.tags,t∈b'.tags)/\(∀t∈b'.tags,t∈b.tags\/∃p∈l,t∈p.2.iD):=by
 intro l
 induction l with
 | nil=>
  intro b b' h
  simp only [nJ,ane] at h
  subst h
  simp
 | cons p l ih=>
  obtain ⟨n,tk⟩:=p
  intro b b' h
  obtain ⟨bk,bx,ai3,aeL,bws,aeK,ai2⟩:=b
  cases bk with
  | st c=>
   unfold nJ at h
   simp only at h
   cases hg:aP n c bx with
   | none=>rw [hg] at h; simp at h
   | some d=>
    rw [hg] at h
    simp only at h
    cases hk:tk.k.beq d.1 with
    | false=>rw [hk] at h; simp at h
    | true=>
     rw [hk] at h
     simp only [an0] at h
     cases hp:dm n c bx ⟨tk.k,tk.x⟩ with
     | none=>rw [hp] at h; simp at h
     | some z=>
      rw [hp] at h
      simp only at h
      obtain ⟨g1,g2,g3,g4,g5,g6,g7,g8⟩:=ih h
      refine ⟨by rw [g1]; simp, ?_,fun t ht=>g3 t (by simp [ht]), ?_,fun t ht=>g5 t (by simp [ht]), ?_,fun t ht=>g7 t (dF.2 (.inr ht)), ?_⟩
      ·intro p hp t ht
       rcases anq.1 hp with h | h
       ·subst h; exact g3 t (by simp [ht])
       ·exact g2 p h t ht
      ·intro p hp t ht
       rcases anq.1 hp with h | h
       ·subst h; exact g5 t (by simp [ht])
       ·exact g4 p h t ht
      ·intro p hp t ht
       rcases anq.1 hp with h | h
       ·subst h; exact g7 t (dF.2 (.inl ht))
       ·exact g6 p h t ht
      ·intro t ht
       rcases g8 t ht with h | ⟨p,h1,h2⟩
       ·rcases dF.1 h with h | h
        ·exact .inr ⟨(n,tk),by simp,h⟩
        ·exact .inl h
       ·exact .inr ⟨p,by simp [h1],h2⟩
  | _=>simp [nJ] at h
theorem wm.mono {h:Heap} {own:List TypeId} {ok ok':Nat->Prop} (hk:∀b,ok b->ok' b):∀{l:List (Nat×iW)} {vs:List Value} {x9:List (List Nat)},wm h own ok l vs x9->wm h own ok' l vs x9
 | [],[],[],_=>trivial
 | _ :: _,_ :: _,_ :: _,hP=>⟨by obtain ⟨cs,h1,h2⟩:=hP.1; exact ⟨cs,h1,bE (fun _ _=>rfl) hk (fun _ _=>rfl) h2⟩,wm.mono hk hP.2⟩
 | [],[],_ :: _,hP=>hP.elim
 | [],_ :: _,_,hP=>hP.elim
 | _ :: _,[],_,hP=>hP.elim
 | _ :: _,_ :: _,[],hP=>hP.elim
section
variable {cx:Cx} {Z:St} {J:dP} {F:List Nat} {w:World}
theorem wS {own':List TypeId} {T:List Tag}:∀(items:List (Nat×Value×iW)) {hs:List (List Value×List Nat)},qX cx Z J F w (items.map (·.2)) hs->(∀it∈items,∀t∈it.2.2.bad,az t own'=false)->(∀it∈items,∀t∈it.2.2.iD,t∈T)->
  ∃(x9:List (List Nat)) (yS:List Nat),(hs.flatMap (·.2)).Perm (x9.flatten++yS)/\wm (hp w) own' (fun b=>jc cx Z J F w T b\/b∈yS) (items.map fun p=>(p.1,p.2.2)) (items.map (·.2.1)) x9:=by
 intro items
 induction items with
 | nil=>
  intro hs h _ _
  cases hs with
  | nil=>exact ⟨[],[],by simp,trivial⟩
  | cons _ _=>exact h.elim
 | cons it items ih=>
  obtain ⟨n,v,tk⟩:=it
  intro hs h hbad htag
  cases hs with
  | nil=>exact h.elim
  | cons hd hs=>
   obtain ⟨cs,fo⟩:=hd
   obtain ⟨⟨h1,h2,h3⟩,h4⟩:=h
   obtain ⟨x9,yS,g1,g2⟩:=ih h4 (fun it hit=>hbad it (by simp [hit])) (fun it hit=>htag it (by simp [hit]))
   have hO:=h2.ow h3
   have hO2:Ow (hp w) tk.own (fun b=>jc cx Z J F w T b) tk.k tk.x cs fo:=by
    cases hb:tk.bad with
    | nil=>exact gI hb hO
    | cons t0 l=>
     have e:tk.iD=tk.tags:=by unfold iW.iD; rw [hb]
     exact bE (fun _ _=>rfl) (fun b hb=>vN hb (fun t ht=>htag (n,v,tk) (by simp) t (by show t∈tk.iD; rw [e]; exact ht))) (fun _ _=>rfl) hO
   obtain ⟨ft,Ae,p1,p2⟩:=uK (own':=own') (fun t ht hm=>by
    rcases zF (own:=tk.own) ht with h | h
    ·have:=hbad (n,v,tk) (by simp) t h
     rw [hm] at this
     simp at this
    ·exact h) hO2
   refine ⟨ft :: x9,Ae++yS, ?_,⟨cs,h1,bE (fun _ _=>rfl) (fun b hb=>?_) (fun _ _=>rfl) p2⟩,g2.mono (fun b hb=>?_)⟩
   ·simp only [anT,aoa]
    refine (p1.append g1).trans ?_
    simp only [anB]
    refine aoD _ ?_
    exact xA
   ·rcases hb with hb | hb
    ·exact .inl hb
    ·exact .inr (by simp [hb])
   ·rcases hb with hb | hb
    ·exact .inl hb
    ·exact .inr (by simp [hb])
end
end
section
open Go
variable [Fr]
theorem SV {P:Program} {T:jh}:∀{c:K} {fs:List Field} {GD:Nat},(j5 P T c).2 fs GD->
  ∃places,fs.mapM (fun f=>(P.info? f.type).map fun i=>(f.offset,i.size))=some places/\∀n off k,bG n c=some (off,k)->places[n]?=some (GD+off,k.size):=by
 intro c
 induction c with
 | unit=>
  intro fs GD h
  have h':fs=[]:=h
  subst h'
  exact ⟨[],rfl,fun n off k ho=>by cases n <;> simp [bG] at ho⟩
 | pair a b iha ihb=>
  intro fs GD h
  cases fs with
  | nil=>exact h.elim
  | cons f fs=>
   obtain ⟨h1,h2,h3,h4⟩:=h
   obtain ⟨pl,g1,g2⟩:=ihb h4
   obtain ⟨i,i1,i2,_⟩:=fM.info (show fM P T f.type a from h2)
   refine ⟨(GD,a.size) :: pl, ?_, ?_⟩
   ·rw [apq,i1,g1]
    simp [h1,i2]
   ·intro n off k ho
    cases n with
    | zero=>
     simp only [bG,ane,anp] at ho
     obtain ⟨rfl,rfl⟩:=ho
     rfl
    | succ n=>
     simp only [bG] at ho
     cases h5:bG n b with
     | none=>rw [h5] at ho; simp at ho
     | some q=>
      rw [h5] at ho
      simp only [ane,anp] at ho
      rw [apI,g2 n q.1 q.2 (by rw [h5]), <-ho.1, <-ho.2]
      congr 2
      omega
 | _=>intro fs GD h; exact h.elim
theorem Fz {P:Program} {T:jh} {t:TypeId} {c:K} (ht:fM P T t (.st c)):∃place:Nat->Option (Nat×Nat),(∀n off k,bG n c=some (off,k)->place n=some (off,k.size))/\
  ∀parts,P.built t parts=Instr.fill place (bS c).toArray parts:=by
 obtain ⟨fs,hu,hf⟩:=ht.st
 obtain ⟨i,i1,i2,i3⟩:=ht.info
 obtain ⟨pl,g1,g2⟩:=SV hf
 refine ⟨(pl.toArray[·]?),fun n off k ho=>?_,fun parts=>?_⟩
 ·have:=g2 n off k ho
  simpa using this
 ·unfold Program.built
  rw [i1,hu]
  simp only [i3,g1]
  rfl
theorem vU {h:Heap} {own:List TypeId} {ok:Nat->Prop}:∀{k:K},eY k=true->Ow h own ok k k.zero (bS k) []:=by
 intro k
 induction k with
 | int ik=>intro _; exact ⟨rfl,rfl,by cases ik <;> simp [GV,K.zero]⟩
 | bool=>intro _; exact ⟨rfl,rfl⟩
 | id e=>intro _; exact ⟨rfl,by show _=[Fr.jm 0]; rw [Fr.abr]; rfl⟩
 | str=>intro _; exact ⟨rfl,ByteArray.empty,rfl,rfl⟩
 | sl e k ih=>intro _; exact zi
 | unit=>intro _; exact ⟨rfl,rfl⟩
 | pair a b iha ihb=>
  intro hg
  simp [eY] at hg
  exact ⟨bS a,bS b,[],[],rfl, .refl _,iha hg.1,ihb hg.2⟩
 | st f ih=>intro hg; exact ih hg
 | gap n=>intro hg; simp [eY] at hg
theorem Ba {cx:Cx} {Z:St} {J:dP} {F:List Nat} {w:World} {r:Nat} (hn:Z.roots r=none):∀{l:List (Value×iW)},(∀it∈l,wo cx Z J F w it.1 it.2)->r∉(um l).flatMap Wr.tF:=by
 intro l h hm
 simp only [um,anR] at hm
 obtain ⟨wr,⟨it,hit,hw⟩,hr⟩:=hm
 cases h it hit with
 | held hws cs hv hh hc=>rw [hws] at hw; simp at hw
 | ref q R hlr hv e hk hd=>
  rw [e] at hw
  simp only [anz] at hw
  subst hw
  simp only [Wr.tF,anz] at hr
  rw [hr,hlr.1] at hn
  simp at hn
 | cut q R cs hlr hv hk e hd hl Sg how=>
  rw [e.2.2.1] at hw
  simp only [anz] at hw
  subst hw
  simp only [Wr.tF,anz] at hr
  rw [hr,hlr.1] at hn
  simp at hn
 | gap q R p dd z hlr hv hg hz eZ hown hpv e hnn=>
  rw [e] at hw
  simp only [anz] at hw
  subst hw
  simp only [Wr.tF,anz] at hr
  rw [hr,hlr.1] at hn
  simp at hn
theorem DD:∀(ns:List Nat) (vs:List Value) (ts:List iW),ns.length=ts.length->vs.length=ts.length->
  ((ns.zip (vs.zip ts)).map (·.2)=vs.zip ts)/\((ns.zip (vs.zip ts)).map (fun p=>(p.1,p.2.2))=ns.zip ts)/\((ns.zip (vs.zip ts)).map (·.2.1)=vs)/\(um (vs.zip ts)=(ns.zip ts).flatMap (fun p=>p.2.ws)):=by
 intro ns
 induction ns with
 | nil=>
  intro vs ts h1 h2
  cases ts with
  | nil=>cases vs with
   | nil=>exact ⟨rfl,rfl,rfl,rfl⟩
   | cons _ _=>simp at h2
  | cons _ _=>simp at h1
 | cons n ns ih=>
  intro vs ts h1 h2
  cases ts with
  | nil=>simp at h1
  | cons t ts=>
   cases vs with
   | nil=>simp at h2
   | cons v vs=>
    obtain ⟨g1,g2,g3,g4⟩:=ih vs ts (by simpa using h1) (by simpa using h2)
    refine ⟨by simp [g1],by simp [g2],by simp [g3], ?_⟩
    unfold um at g4 ⊢
    simp [g4]
end
section
open Go
variable [Fr]
section
variable {P:Program} {T:jh} {cx:Cx} {Z:St} {J:dP} {F:List Nat} {a:Act} {w:World} {o:Oper} {d:Nat} {ws:List Wr}
theorem wB:∀{l:List (Value×iW)} {hs:List (List Value×List Nat)},qX cx Z J F w l hs->∀b∈hs.flatMap (·.2),b∈F
 | [],[],_,b,hb=>by simp at hb
 | _ :: _,hd :: hs,h,b,hb=>by
  simp only [anT,ann] at hb
  rcases hb with hb | hb
  ·exact h.1.2.1.sub b hb
  ·exact wB h.2 b hb
 | [],_ :: _,h,_,_=>h.elim
 | _ :: _,[],h,_,_=>h.elim
theorem yc:∀{l:List (Value×iW)} {hs:List (List Value×List Nat)},qX cx Z J F w l hs->∀it∈l,fG Z it.2.tags
 | [],[],_,it,hi=>by simp at hi
 | _ :: _,hd :: hs,h,it,hi=>by
  rcases anq.1 hi with hi | hi
  ·subst hi; exact h.1.2.1.wt
  ·exact yc h.2 it hi
 | [],_ :: _,h,_,_=>h.elim
 | _ :: _,[],h,_,_=>h.elim
theorem IY (hT:eG P T) (H:Rel cx Z J F a w) (hd:o.dst=some d) (hdn:d<cx.nt) {t:TypeId} {ps:Array (Nat×Operand)}
  (h:(match T.ty t with
   | some (.st c)=>Ad ps.toList fun l=>Ao l ⟨.st c,(K.st c).zero,[],[],[],false,[]⟩ fun b=>bif !Co b.ws b.all then .fail else bif b.k.tys.all fun t=>az t b.bad then
     .ret (b.ws++[Wr.s d (.one (.val b.k b.x b.tags))])
    else iL (aY d 0) (.ret (b.ws++[Wr.r (aY d 0) (some (aK b.k b.x (bM b.k.tys b.bad) b.tags .anon b.keep)),Wr.s d (.one (.ref (aY d 0) 0))]))
   | _=>(.fail:Prog (List Wr))).ends Z ws) (ho:o.op=.build t ps):pY P cx o a w (aB ws Z):=by
 cases hty:T.ty t with
 | none=>rw [hty] at h; exact h.elim
 | some k0=>
  rw [hty] at h
  cases k0 with
  | st c=>
   have ht:=hT.ty t _ hty
   simp only at h
   obtain ⟨vs,e1,h1,h2,h3⟩:=CQ H h
   obtain ⟨tks,b',l1,l2,Qb,D5,h4⟩:=Fy H h1 h2 h3
   have hlen:vs.length=tks.length:=l1.symm
   have Gi:(vs.map (·.1)).length=tks.length:=by rw [aoy]; exact hlen
   have Gn:((evs a ps.toList).map (·.2)).length=tks.length:=by rw [l2]; exact hlen
   generalize hns:vs.map (·.1)=ns at *
   generalize hvv:(evs a ps.toList).map (·.2)=vals at *
   obtain ⟨z1,z2,z3,z4⟩:=DD ns vals tks Gi Gn
   obtain ⟨f1,f2,f3,f4,f5,f6,f7,f8⟩:=yC _ D5
   simp only [anX] at f1
   rcases ay h4 with ⟨_,h5⟩ | ⟨hws,h5⟩
   ·exact h5.elim
   ·have Ay:Co b'.ws b'.all=true:=by simpa using hws
    unfold Co at Ay
    simp only [ank] at Ay
    have hw1:=vk.1 Ay.1
    have hw2:=xP.1 Ay.2
    rw [f1, <-z4] at hw1 hw2
    obtain ⟨J',F',hs,H',hA,hnd,hnF,hFF,hS,_⟩:=takes (vals.zip tks) H Qb hw1 (fun tg tY=>hw2 tg (by
     obtain ⟨it,hit,h6⟩:=anR.1 tY
     have:it∈(ns.zip (vals.zip tks)).map (·.2):=by rw [z1]; exact hit
     obtain ⟨q,hq,rfl⟩:=anQ.1 this
     exact f2 (q.1,q.2.2) (by rw [<-z2]; exact anQ.2 ⟨q,hq,rfl⟩) tg h6))
    have Ze:=hA
    rw [<-z1] at hA
    obtain ⟨x9,yS,p1,p2⟩:=wS (own':=bM (K.st c).tys b'.bad) (T:=b'.tags) (ns.zip (vals.zip tks)) hA
     (fun it hit tg tY=>by
      cases hm:az tg (bM (K.st c).tys b'.bad) with
      | false=>rfl
      | true=>exact absurd (f4 (it.1,it.2.2) (by rw [<-z2]; exact anQ.2 ⟨it,hit,rfl⟩) tg tY) (dK.1 hm).2)
     (fun it hit tg tY=>f6 (it.1,it.2.2) (by rw [<-z2]; exact anQ.2 ⟨it,hit,rfl⟩) tg tY)
    rw [z2,z3,z1] at p2
    obtain ⟨place,q1,q2⟩:=Fz ht
    obtain ⟨x',cs',dO,rest,bad',tags',ZL,kp',all',r1,r2,r3,r4⟩:=Fx q1 (ns.zip tks) (x:=(K.st c).zero) (cs:=bS c) (fo:=[]) (vU (k:=c) ht.eY) p2 D5
    subst r1
    simp only at Ay f1 f2 f3 f4 f5 f6 f7 f8 h5 p2 r2 r3
    have hzn:(ns.zip tks).map (·.1)=ns:=by rw [List.map_fst_zip (by omega)]
    have hparts:((ps.map fun (p:Nat×Operand)=>(p.1,a.eval p.2)).toList)=ns.zip vals:=by
     rw [apG, <-hvv,e1]
     have:∀l:List (Nat×Operand),l.map (fun p=>(p.1,a.eval p.2))=(l.map (·.1)).zip ((evs a l).map (·.2)):=by
      intro l
      induction l with
      | nil=>rfl
      | cons p l ih=>simp [evs] at ih ⊢; exact ih
     exact this _
    have hrun:(execOp a.eval o).run P w=.ok (.value (.agg cs'.toArray)) w:=by
     have hb:=run_build (P:=P) w t (ps.map fun (p:Nat×Operand)=>(p.1,a.eval p.2)) cs'.toArray (by rw [hparts,q2, <-r4,hzn])
     simp only [execOp,ho,anF,hb,anx,anK]
    have hperm:(hs.flatMap (·.2)).Perm (dO++(rest++yS)):=by
     refine p1.trans ?_
     rw [<-anB]
     exact aoE _ (by simpa using r3)
    have pQ:=hperm.nodup hnd
    have hin:∀b∈hs.flatMap (·.2),b∈F':=wB Ze
    have Et:∀b∈dO,b∈F':=fun b hb=>hin b (hperm.mem_iff.2 (by simp [hb]))
    have R5:∀b∈yS,b∈F'/\b∉dO:=fun b hb=>⟨hin b (hperm.mem_iff.2 (by simp [hb])),fun h=>(anl.1 pQ).2.2 b h b (by simp [hb]) rfl⟩
    have hV:VC (.st c) (.agg cs'.toArray) cs':=rfl
    have hwt:fG (aB (um (vals.zip tks)) Z) tags':=by
     intro tg tY
     rcases f8 tg tY with h | ⟨q,hq,hq2⟩
     ·simp at h
     ·rw [<-z2] at hq
      obtain ⟨it,hit,rfl⟩:=anQ.1 hq
      have hit2:it.2∈vals.zip tks:=by rw [<-z1]; exact anQ.2 ⟨it,hit,rfl⟩
      exact zW (yc Ze it.2 hit2) tg hq2
    have Sk:ZL=um (vals.zip tks):=by rw [f1,z4]
    rcases ay h5 with ⟨hall,h6⟩ | ⟨_,h6⟩
    ·rw [aD h6]
     have hnone:∀tg∈c.tys,az tg (bM (K.st c).tys bad')=false:=by
      intro tg tY
      cases hm:az tg (bM (K.st c).tys bad') with
      | false=>rfl
      | true=>
       have:=anu.1 hall tg tY
       exact absurd (aM.1 this) (dK.1 hm).2
     have Gg:dO=[]:=by
      cases hf:dO with
      | nil=>rfl
      | cons b l=>
       obtain ⟨e,g1,g2,_⟩:=tN (k:=c) r2 b (by rw [hf]; simp)
       rw [hnone e g1] at g2
       simp at g2
     have T2:=zM (w':=w) (F':=F'.filter fun b=>!az b yS) H' ⟨rfl,rfl,rfl⟩ (anv _) (fun _ _ h=>absurd rfl h) (fun b hb=>.inl (anw.1 hb).1) (H'.xK.filter _)
     have H2:=H'.mem T2
     have hok:∀b,(jc cx (aB (um (vals.zip tks)) Z) J' F' w tags' b\/b∈yS)->jc cx (aB (um (vals.zip tks)) Z) J' (F'.filter fun b=>!az b yS) w tags' b:=by
      rintro b (hb | hb)
      ·exact ⟨hb.1,fun h=>hb.2.1 (anw.1 h).1,hb.2.2⟩
      ·have Es:=(R5 b hb).1
       have hm:=H'.fl b Es
       refine ⟨hm.1,fun h=>?_,rO H' Es,fun q Q hq hbq=>absurd Es (H'.iY q Q hq b hbq),fun h0=>?_⟩
       ·have:=(anw.1 h).2
        simp only [an7,aW] at this
        exact this hb
       ·rcases hm.2 with h | ⟨j,pi,h1,h2⟩
        ·omega
        ·exact .inr ⟨j,pi,h1,h2⟩
     have hVw:=lU (k:=.st c) _ hok (fun b hb=>by rw [Gg] at hb; simp at hb) r2
     rw [Sk,bZ]
     exact iF (x:=.one (.val (.st c) x' tags')) H2 hd hdn hrun (show bN cx _ J' _ w (.val (.st c) x' tags') _ from fun _=>⟨cs',hV,hVw⟩) hwt
    ·obtain ⟨g1,g2⟩:=fC h6
     rw [aD g2]
     have hnr:=Ba g1 Qb
     have hn1:(aB (um (vals.zip tks)) Z).roots (aY d 0)=none:=by rw [(hS _ hnr).root]; exact g1
     obtain ⟨Bj,k1,k2⟩:=w9 (k:=.st c) (x:=x') (own:=bM (K.st c).tys bad') (tags:=tags') (v:=.agg cs'.toArray) (cs:=cs') (fo:=dO) (r:=aY d 0) (F':=F'.filter fun b=>!az b (dO++yS)) H' hn1 (fE d 0)
      Et (anl.1 pQ).1 hwt (fun b hb=>by
       rw [anw] at hb
       have:=hb.2
       simp only [an7,aW,ann,not_or] at this
       exact ⟨hb.1,this.1⟩) (H'.xK.filter _) (cZ (k:=c) r2)
      (fun _=>bE (k:=.st c) (fun _ _=>rfl) (fun b hb=>by
       rcases hb with hb | hb
       ·exact .inl hb
       ·refine .inr ⟨(R5 b hb).1,fun h=>?_,(R5 b hb).2⟩
        rw [anw] at h
        have:=h.2
        simp only [an7,aW,ann,not_or] at this
        exact this.2 hb) (fun _ _=>rfl) r2) hV kp'
     rw [Sk,bZ]
     exact iF (x:=.one (.ref (aY d 0) 0)) k1 hd hdn hrun k2 ⟨_,aI .., .inr (anO _)⟩
  | _=>exact h.elim
theorem zf:∀(ws:List Wr) (Z:St) (n:Nat),(aB ws Z).slots n=(ze ws n).getD (Z.slots n)
 | [],_,_=>rfl
 | .s m x :: ws,Z,n=>by
  show (aB ws ((Wr.s m x).app Z)).slots n=_
  rw [zf ws]
  simp only [ze]
  cases ze ws n with
  | some b=>rfl
  | none=>
   show upd Z.slots m x n=Option.getD (bif Nat.beq n m then some x else none) (Z.slots n)
   unfold upd
   cases Nat.beq n m <;> rfl
 | .r m q :: ws,Z,n=>by
  show (aB ws ((Wr.r m q).app Z)).slots n=_
  rw [zf ws]
  simp only [ze]
  cases q <;> rfl
theorem zb:∀(ws:List Wr) (Z:St) (n:Nat),(aB ws Z).roots n=(AO ws n).getD (Z.roots n)
 | [],_,_=>rfl
 | .s m x :: ws,Z,n=>by
  show (aB ws ((Wr.s m x).app Z)).roots n=_
  rw [zb ws]
  rfl
 | .r m q :: ws,Z,n=>by
  show (aB ws ((Wr.r m q).app Z)).roots n=_
  rw [zb ws]
  simp only [AO]
  cases AO ws n with
  | some b=>rfl
  | none=>
   cases q with
   | none=>
    show upd Z.roots m (some bT) n=Option.getD (bif Nat.beq n m then some (some bT) else none) (Z.roots n)
    unfold upd
    cases Nat.beq n m <;> rfl
   | some q=>
    show upd Z.roots m (some q) n=Option.getD (bif Nat.beq n m then some (some q) else none) (Z.roots n)
    unfold upd
    cases Nat.beq n m <;> rfl
theorem SL {A:Type} {us:List Wr} {z:A}:∀{p:Prog A},(p.over us).ends Z z->p.ends (aB us Z) z:=by
 intro p
 induction p with
 | ret _=>exact fun h=>h
 | fail=>exact fun h=>h
 | slot n k ih=>
  intro h
  show (k ((aB us Z).slots n)).ends _ z
  rw [zf]
  simp only [Prog.over] at h
  cases hl:ze us n with
  | some v=>rw [hl] at h; exact ih _ h
  | none=>rw [hl] at h; exact ih _ h
 | root n k ih=>
  intro h
  show (k ((aB us Z).roots n)).ends _ z
  rw [zb]
  simp only [Prog.over] at h
  cases hl:AO us n with
  | some v=>rw [hl] at h; exact ih _ h
  | none=>rw [hl] at h; exact ih _ h
 | tQ c d k ih=>exact fun h=>⟨h.1,ih h.2⟩
 | br c t e OL OJ=>exact fun h=>h.imp (fun h=>⟨h.1,OL h.2⟩) (fun h=>⟨h.1,OJ h.2⟩)
 | opt β q k ih=>
  rintro ⟨b,h1,h2⟩
  exact ⟨b,h1,ih b h2⟩
theorem CJ {A B:Type} {f:A->Prog B} {z:B}:∀{p:Prog A},(p.bind f).ends Z z->∃x,p.ends Z x/\(f x).ends Z z:=by
 intro p
 induction p with
 | ret x=>exact fun h=>⟨x,rfl,h⟩
 | fail=>exact fun h=>h.elim
 | slot n k ih=>exact fun h=>ih _ h
 | root n k ih=>exact fun h=>ih _ h
 | tQ c d k ih=>exact fun h=>let ⟨x,h1,h2⟩:=ih h.2; ⟨x,⟨h.1,h1⟩,h2⟩
 | br c t e OL OJ=>
  rintro (h | h)
  ·obtain ⟨x,h1,h2⟩:=OL h.2
   exact ⟨x, .inl ⟨h.1,h1⟩,h2⟩
  ·obtain ⟨x,h1,h2⟩:=OJ h.2
   exact ⟨x, .inr ⟨h.1,h1⟩,h2⟩
 | opt β q k ih=>
  rintro ⟨b,h1,h2⟩
  obtain ⟨x,h3,h4⟩:=ih b h2
  exact ⟨x,⟨b,h1,h3⟩,h4⟩
theorem Dp {p q:Prog (List Wr)} {z:List Wr} (h:(Yn p q).ends Z z):∃us vs,p.ends Z us/\q.ends (aB us Z) vs/\z=us++vs:=by
 obtain ⟨us,h1,h2⟩:=CJ h
 obtain ⟨vs,h3,h4⟩:=CJ h2
 exact ⟨us,vs,h1,SL h3,h4⟩
theorem VT:∀{c:K} {us us' cs:List Value},Sz c us cs->Sz c us' cs->us=us':=by
 intro c
 induction c with
 | unit=>
  intro us us' cs h h'
  cases us with
  | nil=>cases us' with
   | nil=>rfl
   | cons _ _=>exact h'.elim
  | cons _ _=>exact h.elim
 | pair k r ihk ih=>
  intro us us' cs h h'
  cases us with
  | nil=>exact h.elim
  | cons u us=>
   cases us' with
   | nil=>exact h'.elim
   | cons u' us'=>
    obtain ⟨c1,c2,e,h1,h2,h3⟩:=h
    obtain ⟨d1,d2,e',h1',h2',h3'⟩:=h'
    rw [e] at e'
    obtain ⟨rfl,rfl⟩:=List.append_inj e' (h2.trans h2'.symm)
    rw [ih h3 h3']
    congr 1
    cases k with
    | st f=>exact (show u=_ from h1).trans (show u'=_ from h1').symm
    | _=>exact (by simpa using (And.left h1).symm.trans (And.left h1'):u=u')
 | _=>intro us us' cs h; cases us <;> exact h.elim
theorem VS {A:Type} {z:A} (H:Rel cx Z J F a w) {p:Prog A}:∀{c:K} {l:List (Nat×AV)} {i:Nat} {vs:List Value},eD cx Z J F w (l.map (·.2)) vs->(∀v∈l,qM Z v.2)->(VQ c l i p).ends Z z->
  ∃cs,Sz c vs cs/\(l.map (fun q=>q.1)).zip vs=Be i vs/\p.ends Z z:=by
 intro c
 induction c with
 | unit=>
  intro l i vs h1 _ h
  cases l with
  | nil=>
   cases vs with
   | nil=>exact ⟨[],rfl,rfl,h⟩
   | cons _ _=>exact h1.elim
  | cons _ _=>exact h.elim
 | pair k r ihk ih=>
  intro l i vs h1 h2 h
  cases l with
  | nil=>exact h.elim
  | cons q l=>
   obtain ⟨n,x⟩:=q
   cases vs with
   | nil=>exact h1.elim
   | cons v vs=>
    simp only [VQ] at h
    rcases ay h with ⟨hn,h⟩ | ⟨_,h⟩
    ·obtain ⟨tk,htk,h⟩:=qG H h1.1 (h2 (n,x) (by simp)) h
     rcases ay h with ⟨hk,h⟩ | ⟨_,h⟩
     ·obtain ⟨cs,g1,g2,g3⟩:=ih h1.2 (fun v hv=>h2 v (by simp [hv])) h
      obtain ⟨dR,F1,cst,fot,lw,lh,H1,T1,k1,k2,_⟩:=take1 H htk
      have ek:=K.eq_of_beq hk
      rw [ek] at k1
      refine ⟨cst++cs,⟨cst,cs,rfl,k1,by rw [k2.len,ek],g1⟩, ?_,g3⟩
      simp only [aoh,apH,Be]
      rw [g2,ani hn]
     ·exact h.elim
    ·exact h.elim
 | _=>intro l i vs _ _ h; cases l <;> exact h.elim
theorem Nh {k:K} (h:eY k=true):(bS k).length=k.size:=cZ (h:=fun _=>none) (own:=[]) (ok:=fun _=>True) (vU h)
theorem LX {place:Nat->Option (Nat×Nat)}:∀{c:K} {us cs pre:List Value} {j:Nat},eY c=true->Sz c us cs->(∀n off k,bG n c=some (off,k)->place (j+n)=some (pre.length+off,k.size))->
  Instr.fill place (pre++bS c).toArray (Be j us)=some (pre++cs).toArray:=by
 intro c
 induction c with
 | unit=>
  intro us cs pre j _ h _
  cases us with
  | nil=>
   have h':cs=[]:=h
   subst h'
   rfl
  | cons _ _=>exact h.elim
 | pair k r ihk ih=>
  intro us cs pre j hg h hp
  cases us with
  | nil=>exact h.elim
  | cons u us=>
   obtain ⟨c1,c2,rfl,h1,h2,h3⟩:=h
   simp only [eY,ank] at hg
   have hz:=Nh hg.1
   have BJ:u.cells=c1.toArray:=by
    have:=h1.cells
    apply aod
    simpa using this
   have h0:=hp 0 0 k rfl
   simp only [aoS] at h0
   simp only [Be]
   rw [CR (off:=pre.length) (vs:=c1) (by rw [h2]; exact h0) BJ (by simp only [bS,apE,anm]; omega)]
   have e2:((pre++bS (.pair k r)).toArray.toList.take pre.length++(c1++(pre++bS (.pair k r)).toArray.toList.drop (pre.length+c1.length)))=(pre++c1)++bS r:=by
    simp only [bS]
    rw [<-anB pre]
    have e3:pre.length+c1.length=(pre++bS k).length:=by simp [h2,hz]
    rw [e3,List.drop_left]
    simp
   rw [e2,ih hg.2 h3 (fun n off kk ho=>?_)]
   ·simp
   ·have:=hp (n+1) (k.size+off) kk (by simp [bG,ho])
    rw [show j+1+n=j+(n+1) by omega,this]
    simp [h2]
    omega
 | _=>intro us cs pre j _ h; cases us <;> exact h.elim
theorem parts_eval {ps:Array (Nat×Operand)} {ns:List Nat} {vals:List Value} (e1:ns=ps.toList.map (·.1)) (hvv:(evs a ps.toList).map (·.2)=vals):((ps.map fun (p:Nat×Operand)=>(p.1,a.eval p.2)).toList)=ns.zip vals:=by
 rw [apG, <-hvv,e1]
 have:∀l:List (Nat×Operand),l.map (fun p=>(p.1,a.eval p.2))=(l.map (·.1)).zip ((evs a l).map (·.2)):=by
  intro l
  induction l with
  | nil=>rfl
  | cons p l ih=>simp [evs] at ih ⊢; exact ih
 exact this _
theorem XJ (hT:eG P T) (H:Rel cx Z J F a w) (hd:o.dst=some d) (hdn:d<cx.nt) {t:TypeId} {ps:Array (Nat×Operand)}
  (h:(match T.ty t with
   | some (.st c)=>Ad ps.toList fun l=>VQ c l 0 (.ret [Wr.s d (.lit t c (l.map fun q:Nat×AV=>q.2))])
   | _=>(.fail:Prog (List Wr))).ends Z ws) (ho:o.op=.build t ps):pY P cx o a w (aB ws Z):=by
 cases hty:T.ty t with
 | none=>rw [hty] at h; exact h.elim
 | some k0=>
  rw [hty] at h
  cases k0 with
  | st c=>
   have ht:=hT.ty t _ hty
   simp only at h
   obtain ⟨vs,e1,h1,h2,h3⟩:=CQ H h
   obtain ⟨cs,g1,g2,g3⟩:=VS H h1 h2 h3
   rw [aD g3]
   obtain ⟨place,q1,q2⟩:=Fz ht
   have hb:=run_build (P:=P) w t (ps.map fun (p:Nat×Operand)=>(p.1,a.eval p.2)) cs.toArray (by
    rw [parts_eval e1 rfl,q2,g2]
    have:=LX (pre:=[]) (j:=0) (place:=place) (c:=c) (by simpa [eY] using ht.eY) g1 (fun n off k ho=>by simpa using q1 n off k ho)
    simpa using this)
   have hrun:(execOp a.eval o).run P w=.ok (.value (.agg cs.toArray)) w:=by simp only [execOp,ho,anF,hb,anx,anK]
   refine bR (x:=.lit t c (vs.map (·.2))) (v:=.agg cs.toArray) H hd hdn hrun ⟨_,cs,⟨rfl,g1⟩,h1⟩ (fun x hx=>?_)
   obtain ⟨q,hq,rfl⟩:=anQ.1 hx
   exact h2 q hq
  | _=>exact h.elim
theorem Rel.O7 (H:Rel cx Z J F a w) {s:Nat} {x:wL} (hw:wO Z x) (hx:jG cx Z J F w x (a.tmps.getD s undef)):Rel cx (jX Z (upd Z.slots s x)) J F a w where
 defs:=H.defs
 sz:=H.sz
 mE:=H.mE
 BX:=H.BX
 slots:=by
  intro n
  rw [DF]
  show jG cx Z J F w (upd Z.slots s x n) _
  by_cases e:n=s
  ·subst e
   rw [upd_same]
   exact hx
  ·rw [upd_ne _ _ e]
   exact H.slots n
 rD:=by
  intro n
  rw [Fj]
  show wO Z (upd Z.slots s x n)
  by_cases e:n=s
  ·subst e; rw [upd_same]; exact hw
  ·rw [upd_ne _ _ e]; exact H.rD n
 roots:=by
  intro r R hr
  have K:=H.roots r R hr
  exact ⟨fun hv=>K.ow ((lq _).1 hv),K.len,K.mem,K.nd,K.mine⟩
 dG:=H.dG
 EK:=H.EK
 fl:=H.fl
 xK:=H.xK
 iY:=H.iY
 frame:=H.frame
 uf:=H.uf
 oI:=H.oI
 vJ:=fun j p ts v h=>let ⟨h0,R,h1,h2⟩:=H.vJ j p ts v h; ⟨h0,R,h1,fun ht=>(xL _).2 (h2 ht)⟩
 vK:=H.vK
theorem Cr {A:Type}:∀(l:List A) (i:Nat),(Be i l).map (fun p=>p.2)=l
 | [],_=>rfl
 | x :: l,i=>by simp only [Be,aoh,Cr l]
theorem Ni {A B:Type}:∀(l:List A) (m:List B) (i:Nat),m.length=l.length->((Be i l).map (fun p=>p.1)).zip m=Be i m
 | [],[],_,_=>rfl
 | x :: l,y :: m,i,h=>by simp only [Be,aoh,apH,Ni l m (i+1) (by simpa using h)]
 | [],_ :: _,_,h=>by simp at h
 | _ :: _,[],_,h=>by simp at h
theorem abB (hT:eG P T) (H:Rel cx Z J F a w) {s:Nat} (h:(abA T s .ret).ends Z ws):∃J' F',Rel cx (aB ws Z) J' F' a w:=by
 unfold abA at h
 have h:(match Z.slots s with
  | .lit t c l=>_
  | _=>(.fail:Prog (List Wr))).ends Z ws:=h
 have hsl:=H.slots s
 have hsw:=H.rD s
 cases hs:Z.slots s with
 | one _=>rw [hs] at h; exact h.elim
 | Hq _=>rw [hs] at h; exact h.elim
 | lit t c l=>
  rw [hs] at h hsl hsw
  obtain ⟨us,cs,⟨ev,XZ⟩,hl⟩:=hsl
  rcases ay h with ⟨hty,h⟩ | ⟨_,h⟩
  ·have ht:fM P T t (.st c):=by
    cases hty':T.ty t with
    | none=>rw [hty'] at hty; simp at hty
    | some kk=>
     rw [hty'] at hty
     have:=K.eq_of_beq hty
     subst this
     exact hT.ty t _ hty'
   have hl':eD cx Z J F w ((Be 0 l).map (·.2)) us:=by rw [Cr]; exact hl
   obtain ⟨tks,b',l1,l2,Qb,D5,h4⟩:=Fy H hl' (fun v hv=>hsw v.2 (by
    have:v.2∈(Be 0 l).map (·.2):=anQ.2 ⟨v,hv,rfl⟩
    rwa [Cr] at this)) h
   have Qe:us.length=(Be 0 l).length:=l2
   have afq:us.length=l.length:=by
    have:=congrArg List.length (Cr l 0)
    rw [aoy] at this
    omega
   generalize hns:(Be 0 l).map (·.1)=ns at *
   have Gi:ns.length=tks.length:=by rw [<-hns,aoy]; exact l1.symm
   have Gn:us.length=tks.length:=by rw [l2]; exact l1.symm
   obtain ⟨z1,z2,z3,z4⟩:=DD ns us tks Gi Gn
   obtain ⟨f1,f2,f3,f4,f5,f6,f7,f8⟩:=yC _ D5
   simp only [anX] at f1
   rcases ay h4 with ⟨_,h5⟩ | ⟨hws,h5⟩
   ·exact h5.elim
   ·have Ay:Co b'.ws b'.all=true:=by simpa using hws
    unfold Co at Ay
    simp only [ank] at Ay
    have hw1:=vk.1 Ay.1
    have hw2:=xP.1 Ay.2
    rw [f1, <-z4] at hw1 hw2
    obtain ⟨J',F',hs',H',hA,hnd,hnF,hFF,hS,_⟩:=takes (us.zip tks) H Qb hw1 (fun tg tY=>hw2 tg (by
     obtain ⟨it,hit,h6⟩:=anR.1 tY
     have:it∈(ns.zip (us.zip tks)).map (·.2):=by rw [z1]; exact hit
     obtain ⟨q,hq,rfl⟩:=anQ.1 this
     exact f2 (q.1,q.2.2) (by rw [<-z2]; exact anQ.2 ⟨q,hq,rfl⟩) tg h6))
    have Ze:=hA
    rw [<-z1] at hA
    obtain ⟨x9,yS,p1,p2⟩:=wS (own':=bM (K.st c).tys b'.bad) (T:=b'.tags) (ns.zip (us.zip tks)) hA
     (fun it hit tg tY=>by
      cases hm:az tg (bM (K.st c).tys b'.bad) with
      | false=>rfl
      | true=>exact absurd (f4 (it.1,it.2.2) (by rw [<-z2]; exact anQ.2 ⟨it,hit,rfl⟩) tg tY) (dK.1 hm).2)
     (fun it hit tg tY=>f6 (it.1,it.2.2) (by rw [<-z2]; exact anQ.2 ⟨it,hit,rfl⟩) tg tY)
    rw [z2,z3,z1] at p2
    obtain ⟨place,q1,q2⟩:=Fz ht
    obtain ⟨x',cs',dO,rest,bad',tags',ZL,kp',all',r1,r2,r3,r4⟩:=Fx q1 (ns.zip tks) (x:=(K.st c).zero) (cs:=bS c) (fo:=[]) (vU (k:=c) ht.eY) p2 D5
    subst r1
    simp only at Ay f1 f2 f3 f4 f5 f6 f7 f8 h5 p2 r2 r3
    have hzn:(ns.zip tks).map (·.1)=ns:=by rw [List.map_fst_zip (by omega)]
    have hcs:cs'=cs:=by
     have e:=LX (pre:=[]) (j:=0) (place:=place) (c:=c) (by simpa [eY] using ht.eY) XZ (fun n off k ho=>by simpa using q1 n off k ho)
     simp only [anX] at e
     rw [hzn, <-hns,Ni l us 0 afq,e] at r4
     simpa using r4.symm
    subst hcs
    have hperm:(hs'.flatMap (·.2)).Perm (dO++(rest++yS)):=by
     refine p1.trans ?_
     rw [<-anB]
     exact aoE _ (by simpa using r3)
    have pQ:=hperm.nodup hnd
    have hin:∀b∈hs'.flatMap (·.2),b∈F':=wB Ze
    have Et:∀b∈dO,b∈F':=fun b hb=>hin b (hperm.mem_iff.2 (by simp [hb]))
    have R5:∀b∈yS,b∈F'/\b∉dO:=fun b hb=>⟨hin b (hperm.mem_iff.2 (by simp [hb])),fun h=>(anl.1 pQ).2.2 b h b (by simp [hb]) rfl⟩
    have hV:VC (.st c) (.agg cs'.toArray) cs':=rfl
    have hwt:fG (aB (um (us.zip tks)) Z) tags':=by
     intro tg tY
     rcases f8 tg tY with h | ⟨q,hq,hq2⟩
     ·simp at h
     ·rw [<-z2] at hq
      obtain ⟨it,hit,rfl⟩:=anQ.1 hq
      have hit2:it.2∈us.zip tks:=by rw [<-z1]; exact anQ.2 ⟨it,hit,rfl⟩
      exact zW (yc Ze it.2 hit2) tg hq2
    have Sk:ZL=um (us.zip tks):=by rw [f1,z4]
    obtain ⟨g1,g2⟩:=fC h5
    rw [aD g2]
    have hnr:=Ba g1 Qb
    have hn1:(aB (um (us.zip tks)) Z).roots (aY s 1)=none:=by rw [(hS _ hnr).root]; exact g1
    obtain ⟨Bj,k1,k2⟩:=w9 (k:=.st c) (x:=x') (own:=bM (K.st c).tys bad') (tags:=tags') (v:=.agg cs'.toArray) (cs:=cs') (fo:=dO) (r:=aY s 1) (F':=F'.filter fun b=>!az b (dO++yS)) H' hn1 (fE s 1)
     Et (anl.1 pQ).1 hwt (fun b hb=>by
      rw [anw] at hb
      have:=hb.2
      simp only [an7,aW,ann,not_or] at this
      exact ⟨hb.1,this.1⟩) (H'.xK.filter _) (cZ (k:=c) r2)
     (fun _=>bE (k:=.st c) (fun _ _=>rfl) (fun b hb=>by
      rcases hb with hb | hb
      ·exact .inl hb
      ·refine .inr ⟨(R5 b hb).1,fun h=>?_,(R5 b hb).2⟩
       rw [anw] at h
       have:=h.2
       simp only [an7,aW,ann,not_or] at this
       exact this.2 hb) (fun _ _=>rfl) r2) hV kp'
    rw [Sk,bZ]
    exact ⟨Bj,_,k1.O7 (x:=.one (.ref (aY s 1) 0)) ⟨_,aI .., .inr (anO _)⟩ (by rw [ev]; exact k2)⟩
  ·exact h.elim
theorem D7 {Z':St} {J':dP} {F':List Nat} (f:AV->AV) (hf:∀x v,bN cx Z J F w x v->bN cx Z' J' F' w x v->bN cx Z' J' F' w (f x) v) :
  ∀{l:List AV} {vs:List Value},eD cx Z J F w l vs->eD cx Z' J' F' w l vs->eD cx Z' J' F' w (l.map f) vs
 | [],[],_,_=>trivial
 | x :: l,v :: vs,h1,h2=>⟨hf x v h1.1 h2.1,D7 f hf h1.2 h2.2⟩
 | [],_ :: _,h,_=>h.elim
 | _ :: _,[],h,_=>h.elim
theorem KI {p q:List Stp} (h:zm p q=true):∃i j,p=[.gu i]/\q=[.gu j]/\i≠j:=by
 unfold zm at h
 split at h
 ·rename_i i j
  exact ⟨i,j,rfl,rfl,aou (by simpa using h)⟩
 ·simp at h
theorem WA (H:Rel cx Z J F a w) {s s2:Nat} (h:(Pe s s2 .ret).ends Z ws):∃J' F',Rel cx (aB ws Z) J' F' a w:=by
 unfold Pe at h
 have h:(match Z.slots s with
  | .one (.rH r p v)=>_
  | _=>(.fail:Prog (List Wr))).ends Z ws:=h
 have hsl:=H.slots s
 split at h
 case h_2=>exact h.elim
 case h_1 r p v hs=>
  rw [hs] at hsl
  unfold wG at h
  obtain ⟨R,hr,hv,h⟩:=bU h
  rcases ay h with ⟨CY,h⟩ | ⟨_,h⟩
  case inr=>exact h.elim
  have CY:=ani CY
  cases uu:aR p R.k R.x with
  | none=>rw [uu] at h; exact h.elim
  | some dd=>
   rw [uu] at h
   obtain ⟨eZ,hown,cs,wh,hnv,BJ⟩:=hsl R hr.1 hv CY dd uu
   rcases ay h with ⟨hc,h⟩ | ⟨_,h⟩
   case inr=>
    obtain ⟨_,h⟩:=gG h
    rcases ay h with ⟨_,h⟩ | ⟨hc,h⟩
    ·exact h.elim
    ·simp at hc
   cases hga:Af R p dd with
   | none=>rw [hga] at h; exact h.elim
   | some R'=>
    rw [hga] at h
    unfold Af at hga
    cases hz:eF p R.k R.x (q8 dd) with
    | none=>rw [hz] at hga; simp at hga
    | some zz=>
     rw [hz] at hga
     simp only [ane] at hga
     have hpv:p≠[]\/∃t,R.kind=.var t:=by
      simp only [ank,aol] at hc
      rcases hc.2 with h | h
      ·left; intro e; subst e; simp at h
      ·right
       unfold Root.isVar at h
       cases hk:R.kind with
       | var t=>exact ⟨t,rfl⟩
       | anon=>rw [hk] at h; simp at h
       | par=>rw [hk] at h; simp at h
       | dead=>rw [hk] at h; simp at h
     rcases ay h with ⟨_,h⟩ | ⟨hss,h⟩
     ·exact h.elim
     obtain ⟨hne,_⟩:=aor.1 hss
     have hne:s≠s2:=aou hne
     obtain ⟨hfr,h⟩:=fC h
     have h:(match Z.slots s2 with
      | .lit t c l=>_
      | _=>(.fail:Prog (List Wr))).ends Z ws:=h
     have hs2:=H.slots s2
     have hw2:=H.rD s2
     cases hsl2:Z.slots s2 with
     | one _=>rw [hsl2] at h; exact h.elim
     | Hq _=>rw [hsl2] at h; exact h.elim
     | lit t c l=>
      rw [hsl2] at h hs2 hw2
      rw [aD h]
      obtain ⟨us,cs2,⟨ev,XZ⟩,hl⟩:=hs2
      obtain ⟨cs1,nG,fT,rest,g1,H1,T1,g4,g5,_⟩:=gap H hr hv uu hz eZ hown hpv
      rw [hnv] at g1
      simp only [ane,anp] at g1
      obtain ⟨rfl,rfl⟩:=g1
      have hR':R'=fq R dd zz:=hga.symm
      subst hR'
      have hrl:aY s 1≠r:=fun e=>by rw [e,hr.1] at hfr; simp at hfr
      have hn1:(au Z r (fq R dd zz)).roots (aY s 1)=none:=by rw [bP Z _ hrl]; exact hfr
      have hcl:bD (au Z r (fq R dd zz)) (aV (dd.1.tys.filter fun t=>az t R.own) dd.1) R.tags=true:=by
       rw [uR dd.1 (fun _ h=>h),g5]
       exact ql hv.2 (fun _ h=>h) (wK p uu hown)
      have hh:Held cx (au Z r (fq R dd zz)) (aG J r (J.loc r) (J.hdr r) rest) (fT++F) w dd.1 dd.2 (dd.1.tys.filter fun t=>az t R.own) R.tags cs fT:=
       ⟨fun hc=>qY (fun t ht=>Eb t ht) (g4.ow (by rw [uR dd.1 (fun _ h=>h)] at hc; exact hc)),g4.wt,g4.sub,g4.nd,g4.len⟩
      let tk:iW:=⟨dd.1,dd.2,dd.1.tys.filter (fun t=>az t R.own),R.tags,[.r r (some (fq R dd zz))],R.keep⟩
      have hhw:fG (au Z r (fq R dd zz)) tk.tags:=hh.wt
      obtain ⟨H2,r3⟩:=II (r:=aY s 1) (k:=tk.k) (x:=tk.x) (own:=tk.own) (tags:=tk.iD) (F':=(fT++F).filter fun b=>!az b fT) H1 hn1 (fE s 1) hh.sub hh.nd (zW (tk:=tk) hhw)
       (fun b hb=>by
        obtain ⟨q1,q2⟩:=anw.1 hb
        simp only [an7,aW] at q2
        exact ⟨q1,q2⟩) (H1.xK.filter _) hh.len
       (fun afb=>by
        cases hb:tk.bad with
        | nil=>exact gI hb (hh.ow hcl)
        | cons t0 l=>
         have et:tk.iD=tk.tags:=by
          unfold iW.iD
          rw [hb]
         rw [et] at afb ⊢
         exact bE (fun _ _=>rfl) (fun b h=>.inl h) (fun _ _=>rfl) (hh.ow afb)) BJ R.keep
      have H3:=H2.O7 (s:=s) (x:=.one (.ref (aY s 1) 0)) ⟨_,aI .., .inr (anO _)⟩ r3
      have hs3:=H3.slots s2
      have hw3:=H3.rD s2
      have hkeep:(jX (au (au Z r (fq R dd zz)) (aY s 1) (aK tk.k tk.x tk.own tk.iD .anon R.keep)) (upd (au (au Z r (fq R dd zz)) (aY s 1) (aK tk.k tk.x tk.own tk.iD .anon R.keep)).slots s (.one (.ref (aY s 1) 0)))).slots s2=.lit t c l:=by
       show upd Z.slots s _ s2=_
       rw [upd_ne _ _ (Ne.symm hne)]
       exact hsl2
      rw [hkeep] at hs3 hw3
      obtain ⟨us',cs3,⟨ev',afr⟩,hl'⟩:=hs3
      have ecs:cs3=cs2:=by
       rw [ev] at ev'
       have:=congrArg Value.cells ev'
       simpa [Value.cells] using this.symm
      subst ecs
      have eus:=VT XZ afr
      subst eus
      have hroot:(au (au Z r (fq R dd zz)) (aY s 1) (aK tk.k tk.x tk.own tk.iD .anon R.keep)).roots r=some (fq R dd zz):=by
       rw [bP _ _ (Ne.symm hrl),aI]
      refine ⟨_,_,H3.O7 (s:=s2) (x:=.lit t c (l.map (OA r p v tk.ws))) (fun x hx=>?_) ⟨us,cs3,⟨ev,XZ⟩,D7 (OA r p v tk.ws) (fun x u hx0 hx1=>?_) hl hl'⟩⟩
      ·obtain ⟨y,hy,rfl⟩:=anQ.1 hx
       have hy':=hw3 y hy
       show qM _ (freshen r p v (fq R dd zz).qJ y)
       unfold freshen
       split
       ·rename_i q p' n
        cases hb:(Nat.beq r q && Nat.beq n v && zm p p') with
        | false=>exact hy'
        | true=>
         simp only [ank] at hb
         rw [<-ani hb.1.1]
         exact ⟨_,hroot, .inr (anv _)⟩
       ·exact hy'
      ·show bN cx _ _ _ w (freshen r p v (fq R dd zz).qJ x) u
       unfold freshen
       split
       ·rename_i q p' n
        cases hb:(Nat.beq r q && Nat.beq n v && zm p p') with
        | false=>exact hx1
        | true=>
         simp only [ank] at hb
         have e1:=ani hb.1.1
         have e2:=ani hb.1.2
         subst e1
         subst e2
         obtain ⟨i,j,rfl,rfl,hij⟩:=KI hb.2
         intro Q hQ Kr hnQ d' hd'
         have hQ':Q=fq R dd zz:=by
          have hQ:(au (au Z r (fq R dd zz)) (aY s 1) (aK tk.k tk.x tk.own tk.iD .anon R.keep)).roots r=some Q:=hQ
          rw [hroot] at hQ
          simpa using hQ.symm
         subst hQ'
         have hold:=hx0 R hr.1 hv CY
         obtain ⟨Rk,Rx,aav,Uh,Rw,Rh,Rg,Ug,aey,Uf,Rew,Reh⟩:=R
         cases Rk with
         | st c0=>
          simp only [eF] at hz
          simp only [aR] at uu
          cases hci:aP i c0 Rx with
          | none=>rw [hci] at uu; simp at uu
          | some d0=>
           rw [hci] at hz uu
           simp only [ane] at uu
           subst uu
           simp only at hz
           cases hcp:dm i c0 Rx (q8 d0) with
           | none=>rw [hcp] at hz; simp at hz
           | some z0=>
            rw [hcp] at hz
            simp only [ane] at hz
            subst hz
            have hput:aP j z0.1 z0.2=aP j c0 Rx:=Bv i j (Ne.symm hij) hcp
            have hd2:aR [.gu j] (.st c0) Rx=some d':=by
             have hd3:aR [.gu j] (.st z0.1) z0.2=some d':=hd'
             simp only [aR] at hd3 ⊢
             rw [hput] at hd3
             exact hd3
            obtain ⟨w1,w2,cs4,wh4,w3,w4⟩:=hold d' hd2
            have hcj:(aP j c0 Rx).isSome=true:=by
             cases hcj:aP j c0 Rx with
             | none=>simp only [aR] at hd2; rw [hcj] at hd2; simp at hd2
             | some _=>rfl
            refine ⟨?_, ?_,cs4,wh4, ?_,w4⟩
            ·show mG [.gu j] (.st z0.1) z0.2
             simp only [mG]
             rw [hput]
             cases ajz:aP j c0 Rx with
             | none=>rw [ajz] at hcj; simp at hcj
             | some _=>trivial
            ·intro t' ht'
             have ht':t'∈ah [.gu j] (.st z0.1):=ht'
             simp only [ah] at ht'
             split at ht' <;> simp at ht'
            ·have e3:(aG (aG J r (J.loc r) (J.hdr r) rest) (aY s 1) (0,0) cs fT).hdr r=J.hdr r:=by simp [aG,upd_same,upd_ne _ _ (Ne.symm hrl)]
             rw [e3]
             have e4:dY (aG (aG J r (J.loc r) (J.hdr r) rest) (aY s 1) (0,0) cs fT) (fq { k:=.st c0,x:=Rx,own:=aav,tags:=Uh,w:=Rw,h:=Rh,g:=Rg,kind:=Ug,fixed:=aey,keep:=Uf,ew:=Rew,eh:=Reh } d0 ⟨.st z0.1,z0.2⟩) r=dY J { k:=.st c0,x:=Rx,own:=aav,tags:=Uh,w:=Rw,h:=Rh,g:=Rg,kind:=Ug,fixed:=aey,keep:=Uf,ew:=Rew,eh:=Reh } r:=by
              unfold dY fq
              simp [aG,upd_same,upd_ne _ _ (Ne.symm hrl)]
             rw [e4]
             have w3':bH (hp w) [.gu j] (.st c0) (J.hdr r) _=some (cs4,wh4):=w3
             show bH (hp w) [.gu j] (.st z0.1) (J.hdr r) _=some (cs4,wh4)
             simp only [bH] at w3' ⊢
             cases hoj:bG j c0 with
             | none=>rw [hoj] at w3'; simp at w3'
             | some q=>
              rw [hoj] at w3'
              rw [Bw i j (Ne.symm hij) hci hcp (rY d0.1) hoj]
              exact w3'
         | _=>simp [aR] at uu
       ·exact hx1
theorem Tc {s2:Nat}:∀{l:List (Nat×Operand)} {ws:List Wr} {Z:St} {J:dP} {F:List Nat},Rel cx Z J F a w->(splits s2 l).ends Z ws->∃J' F',Rel cx (aB ws Z) J' F' a w:=by
 intro l
 induction l with
 | nil=>intro ws Z J F H h; rw [aD h]; exact ⟨J,F,H⟩
 | cons q l ih=>
  obtain ⟨n,x⟩:=q
  intro ws Z J F H h
  cases x with
  | tmp s=>
   simp only [splits] at h
   have h:(match Z.slots s with
    | .one (.rH r _ _)=>_
    | _=>splits s2 l).ends Z ws:=h
   split at h
   ·have h:(match Z.slots s2 with
     | .lit _ _ m=>_
     | _=>(.fail:Prog (List Wr))).ends Z ws:=h
    split at h
    ·rcases ay h with ⟨_,h⟩ | ⟨_,h⟩
     ·obtain ⟨us,vs,h1,h2,rfl⟩:=Dp h
      obtain ⟨dR,F1,H1⟩:=WA H h1
      rw [bZ]
      exact ih H1 h2
     ·exact ih H h
    ·exact h.elim
   ·exact ih H h
  | _=>exact ih H h
theorem LZ {A:Type} {z:A} {k:Nat->Prog A}:∀{l:List (Nat×Operand)},(zI l k).ends Z z->∃s,(k s).ends Z z:=by
 intro l
 induction l with
 | nil=>exact fun h=>h.elim
 | cons q l ih=>
  obtain ⟨n,x⟩:=q
  intro h
  cases x with
  | tmp s=>
   simp only [zI] at h
   have h:(match Z.slots s with
    | .lit _ _ _=>k s
    | _=>zI l k).ends Z z:=h
   split at h
   ·exact ⟨s,h⟩
   ·exact ih h
  | _=>exact ih h
theorem Ij (hT:eG P T) (H:Rel cx Z J F a w) (hd:o.dst=some d) (hdn:d<cx.nt) {t:TypeId} {ps:Array (Nat×Operand)}
  (h:(Jt T d t ps).ends Z ws) (ho:o.op=.build t ps):pY P cx o a w (aB ws Z):=by
 obtain ⟨s,h⟩:=LZ h
 obtain ⟨us,vs,h1,h2,rfl⟩:=Dp h
 obtain ⟨us2,vs2,h3,h4,rfl⟩:=Dp h2
 obtain ⟨dR,F1,H1⟩:=Tc H h1
 obtain ⟨Bj,F2,H2⟩:=abB hT H1 h3
 rw [bZ,bZ]
 exact IY hT H2 hd hdn h4 ho
end
end
section
open Go
variable [Fr]
section
variable {P:Program} {T:jh} {w:World}
structure Src (P:Program) (w:World) (size:Nat) (u:TypeId) (x:Value) (m:Nat) (news:List Value):Prop where
 und:(∃e',P.underlying u=some (.slice e'))\/P.underlying u=some .string
 len:∀w',(Builtin.lenOf x).run P w'=.ok m w'
 cells:(Builtin.firstCells size m x).run P w=.ok news.toArray w/\(Builtin.firstCells size m x).run P w.drew=.ok news.toArray w.drew
 nl:news.length=m * size
 one:∀v∈news,v.oneCell'=true
theorem xD {size:Nat} {u:TypeId} {b:Option Addr} {m c:Nat} {news:List Value} (hu:(∃e',P.underlying u=some (.slice e'))\/P.underlying u=some .string) (hl:news.length=m * size) (h1:∀v∈news,v.oneCell'=true)
  (hc:0<m->∃bb q,b=some ⟨bb,q,none⟩/\Cells (hp w) bb q news):Src P w size u (.slice b m c) m news where
 und:=hu
 len:=fun w'=>rfl
 cells:=by
  have key:∀w',hp w'=hp w->(Builtin.firstCells size m (.slice b m c)).run P w'=.ok news.toArray w':=by
   intro w' hw
   by_cases h0:0<m
   ·obtain ⟨bb,q,rfl,hcs⟩:=hc h0
    exact apC (P:=P) w' size m ⟨bb,q,none⟩ m c news hl (fun j v hj=>by
     rw [addr_add,wu,hw,hcs j (anZ.1 hj).1]
     exact hj)
   ·have hm:m=0:=by omega
    subst hm
    have hn:news=[]:=aom (by simpa using hl)
    subst hn
    cases b with
    | none=>exact apB w' size 0 0 c
    | some ad=>exact apC (P:=P) w' size 0 ad 0 c [] (by simp) (fun j v hj=>by simp at hj)
  exact ⟨key w rfl,key w.drew rfl⟩
 nl:=hl
 one:=h1
theorem Pf {u:TypeId} {B:ByteArray} (hu:(∃e',P.underlying u=some (.slice e'))\/P.underlying u=some .string):Src P w 1 u (.string B) B.size (B.data.toList.map fun b=>.int .u8 b.toNat) where
 und:=hu
 len:=fun w'=>rfl
 cells:=by
  have h:B.extract 0 B.size=B:=by
   apply ByteArray.ext
   simp
  constructor <;> (simp [Builtin.firstCells,h]; apply aod; simp)
 nl:=by simp
 one:=by intro v hv; simp only [anQ] at hv; obtain ⟨b,_,rfl⟩:=hv; rfl
theorem tH {t u ty e:TypeId} {k:K} (ht:fM P T t (.sl e k)) {b:Option Addr} {n c m:Nat} {x:Value} {news:List Value} (hs:Src P w k.size u x m news) (hr:n+m<=c) :
  (Builtin.append_ #[t,u] ty #[.slice b n c,x]).run P w=(match b with
   | some a=>(storeCells (a.add (n * k.size)) news).run P w
   | none=>.ok () w).andThen fun _ w'=>.ok (.slice b (n+m) c) w':=by
 obtain ⟨hu,he,_,_⟩:=ht.sl
 have e1:=hs.len w
 have e2:=hs.cells.1
 rcases hs.und with ⟨e',hd⟩ | hd <;> cases b <;> simp [Builtin.append_,aoR hu,he.info.sizeOf w,aoR hd,e1,e2,hr,Result.andThen]
end
end
section
open Go
variable [Fr]
section
variable {P:Program} {T:jh} {w:World}
theorem vQ {t u ty e:TypeId} {k:K} (ht:fM P T t (.sl e k)) {b:Option Addr} {n c m:Nat} {x:Value} {news olds:List Value} (hs:Src P w k.size u x m news)
  (hold:(Builtin.firstCells k.size n (.slice b n c)).run P w.drew=.ok olds.toArray w.drew) (hr:¬n+m<=c) (hb:(n+m) * T.bytes e<=140737488355328) :
  ∃nc,n+m<=nc/\(Builtin.append_ #[t,u] ty #[.slice b n c,x]).run P w =
   .ok (.slice (some ⟨w.heap.size,0,none⟩) (n+m) nc) (w.drew.alloc (.cells (olds.toArray++news.toArray++Builtin.zeroCells (pG k).cells (nc - (n+m))) e)):=by
 obtain ⟨hu,he,_,i,hi,hby,hpos⟩:=ht.sl
 obtain ⟨i',hi',hs',hz'⟩:=he.info
 rw [hi] at hi'
 simp only [ane] at hi'
 subst hi'
 have e1:=hs.len w
 have e2:=hs.cells.2
 have h2:¬(281474976710656<Builtin.nextslicecap (n+m) c * i.bytes):=by
  have:=growslice_fits (need:=n+m) (old:=c) (bytes:=i.bytes) (by omega) (by rw [hby]; exact hb)
  omega
 have h3:i.bytes≠0:=by omega
 refine ⟨grownCap w (n+m) c e,grownCap_ge w (n+m) c e, ?_⟩
 rw [<-hs'] at hold e2
 rcases hs.und with ⟨e',hd⟩ | hd
 ·simp [Builtin.append_,aoR hu,aoR hd,sizeOf,typeInfo,zeroValue,hi,hz',e1,hr,h2,h3,Question.forced,hold,e2,newRow,grownCap]
  congr 2
  apply aod
  simp [anB]
 ·simp [Builtin.append_,aoR hu,aoR hd,sizeOf,typeInfo,zeroValue,hi,hz',e1,hr,h2,h3,Question.forced,hold,e2,newRow,grownCap]
  congr 2
  apply aod
  simp [anB]
end
end
end Go.Proofs.YtailcbngagacaaaGreat.Ow
