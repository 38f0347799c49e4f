/- A verified reading of translated code, part C of 7. No condition. -/
import Derived.Test.YtailcbngagacaaaGreatOwB
import Derived.Laws.Strings
import Derived.Laws.BytesString
import Derived.Laws.IdiomStrings
import Derived.Laws.MakeOwn
import Derived.Laws.Tables
import Derived.Laws.AppendOwn
set_option linter.unusedSectionVars false
set_option linter.unusedVariables false
set_option linter.unusedSimpArgs false
namespace Go.Proofs.YtailcbngagacaaaGreat.Ow
section
open Go
variable [Fr]
theorem beq_true {a b:K} {A:Type} {x y:Prog A} {Z:St} {z:A} (h:(bif a.beq b then x else y).ends Z z):(a=b/\x.ends Z z)\/(a.beq b=false/\y.ends Z z):=by
  cases hb:a.beq b with
  | true=>rw [hb] at h; exact .inl ⟨K.eq_of_beq hb,h⟩
  | false=>rw [hb] at h; exact .inr ⟨rfl,h⟩
section
variable {P:Program} {T:bH} {cx:Cx} {Z:St} {J:aH} {F:List Nat} {a:Act} {w:World} {o:Oper} {d:Nat} {ws:List Wr}
theorem structField {P:Program} {T:bH}:∀(n:Nat) {c:K} {fs:List Field} {vY off:Nat} {k:K},(jO P T c).2 fs vY->bO n c=some (off,k)->∃f,fs[n]?=some f/\f.offset=vY+off/\dn P T f.type k/\0<k.size:=by
  intro n
  induction n with
  | zero=>
    intro c fs vY off k h ho
    cases c with
    | pair a b=>
      simp only [bO,au,bS] at ho
      obtain ⟨rfl,rfl⟩:=ho
      cases fs with
      | nil=>exact h.elim
      | cons f fs=>exact ⟨f,rfl,h.1,h.2.1,h.2.2.1⟩
    | _=>simp [bO] at ho
  | succ n ih=>
    intro c fs vY off k h ho
    cases c with
    | pair a b=>
      simp only [bO] at ho
      cases h2:bO n b with
      | none=>rw [h2] at ho; simp at ho
      | some q=>
        rw [h2] at ho
        simp only [au,bS] at ho
        cases fs with
        | nil=>exact h.elim
        | cons f fs=>
          obtain ⟨g,g1,g2,g3,g4⟩:=ih (off:=q.1) (k:=q.2) h.2.2.2 (by rw [h2])
          exact ⟨g,by simpa using g1,by rw [g2, <-ho.1]; omega,by rw [<-ho.2]; exact g3,by rw [<-ho.2]; exact g4⟩
    | _=>simp [bO] at ho
theorem dn.st {t:TypeId} {c:K} (h:dn P T t (.st c)):∃fs,P.underlying t=some (.struct fs)/\(jO P T c).2 fs.toList 0:=by
  unfold dn jO at h
  exact h.1
theorem Oj {cs:List Value} {off n:Nat} (h:off+n<=cs.length):((cs.drop off).take n).length=n:=by simp; omega
theorem QS:∀(n:Nat) {c:K} {off:Nat} {k:K},bO n c=some (off,k)->off+k.size<=c.size:=by
  intro n
  induction n with
  | zero=>intro c off k h; cases c with
    | pair a b=>simp only [bO,au,bS] at h; obtain ⟨rfl,rfl⟩:=h; simp [K.size]
    | _=>simp [bO] at h
  | succ n ih=>intro c off k h; cases c with
    | pair a b=>
      simp only [bO] at h
      cases h2:bO n b with
      | none=>rw [h2] at h; simp at h
      | some q=>
        rw [h2] at h
        simp only [au,bS] at h
        have:=ih (off:=q.1) (k:=q.2) (by rw [h2])
        simp only [K.size]
        rw [<-h.1, <-h.2]
        omega
    | _=>simp [bO] at h
theorem anu {t:TypeId} {k:K} (h:dn P T t k) (hk:0<k.size) {cs:List Value} {off:Nat} (hl:off+k.size<=cs.length):∃u,(part t cs.toArray off).run P w=.ok u w/\((∀x,u≠.agg x)\/kZ k=true->VC k u ((cs.drop off).take k.size)):=by
  unfold part
  simp only [dO,h.isAgg w,Result.andThen]
  cases hs:kZ k with
  | true=>
    refine ⟨.agg (cs.toArray.extract off (off+k.size)),by simp [h.info.sizeOf w,Result.andThen],fun _=>?_⟩
    cases k with
    | st c=>
      show Value.agg _=.agg _
      congr 1
      apply u6
      simp [List.extract_eq_take_drop]
    | _=>simp [kZ] at hs
  | false=>
    have hlt:off<cs.length:=by omega
    refine ⟨cs[off],by simp [hlt],fun hu=>?_⟩
    have hu':∀x,cs[off]≠.agg x:=hu.resolve_right (by simp)
    have hk1:k.size=1:=by
      cases k with
      | st c=>simp [kZ] at hs
      | pair a b=>exact (show False from h).elim
      | unit=>exact (show False from h).elim
      | gap n=>exact (show False from h).elim
      | _=>rfl
    have e:(cs.drop off).take k.size=[cs[off]]:=by
      rw [hk1,HV hlt]
      rfl
    rw [e]
    cases k with
    | st c=>simp [kZ] at hs
    | _=>exact ⟨rfl,hu'⟩
theorem amC {v:Value} (h:v.oneCell'=true):∀x,v≠.agg x:=by
  intro x e
  subst e
  simp [Value.oneCell'] at h
theorem anr {t:TypeId} {c:K} (h:dn P T t (.st c)) {cs:List Value} {n off:Nat} {k:K} (ho:bO n c=some (off,k)) (hl:cs.length=c.size) (h1:∀v∈cs,v.oneCell'=true) :
    ∃u,(Instr.field t (.agg cs.toArray) n).run P w=.ok u w/\VC k u ((cs.drop off).take k.size):=by
  obtain ⟨fs,hu,hf⟩:=h.st
  obtain ⟨f,f1,f2,f3,f4⟩:=structField n hf ho
  have hle:=QS n ho
  obtain ⟨u,g1,g2⟩:=anu (w:=w) f3 f4 (cs:=cs) (off:=off) (by omega)
  have Rb:fs[n]?=some f:=by rw [<-wD]; exact f1
  refine ⟨u, ?_,g2 ?_⟩
  · unfold Instr.field
    simp only [dO,iy hu,Result.andThen,Rb,asAgg,fA]
    rw [show f.offset=off from by omega]
    exact g1
  · cases hs:kZ k with
    | true=>exact .inr rfl
    | false=>
      left
      unfold part at g1
      simp only [dO,f3.isAgg w,Result.andThen,hs] at g1
      have hlt:off<cs.length:=by omega
      simp [hlt] at g1
      rw [<-g1]
      exact amC (h1 _ (jY hlt))
theorem Io {r:Nat} {R:Root} {p:List Stp} {v:Value} {dd:Dat} {cs:List Value} {wh:Option (Nat×Nat)} (hr:aU Z r R) (hg:aB p R.k R.x=some dd) (h1:bX p R.k R.x) (h2:∀t∈az p R.k,aa t R.own=true)
    (h3:aT (hp w) p R.k (J.hdr r) (aK J R r)=some (cs,wh)) (h4:VC dd.1 v cs):aW cx Z J F w (.dZ r p R.dL) v:=by
  intro R' hR' _ _ d' hd'
  rw [hr.1] at hR'
  simp only [au] at hR'
  subst hR'
  rw [hg] at hd'
  simp only [au] at hd'
  subst hd'
  exact ⟨h1,h2,cs,wh,h3,h4⟩
theorem Rel.YQ (H:Rel cx Z J F a w) {w':World} (hos:w'.os=w.os) (hout:w'.output=w.output) (hsz:w.heap.size<=w'.heap.size) (hold:∀b,b<w.heap.size->hp w' b=hp w b) (ht:w'.tape=w.tape):Rel cx Z J F a w':=by
  have hs:∀r,Same Z J Z J r:=fun r=>⟨rfl,rfl,rfl,rfl⟩
  have hch:∀b,b<w.heap.size->hp w' b=hp w b:=hold
  have T:iC cx Z J F w Z J F w' (fun _=>[]) (fun _=>[]):=by
    refine ⟨rfl,⟨hos,ht,hout⟩,hsz,fun r R hr=>⟨R,hr, ?_⟩,fun r R' _ h=>absurd (hs r) h,fun r R' h1 h2=>by rw [h1] at h2; simp at h2,fun b hb hne=>absurd (hch b hb) hne, ?_,H.iq,
      fun r R' _ h=>absurd (hs r) h,fun r R r' R' _ _ _ h=>absurd (hs r) h, ?_,fun r R R' h1 h2 _=>by rw [h1] at h2; simp only [au] at h2; subst h2; exact ⟨rfl,rfl⟩⟩
    · cases hd:R.bY with
      | true=>exact .inl ⟨rfl,fun hk=>by unfold Root.bY at hd; rw [hk] at hd; simp at hd⟩
      | false=>exact .inr ⟨rfl,rfl,rfl,bN _,rfl,rfl,fun _=>rfl, .inr ⟨rfl,rfl,hs r⟩⟩
    · rintro b (⟨r,R,h1,h2,h3⟩ | h)
      · exact absurd ⟨R,h1,h2⟩ h3
      · exact .inl h
    · intro j pi b o n h1 h2 hne
      obtain ⟨R,hR,hk,hl,_⟩:=H.kM j pi b o n h1 h2
      exact absurd (hch b ((H.roots _ R hR).mine b (by simp [blk,aK,hk,hl])).1) hne
  exact H.turn T (fun r R _ h=>absurd (hs r) h) (fun r R _ h=>absurd (hs r) h) (fun r R _ h=>absurd (hs r) h)
theorem QO:∀(n:Nat) {c:K},(az.lH n c).isSome=true->∃off k,bO n c=some (off,k):=by
  intro n
  induction n with
  | zero=>intro c h; cases c with
    | pair a b=>exact ⟨0,a,rfl⟩
    | _=>simp [az.lH] at h
  | succ n ih=>intro c h; cases c with
    | pair a b=>obtain ⟨off,k,h1⟩:=ih (c:=b) h; exact ⟨a.size+off,k,by simp [bO,h1]⟩
    | _=>simp [az.lH] at h
theorem Ya:∀(n:Nat) {c k:K},az.lH n c=some k->∃off,bO n c=some (off,k):=by
  intro n
  induction n with
  | zero=>intro c k h; cases c with
    | pair a b=>simp only [az.lH,au] at h; subst h; exact ⟨0,rfl⟩
    | _=>simp [az.lH] at h
  | succ n ih=>intro c k h; cases c with
    | pair a b=>obtain ⟨off,h1⟩:=ih (c:=b) h; exact ⟨a.size+off,by simp [bO,h1]⟩
    | _=>simp [az.lH] at h
theorem ajf:∀(p:List Stp) {n:Nat} {k k1 k2:K} {off o2:Nat} {c:K},nC p k=some (off,k1)->k1=.st c->bO n c=some (o2,k2)->nC (p++[.aZ n]) k=some (off+o2,k2):=by
  intro p
  induction p with
  | nil=>
    intro n k k1 k2 off o2 c h e h2
    simp only [nC,au,bS] at h
    obtain ⟨rfl,rfl⟩:=h
    subst e
    simp [nC,h2]
  | cons s p ih=>
    intro n k k1 k2 off o2 c h e h2
    cases s with
    | idx i=>simp [nC] at h
    | aZ m=>
      cases k with
      | st c'=>
        simp only [nC,kX] at h ⊢
        cases hq:bO m c' with
        | none=>rw [hq] at h; simp at h
        | some q=>
          rw [hq] at h
          simp only at h ⊢
          cases hr:nC p q.2 with
          | none=>rw [hr] at h; simp at h
          | some r=>
            rw [hr] at h
            simp only [au,bS] at h
            obtain ⟨rfl,rfl⟩:=h
            rw [ih (off:=r.1) (k1:=r.2) (by rw [hr]) e h2]
            simp only [nM]
      | _=>simp [nC] at h
theorem alN:∀(p:List Stp) {k k1 k2:K} {off:Nat},Fu p k=some k1->nC p k=some (off,k2)->k2=k1:=by
  intro p
  induction p with
  | nil=>
    intro k k1 k2 off h1 h2
    simp only [Fu,au] at h1
    simp only [nC,au,bS] at h2
    rw [<-h1,h2.2]
  | cons s p ih=>
    intro k k1 k2 off h1 h2
    cases s with
    | idx i=>simp [nC] at h2
    | aZ m=>
      cases k with
      | st c=>
        simp only [Fu,nC] at h1 h2
        cases hk:az.lH m c with
        | none=>rw [hk] at h1; simp at h1
        | some k0=>
          obtain ⟨o,ho⟩:=Ya m hk
          rw [hk] at h1
          rw [ho] at h2
          simp only at h1 h2
          cases hr:nC p k0 with
          | none=>rw [hr] at h2; simp at h2
          | some r=>
            rw [hr] at h2
            simp only [au,bS] at h2
            rw [<-h2.2]
            exact ih (off:=r.1) h1 (by rw [hr])
      | _=>simp [nC] at h2
theorem YJ {h:Heap}:∀(p:List Stp) {k k1:K} {x:El k} {cs:List Value} {d:Dat} {off:Nat},aB p k x=some d->nC p k=some (off,k1)->cs.length=k.size->
    k1=d.1/\off+k1.size<=cs.length/\aT h p k cs none=some ((cs.drop off).take k1.size,none)/\bX p k x/\az p k=[]:=by
  intro p
  induction p with
  | nil=>
    intro k k1 x cs d off hg ho hl
    simp only [aB,au] at hg
    simp only [nC,au,bS] at ho
    obtain ⟨rfl,rfl⟩:=ho
    subst hg
    exact ⟨rfl,by omega,by simp [aT, <-hl],trivial,by simp [az]⟩
  | cons s p ih=>
    intro k k1 x cs d off hg ho hl
    cases s with
    | idx i=>simp [nC] at ho
    | aZ n=>
      cases k with
      | st c=>
        simp only [aB,nC] at hg ho
        cases hcg:aS n c x with
        | none=>rw [hcg] at hg; simp at hg
        | some s=>
          rw [hcg] at hg
          simp only at hg
          cases hq:bO n c with
          | none=>rw [hq] at ho; simp at ho
          | some q=>
            have hk2:q.2=s.1:=MQ n (c:=c) hcg hq
            rw [hq] at ho
            obtain ⟨q1,q2⟩:=q
            simp only at hk2 ho
            subst hk2
            cases hr:nC p s.1 with
            | none=>rw [hr] at ho; simp at ho
            | some r=>
              rw [hr] at ho
              simp only [au,bS] at ho
              obtain ⟨rfl,rfl⟩:=ho
              have hle:=QS n hq
              have hl':cs.length=c.size:=hl
              obtain ⟨g1,g2,g3,g4,g5⟩:=ih (cs:=(cs.drop q1).take s.1.size) (off:=r.1) (k1:=r.2) hg (by rw [hr]) (Oj (by omega))
              rw [Oj (by omega)] at g2
              refine ⟨g1,by omega, ?_,by simp only [bX,hcg]; exact g4,by simp [az,lI n hcg,g5]⟩
              simp only [aT]
              rw [hq]
              simp only [Option.map_none]
              rw [g3]
              simp only [List.drop_take,List.take_take,sV,Nat.min_eq_left (show r.2.size<=s.1.size - r.1 by omega)]
      | _=>simp [aB] at hg
theorem anE (Z:St) (r:Nat) (A B:Root):aJ (aJ Z r A) r B=aJ Z r B:=by
  unfold aJ
  simp only [St.mk.injEq,true_and]
  funext n
  unfold upd
  cases Nat.beq n r <;> rfl
theorem YK {h:Heap}:∀(p:List Stp) {k:K} {x:El k} {t d z:Dat},p.all Stp.kL=true->aB p k x=some d->cz p k x t=some z->t.1.size=d.1.size->
    aB p z.1 z.2=some t/\bX p z.1 z.2/\az p z.1=[]/\∀cs wh,aT h p z.1 cs wh=aT h p k cs wh:=by
  intro p
  induction p with
  | nil=>
    intro k x t d z _ hg hz hs
    simp only [cz,au] at hz
    subst hz
    exact ⟨rfl,trivial,by simp [az],fun cs wh=>rfl⟩
  | cons s p ih=>
    intro k x t d z hp hg hz hs
    cases s with
    | idx i=>simp [Stp.kL] at hp
    | aZ n=>
      have hp':p.all Stp.kL=true:=by simpa [Stp.kL] using hp
      cases k with
      | st c=>
        simp only [aB,cz] at hg hz
        cases hcg:aS n c x with
        | none=>rw [hcg] at hg; simp at hg
        | some s=>
          rw [hcg] at hg hz
          simp only at hg hz
          cases hs':cz p s.1 s.2 t with
          | none=>rw [hs'] at hz; simp at hz
          | some u=>
            rw [hs'] at hz
            simp only at hz
            cases hcp:dF n c x u with
            | none=>rw [hcp] at hz; simp at hz
            | some y=>
              rw [hcp] at hz
              simp only [au] at hz
              subst hz
              obtain ⟨i1,i2,i3,i4⟩:=ih hp' hg hs' hs
              have e1:aS n y.1 y.2=some u:=Ip n hcp
              have hsz:u.1.size=s.1.size:=Us p hg hs hs'
              refine ⟨by simp only [aB,e1]; exact i1,by simp only [bX,e1]; exact i2,by simp [az,lI n e1,i3],fun cs wh=>?_⟩
              simp only [aT]
              cases ho:bO n c with
              | none=>
                exfalso
                obtain ⟨off,h1⟩:=Ya n (lI n hcg)
                rw [ho] at h1; simp at h1
              | some q=>
                have hk2:q.2=s.1:=MQ n (c:=c) hcg ho
                obtain ⟨q1,q2⟩:=q
                simp only at hk2
                subst hk2
                rw [QT n ho hcp]
                simp only
                rw [hsz]
                exact i4 _ _
      | _=>simp [aB] at hg
theorem am5 {R:Root} {r:Nat} {p:List Stp} {d:Dat} {tk:eU} {q:Root×Dat} (h:N7 R r p d tk=some q) :
    ∃zg own',cz p R.k R.x (oI d)=some zg/\q=(l_ R d zg own',(oI d))/\(∀t∈zg.1.tys,aa t own'=aa t R.own)/\p.all Stp.kL=true/\(p≠[]\/∃t,R.kind=.var t)/\∀n,(r,n)∉tk.tags:=by
  unfold N7 at h
  cases hc:(!d.1.flat && p.all Stp.kL && !R.keep && (!p.isEmpty || R.isVar) && tk.tags.all (fun t=>!Nat.beq t.1 r)) with
  | false=>rw [hc] at h; simp at h
  | true=>
    rw [hc] at h
    simp only [gJ] at h
    simp only [bg] at hc
    obtain ⟨⟨⟨⟨_,c1⟩,_⟩,c2⟩,c3⟩:=hc
    unfold xh at h
    cases hz:cz p R.k R.x (oI d) with
    | none=>rw [hz] at h; simp at h
    | some zg=>
      rw [hz] at h
      simp only at h
      cases hl:tk.own.filter (fun t=>!aa t R.own && aa t d.1.tys && !aa t zg.1.tys) with
      | nil=>rw [hl] at h; simp at h
      | cons a l=>
        rw [hl] at h
        simp only [au] at h
        refine ⟨zg,(a :: l)++R.own,rfl,h.symm,fun t ht=>?_,c1, ?_,fun n hn=>?_⟩
        · cases hm:aa t R.own with
          | true=>rw [b_] at hm ⊢; exact bB _ hm
          | false=>
            rw [gT] at hm ⊢
            intro h1
            rcases bW.1 h1 with h1 | h1
            · rw [<-hl] at h1
              have:=(eF.1 h1).2
              simp only [bg,lC,gT] at this
              exact this.2 ht
            · exact hm h1
        · rcases nZ .. |>.mp c2 with h1 | h1
          · left; intro e; rw [e] at h1; simp at h1
          · right
            unfold Root.isVar at h1
            cases hk:R.kind with
            | var t=>exact ⟨t,rfl⟩
            | anon=>rw [hk] at h1; simp at h1
            | par=>rw [hk] at h1; simp at h1
            | dead=>rw [hk] at h1; simp at h1
        · have:=eH.1 c3 _ hn
          simp at this
theorem acr {t:TypeId} {kk:K} {x:El kk} {F4:List TypeId} {nX:List Tag} {fu:List Wr} {Om:Bool} {cst:List Value} {EG:List Nat} {v:Value} {r:Nat} {R:Root} (ht:dn P T t kk)
    (H:Rel cx Z J F a w) (hr:aU Z r R) (hv:cB Z R) {p:List Stp} {dd:Dat} (hg:aB p R.k R.x=some dd) (dh:bX p R.k R.x) (hown:∀t∈az p R.k,aa t R.own=true)
    (k2:cO Z (bu F4 kk) nX=true) (k3:VC kk v cst) (k1:Held cx Z J F w kk x F4 nX cst EG)
    {cs1:List Value} {b o:Nat} (hn:aT (hp w) p R.k (J.hdr r) (aK J R r)=some (cs1,some (b,o))) {A:Type} {z:A} {k:List Wr->Prog A} {Gb:St} (h:(storeAt kk r p ⟨kk,x,F4,nX,fu,Om⟩ R dd k).ends Gb z) :
    ∃w',(Instr.storeAt t (.pointer (some ⟨b,o,none⟩)) v).run P w=.ok () w'/\∃J' F',∃R',Rel cx (aJ Z r R') J' F' a w'/\(k (fu++[.r r (some R')])).ends Gb z:=by
  unfold storeAt at h
  rcases bD h with ⟨hc3,h⟩ | ⟨_,h⟩
  · simp only [bg] at hc3
    simp only [eU.bad] at hc3 h
    cases hz:cz p R.k R.x ⟨kk,x⟩ with
    | none=>rw [hz] at h; exact h.elim
    | some z=>
      rw [hz] at h
      simp only at h
      rcases bD h with ⟨_,h⟩ | ⟨_,h⟩
      · exact h.elim
      · obtain ⟨w',r1,J',F',r2⟩:=anO (P:=P) (z:=z) ht H hr hv hg hz dh hown k1 k2 k3
          (by
            rcases nZ .. |>.mp hc3.1.1 with h | h
            · exact .inl (K.eq_of_beq h)
            · exact .inr (K.eq_of_beq (bg .. |>.mp h).1))
          (by
            rcases nZ .. |>.mp hc3.1.2 with h | h
            · exact .inl h
            · exact .inr h)
          (fun t ht=>by
            have:=eH.1 hc3.2 t ht
            simpa [gT] using this) (R.keep || Om) hn
        exact ⟨w',r1,J',F',_,r2,h⟩
  · exact h.elim
theorem aiA (hT:fJ P T) (H:Rel cx Z J F a w) (hd:o.dst=none) {t:TypeId} {x y:Operand} (ho:o.op=.store t x y) {u v:AV} (h1:aW cx Z J F w u (a.eval x)) (h2:dQ Z u) (h3:aW cx Z J F w v (a.eval y)) (h4:dQ Z v)
    (h:(UD T t u v fun ws=>(.ret ws:Prog (List Wr))).ends Z ws):dG P cx o a w (aC ws Z):=by
  unfold UD at h
  cases hty:T.ty t with
  | none=>rw [hty] at h; exact h.elim
  | some kk=>
   rw [hty] at h
   cases u with
   | ptr r p n=>
    simp only at h
    have ht:=hT.ty t kk hty
    obtain ⟨tk,htk,h⟩:=Ap H h3 h4 h
    rcases bD h with ⟨hc1,h⟩ | ⟨_,h⟩
    · simp only [bg] at hc1
      obtain ⟨R,hr,hv,h⟩:=iQ h
      rcases bD h with ⟨hc2,h⟩ | ⟨_,h⟩
      · simp only [bg] at hc2
        cases hg:aB p R.k R.x with
        | none=>rw [hg] at h; exact h.elim
        | some dd=>
          rw [hg] at h
          simp only at h
          have hkk:tk.k=kk:=K.eq_of_beq hc1.1
          have EW:=aoe hc1.2
          have hown:=qH hc2.1.2
          obtain ⟨dh,cs,b,q,hn,e⟩:=h1.2 R hr.1 hv hc2.1.1 hown (by rw [hg]; rfl)
          have hap:=MF.1 hc2.2
          obtain ⟨aI,F1,cst,EG,lw,lh,H1,T1,k1,k2,k3,k4,k5,k6⟩:=take1 H htk
          have hS:=k6 r EW
          have hr1:=(hS.live R).2 hr
          have hv1:cB (aC tk.ws Z) R:=⟨hv.1,by rw [rZ (fun t ht=>(k6 t.1 (hap t ht)).root)]; exact hv.2⟩
          have hn1:aT (hp w) p R.k (aI.hdr r) (aK aI R r)=some (cs,some (b,q)):=by rw [hS.hdr,hS.wh]; exact hn
          obtain ⟨tkk,tkx,F4,nX,fu,Om⟩:=tk
          simp only at hkk
          subst hkk
          simp only [eU.bad] at k2 k3 h
          cases hrg:N7 R r p dd ⟨tkk,tkx,F4,nX,fu,Om⟩ with
          | none=>
            rw [hrg] at h
            obtain ⟨w',r1,J',F',r2⟩:=acr (P:=P) ht H1 hr1 hv1 hg dh hown k3 k1 k2 hn1 h
            obtain ⟨R',r2,r3⟩:=r2
            rw [bz r3]
            refine ⟨undef,w',J',F', .inr ⟨?_,rfl⟩, ?_⟩
            · simp only [execOp,ho,e,dO,r1,fU,fA]
            · rw [hd,oD]
              exact r2
          | some qq=>
            rw [hrg] at h
            simp only at h
            obtain ⟨hck,h⟩:=tN h
            obtain ⟨zg,own',g1,g2,g3,g4,g5,g6⟩:=am5 hrg
            subst g2
            simp only at hck h
            have hnt:=(H1.gy r R hr1.1).2.2
            obtain ⟨cs1,cu,aX,rest,hn',H2,T2,_,_,hpm⟩:=YL (own':=own') H1 hr1 hv1 hg g1 dh hown g5 g3
            rw [hn1] at hn'
            simp only [au,bS] at hn'
            obtain ⟨rfl,rfl⟩:=hn'
            have hr2:aU (aJ (aC fu Z) r (l_ R dd zg own')) r (l_ R dd zg own'):=⟨fE ..,hr.2⟩
            have hv2:cB (aJ (aC fu Z) r (l_ R dd zg own')) (l_ R dd zg own'):=⟨hv.1,by
              show cO _ _ R.tags=true
              rw [wZ hnt,rZ (fun t ht=>(k6 t.1 (hap t ht)).root)]
              exact hck⟩
            have k1':=k2.turn H1 T2 (fun b hb=>⟨rfl,bB _ (k2.sub b hb)⟩)
            have k2':cO (aJ (aC fu Z) r (l_ R dd zg own')) (bu F4 tkk) nX=true:=by rw [wZ g6]; exact k3
            obtain ⟨f1,f2,f3,f4⟩:=YK (h:=hp w) p g4 hg g1 (Cz dd.1)
            have hsd:(aR aI r (aI.loc r) (aI.hdr r) rest).hdr r=aI.hdr r:=by simp [aR,upd_same]
            have alg:aK (aR aI r (aI.loc r) (aI.hdr r) rest) (l_ R dd zg own') r=aK aI R r:=by rw [wC,F9 (show (l_ R dd zg own').kind=R.kind from rfl), <-Az]
            have hn2:aT (hp w) p (l_ R dd zg own').k ((aR aI r (aI.loc r) (aI.hdr r) rest).hdr r) (aK (aR aI r (aI.loc r) (aI.hdr r) rest) (l_ R dd zg own') r)=some (cs,some (b,q)):=by
              rw [hsd,alg]
              exact (f4 _ _).trans hn1
            obtain ⟨w',r1,J',F',r2⟩:=acr (P:=P) ht H2 hr2 hv2 f1 f2 (fun t ht=>by have ht':t∈az p zg.1:=ht; rw [f3] at ht'; simp at ht') k2' k1 k1' hn2 h
            obtain ⟨R',r2,r3⟩:=r2
            rw [bz r3]
            refine ⟨undef,w',J',F', .inr ⟨?_,rfl⟩, ?_⟩
            · simp only [execOp,ho,e,dO,r1,fU,fA]
            · rw [hd,oD]
              rw [anE] at r2
              exact r2
      · exact h.elim
    · exact h.elim
   | _=>exact h.elim
theorem ahN {A:Type} {z:A} {x:AV} {kk:K} {yes:Nat->Nat->Prog A} {no:Prog A} (h:(MR x kk yes no).ends Z z):(∃r g R,x=.ref r g/\aU Z r R/\cB Z R/\R.g=g/\R.k=kk/\(yes r g).ends Z z)\/no.ends Z z:=by
  cases x with
  | ref r g=>
    simp only [MR,Prog.ends] at h
    cases hr:Z.roots r with
    | none=>rw [hr] at h; exact .inr h
    | some R=>
      rw [hr] at h
      simp only at h
      rcases bD h with ⟨_,h⟩ | ⟨_,h⟩
      · obtain ⟨R',hr',hv,h⟩:=iQ h
        rcases bD h with ⟨hc,h⟩ | ⟨_,h⟩
        · simp only [bg] at hc
          exact .inl ⟨r,g,R',rfl,hr',hv,bC hc.1,K.eq_of_beq hc.2,h⟩
        · exact h.elim
      · exact .inr h
  | _=>exact .inr h
theorem ah5 (H:Rel cx Z J F a w) (hd:o.dst=some d) (hdn:d<cx.nt) {t:TypeId} {x:Operand} (ho:o.op=.box t x)
    (h:(match T.ty t with
      | some kk=>eP x fun a=>MR a kk (fun r g=>.ret [Wr.s d (.one (.lZ r g kk []))]) <| sN kk a fun tk=>bif tk.k.beq kk && !aa t tk.bad then
          kT (aG d 0) (.ret (tk.ws++[Wr.r (aG d 0) (some (bL tk.k tk.x tk.own tk.iP (.var t) tk.keep)),Wr.s d (.one (.ptr (aG d 0) [] 0))]))
        else (.fail:Prog (List Wr))
      | none=>.fail).ends Z ws):dG P cx o a w (aC ws Z):=by
  split at h
  · rename_i kk hty
    obtain ⟨u,h1,h2,h⟩:=jT H h
    rcases ahN h with ⟨r,g,R,eu,hr,hv,eg,ek,h5⟩ | h
    · subst eu eg ek
      obtain ⟨hka,kF⟩:=h1 R hr rfl
      have hb0:∀b,b<w.heap.size->hp (w.alloc (.cells (a.eval x).cells t)) b=hp w b:=fun b hb=>CE w _ hb
      have H1:Rel cx Z J F a (w.alloc (.cells (a.eval x).cells t)):=H.YQ rfl rfl (by show w.heap.size<=(w.heap.push _).size; simp) hb0 rfl
      have hnew:=ET w (.cells (a.eval x).cells t)
      rw [bz h5]
      refine o7 (v:=.pointer (some ⟨w.heap.size,0,none⟩)) (x:=.one (.lZ r R.g R.k [])) H1 hd hdn (by simp only [execOp,ho,dO,abZ,fU,fA]) ⟨a.eval x,w.heap.size,0,R.k,rfl,⟨?_,fun hF=>?_,fun q Q hq hbq=>?_⟩,fun i hi=>?_,rfl,h1⟩ h2
      · show w.heap.size<(w.heap.push _).size; simp
      · have:=(H.fl _ hF).1; omega
      · have:=((H.roots q Q hq).mine _ hbq).1; omega
      · unfold cellAt
        rw [hnew]
        simp
    obtain ⟨tk,htk,h⟩:=Ap H h1 h2 h
    rcases bD h with ⟨_,h⟩ | ⟨_,h⟩
    · obtain ⟨g1,g2⟩:=p9 h
      rw [bz g2]
      obtain ⟨aI,F1,cst,EG,lw,lh,H1,T1,k1,k2,k3,k4,k5,k6⟩:=take1 H htk
      have hnr:aG d 0∉tk.ws.flatMap Wr.eT:=by
        intro hm
        cases htk with
        | held hws cs hv h hc=>rw [hws] at hm; simp at hm
        | ref r R hr hv e hk hd=>rw [e] at hm; simp only [kQ,Bu,h_,Wr.eT,gI] at hm; rw [hm,hr.1] at g1; simp at g1
        | cut r R cs hr hv hk e hd hl uh how=>rw [e.2.2.1] at hm; simp only [kQ,Bu,h_,Wr.eT,gI] at hm; rw [hm,hr.1] at g1; simp at g1
        | gap r R p dd z hr hv hg hz dh hown hpv e hn=>rw [e] at hm; simp only [kQ,Bu,h_,Wr.eT,gI] at hm; rw [hm,hr.1] at g1; simp at g1
      have hn1:(aC tk.ws Z).roots (aG d 0)=none:=by rw [(k6 _ hnr).root]; exact g1
      obtain ⟨r1,J',F',r2,r3⟩:=XT (P:=P) (t:=t) H1 hn1 (qb d 0) k2 k3 k1 tk.keep
      rw [oD]
      exact o7 (x:=.one (.ptr (aG d 0) [] 0)) r2 hd hdn (by simp only [execOp,ho,dO,r1,fU,fA]) r3 ⟨_,fE .., .inr (fT _)⟩
    · exact h.elim
  · exact h.elim
theorem aav {B:Type} {z:B} (hT:fJ P T) (H:Rel cx Z J F a w) {t:TypeId} {x:Operand} {v:AV} {dZ:Bool} (ho:o.op=.load t x) (h1:aW cx Z J F w v (a.eval x)) (h2:dQ Z v) {k:AV->Prog B}
    (h:(yA T dZ t v k).ends Z z):∃u v',(execOp a.eval o).run P w=.ok (.value v') w/\aW cx Z J F w u v'/\dQ Z u/\(k u).ends Z z:=by
  unfold yA at h
  split at h
  · exact h.elim
  · rename_i kk hty
    have ht:=hT.ty t kk hty
    obtain ⟨s1,s2,s3⟩:=ht.shape
    split at h
    · rename_i r g k0 p
      obtain ⟨u,b,off,k1,e,hq,hC,ho1,hR⟩:=h1
      obtain ⟨R,hr,hv,h⟩:=iQ h
      rcases bD h with ⟨hc,h⟩ | ⟨_,h⟩
      · simp only [bg] at hc
        cases hg:aB p R.k R.x with
        | none=>rw [hg] at h; exact h.elim
        | some dd=>
          rw [hg] at h
          simp only at h
          obtain ⟨dk,dx⟩:=dd
          rcases beq_true h with ⟨ek,h5⟩ | ⟨_,h⟩
          · simp only at ek
            subst ek
            have hk0:=K.eq_of_beq hc.1.2
            subst hk0
            obtain ⟨hka,kF⟩:=hR R hr (bC hc.1.1)
            rw [kF.cells] at hC
            have hwn:aK J R r=none:=by unfold aK; rw [hka]
            obtain ⟨g1,g2,g3,g4,g5⟩:=YJ (h:=hp w) p hg ho1 (H.roots r R hr).len
            simp only at g1
            subst g1
            have hown:∀t∈az p R.k,aa t R.own=true:=fun t ht=>by rw [g5] at ht; simp at ht
            have hn:aT (hp w) p R.k (J.hdr r) (aK J R r)=some (((J.hdr r).drop off).take k1.size,none):=by rw [hwn]; exact g3
            obtain ⟨aX,hO,hf⟩:=wo H hr hv hg g4 hown hn
            have hV:=vZ H hr hO hf
            have hcs:Cells (hp w) b off (((J.hdr r).drop off).take k1.size):=by
              intro i hi
              have hi':i<k1.size:=by rw [Oj g2] at hi; exact hi
              have:=hC (off+i) (by omega)
              rw [om] at this
              rw [this,Mc hi',Bw]
            obtain ⟨u',hu⟩:=VC.mk s1 s2 s3 hV
            have hrun:=FV (P:=P) ht hcs (nO hV) hu
            have hrun':(execOp a.eval o).run P w=.ok (.value u') w:=by simp only [execOp,ho,e,dO,hrun,fU,fA]
            rcases bD h5 with ⟨hf,h6⟩ | ⟨_,h6⟩
            · exact ⟨.val k1 dx [],u',hrun',fun _=>⟨_,hu,ni hf hV⟩,fun t ht=>by simp at ht,h6⟩
            · exact ⟨.dZ r p R.dL,u',hrun',Io (cx:=cx) (F:=F) hr hg g4 hown hn hu,⟨R,hr.1, .inr (bN _)⟩,h6⟩
          · exact h.elim
      · exact h.elim
    rcases MC H h1 h2 h with ⟨r,R,p,dd,cs,b,q,hr,hv,hg,dh,hown,hn,e,h⟩ | ⟨bt,dd,Tg,b,q,cs,hw,e,hcs,hV,hok,hb,h⟩
    · obtain ⟨hC,⟨aX,hO,hf⟩,_⟩:=xy H hr hv hg dh hown hn
      obtain ⟨dk,dx⟩:=dd
      rcases beq_true h with ⟨ek,h5⟩ | ⟨_,h⟩
      · simp only at ek
        subst ek
        clear h
        have h:=h5
        clear h5
        have hV:=vZ H hr hO hf
        obtain ⟨u,hu⟩:=VC.mk s1 s2 s3 hV
        have hrun:=FV (P:=P) ht hC (nO hV) hu
        have hrun':(execOp a.eval o).run P w=.ok (.value u) w:=by simp only [execOp,ho,e,dO,hrun,fU,fA]
        rcases bD h with ⟨_,h⟩ | ⟨_,h⟩
        · exact ⟨.dZ r p R.dL,u,hrun',Io (cx:=cx) (F:=F) hr hg dh hown hn hu,⟨R,hr.1, .inr (bN _)⟩,h⟩
        · exact ⟨.val dk dx _,u,hrun',fun _=>⟨cs,hu,hV⟩,FJ H hr _,h⟩
      · exact h.elim
    · obtain ⟨dk,dx⟩:=dd
      rcases beq_true h with ⟨ek,h5⟩ | ⟨_,h⟩
      · simp only at ek
        subst ek
        clear h
        have h:=h5
        clear h5
        obtain ⟨u,hu⟩:=VC.mk s1 s2 s3 hV
        have hrun:=FV (P:=P) ht hcs (nO hV) hu
        have hrun':(execOp a.eval o).run P w=.ok (.value u) w:=by simp only [execOp,ho,e,dO,hrun,fU,fA]
        refine ⟨.val dk dx _,u,hrun',fun _=>⟨cs,hu, ?_⟩, ?_,h⟩
        · cases hf:dk.flat with
          | true=>exact ni hf hV
          | false=>exact hV
        · cases hf:dk.flat with
          | true=>intro t ht; simp at ht
          | false=>exact hw
      · exact h.elim
theorem aik (hT:fJ P T) (H:Rel cx Z J F a w) (hd:o.dst=some d) (hdn:d<cx.nt) {t:TypeId} {x:Operand} {dZ:Bool} (ho:o.op=.load t x)
    (h:(eP x fun v=>yA T dZ t v fun u=>(.ret [Wr.s d (.one u)]:Prog (List Wr))).ends Z ws):dG P cx o a w (aC ws Z):=by
  obtain ⟨v,h1,h2,h⟩:=jT H h
  obtain ⟨u,v',g1,g2,g3,h⟩:=aav hT H ho h1 h2 h
  rw [bz h]
  exact fO H hd hdn g1 g2 g3
theorem ail (hT:fJ P T) (H:Rel cx Z J F a w) (hd:o.dst=some d) (hdn:d<cx.nt) {t:TypeId} {x:Operand} (ho:o.op=.load t x)
    (h:(eP x fun v=>yA T true t v fun u=>match T.ty t with
      | some kk=>sN kk u fun tk=>kT (aG d 0) (.ret (tk.ws++[Wr.r (aG d 0) (some (bL tk.k tk.x tk.own tk.iP .anon tk.keep)),Wr.s d (.one (.ref (aG d 0) 0))]))
      | none=>(.fail:Prog (List Wr))).ends Z ws):dG P cx o a w (aC ws Z):=by
  obtain ⟨v,h1,h2,h⟩:=jT H h
  obtain ⟨u,v',hrun,g4,g5,h⟩:=aav hT H ho h1 h2 h
  split at h
  · rename_i kk hty
    obtain ⟨tk,htk,h⟩:=Ap H g4 g5 h
    obtain ⟨g1,g2⟩:=p9 h
    rw [bz g2]
    obtain ⟨aI,F1,cst,EG,lw,lh,H1,T1,k1,k2,k3,k4,k5,k6⟩:=take1 H htk
    have hnr:aG d 0∉tk.ws.flatMap Wr.eT:=by
      intro hm
      cases htk with
      | held hws cs hv h hc=>rw [hws] at hm; simp at hm
      | ref r R hr hv e hk hd=>rw [e] at hm; simp only [kQ,Bu,h_,Wr.eT,gI] at hm; rw [hm,hr.1] at g1; simp at g1
      | cut r R cs hr hv hk e hd hl uh how=>rw [e.2.2.1] at hm; simp only [kQ,Bu,h_,Wr.eT,gI] at hm; rw [hm,hr.1] at g1; simp at g1
      | gap r R p dd z hr hv hg hz dh hown hpv e hn=>rw [e] at hm; simp only [kQ,Bu,h_,Wr.eT,gI] at hm; rw [hm,hr.1] at g1; simp at g1
    have hn1:(aC tk.ws Z).roots (aG d 0)=none:=by rw [(k6 _ hnr).root]; exact g1
    obtain ⟨J',r2,r3⟩:=Eh (F':=F1.filter fun b=>!aa b EG) H1 hn1 (qb d 0) k2.sub k2.nd (F3 k2.wt)
      (fun b hb=>by
        obtain ⟨q1,q2⟩:=eF.1 hb
        simp only [lC,gT] at q2
        exact ⟨q1,q2⟩) (H1.iq.filter _) k2.len
      (fun hcl=>by
        cases hb:tk.bad with
        | nil=>exact j5 hb (k2.ow k3)
        | cons t0 l=>
          have et:tk.iP=tk.tags:=by
            unfold eU.iP
            rw [hb]
          rw [et] at hcl ⊢
          exact dY (fun _ _=>rfl) (fun b h=>.inl h) (fun _ _=>rfl) (k2.ow hcl)) k1 tk.keep
    rw [oD]
    exact o7 (x:=.one (.ref (aG d 0) 0)) r2 hd hdn hrun r3 ⟨_,fE .., .inr (fT _)⟩
  · exact h.elim
end
end
section
open Go
variable [Fr]
theorem Xu {h:Heap} {ok:Nat->Prop}:∀(n:Nat) {c:K} {x:El c} {cs:List Value} {d:Dat},Vw h ok c x cs->aS n c x=some d->∃off,bO n c=some (off,d.1)/\Vw h ok d.1 d.2 ((cs.drop off).take d.1.size):=by
 intro n
 induction n with
 | zero=>
  intro c x cs d H hg
  cases c with
  | pair a b=>
   simp only [aS,au] at hg
   subst hg
   obtain ⟨c1,c2,rfl,h1,h2⟩:=H
   refine ⟨0,rfl, ?_⟩
   have:=nO h1
   simpa [<-this] using h1
  | _=>simp [aS] at hg
 | succ n ih=>
  intro c x cs d H hg
  cases c with
  | pair a b=>
   simp only [aS] at hg
   obtain ⟨c1,c2,rfl,h1,h2⟩:=H
   obtain ⟨off,g1,g2⟩:=ih h2 hg
   refine ⟨a.size+off,by simp [bO,g1], ?_⟩
   have:=nO h1
   rw [<-this, <-sV]
   simpa using g2
  | _=>simp [aS] at hg
theorem YM:∀(p:List Stp) {q:List Stp} {k:K} {x:El k} {d:Dat},aB p k x=some d->aB (p++q) k x=aB q d.1 d.2:=by
 intro p
 induction p with
 | nil=>intro q k x d h; simp only [aB,au] at h; subst h; rfl
 | cons s p ih=>
  intro q k x d h
  cases s with
  | aZ n=>
   cases k with
   | st c=>
    simp only [aB,kX] at h ⊢
    cases hg:aS n c x with
    | none=>rw [hg] at h; simp at h
    | some s=>rw [hg] at h; exact ih h
   | _=>simp [aB] at h
  | idx i=>
   cases k with
   | sl e k=>simp only [aB,kX] at h ⊢; exact ih h
   | _=>simp [aB] at h
theorem Qe:∀(p:List Stp) {q:List Stp} {k:K} {x:El k} {d:Dat},aB p k x=some d->bX p k x->bX q d.1 d.2->bX (p++q) k x:=by
 intro p
 induction p with
 | nil=>intro q k x d h _ h2; simp only [aB,au] at h; subst h; exact h2
 | cons s p ih=>
  intro q k x d h h1 h2
  cases s with
  | aZ n=>
   cases k with
   | st c=>
    simp only [aB,bX,kX] at h h1 ⊢
    cases hg:aS n c x with
    | none=>rw [hg] at h; simp at h
    | some s=>rw [hg] at h h1; exact ih h h1 h2
   | _=>simp [aB] at h
  | idx i=>
   cases k with
   | sl e k=>simp only [aB,bX,kX] at h h1 ⊢; exact ⟨h1.1,h1.2.1,ih h h1.2.2 h2⟩
   | _=>simp [aB] at h
theorem aba:∀(p:List Stp) {q:List Stp} {k:K} {x:El k} {d:Dat},aB p k x=some d->az (p++q) k=az p k++az q d.1:=by
 intro p
 induction p with
 | nil=>intro q k x d h; simp only [aB,au] at h; subst h; rfl
 | cons s p ih=>
  intro q k x d h
  cases s with
  | aZ n=>
   cases k with
   | st c=>
    simp only [aB,az,kX] at h ⊢
    cases hg:aS n c x with
    | none=>rw [hg] at h; simp at h
    | some s=>rw [hg] at h; rw [lI n hg]; exact ih h
   | _=>simp [aB] at h
  | idx i=>
   cases k with
   | sl e k=>simp only [aB,az,kX] at h ⊢; rw [ih h]
   | _=>simp [aB] at h
theorem TF {h:Heap}:∀(p:List Stp) {q:List Stp} {k:K} {x:El k} {d:Dat} {cs:List Value} {wh:Option (Nat×Nat)} {c1:List Value} {w1:Option (Nat×Nat)},aB p k x=some d->aT h p k cs wh=some (c1,w1)->aT h (p++q) k cs wh=aT h q d.1 c1 w1:=by
 intro p
 induction p with
 | nil=>
  intro q k x d cs wh c1 w1 h h1
  simp only [aB,au] at h
  subst h
  simp only [aT,au,bS] at h1
  obtain ⟨rfl,rfl⟩:=h1
  rfl
 | cons s p ih=>
  intro q k x d cs wh c1 w1 h h1
  cases s with
  | aZ n=>
   cases k with
   | st c=>
    simp only [aB,aT,kX] at h h1 ⊢
    cases hg:aS n c x with
    | none=>rw [hg] at h; simp at h
    | some s=>
     rw [hg] at h
     cases ho:bO n c with
     | none=>rw [ho] at h1; simp at h1
     | some q2=>
      rw [ho] at h1
      have hk:=MQ n (c:=c) hg ho
      obtain ⟨o2,k2⟩:=q2
      simp only at hk
      subst hk
      exact ih h h1
   | _=>simp [aB] at h
  | idx i=>
   cases k with
   | sl e k=>
    simp only [aB,kX] at h
    simp only [aT,kX] at h1 ⊢
    split at h1
    ·exact ih h h1
    ·simp at h1
   | _=>simp [aB] at h
theorem QC {a b:K} (h:a.beq b=true):a.size=b.size:=by rw [K.eq_of_beq h]
theorem al2:∀{a b:K},a.like b=true->a.size=b.size:=by
 intro a
 induction a with
 | gap n=>intro b h; simp only [K.like] at h; exact bC h
 | pair a b iha ihb=>
  intro c h
  cases c with
  | pair c d=>simp only [K.like,bg] at h; simp [K.size,iha h.1,ihb h.2]
  | _=>exact QC (by simpa [K.like] using h)
 | st f ih=>
  intro b h
  cases b with
  | st g=>simp only [K.like] at h; exact ih (b:=g) h
  | _=>exact QC (by simpa [K.like] using h)
 | _=>intro b h; exact QC (by simpa [K.like] using h)
theorem al1:∀(n:Nat) {a b:K} {off:Nat} {k:K},a.like b=true->bO n a=some (off,k)->∃k',bO n b=some (off,k'):=by
 intro n
 induction n with
 | zero=>
  intro a b off k h ho
  cases a with
  | pair a1 a2=>
   simp only [bO,au,bS] at ho
   cases b with
   | pair b1 b2=>exact ⟨b1,by simp [bO,ho.1]⟩
   | _=>simp [K.like,K.beq] at h
  | _=>simp [bO] at ho
 | succ n ih=>
  intro a b off k h ho
  cases a with
  | pair a1 a2=>
   simp only [bO] at ho
   cases h2:bO n a2 with
   | none=>rw [h2] at ho; simp at ho
   | some q=>
    rw [h2] at ho
    simp only [au,bS] at ho
    cases b with
    | pair b1 b2=>
     simp only [K.like,bg] at h
     obtain ⟨k',h3⟩:=ih (off:=q.1) (k:=q.2) h.2 (by rw [h2])
     exact ⟨k',by simp [bO,h3, <-ho.1,al2 h.1]⟩
    | _=>simp [K.like,K.beq] at h
  | _=>simp [bO] at ho
section
variable {P:Program} {T:bH} {cx:Cx} {Z:St} {J:aH} {F:List Nat} {a:Act} {w:World} {o:Oper} {d:Nat} {ws:List Wr}
theorem ant {t:TypeId} {c:K} (h:dn P T t (.st c)) {n off:Nat} {k:K} (ho:bO n c=some (off,k)) (b q:Nat) :
  (Instr.fieldAt t (.pointer (some ⟨b,q,none⟩)) n).run P w=.ok (.pointer (some ⟨b,q+off,none⟩)) w:=by
 obtain ⟨fs,hu,hf⟩:=h.st
 obtain ⟨f,f1,f2,f3,f4⟩:=structField n hf ho
 have Rb:fs[n]?=some f:=by rw [<-wD]; exact f1
 unfold Instr.fieldAt Instr.sureAddr fieldPlace
 simp only [dO,iy hu,Result.andThen,Rb,fA,f3.info.sizeOf w,Sem.run_ite]
 rw [aA (by omega),addr_add]
 simp [show f.offset=off from by omega]
theorem aid (hT:fJ P T) (H:Rel cx Z J F a w) (hd:o.dst=some d) (hdn:d<cx.nt) {t:TypeId} {x:Operand} {n:Nat} (ho:o.op=.field t x n)
  (h:(match T.ty t with
   | some kk=>eP x fun a=>IC kk a n fun u=>.ret [Wr.s d (.one u)]
   | none=>(.fail:Prog (List Wr))).ends Z ws):dG P cx o a w (aC ws Z):=by
 split at h
 case h_2=>exact h.elim
 rename_i kk hty
 have ht:=hT.ty t kk hty
 obtain ⟨v,h1,h2,h⟩:=jT H h
 have EZ:∀{c:K} {cs:List Value} {off:Nat} {k:K},kk=.st c->a.eval x=.agg cs.toArray->bO n c=some (off,k)->cs.length=c.size->(∀v∈cs,v.oneCell'=true)->
   ∃u,(execOp a.eval o).run P w=.ok (.value u) w/\VC k u ((cs.drop off).take k.size):=by
  intro c cs off k ek ev hoff hl h1
  subst ek
  obtain ⟨u,g1,g2⟩:=anr (w:=w) ht hoff hl h1
  exact ⟨u,by simp only [execOp,ho,ev,dO,g1,fU,fA],g2⟩
 have key:∀{r:Nat} {R:Root} {p:List Stp} {d0 dd:Dat} {cs:List Value} {wh:Option (Nat×Nat)},aU Z r R->cB Z R->aB p R.k R.x=some d0->d0.1=kk->aB (p++[.aZ n]) R.k R.x=some dd->bX p R.k R.x->(∀t∈az p R.k,aa t R.own=true)->
   aT (hp w) p R.k (J.hdr r) (aK J R r)=some (cs,wh)->VC d0.1 (a.eval x) cs->
   ∃u,(execOp a.eval o).run P w=.ok (.value u) w/\aW cx Z J F w (.dZ r (p++[.aZ n]) R.dL) u/\(dd.1.flat=true->aW cx Z J F w (.val dd.1 dd.2 []) u):=by
  intro r R p d0 dd cs wh hr hv hg0 e0 hg dh hown hn kF
  obtain ⟨k0,x0⟩:=d0
  simp only at e0
  subst e0
  have hg1:=YM p (q:=[.aZ n]) hg0
  rw [hg] at hg1
  have hpt:=aba p (q:=[.aZ n]) hg0
  cases k0 with
  | st c=>
   simp only [aB] at hg1
   cases hcg:aS n c x0 with
   | none=>rw [hcg] at hg1; simp at hg1
   | some s=>
    rw [hcg] at hg1
    simp only [aB,au] at hg1
    subst hg1
    obtain ⟨aX,hO,hf⟩:=wo H hr hv hg0 dh hown hn
    obtain ⟨off,pre,cs1,post,zT,fr,ho1,ec,hl,hp,hd2,_⟩:=MP n (show Ow _ _ _ c x0 cs aX from hO) hcg
    have hsub:(cs.drop off).take s.1.size=cs1:=by rw [ec]; exact J9 hl (fM hd2)
    obtain ⟨u,r1,r2⟩:=EZ rfl kF ho1 (fM (k:=c) hO) (Mq ht.fV hO)
    rw [hsub] at r2
    refine ⟨u,r1,Io (cs:=cs1) (wh:=wh.map fun q=>(q.1,q.2+off)) hr hg ?_ ?_ ?_ r2,fun hfl=>fun _=>⟨cs1,r2,ni hfl (qp (fun _=>True) (fun _ _=>trivial) (fun _ _=>trivial) hd2)⟩⟩
    ·exact Qe p hg0 dh (by simp only [bX,hcg])
    ·rw [hpt]
     intro t ht
     rcases bW.1 ht with h | h
     ·exact hown t h
     ·simp [az,lI n hcg] at h
    ·rw [TF p hg0 hn]
     simp only [aT]
     rw [ho1]
     simp only
     rw [hsub]
  | _=>simp [aB] at hg1
 cases v with
 | val k0 y Tg=>
  cases k0 with
  | st c=>
   simp only [IC] at h
   rcases bD h with ⟨hc,h⟩ | ⟨_,h⟩
   ·have ek:=K.eq_of_beq hc
    cases hg:aS n c y with
    | none=>rw [hg] at h; exact h.elim
    | some dd=>
     rw [hg] at h
     obtain ⟨g1,g2⟩:=tN h
     rw [bz g2]
     obtain ⟨cs,hv,hV⟩:=h1 (.inr g1)
     obtain ⟨off,ho1,ho2⟩:=Xu n (show Vw _ _ c y cs from hV) hg
     obtain ⟨u,r1,r2⟩:=EZ ek.symm hv ho1 (nO (k:=c) hV) (Mv (k:=.st c) (by rw [ek]; exact ht.fV) hV)
     refine fO H hd hdn r1 (show aW cx Z J F w (.val dd.1 dd.2 _) u from fun _=>⟨_,r2, ?_⟩) ?_
     ·cases hf:dd.1.flat with
      | true=>exact ni hf ho2
      | false=>exact ho2
     ·cases hf:dd.1.flat with
      | true=>intro t ht; simp at ht
      | false=>exact h2
   ·exact h.elim
  | _=>exact h.elim
 | ref r g=>
  simp only [IC] at h
  obtain ⟨R,hr,hv,h⟩:=iQ h
  rcases bD h with ⟨hc,h5⟩ | ⟨_,h⟩
  ·simp only [bg] at hc
   obtain ⟨hka,kF⟩:=h1 R hr (bC hc.1)
   have ek:=K.eq_of_beq hc.2
   cases hg:aB [.aZ n] R.k R.x with
   | none=>rw [hg] at h5; exact h5.elim
   | some dd=>
    rw [hg] at h5
    simp only at h5
    obtain ⟨u,r1,r2,r3⟩:=key (p:=[]) (d0:=⟨R.k,R.x⟩) hr hv rfl ek hg trivial (fun t ht=>by simp [az] at ht) rfl kF
    rcases bD h5 with ⟨hf,h6⟩ | ⟨_,h6⟩
    ·rw [bz h6]
     exact fO H hd hdn r1 (r3 hf) (fun t ht=>by simp at ht)
    ·rw [bz h6]
     exact fO (x:=.one (.dZ r [.aZ n] R.dL)) H hd hdn r1 r2 ⟨R,hr.1, .inr (bN _)⟩
  ·exact h.elim
 | dZ r p nn=>
  simp only [IC] at h
  obtain ⟨R,hr,hv,h⟩:=iQ h
  rcases bD h with ⟨hc,h5⟩ | ⟨_,h⟩
  ·cases hg0:aB p R.k R.x with
   | none=>rw [hg0] at h5; exact h5.elim
   | some d0=>
    cases hg:aB (p++[.aZ n]) R.k R.x with
    | none=>rw [hg0,hg] at h5; exact h5.elim
    | some dd=>
     rw [hg0,hg] at h5
     simp only at h5
     rcases bD h5 with ⟨_,h6⟩ | ⟨hk,h6⟩
     ·exact h6.elim
     ·have ek:d0.1=kk:=K.eq_of_beq (by simpa using hk)
      obtain ⟨g1,g2,cs,wh,g3,g4⟩:=h1 R hr.1 hv (bC hc) d0 hg0
      obtain ⟨u,r1,r2,r3⟩:=key hr hv hg0 ek hg g1 g2 g3 g4
      rcases bD h6 with ⟨hf,h7⟩ | ⟨_,h7⟩
      ·rw [bz h7]
       exact fO H hd hdn r1 (r3 hf) (fun t ht=>by simp at ht)
      ·rw [bz h7]
       exact fO (x:=.one (.dZ r (p++[.aZ n]) R.dL)) H hd hdn r1 (show jv cx Z J F w (.one (.dZ r (p++[.aZ n]) R.dL)) u from r2) ⟨R,hr.1, .inr (bN _)⟩
  ·exact h.elim
 | _=>exact h.elim
theorem aie (hT:fJ P T) (H:Rel cx Z J F a w) (hd:o.dst=some d) (hdn:d<cx.nt) {t:TypeId} {x:Operand} {n:Nat} (ho:o.op=.fieldAddr t x n)
  (h:(match T.ty t with
   | some kk=>eP x fun a=>IB kk a n fun u=>.ret [Wr.s d (.one u)]
   | none=>(.fail:Prog (List Wr))).ends Z ws):dG P cx o a w (aC ws Z):=by
 split at h
 case h_2=>exact h.elim
 rename_i kk hty
 have ht:=hT.ty t kk hty
 obtain ⟨v,h1,h2,h⟩:=jT H h
 have hrun:∀{c:K} {off:Nat} {k:K} {b q:Nat},kk=.st c->bO n c=some (off,k)->a.eval x=.pointer (some ⟨b,q,none⟩)->(execOp a.eval o).run P w=.ok (.value (.pointer (some ⟨b,q+off,none⟩))) w:=by
  intro c off k b q ek hoff ev
  subst ek
  have:=ant (w:=w) ht hoff b q
  simp only [execOp,ho,ev,dO,this,fU,fA]
 cases v with
 | ptr r p m=>
  simp only [IB,Prog.ends] at h
  cases hr0:Z.roots r with
  | none=>rw [hr0] at h; exact h.elim
  | some R=>
   rw [hr0] at h
   simp only at h
   cases hg:aB p R.k R.x with
   | none=>rw [hg] at h; exact h.elim
   | some d0=>
    rw [hg] at h
    simp only at h
    rcases bD h with ⟨hc,h5⟩ | ⟨_,h5⟩
    ·simp only [bg] at hc
     rw [bz h5]
     unfold M8 at hc
     cases kk with
     | st c=>
      obtain ⟨off,kf,hoff⟩:=QO n hc.2
      obtain ⟨⟨b,q,ev⟩,h1'⟩:=h1
      refine fO (x:=.one (.ptr r (p++[.aZ n]) m)) H hd hdn (hrun rfl hoff ev) ⟨⟨b,q+off,rfl⟩, ?_⟩ h2
      intro R' hR' hv hcl hown hs
      rw [hr0] at hR'
      simp only [au] at hR'
      subst hR'
      have hpt:=aba p (q:=[.aZ n]) hg
      have e0:az [.aZ n] d0.1=[]:=by
       obtain ⟨dk,dx⟩:=d0
       cases dk with
       | st c'=>
        simp only [az]
        cases az.lH n c' <;> rfl
       | _=>rfl
      rw [e0,h_] at hpt
      have hcl':clean R.h m (iW p R.k)=true:=by
       unfold clean at hcl ⊢
       rw [eH] at hcl ⊢
       intro t ht
       have:=hcl t ht
       simp only [lC,gT] at this ⊢
       intro h6
       refine this ?_
       have e1:iW (p++[.aZ n]) R.k=jM :: az (p++[.aZ n]) R.k:=by cases p <;> rfl
       rw [e1,hpt]
       cases p with
       | nil=>simp [iW] at h6
       | cons s p=>exact h6
      rw [hpt] at hown
      obtain ⟨g1,cs,b',q',g2,g3⟩:=h1' R hr0 hv hcl' hown (by rw [hg]; rfl)
      rw [ev] at g3
      simp only [Value.pointer.injEq,au,qK,eX] at g3
      obtain ⟨rfl,rfl⟩:=g3
      have hga:=YM p (q:=[.aZ n]) hg
      rw [hga] at hs
      obtain ⟨dk,dx⟩:=d0
      cases dk with
      | st c'=>
       simp only [aB] at hs
       cases hcg:aS n c' dx with
       | none=>rw [hcg] at hs; simp at hs
       | some s=>
        have hck:(az.lH n c').isSome=true:=by rw [lI n hcg]; rfl
        obtain ⟨off',kf',ZE⟩:=QO n hck
        have hl:c'.like c=true:=hc.1
        obtain ⟨kf2,Sm⟩:=al1 n hl ZE
        rw [hoff] at Sm
        simp only [au,bS] at Sm
        refine ⟨Qe p hg g1 (by simp only [bX,hcg]),(cs.drop off').take kf'.size,b,q+off, ?_,rfl⟩
        rw [TF p hg g2]
        simp only [aT]
        rw [ZE]
        simp [Sm.1]
      | _=>simp [aB] at hs
     | _=>simp at hc
    ·exact h5.elim
 | fQ bt k0 y Tg=>
  cases k0 with
  | st c=>
   simp only [IB] at h
   rcases bD h with ⟨hc,h5⟩ | ⟨_,h5⟩
   ·have ek:=K.eq_of_beq hc
    cases hg:aS n c y with
    | none=>rw [hg] at h5; exact h5.elim
    | some dd=>
     rw [hg] at h5
     obtain ⟨g1,g2⟩:=tN h5
     rw [bz g2]
     obtain ⟨b,q,cs,e,hcs,hV,hok,hb⟩:=h1.2 g1
     obtain ⟨off,ho1,ho2⟩:=Xu n (show Vw _ _ c y cs from hV) hg
     have hle:=QS n ho1
     have hlen:=nO (k:=c) hV
     refine fO (x:=.one (.fQ bt dd.1 dd.2 Tg)) H hd hdn (hrun ek.symm ho1 e) ⟨⟨b,q+off,rfl⟩,fun _=>⟨b,q+off,_,rfl, ?_,ho2,hok,hb⟩⟩ h2
     intro i hi
     simp only [mZ,wQ] at hi
     rw [nM,hcs (off+i) (by omega)]
     rw [Mc (by omega),Bw]
   ·exact h5.elim
  | _=>exact h.elim
 | lZ r g k0 p=>
  simp only [IB] at h
  cases hk:Fu p k0 with
  | none=>rw [hk] at h; exact h.elim
  | some k1=>
   rw [hk] at h
   simp only at h
   rcases bD h with ⟨hc,h5⟩ | ⟨_,h5⟩
   ·simp only [bg] at hc
    rw [bz h5]
    have ek:=K.eq_of_beq hc.1
    subst ek
    obtain ⟨u,b,off,k2,e,hq,hC,ho1,hR⟩:=h1
    have e2:=alN p hk ho1
    subst e2
    unfold M8 at hc
    cases k2 with
    | st c=>
     obtain ⟨o2,kf,hoff⟩:=QO n hc.2
     exact fO (x:=.one (.lZ r g k0 (p++[.aZ n]))) H hd hdn (hrun rfl hoff e) ⟨u,b,off+o2,kf,rfl,hq,hC,ajf p ho1 rfl hoff,hR⟩ h2
    | _=>simp at hc
   ·exact h5.elim
 | _=>exact h.elim
theorem run_indexAt {t e:TypeId} {k:K} (h:dn P T t (.sl e k)) {ik:IntKind} {i:Int} {b q n c:Nat} (h0:0<=i) (h1:i<(n:Int)) :
  (Instr.indexAt t (.slice (some ⟨b,q,none⟩) n c) (.int ik i)).run P w=.ok (.pointer (some ⟨b,q+i.toNat * k.size,none⟩)) w:=by
 obtain ⟨hu,he,_,_⟩:=h.sl
 unfold Instr.indexAt
 simp [asIntOf,iy hu,Result.andThen,h0,h1,he.info.sizeOf w,addr_add]
end
end
section
open Go
variable [Fr]
section
variable {P:Program} {T:bH} {cx:Cx} {Z:St} {J:aH} {F:List Nat} {a:Act} {w:World} {o:Oper} {d:Nat} {ws:List Wr}
theorem Df {e:TypeId} {k:K} {v:Value} {cs:List Value} {h:Heap} {ok:Nat->Prop} {xs:List (El k)} (hv:VC (.sl e k) v cs) (hV:Vw h ok (.sl e k) xs cs) :
  ∃b n c,v=.slice b n c/\cs=[.slice b n c]/\n=xs.length/\n<=c/\(0<n->∃bb q,b=some ⟨bb,q,none⟩/\ok bb/\l9 h bb e/\∀(i:Nat) (hi:i<xs.length),∃ds,Cells h bb (q+i * k.size) ds/\Vw h ok k xs[i] ds):=by
 obtain ⟨b,n,c,e1,e2,e3,e4⟩:=hV
 obtain ⟨e5,_⟩:cs=[v]/\_:=hv
 rw [e1] at e5
 simp only [jw,eX] at e5
 exact ⟨b,n,c,e5.symm,e1,e2,e3,e4⟩
theorem aih (hT:fJ P T) (H:Rel cx Z J F a w) (hd:o.dst=some d) (hdn:d<cx.nt) {t:TypeId} {x y:Operand} (ho:o.op=.indexAddr t x y)
  (h:(match T.ty t with
   | some kk=>eP x fun a=>eP y fun i=>asInt i fun _ i=>Ji kk a i fun u=>.ret [Wr.s d (.one u)]
   | none=>(.fail:Prog (List Wr))).ends Z ws):dG P cx o a w (aC ws Z):=by
 split at h
 case h_2=>exact h.elim
 rename_i k0 hty
 have ht:=hT.ty t k0 hty
 obtain ⟨v,h1,h2,h⟩:=jT H h
 obtain ⟨vi,h3,_,h⟩:=jT H h
 obtain ⟨ik,i,ei,_,h⟩:=Im h3 h
 have hrun:∀{e:TypeId} {k:K} {b q n c:Nat},k0=.sl e k->a.eval x=.slice (some ⟨b,q,none⟩) n c->0<=i->i<(n:Int)->(execOp a.eval o).run P w=.ok (.value (.pointer (some ⟨b,q+i.toNat * k.size,none⟩))) w:=by
  intro e k b q n c ek ev g0 g1
  subst ek
  have:=run_indexAt (w:=w) (ik:=ik) (b:=b) (q:=q) (c:=c) ht g0 g1
  simp only [execOp,ho,ev,ei,dO,this,fU,fA]
 have key:∀{r:Nat} {R:Root} {p:List Stp} {e:TypeId} {kk:K} {xs:List (El kk)} {cs:List Value} {wh:Option (Nat×Nat)},aU Z r R->cB Z R->aB p R.k R.x=some ⟨.sl e kk,xs⟩->K.sl e kk=k0->bX p R.k R.x->(∀t∈az p R.k,aa t R.own=true)->
   aT (hp w) p R.k (J.hdr r) (aK J R r)=some (cs,wh)->VC (.sl e kk) (a.eval x) cs->aM i xs.length->
   ∃u,(execOp a.eval o).run P w=.ok (.value u) w/\aW cx Z J F w (.ptr r (p++[.idx i]) (dS R.h)) u/\aW cx Z J F w (.fQ e kk (xs.getD i.toNat kk.zero) (R.out r (.sl e kk))) u:=by
  intro r R p e kk xs cs wh hr hv hg ek dh hown hn kF hin
  obtain ⟨aX,hO,hf⟩:=wo H hr hv hg dh hown hn
  have hV:=vZ H hr hO hf
  obtain ⟨b,n,c,g1,g2,g3,g4,g5⟩:=Df kF hV
  have i0:(0:Int)<=i:=hin.1
  have i1:i<(xs.length:Int):=hin.2
  have hlt:i.toNat<xs.length:=by omega
  obtain ⟨bb,q,rfl,hok,hel,hes⟩:=g5 (by rw [g3]; exact Nat.lt_of_le_of_lt (fT _) hlt)
  obtain ⟨ds,hc,RQ⟩:=hes i.toNat hlt
  refine ⟨_,hrun ek.symm g1 i0 (by rw [g3]; exact i1),⟨⟨bb,q+i.toNat * kk.size,rfl⟩, ?_⟩,⟨⟨bb,q+i.toNat * kk.size,rfl⟩,fun _=>⟨bb,_,ds,rfl,hc, ?_,hok.q, .inr ⟨hel,hok.2.2.1⟩⟩⟩⟩
  ·intro R' hR' _ _ _ _
   rw [hr.1] at hR'
   simp only [au] at hR'
   subst hR'
   refine ⟨Qe p hg dh ⟨i0,i1,trivial⟩,iY (hp w) bb (q+i.toNat * kk.size) kk.size,bb,q+i.toNat * kk.size, ?_,rfl⟩
   rw [TF p hg hn,g2]
   rfl
  ·rw [oH hlt]
   exact RQ
 cases v with
 | val k1 y Tg=>
  cases k1 with
  | sl e kk=>
   simp only [Ji] at h
   rcases bD h with ⟨hc,h5⟩ | ⟨_,h5⟩
   ·have ek:=K.eq_of_beq hc
    obtain ⟨g1,g2⟩:=tN h5
    obtain ⟨hin,g3⟩:=g2
    rw [bz g3]
    obtain ⟨cs,kF,hV⟩:=h1 (.inr g1)
    obtain ⟨b,n,c,f1,f2,f3,f4,f5⟩:=Df kF hV
    obtain ⟨i0,i1⟩:=hin
    have hlt:i.toNat < @List.length (El kk) y:=by
     have Z6:i<((@List.length (El kk) y:Nat):Int):=i1
     omega
    obtain ⟨bb,q,rfl,hok,hel,hes⟩:=f5 (by omega)
    obtain ⟨ds,hcs,RQ⟩:=hes i.toNat hlt
    refine fO (x:=.one (.fQ e kk _ Tg)) H hd hdn (hrun ek.symm f1 i0 (by rw [f3]; exact i1)) ⟨⟨bb,_,rfl⟩,fun _=>⟨bb,_,ds,rfl,hcs, ?_,hok.q, .inr ⟨hel,hok.2.2.1⟩⟩⟩ h2
    have eg:(show List (El kk) from y).getD i.toNat kk.zero=(show List (El kk) from y)[i.toNat]'hlt:=oH hlt
    rw [eg]
    exact RQ
   ·exact h5.elim
  | _=>exact h.elim
 | ref r g=>
  simp only [Ji] at h
  obtain ⟨R,hr,hv,h⟩:=iQ h
  rcases bD h with ⟨hc,h5⟩ | ⟨_,h5⟩
  ·obtain ⟨hka,kF⟩:=h1 R hr (bC hc)
   have hg:aB [] R.k R.x=some ⟨R.k,R.x⟩:=rfl
   have hK:∀(q:Dat),aB [] R.k R.x=some q->∀hh:(match q.1,q.2 with
     | .sl e kk,xs=>bif aa e R.own && (K.sl e kk).beq k0 then Prog.eY (aM i (show List (El kk) from xs).length) inferInstance ((.ret [Wr.s d (.one (.ptr r [.idx i] (dS R.h)))]):Prog (List Wr)) else Prog.fail
     | _,_=>Prog.fail).ends Z ws,VC q.1 (a.eval x) (J.hdr r)->dG P cx o a w (aC ws Z):=by
    intro q hq hh kF
    obtain ⟨qk,qx⟩:=q
    cases qk with
    | sl e kk=>
     simp only at hh
     rcases bD hh with ⟨hc2,h6⟩ | ⟨_,h6⟩
     ·simp only [bg] at hc2
      obtain ⟨hin,h7⟩:=h6
      rw [bz h7]
      obtain ⟨u,r1,r2,_⟩:=key (p:=[]) hr hv hq (K.eq_of_beq hc2.2) trivial (fun t ht=>by simp [az] at ht) rfl kF hin
      exact fO (x:=.one (.ptr r [.idx i] (dS R.h))) H hd hdn r1 r2 ⟨R,hr.1, .inr (bN _)⟩
     ·exact h6.elim
    | _=>exact hh.elim
   exact hK ⟨R.k,R.x⟩ hg h5 kF
  ·exact h5.elim
 | dZ r p nn=>
  simp only [Ji] at h
  obtain ⟨R,hr,hv,h⟩:=iQ h
  rcases bD h with ⟨hc,h5⟩ | ⟨_,h5⟩
  ·cases hg0:aB p R.k R.x with
   | none=>rw [hg0] at h5; exact h5.elim
   | some d0=>
    rw [hg0] at h5
    obtain ⟨g1,g2,cs,wh,g3,g4⟩:=h1 R hr.1 hv (bC hc) d0 hg0
    obtain ⟨dk,dx⟩:=d0
    cases dk with
    | sl e kk=>
     simp only at h5
     rcases bD h5 with ⟨_,h6⟩ | ⟨hk,h6⟩
     ·exact h6.elim
     ·have ek:K.sl e kk=k0:=K.eq_of_beq (by simpa using hk)
      rcases bD h6 with ⟨_,h7⟩ | ⟨_,h7⟩
      ·obtain ⟨hin,h8⟩:=h7
       rw [bz h8]
       obtain ⟨u,r1,r2,_⟩:=key hr hv hg0 ek g1 g2 g3 g4 hin
       exact fO (x:=.one (.ptr r (p++[.idx i]) (dS R.h))) H hd hdn r1 (show jv cx Z J F w (.one (.ptr r (p++[.idx i]) (dS R.h))) u from r2) ⟨R,hr.1, .inr (bN _)⟩
      ·obtain ⟨hin,h8⟩:=h7
       rw [bz h8]
       obtain ⟨u,r1,_,r3⟩:=key hr hv hg0 ek g1 g2 g3 g4 hin
       exact fO H hd hdn r1 (show jv cx Z J F w (.one (.fQ e kk _ (R.out r (.sl e kk)))) u from r3) (FJ H hr _)
    | _=>exact h5.elim
  ·exact h5.elim
 | _=>exact h.elim
theorem aht (B:ByteArray) {n:Nat} (h:n<B.size):(bytesOf B).getD n 0=(B[n].toNat:Int):=by
 unfold bytesOf
 have:n<(B.data.toList.map fun b=>(b.toNat:Int)).length:=by simpa using h
 rw [oH this]
 simp
 rfl
theorem zH (B:ByteArray):(bytesOf B).length=B.size:=by simp [bytesOf]
theorem aif (hT:fJ P T) (H:Rel cx Z J F a w) (hd:o.dst=some d) (hdn:d<cx.nt) {t:TypeId} {x y:Operand} (ho:o.op=.index t x y)
  (h:(eP x fun a=>eP y fun i=>asInt i fun _ i=>match T.ty t,a with
   | some .str, .val .str s _=>.eY (aM i (show List Int from s).length) inferInstance (.ret [Wr.s d (.one (.val (.int .u8) ((show List Int from s).getD i.toNat 0) []))])
   | _,_=>(.fail:Prog (List Wr))).ends Z ws):dG P cx o a w (aC ws Z):=by
 obtain ⟨v,h1,h2,h⟩:=jT H h
 obtain ⟨vi,h3,_,h⟩:=jT H h
 obtain ⟨ik,i,ei,_,h⟩:=Im h3 h
 cases hty:T.ty t with
 | none=>rw [hty] at h; exact h.elim
 | some k0=>
  rw [hty] at h
  cases k0 with
  | str=>
   cases v with
   | val k1 s Tg=>
    cases k1 with
    | str=>
     simp only at h
     obtain ⟨⟨i0,i1⟩,h4⟩:=h
     rw [bz h4]
     obtain ⟨B,e1,e2⟩:=Au h1
     subst e2
     have hu:P.underlying t=some .string:=by
      have:=hT.ty t .str hty
      unfold dn jO at this
      exact this.1
     have hlt:i.toNat<B.size:=by
      have Z6:i<((bytesOf B).length:Int):=i1
      rw [zH] at Z6
      omega
     refine fO (v:=.int .u8 (B[i.toNat].toNat:Int)) H hd hdn ?_ ?_ (fun t ht=>by simp at ht)
     ·simp only [execOp,ho,e1,ei,Instr.index,asIntOf,dO,fA,fU,iy hu]
      rw [aj i0]
      simp [hlt]
     ·have eg:(show List Int from bytesOf B).getD i.toNat 0=(B[i.toNat].toNat:Int):=aht B hlt
      rw [eg]
      refine TD ⟨by omega, ?_⟩
      have:=B[i.toNat].toNat_lt
      omega
    | _=>exact h.elim
   | _=>exact h.elim
  | _=>cases v <;> exact h.elim
theorem al4 {l:List AV} {vs:List Value} (h:iN cx Z J F w l vs) {i:Nat} {x:AV} (hi:l[i]?=some x):∃v,vs[i]?=some v/\aW cx Z J F w x v:=by
 induction l generalizing vs i with
 | nil=>simp at hi
 | cons b l ih=>
  cases vs with
  | nil=>exact h.elim
  | cons u vs=>
   cases i with
   | zero=>simp only [qO,au] at hi; subst hi; exact ⟨u,rfl,h.1⟩
   | succ i=>simp only [Xe] at hi; obtain ⟨v,h1,h2⟩:=ih h.2 hi; exact ⟨v,by simpa using h1,h2⟩
theorem aic (H:Rel cx Z J F a w) (hd:o.dst=some d) (hdn:d<cx.nt) {x:Operand} {i:Nat} (ho:o.op=.extract x i)
  (h:(uL x fun
   | .mH l=>match l[i]? with
    | some u=>.ret [Wr.s d (.one u)]
    | none=>.fail
   | _=>(.fail:Prog (List Wr))).ends Z ws):dG P cx o a w (aC ws Z):=by
 obtain ⟨v,h1,h2,h⟩:=EA H h
 cases v with
 | one u=>exact h.elim
 | lit _ _ _=>exact h.elim
 | mH l=>
  simp only at h
  cases hi:l[i]? with
  | none=>rw [hi] at h; exact h.elim
  | some u=>
   rw [hi] at h
   rw [bz h]
   obtain ⟨vs,e1,e2⟩:=h1
   obtain ⟨v,g1,g2⟩:=al4 e2 hi
   refine fO (x:=.one u) (v:=v) H hd hdn ?_ g2 (h2 u (qo hi))
   simp [execOp,ho,e1,Instr.extract,g1]
end
end
section
open Go
variable [Fr]
theorem uV (ik:IntKind) (n:Int):mG ik (ik.wrap n):=by
 cases ik <;> simp only [mG]
 simp only [IntKind.wrap,IntKind.bits,IntKind.signed]
 simp
 omega
section
variable {P:Program} {cx:Cx} {Z:St} {J:aH} {F:List Nat} {a:Act} {w:World} {o:Oper} {d:Nat} {ws:List Wr}
theorem qj (ik:IntKind) {n:Int} (h:mG ik n):jv cx Z J F w (v1 (.int ik) n) (.int ik n):=TD h
theorem oN (b:Bool):jv cx Z J F w (v1 .bool b) (.bool b):=aml
theorem pG {k:K} {x:El k}:nu Z (v1 k x):=fun t ht=>by simp at ht
theorem alC {op:BinOp} {ik:IntKind} {x y:Int} {z:List Wr} (hx:mG ik x) (hy:mG ik y) (ht:TypeId) {k:gM->Prog (List Wr)} (hk:∀v,k v=.ret [Wr.s d v]) (h:(NC op ik x y k).ends Z z) :
  ∃kk y',(∃v,(Go.binOp op ht (.int ik x) (.int ik y)).run P w=.ok v w/\jv cx Z J F w (v1 kk y') v)/\z=[Wr.s d (v1 kk y')]:=by
 unfold NC at h
 cases op <;> simp only [hk] at h
 case add=>exact ⟨.int ik,_,⟨_,by simp [Go.binOp,Op.intArith],qj ik (uV ik _)⟩,bz h⟩
 case sub=>exact ⟨.int ik,_,⟨_,by simp [Go.binOp,Op.intArith],qj ik (uV ik _)⟩,bz h⟩
 case mul=>exact ⟨.int ik,_,⟨_,by simp [Go.binOp,Op.intArith],qj ik (uV ik _)⟩,bz h⟩
 case quo=>
  obtain ⟨h0,h⟩:=h
  exact ⟨.int ik,_,⟨_,by simp [Go.binOp,Op.intDiv,h0],qj ik (uV ik _)⟩,bz h⟩
 case rem=>
  obtain ⟨h0,h⟩:=h
  refine ⟨.int ik,_,⟨_,by simp [Go.binOp,Op.intDiv,h0],qj ik ?_⟩,bz h⟩
  cases ik <;> simp only [mG] at hx hy ⊢
  have h1:=Int.tmod_nonneg y hx.1
  have h2:x.tmod y<y:=by
   rw [Bp hx.1]
   exact Int.emod_lt_of_pos x (by omega)
  omega
 case and=>exact ⟨.int ik,_,⟨_,by simp [Go.binOp,Op.intBits],qj ik (uV ik _)⟩,bz h⟩
 case or=>exact ⟨.int ik,_,⟨_,by simp [Go.binOp,Op.intBits],qj ik (uV ik _)⟩,bz h⟩
 case xor=>exact ⟨.int ik,_,⟨_,by simp [Go.binOp,Op.intBits],qj ik (uV ik _)⟩,bz h⟩
 case andNot=>exact ⟨.int ik,_,⟨_,by simp [Go.binOp,Op.intBits],qj ik (uV ik _)⟩,bz h⟩
 case eql=>exact ⟨.bool,_,⟨.bool (decide (x=y)),by simp only [Go.binOp,ne_eq,not_true_eq_false, ↓reduceIte]; rfl,oN _⟩,bz h⟩
 case neq=>exact ⟨.bool,_,⟨.bool (!decide (x=y)),by simp only [Go.binOp,ne_eq,not_true_eq_false, ↓reduceIte]; rfl,oN _⟩,bz h⟩
 case lss=>exact ⟨.bool,_,⟨_,by simp [Go.binOp,Op.intCmp],oN _⟩,bz h⟩
 case leq=>exact ⟨.bool,_,⟨_,by simp [Go.binOp,Op.intCmp],oN _⟩,bz h⟩
 case gtr=>exact ⟨.bool,_,⟨_,by simp [Go.binOp,Op.intCmp],oN _⟩,bz h⟩
 case geq=>exact ⟨.bool,_,⟨_,by simp [Go.binOp,Op.intCmp],oN _⟩,bz h⟩
 all_goals exact h.elim
theorem alU:∀(x y:List UInt8),uQ (x.map fun b=>(b.toNat:Int)) (y.map fun b=>(b.toNat:Int))=Op.bytesLess x y:=by
 intro x
 induction x with
 | nil=>intro y; cases y <;> rfl
 | cons a x ih=>
  intro y
  cases y with
  | nil=>rfl
  | cons b y=>
   simp only [lD,uQ,Op.bytesLess,ih]
   have h1:decide ((a.toNat:Int)<(b.toNat:Int))=decide (a<b):=by
    apply Q6.2
    rw [UInt8.lt_iff_toNat_lt]
    omega
   have h2:decide ((a.toNat:Int)=(b.toNat:Int))=(a == b):=by
    rw [show (a == b)=decide (a=b) from rfl]
    apply Q6.2
    rw [<-UInt8.toNat_inj]
    omega
   rw [h1,h2]
theorem amd:∀{x y:List UInt8},x.map (fun b=>(b.toNat:Int))=y.map (fun b=>(b.toNat:Int))↔x=y:=by
 intro x
 induction x with
 | nil=>intro y; cases y <;> simp
 | cons a x ih=>
  intro y
  cases y with
  | nil=>simp
  | cons b y=>
   simp only [lD,jw,ih]
   have:(a.toNat:Int)=(b.toNat:Int)↔a=b:=by rw [<-UInt8.toNat_inj]; omega
   rw [this]
theorem ahu {A B:ByteArray}:bytesOf A=bytesOf B↔A.toList=B.toList:=by
 unfold bytesOf
 rw [amd,OD,OD]
theorem ML {A B:ByteArray}:(A.toList == B.toList)=decide (bytesOf A=bytesOf B):=by
 rw [show (A.toList == B.toList)=decide (A.toList=B.toList) from by
  cases h:(A.toList == B.toList) with
  | true=>simp [eq_of_beq h]
  | false=>simp [ne_of_beq_false h]]
 exact Q6.2 ahu.symm
theorem MM {A B:ByteArray}:Op.bytesLess A.toList B.toList=uQ (bytesOf A) (bytesOf B):=by
 unfold bytesOf
 rw [alU,OD,OD]
theorem ahs (A B:ByteArray):bytesOf (A++B)=bytesOf A++bytesOf B:=by
 unfold bytesOf
 rw [<-rQ]
 congr 1
theorem anP {op:BinOp} {A B:ByteArray} {z:List Wr} (ht:TypeId) {k:gM->Prog (List Wr)} (hk:∀v,k v=.ret [Wr.s d v]) (h:(UF op (bytesOf A) (bytesOf B) k).ends Z z) :
  ∃kk y',(∃v,(Go.binOp op ht (.string A) (.string B)).run P w=.ok v w/\jv cx Z J F w (v1 kk y') v)/\z=[Wr.s d (v1 kk y')]:=by
 unfold UF at h
 cases op <;> simp only [hk] at h
 case add=>
  obtain ⟨h0,h⟩:=h
  rw [zH,zH] at h0
  refine ⟨.str,bytesOf A++bytesOf B,⟨.string (A++B), ?_, ?_⟩,bz h⟩
  ·have:¬(((A.size+B.size:Nat):Int)>IntKind.i64.max):=by
    simp only [IntKind.max,IntKind.signed,IntKind.bits]
    simp
    omega
   simp only [Go.binOp,Op.stringOp]
   rw [aA this]
   rfl
  ·rw [<-ahs]; exact TE
 case eql=>exact ⟨.bool,_,⟨.bool (decide (bytesOf A=bytesOf B)),by simp only [Go.binOp,Op.stringOp]; rw [ML]; rfl,oN _⟩,bz h⟩
 case neq=>exact ⟨.bool,_,⟨.bool (!decide (bytesOf A=bytesOf B)),by simp only [Go.binOp,Op.stringOp]; rw [ML]; rfl,oN _⟩,bz h⟩
 case lss=>exact ⟨.bool,_,⟨.bool (uQ (bytesOf A) (bytesOf B)),by simp only [Go.binOp,Op.stringOp]; rw [MM]; rfl,oN _⟩,bz h⟩
 case leq=>exact ⟨.bool,_,⟨.bool (uQ (bytesOf A) (bytesOf B) || decide (bytesOf A=bytesOf B)),by simp only [Go.binOp,Op.stringOp]; rw [MM,ML]; rfl,oN _⟩,bz h⟩
 case gtr=>exact ⟨.bool,_,⟨.bool (!(uQ (bytesOf A) (bytesOf B) || decide (bytesOf A=bytesOf B))),by simp only [Go.binOp,Op.stringOp]; rw [MM,ML]; rfl,oN _⟩,bz h⟩
 case geq=>exact ⟨.bool,_,⟨.bool (!uQ (bytesOf A) (bytesOf B)),by simp only [Go.binOp,Op.stringOp]; rw [MM]; rfl,oN _⟩,bz h⟩
 all_goals exact h.elim
theorem aiB (H:Rel cx Z J F a w) (hd:o.dst=some d) (hdn:d<cx.nt) {t:TypeId} {x:Operand} {op:UnOp} (ho:o.op=.unOp op t x)
  (h:(eP x fun a=>UT op a fun v=>(.ret [Wr.s d v]:Prog (List Wr))).ends Z ws):dG P cx o a w (aC ws Z):=by
 obtain ⟨v,h1,h2,h⟩:=jT H h
 unfold UT at h
 split at h
 ·obtain ⟨e1,e2⟩:=Ar h1
  rw [bz h]
  exact fO H hd hdn (by simp [execOp,ho,e1,Op.unary,Op.intArith]) (qj _ (uV _ _)) pG
 ·obtain ⟨e1,e2⟩:=Ar h1
  rw [bz h]
  exact fO H hd hdn (by simp [execOp,ho,e1,Op.unary,Op.intBits]) (qj _ (uV _ _)) pG
 ·have e1:=F7 h1
  rw [bz h]
  exact fO H hd hdn (by simp [execOp,ho,e1,Op.unary]) (oN _) pG
 ·exact h.elim
end
end
section
open Go
variable [Fr]
section
variable {P:Program} {T:bH} {cx:Cx} {Z:St} {J:aH} {F:List Nat} {a:Act} {w:World} {o:Oper} {d:Nat} {ws:List Wr}
theorem ab0 {op:BinOp} {t:TypeId} {x y:Operand} {u v:Value} (h:(∀c,u≠.agg c)/\u≠.nilIface):(eqGuard op t x y u v).run P w=.ok () w:=by
 unfold eqGuard
 cases op <;> simp only [jc,mI,bJ, ↓reduceIte] <;> first | rfl | skip
 all_goals (cases u <;> first | rfl | exact absurd rfl (h.1 _) | exact absurd rfl h.2)
theorem Tw:∃n,Op.maxDepth=n+1:=⟨Op.maxDepth - 1,by unfold Op.maxDepth; rfl⟩
theorem run_equal_bool {t:TypeId} (h:P.underlying t=some .bool) (x y:Bool):(Op.equal t (.bool x) (.bool y)).run P w=.ok (x == y) w:=by
 obtain ⟨n,e⟩:=Tw
 unfold Op.equal
 rw [e]
 simp [Op.equalIn,iy h]
theorem ab1 {t e:TypeId} (h:P.underlying t=some (.pointer e)) {u v:Option Addr} (hn:u=none\/v=none):(Op.equal t (.pointer u) (.pointer v)).run P w=.ok (u.isNone && v.isNone) w:=by
 obtain ⟨n,e⟩:=Tw
 unfold Op.equal
 rw [e]
 rcases hn with rfl | rfl
 ·simp [Op.equalIn,iy h]
 ·cases u <;> simp [Op.equalIn,iy h]
theorem amu {x y:AV} {u v:Value} {b:Bool} (hx:aW cx Z J F w x u) (hy:aW cx Z J F w y v) (h:JA x y=some b):∃p q,u=.pointer p/\v=.pointer q/\(p=none\/q=none)/\(p.isNone && q.isNone)=b:=by
 unfold JA at h
 split at h <;> simp only [au,reduceCtorEq] at h <;> subst h
 ·exact ⟨none,none,hx,hy, .inl rfl,rfl⟩
 ·obtain ⟨b,q,e⟩:=hy.1; exact ⟨none,_,hx,e, .inl rfl,rfl⟩
 ·obtain ⟨b,q,e⟩:=hx.1; exact ⟨_,none,e,hy, .inr rfl,rfl⟩
 ·obtain ⟨b,q,e⟩:=hy.1; exact ⟨none,_,hx,e, .inl rfl,rfl⟩
 ·obtain ⟨b,q,e⟩:=hx.1; exact ⟨_,none,e,hy, .inr rfl,rfl⟩
def wT (P:Program) (T:bH):Prop:=∀(t:TypeId) (c:K) (x y:El c) (u v:Array Value) (w:World) (hp1 hp2:Heap) (ok1 ok2:Nat->Prop),T.ty t=some (.st c)->T.eq t=true->c.flat=true->
 Vw hp1 ok1 c x u.toList->Vw hp2 ok2 c y v.toList->(Op.equal t (.agg u) (.agg v)).run P w=.ok (yh c x y) w/\∀x y op,(eqGuard op t x y (.agg u) (.agg v)).run P w=.ok () w
theorem ahj {A:Type} {z:A} {t:TypeId} {op:BinOp} {u v:AV} {k:gM->Prog A} (h:(zF T t op u v k).ends Z z) :
  (∃ik x T1 jk y T2,u=.val (.int ik) x T1/\v=.val (.int jk) y T2)\/(∃x T1 y T2,u=.val .bool x T1/\v=.val .bool y T2)\/(∃x T1 y T2,u=.val .str x T1/\v=.val .str y T2)\/
  (∃c x T1 e y T2,u=.val (.st c) x T1/\v=.val (.st e) y T2)\/(T.ptr t=true/\∃b,JA u v=some b/\((op=.eql/\(k (v1 .bool b)).ends Z z)\/(op=.neq/\(k (v1 .bool (!b))).ends Z z))):=by
 unfold zF at h
 split at h
 ·exact .inl ⟨_,_,_,_,_,_,rfl,rfl⟩
 ·exact .inr (.inl ⟨_,_,_,_,rfl,rfl⟩)
 ·exact .inr (.inr (.inl ⟨_,_,_,_,rfl,rfl⟩))
 ·exact .inr (.inr (.inr (.inl ⟨_,_,_,_,_,_,rfl,rfl⟩)))
 ·rcases bD h with ⟨hp,h5⟩ | ⟨_,h5⟩
  ·cases hn:JA u v with
   | none=>rw [hn] at h5; exact h5.elim
   | some b=>
    rw [hn] at h5
    cases op with
    | eql=>exact .inr (.inr (.inr (.inr ⟨hp,b,rfl, .inl ⟨rfl,h5⟩⟩)))
    | neq=>exact .inr (.inr (.inr (.inr ⟨hp,b,rfl, .inr ⟨rfl,h5⟩⟩)))
    | _=>exact h5.elim
  ·exact h5.elim
theorem anq {t e:TypeId} (h:P.underlying t=some (.slice e)) (p:Option Addr) (n c:Nat):(Go.binOp .eql t (.slice p n c) (.slice none 0 0)).run P w=.ok (.bool p.isNone) w:=by
 obtain ⟨m,em⟩:=Tw
 have:(Op.equal t (.slice p n c) (.slice none 0 0)).run P w=.ok p.isNone w:=by
  unfold Op.equal
  rw [em]
  cases p <;> simp [Op.equalIn,iy h]
 simp only [Go.binOp]
 simp [this,Result.andThen]
theorem ah4 (hT:fJ P T) (hSt:wT P T) (H:Rel cx Z J F a w) (hd:o.dst=some d) (hdn:d<cx.nt) {t t2:TypeId} {x y:Operand} {op:BinOp} (ho:o.op=.binOp op t x y t2)
  (h:(eP x fun a=>eP y fun b=>zF T t op a b fun v=>(.ret [Wr.s d v]:Prog (List Wr))).ends Z ws):dG P cx o a w (aC ws Z):=by
 obtain ⟨u,h1,hu1,h5⟩:=jT H h
 obtain ⟨v,h3,hu3,h6⟩:=jT H h5
 clear h h5
 have h:=h6
 clear h6
 have hrun:∀{z:Value},((∀c,a.eval x≠.agg c)/\a.eval x≠.nilIface)->(Go.binOp op t (a.eval x) (a.eval y)).run P w=.ok z w->(execOp a.eval o).run P w=.ok (.value z) w:=by
  intro z hz h
  have hg:=ab0 (P:=P) (w:=w) (op:=op) (t:=t) (x:=x) (y:=y) (v:=a.eval y) hz
  simp only [execOp,ho,dO,hg,h,fU,fA]
 rcases ahj h with ⟨ik,x1,T1,jk,y1,T2,rfl,rfl⟩ | ⟨x1,T1,y1,T2,rfl,rfl⟩ | ⟨x1,T1,y1,T2,rfl,rfl⟩ | ⟨c,x1,T1,dd,y1,T2,rfl,rfl⟩ | ⟨hp,b,hne,hop⟩
 ·obtain ⟨e1,r1⟩:=Ar h1
  obtain ⟨e2,r2⟩:=Ar h3
  have hag:(∀c,a.eval x≠.agg c)/\a.eval x≠.nilIface:=by rw [e1]; simp
  have hplain:(bif uN ik jk then NC op ik x1 y1 fun v=>(.ret [Wr.s d v]:Prog (List Wr)) else .fail).ends Z ws->dG P cx o a w (aC ws Z):=by
   intro h
   rcases bD h with ⟨hik,h⟩ | ⟨_,h⟩
   ·have:=Jh hik
    subst this
    obtain ⟨kk,y',⟨z,g1,g2⟩,g3⟩:=alC (P:=P) (cx:=cx) (Z:=Z) (J:=J) (F:=F) (w:=w) (d:=d) r1 r2 t (fun v=>rfl) h
    rw [g3]
    exact fO H hd hdn (hrun hag (by rw [e1,e2]; exact g1)) g2 pG
   ·exact h.elim
  cases op with
  | shl=>
   obtain ⟨h0,h⟩:=h
   rw [bz h]
   refine fO H hd hdn (hrun hag (z:=.int ik (ik.wrap (x1 * 2 ^ min y1.toNat ik.bits))) ?_) (qj ik (uV _ _)) pG
   rw [e1,e2]
   simp only [Go.binOp,Op.shift]
   rw [aA (Int.not_lt.2 h0)]
   rfl
  | shr=>
   obtain ⟨h0,h⟩:=h
   rw [bz h]
   refine fO H hd hdn (hrun hag (z:=.int ik (x1.fdiv (2 ^ min y1.toNat ik.bits))) ?_) (qj ik ?_) pG
   ·rw [e1,e2]
    simp only [Go.binOp,Op.shift]
    rw [aA (Int.not_lt.2 h0)]
    rfl
   ·cases ik <;> simp only [mG] at r1 ⊢
    have hp:(0:Int)<2 ^ min y1.toNat IntKind.u8.bits:=Int.pow_pos (by omega)
    have g1:0<=x1.fdiv (2 ^ min y1.toNat IntKind.u8.bits):=Int.fdiv_nonneg r1.1 (Int.le_of_lt hp)
    have g2:x1.fdiv (2 ^ min y1.toNat IntKind.u8.bits)<=x1:=by
     rw [Int.fdiv_eq_ediv_of_nonneg _ (Int.le_of_lt hp)]
     exact Int.ediv_le_self _ r1.1
    omega
  | _=>exact hplain h
 ·have e1:=F7 h1
  have e2:=F7 h3
  have hag:(∀c,a.eval x≠.agg c)/\a.eval x≠.nilIface:=by rw [e1]; simp
  have hub:T.ty t=some .bool->P.underlying t=some .bool:=fun hty=>by
   have:=hT.ty t .bool hty
   unfold dn jO at this
   exact this.1
  cases hty:T.ty t with
  | none=>simp only [zF,hty] at h; exact h.elim
  | some k0=>
   cases k0 with
   | bool=>
    have hu:=hub hty
    simp only [zF,hty] at h
    cases op with
    | eql=>
     rw [bz h]
     refine fO H hd hdn (hrun hag (z:=.bool (x1 == y1)) ?_) (oN _) pG
     rw [e1,e2]
     simp only [Go.binOp,dO,run_equal_bool hu,fU,fA]
    | neq=>
     rw [bz h]
     refine fO H hd hdn (hrun hag (z:=.bool (!(x1 == y1))) ?_) (oN _) pG
     rw [e1,e2]
     simp only [Go.binOp,dO,run_equal_bool hu,fU,fA]
    | _=>exact h.elim
   | _=>simp only [zF,hty] at h; exact h.elim
 ·obtain ⟨A,e1,f1⟩:=Au h1
  obtain ⟨B,e2,f2⟩:=Au h3
  subst f1
  subst f2
  have hag:(∀c,a.eval x≠.agg c)/\a.eval x≠.nilIface:=by rw [e1]; simp
  obtain ⟨kk,y',⟨z,g1,g2⟩,g3⟩:=anP (P:=P) (cx:=cx) (Z:=Z) (J:=J) (F:=F) (w:=w) (d:=d) t (fun v=>rfl) h
  rw [g3]
  exact fO H hd hdn (hrun hag (by rw [e1,e2]; exact g1)) g2 pG
 ·simp only [zF] at h
  cases hck:bU (.st dd) (.st c) y1 with
  | none=>rw [hck] at h; exact h.elim
  | some y2=>
   rw [hck] at h
   obtain ⟨ek,ey⟩:=jl hck
   simp only [K.st.injEq] at ek
   subst ek
   simp only at ey
   subst ey
   simp only at h
   rcases bD h with ⟨hc,h5⟩ | ⟨_,h5⟩
   ·simp only [bg] at hc
    have hty:T.ty t=some (.st dd):=by
     have h2:=hc.2
     cases ht:T.ty t with
     | none=>rw [ht] at h2; simp at h2
     | some kk=>rw [ht] at h2; rw [K.eq_of_beq h2]
    obtain ⟨cs1,e1,V1⟩:=h1 (.inl hc.1.1)
    obtain ⟨cs2,e2,V2⟩:=h3 (.inl hc.1.1)
    have B_:a.eval x=.agg cs1.toArray:=e1
    have e2':a.eval y=.agg cs2.toArray:=e2
    obtain ⟨r1,r2⟩:=hSt t dd x1 y2 cs1.toArray cs2.toArray w _ _ _ _ hty hc.1.2 hc.1.1 (show Vw _ _ dd x1 cs1 from V1) (show Vw _ _ dd y2 cs2 from V2)
    have EY:∀{z:Value},(Go.binOp op t (a.eval x) (a.eval y)).run P w=.ok z w->(execOp a.eval o).run P w=.ok (.value z) w:=by
     intro z h
     have hg:=r2 x y op
     rw [<-B_, <-e2'] at hg
     simp only [execOp,ho,dO,hg,h,fU,fA]
    cases op with
    | eql=>
     rw [bz h5]
     refine fO H hd hdn (EY (z:=.bool (yh dd x1 y2)) ?_) (oN _) pG
     rw [B_,e2']
     simp only [Go.binOp,dO,r1,fU,fA]
    | neq=>
     rw [bz h5]
     refine fO H hd hdn (EY (z:=.bool (!yh dd x1 y2)) ?_) (oN _) pG
     rw [B_,e2']
     simp only [Go.binOp,dO,r1,fU,fA]
    | _=>exact h5.elim
   ·exact h5.elim
 ·obtain ⟨e,hu⟩:=hT.ptr t hp
  obtain ⟨p,q,e1,e2,hn,hb⟩:=amu h1 h3 hne
  have hag:(∀c,a.eval x≠.agg c)/\a.eval x≠.nilIface:=by rw [e1]; simp
  rcases hop with ⟨rfl,h5⟩ | ⟨rfl,h5⟩
  ·rw [bz h5]
   refine fO H hd hdn (hrun hag (z:=.bool b) ?_) (oN _) pG
   rw [e1,e2]
   simp only [Go.binOp,dO,ab1 hu hn,hb,fU,fA]
  ·rw [bz h5]
   refine fO H hd hdn (hrun hag (z:=.bool (!b)) ?_) (oN _) pG
   rw [e1,e2]
   simp only [Go.binOp,dO,ab1 hu hn,hb,fU,fA]
theorem ah3 (hT:fJ P T) (hSt:wT P T) (H:Rel cx Z J F a w) (hd:o.dst=some d) (hdn:d<cx.nt) {t t2:TypeId} {x y:Operand} {op:BinOp} (ho:o.op=.binOp op t x y t2)
  (h:(QE T t op x y fun v=>(.ret [Wr.s d v]:Prog (List Wr))).ends Z ws):dG P cx o a w (aC ws Z):=by
 unfold QE at h
 rcases bD h with ⟨hc,h⟩ | ⟨_,h⟩
 ·simp only [bg] at hc
  have ey:y=.const (.slice none 0 0):=by
   have:=hc.1
   unfold aaa at this
   split at this
   ·rfl
   ·simp at this
  have eop:op=.eql:=by
   have:=hc.2
   unfold Z_ at this
   split at this
   ·rfl
   ·simp at this
  subst ey eop
  obtain ⟨u,h1,hu1,h5⟩:=jT H h
  unfold aaQ at h5
  split at h5
  ·rename_i e kk hty
   obtain ⟨Fv,z,Tg,cs,g1,g2,g3,h6⟩:=En H h1 hu1 h5
   cases Fv with
   | sl e' Fv=>
    simp only at h6
    rw [bz h6]
    obtain ⟨p,n,c,rfl,g5,g6,g7⟩:=g2
    have ev:a.eval x=.slice p n c:=by
     have:=g1.cells
     obtain ⟨g8,g9⟩:=g1
     first
      | exact (List.cons.inj g8.symm).1
      | (simp only [jw,eX] at g8; exact g8.symm)
      | exact g8
    have hu:=(dn.sl (hT.ty t _ hty)).1
    have hag:(∀c,a.eval x≠.agg c)/\a.eval x≠.nilIface:=by rw [ev]; simp
    have hg:=ab0 (P:=P) (w:=w) (op:=.eql) (t:=t) (x:=x) (y:=.const (.slice none 0 0)) (v:=a.eval (.const (.slice none 0 0))) hag
    have hr:=anq (w:=w) hu p n c
    refine fO (v:=.bool p.isNone) H hd hdn ?_ (show aW cx Z J F w (.pz _) _ from ⟨_,rfl,fun hp=>?_⟩) trivial
    ·have e2:a.eval (.const (.slice none 0 0))=.slice none 0 0:=rfl
     have hr':(Go.binOp .eql t (a.eval x) (a.eval (.const (.slice none 0 0)))).run P w=.ok (.bool p.isNone) w:=by rw [ev,e2]; exact hr
     simp only [execOp,ho,dO,hg,hr',fU,fA]
    ·cases p with
     | some q=>simp at hp
     | none=>
      have hn:n=0:=by
       refine kN fun hne=>?_
       obtain ⟨b,o,e1,_⟩:=g7 (by omega)
       simp at e1
      have Ro:n=@List.length (El Fv) z:=g5
      rw [List.isEmpty_iff_length_eq_zero, <-Ro,hn]
   | _=>exact h6.elim
  ·exact h5.elim
 ·exact ah4 hT hSt H hd hdn ho h
end
end
section
open Go
variable [Fr]
section
variable {P:Program} {T:bH} {cx:Cx} {Z:St} {J:aH} {F:List Nat} {a:Act} {w:World} {o:Oper} {d:Nat} {ws:List Wr}
theorem FU {c:Call} {b:Builtin} (ho:o.op=.call c) (hb:c.callee=.builtin b):∃cs,(execOp a.eval o).run P w=(builtin b c.argTypes o.type cs (c.args.map a.eval)).run P w:=
 ⟨_,by simp only [execOp,ho,resolve,hb,dO,fA,fU,invoke]; rfl⟩
theorem dn.str {t:TypeId} (h:dn P T t .str):P.underlying t=some .string:=by
 unfold dn jO at h
 exact h.1
theorem uy (hT:fJ P T) {c:Call} {i:Nat} {k:K} (h:(c.argTypes[i]?).bind T.ty=some k):∃t,c.argTypes[i]?=some t/\dn P T t k:=by
 cases ht:c.argTypes[i]? with
 | none=>rw [ht] at h; simp at h
 | some t=>rw [ht] at h; exact ⟨t,rfl,hT.ty t k h⟩
theorem ab3 {ats:Array TypeId} {ty t:TypeId} {v:Value} {n:Nat} {args:Array Value} (ha:ats[0]?=some t) (hv:args[0]?=some v) (h:(P.underlying t=some .string/\∃B:ByteArray,v=.string B/\B.size=n)\/((∃e,P.underlying t=some (.slice e))/\∃b c,v=.slice b n c)) :
  (Builtin.len_ ats ty args).run P w=.ok (.int .i64 (n:Int)) w:=by
 unfold Builtin.len_
 simp only [ha,hv]
 rcases h with ⟨hu,B,rfl,rfl⟩ | ⟨⟨e,hu⟩,b,c,rfl⟩
 ·simp [iy hu,goInt]
 ·simp [iy hu,goInt]
theorem aii (hT:fJ P T) (H:Rel cx Z J F a w) (hd:o.dst=some d) (hdn:d<cx.nt) {c:Call} (ho:o.op=.call c) (hb:c.callee=.builtin .len)
  (h:(o8 c.args.toList fun
   | [.fG]=>match (c.argTypes[0]?).bind T.ty with
    | some (.sl _ _)=>(.ret [Wr.s d (.one (.val (.int .i64) 0 []))]:Prog (List Wr))
    | _=>.fail
   | [.val .str s _]=>match (c.argTypes[0]?).bind T.ty with
    | some .str=>.ret [Wr.s d (.one (.val (.int .i64) ((show List Int from s).length:Int) []))]
    | _=>.fail
   | [a]=>match (c.argTypes[0]?).bind T.ty with
    | some (.sl _ _)=>qw a fun kk x _=>match kk,x with
     | .sl _ kk,xs=>.ret [Wr.s d (.one (.val (.int .i64) ((show List (El kk) from xs).length:Int) []))]
     | _,_=>.fail
    | _=>.fail
   | _=>.fail).ends Z ws):dG P cx o a w (aC ws Z):=by
 obtain ⟨vs,h1,h2,h⟩:=xe H h
 have hfin:∀{t:TypeId} {n:Nat} {v:Value} {x:Operand},c.args.toList=[x]->c.argTypes[0]?=some t->a.eval x=v->((P.underlying t=some .string/\∃B:ByteArray,v=.string B/\B.size=n)\/((∃e,P.underlying t=some (.slice e))/\∃b c,v=.slice b n c))->
   dG P cx o a w (aC [Wr.s d (.one (.val (.int .i64) (n:Int) []))] Z):=by
  intro t n v x hx ht hv hs
  have ha:(c.args.map a.eval)[0]?=some v:=by
   rw [<-wD,wE,hx]
   simp [hv]
  refine fO H hd hdn ?_ (qj .i64 (n:=(n:Int)) trivial) pG
  obtain ⟨cc,hcc⟩:=FU (P:=P) (a:=a) (w:=w) ho hb
  rw [hcc]
  simp only [builtin,dO,ab3 (ty:=o.type) (w:=w) ht ha hs,fU,fA]
 have hone:∀{u:AV},vs=[u]->∃x,c.args.toList=[x]/\aW cx Z J F w u (a.eval x):=by
  intro u e
  subst e
  cases hl:c.args.toList with
  | nil=>rw [hl] at h1; exact h1.elim
  | cons x l=>
   rw [hl] at h1
   cases l with
   | nil=>exact ⟨x,rfl,h1.1⟩
   | cons y l=>exact h1.2.elim
 split at h
 ·obtain ⟨x,hx,hu⟩:=hone rfl
  split at h
  ·rename_i hty
   obtain ⟨t,ht,hk⟩:=uy hT hty
   rw [bz h]
   obtain ⟨b,e⟩:=hu
   exact hfin (n:=0) hx ht rfl (.inr ⟨⟨_,hk.sl.1⟩,b,0,e⟩)
  ·exact h.elim
 ·obtain ⟨x,hx,hu⟩:=hone rfl
  split at h
  ·rename_i hty
   obtain ⟨t,ht,hk⟩:=uy hT hty
   rw [bz h]
   obtain ⟨B,e1,e2⟩:=Au hu
   subst e2
   have e:(show List Int from bytesOf B).length=B.size:=zH B
   rw [e]
   exact hfin (n:=B.size) hx ht rfl (.inl ⟨hk.str,B,e1,rfl⟩)
  ·exact h.elim
 ·obtain ⟨x,hx,hu⟩:=hone rfl
  split at h
  ·rename_i hty
   obtain ⟨t,ht,hk⟩:=uy hT hty
   obtain ⟨kk,y,Tg,cs,g1,g2,g3,g4⟩:=En H hu (h2 _ (by simp)) h
   cases kk with
   | sl e kk=>
    rw [bz g4]
    obtain ⟨b,n,cc,f1,f2,f3,f4,f5⟩:=Df g1 g2
    have e:((@List.length (El kk) y:Nat):Int)=(n:Int):=by rw [f3]
    have e':(show List (El kk) from y).length=n:=f3.symm
    rw [e']
    exact hfin (n:=n) hx ht rfl (.inr ⟨⟨_,hk.sl.1⟩,b,cc,f1⟩)
   | _=>exact g4.elim
  ·exact h.elim
 ·exact h.elim
theorem XP (H:Rel cx Z J F a w) {r:Nat} {R:Root} (hr:aU Z r R) {b:Nat} (hb:b∈blk J R r) (hnb:¬nV cx b):bG cx Z J F w ((r,dS R.w) :: R.tags) b:=by
 have hm:=(H.roots r R hr).mine b hb
 refine ⟨hm.1,H.fB r R hr b hb,hnb,fun q Q hq hbq=>?_,fun h0=>?_⟩
 ·by_cases e:q=r
  ·subst e; exact ⟨dS R.w,by simp⟩
  ·exact absurd hb (H.lQ q Q r R hq hr e b hbq)
 ·rcases hm.2 with h | ⟨j,pi,h1,h2⟩
  ·omega
  ·exact .inr ⟨j,pi,h1,h2⟩
theorem ahy {A:Type} {z:A} (H:Rel cx Z J F a w):∀{l:List AV} {vs:List Value} {k:List (TypeId×Dat×List Tag)->Prog A},iN cx Z J F w l vs->(∀v∈l,dQ Z v)->(Et l k).ends Z z->
  ∃cs,nA cx Z J F w cs vs/\(∀c∈cs,gB Z c.2.2)/\(k cs).ends Z z:=by
 intro l
 induction l with
 | nil=>
  intro vs k h1 _ h
  cases vs with
  | nil=>exact ⟨[],trivial,by simp,h⟩
  | cons v vs=>exact h1.elim
 | cons x l ih=>
  intro vs k h1 h2 h
  cases vs with
  | nil=>exact h1.elim
  | cons v vs=>
   simp only [Et] at h
   rcases MC H h1.1 (h2 x (by simp)) h with ⟨r,R,p,dd,cs,b,q,hr,hv,hg,dh,hown,hn,e,h5⟩ | ⟨bt,dd,Tg,b,q,cs,hw,e,hcs,hV,hok,hb,h5⟩
   ·rcases bD h5 with ⟨_,h6⟩ | ⟨hne,h6⟩
    ·exact h6.elim
    ·obtain ⟨cs2,g1,g2,g3⟩:=ih h1.2 (fun v hv=>h2 v (by simp [hv])) h6
     obtain ⟨hC,⟨aX,hO,hf⟩,hbb,⟨arr,te,lo,hi,m1,m2,m3,m4⟩,_⟩:=xy H hr hv hg dh hown hn
     have hbase:iV R p=te/\¬nV cx b:=by
      rcases m4 with m4 | ⟨_,m4⟩
      ·exact m4
      ·rw [m4] at hne; simp at hne
     refine ⟨(iV R p,dd,(r,dS R.w) :: R.tags) :: cs2,⟨⟨⟨b,q,e⟩,fun _=>⟨b,q,cs,e,hC, ?_,(XP H hr hbb hbase.2).q, .inr ⟨.inl (by rw [hbase.1]; unfold jS; rw [m1]),hbase.2⟩⟩⟩,g1⟩, ?_,g3⟩
     ·exact qp _ (fun b hb=>CW hb (fun t ht=>by simp [ht])) (fun b hb=>XP H hr (bB _ (hf b hb)) (zU H hr (hf b hb))) hO
     ·intro c hc
      rcases bT.1 hc with h | h
      ·subst h
       intro t ht
       rcases bT.1 ht with h | h
       ·subst h; exact .inr ⟨R,hr.1, .inr (bN _)⟩
       ·exact (H.gy r R hr.1).1 t h
      ·exact g2 c h
   ·obtain ⟨cs2,g1,g2,g3⟩:=ih h1.2 (fun v hv=>h2 v (by simp [hv])) h5
    refine ⟨(bt,dd,Tg) :: cs2,⟨⟨⟨b,q,e⟩,fun _=>⟨b,q,cs,e,hcs,hV,hok,hb⟩⟩,g1⟩, ?_,g3⟩
    intro c hc
    rcases bT.1 hc with h | h
    ·subst h; exact hw
    ·exact g2 c h
theorem aim (H:Rel cx Z J F a w) (hd:o.dst=some d) (hdn:d<cx.nt) {f:Nat} {first caps:Array Operand} (ho:o.op=.makeFunc (.func f) first caps)
  (h:(bif first.isEmpty then o8 caps.toList fun l=>Et l fun cs=>.ret [Wr.s d (.one (.fn f cs))] else (.fail:Prog (List Wr))).ends Z ws):dG P cx o a w (aC ws Z):=by
 rcases bD h with ⟨he,h5⟩ | ⟨_,h5⟩
 ·obtain ⟨vs,h1,h2,h6⟩:=xe H h5
  obtain ⟨cs,g1,g2,g3⟩:=ahy H h1 h2 h6
  rw [bz g3]
  have hf:first=#[]:=by simpa using he
  refine fO (x:=.one (.fn f cs)) (v:=.func (.func f) #[] (caps.map a.eval)) H hd hdn ?_ ⟨(caps.map a.eval).toList,rfl,by rw [wE]; exact g1⟩ g2
  simp [execOp,ho,Instr.makeFunc,hf]
 ·exact h5.elim
end
end
section
open Go
variable [Fr]
section
variable {P:Program} {T:bH} {cx:Cx} {Z:St} {J:aH} {F:List Nat} {a:Act} {w:World} {o:Oper} {d:Nat} {ws:List Wr}
theorem JF {A:Type} {z:A} (H:Rel cx Z J F a w) {x:Option Operand} {k:Option Int->Prog A} (h:(uT x k).ends Z z) :
  ∃i:Option Int,(k i).ends Z z/\(i=none↔x=none)/\∀j,i=some j->∃ik,x.map a.eval=some (.int ik j):=by
 cases x with
 | none=>exact ⟨none,h,by simp,fun j hj=>by simp at hj⟩
 | some y=>
  simp only [uT] at h
  obtain ⟨v,h1,_,h⟩:=jT H h
  obtain ⟨ik,n,e,_,h⟩:=Im h1 h
  exact ⟨some n,h,by simp,fun j hj=>by simp only [au] at hj; subst hj; exact ⟨ik,by simp [e]⟩⟩
theorem abY {SS:Bool} {len cap:Nat} {lo hi:Option Int} {l h:Option Value} (hlc:len<=cap) (hl:lo=none->l=none) (hl':∀j,lo=some j->∃ik,l=some (.int ik j)) (hh:hi=none->h=none) (hh':∀j,hi=some j->∃ik,h=some (.int ik j))
  (h1:∀j,hi=some j->0<=j/\j<=(len:Int)) (h2:∀j,lo=some j->0<=j/\j<=hi.getD (len:Int)) :
  (Instr.sliceBounds SS len cap l h none).run P w=.ok ((lo.getD 0).toNat,(hi.getD (len:Int)).toNat,cap) w:=by
 unfold Instr.sliceBounds
 cases hi with
 | none=>
  rw [hh rfl]
  cases lo with
  | none=>rw [hl rfl]; simp
  | some j=>
   obtain ⟨ik,e⟩:=hl' j rfl
   obtain ⟨g1,g2⟩:=h2 j rfl
   simp only [D6] at g2
   rw [e]
   simp [Instr.sliceBound,asIntOf,g1,g2]
 | some i=>
  obtain ⟨ik,e⟩:=hh' i rfl
  obtain ⟨f1,f2⟩:=h1 i rfl
  have f3:i<=(cap:Int):=by omega
  rw [e]
  cases lo with
  | none=>rw [hl rfl]; simp [Instr.sliceBound,asIntOf,f1,f3]
  | some j=>
   obtain ⟨Nz,e2⟩:=hl' j rfl
   obtain ⟨g1,g2⟩:=h2 j rfl
   simp only [tq] at g2
   have g3:j<=max i 0:=by omega
   rw [e2]
   simp [Instr.sliceBound,asIntOf,f1,f3,g1]
   omega
theorem Xv {h:Heap} {ok:Nat->Prop} {e:TypeId} {k:K} {xs:List (El k)} {b:Option Addr} {n c l m:Nat} (H:Vw h ok (.sl e k) xs [.slice b n c]) (hl:l<=m) (hm:m<=n) :
  Vw h ok (.sl e k) (show List (El k) from (xs.take m).drop l) [.slice (if c=l then b else b.map (·.add (l * k.size))) (m - l) (c - l)]:=by
 obtain ⟨b',n',c',e1,e2,e3,e4⟩:=H
 simp only [jw,ou,eX] at e1
 obtain ⟨rfl,rfl,rfl⟩:=e1
 have hxl:xs.length=n:=e2.symm
 have hlen:((xs.take m).drop l).length=m - l:=by simp; omega
 refine ⟨_,_,_,rfl,hlen.symm,by omega,fun h0=>?_⟩
 obtain ⟨bb,q,rfl,hok,hel,hes⟩:=e4 (by omega)
 have hc:¬c=l:=by omega
 refine ⟨bb,q+l * k.size,by rw [aA hc]; simp [addr_add],hok,hel,fun i hi=>?_⟩
 have hi':i<((xs.take m).drop l).length:=hi
 obtain ⟨ds,h1,h2⟩:=hes (l+i) (by show l+i<xs.length; omega)
 refine ⟨ds, ?_, ?_⟩
 ·rw [nM, <-iR]
  exact h1
 ·have:(show List (El k) from (xs.take m).drop l)[i]'hi=xs[l+i]'(by omega):=by
   show ((xs.take m).drop l)[i]=_
   simp
  rw [this]
  exact h2
theorem ahv (B:ByteArray) (l m:Nat):bytesOf (B.extract l m)=((bytesOf B).take m).drop l:=by
 unfold bytesOf
 rw [<-List.map_take, <-List.map_drop]
 congr 1
 simp [ByteArray.data_extract,List.extract_eq_take_drop,List.drop_take]
def mo (lo:Option Int):Nat:=(lo.getD 0).toNat
def o_ (hi:Option Int) (n:Nat):Nat:=(hi.getD (n:Int)).toNat
theorem anw {t e:TypeId} {k:K} (ht:dn P T t (.sl e k)) {b:Option Addr} {n c:Nat} {lo hi:Option Int} {l h:Option Value} (hlc:n<=c) (hl:lo=none->l=none) (hl':∀j,lo=some j->∃ik,l=some (.int ik j)) (hh:hi=none->h=none) (hh':∀j,hi=some j->∃ik,h=some (.int ik j))
  (h1:∀j,hi=some j->0<=j/\j<=(n:Int)) (h2:∀j,lo=some j->0<=j/\j<=hi.getD (n:Int)) :
  (Instr.sliceAt t (.slice b n c) l h none).run P w=.ok (.slice (if c=mo lo then b else b.map (·.add (mo lo * k.size))) (o_ hi n - mo lo) (c - mo lo)) w:=by
 obtain ⟨hu,he,_,_⟩:=ht.sl
 unfold Instr.sliceAt Instr.slice
 simp only [dO,iy hu,Result.andThen,abY (SS:=true) (w:=w) hlc hl hl' hh hh' h1 h2,he.info.sizeOf w,fA]
 rfl
theorem anx {t:TypeId} (ht:dn P T t .str) {B:ByteArray} {lo hi:Option Int} {l h:Option Value} (hl:lo=none->l=none) (hl':∀j,lo=some j->∃ik,l=some (.int ik j)) (hh:hi=none->h=none) (hh':∀j,hi=some j->∃ik,h=some (.int ik j))
  (h1:∀j,hi=some j->0<=j/\j<=(B.size:Int)) (h2:∀j,lo=some j->0<=j/\j<=hi.getD (B.size:Int)) :
  (Instr.sliceAt t (.string B) l h none).run P w=.ok (.string (B.extract (mo lo) (o_ hi B.size))) w:=by
 have hu:=ht.str
 unfold Instr.sliceAt Instr.slice
 simp [dO,iy hu,Result.andThen,abY (SS:=false) (w:=w) (bN B.size) hl hl' hh hh' h1 h2,fA,mo,o_]
theorem SX {x:Option Operand} (h:isZero x=true):∃ik,x=some (.const (.int ik 0)):=by
 unfold isZero at h
 split at h
 ·exact ⟨_,rfl⟩
 ·simp at h
theorem aiv (hT:fJ P T) (H:Rel cx Z J F a w) (hd:o.dst=some d) (hdn:d<cx.nt) {t:TypeId} {x:Operand} {lo hi mx:Option Operand}
  (h:(match T.ty t with
   | some kk=>bif isZero lo && isZero hi && isZero mx then match kk with
     | .sl _ _=>eP x fun
      | .fG=>.ret [Wr.s d (.one .fG)]
      | a=>qw a fun k' _ _=>bif k'.beq kk then .ret [Wr.s d (.one .fG)] else .fail
     | _=>.fail
    else match mx with
     | none=>eP x fun a=>uT lo fun lo=>uT hi fun hi=>Uz kk a lo hi fun u=>.ret [Wr.s d (.one u)]
     | some _=>.fail
   | none=>(.fail:Prog (List Wr))).ends Z ws) (ho:o.op=.slice t x lo hi mx):dG P cx o a w (aC ws Z):=by
 cases hty:T.ty t with
 | none=>rw [hty] at h; exact h.elim
 | some kk=>
  rw [hty] at h
  have ht:=hT.ty t kk hty
  rcases bD h with ⟨hz,h5⟩ | ⟨_,h5⟩
  ·simp only [bg] at hz
   obtain ⟨Fb,rfl⟩:=SX hz.1.1
   obtain ⟨Nz,rfl⟩:=SX hz.1.2
   obtain ⟨ik3,rfl⟩:=SX hz.2
   cases kk with
   | sl e k=>
    obtain ⟨u,h1,h2,h6⟩:=jT H h5
    have hfin:(∃b n c,a.eval x=.slice b n c)->ws=[Wr.s d (.one .fG)]->dG P cx o a w (aC ws Z):=by
     rintro ⟨b,n,c,e⟩ hws
     rw [hws]
     obtain ⟨hu,he,_,_⟩:=ht.sl
     refine fO (x:=.one .fG) (v:=.slice b 0 0) H hd hdn ?_ ⟨b,rfl⟩ trivial
     have hcv:∀v,a.eval (.const v)=v:=fun _=>rfl
     simp [execOp,ho,e,Instr.sliceAt,Instr.slice,iy hu,Instr.sliceBounds,Instr.sliceBound,asIntOf,he.info.sizeOf w,hcv]
    cases u with
    | fG=>
     obtain ⟨b,e⟩:=h1
     exact hfin ⟨b,0,0,e⟩ (bz h6)
    | _=>
     obtain ⟨k',y,Tg,cs,g1,g2,g3,g4⟩:=En H h1 h2 h6
     rcases beq_true g4 with ⟨ek,g5⟩ | ⟨_,g5⟩
     ·subst ek
      obtain ⟨b,n,c,f1,_⟩:=Df g1 g2
      exact hfin ⟨b,n,c,f1⟩ (bz g5)
     ·exact g5.elim
   | _=>exact h5.elim
  ·cases mx with
   | some m=>exact h5.elim
   | none=>
    obtain ⟨u,h1,h2,h6⟩:=jT H h5
    obtain ⟨l,h7,l1,l2⟩:=JF H h6
    obtain ⟨m,h8,m1,m2⟩:=JF H h7
    have hl:l=none->lo.map a.eval=none:=fun e=>by rw [l1.1 e]; rfl
    have hm:m=none->hi.map a.eval=none:=fun e=>by rw [m1.1 e]; rfl
    have hstr:∀{s:List Int} {Tg:List Tag},u=.val .str s Tg->dG P cx o a w (aC ws Z):=by
     intro s Tg e
     subst e
     obtain ⟨B,e1,e2⟩:=Au h1
     subst e2
     simp only [Uz] at h8
     rcases bD h8 with ⟨_,h9⟩ | ⟨hk,h9⟩
     ·exact h9.elim
     ·have ek:kk=.str:=K.eq_of_beq (by simpa using hk)
      subst ek
      have hln:=zH B
      have hgo:∀{p:List Int},(∀j,m=some j->0<=j/\j<=(B.size:Int))->(∀j,l=some j->0<=j/\j<=m.getD (B.size:Int))->p=((bytesOf B).take (o_ m B.size)).drop (mo l)->ws=[Wr.s d (.one (.val .str p []))]->dG P cx o a w (aC ws Z):=by
       intro p g1 g2 hp hws
       rw [hws,hp]
       have hrun:=anx (w:=w) ht (B:=B) hl l2 hm m2 g1 g2
       refine fO (v:=.string (B.extract (mo l) (o_ m B.size))) H hd hdn ?_ ?_ (fun t ht=>by simp at ht)
       ·simp only [execOp,ho,e1,dO]
        rw [show (none:Option Operand).map a.eval=none from rfl,hrun]
        rfl
       ·rw [<-ahv]
        exact TE
      cases l with
      | none=>
       cases m with
       | none=>exact hgo (by simp) (by simp) (by simp [mo,o_, <-hln]) (bz h9)
       | some j=>
        obtain ⟨hc,h9⟩:=h9
        exact hgo (fun i hi=>by simp only [au] at hi; subst hi; rw [<-hln]; exact hc) (by simp) (by simp [mo,o_]) (bz h9)
      | some i=>
       cases m with
       | none=>
        obtain ⟨hc,h9⟩:=h9
        exact hgo (by simp) (fun i hi=>by simp only [au] at hi; subst hi; simp only [D6]; rw [<-hln]; exact hc) (by simp [mo,o_, <-hln]) (bz h9)
       | some j=>
        obtain ⟨hc,h9⟩:=h9
        have hc':0<=i/\i<=j/\j<=((bytesOf B).length:Int):=hc
        exact hgo (fun i' hi=>by simp only [au] at hi; subst hi; rw [<-hln]; exact ⟨by omega,hc'.2.2⟩) (fun i' hi=>by simp only [au] at hi; subst hi; exact ⟨hc'.1,hc'.2.1⟩) (by simp [mo,o_]) (bz h9)
    have hsl:(qw u fun k2 y Tg=>match k2,y with
      | .sl e k3,xs=>bif !kk.beq (.sl e k3) then .fail else
       match l,m with
       | none,none=>(.ret [Wr.s d (.one (.val (.sl e k3) xs Tg))]:Prog (List Wr))
       | some l,none=>.eY (0<=l/\l<=((show List (El k3) from xs).length:Int)) inferInstance (.ret [Wr.s d (.one (.val (.sl e k3) ((show List (El k3) from xs).drop l.toNat) Tg))])
       | none,some h=>.eY (0<=h/\h<=((show List (El k3) from xs).length:Int)) inferInstance (.ret [Wr.s d (.one (.val (.sl e k3) ((show List (El k3) from xs).take h.toNat) Tg))])
       | some l,some h=>.eY (0<=l/\l<=h/\h<=((show List (El k3) from xs).length:Int)) inferInstance (.ret [Wr.s d (.one (.val (.sl e k3) (((show List (El k3) from xs).take h.toNat).drop l.toNat) Tg))])
      | _,_=>.fail).ends Z ws->dG P cx o a w (aC ws Z):=by
     intro h9
     obtain ⟨k2,y,Tg,cs,g1,g2,g3,g4⟩:=En H h1 h2 h9
     cases k2 with
     | sl e k3=>
      simp only at g4
      rcases bD g4 with ⟨_,g5⟩ | ⟨hk,g5⟩
      ·exact g5.elim
      ·have ek:kk=.sl e k3:=K.eq_of_beq (by simpa using hk)
       subst ek
       have hln:(show List (El k3) from y).length=@List.length (El k3) y:=rfl
       obtain ⟨b,n,c,f1,f2,f3,f4,f5⟩:=Df g1 g2
       have hgo:∀{p:List (El k3)},(∀j,m=some j->0<=j/\j<=(n:Int))->(∀j,l=some j->0<=j/\j<=m.getD (n:Int))->p=((show List (El k3) from y).take (o_ m n)).drop (mo l)->ws=[Wr.s d (.one (.val (.sl e k3) p Tg))]->dG P cx o a w (aC ws Z):=by
        intro p q1 q2 hp hws
        rw [hws,hp]
        have hrun:=anw (w:=w) ht (b:=b) f4 hl l2 hm m2 q1 q2
        have hlm:mo l<=o_ m n/\o_ m n<=n:=by
         unfold mo o_
         cases l with
         | none=>
          cases m with
          | none=>simp
          | some j=>have:=q1 j rfl; simp; omega
         | some i=>
          have h3:=q2 i rfl
          cases m with
          | none=>simp at h3 ⊢; omega
          | some j=>have:=q1 j rfl; simp at h3 ⊢; omega
        have hV:=Xv (xs:=(show List (El k3) from y)) (by rw [f2] at g2; exact g2) hlm.1 hlm.2
        refine fO H hd hdn ?_ (show aW cx Z J F w (.val (.sl e k3) _ Tg) (.slice (if c=mo l then b else b.map (·.add (mo l * k3.size))) (o_ m n - mo l) (c - mo l)) from fun _=>⟨_,⟨rfl,by simp⟩,hV⟩) g3
        simp only [execOp,ho,f1,dO]
        rw [show (none:Option Operand).map a.eval=none from rfl,hrun]
        rfl
       have f3':((show List (El k3) from y).length:Int)=(n:Int):=by rw [f3]
       cases l with
       | none=>
        cases m with
        | none=>exact hgo (by simp) (by simp) (by simp only [mo,o_,D6,eD,Int.toNat_zero,DY]; rw [f3,rT]) (bz g5)
        | some j=>
         obtain ⟨hc,h9⟩:=g5
         exact hgo (fun i hi=>by simp only [au] at hi; subst hi; rw [<-f3']; exact hc) (by simp) (by simp [mo,o_]) (bz h9)
       | some i=>
        cases m with
        | none=>
         obtain ⟨hc,h9⟩:=g5
         exact hgo (by simp) (fun i hi=>by simp only [au] at hi; subst hi; simp only [D6]; rw [<-f3']; exact hc) (by simp only [mo,o_,D6,tq,eD]; rw [f3,rT]) (bz h9)
        | some j=>
         obtain ⟨hc,h9⟩:=g5
         have hc':0<=i/\i<=j/\j<=((show List (El k3) from y).length:Int):=hc
         exact hgo (fun i' hi=>by simp only [au] at hi; subst hi; rw [<-f3']; exact ⟨by omega,hc'.2.2⟩) (fun i' hi=>by simp only [au] at hi; subst hi; exact ⟨hc'.1,hc'.2.1⟩) (by simp [mo,o_]) (bz h9)
     | _=>exact g4.elim
    cases u with
    | val k1 s Tg=>
     cases k1 with
     | str=>exact hstr rfl
     | _=>exact hsl h8
    | _=>exact hsl h8
end
end
section
open Go
variable [Fr]
section
variable {cx:Cx} {Z:St} {J:aH} {F:List Nat} {a:Act} {w:World} {r:Nat} {R:Root}
theorem Rel.lose (H:Rel cx Z J F a w) (hr:aU Z r R) (hv:cB Z R) {l:List TypeId} (hl:l≠[]):∃J',Rel cx (aJ Z r (CR R l)) J' F a w:=by
 have K:=H.roots r R hr
 have hnt:=H.gy r R hr.1
 have hsub:∀t,aa t (fq R.own l)=true->aa t R.own=true:=fun t ht=>(qg.1 ht).1
 obtain ⟨nS,fd,hp1,hO⟩:=xU (own':=fq R.own l) (fun t _ h=>hsub t h) (K.ow hv)
 have hfo:∀b∈nS,b∈J.fo r:=fun b hb=>hp1.mem_iff.2 (bK _ hb)
 have Nb:∀b∈fd,b∈J.fo r:=fun b hb=>hp1.mem_iff.2 (bB _ hb)
 have hbk:∀b∈ji (CR R l) (J.loc r) nS,b∈blk J R r:=fun b hb=>by
  rw [jG]
  rcases bW.1 hb with h | h
  ·exact bK _ h
  ·exact bB _ (hfo b h)
 have hnd:=K.nd
 rw [jG] at hnd
 have Sj:(ji R (J.loc r) (nS++fd)).Nodup:=by
  have:(ji R (J.loc r) (J.fo r)).Perm (ji R (J.loc r) (nS++fd)):=vo _ hp1
  exact this.nodup_iff.1 hnd
 have ZA:(ji R (J.loc r) nS++fd).Nodup:=by
  have e:ji R (J.loc r) (nS++fd)=ji R (J.loc r) nS++fd:=by simp [ji,gD]
  rw [<-e]; exact Sj
 have T1:vE cx Z J F w r R (CR R l) nS F w l []:=by
  refine ⟨.inr ⟨rfl,rfl,bN _,rfl,fun _=>rfl, .inl hl⟩,⟨fun t ht=>hnt.1 t ht,fun n hn=>hnt.2.2 n hn⟩,⟨rfl,rfl,rfl⟩,bN _,fun b _ hne=>absurd rfl hne,fun _ b hb=>.inl (hbk b hb),fun b hb=>.inl hb,H.iq,fun _ b hb=>H.fB r R hr b (hbk b hb),fun _ _ _ _ _ _ _ _ hne=>absurd rfl hne,fun _=>⟨rfl,rfl⟩⟩
 have hcl0:∀tys,cO (aJ Z r (CR R l)) tys R.tags=cO Z tys R.tags:=fun tys=>wZ hnt.2.2
 refine ⟨aR J r (J.loc r) (J.hdr r) nS,T1.rel H hr (fun _=>⟨fun hvn=>?_,K.len,fun b o hb=>?_, ?_⟩) ?_ ?_⟩
 ·refine dY (fun _ _=>rfl) (fun b hb=>?_) (fun _ _=>rfl) hO
  have hblk:∀q Q,aU (aJ Z r (CR R l)) q Q->b∈blk (aR J r (J.loc r) (J.hdr r) nS) Q q->(q=r/\b∈ji R (J.loc r) nS)\/(q≠r/\aU Z q Q/\b∈blk J Q q):=by
   intro q Q hq hbq
   by_cases e:q=r
   ·subst e
    obtain ⟨rfl,_⟩:=pq hq
    rw [pR] at hbq
    exact .inl ⟨rfl,hbq⟩
   ·refine .inr ⟨e,(Ti e).1 hq, ?_⟩
    cases q8:Nat.beq q r with
    | true=>exact absurd (bC q8) e
    | false=>simpa [blk,aK,aR,upd,q8] using hbq
  rcases hb with hb | hb
  ·obtain ⟨g1,g2,g3,g4,g5⟩:=hb
   refine ⟨g1,g2,g3,fun q Q hq hbq=>?_,g5⟩
   rcases hblk q Q hq hbq with ⟨rfl,h⟩ | ⟨_,h1,h2⟩
   ·exact g4 q R hr (hbk b h)
   ·exact g4 q Q h1 h2
  ·have hbb:b∈blk J R r:=bB _ (Nb b hb)
   have hm:=K.mine b hbb
   refine ⟨hm.1,H.fB r R hr b hbb,zU H hr (Nb b hb),fun q Q hq hbq=>?_,fun h0=>?_⟩
   ·exfalso
    rcases hblk q Q hq hbq with ⟨rfl,h⟩ | ⟨h,h1,h2⟩
    ·exact (cK.1 ZA).2.2 b h b hb rfl
    ·exact H.lQ q Q r R h1 hr h b h2 hbb
   ·rcases hm.2 with h | ⟨j,pi,h1,h2⟩
    ·omega
    ·exact .inr ⟨j,pi,h1,h2⟩
 ·exact K.mem b o (by rw [Az]; exact hb)
 ·have:=ZA.sublist (List.sublist_append_left _ _)
  exact this
 ·intro _ p n v hn hold
  refine ⟨hold.1,fun Q hQ oL hcl hty hs=>?_⟩
  rw [fE] at hQ
  simp only [au] at hQ
  subst hQ
  obtain ⟨g1,cs,b,o,g2,g3⟩:=hold.2 R hr.1 hv hcl (fun t ht=>hsub t (hty t ht)) hs
  refine ⟨g1,cs,b,o, ?_,g3⟩
  have e1:(aR J r (J.loc r) (J.hdr r) nS).hdr r=J.hdr r:=by simp [aR,upd_same]
  have e2:aK (aR J r (J.loc r) (J.hdr r) nS) (CR R l) r=aK J R r:=by rw [wC,Az]; rfl
  rw [e1,e2]
  exact g2
 ·intro _ g v _ hold Q hQ hg
  obtain ⟨rfl,_⟩:=pq hQ
  obtain ⟨h1,h2⟩:=hold R hr hg
  refine ⟨h1, ?_⟩
  simp only [aR,upd_same]
  exact h2
theorem ama (H:Rel cx Z J F a w) (l:List TypeId) (r:Nat):∃J',Rel cx (Tq l r Z) J' F a w:=by
 unfold Tq
 split
 ·exact ⟨_,H⟩
 ·rename_i hl
  split
  ·rename_i R hR
   cases hc:R.bY || !cO Z R.qJ R.tags || !R.own.any (fun t=>aa t l) with
   | true=>exact ⟨_,H⟩
   | false=>
    simp only [AL,Bool.not_eq_false'] at hc
    exact H.lose (r:=r) (R:=R) ⟨hR,hc.1.1⟩ ⟨hc.1.1,hc.1.2⟩ (fun h=>hl h)
  ·exact ⟨_,H⟩
theorem Tt (hi:Hint):∀(rs:List Nat) {Z:St} {J:aH},Rel cx Z J F a w->∃J',Rel cx (CU hi rs Z) J' F a w
 | [],_,_,H=>⟨_,H⟩
 | r :: rs,_,_,H=>by
  obtain ⟨J',h⟩:=ama H (Ch (1000000+r) hi.less) r
  exact Tt hi rs h
end
end
section
open Go
variable [Fr]
section
variable {cx:Cx} {Z:St} {J:aH} {F:List Nat} {a:Act} {w:World} {r:Nat}
theorem abU (H:Rel cx Z J F a w) (hn:Z.roots r=none) (hx:gZ r=false) {e:TypeId} {k:K} {xs:List (El k)} {own:List TypeId} {tags:List Tag} {arr:Array Value} {lo hi n c:Nat} {ay:List (List Nat)} {F1:List Nat}
  (hwt:gB Z tags) (hown:aa e own=true) (hfr:jq arr.size lo hi) (hnx:n=xs.length) (hnc:n<=c) (hca:c * k.size<=arr.size)
  (hfl:ay.length=xs.length) (qC:∀b∈ay.flatten,b∈F) (yt:ay.flatten.Nodup) (hF1:∀b∈F1,b∈F/\b∉ay.flatten) (ajA:F1.Nodup)
  (hel:∀(i:Nat) (hi:i<xs.length),∃ds,ds.length=k.size/\(∀j,j<ds.length->arr[i * k.size+j]?=ds[j]?)/\Ow (hp w) own (fun b=>bG cx Z J F w tags b\/(b∈F/\b∉F1/\b∉ay.flatten)) k xs[i] ds (ay.getD i [])) (kp:Bool) (dr:Nat) :
  ∃J' F',Rel cx (aJ Z r (bL (.sl e k) xs own tags .anon kp)) J' F' a ((dw w dr).alloc (.cells arr e (lo,hi)))/\
   aW cx (aJ Z r (bL (.sl e k) xs own tags .anon kp)) J' F' ((dw w dr).alloc (.cells arr e (lo,hi))) (.ref r 0) (.slice (some ⟨w.heap.size,0,none⟩) n c):=by
 have H0:=H.drawn dr
 obtain ⟨H1,T1⟩:=H0.alloc (.cells arr e (lo,hi))
 have hsz:(dw w dr).heap.size=w.heap.size:=rfl
 have hnew:hp ((dw w dr).alloc (.cells arr e (lo,hi))) w.heap.size=some (.cells arr e (lo,hi)):=ET (dw w dr) _
 have hold:∀b,b<w.heap.size->hp ((dw w dr).alloc (.cells arr e (lo,hi))) b=hp w b:=fun b hb=>CE (dw w dr) _ hb
 have lJ:w.heap.size∉F:=fun h=>by have:=(H.fl _ h).1; omega
 have hv:bu own (.sl e k)=bu own k:=by simp [bu,hown]
 obtain ⟨J',k1,k2⟩:=Eh (k:=.sl e k) (x:=(xs:El (.sl e k))) (own:=own) (tags:=tags) (v:=.slice (some ⟨w.heap.size,0,none⟩) n c) (cs:=[.slice (some ⟨w.heap.size,0,none⟩) n c]) (fo:=w.heap.size :: ay.flatten) (r:=r) (F':=F1) H1 hn hx
  (fun b hb=>by
   rcases bT.1 hb with h | h
   ·subst h; exact jE
   ·exact jD _ (qC b h))
  (jg.2 ⟨fun h=>lJ (qC _ h),yt⟩) hwt
  (fun b hb=>⟨jD _ (hF1 b hb).1,fun h=>by
   rcases bT.1 h with h | h
   ·subst h; exact lJ (hF1 _ hb).1
   ·exact (hF1 b hb).2 h⟩) ajA rfl
  (fun hc=>by
   rw [hv] at hc
   obtain ⟨_,hV,_⟩:=T1.views H0 tags _ hwt hc
   unfold Ow
   rw [aj hown]
   refine ⟨_,_,_,rfl,hnx,hnc, .inr ⟨w.heap.size,0,arr,lo,hi,rfl,hnew,hfr,by omega,ay,hfl, .refl _,fun i hi=>?_⟩⟩
   obtain ⟨ds,h1,h2,h3⟩:=hel i hi
   refine ⟨ds,fun j hj=>?_, ?_⟩
   ·unfold cellAt
    rw [hnew]
    simp only [om]
    exact h2 j hj
   ·refine dY ?_ ?_ (fun b hb=>hold b (H.fl b (qC b (vW hb))).1) (tu _ (fun _ h=>h) h3)
    ·rintro b ⟨hb | ⟨hb,_⟩,_⟩
     ·exact hold b hb.1
     ·exact hold b (H.fl b hb).1
    ·rintro b ⟨hb | ⟨g1,g2,g3⟩,hty⟩
     ·exact .inl (hV b hb (.inl hty)).1
     ·refine .inr ⟨jD _ g1,g2,fun h=>?_⟩
      rcases bT.1 h with h | h
      ·subst h; exact lJ g1
      ·exact g3 h) ⟨rfl,by simp⟩ kp
 exact ⟨J',F1,k1,k2⟩
theorem Ud (H:Rel cx Z J F a w) (hn:Z.roots r=none) (hx:gZ r=false) {e:TypeId} {k:K} {xs:List (El k)} {own:List TypeId} {arr:Array Value} {lo hi n c:Nat}
  (hown:aa e own=true) (hfr:jq arr.size lo hi) (hnx:n=xs.length) (hnc:n<=c) (hca:c * k.size<=arr.size)
  (hel:∀(i:Nat) (hi:i<xs.length),∃ds,ds.length=k.size/\(∀j,j<ds.length->arr[i * k.size+j]?=ds[j]?)/\∀h ok,Ow h own ok k xs[i] ds []) (kp:Bool) (dr:Nat) :
  ∃J' F',Rel cx (aJ Z r (bL (.sl e k) xs own [] .anon kp)) J' F' a ((dw w dr).alloc (.cells arr e (lo,hi)))/\
   aW cx (aJ Z r (bL (.sl e k) xs own [] .anon kp)) J' F' ((dw w dr).alloc (.cells arr e (lo,hi))) (.ref r 0) (.slice (some ⟨w.heap.size,0,none⟩) n c):=by
 have hfl:(List.replicate xs.length ([]:List Nat)).flatten=[]:=by simp
 refine abU H hn hx (ay:=List.replicate xs.length []) (F1:=F) (fun t ht=>by simp at ht) hown hfr hnx hnc hca (by simp) (by rw [hfl]; simp) (by rw [hfl]; exact mJ) (by rw [hfl]; exact fun b hb=>⟨hb,by simp⟩) H.iq ?_ kp dr
 intro i hi
 obtain ⟨ds,h1,h2,h3⟩:=hel i hi
 refine ⟨ds,h1,h2, ?_⟩
 have:(List.replicate xs.length ([]:List Nat)).getD i []=[]:=by
  rw [oH (by simpa using hi)]; simp
 rw [this]
 exact h3 _ _
end
end
section
open Go
variable [Fr]
section
variable {P:Program} {T:bH} {cx:Cx} {Z:St} {J:aH} {F:List Nat} {a:Act} {w:World} {o:Oper} {d:Nat} {ws:List Wr}
theorem dn.int {t:TypeId} {ik:IntKind} (h:dn P T t (.int ik)):P.underlying t=some (.int ik):=by
 unfold dn jO at h
 exact h.1
theorem dn.und {t:TypeId} {k:K} (h:dn P T t k):∃u,P.underlying t=some u:=by
 unfold dn jO at h
 cases k with
 | int ik=>exact ⟨_,h.1⟩
 | bool=>exact ⟨_,h.1⟩
 | id e=>exact ⟨_,h.1⟩
 | str=>exact ⟨_,h.1⟩
 | sl e k=>exact ⟨_,h.1⟩
 | unit=>exact h.elim
 | pair a b=>exact h.elim
 | st c=>obtain ⟨⟨fs,h1,_⟩,_⟩:=h; exact ⟨_,h1⟩
 | gap n=>exact h.elim
theorem amZ (ns:List Int):∀(s:ByteArray),(∀n∈ns,0<=n/\n<256)->bytesOf (ns.foldl (fun r n=>r.push (UInt8.ofNat n.toNat)) s)=bytesOf s++ns:=by
 induction ns with
 | nil=>intro s _; simp
 | cons n ns ih=>
  intro s h
  rw [List.foldl_cons,ih _ (fun m hm=>h m (by simp [hm]))]
  have h1:=h n (by simp)
  have:bytesOf (s.push (UInt8.ofNat n.toNat))=bytesOf s++[n]:=by
   unfold bytesOf
   simp only [ByteArray.push,Array.toList_push,rQ,lD,List.map_nil]
   congr 2
   simp
   omega
  rw [this]
  simp
theorem ahr {h:Heap} {ok:Nat->Prop} {xs:List Int} {bb q:Nat} (hes:∀(i:Nat) (hi:i<xs.length),∃ds,Cells h bb (q+i * 1) ds/\Vw h ok (.int .u8) xs[i] ds) :
  Cells h bb q (xs.map (Value.int .u8))/\∀n∈xs,0<=n/\n<256:=by
 refine ⟨fun i hi=>?_,fun n hn=>?_⟩
 ·simp only [oQ] at hi
  obtain ⟨ds,h1,h2,_⟩:=hes i hi
  have:=h1 0 (by rw [h2]; simp)
  rw [h2] at this
  simp only [pK,Nat.mul_one,qO] at this
  rw [this]
  simp [hi]
 ·obtain ⟨i,hi,rfl⟩:=sZ.1 hn
  obtain ⟨ds,_,_,h3⟩:=hes i hi
  exact h3
theorem ah_ (hT:fJ P T) (H:Rel cx Z J F a w) (hd:o.dst=some d) (hdn:d<cx.nt) {s t:TypeId} {x:Operand} (ho:o.op=.convert s t x)
  (h:(eP x fun a=>QW T d s t a fun ws=>(.ret ws:Prog (List Wr))).ends Z ws):dG P cx o a w (aC ws Z):=by
 obtain ⟨u,h1,h2,h5⟩:=jT H h
 have hrun:∀{v:Value} {w':World},(convert s t (a.eval x)).run P w=.ok v w'->(execOp a.eval o).run P w=.ok (.value v) w':=by
  intro v w' h
  simp only [execOp,ho,dO,h,fU,fA]
 have hstr:∀{B:ByteArray},(convert s t (a.eval x)).run P w=.ok (.string B) w->dG P cx o a w (aC [Wr.s d (v1 .str (bytesOf B))] Z):=by
  intro B hr
  exact fO H hd hdn (hrun hr) (show aW cx Z J F w (.val .str (bytesOf B) []) _ from TE) pG
 unfold QW at h5
 cases hs:T.ty s with
 | none=>rw [hs] at h5; exact h5.elim
 | some ks=>
  have hks:=hT.ty s ks hs
  cases ht:T.ty t with
  | none=>rw [hs,ht] at h5; cases ks <;> exact h5.elim
  | some kt=>
   have hkt:=hT.ty t kt ht
   rw [hs,ht] at h5
   obtain ⟨us,hus⟩:=hks.und
   cases kt with
   | int ik=>
    have h6:(match u with
     | .val (.int _) n _=>(.ret [Wr.s d (v1 (.int ik) (ik.wrap n))]:Prog (List Wr))
     | _=>.fail).ends Z ws:=by cases ks <;> exact h5
    split at h6
    ·obtain ⟨e1,e2⟩:=Ar h1
     rw [bz h6]
     refine fO H hd hdn (hrun ?_) (qj ik (uV _ _)) pG
     rw [e1]
     unfold convert
     simp only [dO,iy hus,iy hkt.int,Result.andThen]
     rfl
    ·exact h6.elim
   | str=>
    cases ks with
    | str=>
     simp only at h5
     split at h5
     ·obtain ⟨B,e1,e2⟩:=Au h1
      subst e2
      rw [bz h5]
      refine hstr ?_
      rw [e1]
      unfold convert
      simp only [dO,iy hks.str,iy hkt.str,Result.andThen]
      rfl
     ·exact h5.elim
    | sl e k1=>
     cases k1 with
     | int Fb=>
      cases Fb with
      | u8=>
       obtain ⟨hu,he,_,_⟩:=hks.sl
       have hgo:∀{b:Option Addr} {n c:Nat} {xs:List Int},a.eval x=.slice b n c->n=xs.length->(0<n->∃bb q,b=some ⟨bb,q,none⟩/\∀(i:Nat) (hi:i<xs.length),∃ds,Cells (hp w) bb (q+i * 1) ds/\Vw (hp w) (fun _=>True) (.int .u8) xs[i] ds)->
         ws=[Wr.s d (v1 .str xs)]->dG P cx o a w (aC ws Z):=by
        intro b n c xs e hn hes hws
        have hcv:(convert s t (a.eval x)).run P w=(Conv.bytesToString (.slice b n c)).run P w:=by
         rw [e]
         unfold convert
         simp only [dO,iy hu,iy hkt.str,iy he.int,Result.andThen]
        cases b with
        | none=>
         have hx0:xs=[]:=by
          cases xs with
          | nil=>rfl
          | cons y ys=>
           obtain ⟨bb,q,h0,_⟩:=hes (by rw [hn]; simp)
           simp at h0
         subst hx0
         rw [hws]
         exact hstr (B:=ByteArray.empty) (hcv.trans rfl)
        | some ad=>
         by_cases h0:0<n
         ·obtain ⟨bb,q,e0,hes'⟩:=hes h0
          simp only [au] at e0
          subst e0
          obtain ⟨g1,g2⟩:=ahr hes'
          have hl:(loadCells ⟨bb,q,none⟩ n).run P w=.ok (xs.map (Value.int .u8)).toArray w:=by
           have:=run_loadCells_list (P:=P) w ⟨bb,q,none⟩ (xs.map (Value.int .u8)) (fun j v hj=>by
            rw [addr_add,zI,g1 j (qm.1 hj).1]
            exact hj)
           simpa [hn] using this
          have hb:=run_bytesToString w ⟨bb,q,none⟩ n c xs hl
          have hbe:=amZ xs ByteArray.empty g2
          have:xs=bytesOf (xs.foldl (fun r n=>r.push (UInt8.ofNat n.toNat)) ByteArray.empty):=by rw [hbe]; rfl
          rw [hws,this]
          exact hstr (hcv.trans hb)
         ·have hx0:xs=[]:=sW (by omega)
          subst hx0
          have hn0:n=0:=by omega
          subst hn0
          have hl:(loadCells ad 0).run P w=.ok (([]:List Int).map (Value.int .u8)).toArray w:=rfl
          have hb:=run_bytesToString w ad 0 c [] hl
          rw [hws]
          exact hstr (B:=ByteArray.empty) (hcv.trans hb)
       cases u with
       | fG=>
        obtain ⟨b,e⟩:=h1
        exact hgo (xs:=[]) e rfl (fun h=>by omega) (bz h5)
       | _=>
        obtain ⟨k',y,Tg,cs,g1,g2,g3,g4⟩:=En H h1 h2 h5
        cases k' with
        | sl e' k2=>
         cases k2 with
         | int Nz=>
          cases Nz with
          | u8=>
           obtain ⟨b,n,c,f1,f2,f3,f4,f5⟩:=Df g1 g2
           refine hgo (xs:=y) f1 f3 (fun h0=>?_) (bz g4)
           obtain ⟨bb,q,e0,_,_,hes⟩:=f5 h0
           exact ⟨bb,q,e0,fun i hi=>by
            obtain ⟨ds,m1,m2⟩:=hes i hi
            exact ⟨ds,m1,m2⟩⟩
          | _=>exact g4.elim
         | _=>exact g4.elim
        | _=>exact g4.elim
      | _=>exact h5.elim
     | _=>exact h5.elim
    | _=>exact h5.elim
   | sl e k1=>
    cases ks with
    | str=>
     cases k1 with
     | int Fb=>
      cases Fb with
      | u8=>
       simp only at h5
       split at h5
       ·obtain ⟨B,e1,e2⟩:=Au h1
        subst e2
        obtain ⟨g1,g2⟩:=p9 h5
        rw [bz g2]
        obtain ⟨hu,he,_,_⟩:=hkt.sl
        have hr:=run_bytes_of_string w s t e B hks.str hu he.int
        have hcap:=grownCap_ge w B.size 0 e
        have hsz:(bytesRow B (grownCap w B.size 0 e)).size=grownCap w B.size 0 e:=by
         simp [bytesRow]
         show B.data.size+_=_
         have:B.data.size=B.size:=rfl
         omega
        obtain ⟨J',F',r1,r2⟩:=Ud (r:=aG d 0) (e:=e) (k:=.int .u8) (xs:=bytesOf B) (own:=[e]) (arr:=bytesRow B (grownCap w B.size 0 e)) (lo:=(bytesRow B (grownCap w B.size 0 e)).size) (hi:=(bytesRow B (grownCap w B.size 0 e)).size+1) (n:=B.size) (c:=grownCap w B.size 0 e) H g1 (qb d 0)
         (by simp [aa]) ⟨by omega,fun i hi=>by omega⟩ (zH B).symm hcap (by simp [K.size,hsz])
         (fun i hi=>by
          have hi':i<B.size:=by rw [<-zH B]; exact hi
          refine ⟨[Value.int .u8 (bytesOf B)[i]],rfl,fun j hj=>?_,fun h ok=>⟨rfl,rfl, ?_⟩⟩
          ·simp only [jN] at hj
           have hj0:j=0:=by omega
           subst hj0
           have hid:i<B.data.size:=hi'
           simp only [K.size,Nat.mul_one,pK,qO]
           unfold bytesRow
           rw [OA (by simpa using hid)]
           simp [bytesOf]
           exact ⟨B.data[i],Array.getElem?_eq_getElem hid,rfl⟩
          ·have:=(bytesOf B)[i]
           have hm:(bytesOf B)[i]∈bytesOf B:=jY hi
           unfold bytesOf at hm
           obtain ⟨y,_,hy⟩:=fI.1 hm
           show (0:Int)<=(bytesOf B)[i]/\(bytesOf B)[i]<256
           have hy':(y.toNat:Int)=(bytesOf B)[i]:=hy
           rw [<-hy']
           have:=y.toNat_lt
           omega) false (w.drawn+1)
        exact o7 (x:=.one (.ref (aG d 0) 0)) r1 hd hdn (hrun (by rw [e1]; exact hr)) r2 ⟨_,fE .., .inr (fT _)⟩
       ·exact h5.elim
      | _=>exact h5.elim
     | _=>exact h5.elim
    | _=>
     cases k1 with
     | int Fb=>cases Fb <;> exact h5.elim
     | _=>exact h5.elim
   | _=>cases ks <;> exact h5.elim
end
end
section
open Go
variable [Fr]
section
variable {P:Program} {T:bH} {cx:Cx} {Z:St} {J:aH} {F:List Nat} {a:Act} {w:World} {o:Oper} {d:Nat} {ws:List Wr}
theorem Ga {k:K} (h:(∀a b,k≠.pair a b)/\k≠.unit/\∀n,k≠.gap n):(jC k).cells=(dR k).toArray:=by
 have:=(acS h.1 h.2.1 h.2.2).cells
 apply u6
 simpa using this
theorem amb {z:Array Value} {n j:Nat} (h:j<n) (hz:0<z.size):(madeCells z n)[j]?=z[j % z.size]?:=by
 unfold madeCells
 have:j % z.size<z.size:=Nat.mod_lt _ hz
 simp [h,this]
theorem ain (hT:fJ P T) (H:Rel cx Z J F a w) (hd:o.dst=some d) (hdn:d<cx.nt) {t:TypeId} {x y:Operand}
  (h:(match T.ty t with
   | some (.sl e kk)=>eP x fun a=>eP y fun b=>asInt a fun ik i=>asInt b fun jk j=>bif uN ik .i64 && uN jk .i64 then
     .eY (i=j/\0<=i/\i * T.bytes e<=140737488355328) inferInstance (kT (aG d 0)
      (.ret [Wr.r (aG d 0) (some (bL (.sl e kk) (List.replicate i.toNat kk.zero) (e :: kk.tys) [] .anon)),Wr.s d (.one (.ref (aG d 0) 0))]))
    else (.fail:Prog (List Wr))
   | _=>.fail).ends Z ws) (ho:o.op=.makeSlice t x y):dG P cx o a w (aC ws Z):=by
 cases hty:T.ty t with
 | none=>rw [hty] at h; exact h.elim
 | some k0=>
  rw [hty] at h
  cases k0 with
  | sl e kk=>
   have ht:=hT.ty t _ hty
   simp only at h
   obtain ⟨u,h1,_,h2⟩:=jT H h
   obtain ⟨v,h3,_,h4⟩:=jT H h2
   obtain ⟨ik,i,e1,_,h5⟩:=Im h1 h4
   obtain ⟨jk,j,e2,_,h6⟩:=Im h3 h5
   rcases bD h6 with ⟨_,h7⟩ | ⟨_,h7⟩
   ·obtain ⟨⟨hij,h0,hb⟩,h8⟩:=h7
    obtain ⟨g1,g2⟩:=p9 h8
    rw [bz g2]
    obtain ⟨hu,he,hk,ii,hi,hby,hpos⟩:=ht.sl
    obtain ⟨i',hi',hs',hz'⟩:=he.info
    rw [hi] at hi'
    simp only [au] at hi'
    subst hi'
    obtain ⟨n,rfl⟩:∃n:Nat,i=n:=⟨i.toNat,by omega⟩
    subst hij
    have hbn:n * T.bytes e<=140737488355328:=by
     have:((n * T.bytes e:Nat):Int)<=140737488355328:=by simpa using hb
     omega
    have hn:n<=140737488355328:=by
     have:n * 1<=n * T.bytes e:=Nat.mul_le_mul_left _ (by omega)
     omega
    have hbi:(ii.bytes:Int) * (n:Int)<=281474976710656:=by
     rw [hby]
     have:((T.bytes e * n:Nat):Int)<=281474976710656:=by rw [Nat.mul_comm]; omega
     simpa using this
    have hr:=run_make (P:=P) w t e ii (jC kk) hu hi hz' ik jk (n:Int) (n:Int) (by omega) (Bo _) hbi (by omega)
    simp only [eD,hs'] at hr
    have hsh:=he.shape
    have hzc:=Ga hsh
    have Jf:∀h ok,Ow h (e :: kk.tys) ok kk kk.zero (dR kk) []:=fun h ok=>Kg he.fV (fun t ht=>b_.2 (by simp [ht]))
    have hzl:(dR kk).length=kk.size:=fM (Jf (hp w) (fun _=>True))
    have hms:(madeCells (jC kk).cells (n * kk.size)).size=n * kk.size:=by simp [madeCells]
    obtain ⟨J',F',r1,r2⟩:=Ud (r:=aG d 0) (e:=e) (k:=kk) (xs:=List.replicate n kk.zero) (own:=e :: kk.tys) (arr:=madeCells (jC kk).cells (n * kk.size)) (lo:=0) (hi:=0) (n:=n) (c:=n) H g1 (qb d 0)
     (b_.2 (by simp)) jq.zero (by simp) (bN _) (by rw [hms]; exact bN _)
     (fun i hi=>by
      have hi':i<n:=by simpa using hi
      refine ⟨dR kk,hzl,fun j hj=>?_,fun h ok=>?_⟩
      ·have hlt:i * kk.size+j<n * kk.size:=by
        have:(i+1) * kk.size<=n * kk.size:=kD _ (by omega)
        rw [iR,m_] at this
        omega
       rw [amb hlt (by rw [hzc]; simp; omega),hzc]
       simp only [D5,hzl,List.getElem?_toArray]
       congr 1
       rw [Nat.mul_comm,Nat.mul_add_mod]
       exact Nat.mod_eq_of_lt (by omega)
      ·have:(List.replicate n kk.zero)[i]'hi=kk.zero:=by simp
       rw [this]
       exact Jf h ok) false w.drawn
    refine o7 (x:=.one (.ref (aG d 0) 0)) r1 hd hdn ?_ r2 ⟨_,fE .., .inr (fT _)⟩
    simp only [execOp,ho,e1,e2,dO,hr,fU,fA]
    rfl
   ·exact h7.elim
  | _=>exact h.elim
end
end
section
open Go
variable [Fr]
section
variable {P:Program} {T:bH} {cx:Cx} {Z:St} {J:aH} {F:List Nat} {a:Act} {w:World} {o:Oper} {d:Nat} {ws:List Wr}
def mm2 (mx:Bool):Value->Value->Sem Value:=if mx then Builtin.max2 else Builtin.min2
theorem amk {A:Type} {z:A} {mx:Bool} {ik:IntKind} {k:Int->Prog A}:∀{l:List AV} {vs:List Value} {x:Int},iN cx Z J F w l vs->mG ik x->(FB mx ik x l k).ends Z z->
  ∃y,(vs.foldlM (mm2 mx) (.int ik x)).run P w=.ok (.int ik y) w/\mG ik y/\(k y).ends Z z:=by
 intro l
 induction l with
 | nil=>
  intro vs x h1 hr h
  cases vs with
  | nil=>exact ⟨x,rfl,hr,h⟩
  | cons v vs=>exact h1.elim
 | cons u l ih=>
  intro vs x h1 hr h
  cases vs with
  | nil=>exact h1.elim
  | cons v vs=>
   cases u with
   | val k1 y Tg=>
    cases k1 with
    | int jk=>
     simp only [FB] at h
     rcases bD h with ⟨hk,h5⟩ | ⟨_,h5⟩
     ·have:=Jh hk
      subst this
      obtain ⟨e1,e2⟩:=Ar h1.1
      subst e1
      have hr':mG ik (if mx=true then (if (show Int from y)>x then y else x) else (if (show Int from y)<x then y else x)):=by
       split <;> split <;> assumption
      obtain ⟨y',g1,g2,g3⟩:=ih h1.2 hr' h5
      refine ⟨y', ?_,g2,g3⟩
      rw [List.foldlM_cons,dO]
      have hstep:(mm2 mx (.int ik x) (.int ik y)).run P w=.ok (.int ik (if mx=true then (if (show Int from y)>x then y else x) else (if (show Int from y)<x then y else x))) w:=by
       cases mx <;> rfl
      rw [hstep]
      exact g1
     ·exact h5.elim
    | _=>exact h.elim
   | _=>exact h.elim
theorem Yo (H:Rel cx Z J F a w) (hd:o.dst=some d) (hdn:d<cx.nt) {c:Call} {mx:Bool} (ho:o.op=.call c) (hb:c.callee=.builtin (if mx then .max else .min))
  (h:(o8 c.args.toList fun
   | .val (.int ik) x _ :: l=>FB mx ik x l fun z=>.ret [Wr.s d (.one (.val (.int ik) z []))]
   | _=>(.fail:Prog (List Wr))).ends Z ws):dG P cx o a w (aC ws Z):=by
 obtain ⟨vs,h1,h2,h5⟩:=xe H h
 split at h5
 ·rename_i ik x Tg l
  cases hl:c.args.toList with
  | nil=>rw [hl] at h1; exact h1.elim
  | cons y l'=>
   rw [hl] at h1
   obtain ⟨e1,e2⟩:=Ar h1.1
   obtain ⟨z,g1,g2,g3⟩:=amk (P:=P) (w:=w) h1.2 e2 h5
   rw [bz g3]
   refine fO (v:=.int ik z) H hd hdn ?_ (TD g2) (fun t ht=>by simp at ht)
   obtain ⟨cc,hcc⟩:=FU (P:=P) (a:=a) (w:=w) ho hb
   rw [hcc]
   have hargs:(c.args.map a.eval).toList=.int ik x :: l'.map a.eval:=by rw [wE,hl,lD,e1]
   cases mx with
   | true=>
    have g1':(List.foldlM Builtin.max2 (Value.int ik x) (l'.map a.eval)).run P w=.ok (.int ik z) w:=g1
    simp only [a_,builtin,Builtin.max_,hargs,dO,g1',fU,fA]
   | false=>
    have g1':(List.foldlM Builtin.min2 (Value.int ik x) (l'.map a.eval)).run P w=.ok (.int ik z) w:=g1
    simp only [bJ,bF,builtin,Builtin.min_,hargs,dO,g1',fU,fA]
 ·exact h5.elim
end
end
section
open Go
variable [Fr]
theorem fold_at:∀(vs:List Value) (k off:Nat) (cells:Array Value),off+k+vs.length<=cells.size->
  ((vs.zipIdx k).foldl (fun cs (p:Value×Nat)=>cs.setIfInBounds (off+p.2) p.1) cells).size=cells.size/\
  ∀i,((vs.zipIdx k).foldl (fun cs (p:Value×Nat)=>cs.setIfInBounds (off+p.2) p.1) cells)[i]?=if off+k<=i/\i<off+k+vs.length then vs[i - (off+k)]? else cells[i]?:=by
 intro vs
 induction vs with
 | nil=>intro k off cells h; exact ⟨rfl,fun i=>by simp; omega⟩
 | cons v vs ih=>
  intro k off cells h
  simp only [gY] at h
  simp only [List.zipIdx_cons,List.foldl_cons]
  obtain ⟨g1,g2⟩:=ih (k+1) off (cells.setIfInBounds (off+k) v) (by simp; omega)
  refine ⟨by rw [g1]; simp,fun i=>?_⟩
  rw [g2 i]
  simp only [gY]
  by_cases h1:off+(k+1)<=i/\i<off+(k+1)+vs.length
  ·rw [aj h1,aj (by omega)]
   have:i - (off+k)=(i - (off+(k+1)))+1:=by omega
   rw [this,Xe]
  ·rw [aA h1]
   by_cases h2:i=off+k
   ·subst h2
    rw [aj (by omega),U4 (by omega),H7]
    rfl
   ·rw [aA (by omega),U3 (by omega)]
theorem aji (vs:List Value) (off:Nat) (cells:Array Value) (h:off+vs.length<=cells.size) :
  (vs.zipIdx.foldl (fun cs (p:Value×Nat)=>cs.setIfInBounds (off+p.2) p.1) cells)=(cells.toList.take off++(vs++cells.toList.drop (off+vs.length))).toArray:=by
 obtain ⟨g1,g2⟩:=fold_at vs 0 off cells (by omega)
 apply Array.ext_getElem?
 intro i
 rw [g2 i]
 simp only [pK,List.getElem?_toArray]
 by_cases h1:i<off
 ·rw [aA (by omega),y9 (by simp; omega),Mc h1]
  simp
 ·by_cases h2:i<off+vs.length
  ·rw [aj (by omega),xQ (by simp; omega),y9 (by simp; omega)]
   congr 1
   simp
   omega
  ·rw [aA (by omega),xQ (by simp; omega),xQ (by simp; omega),Bw]
   rw [wD]
   congr 1
   simp
   omega
theorem Re {place:Nat->Option (Nat×Nat)} {cells:Array Value} {i off:Nat} {v:Value} {vs:List Value} {rest:List (Nat×Value)} (hp:place i=some (off,vs.length)) (hv:v.cells=vs.toArray) (hl:off+vs.length<=cells.size) :
  Instr.fill place cells ((i,v) :: rest)=Instr.fill place (cells.toList.take off++(vs++cells.toList.drop (off+vs.length))).toArray rest:=by
 rw [<-aji vs off cells hl]
 conv=>lhs; unfold Instr.fill
 rw [hp]
 simp only [hv,D5,ne_eq,not_true_eq_false,d_,Gd,dH]
 rw [aA (by omega)]
 simp
def wY:List (Nat×eU)->xE->Option xE
 | [],b=>some b
 | (n,tk) :: l,b=>match b.k,b.x with
  | .st c,x=>match aS n c x with
   | some d=>bif tk.k.beq d.1 then
     match dF n c x ⟨tk.k,tk.x⟩ with
     | some z=>wY l { k:=.st z.1,x:=z.2,bad:=tk.bad++b.bad,tags:=lM tk.iP b.tags,ws:=b.ws++tk.ws,keep:=tk.keep || b.keep,all:=tk.tags++b.all }
     | none=>none
    else none
   | none=>none
  | _,_=>none
section
variable {P:Program} {T:bH} {cx:Cx} {Z:St} {J:aH} {F:List Nat} {a:Act} {w:World}
theorem XW {A:Type} {z:A} (H:Rel cx Z J F a w) {k:xE->Prog A}:∀{l:List (Nat×AV)} {vs:List Value} {b:xE},iN cx Z J F w (l.map (·.2)) vs->(∀v∈l,dQ Z v.2)->(BQ l b k).ends Z z->
  ∃(tks:List eU) (b':xE),tks.length=l.length/\vs.length=l.length/\(∀it∈vs.zip tks,rX cx Z J F w it.1 it.2)/\wY ((l.map (·.1)).zip tks) b=some b'/\(k b').ends Z z:=by
 intro l
 induction l with
 | nil=>
  intro vs b h1 _ h
  cases vs with
  | nil=>exact ⟨[],b,rfl,rfl,by simp,rfl,h⟩
  | cons v vs=>exact h1.elim
 | cons p l ih=>
  obtain ⟨n,x⟩:=p
  intro vs b h1 h2 h
  cases vs with
  | nil=>exact h1.elim
  | cons v vs=>
   obtain ⟨bk,bx,ahe,ahp,bws,ahk,ahd⟩:=b
   cases bk with
   | st c=>
    simp only [BQ] at h
    cases hg:aS n c bx with
    | none=>rw [hg] at h; exact h.elim
    | some d=>
     rw [hg] at h
     simp only at h
     obtain ⟨tk,htk,h5⟩:=Ap H h1.1 (h2 (n,x) (by simp)) h
     rcases bD h5 with ⟨hk,h6⟩ | ⟨_,h6⟩
     ·cases hp:dF n c bx ⟨tk.k,tk.x⟩ with
      | none=>rw [hp] at h6; exact h6.elim
      | some zz=>
       rw [hp] at h6
       obtain ⟨tks,b',g1,g2,g3,g4,g5⟩:=ih h1.2 (fun v hv=>h2 v (by simp [hv])) h6
       refine ⟨tk :: tks,b',by simp [g1],by simp [g2], ?_, ?_,g5⟩
       ·intro it hit
        rw [BF] at hit
        rcases bT.1 hit with h | h
        ·subst h; exact htk
        ·exact g3 it h
       ·rw [lD,BF]
        unfold wY
        simp only [hg,hk,gJ,hp]
        exact g4
     ·exact h6.elim
   | _=>exact h.elim
end
end
section
open Go
variable [Fr]
def zh (h:Heap) (own:List TypeId) (ok:Nat->Prop):List (Nat×eU)->List Value->List (List Nat)->Prop
 | [],[],[]=>True
 | p :: l,v :: vs,ft :: iG=>(∃cs,VC p.2.k v cs/\Ow h own ok p.2.k p.2.x cs ft)/\zh h own ok l vs iG
 | _,_,_=>False
theorem XU {h:Heap} {own:List TypeId} {ok:Nat->Prop} {place:Nat->Option (Nat×Nat)} {c:K} (hpl:∀n off k,bO n c=some (off,k)->place n=some (off,k.size)) :
  ∀(l:List (Nat×eU)) {vs:List Value} {iG:List (List Nat)} {x:El c} {cs:List Value} {fo:List Nat} {bad:List TypeId} {tags:List Tag} {ws:List Wr} {kp:Bool} {all:List Tag} {b':xE},
   Ow h own ok c x cs fo->zh h own ok l vs iG->wY l ⟨.st c,x,bad,tags,ws,kp,all⟩=some b'->
   ∃(x':El c) (cs':List Value) (aF rest:List Nat) (bad':List TypeId) (tags':List Tag) (ws':List Wr) (kp':Bool) (all':List Tag),b'=⟨.st c,x',bad',tags',ws',kp',all'⟩/\Ow h own ok c x' cs' aF/\(fo++iG.flatten).Perm (aF++rest)/\
    Instr.fill place cs.toArray ((l.map (·.1)).zip vs)=some cs'.toArray:=by
 intro l
 induction l with
 | nil=>
  intro vs iG x cs fo bad tags ws kp all b' H hP hb
  cases vs with
  | nil=>
   cases iG with
   | nil=>
    simp only [wY,au] at hb
    exact ⟨x,cs,fo,[],bad,tags,ws,kp,all,hb.symm,H,by simp,rfl⟩
   | cons f fs=>exact hP.elim
  | cons v vs=>cases iG <;> exact hP.elim
 | cons p l ih=>
  obtain ⟨n,tk⟩:=p
  intro vs iG x cs fo bad tags ws kp all b' H hP hb
  cases vs with
  | nil=>cases iG <;> exact hP.elim
  | cons v vs=>
   cases iG with
   | nil=>exact hP.elim
   | cons ft iG=>
    obtain ⟨⟨cst,hv,hO⟩,hP'⟩:=hP
    unfold wY at hb
    simp only at hb
    cases hg:aS n c x with
    | none=>rw [hg] at hb; simp at hb
    | some d=>
     rw [hg] at hb
     simp only at hb
     cases hk:tk.k.beq d.1 with
     | false=>rw [hk] at hb; simp at hb
     | true=>
      rw [hk] at hb
      simp only [gJ] at hb
      cases hp:dF n c x ⟨tk.k,tk.x⟩ with
      | none=>rw [hp] at hb; simp at hb
      | some z=>
       rw [hp] at hb
       simp only at hb
       have ek:=K.eq_of_beq hk
       have ez:=Yc n hg hp ek
       obtain ⟨off,pre,cs1,post,aX,fr,ho,ec,hl,hpf,hd,hu,_⟩:=MP n H hg
       have r:=hu h ok ⟨tk.k,tk.x⟩ cst ft z hp hO (fun b hb=>⟨hb,rfl⟩) (fun _ _=>rfl)
       obtain ⟨zk,zx⟩:=z
       simp only at ez
       subst ez
       obtain ⟨x',cs',aF,rest,bad',tags',ws',kp',all',g1,g2,g3,g4⟩:=ih r hP' hb
       refine ⟨x',cs',aF,aX++rest,bad',tags',ws',kp',all',g1,g2, ?_, ?_⟩
       ·simp only [lV]
        have s1:(fo++(ft++iG.flatten)).Perm ((aX++fr)++(ft++iG.flatten)):=sU _ hpf
        have s2:((aX++fr)++(ft++iG.flatten)).Perm (aX++((ft++fr)++iG.flatten)):=by
         rw [gD]
         refine vo _ ?_
         rw [<-gD]
         exact sU _ BB
        exact s1.trans (s2.trans ((vo _ g3).trans FL))
       ·rw [lD,BF]
        have hcl:cst.length=d.1.size:=by rw [fM hO,ek]
        have kF:v.cells=cst.toArray:=by
         have:=hv.cells
         apply u6
         simpa using this
        rw [Re (off:=off) (vs:=cst) (by rw [hcl]; exact hpl n off d.1 ho) kF (by rw [ec]; simp; have:=fM hd; omega)]
        have e2:(cs.toArray.toList.take off++(cst++cs.toArray.toList.drop (off+cst.length)))=pre++(cst++post):=by
         have hd1:=fM hd
         simp only
         rw [ec, <-hl]
         simp [hcl, <-hd1]
        rw [e2]
        exact g4
end
section
open Go
variable [Fr]
theorem XV:∀(l:List (Nat×eU)) {b b':xE},wY l b=some b'->
  b'.ws=b.ws++l.flatMap (fun p=>p.2.ws)/\(∀p∈l,∀t∈p.2.tags,t∈b'.all)/\(∀t∈b.all,t∈b'.all)/\(∀p∈l,∀t∈p.2.bad,t∈b'.bad)/\(∀t∈b.bad,t∈b'.bad)/\
  (∀p∈l,∀t∈p.2.iP,t∈b'.tags)/\(∀t∈b.tags,t∈b'.tags)/\(∀t∈b'.tags,t∈b.tags\/∃p∈l,t∈p.2.iP):=by
 intro l
 induction l with
 | nil=>
  intro b b' h
  simp only [wY,au] at h
  subst h
  simp
 | cons p l ih=>
  obtain ⟨n,tk⟩:=p
  intro b b' h
  obtain ⟨bk,bx,ahe,ahp,bws,ahk,ahd⟩:=b
  cases bk with
  | st c=>
   unfold wY at h
   simp only at h
   cases hg:aS n c bx with
   | none=>rw [hg] at h; simp at h
   | some d=>
    rw [hg] at h
    simp only at h
    cases hk:tk.k.beq d.1 with
    | false=>rw [hk] at h; simp at h
    | true=>
     rw [hk] at h
     simp only [gJ] at h
     cases hp:dF n c bx ⟨tk.k,tk.x⟩ with
     | none=>rw [hp] at h; simp at h
     | some z=>
      rw [hp] at h
      simp only at h
      obtain ⟨g1,g2,g3,g4,g5,g6,g7,g8⟩:=ih h
      refine ⟨by rw [g1]; simp, ?_,fun t ht=>g3 t (by simp [ht]), ?_,fun t ht=>g5 t (by simp [ht]), ?_,fun t ht=>g7 t (mD.2 (.inr ht)), ?_⟩
      ·intro p hp t ht
       rcases bT.1 hp with h | h
       ·subst h; exact g3 t (by simp [ht])
       ·exact g2 p h t ht
      ·intro p hp t ht
       rcases bT.1 hp with h | h
       ·subst h; exact g5 t (by simp [ht])
       ·exact g4 p h t ht
      ·intro p hp t ht
       rcases bT.1 hp with h | h
       ·subst h; exact g7 t (mD.2 (.inl ht))
       ·exact g6 p h t ht
      ·intro t ht
       rcases g8 t ht with h | ⟨p,h1,h2⟩
       ·rcases mD.1 h with h | h
        ·exact .inr ⟨(n,tk),by simp,h⟩
        ·exact .inl h
       ·exact .inr ⟨p,by simp [h1],h2⟩
  | _=>simp [wY] at h
theorem zh.mono {h:Heap} {own:List TypeId} {ok ok':Nat->Prop} (hk:∀b,ok b->ok' b):∀{l:List (Nat×eU)} {vs:List Value} {iG:List (List Nat)},zh h own ok l vs iG->zh h own ok' l vs iG
 | [],[],[],_=>trivial
 | _ :: _,_ :: _,_ :: _,hP=>⟨by obtain ⟨cs,h1,h2⟩:=hP.1; exact ⟨cs,h1,dY (fun _ _=>rfl) hk (fun _ _=>rfl) h2⟩,zh.mono hk hP.2⟩
 | [],[],_ :: _,hP=>hP.elim
 | [],_ :: _,_,hP=>hP.elim
 | _ :: _,[],_,hP=>hP.elim
 | _ :: _,_ :: _,[],hP=>hP.elim
section
variable {cx:Cx} {Z:St} {J:aH} {F:List Nat} {w:World}
theorem TQ {own':List TypeId} {T:List Tag}:∀(items:List (Nat×Value×eU)) {hs:List (List Value×List Nat)},vg cx Z J F w (items.map (·.2)) hs->(∀it∈items,∀t∈it.2.2.bad,aa t own'=false)->(∀it∈items,∀t∈it.2.2.iP,t∈T)->
  ∃(iG:List (List Nat)) (pX:List Nat),(hs.flatMap (·.2)).Perm (iG.flatten++pX)/\zh (hp w) own' (fun b=>bG cx Z J F w T b\/b∈pX) (items.map fun p=>(p.1,p.2.2)) (items.map (·.2.1)) iG:=by
 intro items
 induction items with
 | nil=>
  intro hs h _ _
  cases hs with
  | nil=>exact ⟨[],[],by simp,trivial⟩
  | cons _ _=>exact h.elim
 | cons it items ih=>
  obtain ⟨n,v,tk⟩:=it
  intro hs h hbad htag
  cases hs with
  | nil=>exact h.elim
  | cons hd hs=>
   obtain ⟨cs,fo⟩:=hd
   obtain ⟨⟨h1,h2,h3⟩,h4⟩:=h
   obtain ⟨iG,pX,g1,g2⟩:=ih h4 (fun it hit=>hbad it (by simp [hit])) (fun it hit=>htag it (by simp [hit]))
   have hO:=h2.ow h3
   have hO2:Ow (hp w) tk.own (fun b=>bG cx Z J F w T b) tk.k tk.x cs fo:=by
    cases hb:tk.bad with
    | nil=>exact j5 hb hO
    | cons t0 l=>
     have e:tk.iP=tk.tags:=by unfold eU.iP; rw [hb]
     exact dY (fun _ _=>rfl) (fun b hb=>CW hb (fun t ht=>htag (n,v,tk) (by simp) t (by show t∈tk.iP; rw [e]; exact ht))) (fun _ _=>rfl) hO
   obtain ⟨ft,jH,p1,p2⟩:=xU (own':=own') (fun t ht hm=>by
    rcases Ke (own:=tk.own) ht with h | h
    ·have:=hbad (n,v,tk) (by simp) t h
     rw [hm] at this
     simp at this
    ·exact h) hO2
   refine ⟨ft :: iG,jH++pX, ?_,⟨cs,h1,dY (fun _ _=>rfl) (fun b hb=>?_) (fun _ _=>rfl) p2⟩,g2.mono (fun b hb=>?_)⟩
   ·simp only [kQ,lV]
    refine (p1.append g1).trans ?_
    simp only [gD]
    refine vo _ ?_
    exact FL
   ·rcases hb with hb | hb
    ·exact .inl hb
    ·exact .inr (by simp [hb])
   ·rcases hb with hb | hb
    ·exact .inl hb
    ·exact .inr (by simp [hb])
end
end
section
open Go
variable [Fr]
theorem amU {P:Program} {T:bH}:∀{c:K} {fs:List Field} {vY:Nat},(jO P T c).2 fs vY->
  ∃places,fs.mapM (fun f=>(P.info? f.type).map fun i=>(f.offset,i.size))=some places/\∀n off k,bO n c=some (off,k)->places[n]?=some (vY+off,k.size):=by
 intro c
 induction c with
 | unit=>
  intro fs vY h
  have h':fs=[]:=h
  subst h'
  exact ⟨[],rfl,fun n off k ho=>by cases n <;> simp [bO] at ho⟩
 | pair a b iha ihb=>
  intro fs vY h
  cases fs with
  | nil=>exact h.elim
  | cons f fs=>
   obtain ⟨h1,h2,h3,h4⟩:=h
   obtain ⟨pl,g1,g2⟩:=ihb h4
   obtain ⟨i,i1,i2,_⟩:=dn.info (show dn P T f.type a from h2)
   refine ⟨(vY,a.size) :: pl, ?_, ?_⟩
   ·rw [Me,i1,g1]
    simp [h1,i2]
   ·intro n off k ho
    cases n with
    | zero=>
     simp only [bO,au,bS] at ho
     obtain ⟨rfl,rfl⟩:=ho
     rfl
    | succ n=>
     simp only [bO] at ho
     cases h5:bO n b with
     | none=>rw [h5] at ho; simp at ho
     | some q=>
      rw [h5] at ho
      simp only [au,bS] at ho
      rw [Xe,g2 n q.1 q.2 (by rw [h5]), <-ho.1, <-ho.2]
      congr 2
      omega
 | _=>intro fs vY h; exact h.elim
theorem QI {P:Program} {T:bH} {t:TypeId} {c:K} (ht:dn P T t (.st c)):∃place:Nat->Option (Nat×Nat),(∀n off k,bO n c=some (off,k)->place n=some (off,k.size))/\
  ∀parts,P.built t parts=Instr.fill place (dR c).toArray parts:=by
 obtain ⟨fs,hu,hf⟩:=ht.st
 obtain ⟨i,i1,i2,i3⟩:=ht.info
 obtain ⟨pl,g1,g2⟩:=amU hf
 refine ⟨(pl.toArray[·]?),fun n off k ho=>?_,fun parts=>?_⟩
 ·have:=g2 n off k ho
  simpa using this
 ·unfold Program.built
  rw [i1,hu]
  simp only [i3,g1]
  rfl
theorem Dl {h:Heap} {own:List TypeId} {ok:Nat->Prop}:∀{k:K},fV k=true->Ow h own ok k k.zero (dR k) []:=by
 intro k
 induction k with
 | int ik=>intro _; exact ⟨rfl,rfl,by cases ik <;> simp [mG,K.zero]⟩
 | bool=>intro _; exact ⟨rfl,rfl⟩
 | id e=>intro _; exact ⟨rfl,by show _=[Fr.bI 0]; rw [Fr.SI]; rfl⟩
 | str=>intro _; exact ⟨rfl,ByteArray.empty,rfl,rfl⟩
 | sl e k ih=>intro _; exact FC
 | unit=>intro _; exact ⟨rfl,rfl⟩
 | pair a b iha ihb=>
  intro hg
  simp [fV] at hg
  exact ⟨dR a,dR b,[],[],rfl, .refl _,iha hg.1,ihb hg.2⟩
 | st f ih=>intro hg; exact ih hg
 | gap n=>intro hg; simp [fV] at hg
theorem UJ {cx:Cx} {Z:St} {J:aH} {F:List Nat} {w:World} {r:Nat} (hn:Z.roots r=none):∀{l:List (Value×eU)},(∀it∈l,rX cx Z J F w it.1 it.2)->r∉(fu l).flatMap Wr.eT:=by
 intro l h hm
 simp only [fu,jZ] at hm
 obtain ⟨wr,⟨it,hit,hw⟩,hr⟩:=hm
 cases h it hit with
 | held hws cs hv hh hc=>rw [hws] at hw; simp at hw
 | ref q R hlr hv e hk hd=>
  rw [e] at hw
  simp only [gI] at hw
  subst hw
  simp only [Wr.eT,gI] at hr
  rw [hr,hlr.1] at hn
  simp at hn
 | cut q R cs hlr hv hk e hd hl uh how=>
  rw [e.2.2.1] at hw
  simp only [gI] at hw
  subst hw
  simp only [Wr.eT,gI] at hr
  rw [hr,hlr.1] at hn
  simp at hn
 | gap q R p dd z hlr hv hg hz dh hown hpv e hnn=>
  rw [e] at hw
  simp only [gI] at hw
  subst hw
  simp only [Wr.eT,gI] at hr
  rw [hr,hlr.1] at hn
  simp at hn
theorem UZ:∀(ns:List Nat) (vs:List Value) (ts:List eU),ns.length=ts.length->vs.length=ts.length->
  ((ns.zip (vs.zip ts)).map (·.2)=vs.zip ts)/\((ns.zip (vs.zip ts)).map (fun p=>(p.1,p.2.2))=ns.zip ts)/\((ns.zip (vs.zip ts)).map (·.2.1)=vs)/\(fu (vs.zip ts)=(ns.zip ts).flatMap (fun p=>p.2.ws)):=by
 intro ns
 induction ns with
 | nil=>
  intro vs ts h1 h2
  cases ts with
  | nil=>cases vs with
   | nil=>exact ⟨rfl,rfl,rfl,rfl⟩
   | cons _ _=>simp at h2
  | cons _ _=>simp at h1
 | cons n ns ih=>
  intro vs ts h1 h2
  cases ts with
  | nil=>simp at h1
  | cons t ts=>
   cases vs with
   | nil=>simp at h2
   | cons v vs=>
    obtain ⟨g1,g2,g3,g4⟩:=ih vs ts (by simpa using h1) (by simpa using h2)
    refine ⟨by simp [g1],by simp [g2],by simp [g3], ?_⟩
    unfold fu at g4 ⊢
    simp [g4]
end
section
open Go
variable [Fr]
section
variable {P:Program} {T:bH} {cx:Cx} {Z:St} {J:aH} {F:List Nat} {a:Act} {w:World} {o:Oper} {d:Nat} {ws:List Wr}
theorem M9:∀{l:List (Value×eU)} {hs:List (List Value×List Nat)},vg cx Z J F w l hs->∀b∈hs.flatMap (·.2),b∈F
 | [],[],_,b,hb=>by simp at hb
 | _ :: _,hd :: hs,h,b,hb=>by
  simp only [kQ,bW] at hb
  rcases hb with hb | hb
  ·exact h.1.2.1.sub b hb
  ·exact M9 h.2 b hb
 | [],_ :: _,h,_,_=>h.elim
 | _ :: _,[],h,_,_=>h.elim
theorem M_:∀{l:List (Value×eU)} {hs:List (List Value×List Nat)},vg cx Z J F w l hs->∀it∈l,gB Z it.2.tags
 | [],[],_,it,hi=>by simp at hi
 | _ :: _,hd :: hs,h,it,hi=>by
  rcases bT.1 hi with hi | hi
  ·subst hi; exact h.1.2.1.wt
  ·exact M_ h.2 it hi
 | [],_ :: _,h,_,_=>h.elim
 | _ :: _,[],h,_,_=>h.elim
theorem Yn (hT:fJ P T) (H:Rel cx Z J F a w) (hd:o.dst=some d) (hdn:d<cx.nt) {t:TypeId} {ps:Array (Nat×Operand)}
  (h:(match T.ty t with
   | some (.st c)=>xg ps.toList fun l=>BQ l ⟨.st c,(K.st c).zero,[],[],[],false,[]⟩ fun b=>bif !sO b.ws b.all then .fail else bif b.k.tys.all fun t=>aa t b.bad then
     .ret (b.ws++[Wr.s d (.one (.val b.k b.x b.tags))])
    else kT (aG d 0) (.ret (b.ws++[Wr.r (aG d 0) (some (bL b.k b.x (fq b.k.tys b.bad) b.tags .anon b.keep)),Wr.s d (.one (.ref (aG d 0) 0))]))
   | _=>(.fail:Prog (List Wr))).ends Z ws) (ho:o.op=.build t ps):dG P cx o a w (aC ws Z):=by
 cases hty:T.ty t with
 | none=>rw [hty] at h; exact h.elim
 | some k0=>
  rw [hty] at h
  cases k0 with
  | st c=>
   have ht:=hT.ty t _ hty
   simp only at h
   obtain ⟨vs,e1,h1,h2,h3⟩:=Q_ H h
   obtain ⟨tks,b',l1,l2,sD,zX,h4⟩:=XW H h1 h2 h3
   have hlen:vs.length=tks.length:=l1.symm
   have I7:(vs.map (·.1)).length=tks.length:=by rw [oQ]; exact hlen
   have CJ:((evs a ps.toList).map (·.2)).length=tks.length:=by rw [l2]; exact hlen
   generalize hns:vs.map (·.1)=ns at *
   generalize hvv:(evs a ps.toList).map (·.2)=vals at *
   obtain ⟨z1,z2,z3,z4⟩:=UZ ns vals tks I7 CJ
   obtain ⟨f1,f2,f3,f4,f5,f6,f7,f8⟩:=XV _ zX
   simp only [rR] at f1
   rcases bD h4 with ⟨_,h5⟩ | ⟨hws,h5⟩
   ·exact h5.elim
   ·have q9:sO b'.ws b'.all=true:=by simpa using hws
    unfold sO at q9
    simp only [bg] at q9
    have hw1:=Il.1 q9.1
    have hw2:=MF.1 q9.2
    rw [f1, <-z4] at hw1 hw2
    obtain ⟨J',F',hs,H',hA,hnd,hnF,RA,hS,_⟩:=takes (vals.zip tks) H sD hw1 (fun tg eZ=>hw2 tg (by
     obtain ⟨it,hit,h6⟩:=jZ.1 eZ
     have:it∈(ns.zip (vals.zip tks)).map (·.2):=by rw [z1]; exact hit
     obtain ⟨q,hq,rfl⟩:=fI.1 this
     exact f2 (q.1,q.2.2) (by rw [<-z2]; exact fI.2 ⟨q,hq,rfl⟩) tg h6))
    have zV:=hA
    rw [<-z1] at hA
    obtain ⟨iG,pX,p1,p2⟩:=TQ (own':=fq (K.st c).tys b'.bad) (T:=b'.tags) (ns.zip (vals.zip tks)) hA
     (fun it hit tg eZ=>by
      cases hm:aa tg (fq (K.st c).tys b'.bad) with
      | false=>rfl
      | true=>exact absurd (f4 (it.1,it.2.2) (by rw [<-z2]; exact fI.2 ⟨it,hit,rfl⟩) tg eZ) (qg.1 hm).2)
     (fun it hit tg eZ=>f6 (it.1,it.2.2) (by rw [<-z2]; exact fI.2 ⟨it,hit,rfl⟩) tg eZ)
    rw [z2,z3,z1] at p2
    obtain ⟨place,q1,q2⟩:=QI ht
    obtain ⟨x',cs',aF,rest,bad',tags',AB,kp',all',r1,r2,r3,r4⟩:=XU q1 (ns.zip tks) (x:=(K.st c).zero) (cs:=dR c) (fo:=[]) (Dl (k:=c) ht.fV) p2 zX
    subst r1
    simp only at q9 f1 f2 f3 f4 f5 f6 f7 f8 h5 p2 r2 r3
    have hzn:(ns.zip tks).map (·.1)=ns:=by rw [List.map_fst_zip (by omega)]
    have hparts:((ps.map fun (p:Nat×Operand)=>(p.1,a.eval p.2)).toList)=ns.zip vals:=by
     rw [wE, <-hvv,e1]
     have:∀l:List (Nat×Operand),l.map (fun p=>(p.1,a.eval p.2))=(l.map (·.1)).zip ((evs a l).map (·.2)):=by
      intro l
      induction l with
      | nil=>rfl
      | cons p l ih=>simp [evs] at ih ⊢; exact ih
     exact this _
    have hrun:(execOp a.eval o).run P w=.ok (.value (.agg cs'.toArray)) w:=by
     have hb:=run_build (P:=P) w t (ps.map fun (p:Nat×Operand)=>(p.1,a.eval p.2)) cs'.toArray (by rw [hparts,q2, <-r4,hzn])
     simp only [execOp,ho,dO,hb,fU,fA]
    have hperm:(hs.flatMap (·.2)).Perm (aF++(rest++pX)):=by
     refine p1.trans ?_
     rw [<-gD]
     exact sU _ (by simpa using r3)
    have jI:=hperm.nodup hnd
    have hin:∀b∈hs.flatMap (·.2),b∈F':=M9 zV
    have uM:∀b∈aF,b∈F':=fun b hb=>hin b (hperm.mem_iff.2 (by simp [hb]))
    have EL:∀b∈pX,b∈F'/\b∉aF:=fun b hb=>⟨hin b (hperm.mem_iff.2 (by simp [hb])),fun h=>(cK.1 jI).2.2 b h b (by simp [hb]) rfl⟩
    have hV:VC (.st c) (.agg cs'.toArray) cs':=rfl
    have hwt:gB (aC (fu (vals.zip tks)) Z) tags':=by
     intro tg eZ
     rcases f8 tg eZ with h | ⟨q,hq,hq2⟩
     ·simp at h
     ·rw [<-z2] at hq
      obtain ⟨it,hit,rfl⟩:=fI.1 hq
      have hit2:it.2∈vals.zip tks:=by rw [<-z1]; exact fI.2 ⟨it,hit,rfl⟩
      exact F3 (M_ zV it.2 hit2) tg hq2
    have E_:AB=fu (vals.zip tks):=by rw [f1,z4]
    rcases bD h5 with ⟨hall,h6⟩ | ⟨_,h6⟩
    ·rw [bz h6]
     have hnone:∀tg∈c.tys,aa tg (fq (K.st c).tys bad')=false:=by
      intro tg eZ
      cases hm:aa tg (fq (K.st c).tys bad') with
      | false=>rfl
      | true=>
       have:=eH.1 hall tg eZ
       exact absurd (b_.1 this) (qg.1 hm).2
     have vT:aF=[]:=by
      cases hf:aF with
      | nil=>rfl
      | cons b l=>
       obtain ⟨e,g1,g2,_⟩:=zb (k:=c) r2 b (by rw [hf]; simp)
       rw [hnone e g1] at g2
       simp at g2
     have T2:=Fz (w':=w) (F':=F'.filter fun b=>!aa b pX) H' ⟨rfl,rfl,rfl⟩ (bN _) (fun _ _ h=>absurd rfl h) (fun b hb=>.inl (eF.1 hb).1) (H'.iq.filter _)
     have H2:=H'.mem T2
     have hok:∀b,(bG cx (aC (fu (vals.zip tks)) Z) J' F' w tags' b\/b∈pX)->bG cx (aC (fu (vals.zip tks)) Z) J' (F'.filter fun b=>!aa b pX) w tags' b:=by
      rintro b (hb | hb)
      ·exact ⟨hb.1,fun h=>hb.2.1 (eF.1 h).1,hb.2.2⟩
      ·have lJ:=(EL b hb).1
       have hm:=H'.fl b lJ
       refine ⟨hm.1,fun h=>?_,A7 H' lJ,fun q Q hq hbq=>absurd lJ (H'.fB q Q hq b hbq),fun h0=>?_⟩
       ·have:=(eF.1 h).2
        simp only [lC,gT] at this
        exact this hb
       ·rcases hm.2 with h | ⟨j,pi,h1,h2⟩
        ·omega
        ·exact .inr ⟨j,pi,h1,h2⟩
     have hVw:=qp (k:=.st c) _ hok (fun b hb=>by rw [vT] at hb; simp at hb) r2
     rw [E_,oD]
     exact o7 (x:=.one (.val (.st c) x' tags')) H2 hd hdn hrun (show aW cx _ J' _ w (.val (.st c) x' tags') _ from fun _=>⟨cs',hV,hVw⟩) hwt
    ·obtain ⟨g1,g2⟩:=p9 h6
     rw [bz g2]
     have hnr:=UJ g1 sD
     have hn1:(aC (fu (vals.zip tks)) Z).roots (aG d 0)=none:=by rw [(hS _ hnr).root]; exact g1
     obtain ⟨ku,k1,k2⟩:=Eh (k:=.st c) (x:=x') (own:=fq (K.st c).tys bad') (tags:=tags') (v:=.agg cs'.toArray) (cs:=cs') (fo:=aF) (r:=aG d 0) (F':=F'.filter fun b=>!aa b (aF++pX)) H' hn1 (qb d 0)
      uM (cK.1 jI).1 hwt (fun b hb=>by
       rw [eF] at hb
       have:=hb.2
       simp only [lC,gT,bW,not_or] at this
       exact ⟨hb.1,this.1⟩) (H'.iq.filter _) (fM (k:=c) r2)
      (fun _=>dY (k:=.st c) (fun _ _=>rfl) (fun b hb=>by
       rcases hb with hb | hb
       ·exact .inl hb
       ·refine .inr ⟨(EL b hb).1,fun h=>?_,(EL b hb).2⟩
        rw [eF] at h
        have:=h.2
        simp only [lC,gT,bW,not_or] at this
        exact this.2 hb) (fun _ _=>rfl) r2) hV kp'
     rw [E_,oD]
     exact o7 (x:=.one (.ref (aG d 0) 0)) k1 hd hdn hrun k2 ⟨_,fE .., .inr (fT _)⟩
  | _=>exact h.elim
theorem Tp:∀(ws:List Wr) (Z:St) (n:Nat),(aC ws Z).slots n=(Af ws n).getD (Z.slots n)
 | [],_,_=>rfl
 | .s m x :: ws,Z,n=>by
  show (aC ws ((Wr.s m x).app Z)).slots n=_
  rw [Tp ws]
  simp only [Af]
  cases Af ws n with
  | some b=>rfl
  | none=>
   show upd Z.slots m x n=Option.getD (bif Nat.beq n m then some x else none) (Z.slots n)
   unfold upd
   cases Nat.beq n m <;> rfl
 | .r m q :: ws,Z,n=>by
  show (aC ws ((Wr.r m q).app Z)).slots n=_
  rw [Tp ws]
  simp only [Af]
  cases q <;> rfl
theorem Tm:∀(ws:List Wr) (Z:St) (n:Nat),(aC ws Z).roots n=(CS ws n).getD (Z.roots n)
 | [],_,_=>rfl
 | .s m x :: ws,Z,n=>by
  show (aC ws ((Wr.s m x).app Z)).roots n=_
  rw [Tm ws]
  rfl
 | .r m q :: ws,Z,n=>by
  show (aC ws ((Wr.r m q).app Z)).roots n=_
  rw [Tm ws]
  simp only [CS]
  cases CS ws n with
  | some b=>rfl
  | none=>
   cases q with
   | none=>
    show upd Z.roots m (some iE) n=Option.getD (bif Nat.beq n m then some (some iE) else none) (Z.roots n)
    unfold upd
    cases Nat.beq n m <;> rfl
   | some q=>
    show upd Z.roots m (some q) n=Option.getD (bif Nat.beq n m then some (some q) else none) (Z.roots n)
    unfold upd
    cases Nat.beq n m <;> rfl
theorem amJ {A:Type} {us:List Wr} {z:A}:∀{p:Prog A},(p.over us).ends Z z->p.ends (aC us Z) z:=by
 intro p
 induction p with
 | ret _=>exact fun h=>h
 | fail=>exact fun h=>h
 | slot n k ih=>
  intro h
  show (k ((aC us Z).slots n)).ends _ z
  rw [Tp]
  simp only [Prog.over] at h
  cases hl:Af us n with
  | some v=>rw [hl] at h; exact ih _ h
  | none=>rw [hl] at h; exact ih _ h
 | root n k ih=>
  intro h
  show (k ((aC us Z).roots n)).ends _ z
  rw [Tm]
  simp only [Prog.over] at h
  cases hl:CS us n with
  | some v=>rw [hl] at h; exact ih _ h
  | none=>rw [hl] at h; exact ih _ h
 | eY c d k ih=>exact fun h=>⟨h.1,ih h.2⟩
 | br c t e ru rq=>exact fun h=>h.imp (fun h=>⟨h.1,ru h.2⟩) (fun h=>⟨h.1,rq h.2⟩)
 | opt β q k ih=>
  rintro ⟨b,h1,h2⟩
  exact ⟨b,h1,ih b h2⟩
theorem QF {A B:Type} {f:A->Prog B} {z:B}:∀{p:Prog A},(p.bind f).ends Z z->∃x,p.ends Z x/\(f x).ends Z z:=by
 intro p
 induction p with
 | ret x=>exact fun h=>⟨x,rfl,h⟩
 | fail=>exact fun h=>h.elim
 | slot n k ih=>exact fun h=>ih _ h
 | root n k ih=>exact fun h=>ih _ h
 | eY c d k ih=>exact fun h=>let ⟨x,h1,h2⟩:=ih h.2; ⟨x,⟨h.1,h1⟩,h2⟩
 | br c t e ru rq=>
  rintro (h | h)
  ·obtain ⟨x,h1,h2⟩:=ru h.2
   exact ⟨x, .inl ⟨h.1,h1⟩,h2⟩
  ·obtain ⟨x,h1,h2⟩:=rq h.2
   exact ⟨x, .inr ⟨h.1,h1⟩,h2⟩
 | opt β q k ih=>
  rintro ⟨b,h1,h2⟩
  obtain ⟨x,h3,h4⟩:=ih b h2
  exact ⟨x,⟨b,h1,h3⟩,h4⟩
theorem Ur {p q:Prog (List Wr)} {z:List Wr} (h:(Oe p q).ends Z z):∃us vs,p.ends Z us/\q.ends (aC us Z) vs/\z=us++vs:=by
 obtain ⟨us,h1,h2⟩:=QF h
 obtain ⟨vs,h3,h4⟩:=QF h2
 exact ⟨us,vs,h1,amJ h3,h4⟩
theorem al7:∀{c:K} {us us' cs:List Value},Fx c us cs->Fx c us' cs->us=us':=by
 intro c
 induction c with
 | unit=>
  intro us us' cs h h'
  cases us with
  | nil=>cases us' with
   | nil=>rfl
   | cons _ _=>exact h'.elim
  | cons _ _=>exact h.elim
 | pair k r ihk ih=>
  intro us us' cs h h'
  cases us with
  | nil=>exact h.elim
  | cons u us=>
   cases us' with
   | nil=>exact h'.elim
   | cons u' us'=>
    obtain ⟨c1,c2,e,h1,h2,h3⟩:=h
    obtain ⟨d1,d2,e',h1',h2',h3'⟩:=h'
    rw [e] at e'
    obtain ⟨rfl,rfl⟩:=List.append_inj e' (h2.trans h2'.symm)
    rw [ih h3 h3']
    congr 1
    cases k with
    | st f=>exact (show u=_ from h1).trans (show u'=_ from h1').symm
    | _=>exact (by simpa using (And.left h1).symm.trans (And.left h1'):u=u')
 | _=>intro us us' cs h; cases us <;> exact h.elim
theorem al6 {A:Type} {z:A} (H:Rel cx Z J F a w) {p:Prog A}:∀{c:K} {l:List (Nat×AV)} {i:Nat} {vs:List Value},iN cx Z J F w (l.map (·.2)) vs->(∀v∈l,dQ Z v.2)->(Ju c l i p).ends Z z->
  ∃cs,Fx c vs cs/\(l.map (fun q=>q.1)).zip vs=rM i vs/\p.ends Z z:=by
 intro c
 induction c with
 | unit=>
  intro l i vs h1 _ h
  cases l with
  | nil=>
   cases vs with
   | nil=>exact ⟨[],rfl,rfl,h⟩
   | cons _ _=>exact h1.elim
  | cons _ _=>exact h.elim
 | pair k r ihk ih=>
  intro l i vs h1 h2 h
  cases l with
  | nil=>exact h.elim
  | cons q l=>
   obtain ⟨n,x⟩:=q
   cases vs with
   | nil=>exact h1.elim
   | cons v vs=>
    simp only [Ju] at h
    rcases bD h with ⟨hn,h⟩ | ⟨_,h⟩
    ·obtain ⟨tk,htk,h⟩:=Ap H h1.1 (h2 (n,x) (by simp)) h
     rcases bD h with ⟨hk,h⟩ | ⟨_,h⟩
     ·obtain ⟨cs,g1,g2,g3⟩:=ih h1.2 (fun v hv=>h2 v (by simp [hv])) h
      obtain ⟨aI,F1,cst,EG,lw,lh,H1,T1,k1,k2,_⟩:=take1 H htk
      have ek:=K.eq_of_beq hk
      rw [ek] at k1
      refine ⟨cst++cs,⟨cst,cs,rfl,k1,by rw [k2.len,ek],g1⟩, ?_,g3⟩
      simp only [lD,BF,rM]
      rw [g2,bC hn]
     ·exact h.elim
    ·exact h.elim
 | _=>intro l i vs _ _ h; cases l <;> exact h.elim
theorem aof {k:K} (h:fV k=true):(dR k).length=k.size:=fM (h:=fun _=>none) (own:=[]) (ok:=fun _=>True) (Dl h)
theorem YA {place:Nat->Option (Nat×Nat)}:∀{c:K} {us cs pre:List Value} {j:Nat},fV c=true->Fx c us cs->(∀n off k,bO n c=some (off,k)->place (j+n)=some (pre.length+off,k.size))->
  Instr.fill place (pre++dR c).toArray (rM j us)=some (pre++cs).toArray:=by
 intro c
 induction c with
 | unit=>
  intro us cs pre j _ h _
  cases us with
  | nil=>
   have h':cs=[]:=h
   subst h'
   rfl
  | cons _ _=>exact h.elim
 | pair k r ihk ih=>
  intro us cs pre j hg h hp
  cases us with
  | nil=>exact h.elim
  | cons u us=>
   obtain ⟨c1,c2,rfl,h1,h2,h3⟩:=h
   simp only [fV,bg] at hg
   have hz:=aof hg.1
   have kF:u.cells=c1.toArray:=by
    have:=h1.cells
    apply u6
    simpa using this
   have h0:=hp 0 0 k rfl
   simp only [pK] at h0
   simp only [rM]
   rw [Re (off:=pre.length) (vs:=c1) (by rw [h2]; exact h0) kF (by simp only [dR,D5,bV]; omega)]
   have e2:((pre++dR (.pair k r)).toArray.toList.take pre.length++(c1++(pre++dR (.pair k r)).toArray.toList.drop (pre.length+c1.length)))=(pre++c1)++dR r:=by
    simp only [dR]
    rw [<-gD pre]
    have e3:pre.length+c1.length=(pre++dR k).length:=by simp [h2,hz]
    rw [e3,List.drop_left]
    simp
   rw [e2,ih hg.2 h3 (fun n off kk ho=>?_)]
   ·simp
   ·have:=hp (n+1) (k.size+off) kk (by simp [bO,ho])
    rw [show j+1+n=j+(n+1) by omega,this]
    simp [h2]
    omega
 | _=>intro us cs pre j _ h; cases us <;> exact h.elim
theorem parts_eval {ps:Array (Nat×Operand)} {ns:List Nat} {vals:List Value} (e1:ns=ps.toList.map (·.1)) (hvv:(evs a ps.toList).map (·.2)=vals):((ps.map fun (p:Nat×Operand)=>(p.1,a.eval p.2)).toList)=ns.zip vals:=by
 rw [wE, <-hvv,e1]
 have:∀l:List (Nat×Operand),l.map (fun p=>(p.1,a.eval p.2))=(l.map (·.1)).zip ((evs a l).map (·.2)):=by
  intro l
  induction l with
  | nil=>rfl
  | cons p l ih=>simp [evs] at ih ⊢; exact ih
 exact this _
theorem aij (hT:fJ P T) (H:Rel cx Z J F a w) (hd:o.dst=some d) (hdn:d<cx.nt) {t:TypeId} {ps:Array (Nat×Operand)}
  (h:(match T.ty t with
   | some (.st c)=>xg ps.toList fun l=>Ju c l 0 (.ret [Wr.s d (.lit t c (l.map fun q:Nat×AV=>q.2))])
   | _=>(.fail:Prog (List Wr))).ends Z ws) (ho:o.op=.build t ps):dG P cx o a w (aC ws Z):=by
 cases hty:T.ty t with
 | none=>rw [hty] at h; exact h.elim
 | some k0=>
  rw [hty] at h
  cases k0 with
  | st c=>
   have ht:=hT.ty t _ hty
   simp only at h
   obtain ⟨vs,e1,h1,h2,h3⟩:=Q_ H h
   obtain ⟨cs,g1,g2,g3⟩:=al6 H h1 h2 h3
   rw [bz g3]
   obtain ⟨place,q1,q2⟩:=QI ht
   have hb:=run_build (P:=P) w t (ps.map fun (p:Nat×Operand)=>(p.1,a.eval p.2)) cs.toArray (by
    rw [parts_eval e1 rfl,q2,g2]
    have:=YA (pre:=[]) (j:=0) (place:=place) (c:=c) (by simpa [fV] using ht.fV) g1 (fun n off k ho=>by simpa using q1 n off k ho)
    simpa using this)
   have hrun:(execOp a.eval o).run P w=.ok (.value (.agg cs.toArray)) w:=by simp only [execOp,ho,dO,hb,fU,fA]
   refine fO (x:=.lit t c (vs.map (·.2))) (v:=.agg cs.toArray) H hd hdn hrun ⟨_,cs,⟨rfl,g1⟩,h1⟩ (fun x hx=>?_)
   obtain ⟨q,hq,rfl⟩:=fI.1 hx
   exact h2 q hq
  | _=>exact h.elim
theorem Rel.Ub (H:Rel cx Z J F a w) {s:Nat} {x:gM} (hw:nu Z x) (hx:jv cx Z J F w x (a.tmps.getD s undef)):Rel cx (uz Z (upd Z.slots s x)) J F a w where
 defs:=H.defs
 sz:=H.sz
 kM:=H.kM
 sK:=H.sK
 slots:=by
  intro n
  rw [U0]
  show jv cx Z J F w (upd Z.slots s x n) _
  by_cases e:n=s
  ·subst e
   rw [upd_same]
   exact hx
  ·rw [upd_ne _ _ e]
   exact H.slots n
 sP:=by
  intro n
  rw [XM]
  show nu Z (upd Z.slots s x n)
  by_cases e:n=s
  ·subst e; rw [upd_same]; exact hw
  ·rw [upd_ne _ _ e]; exact H.sP n
 roots:=by
  intro r R hr
  have K:=H.roots r R hr
  exact ⟨fun hv=>K.ow ((Aw _).1 hv),K.len,K.mem,K.nd,K.mine⟩
 gy:=H.gy
 lQ:=H.lQ
 fl:=H.fl
 iq:=H.iq
 fB:=H.fB
 frame:=H.frame
 qc:=H.qc
 mF:=H.mF
 ry:=fun j p ts v h=>let ⟨h0,R,h1,h2⟩:=H.ry j p ts v h; ⟨h0,R,h1,fun ht=>(Ki _).2 (h2 ht)⟩
 rz:=H.rz
theorem Oz {A:Type}:∀(l:List A) (i:Nat),(rM i l).map (fun p=>p.2)=l
 | [],_=>rfl
 | x :: l,i=>by simp only [rM,lD,Oz l]
theorem acQ {A B:Type}:∀(l:List A) (m:List B) (i:Nat),m.length=l.length->((rM i l).map (fun p=>p.1)).zip m=rM i m
 | [],[],_,_=>rfl
 | x :: l,y :: m,i,h=>by simp only [rM,lD,BF,acQ l m (i+1) (by simpa using h)]
 | [],_ :: _,_,h=>by simp at h
 | _ :: _,[],_,h=>by simp at h
theorem ame (hT:fJ P T) (H:Rel cx Z J F a w) {s:Nat} (h:(Tv T s .ret).ends Z ws):∃J' F',Rel cx (aC ws Z) J' F' a w:=by
 unfold Tv at h
 have h:(match Z.slots s with
  | .lit t c l=>_
  | _=>(.fail:Prog (List Wr))).ends Z ws:=h
 have hsl:=H.slots s
 have hsw:=H.sP s
 cases hs:Z.slots s with
 | one _=>rw [hs] at h; exact h.elim
 | mH _=>rw [hs] at h; exact h.elim
 | lit t c l=>
  rw [hs] at h hsl hsw
  obtain ⟨us,cs,⟨ev,Nl⟩,hl⟩:=hsl
  rcases bD h with ⟨hty,h⟩ | ⟨_,h⟩
  ·have ht:dn P T t (.st c):=by
    cases hty':T.ty t with
    | none=>rw [hty'] at hty; simp at hty
    | some kk=>
     rw [hty'] at hty
     have:=K.eq_of_beq hty
     subst this
     exact hT.ty t _ hty'
   have hl':iN cx Z J F w ((rM 0 l).map (·.2)) us:=by rw [Oz]; exact hl
   obtain ⟨tks,b',l1,l2,sD,zX,h4⟩:=XW H hl' (fun v hv=>hsw v.2 (by
    have:v.2∈(rM 0 l).map (·.2):=fI.2 ⟨v,hv,rfl⟩
    rwa [Oz] at this)) h
   have Nj:us.length=(rM 0 l).length:=l2
   have akJ:us.length=l.length:=by
    have:=congrArg List.length (Oz l 0)
    rw [oQ] at this
    omega
   generalize hns:(rM 0 l).map (·.1)=ns at *
   have I7:ns.length=tks.length:=by rw [<-hns,oQ]; exact l1.symm
   have CJ:us.length=tks.length:=by rw [l2]; exact l1.symm
   obtain ⟨z1,z2,z3,z4⟩:=UZ ns us tks I7 CJ
   obtain ⟨f1,f2,f3,f4,f5,f6,f7,f8⟩:=XV _ zX
   simp only [rR] at f1
   rcases bD h4 with ⟨_,h5⟩ | ⟨hws,h5⟩
   ·exact h5.elim
   ·have q9:sO b'.ws b'.all=true:=by simpa using hws
    unfold sO at q9
    simp only [bg] at q9
    have hw1:=Il.1 q9.1
    have hw2:=MF.1 q9.2
    rw [f1, <-z4] at hw1 hw2
    obtain ⟨J',F',hs',H',hA,hnd,hnF,RA,hS,_⟩:=takes (us.zip tks) H sD hw1 (fun tg eZ=>hw2 tg (by
     obtain ⟨it,hit,h6⟩:=jZ.1 eZ
     have:it∈(ns.zip (us.zip tks)).map (·.2):=by rw [z1]; exact hit
     obtain ⟨q,hq,rfl⟩:=fI.1 this
     exact f2 (q.1,q.2.2) (by rw [<-z2]; exact fI.2 ⟨q,hq,rfl⟩) tg h6))
    have zV:=hA
    rw [<-z1] at hA
    obtain ⟨iG,pX,p1,p2⟩:=TQ (own':=fq (K.st c).tys b'.bad) (T:=b'.tags) (ns.zip (us.zip tks)) hA
     (fun it hit tg eZ=>by
      cases hm:aa tg (fq (K.st c).tys b'.bad) with
      | false=>rfl
      | true=>exact absurd (f4 (it.1,it.2.2) (by rw [<-z2]; exact fI.2 ⟨it,hit,rfl⟩) tg eZ) (qg.1 hm).2)
     (fun it hit tg eZ=>f6 (it.1,it.2.2) (by rw [<-z2]; exact fI.2 ⟨it,hit,rfl⟩) tg eZ)
    rw [z2,z3,z1] at p2
    obtain ⟨place,q1,q2⟩:=QI ht
    obtain ⟨x',cs',aF,rest,bad',tags',AB,kp',all',r1,r2,r3,r4⟩:=XU q1 (ns.zip tks) (x:=(K.st c).zero) (cs:=dR c) (fo:=[]) (Dl (k:=c) ht.fV) p2 zX
    subst r1
    simp only at q9 f1 f2 f3 f4 f5 f6 f7 f8 h5 p2 r2 r3
    have hzn:(ns.zip tks).map (·.1)=ns:=by rw [List.map_fst_zip (by omega)]
    have hcs:cs'=cs:=by
     have e:=YA (pre:=[]) (j:=0) (place:=place) (c:=c) (by simpa [fV] using ht.fV) Nl (fun n off k ho=>by simpa using q1 n off k ho)
     simp only [rR] at e
     rw [hzn, <-hns,acQ l us 0 akJ,e] at r4
     simpa using r4.symm
    subst hcs
    have hperm:(hs'.flatMap (·.2)).Perm (aF++(rest++pX)):=by
     refine p1.trans ?_
     rw [<-gD]
     exact sU _ (by simpa using r3)
    have jI:=hperm.nodup hnd
    have hin:∀b∈hs'.flatMap (·.2),b∈F':=M9 zV
    have uM:∀b∈aF,b∈F':=fun b hb=>hin b (hperm.mem_iff.2 (by simp [hb]))
    have EL:∀b∈pX,b∈F'/\b∉aF:=fun b hb=>⟨hin b (hperm.mem_iff.2 (by simp [hb])),fun h=>(cK.1 jI).2.2 b h b (by simp [hb]) rfl⟩
    have hV:VC (.st c) (.agg cs'.toArray) cs':=rfl
    have hwt:gB (aC (fu (us.zip tks)) Z) tags':=by
     intro tg eZ
     rcases f8 tg eZ with h | ⟨q,hq,hq2⟩
     ·simp at h
     ·rw [<-z2] at hq
      obtain ⟨it,hit,rfl⟩:=fI.1 hq
      have hit2:it.2∈us.zip tks:=by rw [<-z1]; exact fI.2 ⟨it,hit,rfl⟩
      exact F3 (M_ zV it.2 hit2) tg hq2
    have E_:AB=fu (us.zip tks):=by rw [f1,z4]
    obtain ⟨g1,g2⟩:=p9 h5
    rw [bz g2]
    have hnr:=UJ g1 sD
    have hn1:(aC (fu (us.zip tks)) Z).roots (aG s 1)=none:=by rw [(hS _ hnr).root]; exact g1
    obtain ⟨ku,k1,k2⟩:=Eh (k:=.st c) (x:=x') (own:=fq (K.st c).tys bad') (tags:=tags') (v:=.agg cs'.toArray) (cs:=cs') (fo:=aF) (r:=aG s 1) (F':=F'.filter fun b=>!aa b (aF++pX)) H' hn1 (qb s 1)
     uM (cK.1 jI).1 hwt (fun b hb=>by
      rw [eF] at hb
      have:=hb.2
      simp only [lC,gT,bW,not_or] at this
      exact ⟨hb.1,this.1⟩) (H'.iq.filter _) (fM (k:=c) r2)
     (fun _=>dY (k:=.st c) (fun _ _=>rfl) (fun b hb=>by
      rcases hb with hb | hb
      ·exact .inl hb
      ·refine .inr ⟨(EL b hb).1,fun h=>?_,(EL b hb).2⟩
       rw [eF] at h
       have:=h.2
       simp only [lC,gT,bW,not_or] at this
       exact this.2 hb) (fun _ _=>rfl) r2) hV kp'
    rw [E_,oD]
    exact ⟨ku,_,k1.Ub (x:=.one (.ref (aG s 1) 0)) ⟨_,fE .., .inr (fT _)⟩ (by rw [ev]; exact k2)⟩
  ·exact h.elim
theorem aat {Z':St} {J':aH} {F':List Nat} (f:AV->AV) (hf:∀x v,aW cx Z J F w x v->aW cx Z' J' F' w x v->aW cx Z' J' F' w (f x) v) :
  ∀{l:List AV} {vs:List Value},iN cx Z J F w l vs->iN cx Z' J' F' w l vs->iN cx Z' J' F' w (l.map f) vs
 | [],[],_,_=>trivial
 | x :: l,v :: vs,h1,h2=>⟨hf x v h1.1 h2.1,aat f hf h1.2 h2.2⟩
 | [],_ :: _,h,_=>h.elim
 | _ :: _,[],h,_=>h.elim
theorem amH {p q:List Stp} (h:JG p q=true):∃i j,p=[.aZ i]/\q=[.aZ j]/\i≠j:=by
 unfold JG at h
 split at h
 ·rename_i i j
  exact ⟨i,j,rfl,rfl,Ml (by simpa using h)⟩
 ·simp at h
theorem anJ (H:Rel cx Z J F a w) {s s2:Nat} (h:(UA s s2 .ret).ends Z ws):∃J' F',Rel cx (aC ws Z) J' F' a w:=by
 unfold UA at h
 have h:(match Z.slots s with
  | .one (.dZ r p v)=>_
  | _=>(.fail:Prog (List Wr))).ends Z ws:=h
 have hsl:=H.slots s
 split at h
 case h_2=>exact h.elim
 case h_1 r p v hs=>
  rw [hs] at hsl
  unfold sN at h
  obtain ⟨R,hr,hv,h⟩:=iQ h
  rcases bD h with ⟨ug,h⟩ | ⟨_,h⟩
  case inr=>exact h.elim
  have ug:=bC ug
  cases fC:aB p R.k R.x with
  | none=>rw [fC] at h; exact h.elim
  | some dd=>
   rw [fC] at h
   obtain ⟨dh,hown,cs,wh,ES,kF⟩:=hsl R hr.1 hv ug dd fC
   rcases bD h with ⟨hc,h⟩ | ⟨_,h⟩
   case inr=>
    obtain ⟨_,h⟩:=tN h
    rcases bD h with ⟨_,h⟩ | ⟨hc,h⟩
    ·exact h.elim
    ·simp at hc
   cases hga:xh R p dd with
   | none=>rw [hga] at h; exact h.elim
   | some R'=>
    rw [hga] at h
    unfold xh at hga
    cases hz:cz p R.k R.x (oI dd) with
    | none=>rw [hz] at hga; simp at hga
    | some zz=>
     rw [hz] at hga
     simp only [au] at hga
     have hpv:p≠[]\/∃t,R.kind=.var t:=by
      simp only [bg,nZ] at hc
      rcases hc.2 with h | h
      ·left; intro e; subst e; simp at h
      ·right
       unfold Root.isVar at h
       cases hk:R.kind with
       | var t=>exact ⟨t,rfl⟩
       | anon=>rw [hk] at h; simp at h
       | par=>rw [hk] at h; simp at h
       | dead=>rw [hk] at h; simp at h
     rcases bD h with ⟨_,h⟩ | ⟨hss,h⟩
     ·exact h.elim
     obtain ⟨hne,_⟩:=AL.1 hss
     have hne:s≠s2:=Ml hne
     obtain ⟨hfr,h⟩:=p9 h
     have h:(match Z.slots s2 with
      | .lit t c l=>_
      | _=>(.fail:Prog (List Wr))).ends Z ws:=h
     have hs2:=H.slots s2
     have hw2:=H.sP s2
     cases hsl2:Z.slots s2 with
     | one _=>rw [hsl2] at h; exact h.elim
     | mH _=>rw [hsl2] at h; exact h.elim
     | lit t c l=>
      rw [hsl2] at h hs2 hw2
      rw [bz h]
      obtain ⟨us,cs2,⟨ev,Nl⟩,hl⟩:=hs2
      obtain ⟨cs1,cu,aX,rest,g1,H1,T1,g4,g5,_⟩:=gap H hr hv fC hz dh hown hpv
      rw [ES] at g1
      simp only [au,bS] at g1
      obtain ⟨rfl,rfl⟩:=g1
      have hR':R'=kJ R dd zz:=hga.symm
      subst hR'
      have hrl:aG s 1≠r:=fun e=>by rw [e,hr.1] at hfr; simp at hfr
      have hn1:(aJ Z r (kJ R dd zz)).roots (aG s 1)=none:=by rw [jW Z _ hrl]; exact hfr
      have hcl:cO (aJ Z r (kJ R dd zz)) (bu (dd.1.tys.filter fun t=>aa t R.own) dd.1) R.tags=true:=by
       rw [Ou dd.1 (fun _ h=>h),g5]
       exact BU hv.2 (fun _ h=>h) (Ov p fC hown)
      have hh:Held cx (aJ Z r (kJ R dd zz)) (aR J r (J.loc r) (J.hdr r) rest) (aX++F) w dd.1 dd.2 (dd.1.tys.filter fun t=>aa t R.own) R.tags cs aX:=
       ⟨fun hc=>vv (fun t ht=>aaH t ht) (g4.ow (by rw [Ou dd.1 (fun _ h=>h)] at hc; exact hc)),g4.wt,g4.sub,g4.nd,g4.len⟩
      let tk:eU:=⟨dd.1,dd.2,dd.1.tys.filter (fun t=>aa t R.own),R.tags,[.r r (some (kJ R dd zz))],R.keep⟩
      have hhw:gB (aJ Z r (kJ R dd zz)) tk.tags:=hh.wt
      obtain ⟨H2,r3⟩:=XC (r:=aG s 1) (k:=tk.k) (x:=tk.x) (own:=tk.own) (tags:=tk.iP) (F':=(aX++F).filter fun b=>!aa b aX) H1 hn1 (qb s 1) hh.sub hh.nd (F3 (tk:=tk) hhw)
       (fun b hb=>by
        obtain ⟨q1,q2⟩:=eF.1 hb
        simp only [lC,gT] at q2
        exact ⟨q1,q2⟩) (H1.iq.filter _) hh.len
       (fun Zc=>by
        cases hb:tk.bad with
        | nil=>exact j5 hb (hh.ow hcl)
        | cons t0 l=>
         have et:tk.iP=tk.tags:=by
          unfold eU.iP
          rw [hb]
         rw [et] at Zc ⊢
         exact dY (fun _ _=>rfl) (fun b h=>.inl h) (fun _ _=>rfl) (hh.ow Zc)) kF R.keep
      have H3:=H2.Ub (s:=s) (x:=.one (.ref (aG s 1) 0)) ⟨_,fE .., .inr (fT _)⟩ r3
      have hs3:=H3.slots s2
      have hw3:=H3.sP s2
      have hkeep:(uz (aJ (aJ Z r (kJ R dd zz)) (aG s 1) (bL tk.k tk.x tk.own tk.iP .anon R.keep)) (upd (aJ (aJ Z r (kJ R dd zz)) (aG s 1) (bL tk.k tk.x tk.own tk.iP .anon R.keep)).slots s (.one (.ref (aG s 1) 0)))).slots s2=.lit t c l:=by
       show upd Z.slots s _ s2=_
       rw [upd_ne _ _ (Ne.symm hne)]
       exact hsl2
      rw [hkeep] at hs3 hw3
      obtain ⟨us',Yi,⟨ev',akK⟩,hl'⟩:=hs3
      have Q7:Yi=cs2:=by
       rw [ev] at ev'
       have:=congrArg Value.cells ev'
       simpa [Value.cells] using this.symm
      subst Q7
      have eus:=al7 Nl akK
      subst eus
      have hroot:(aJ (aJ Z r (kJ R dd zz)) (aG s 1) (bL tk.k tk.x tk.own tk.iP .anon R.keep)).roots r=some (kJ R dd zz):=by
       rw [jW _ _ (Ne.symm hrl),fE]
      refine ⟨_,_,H3.Ub (s:=s2) (x:=.lit t c (l.map (Rn r p v tk.ws))) (fun x hx=>?_) ⟨us,Yi,⟨ev,Nl⟩,aat (Rn r p v tk.ws) (fun x u hx0 hx1=>?_) hl hl'⟩⟩
      ·obtain ⟨y,hy,rfl⟩:=fI.1 hx
       have hy':=hw3 y hy
       show dQ _ (freshen r p v (kJ R dd zz).dL y)
       unfold freshen
       split
       ·rename_i q p' n
        cases hb:(Nat.beq r q && Nat.beq n v && JG p p') with
        | false=>exact hy'
        | true=>
         simp only [bg] at hb
         rw [<-bC hb.1.1]
         exact ⟨_,hroot, .inr (bN _)⟩
       ·exact hy'
      ·show aW cx _ _ _ w (freshen r p v (kJ R dd zz).dL x) u
       unfold freshen
       split
       ·rename_i q p' n
        cases hb:(Nat.beq r q && Nat.beq n v && JG p p') with
        | false=>exact hx1
        | true=>
         simp only [bg] at hb
         have e1:=bC hb.1.1
         have e2:=bC hb.1.2
         subst e1
         subst e2
         obtain ⟨i,j,rfl,rfl,hij⟩:=amH hb.2
         intro Q hQ oL hnQ d' hd'
         have hQ':Q=kJ R dd zz:=by
          have hQ:(aJ (aJ Z r (kJ R dd zz)) (aG s 1) (bL tk.k tk.x tk.own tk.iP .anon R.keep)).roots r=some Q:=hQ
          rw [hroot] at hQ
          simpa using hQ.symm
         subst hQ'
         have hold:=hx0 R hr.1 hv ug
         obtain ⟨Rk,Rx,Ql,Qm,Rw,Rh,Rg,Qk,Xm,Qj,Qi,Qh⟩:=R
         cases Rk with
         | st c0=>
          simp only [cz] at hz
          simp only [aB] at fC
          cases hci:aS i c0 Rx with
          | none=>rw [hci] at fC; simp at fC
          | some d0=>
           rw [hci] at hz fC
           simp only [au] at fC
           subst fC
           simp only at hz
           cases hcp:dF i c0 Rx (oI d0) with
           | none=>rw [hcp] at hz; simp at hz
           | some z0=>
            rw [hcp] at hz
            simp only [au] at hz
            subst hz
            have hput:aS j z0.1 z0.2=aS j c0 Rx:=X_ i j (Ne.symm hij) hcp
            have hd2:aB [.aZ j] (.st c0) Rx=some d':=by
             have hd3:aB [.aZ j] (.st z0.1) z0.2=some d':=hd'
             simp only [aB] at hd3 ⊢
             rw [hput] at hd3
             exact hd3
            obtain ⟨w1,w2,QY,UW,w3,w4⟩:=hold d' hd2
            have hcj:(aS j c0 Rx).isSome=true:=by
             cases hcj:aS j c0 Rx with
             | none=>simp only [aB] at hd2; rw [hcj] at hd2; simp at hd2
             | some _=>rfl
            refine ⟨?_, ?_,QY,UW, ?_,w4⟩
            ·show bX [.aZ j] (.st z0.1) z0.2
             simp only [bX]
             rw [hput]
             cases aka:aS j c0 Rx with
             | none=>rw [aka] at hcj; simp at hcj
             | some _=>trivial
            ·intro t' ht'
             have ht':t'∈az [.aZ j] (.st z0.1):=ht'
             simp only [az] at ht'
             split at ht' <;> simp at ht'
            ·have e3:(aR (aR J r (J.loc r) (J.hdr r) rest) (aG s 1) (0,0) cs aX).hdr r=J.hdr r:=by simp [aR,upd_same,upd_ne _ _ (Ne.symm hrl)]
             rw [e3]
             have e4:aK (aR (aR J r (J.loc r) (J.hdr r) rest) (aG s 1) (0,0) cs aX) (kJ { k:=.st c0,x:=Rx,own:=Ql,tags:=Qm,w:=Rw,h:=Rh,g:=Rg,kind:=Qk,fixed:=Xm,keep:=Qj,ew:=Qi,eh:=Qh } d0 ⟨.st z0.1,z0.2⟩) r=aK J { k:=.st c0,x:=Rx,own:=Ql,tags:=Qm,w:=Rw,h:=Rh,g:=Rg,kind:=Qk,fixed:=Xm,keep:=Qj,ew:=Qi,eh:=Qh } r:=by
              unfold aK kJ
              simp [aR,upd_same,upd_ne _ _ (Ne.symm hrl)]
             rw [e4]
             have w3':aT (hp w) [.aZ j] (.st c0) (J.hdr r) _=some (QY,UW):=w3
             show aT (hp w) [.aZ j] (.st z0.1) (J.hdr r) _=some (QY,UW)
             simp only [aT] at w3' ⊢
             cases hoj:bO j c0 with
             | none=>rw [hoj] at w3'; simp at w3'
             | some q=>
              rw [hoj] at w3'
              rw [Yb i j (Ne.symm hij) hci hcp (Cz d0.1) hoj]
              exact w3'
         | _=>simp [aB] at fC
       ·exact hx1
theorem anK {s2:Nat}:∀{l:List (Nat×Operand)} {ws:List Wr} {Z:St} {J:aH} {F:List Nat},Rel cx Z J F a w->(splits s2 l).ends Z ws->∃J' F',Rel cx (aC ws Z) J' F' a w:=by
 intro l
 induction l with
 | nil=>intro ws Z J F H h; rw [bz h]; exact ⟨J,F,H⟩
 | cons q l ih=>
  obtain ⟨n,x⟩:=q
  intro ws Z J F H h
  cases x with
  | tmp s=>
   simp only [splits] at h
   have h:(match Z.slots s with
    | .one (.dZ r _ _)=>_
    | _=>splits s2 l).ends Z ws:=h
   split at h
   ·have h:(match Z.slots s2 with
     | .lit _ _ m=>_
     | _=>(.fail:Prog (List Wr))).ends Z ws:=h
    split at h
    ·rcases bD h with ⟨_,h⟩ | ⟨_,h⟩
     ·obtain ⟨us,vs,h1,h2,rfl⟩:=Ur h
      obtain ⟨aI,F1,H1⟩:=anJ H h1
      rw [oD]
      exact ih H1 h2
     ·exact ih H h
    ·exact h.elim
   ·exact ih H h
  | _=>exact ih H h
theorem ai9 {A:Type} {z:A} {k:Nat->Prog A}:∀{l:List (Nat×Operand)},(EC l k).ends Z z->∃s,(k s).ends Z z:=by
 intro l
 induction l with
 | nil=>exact fun h=>h.elim
 | cons q l ih=>
  obtain ⟨n,x⟩:=q
  intro h
  cases x with
  | tmp s=>
   simp only [EC] at h
   have h:(match Z.slots s with
    | .lit _ _ _=>k s
    | _=>EC l k).ends Z z:=h
   split at h
   ·exact ⟨s,h⟩
   ·exact ih h
  | _=>exact ih h
theorem aix (hT:fJ P T) (H:Rel cx Z J F a w) (hd:o.dst=some d) (hdn:d<cx.nt) {t:TypeId} {ps:Array (Nat×Operand)}
  (h:(acm T d t ps).ends Z ws) (ho:o.op=.build t ps):dG P cx o a w (aC ws Z):=by
 obtain ⟨s,h⟩:=ai9 h
 obtain ⟨us,vs,h1,h2,rfl⟩:=Ur h
 obtain ⟨us2,vs2,h3,h4,rfl⟩:=Ur h2
 obtain ⟨aI,F1,H1⟩:=anK H h1
 obtain ⟨ku,F2,H2⟩:=ame hT H1 h3
 rw [oD,oD]
 exact Yn hT H2 hd hdn h4 ho
end
end
section
open Go
variable [Fr]
section
variable {P:Program} {T:bH} {w:World}
structure Src (P:Program) (w:World) (size:Nat) (u:TypeId) (x:Value) (m:Nat) (news:List Value):Prop where
 und:(∃e',P.underlying u=some (.slice e'))\/P.underlying u=some .string
 len:∀w',(Builtin.lenOf x).run P w'=.ok m w'
 cells:(Builtin.firstCells size m x).run P w=.ok news.toArray w/\(Builtin.firstCells size m x).run P w.drew=.ok news.toArray w.drew
 nl:news.length=m * size
 one:∀v∈news,v.oneCell'=true
theorem J7 {size:Nat} {u:TypeId} {b:Option Addr} {m c:Nat} {news:List Value} (hu:(∃e',P.underlying u=some (.slice e'))\/P.underlying u=some .string) (hl:news.length=m * size) (h1:∀v∈news,v.oneCell'=true)
  (hc:0<m->∃bb q,b=some ⟨bb,q,none⟩/\Cells (hp w) bb q news):Src P w size u (.slice b m c) m news where
 und:=hu
 len:=fun w'=>rfl
 cells:=by
  have key:∀w',hp w'=hp w->(Builtin.firstCells size m (.slice b m c)).run P w'=.ok news.toArray w':=by
   intro w' hw
   by_cases h0:0<m
   ·obtain ⟨bb,q,rfl,hcs⟩:=hc h0
    exact De (P:=P) w' size m ⟨bb,q,none⟩ m c news hl (fun j v hj=>by
     rw [addr_add,zI,hw,hcs j (qm.1 hj).1]
     exact hj)
   ·have hm:m=0:=by omega
    subst hm
    have hn:news=[]:=sW (by simpa using hl)
    subst hn
    cases b with
    | none=>exact Uk w' size 0 0 c
    | some ad=>exact De (P:=P) w' size 0 ad 0 c [] (by simp) (fun j v hj=>by simp at hj)
  exact ⟨key w rfl,key w.drew rfl⟩
 nl:=hl
 one:=h1
theorem anL {u:TypeId} {B:ByteArray} (hu:(∃e',P.underlying u=some (.slice e'))\/P.underlying u=some .string):Src P w 1 u (.string B) B.size (B.data.toList.map fun b=>.int .u8 b.toNat) where
 und:=hu
 len:=fun w'=>rfl
 cells:=by
  have h:B.extract 0 B.size=B:=by
   apply ByteArray.ext
   simp
  constructor <;> (simp [Builtin.firstCells,h]; apply u6; simp)
 nl:=by simp
 one:=by intro v hv; simp only [fI] at hv; obtain ⟨b,_,rfl⟩:=hv; rfl
theorem Ob {t u ty e:TypeId} {k:K} (ht:dn P T t (.sl e k)) {b:Option Addr} {n c m:Nat} {x:Value} {news:List Value} (hs:Src P w k.size u x m news) (hr:n+m<=c) :
  (Builtin.append_ #[t,u] ty #[.slice b n c,x]).run P w=(match b with
   | some a=>(storeCells (a.add (n * k.size)) news).run P w
   | none=>.ok () w).andThen fun _ w'=>.ok (.slice b (n+m) c) w':=by
 obtain ⟨hu,he,_,_⟩:=ht.sl
 have e1:=hs.len w
 have e2:=hs.cells.1
 rcases hs.und with ⟨e',hd⟩ | hd <;> cases b <;> simp [Builtin.append_,iy hu,he.info.sizeOf w,iy hd,e1,e2,hr,Result.andThen]
end
end
section
open Go
variable [Fr]
section
variable {P:Program} {T:bH} {w:World}
theorem Uj {t u ty e:TypeId} {k:K} (ht:dn P T t (.sl e k)) {b:Option Addr} {n c m:Nat} {x:Value} {news olds:List Value} (hs:Src P w k.size u x m news)
  (hold:(Builtin.firstCells k.size n (.slice b n c)).run P w.drew=.ok olds.toArray w.drew) (hr:¬n+m<=c) (hb:(n+m) * T.bytes e<=140737488355328) :
  ∃nc,n+m<=nc/\(Builtin.append_ #[t,u] ty #[.slice b n c,x]).run P w =
   .ok (.slice (some ⟨w.heap.size,0,none⟩) (n+m) nc) (w.drew.alloc (.cells (olds.toArray++news.toArray++Builtin.zeroCells (jC k).cells (nc - (n+m))) e)):=by
 obtain ⟨hu,he,_,i,hi,hby,hpos⟩:=ht.sl
 obtain ⟨i',hi',hs',hz'⟩:=he.info
 rw [hi] at hi'
 simp only [au] at hi'
 subst hi'
 have e1:=hs.len w
 have e2:=hs.cells.2
 have h2:¬(281474976710656<Builtin.nextslicecap (n+m) c * i.bytes):=by
  have:=growslice_fits (need:=n+m) (old:=c) (bytes:=i.bytes) (by omega) (by rw [hby]; exact hb)
  omega
 have h3:i.bytes≠0:=by omega
 refine ⟨grownCap w (n+m) c e,grownCap_ge w (n+m) c e, ?_⟩
 rw [<-hs'] at hold e2
 rcases hs.und with ⟨e',hd⟩ | hd
 ·simp [Builtin.append_,iy hu,iy hd,sizeOf,typeInfo,zeroValue,hi,hz',e1,hr,h2,h3,Question.forced,hold,e2,newRow,grownCap]
  congr 2
  apply u6
  simp [gD]
 ·simp [Builtin.append_,iy hu,iy hd,sizeOf,typeInfo,zeroValue,hi,hz',e1,hr,h2,h3,Question.forced,hold,e2,newRow,grownCap]
  congr 2
  apply u6
  simp [gD]
end
end
end Go.Proofs.YtailcbngagacaaaGreat.Ow
