/- A verified reading of translated code: values in place of memory; part C of 6, spaces and remarks taken out. No condition. Own work of this seat. -/
import Derived.Test.YtabnmpabdhmkoaaOwB
import Derived.Laws.Strings
import Derived.Laws.BytesString
import Derived.Laws.IdiomStrings
import Derived.Laws.MakeOwn
import Derived.Laws.Tables
import Derived.Laws.AppendOwn
set_option linter.unusedSectionVars false
set_option linter.unusedVariables false
set_option linter.unusedSimpArgs false
namespace Go.Proofs.Ytabnmpabdhmkoaa.Ow
section
open Go
variable [Fr]
theorem beq_true {a b:K} {A:Type} {x y:Prog A} {σ:St} {z:A} (h:(bif a.beq b then x else y).ends σ z):(a=b∧x.ends σ z)∨(a.beq b=false∧y.ends σ z):=by
  cases hb:a.beq b with
  | true=>rw [hb] at h; exact .inl ⟨K.eq_of_beq hb,h⟩
  | false=>rw [hb] at h; exact .inr ⟨rfl,h⟩
section
variable {P:Program} {T:iD} {cx:Cx} {σ:St} {α:dI} {F:List Nat} {a:Act} {w:World} {o:Oper} {d:Nat} {ws:List Wr}
theorem structField {P:Program} {T:iD}:∀(n:Nat) {c:K} {fs:List Field} {Ct off:Nat} {k:K},(iW P T c).2 fs Ct→bu n c=some (off,k)→∃f,fs[n]?=some f∧f.offset=Ct+off∧fB P T f.type k∧0<k.size:=by
  intro n
  induction n with
  | zero=>
    intro c fs Ct off k h ho
    cases c with
    | pair a b=>
      simp only [bu,afQ,af1] at ho
      obtain ⟨rfl,rfl⟩:=ho
      cases fs with
      | nil=>exact h.elim
      | cons f fs=>exact ⟨f,rfl,h.1,h.2.1,h.2.2.1⟩
    | _=>simp [bu] at ho
  | succ n ih=>
    intro c fs Ct off k h ho
    cases c with
    | pair a b=>
      simp only [bu] at ho
      cases h2:bu n b with
      | none=>rw [h2] at ho; simp at ho
      | some q=>
        rw [h2] at ho
        simp only [afQ,af1] at ho
        cases fs with
        | nil=>exact h.elim
        | cons f fs=>
          obtain ⟨g,g1,g2,g3,g4⟩:=ih (off:=q.1) (k:=q.2) h.2.2.2 (by rw [h2])
          exact ⟨g,by simpa using g1,by rw [g2, ←ho.1]; omega,by rw [←ho.2]; exact g3,by rw [←ho.2]; exact g4⟩
    | _=>simp [bu] at ho
theorem fB.st {t:TypeId} {c:K} (h:fB P T t (.st c)):∃fs,P.underlying t=some (.struct fs)∧(iW P T c).2 fs.toList 0:=by
  unfold fB iW at h
  exact h.1
theorem wB {cs:List Value} {off n:Nat} (h:off+n≤cs.length):((cs.drop off).take n).length=n:=by simp; omega
theorem Bp:∀(n:Nat) {c:K} {off:Nat} {k:K},bu n c=some (off,k)→off+k.size≤c.size:=by
  intro n
  induction n with
  | zero=>intro c off k h; cases c with
    | pair a b=>simp only [bu,afQ,af1] at h; obtain ⟨rfl,rfl⟩:=h; simp [K.size]
    | _=>simp [bu] at h
  | succ n ih=>intro c off k h; cases c with
    | pair a b=>
      simp only [bu] at h
      cases h2:bu n b with
      | none=>rw [h2] at h; simp at h
      | some q=>
        rw [h2] at h
        simp only [afQ,af1] at h
        have:=ih (off:=q.1) (k:=q.2) (by rw [h2])
        simp only [K.size]
        rw [←h.1, ←h.2]
        omega
    | _=>simp [bu] at h
theorem PR {t:TypeId} {k:K} (h:fB P T t k) (hk:0<k.size) {cs:List Value} {off:Nat} (hl:off+k.size≤cs.length):∃u,(part t cs.toArray off).run P w=.ok u w∧((∀x,u≠.agg x)∨qa k=true→VC k u ((cs.drop off).take k.size)):=by
  unfold part
  simp only [agf,h.isAgg w,Result.andThen]
  cases hs:qa k with
  | true=>
    refine ⟨.agg (cs.toArray.extract off (off+k.size)),by simp [h.info.sizeOf w,Result.andThen],fun _=>?_⟩
    cases k with
    | st c=>
      show Value.agg _=.agg _
      congr 1
      apply Array.ext'
      simp [List.extract_eq_take_drop]
    | _=>simp [qa] at hs
  | false=>
    have hlt:off<cs.length:=by omega
    refine ⟨cs[off],by simp [hlt],fun hu=>?_⟩
    have hu':∀x,cs[off]≠.agg x:=hu.resolve_right (by simp)
    have hk1:k.size=1:=by
      cases k with
      | st c=>simp [qa] at hs
      | pair a b=>exact (show False from h).elim
      | unit=>exact (show False from h).elim
      | gap n=>exact (show False from h).elim
      | _=>rfl
    have e:(cs.drop off).take k.size=[cs[off]]:=by
      rw [hk1,List.drop_eq_getElem_cons hlt]
      rfl
    rw [e]
    cases k with
    | st c=>simp [qa] at hs
    | _=>exact ⟨rfl,hu'⟩
theorem Dl {v:Value} (h:v.oneCell'=true):∀x,v≠.agg x:=by
  intro x e
  subst e
  simp [Value.oneCell'] at h
theorem MW {t:TypeId} {c:K} (h:fB P T t (.st c)) {cs:List Value} {n off:Nat} {k:K} (ho:bu n c=some (off,k)) (hl:cs.length=c.size) (h1:∀v∈cs,v.oneCell'=true) :
    ∃u,(Instr.field t (.agg cs.toArray) n).run P w=.ok u w∧VC k u ((cs.drop off).take k.size):=by
  obtain ⟨fs,hu,hf⟩:=h.st
  obtain ⟨f,f1,f2,f3,f4⟩:=structField n hf ho
  have hle:=Bp n ho
  obtain ⟨u,g1,g2⟩:=PR (w:=w) f3 f4 (cs:=cs) (off:=off) (by omega)
  have f1':fs[n]?=some f:=by rw [←Array.getElem?_toList]; exact f1
  refine ⟨u, ?_,g2 ?_⟩
  · unfold Instr.field
    simp only [agf,run_underlying hu,Result.andThen,f1',asAgg,agl]
    rw [show f.offset=off from by omega]
    exact g1
  · cases hs:qa k with
    | true=>exact .inr rfl
    | false=>
      left
      unfold part at g1
      simp only [agf,f3.isAgg w,Result.andThen,hs] at g1
      have hlt:off<cs.length:=by omega
      simp [hlt] at g1
      rw [←g1]
      exact Dl (h1 _ (agj hlt))
theorem vv {r:Nat} {R:Root} {p:List Stp} {v:Value} {dd:Dat} {cs:List Value} {wh:Option (Nat×Nat)} (hr:aN σ r R) (hg:aO p R.k R.x=some dd) (h1:kH p R.k R.x) (h2:∀t∈aa p R.k,au t R.own=true)
    (h3:bE (hp w) p R.k (α.hdr r) (dQ α R r)=some (cs,wh)) (h4:VC dd.1 v cs):bH cx σ α F w (.oQ r p R.rR) v:=by
  intro R' hR' _ _ d' hd'
  rw [hr.1] at hR'
  simp only [afQ] at hR'
  subst hR'
  rw [hg] at hd'
  simp only [afQ] at hd'
  subst hd'
  exact ⟨h1,h2,cs,wh,h3,h4⟩
theorem Rel.Od (H:Rel cx σ α F a w) {w':World} (hos:w'.os=w.os) (hout:w'.output=w.output) (hsz:w.heap.size≤w'.heap.size) (hold:∀b,b<w.heap.size→hp w' b=hp w b) (ht:w'.tape=w.tape):Rel cx σ α F a w':=by
  have hs:∀r,Same σ α σ α r:=fun r=>⟨rfl,rfl,rfl,rfl⟩
  have hch:∀b,b<w.heap.size→hp w' b=hp w b:=hold
  have T:kI cx σ α F w σ α F w' (fun _=>[]) (fun _=>[]):=by
    refine ⟨rfl,⟨hos,ht,hout⟩,hsz,fun r R hr=>⟨R,hr, ?_⟩,fun r R' _ h=>absurd (hs r) h,fun r R' h1 h2=>by rw [h1] at h2; simp at h2,fun b hb hne=>absurd (hch b hb) hne, ?_,H.uU,
      fun r R' _ h=>absurd (hs r) h,fun r R r' R' _ _ _ h=>absurd (hs r) h, ?_,fun r R R' h1 h2 _=>by rw [h1] at h2; simp only [afQ] at h2; subst h2; exact ⟨rfl,rfl⟩⟩
    · cases hd:R.aZ with
      | true=>exact .inl ⟨rfl,fun hk=>by unfold Root.aZ at hd; rw [hk] at hd; simp at hd⟩
      | false=>exact .inr ⟨rfl,rfl,rfl,af6 _,rfl,rfl,fun _=>rfl, .inr ⟨rfl,rfl,hs r⟩⟩
    · rintro b (⟨r,R,h1,h2,h3⟩ | h)
      · exact absurd ⟨R,h1,h2⟩ h3
      · exact .inl h
    · intro j pi b o n h1 h2 hne
      obtain ⟨R,hR,hk,hl,_⟩:=H.jT j pi b o n h1 h2
      exact absurd (hch b ((H.roots _ R hR).mine b (by simp [blk,dQ,hk,hl])).1) hne
  exact H.turn T (fun r R _ h=>absurd (hs r) h) (fun r R _ h=>absurd (hs r) h) (fun r R _ h=>absurd (hs r) h)
theorem EO:∀(n:Nat) {c:K},(aa.Ae n c).isSome=true→∃off k,bu n c=some (off,k):=by
  intro n
  induction n with
  | zero=>intro c h; cases c with
    | pair a b=>exact ⟨0,a,rfl⟩
    | _=>simp [aa.Ae] at h
  | succ n ih=>intro c h; cases c with
    | pair a b=>obtain ⟨off,k,h1⟩:=ih (c:=b) h; exact ⟨a.size+off,k,by simp [bu,h1]⟩
    | _=>simp [aa.Ae] at h
theorem Gq:∀(n:Nat) {c k:K},aa.Ae n c=some k→∃off,bu n c=some (off,k):=by
  intro n
  induction n with
  | zero=>intro c k h; cases c with
    | pair a b=>simp only [aa.Ae,afQ] at h; subst h; exact ⟨0,rfl⟩
    | _=>simp [aa.Ae] at h
  | succ n ih=>intro c k h; cases c with
    | pair a b=>obtain ⟨off,h1⟩:=ih (c:=b) h; exact ⟨a.size+off,by simp [bu,h1]⟩
    | _=>simp [aa.Ae] at h
theorem Di:∀(p:List Stp) {n:Nat} {k k1 k2:K} {off o2:Nat} {c:K},jC p k=some (off,k1)→k1=.st c→bu n c=some (o2,k2)→jC (p++[.fD n]) k=some (off+o2,k2):=by
  intro p
  induction p with
  | nil=>
    intro n k k1 k2 off o2 c h e h2
    simp only [jC,afQ,af1] at h
    obtain ⟨rfl,rfl⟩:=h
    subst e
    simp [jC,h2]
  | cons s p ih=>
    intro n k k1 k2 off o2 c h e h2
    cases s with
    | idx i=>simp [jC] at h
    | fD m=>
      cases k with
      | st c'=>
        simp only [jC,List.cons_append] at h ⊢
        cases hq:bu m c' with
        | none=>rw [hq] at h; simp at h
        | some q=>
          rw [hq] at h
          simp only at h ⊢
          cases hr:jC p q.2 with
          | none=>rw [hr] at h; simp at h
          | some r=>
            rw [hr] at h
            simp only [afQ,af1] at h
            obtain ⟨rfl,rfl⟩:=h
            rw [ih (off:=r.1) (k1:=r.2) (by rw [hr]) e h2]
            simp only [Nat.add_assoc]
      | _=>simp [jC] at h
theorem Mt:∀(p:List Stp) {k k1 k2:K} {off:Nat},D7 p k=some k1→jC p k=some (off,k2)→k2=k1:=by
  intro p
  induction p with
  | nil=>
    intro k k1 k2 off h1 h2
    simp only [D7,afQ] at h1
    simp only [jC,afQ,af1] at h2
    rw [←h1,h2.2]
  | cons s p ih=>
    intro k k1 k2 off h1 h2
    cases s with
    | idx i=>simp [jC] at h2
    | fD m=>
      cases k with
      | st c=>
        simp only [D7,jC] at h1 h2
        cases hk:aa.Ae m c with
        | none=>rw [hk] at h1; simp at h1
        | some k0=>
          obtain ⟨o,ho⟩:=Gq m hk
          rw [hk] at h1
          rw [ho] at h2
          simp only at h1 h2
          cases hr:jC p k0 with
          | none=>rw [hr] at h2; simp at h2
          | some r=>
            rw [hr] at h2
            simp only [afQ,af1] at h2
            rw [←h2.2]
            exact ih (off:=r.1) h1 (by rw [hr])
      | _=>simp [jC] at h2
theorem BN {h:Heap}:∀(p:List Stp) {k k1:K} {x:El k} {cs:List Value} {d:Dat} {off:Nat},aO p k x=some d→jC p k=some (off,k1)→cs.length=k.size→
    k1=d.1∧off+k1.size≤cs.length∧bE h p k cs none=some ((cs.drop off).take k1.size,none)∧kH p k x∧aa p k=[]:=by
  intro p
  induction p with
  | nil=>
    intro k k1 x cs d off hg ho hl
    simp only [aO,afQ] at hg
    simp only [jC,afQ,af1] at ho
    obtain ⟨rfl,rfl⟩:=ho
    subst hg
    exact ⟨rfl,by omega,by simp [bE, ←hl],trivial,by simp [aa]⟩
  | cons s p ih=>
    intro k k1 x cs d off hg ho hl
    cases s with
    | idx i=>simp [jC] at ho
    | fD n=>
      cases k with
      | st c=>
        simp only [aO,jC] at hg ho
        cases hcg:aK n c x with
        | none=>rw [hcg] at hg; simp at hg
        | some s=>
          rw [hcg] at hg
          simp only at hg
          cases hq:bu n c with
          | none=>rw [hq] at ho; simp at ho
          | some q=>
            have hk2:q.2=s.1:=uC n (c:=c) hcg hq
            rw [hq] at ho
            obtain ⟨q1,q2⟩:=q
            simp only at hk2 ho
            subst hk2
            cases hr:jC p s.1 with
            | none=>rw [hr] at ho; simp at ho
            | some r=>
              rw [hr] at ho
              simp only [afQ,af1] at ho
              obtain ⟨rfl,rfl⟩:=ho
              have hle:=Bp n hq
              have hl':cs.length=c.size:=hl
              obtain ⟨g1,g2,g3,g4,g5⟩:=ih (cs:=(cs.drop q1).take s.1.size) (off:=r.1) (k1:=r.2) hg (by rw [hr]) (wB (by omega))
              rw [wB (by omega)] at g2
              refine ⟨g1,by omega, ?_,by simp only [kH,hcg]; exact g4,by simp [aa,bW n hcg,g5]⟩
              simp only [bE]
              rw [hq]
              simp only [Option.map_none]
              rw [g3]
              simp only [List.drop_take,List.take_take,List.drop_drop,Nat.min_eq_left (show r.2.size≤s.1.size - r.1 by omega)]
      | _=>simp [aO] at hg
theorem Ar (σ:St) (r:Nat) (A B:Root):aj (aj σ r A) r B=aj σ r B:=by
  unfold aj
  simp only [St.mk.injEq,true_and]
  funext n
  unfold upd
  cases Nat.beq n r <;> rfl
theorem DV {h:Heap}:∀(p:List Stp) {k:K} {x:El k} {t d z:Dat},p.all Stp.nG=true→aO p k x=some d→dR p k x t=some z→t.1.size=d.1.size→
    aO p z.1 z.2=some t∧kH p z.1 z.2∧aa p z.1=[]∧∀cs wh,bE h p z.1 cs wh=bE h p k cs wh:=by
  intro p
  induction p with
  | nil=>
    intro k x t d z _ hg hz hs
    simp only [dR,afQ] at hz
    subst hz
    exact ⟨rfl,trivial,by simp [aa],fun cs wh=>rfl⟩
  | cons s p ih=>
    intro k x t d z hp hg hz hs
    cases s with
    | idx i=>simp [Stp.nG] at hp
    | fD n=>
      have hp':p.all Stp.nG=true:=by simpa [Stp.nG] using hp
      cases k with
      | st c=>
        simp only [aO,dR] at hg hz
        cases hcg:aK n c x with
        | none=>rw [hcg] at hg; simp at hg
        | some s=>
          rw [hcg] at hg hz
          simp only at hg hz
          cases hs':dR p s.1 s.2 t with
          | none=>rw [hs'] at hz; simp at hz
          | some u=>
            rw [hs'] at hz
            simp only at hz
            cases hcp:cu n c x u with
            | none=>rw [hcp] at hz; simp at hz
            | some y=>
              rw [hcp] at hz
              simp only [afQ] at hz
              subst hz
              obtain ⟨i1,i2,i3,i4⟩:=ih hp' hg hs' hs
              have e1:aK n y.1 y.2=some u:=tN n hcp
              have hsz:u.1.size=s.1.size:=zn p hg hs hs'
              refine ⟨by simp only [aO,e1]; exact i1,by simp only [kH,e1]; exact i2,by simp [aa,bW n e1,i3],fun cs wh=>?_⟩
              simp only [bE]
              cases ho:bu n c with
              | none=>
                exfalso
                obtain ⟨off,h1⟩:=Gq n (bW n hcg)
                rw [ho] at h1; simp at h1
              | some q=>
                have hk2:q.2=s.1:=uC n (c:=c) hcg ho
                obtain ⟨q1,q2⟩:=q
                simp only at hk2
                subst hk2
                rw [uD n ho hcp]
                simp only
                rw [hsz]
                exact i4 _ _
      | _=>simp [aO] at hg
theorem JQ {R:Root} {r:Nat} {p:List Stp} {d:Dat} {tk:gP} {q:Root×Dat} (h:FD R r p d tk=some q) :
    ∃zg own',dR p R.k R.x (og d)=some zg∧q=(dZ R d zg own',(og d))∧(∀t∈zg.1.tys,au t own'=au t R.own)∧p.all Stp.nG=true∧(p≠[]∨∃t,R.kind=.var t)∧∀n,(r,n)∉tk.tags:=by
  unfold FD at h
  cases hc:(!d.1.flat && p.all Stp.nG && !R.keep && (!p.isEmpty || R.isVar) && tk.tags.all (fun t=>!Nat.beq t.1 r)) with
  | false=>rw [hc] at h; simp at h
  | true=>
    rw [hc] at h
    simp only [cond_true] at h
    simp only [afW] at hc
    obtain ⟨⟨⟨⟨_,c1⟩,_⟩,c2⟩,c3⟩:=hc
    unfold wK at h
    cases hz:dR p R.k R.x (og d) with
    | none=>rw [hz] at h; simp at h
    | some zg=>
      rw [hz] at h
      simp only at h
      cases hl:tk.own.filter (fun t=>!au t R.own && au t d.1.tys && !au t zg.1.tys) with
      | nil=>rw [hl] at h; simp at h
      | cons a l=>
        rw [hl] at h
        simp only [afQ] at h
        refine ⟨zg,(a :: l)++R.own,rfl,h.symm,fun t ht=>?_,c1, ?_,fun n hn=>?_⟩
        · cases hm:au t R.own with
          | true=>rw [aJ] at hm ⊢; exact afS _ hm
          | false=>
            rw [aS] at hm ⊢
            intro h1
            rcases afZ.1 h1 with h1 | h1
            · rw [←hl] at h1
              have:=(af7.1 h1).2
              simp only [afW,Bool.not_eq_true',aS] at this
              exact this.2 ht
            · exact hm h1
        · rcases Bool.or_eq_true .. |>.mp c2 with h1 | h1
          · left; intro e; rw [e] at h1; simp at h1
          · right
            unfold Root.isVar at h1
            cases hk:R.kind with
            | var t=>exact ⟨t,rfl⟩
            | anon=>rw [hk] at h1; simp at h1
            | par=>rw [hk] at h1; simp at h1
            | dead=>rw [hk] at h1; simp at h1
        · have:=af5.1 c3 _ hn
          simp at this
theorem CU {t:TypeId} {kk:K} {x:El kk} {M6:List TypeId} {nI:List Tag} {qh:List Wr} {La:Bool} {cst:List Value} {U9:List Nat} {v:Value} {r:Nat} {R:Root} (ht:fB P T t kk)
    (H:Rel cx σ α F a w) (hr:aN σ r R) (hv:bn σ R) {p:List Stp} {dd:Dat} (hg:aO p R.k R.x=some dd) (fG:kH p R.k R.x) (hown:∀t∈aa p R.k,au t R.own=true)
    (k2:bg σ (aR M6 kk) nI=true) (k3:VC kk v cst) (k1:Held cx σ α F w kk x M6 nI cst U9)
    {cs1:List Value} {b o:Nat} (hn:bE (hp w) p R.k (α.hdr r) (dQ α R r)=some (cs1,some (b,o))) {A:Type} {z:A} {k:List Wr→Prog A} {Vm:St} (h:(storeAt kk r p ⟨kk,x,M6,nI,qh,La⟩ R dd k).ends Vm z) :
    ∃w',(Instr.storeAt t (.pointer (some ⟨b,o,none⟩)) v).run P w=.ok () w'∧∃α' F',∃R',Rel cx (aj σ r R') α' F' a w'∧(k (qh++[.r r (some R')])).ends Vm z:=by
  unfold storeAt at h
  rcases ay h with ⟨hc3,h⟩ | ⟨_,h⟩
  · simp only [afW] at hc3
    simp only [gP.bad] at hc3 h
    cases hz:dR p R.k R.x ⟨kk,x⟩ with
    | none=>rw [hz] at h; exact h.elim
    | some z=>
      rw [hz] at h
      simp only at h
      rcases ay h with ⟨_,h⟩ | ⟨_,h⟩
      · exact h.elim
      · obtain ⟨w',r1,α',F',r2⟩:=M0 (P:=P) (z:=z) ht H hr hv hg hz fG hown k1 k2 k3
          (by
            rcases Bool.or_eq_true .. |>.mp hc3.1.1 with h | h
            · exact .inl (K.eq_of_beq h)
            · exact .inr (K.eq_of_beq (afW .. |>.mp h).1))
          (by
            rcases Bool.or_eq_true .. |>.mp hc3.1.2 with h | h
            · exact .inl h
            · exact .inr h)
          (fun t ht=>by
            have:=af5.1 hc3.2 t ht
            simpa [aS] using this) (R.keep || La) hn
        exact ⟨w',r1,α',F',_,r2,h⟩
  · exact h.elim
theorem Ji (hT:dU P T) (H:Rel cx σ α F a w) (hd:o.dst=none) {t:TypeId} {x y:Operand} (ho:o.op=.store t x y) {u v:AV} (h1:bH cx σ α F w u (a.eval x)) (h2:nW σ u) (h3:bH cx σ α F w v (a.eval y)) (h4:nW σ v)
    (h:(J2 T t u v fun ws=>(.ret ws:Prog (List Wr))).ends σ ws):nJ P cx o a w (az ws σ):=by
  unfold J2 at h
  cases hty:T.ty t with
  | none=>rw [hty] at h; exact h.elim
  | some kk=>
   rw [hty] at h
   cases u with
   | ptr r p n=>
    simp only at h
    have ht:=hT.ty t kk hty
    obtain ⟨tk,htk,h⟩:=nH H h3 h4 h
    rcases ay h with ⟨hc1,h⟩ | ⟨_,h⟩
    · simp only [afW] at hc1
      obtain ⟨R,hr,hv,h⟩:=cz h
      rcases ay h with ⟨hc2,h⟩ | ⟨_,h⟩
      · simp only [afW] at hc2
        cases hg:aO p R.k R.x with
        | none=>rw [hg] at h; exact h.elim
        | some dd=>
          rw [hg] at h
          simp only at h
          have hkk:tk.k=kk:=K.eq_of_beq hc1.1
          have Mk:=RP hc1.2
          have hown:=jy hc2.1.2
          obtain ⟨fG,cs,b,q,hn,e⟩:=h1.2 R hr.1 hv hc2.1.1 hown (by rw [hg]; rfl)
          have hap:=uy.1 hc2.2
          obtain ⟨dH,F1,cst,U9,lw,lh,H1,T1,k1,k2,k3,k4,k5,k6⟩:=take1 H htk
          have hS:=k6 r Mk
          have hr1:=(hS.live R).2 hr
          have hv1:bn (az tk.ws σ) R:=⟨hv.1,by rw [eP (fun t ht=>(k6 t.1 (hap t ht)).root)]; exact hv.2⟩
          have hn1:bE (hp w) p R.k (dH.hdr r) (dQ dH R r)=some (cs,some (b,q)):=by rw [hS.hdr,hS.wh]; exact hn
          obtain ⟨tkk,tkx,M6,nI,qh,La⟩:=tk
          simp only at hkk
          subst hkk
          simp only [gP.bad] at k2 k3 h
          cases hrg:FD R r p dd ⟨tkk,tkx,M6,nI,qh,La⟩ with
          | none=>
            rw [hrg] at h
            obtain ⟨w',r1,α',F',r2⟩:=CU (P:=P) ht H1 hr1 hv1 hg fG hown k3 k1 k2 hn1 h
            obtain ⟨R',r2,r3⟩:=r2
            rw [aA r3]
            refine ⟨undef,w',α',F', .inr ⟨?_,rfl⟩, ?_⟩
            · simp only [execOp,ho,e,agf,r1,af8,agl]
            · rw [hd,bQ]
              exact r2
          | some qq=>
            rw [hrg] at h
            simp only at h
            obtain ⟨hck,h⟩:=fH h
            obtain ⟨zg,own',g1,g2,g3,g4,g5,g6⟩:=JQ hrg
            subst g2
            simp only at hck h
            have hnt:=(H1.dh r R hr1.1).2.2
            obtain ⟨cs1,kP,fE,rest,hn',H2,T2,_,_,hpm⟩:=Xa (own':=own') H1 hr1 hv1 hg g1 fG hown g5 g3
            rw [hn1] at hn'
            simp only [afQ,af1] at hn'
            obtain ⟨rfl,rfl⟩:=hn'
            have hr2:aN (aj (az qh σ) r (dZ R dd zg own')) r (dZ R dd zg own'):=⟨aH ..,hr.2⟩
            have hv2:bn (aj (az qh σ) r (dZ R dd zg own')) (dZ R dd zg own'):=⟨hv.1,by
              show bg _ _ R.tags=true
              rw [kr hnt,eP (fun t ht=>(k6 t.1 (hap t ht)).root)]
              exact hck⟩
            have k1':=k2.turn H1 T2 (fun b hb=>⟨rfl,afS _ (k2.sub b hb)⟩)
            have k2':bg (aj (az qh σ) r (dZ R dd zg own')) (aR M6 tkk) nI=true:=by rw [kr g6]; exact k3
            obtain ⟨f1,f2,f3,f4⟩:=DV (h:=hp w) p g4 hg g1 (oZ dd.1)
            have hsd:(aG dH r (dH.loc r) (dH.hdr r) rest).hdr r=dH.hdr r:=by simp [aG,upd_same]
            have acP:dQ (aG dH r (dH.loc r) (dH.hdr r) rest) (dZ R dd zg own') r=dQ dH R r:=by rw [jf,qV (show (dZ R dd zg own').kind=R.kind from rfl), ←qi]
            have hn2:bE (hp w) p (dZ R dd zg own').k ((aG dH r (dH.loc r) (dH.hdr r) rest).hdr r) (dQ (aG dH r (dH.loc r) (dH.hdr r) rest) (dZ R dd zg own') r)=some (cs,some (b,q)):=by
              rw [hsd,acP]
              exact (f4 _ _).trans hn1
            obtain ⟨w',r1,α',F',r2⟩:=CU (P:=P) ht H2 hr2 hv2 f1 f2 (fun t ht=>by have ht':t∈aa p zg.1:=ht; rw [f3] at ht'; simp at ht') k2' k1 k1' hn2 h
            obtain ⟨R',r2,r3⟩:=r2
            rw [aA r3]
            refine ⟨undef,w',α',F', .inr ⟨?_,rfl⟩, ?_⟩
            · simp only [execOp,ho,e,agf,r1,af8,agl]
            · rw [hd,bQ]
              rw [Ar] at r2
              exact r2
      · exact h.elim
    · exact h.elim
   | _=>exact h.elim
theorem NP {A:Type} {z:A} {x:AV} {kk:K} {yes:Nat→Nat→Prog A} {no:Prog A} (h:(QI x kk yes no).ends σ z):(∃r g R,x=.ref r g∧aN σ r R∧bn σ R∧R.g=g∧R.k=kk∧(yes r g).ends σ z)∨no.ends σ z:=by
  cases x with
  | ref r g=>
    simp only [QI,Prog.ends] at h
    cases hr:σ.roots r with
    | none=>rw [hr] at h; exact .inr h
    | some R=>
      rw [hr] at h
      simp only at h
      rcases ay h with ⟨_,h⟩ | ⟨_,h⟩
      · obtain ⟨R',hr',hv,h⟩:=cz h
        rcases ay h with ⟨hc,h⟩ | ⟨_,h⟩
        · simp only [afW] at hc
          exact .inl ⟨r,g,R',rfl,hr',hv,afU hc.1,K.eq_of_beq hc.2,h⟩
        · exact h.elim
      · exact .inr h
  | _=>exact .inr h
theorem QO (H:Rel cx σ α F a w) (hd:o.dst=some d) (hdn:d<cx.nt) {t:TypeId} {x:Operand} (ho:o.op=.box t x)
    (h:(match T.ty t with
      | some kk=>dJ x fun a=>QI a kk (fun r g=>.ret [Wr.s d (.one (.Bu r g kk []))]) <| sF kk a fun tk=>bif tk.k.beq kk && !au t tk.bad then
          ig (aX d 0) (.ret (tk.ws++[Wr.r (aX d 0) (some (aI tk.k tk.x tk.own tk.gq (.var t) tk.keep)),Wr.s d (.one (.ptr (aX d 0) [] 0))]))
        else (.fail:Prog (List Wr))
      | none=>.fail).ends σ ws):nJ P cx o a w (az ws σ):=by
  split at h
  · rename_i kk hty
    obtain ⟨u,h1,h2,h⟩:=bP H h
    rcases NP h with ⟨r,g,R,eu,hr,hv,eg,ek,h5⟩ | h
    · subst eu eg ek
      obtain ⟨hka,x8⟩:=h1 R hr rfl
      have hb0:∀b,b<w.heap.size→hp (w.alloc (.cells (a.eval x).cells t)) b=hp w b:=fun b hb=>mg w _ hb
      have H1:Rel cx σ α F a (w.alloc (.cells (a.eval x).cells t)):=H.Od rfl rfl (by show w.heap.size≤(w.heap.push _).size; simp) hb0 rfl
      have hnew:=oh w (.cells (a.eval x).cells t)
      rw [aA h5]
      refine gT (v:=.pointer (some ⟨w.heap.size,0,none⟩)) (x:=.one (.Bu r R.g R.k [])) H1 hd hdn (by simp only [execOp,ho,agf,Ej,af8,agl]) ⟨a.eval x,w.heap.size,0,R.k,rfl,⟨?_,fun hF=>?_,fun q Q hq hbq=>?_⟩,fun i hi=>?_,rfl,h1⟩ h2
      · show w.heap.size<(w.heap.push _).size; simp
      · have:=(H.fl _ hF).1; omega
      · have:=((H.roots q Q hq).mine _ hbq).1; omega
      · unfold cellAt
        rw [hnew]
        simp
    obtain ⟨tk,htk,h⟩:=nH H h1 h2 h
    rcases ay h with ⟨_,h⟩ | ⟨_,h⟩
    · obtain ⟨g1,g2⟩:=fF h
      rw [aA g2]
      obtain ⟨dH,F1,cst,U9,lw,lh,H1,T1,k1,k2,k3,k4,k5,k6⟩:=take1 H htk
      have hnr:aX d 0∉tk.ws.flatMap Wr.pQ:=by
        intro hm
        cases htk with
        | held hws cs hv h hc=>rw [hws] at hm; simp at hm
        | ref r R hr hv e hk hd=>rw [e] at hm; simp only [List.flatMap_cons,List.flatMap_nil,agk,Wr.pQ,af9] at hm; rw [hm,hr.1] at g1; simp at g1
        | cut r R cs hr hv hk e hd hl Ml how=>rw [e.2.2.1] at hm; simp only [List.flatMap_cons,List.flatMap_nil,agk,Wr.pQ,af9] at hm; rw [hm,hr.1] at g1; simp at g1
        | gap r R p dd z hr hv hg hz fG hown hpv e hn=>rw [e] at hm; simp only [List.flatMap_cons,List.flatMap_nil,agk,Wr.pQ,af9] at hm; rw [hm,hr.1] at g1; simp at g1
      have hn1:(az tk.ws σ).roots (aX d 0)=none:=by rw [(k6 _ hnr).root]; exact g1
      obtain ⟨r1,α',F',r2,r3⟩:=Kt (P:=P) (t:=t) H1 hn1 (eO d 0) k2 k3 k1 tk.keep
      rw [bQ]
      exact gT (x:=.one (.ptr (aX d 0) [] 0)) r2 hd hdn (by simp only [execOp,ho,agf,r1,af8,agl]) r3 ⟨_,aH .., .inr (agq _)⟩
    · exact h.elim
  · exact h.elim
theorem He {B:Type} {z:B} (hT:dU P T) (H:Rel cx σ α F a w) {t:TypeId} {x:Operand} {v:AV} {oQ:Bool} (ho:o.op=.load t x) (h1:bH cx σ α F w v (a.eval x)) (h2:nW σ v) {k:AV→Prog B}
    (h:(yf T oQ t v k).ends σ z):∃u v',(execOp a.eval o).run P w=.ok (.value v') w∧bH cx σ α F w u v'∧nW σ u∧(k u).ends σ z:=by
  unfold yf at h
  split at h
  · exact h.elim
  · rename_i kk hty
    have ht:=hT.ty t kk hty
    obtain ⟨s1,s2,s3⟩:=ht.shape
    split at h
    · rename_i r g k0 p
      obtain ⟨u,b,off,k1,e,hq,hC,ho1,hR⟩:=h1
      obtain ⟨R,hr,hv,h⟩:=cz h
      rcases ay h with ⟨hc,h⟩ | ⟨_,h⟩
      · simp only [afW] at hc
        cases hg:aO p R.k R.x with
        | none=>rw [hg] at h; exact h.elim
        | some dd=>
          rw [hg] at h
          simp only at h
          obtain ⟨dk,dx⟩:=dd
          rcases beq_true h with ⟨ek,h5⟩ | ⟨_,h⟩
          · simp only at ek
            subst ek
            have hk0:=K.eq_of_beq hc.1.2
            subst hk0
            obtain ⟨hka,x8⟩:=hR R hr (afU hc.1.1)
            rw [x8.cells] at hC
            have hwn:dQ α R r=none:=by unfold dQ; rw [hka]
            obtain ⟨g1,g2,g3,g4,g5⟩:=BN (h:=hp w) p hg ho1 (H.roots r R hr).len
            simp only at g1
            subst g1
            have hown:∀t∈aa p R.k,au t R.own=true:=fun t ht=>by rw [g5] at ht; simp at ht
            have hn:bE (hp w) p R.k (α.hdr r) (dQ α R r)=some (((α.hdr r).drop off).take k1.size,none):=by rw [hwn]; exact g3
            obtain ⟨fE,hO,hf⟩:=qM H hr hv hg g4 hown hn
            have hV:=lI H hr hO hf
            have hcs:Cells (hp w) b off (((α.hdr r).drop off).take k1.size):=by
              intro i hi
              have hi':i<k1.size:=by rw [wB g2] at hi; exact hi
              have:=hC (off+i) (by omega)
              rw [Nat.zero_add] at this
              rw [this,List.getElem?_take_of_lt hi',List.getElem?_drop]
            obtain ⟨u',hu⟩:=VC.mk s1 s2 s3 hV
            have hrun:=pq (P:=P) ht hcs (jP hV) hu
            have hrun':(execOp a.eval o).run P w=.ok (.value u') w:=by simp only [execOp,ho,e,agf,hrun,af8,agl]
            rcases ay h5 with ⟨hf,h6⟩ | ⟨_,h6⟩
            · exact ⟨.val k1 dx [],u',hrun',fun _=>⟨_,hu,iF hf hV⟩,fun t ht=>by simp at ht,h6⟩
            · exact ⟨.oQ r p R.rR,u',hrun',vv (cx:=cx) (F:=F) hr hg g4 hown hn hu,⟨R,hr.1, .inr (af6 _)⟩,h6⟩
          · exact h.elim
      · exact h.elim
    rcases uw H h1 h2 h with ⟨r,R,p,dd,cs,b,q,hr,hv,hg,fG,hown,hn,e,h⟩ | ⟨bt,dd,Tg,b,q,cs,hw,e,hcs,hV,hok,hb,h⟩
    · obtain ⟨hC,⟨fE,hO,hf⟩,_⟩:=mO H hr hv hg fG hown hn
      obtain ⟨dk,dx⟩:=dd
      rcases beq_true h with ⟨ek,h5⟩ | ⟨_,h⟩
      · simp only at ek
        subst ek
        clear h
        have h:=h5
        clear h5
        have hV:=lI H hr hO hf
        obtain ⟨u,hu⟩:=VC.mk s1 s2 s3 hV
        have hrun:=pq (P:=P) ht hC (jP hV) hu
        have hrun':(execOp a.eval o).run P w=.ok (.value u) w:=by simp only [execOp,ho,e,agf,hrun,af8,agl]
        rcases ay h with ⟨_,h⟩ | ⟨_,h⟩
        · exact ⟨.oQ r p R.rR,u,hrun',vv (cx:=cx) (F:=F) hr hg fG hown hn hu,⟨R,hr.1, .inr (af6 _)⟩,h⟩
        · exact ⟨.val dk dx _,u,hrun',fun _=>⟨cs,hu,hV⟩,Ec H hr _,h⟩
      · exact h.elim
    · obtain ⟨dk,dx⟩:=dd
      rcases beq_true h with ⟨ek,h5⟩ | ⟨_,h⟩
      · simp only at ek
        subst ek
        clear h
        have h:=h5
        clear h5
        obtain ⟨u,hu⟩:=VC.mk s1 s2 s3 hV
        have hrun:=pq (P:=P) ht hcs (jP hV) hu
        have hrun':(execOp a.eval o).run P w=.ok (.value u) w:=by simp only [execOp,ho,e,agf,hrun,af8,agl]
        refine ⟨.val dk dx _,u,hrun',fun _=>⟨cs,hu, ?_⟩, ?_,h⟩
        · cases hf:dk.flat with
          | true=>exact iF hf hV
          | false=>exact hV
        · cases hf:dk.flat with
          | true=>intro t ht; simp at ht
          | false=>exact hw
      · exact h.elim
theorem NS (hT:dU P T) (H:Rel cx σ α F a w) (hd:o.dst=some d) (hdn:d<cx.nt) {t:TypeId} {x:Operand} {oQ:Bool} (ho:o.op=.load t x)
    (h:(dJ x fun v=>yf T oQ t v fun u=>(.ret [Wr.s d (.one u)]:Prog (List Wr))).ends σ ws):nJ P cx o a w (az ws σ):=by
  obtain ⟨v,h1,h2,h⟩:=bP H h
  obtain ⟨u,v',g1,g2,g3,h⟩:=He hT H ho h1 h2 h
  rw [aA h]
  exact bI H hd hdn g1 g2 g3
theorem Gw (hT:dU P T) (H:Rel cx σ α F a w) (hd:o.dst=some d) (hdn:d<cx.nt) {t:TypeId} {x:Operand} (ho:o.op=.load t x)
    (h:(dJ x fun v=>yf T true t v fun u=>match T.ty t with
      | some kk=>sF kk u fun tk=>ig (aX d 0) (.ret (tk.ws++[Wr.r (aX d 0) (some (aI tk.k tk.x tk.own tk.gq .anon tk.keep)),Wr.s d (.one (.ref (aX d 0) 0))]))
      | none=>(.fail:Prog (List Wr))).ends σ ws):nJ P cx o a w (az ws σ):=by
  obtain ⟨v,h1,h2,h⟩:=bP H h
  obtain ⟨u,v',hrun,g4,g5,h⟩:=He hT H ho h1 h2 h
  split at h
  · rename_i kk hty
    obtain ⟨tk,htk,h⟩:=nH H g4 g5 h
    obtain ⟨g1,g2⟩:=fF h
    rw [aA g2]
    obtain ⟨dH,F1,cst,U9,lw,lh,H1,T1,k1,k2,k3,k4,k5,k6⟩:=take1 H htk
    have hnr:aX d 0∉tk.ws.flatMap Wr.pQ:=by
      intro hm
      cases htk with
      | held hws cs hv h hc=>rw [hws] at hm; simp at hm
      | ref r R hr hv e hk hd=>rw [e] at hm; simp only [List.flatMap_cons,List.flatMap_nil,agk,Wr.pQ,af9] at hm; rw [hm,hr.1] at g1; simp at g1
      | cut r R cs hr hv hk e hd hl Ml how=>rw [e.2.2.1] at hm; simp only [List.flatMap_cons,List.flatMap_nil,agk,Wr.pQ,af9] at hm; rw [hm,hr.1] at g1; simp at g1
      | gap r R p dd z hr hv hg hz fG hown hpv e hn=>rw [e] at hm; simp only [List.flatMap_cons,List.flatMap_nil,agk,Wr.pQ,af9] at hm; rw [hm,hr.1] at g1; simp at g1
    have hn1:(az tk.ws σ).roots (aX d 0)=none:=by rw [(k6 _ hnr).root]; exact g1
    obtain ⟨α',r2,r3⟩:=tJ (F':=F1.filter fun b=>!au b U9) H1 hn1 (eO d 0) k2.sub k2.nd (wC k2.wt)
      (fun b hb=>by
        obtain ⟨q1,q2⟩:=af7.1 hb
        simp only [Bool.not_eq_true',aS] at q2
        exact ⟨q1,q2⟩) (H1.uU.filter _) k2.len
      (fun hcl=>by
        cases hb:tk.bad with
        | nil=>exact fP hb (k2.ow k3)
        | cons t0 l=>
          have et:tk.gq=tk.tags:=by
            unfold gP.gq
            rw [hb]
          rw [et] at hcl ⊢
          exact bq (fun _ _=>rfl) (fun b h=>.inl h) (fun _ _=>rfl) (k2.ow hcl)) k1 tk.keep
    rw [bQ]
    exact gT (x:=.one (.ref (aX d 0) 0)) r2 hd hdn hrun r3 ⟨_,aH .., .inr (agq _)⟩
  · exact h.elim
end
end
section
open Go
variable [Fr]
theorem F9 {h:Heap} {ok:Nat→Prop}:∀(n:Nat) {c:K} {x:El c} {cs:List Value} {d:Dat},Vw h ok c x cs→aK n c x=some d→∃off,bu n c=some (off,d.1)∧Vw h ok d.1 d.2 ((cs.drop off).take d.1.size):=by
 intro n
 induction n with
 | zero=>
  intro c x cs d H hg
  cases c with
  | pair a b=>
   simp only [aK,afQ] at hg
   subst hg
   obtain ⟨c1,c2,rfl,h1,h2⟩:=H
   refine ⟨0,rfl, ?_⟩
   have:=jP h1
   simpa [←this] using h1
  | _=>simp [aK] at hg
 | succ n ih=>
  intro c x cs d H hg
  cases c with
  | pair a b=>
   simp only [aK] at hg
   obtain ⟨c1,c2,rfl,h1,h2⟩:=H
   obtain ⟨off,g1,g2⟩:=ih h2 hg
   refine ⟨a.size+off,by simp [bu,g1], ?_⟩
   have:=jP h1
   rw [←this, ←List.drop_drop]
   simpa using g2
  | _=>simp [aK] at hg
theorem zP:∀(p:List Stp) {q:List Stp} {k:K} {x:El k} {d:Dat},aO p k x=some d→aO (p++q) k x=aO q d.1 d.2:=by
 intro p
 induction p with
 | nil=>intro q k x d h; simp only [aO,afQ] at h; subst h; rfl
 | cons s p ih=>
  intro q k x d h
  cases s with
  | fD n=>
   cases k with
   | st c=>
    simp only [aO,List.cons_append] at h ⊢
    cases hg:aK n c x with
    | none=>rw [hg] at h; simp at h
    | some s=>rw [hg] at h; exact ih h
   | _=>simp [aO] at h
  | idx i=>
   cases k with
   | sl e k=>simp only [aO,List.cons_append] at h ⊢; exact ih h
   | _=>simp [aO] at h
theorem wR:∀(p:List Stp) {q:List Stp} {k:K} {x:El k} {d:Dat},aO p k x=some d→kH p k x→kH q d.1 d.2→kH (p++q) k x:=by
 intro p
 induction p with
 | nil=>intro q k x d h _ h2; simp only [aO,afQ] at h; subst h; exact h2
 | cons s p ih=>
  intro q k x d h h1 h2
  cases s with
  | fD n=>
   cases k with
   | st c=>
    simp only [aO,kH,List.cons_append] at h h1 ⊢
    cases hg:aK n c x with
    | none=>rw [hg] at h; simp at h
    | some s=>rw [hg] at h h1; exact ih h h1 h2
   | _=>simp [aO] at h
  | idx i=>
   cases k with
   | sl e k=>simp only [aO,kH,List.cons_append] at h h1 ⊢; exact ⟨h1.1,h1.2.1,ih h h1.2.2 h2⟩
   | _=>simp [aO] at h
theorem vP:∀(p:List Stp) {q:List Stp} {k:K} {x:El k} {d:Dat},aO p k x=some d→aa (p++q) k=aa p k++aa q d.1:=by
 intro p
 induction p with
 | nil=>intro q k x d h; simp only [aO,afQ] at h; subst h; rfl
 | cons s p ih=>
  intro q k x d h
  cases s with
  | fD n=>
   cases k with
   | st c=>
    simp only [aO,aa,List.cons_append] at h ⊢
    cases hg:aK n c x with
    | none=>rw [hg] at h; simp at h
    | some s=>rw [hg] at h; rw [bW n hg]; exact ih h
   | _=>simp [aO] at h
  | idx i=>
   cases k with
   | sl e k=>simp only [aO,aa,List.cons_append] at h ⊢; rw [ih h]
   | _=>simp [aO] at h
theorem vL {h:Heap}:∀(p:List Stp) {q:List Stp} {k:K} {x:El k} {d:Dat} {cs:List Value} {wh:Option (Nat×Nat)} {c1:List Value} {w1:Option (Nat×Nat)},aO p k x=some d→bE h p k cs wh=some (c1,w1)→bE h (p++q) k cs wh=bE h q d.1 c1 w1:=by
 intro p
 induction p with
 | nil=>
  intro q k x d cs wh c1 w1 h h1
  simp only [aO,afQ] at h
  subst h
  simp only [bE,afQ,af1] at h1
  obtain ⟨rfl,rfl⟩:=h1
  rfl
 | cons s p ih=>
  intro q k x d cs wh c1 w1 h h1
  cases s with
  | fD n=>
   cases k with
   | st c=>
    simp only [aO,bE,List.cons_append] at h h1 ⊢
    cases hg:aK n c x with
    | none=>rw [hg] at h; simp at h
    | some s=>
     rw [hg] at h
     cases ho:bu n c with
     | none=>rw [ho] at h1; simp at h1
     | some q2=>
      rw [ho] at h1
      have hk:=uC n (c:=c) hg ho
      obtain ⟨o2,k2⟩:=q2
      simp only at hk
      subst hk
      exact ih h h1
   | _=>simp [aO] at h
  | idx i=>
   cases k with
   | sl e k=>
    simp only [aO,List.cons_append] at h
    simp only [bE,List.cons_append] at h1 ⊢
    split at h1
    ·exact ih h h1
    ·simp at h1
   | _=>simp [aO] at h
theorem Bf {a b:K} (h:a.beq b=true):a.size=b.size:=by rw [K.eq_of_beq h]
theorem ME:∀{a b:K},a.like b=true→a.size=b.size:=by
 intro a
 induction a with
 | gap n=>intro b h; simp only [K.like] at h; exact afU h
 | pair a b iha ihb=>
  intro c h
  cases c with
  | pair c d=>simp only [K.like,afW] at h; simp [K.size,iha h.1,ihb h.2]
  | _=>exact Bf (by simpa [K.like] using h)
 | st f ih=>
  intro b h
  cases b with
  | st g=>simp only [K.like] at h; exact ih (b:=g) h
  | _=>exact Bf (by simpa [K.like] using h)
 | _=>intro b h; exact Bf (by simpa [K.like] using h)
theorem Pf:∀(n:Nat) {a b:K} {off:Nat} {k:K},a.like b=true→bu n a=some (off,k)→∃k',bu n b=some (off,k'):=by
 intro n
 induction n with
 | zero=>
  intro a b off k h ho
  cases a with
  | pair a1 a2=>
   simp only [bu,afQ,af1] at ho
   cases b with
   | pair b1 b2=>exact ⟨b1,by simp [bu,ho.1]⟩
   | _=>simp [K.like,K.beq] at h
  | _=>simp [bu] at ho
 | succ n ih=>
  intro a b off k h ho
  cases a with
  | pair a1 a2=>
   simp only [bu] at ho
   cases h2:bu n a2 with
   | none=>rw [h2] at ho; simp at ho
   | some q=>
    rw [h2] at ho
    simp only [afQ,af1] at ho
    cases b with
    | pair b1 b2=>
     simp only [K.like,afW] at h
     obtain ⟨k',h3⟩:=ih (off:=q.1) (k:=q.2) h.2 (by rw [h2])
     exact ⟨k',by simp [bu,h3, ←ho.1,ME h.1]⟩
    | _=>simp [K.like,K.beq] at h
  | _=>simp [bu] at ho
section
variable {P:Program} {T:iD} {cx:Cx} {σ:St} {α:dI} {F:List Nat} {a:Act} {w:World} {o:Oper} {d:Nat} {ws:List Wr}
theorem Ii {t:TypeId} {c:K} (h:fB P T t (.st c)) {n off:Nat} {k:K} (ho:bu n c=some (off,k)) (b q:Nat) :
  (Instr.fieldAt t (.pointer (some ⟨b,q,none⟩)) n).run P w=.ok (.pointer (some ⟨b,q+off,none⟩)) w:=by
 obtain ⟨fs,hu,hf⟩:=h.st
 obtain ⟨f,f1,f2,f3,f4⟩:=structField n hf ho
 have f1':fs[n]?=some f:=by rw [←Array.getElem?_toList]; exact f1
 unfold Instr.fieldAt Instr.sureAddr fieldPlace
 simp only [agf,run_underlying hu,Result.andThen,f1',agl,f3.info.sizeOf w,Sem.run_ite]
 rw [if_neg (by omega),addr_add]
 simp [show f.offset=off from by omega]
theorem LU (hT:dU P T) (H:Rel cx σ α F a w) (hd:o.dst=some d) (hdn:d<cx.nt) {t:TypeId} {x:Operand} {n:Nat} (ho:o.op=.field t x n)
  (h:(match T.ty t with
   | some kk=>dJ x fun a=>BJ kk a n fun u=>.ret [Wr.s d (.one u)]
   | none=>(.fail:Prog (List Wr))).ends σ ws):nJ P cx o a w (az ws σ):=by
 split at h
 case h_2=>exact h.elim
 rename_i kk hty
 have ht:=hT.ty t kk hty
 obtain ⟨v,h1,h2,h⟩:=bP H h
 have KH:∀{c:K} {cs:List Value} {off:Nat} {k:K},kk=.st c→a.eval x=.agg cs.toArray→bu n c=some (off,k)→cs.length=c.size→(∀v∈cs,v.oneCell'=true)→
   ∃u,(execOp a.eval o).run P w=.ok (.value u) w∧VC k u ((cs.drop off).take k.size):=by
  intro c cs off k ek ev hoff hl h1
  subst ek
  obtain ⟨u,g1,g2⟩:=MW (w:=w) ht hoff hl h1
  exact ⟨u,by simp only [execOp,ho,ev,agf,g1,af8,agl],g2⟩
 have key:∀{r:Nat} {R:Root} {p:List Stp} {d0 dd:Dat} {cs:List Value} {wh:Option (Nat×Nat)},aN σ r R→bn σ R→aO p R.k R.x=some d0→d0.1=kk→aO (p++[.fD n]) R.k R.x=some dd→kH p R.k R.x→(∀t∈aa p R.k,au t R.own=true)→
   bE (hp w) p R.k (α.hdr r) (dQ α R r)=some (cs,wh)→VC d0.1 (a.eval x) cs→
   ∃u,(execOp a.eval o).run P w=.ok (.value u) w∧bH cx σ α F w (.oQ r (p++[.fD n]) R.rR) u∧(dd.1.flat=true→bH cx σ α F w (.val dd.1 dd.2 []) u):=by
  intro r R p d0 dd cs wh hr hv hg0 e0 hg fG hown hn x8
  obtain ⟨k0,x0⟩:=d0
  simp only at e0
  subst e0
  have hg1:=zP p (q:=[.fD n]) hg0
  rw [hg] at hg1
  have hpt:=vP p (q:=[.fD n]) hg0
  cases k0 with
  | st c=>
   simp only [aO] at hg1
   cases hcg:aK n c x0 with
   | none=>rw [hcg] at hg1; simp at hg1
   | some s=>
    rw [hcg] at hg1
    simp only [aO,afQ] at hg1
    subst hg1
    obtain ⟨fE,hO,hf⟩:=qM H hr hv hg0 fG hown hn
    obtain ⟨off,pre,cs1,post,RY,fr,ho1,ec,hl,hp,hd2,_⟩:=AA n (show Ow _ _ _ c x0 cs fE from hO) hcg
    have hsub:(cs.drop off).take s.1.size=cs1:=by rw [ec]; exact mR hl (cO hd2)
    obtain ⟨u,r1,r2⟩:=KH rfl x8 ho1 (cO (k:=c) hO) (IJ ht.eF hO)
    rw [hsub] at r2
    refine ⟨u,r1,vv (cs:=cs1) (wh:=wh.map fun q=>(q.1,q.2+off)) hr hg ?_ ?_ ?_ r2,fun hfl=>fun _=>⟨cs1,r2,iF hfl (jJ (fun _=>True) (fun _ _=>trivial) (fun _ _=>trivial) hd2)⟩⟩
    ·exact wR p hg0 fG (by simp only [kH,hcg])
    ·rw [hpt]
     intro t ht
     rcases afZ.1 ht with h | h
     ·exact hown t h
     ·simp [aa,bW n hcg] at h
    ·rw [vL p hg0 hn]
     simp only [bE]
     rw [ho1]
     simp only
     rw [hsub]
  | _=>simp [aO] at hg1
 cases v with
 | val k0 y Tg=>
  cases k0 with
  | st c=>
   simp only [BJ] at h
   rcases ay h with ⟨hc,h⟩ | ⟨_,h⟩
   ·have ek:=K.eq_of_beq hc
    cases hg:aK n c y with
    | none=>rw [hg] at h; exact h.elim
    | some dd=>
     rw [hg] at h
     obtain ⟨g1,g2⟩:=fH h
     rw [aA g2]
     obtain ⟨cs,hv,hV⟩:=h1 (.inr g1)
     obtain ⟨off,ho1,ho2⟩:=F9 n (show Vw _ _ c y cs from hV) hg
     obtain ⟨u,r1,r2⟩:=KH ek.symm hv ho1 (jP (k:=c) hV) (EE (k:=.st c) (by rw [ek]; exact ht.eF) hV)
     refine bI H hd hdn r1 (show bH cx σ α F w (.val dd.1 dd.2 _) u from fun _=>⟨_,r2, ?_⟩) ?_
     ·cases hf:dd.1.flat with
      | true=>exact iF hf ho2
      | false=>exact ho2
     ·cases hf:dd.1.flat with
      | true=>intro t ht; simp at ht
      | false=>exact h2
   ·exact h.elim
  | _=>exact h.elim
 | ref r g=>
  simp only [BJ] at h
  obtain ⟨R,hr,hv,h⟩:=cz h
  rcases ay h with ⟨hc,h5⟩ | ⟨_,h⟩
  ·simp only [afW] at hc
   obtain ⟨hka,x8⟩:=h1 R hr (afU hc.1)
   have ek:=K.eq_of_beq hc.2
   cases hg:aO [.fD n] R.k R.x with
   | none=>rw [hg] at h5; exact h5.elim
   | some dd=>
    rw [hg] at h5
    simp only at h5
    obtain ⟨u,r1,r2,r3⟩:=key (p:=[]) (d0:=⟨R.k,R.x⟩) hr hv rfl ek hg trivial (fun t ht=>by simp [aa] at ht) rfl x8
    rcases ay h5 with ⟨hf,h6⟩ | ⟨_,h6⟩
    ·rw [aA h6]
     exact bI H hd hdn r1 (r3 hf) (fun t ht=>by simp at ht)
    ·rw [aA h6]
     exact bI (x:=.one (.oQ r [.fD n] R.rR)) H hd hdn r1 r2 ⟨R,hr.1, .inr (af6 _)⟩
  ·exact h.elim
 | oQ r p nn=>
  simp only [BJ] at h
  obtain ⟨R,hr,hv,h⟩:=cz h
  rcases ay h with ⟨hc,h5⟩ | ⟨_,h⟩
  ·cases hg0:aO p R.k R.x with
   | none=>rw [hg0] at h5; exact h5.elim
   | some d0=>
    cases hg:aO (p++[.fD n]) R.k R.x with
    | none=>rw [hg0,hg] at h5; exact h5.elim
    | some dd=>
     rw [hg0,hg] at h5
     simp only at h5
     rcases ay h5 with ⟨_,h6⟩ | ⟨hk,h6⟩
     ·exact h6.elim
     ·have ek:d0.1=kk:=K.eq_of_beq (by simpa using hk)
      obtain ⟨g1,g2,cs,wh,g3,g4⟩:=h1 R hr.1 hv (afU hc) d0 hg0
      obtain ⟨u,r1,r2,r3⟩:=key hr hv hg0 ek hg g1 g2 g3 g4
      rcases ay h6 with ⟨hf,h7⟩ | ⟨_,h7⟩
      ·rw [aA h7]
       exact bI H hd hdn r1 (r3 hf) (fun t ht=>by simp at ht)
      ·rw [aA h7]
       exact bI (x:=.one (.oQ r (p++[.fD n]) R.rR)) H hd hdn r1 (show iM cx σ α F w (.one (.oQ r (p++[.fD n]) R.rR)) u from r2) ⟨R,hr.1, .inr (af6 _)⟩
  ·exact h.elim
 | _=>exact h.elim
theorem Db (hT:dU P T) (H:Rel cx σ α F a w) (hd:o.dst=some d) (hdn:d<cx.nt) {t:TypeId} {x:Operand} {n:Nat} (ho:o.op=.fieldAddr t x n)
  (h:(match T.ty t with
   | some kk=>dJ x fun a=>rq kk a n fun u=>.ret [Wr.s d (.one u)]
   | none=>(.fail:Prog (List Wr))).ends σ ws):nJ P cx o a w (az ws σ):=by
 split at h
 case h_2=>exact h.elim
 rename_i kk hty
 have ht:=hT.ty t kk hty
 obtain ⟨v,h1,h2,h⟩:=bP H h
 have hrun:∀{c:K} {off:Nat} {k:K} {b q:Nat},kk=.st c→bu n c=some (off,k)→a.eval x=.pointer (some ⟨b,q,none⟩)→(execOp a.eval o).run P w=.ok (.value (.pointer (some ⟨b,q+off,none⟩))) w:=by
  intro c off k b q ek hoff ev
  subst ek
  have:=Ii (w:=w) ht hoff b q
  simp only [execOp,ho,ev,agf,this,af8,agl]
 cases v with
 | ptr r p m=>
  simp only [rq,Prog.ends] at h
  cases hr0:σ.roots r with
  | none=>rw [hr0] at h; exact h.elim
  | some R=>
   rw [hr0] at h
   simp only at h
   cases hg:aO p R.k R.x with
   | none=>rw [hg] at h; exact h.elim
   | some d0=>
    rw [hg] at h
    simp only at h
    rcases ay h with ⟨hc,h5⟩ | ⟨_,h5⟩
    ·simp only [afW] at hc
     rw [aA h5]
     unfold Fa at hc
     cases kk with
     | st c=>
      obtain ⟨off,kf,hoff⟩:=EO n hc.2
      obtain ⟨⟨b,q,ev⟩,h1'⟩:=h1
      refine bI (x:=.one (.ptr r (p++[.fD n]) m)) H hd hdn (hrun rfl hoff ev) ⟨⟨b,q+off,rfl⟩, ?_⟩ h2
      intro R' hR' hv hcl hown hs
      rw [hr0] at hR'
      simp only [afQ] at hR'
      subst hR'
      have hpt:=vP p (q:=[.fD n]) hg
      have e0:aa [.fD n] d0.1=[]:=by
       obtain ⟨dk,dx⟩:=d0
       cases dk with
       | st c'=>
        simp only [aa]
        cases aa.Ae n c' <;> rfl
       | _=>rfl
      rw [e0,agk] at hpt
      have hcl':clean R.h m (dS p R.k)=true:=by
       unfold clean at hcl ⊢
       rw [af5] at hcl ⊢
       intro t ht
       have:=hcl t ht
       simp only [Bool.not_eq_true',aS] at this ⊢
       intro h6
       refine this ?_
       have e1:dS (p++[.fD n]) R.k=mY :: aa (p++[.fD n]) R.k:=by cases p <;> rfl
       rw [e1,hpt]
       cases p with
       | nil=>simp [dS] at h6
       | cons s p=>exact h6
      rw [hpt] at hown
      obtain ⟨g1,cs,b',q',g2,g3⟩:=h1' R hr0 hv hcl' hown (by rw [hg]; rfl)
      rw [ev] at g3
      simp only [Value.pointer.injEq,afQ,Addr.mk.injEq,and_true] at g3
      obtain ⟨rfl,rfl⟩:=g3
      have hga:=zP p (q:=[.fD n]) hg
      rw [hga] at hs
      obtain ⟨dk,dx⟩:=d0
      cases dk with
      | st c'=>
       simp only [aO] at hs
       cases hcg:aK n c' dx with
       | none=>rw [hcg] at hs; simp at hs
       | some s=>
        have hck:(aa.Ae n c').isSome=true:=by rw [bW n hcg]; rfl
        obtain ⟨off',kf',Sd⟩:=EO n hck
        have hl:c'.like c=true:=hc.1
        obtain ⟨kf2,OH⟩:=Pf n hl Sd
        rw [hoff] at OH
        simp only [afQ,af1] at OH
        refine ⟨wR p hg g1 (by simp only [kH,hcg]),(cs.drop off').take kf'.size,b,q+off, ?_,rfl⟩
        rw [vL p hg g2]
        simp only [bE]
        rw [Sd]
        simp [OH.1]
      | _=>simp [aO] at hs
     | _=>simp at hc
    ·exact h5.elim
 | iK bt k0 y Tg=>
  cases k0 with
  | st c=>
   simp only [rq] at h
   rcases ay h with ⟨hc,h5⟩ | ⟨_,h5⟩
   ·have ek:=K.eq_of_beq hc
    cases hg:aK n c y with
    | none=>rw [hg] at h5; exact h5.elim
    | some dd=>
     rw [hg] at h5
     obtain ⟨g1,g2⟩:=fH h5
     rw [aA g2]
     obtain ⟨b,q,cs,e,hcs,hV,hok,hb⟩:=h1.2 g1
     obtain ⟨off,ho1,ho2⟩:=F9 n (show Vw _ _ c y cs from hV) hg
     have hle:=Bp n ho1
     have hlen:=jP (k:=c) hV
     refine bI (x:=.one (.iK bt dd.1 dd.2 Tg)) H hd hdn (hrun ek.symm ho1 e) ⟨⟨b,q+off,rfl⟩,fun _=>⟨b,q+off,_,rfl, ?_,ho2,hok,hb⟩⟩ h2
     intro i hi
     simp only [List.length_take,List.length_drop] at hi
     rw [Nat.add_assoc,hcs (off+i) (by omega)]
     rw [List.getElem?_take_of_lt (by omega),List.getElem?_drop]
   ·exact h5.elim
  | _=>exact h.elim
 | Bu r g k0 p=>
  simp only [rq] at h
  cases hk:D7 p k0 with
  | none=>rw [hk] at h; exact h.elim
  | some k1=>
   rw [hk] at h
   simp only at h
   rcases ay h with ⟨hc,h5⟩ | ⟨_,h5⟩
   ·simp only [afW] at hc
    rw [aA h5]
    have ek:=K.eq_of_beq hc.1
    subst ek
    obtain ⟨u,b,off,k2,e,hq,hC,ho1,hR⟩:=h1
    have e2:=Mt p hk ho1
    subst e2
    unfold Fa at hc
    cases k2 with
    | st c=>
     obtain ⟨o2,kf,hoff⟩:=EO n hc.2
     exact bI (x:=.one (.Bu r g k0 (p++[.fD n]))) H hd hdn (hrun rfl hoff e) ⟨u,b,off+o2,kf,rfl,hq,hC,Di p ho1 rfl hoff,hR⟩ h2
    | _=>simp at hc
   ·exact h5.elim
 | _=>exact h.elim
theorem run_indexAt {t e:TypeId} {k:K} (h:fB P T t (.sl e k)) {ik:IntKind} {i:Int} {b q n c:Nat} (h0:0≤i) (h1:i<(n:Int)) :
  (Instr.indexAt t (.slice (some ⟨b,q,none⟩) n c) (.int ik i)).run P w=.ok (.pointer (some ⟨b,q+i.toNat * k.size,none⟩)) w:=by
 obtain ⟨hu,he,_,_⟩:=h.sl
 unfold Instr.indexAt
 simp [asIntOf,run_underlying hu,Result.andThen,h0,h1,he.info.sizeOf w,addr_add]
end
end
section
open Go
variable [Fr]
section
variable {P:Program} {T:iD} {cx:Cx} {σ:St} {α:dI} {F:List Nat} {a:Act} {w:World} {o:Oper} {d:Nat} {ws:List Wr}
theorem xy {e:TypeId} {k:K} {v:Value} {cs:List Value} {h:Heap} {ok:Nat→Prop} {xs:List (El k)} (hv:VC (.sl e k) v cs) (hV:Vw h ok (.sl e k) xs cs) :
  ∃b n c,v=.slice b n c∧cs=[.slice b n c]∧n=xs.length∧n≤c∧(0<n→∃bb q,b=some ⟨bb,q,none⟩∧ok bb∧q9 h bb e∧∀(i:Nat) (hi:i<xs.length),∃ds,Cells h bb (q+i * k.size) ds∧Vw h ok k xs[i] ds):=by
 obtain ⟨b,n,c,e1,e2,e3,e4⟩:=hV
 obtain ⟨e5,_⟩:cs=[v]∧_:=hv
 rw [e1] at e5
 simp only [List.cons.injEq,and_true] at e5
 exact ⟨b,n,c,e5.symm,e1,e2,e3,e4⟩
theorem Dc (hT:dU P T) (H:Rel cx σ α F a w) (hd:o.dst=some d) (hdn:d<cx.nt) {t:TypeId} {x y:Operand} (ho:o.op=.indexAddr t x y)
  (h:(match T.ty t with
   | some kk=>dJ x fun a=>dJ y fun i=>asInt i fun _ i=>ry kk a i fun u=>.ret [Wr.s d (.one u)]
   | none=>(.fail:Prog (List Wr))).ends σ ws):nJ P cx o a w (az ws σ):=by
 split at h
 case h_2=>exact h.elim
 rename_i k0 hty
 have ht:=hT.ty t k0 hty
 obtain ⟨v,h1,h2,h⟩:=bP H h
 obtain ⟨vi,h3,_,h⟩:=bP H h
 obtain ⟨ik,i,ei,_,h⟩:=tK h3 h
 have hrun:∀{e:TypeId} {k:K} {b q n c:Nat},k0=.sl e k→a.eval x=.slice (some ⟨b,q,none⟩) n c→0≤i→i<(n:Int)→(execOp a.eval o).run P w=.ok (.value (.pointer (some ⟨b,q+i.toNat * k.size,none⟩))) w:=by
  intro e k b q n c ek ev g0 g1
  subst ek
  have:=run_indexAt (w:=w) (ik:=ik) (b:=b) (q:=q) (c:=c) ht g0 g1
  simp only [execOp,ho,ev,ei,agf,this,af8,agl]
 have key:∀{r:Nat} {R:Root} {p:List Stp} {e:TypeId} {kk:K} {xs:List (El kk)} {cs:List Value} {wh:Option (Nat×Nat)},aN σ r R→bn σ R→aO p R.k R.x=some ⟨.sl e kk,xs⟩→K.sl e kk=k0→kH p R.k R.x→(∀t∈aa p R.k,au t R.own=true)→
   bE (hp w) p R.k (α.hdr r) (dQ α R r)=some (cs,wh)→VC (.sl e kk) (a.eval x) cs→aM i xs.length→
   ∃u,(execOp a.eval o).run P w=.ok (.value u) w∧bH cx σ α F w (.ptr r (p++[.idx i]) (fV R.h)) u∧bH cx σ α F w (.iK e kk (xs.getD i.toNat kk.zero) (R.out r (.sl e kk))) u:=by
  intro r R p e kk xs cs wh hr hv hg ek fG hown hn x8 hin
  obtain ⟨fE,hO,hf⟩:=qM H hr hv hg fG hown hn
  have hV:=lI H hr hO hf
  obtain ⟨b,n,c,g1,g2,g3,g4,g5⟩:=xy x8 hV
  have i0:(0:Int)≤i:=hin.1
  have i1:i<(xs.length:Int):=hin.2
  have hlt:i.toNat<xs.length:=by omega
  obtain ⟨bb,q,rfl,hok,hel,hes⟩:=g5 (by rw [g3]; exact Nat.lt_of_le_of_lt (agq _) hlt)
  obtain ⟨ds,hc,hVd⟩:=hes i.toNat hlt
  refine ⟨_,hrun ek.symm g1 i0 (by rw [g3]; exact i1),⟨⟨bb,q+i.toNat * kk.size,rfl⟩, ?_⟩,⟨⟨bb,q+i.toNat * kk.size,rfl⟩,fun _=>⟨bb,_,ds,rfl,hc, ?_,hok.q, .inr ⟨hel,hok.2.2.1⟩⟩⟩⟩
  ·intro R' hR' _ _ _ _
   rw [hr.1] at hR'
   simp only [afQ] at hR'
   subst hR'
   refine ⟨wR p hg fG ⟨i0,i1,trivial⟩,mP (hp w) bb (q+i.toNat * kk.size) kk.size,bb,q+i.toNat * kk.size, ?_,rfl⟩
   rw [vL p hg hn,g2]
   rfl
  ·rw [bZ hlt]
   exact hVd
 cases v with
 | val k1 y Tg=>
  cases k1 with
  | sl e kk=>
   simp only [ry] at h
   rcases ay h with ⟨hc,h5⟩ | ⟨_,h5⟩
   ·have ek:=K.eq_of_beq hc
    obtain ⟨g1,g2⟩:=fH h5
    obtain ⟨hin,g3⟩:=g2
    rw [aA g3]
    obtain ⟨cs,x8,hV⟩:=h1 (.inr g1)
    obtain ⟨b,n,c,f1,f2,f3,f4,f5⟩:=xy x8 hV
    obtain ⟨i0,i1⟩:=hin
    have hlt:i.toNat < @List.length (El kk) y:=by
     have i1':i<((@List.length (El kk) y:Nat):Int):=i1
     omega
    obtain ⟨bb,q,rfl,hok,hel,hes⟩:=f5 (by omega)
    obtain ⟨ds,hcs,hVd⟩:=hes i.toNat hlt
    refine bI (x:=.one (.iK e kk _ Tg)) H hd hdn (hrun ek.symm f1 i0 (by rw [f3]; exact i1)) ⟨⟨bb,_,rfl⟩,fun _=>⟨bb,_,ds,rfl,hcs, ?_,hok.q, .inr ⟨hel,hok.2.2.1⟩⟩⟩ h2
    have eg:(show List (El kk) from y).getD i.toNat kk.zero=(show List (El kk) from y)[i.toNat]'hlt:=bZ hlt
    rw [eg]
    exact hVd
   ·exact h5.elim
  | _=>exact h.elim
 | ref r g=>
  simp only [ry] at h
  obtain ⟨R,hr,hv,h⟩:=cz h
  rcases ay h with ⟨hc,h5⟩ | ⟨_,h5⟩
  ·obtain ⟨hka,x8⟩:=h1 R hr (afU hc)
   have hg:aO [] R.k R.x=some ⟨R.k,R.x⟩:=rfl
   have hK:∀(q:Dat),aO [] R.k R.x=some q→∀hh:(match q.1,q.2 with
     | .sl e kk,xs=>bif au e R.own && (K.sl e kk).beq k0 then Prog.qB (aM i (show List (El kk) from xs).length) inferInstance ((.ret [Wr.s d (.one (.ptr r [.idx i] (fV R.h)))]):Prog (List Wr)) else Prog.fail
     | _,_=>Prog.fail).ends σ ws,VC q.1 (a.eval x) (α.hdr r)→nJ P cx o a w (az ws σ):=by
    intro q hq hh x8
    obtain ⟨qk,qx⟩:=q
    cases qk with
    | sl e kk=>
     simp only at hh
     rcases ay hh with ⟨hc2,h6⟩ | ⟨_,h6⟩
     ·simp only [afW] at hc2
      obtain ⟨hin,h7⟩:=h6
      rw [aA h7]
      obtain ⟨u,r1,r2,_⟩:=key (p:=[]) hr hv hq (K.eq_of_beq hc2.2) trivial (fun t ht=>by simp [aa] at ht) rfl x8 hin
      exact bI (x:=.one (.ptr r [.idx i] (fV R.h))) H hd hdn r1 r2 ⟨R,hr.1, .inr (af6 _)⟩
     ·exact h6.elim
    | _=>exact hh.elim
   exact hK ⟨R.k,R.x⟩ hg h5 x8
  ·exact h5.elim
 | oQ r p nn=>
  simp only [ry] at h
  obtain ⟨R,hr,hv,h⟩:=cz h
  rcases ay h with ⟨hc,h5⟩ | ⟨_,h5⟩
  ·cases hg0:aO p R.k R.x with
   | none=>rw [hg0] at h5; exact h5.elim
   | some d0=>
    rw [hg0] at h5
    obtain ⟨g1,g2,cs,wh,g3,g4⟩:=h1 R hr.1 hv (afU hc) d0 hg0
    obtain ⟨dk,dx⟩:=d0
    cases dk with
    | sl e kk=>
     simp only at h5
     rcases ay h5 with ⟨_,h6⟩ | ⟨hk,h6⟩
     ·exact h6.elim
     ·have ek:K.sl e kk=k0:=K.eq_of_beq (by simpa using hk)
      rcases ay h6 with ⟨_,h7⟩ | ⟨_,h7⟩
      ·obtain ⟨hin,h8⟩:=h7
       rw [aA h8]
       obtain ⟨u,r1,r2,_⟩:=key hr hv hg0 ek g1 g2 g3 g4 hin
       exact bI (x:=.one (.ptr r (p++[.idx i]) (fV R.h))) H hd hdn r1 (show iM cx σ α F w (.one (.ptr r (p++[.idx i]) (fV R.h))) u from r2) ⟨R,hr.1, .inr (af6 _)⟩
      ·obtain ⟨hin,h8⟩:=h7
       rw [aA h8]
       obtain ⟨u,r1,_,r3⟩:=key hr hv hg0 ek g1 g2 g3 g4 hin
       exact bI H hd hdn r1 (show iM cx σ α F w (.one (.iK e kk _ (R.out r (.sl e kk)))) u from r3) (Ec H hr _)
    | _=>exact h5.elim
  ·exact h5.elim
 | _=>exact h.elim
theorem EM (B:ByteArray) {n:Nat} (h:n<B.size):(bytesOf B).getD n 0=(B[n].toNat:Int):=by
 unfold bytesOf
 have:n<(B.data.toList.map fun b=>(b.toNat:Int)).length:=by simpa using h
 rw [bZ this]
 simp
 rfl
theorem jV (B:ByteArray):(bytesOf B).length=B.size:=by simp [bytesOf]
theorem LV (hT:dU P T) (H:Rel cx σ α F a w) (hd:o.dst=some d) (hdn:d<cx.nt) {t:TypeId} {x y:Operand} (ho:o.op=.index t x y)
  (h:(dJ x fun a=>dJ y fun i=>asInt i fun _ i=>match T.ty t,a with
   | some .str, .val .str s _=>.qB (aM i (show List Int from s).length) inferInstance (.ret [Wr.s d (.one (.val (.int .u8) ((show List Int from s).getD i.toNat 0) []))])
   | _,_=>(.fail:Prog (List Wr))).ends σ ws):nJ P cx o a w (az ws σ):=by
 obtain ⟨v,h1,h2,h⟩:=bP H h
 obtain ⟨vi,h3,_,h⟩:=bP H h
 obtain ⟨ik,i,ei,_,h⟩:=tK h3 h
 cases hty:T.ty t with
 | none=>rw [hty] at h; exact h.elim
 | some k0=>
  rw [hty] at h
  cases k0 with
  | str=>
   cases v with
   | val k1 s Tg=>
    cases k1 with
    | str=>
     simp only at h
     obtain ⟨⟨i0,i1⟩,h4⟩:=h
     rw [aA h4]
     obtain ⟨B,e1,e2⟩:=sH h1
     subst e2
     have hu:P.underlying t=some .string:=by
      have:=hT.ty t .str hty
      unfold fB iW at this
      exact this.1
     have hlt:i.toNat<B.size:=by
      have i1':i<((bytesOf B).length:Int):=i1
      rw [jV] at i1'
      omega
     refine bI (v:=.int .u8 (B[i.toNat].toNat:Int)) H hd hdn ?_ ?_ (fun t ht=>by simp at ht)
     ·simp only [execOp,ho,e1,ei,Instr.index,asIntOf,agf,agl,af8,run_underlying hu]
      rw [if_pos i0]
      simp [hlt]
     ·have eg:(show List Int from bytesOf B).getD i.toNat 0=(B[i.toNat].toNat:Int):=EM B hlt
      rw [eg]
      refine JJ ⟨by omega, ?_⟩
      have:=B[i.toNat].toNat_lt
      omega
    | _=>exact h.elim
   | _=>exact h.elim
  | _=>cases v <;> exact h.elim
theorem JH {l:List AV} {vs:List Value} (h:dO cx σ α F w l vs) {i:Nat} {x:AV} (hi:l[i]?=some x):∃v,vs[i]?=some v∧bH cx σ α F w x v:=by
 induction l generalizing vs i with
 | nil=>simp at hi
 | cons b l ih=>
  cases vs with
  | nil=>exact h.elim
  | cons u vs=>
   cases i with
   | zero=>simp only [List.getElem?_cons_zero,afQ] at hi; subst hi; exact ⟨u,rfl,h.1⟩
   | succ i=>simp only [List.getElem?_cons_succ] at hi; obtain ⟨v,h1,h2⟩:=ih h.2 hi; exact ⟨v,by simpa using h1,h2⟩
theorem Gv (H:Rel cx σ α F a w) (hd:o.dst=some d) (hdn:d<cx.nt) {x:Operand} {i:Nat} (ho:o.op=.extract x i)
  (h:(qp x fun
   | .CV l=>match l[i]? with
    | some u=>.ret [Wr.s d (.one u)]
    | none=>.fail
   | _=>(.fail:Prog (List Wr))).ends σ ws):nJ P cx o a w (az ws σ):=by
 obtain ⟨v,h1,h2,h⟩:=oV H h
 cases v with
 | one u=>exact h.elim
 | lit _ _ _=>exact h.elim
 | CV l=>
  simp only at h
  cases hi:l[i]? with
  | none=>rw [hi] at h; exact h.elim
  | some u=>
   rw [hi] at h
   rw [aA h]
   obtain ⟨vs,e1,e2⟩:=h1
   obtain ⟨v,g1,g2⟩:=JH e2 hi
   refine bI (x:=.one u) (v:=v) H hd hdn ?_ g2 (h2 u (List.mem_of_getElem? hi))
   simp [execOp,ho,e1,Instr.extract,g1]
end
end
section
open Go
variable [Fr]
theorem kK (ik:IntKind) (n:Int):CG ik (ik.wrap n):=by
 cases ik <;> simp only [CG]
 simp only [IntKind.wrap,IntKind.bits,IntKind.signed]
 simp
 omega
section
variable {P:Program} {cx:Cx} {σ:St} {α:dI} {F:List Nat} {a:Act} {w:World} {o:Oper} {d:Nat} {ws:List Wr}
theorem lN (ik:IntKind) {n:Int} (h:CG ik n):iM cx σ α F w (v1 (.int ik) n) (.int ik n):=JJ h
theorem iL (b:Bool):iM cx σ α F w (v1 .bool b) (.bool b):=Rv
theorem u7 {k:K} {x:El k}:sO σ (v1 k x):=fun t ht=>by simp at ht
theorem Mr {op:BinOp} {ik:IntKind} {x y:Int} {z:List Wr} (hx:CG ik x) (hy:CG ik y) (ht:TypeId) {k:sK→Prog (List Wr)} (hk:∀v,k v=.ret [Wr.s d v]) (h:(KL op ik x y k).ends σ z) :
  ∃kk y',(∃v,(Go.binOp op ht (.int ik x) (.int ik y)).run P w=.ok v w∧iM cx σ α F w (v1 kk y') v)∧z=[Wr.s d (v1 kk y')]:=by
 unfold KL at h
 cases op <;> simp only [hk] at h
 case add=>exact ⟨.int ik,_,⟨_,by simp [Go.binOp,Op.intArith],lN ik (kK ik _)⟩,aA h⟩
 case sub=>exact ⟨.int ik,_,⟨_,by simp [Go.binOp,Op.intArith],lN ik (kK ik _)⟩,aA h⟩
 case mul=>exact ⟨.int ik,_,⟨_,by simp [Go.binOp,Op.intArith],lN ik (kK ik _)⟩,aA h⟩
 case quo=>
  obtain ⟨h0,h⟩:=h
  exact ⟨.int ik,_,⟨_,by simp [Go.binOp,Op.intDiv,h0],lN ik (kK ik _)⟩,aA h⟩
 case rem=>
  obtain ⟨h0,h⟩:=h
  refine ⟨.int ik,_,⟨_,by simp [Go.binOp,Op.intDiv,h0],lN ik ?_⟩,aA h⟩
  cases ik <;> simp only [CG] at hx hy ⊢
  have h1:=Int.tmod_nonneg y hx.1
  have h2:x.tmod y<y:=by
   rw [Int.tmod_eq_emod_of_nonneg hx.1]
   exact Int.emod_lt_of_pos x (by omega)
  omega
 case and=>exact ⟨.int ik,_,⟨_,by simp [Go.binOp,Op.intBits],lN ik (kK ik _)⟩,aA h⟩
 case or=>exact ⟨.int ik,_,⟨_,by simp [Go.binOp,Op.intBits],lN ik (kK ik _)⟩,aA h⟩
 case xor=>exact ⟨.int ik,_,⟨_,by simp [Go.binOp,Op.intBits],lN ik (kK ik _)⟩,aA h⟩
 case andNot=>exact ⟨.int ik,_,⟨_,by simp [Go.binOp,Op.intBits],lN ik (kK ik _)⟩,aA h⟩
 case eql=>exact ⟨.bool,_,⟨.bool (decide (x=y)),by simp only [Go.binOp,ne_eq,not_true_eq_false, ↓reduceIte]; rfl,iL _⟩,aA h⟩
 case neq=>exact ⟨.bool,_,⟨.bool (!decide (x=y)),by simp only [Go.binOp,ne_eq,not_true_eq_false, ↓reduceIte]; rfl,iL _⟩,aA h⟩
 case lss=>exact ⟨.bool,_,⟨_,by simp [Go.binOp,Op.intCmp],iL _⟩,aA h⟩
 case leq=>exact ⟨.bool,_,⟨_,by simp [Go.binOp,Op.intCmp],iL _⟩,aA h⟩
 case gtr=>exact ⟨.bool,_,⟨_,by simp [Go.binOp,Op.intCmp],iL _⟩,aA h⟩
 case geq=>exact ⟨.bool,_,⟨_,by simp [Go.binOp,Op.intCmp],iL _⟩,aA h⟩
 all_goals exact h.elim
theorem O9:∀(x y:List UInt8),uX (x.map fun b=>(b.toNat:Int)) (y.map fun b=>(b.toNat:Int))=Op.bytesLess x y:=by
 intro x
 induction x with
 | nil=>intro y; cases y <;> rfl
 | cons a x ih=>
  intro y
  cases y with
  | nil=>rfl
  | cons b y=>
   simp only [List.map_cons,uX,Op.bytesLess,ih]
   have h1:decide ((a.toNat:Int)<(b.toNat:Int))=decide (a<b):=by
    apply decide_eq_decide.2
    rw [UInt8.lt_iff_toNat_lt]
    omega
   have h2:decide ((a.toNat:Int)=(b.toNat:Int))=(a == b):=by
    rw [show (a == b)=decide (a=b) from rfl]
    apply decide_eq_decide.2
    rw [←UInt8.toNat_inj]
    omega
   rw [h1,h2]
theorem Hr:∀{x y:List UInt8},x.map (fun b=>(b.toNat:Int))=y.map (fun b=>(b.toNat:Int))↔x=y:=by
 intro x
 induction x with
 | nil=>intro y; cases y <;> simp
 | cons a x ih=>
  intro y
  cases y with
  | nil=>simp
  | cons b y=>
   simp only [List.map_cons,List.cons.injEq,ih]
   have:(a.toNat:Int)=(b.toNat:Int)↔a=b:=by rw [←UInt8.toNat_inj]; omega
   rw [this]
theorem Gl {A B:ByteArray}:bytesOf A=bytesOf B↔A.toList=B.toList:=by
 unfold bytesOf
 rw [Hr,ByteArray.toList_eq,ByteArray.toList_eq]
theorem uz {A B:ByteArray}:(A.toList == B.toList)=decide (bytesOf A=bytesOf B):=by
 rw [show (A.toList == B.toList)=decide (A.toList=B.toList) from by
  cases h:(A.toList == B.toList) with
  | true=>simp [eq_of_beq h]
  | false=>simp [ne_of_beq_false h]]
 exact decide_eq_decide.2 Gl.symm
theorem qI {A B:ByteArray}:Op.bytesLess A.toList B.toList=uX (bytesOf A) (bytesOf B):=by
 unfold bytesOf
 rw [O9,ByteArray.toList_eq,ByteArray.toList_eq]
theorem Bj (A B:ByteArray):bytesOf (A++B)=bytesOf A++bytesOf B:=by
 unfold bytesOf
 rw [←List.map_append]
 congr 1
theorem M3 {op:BinOp} {A B:ByteArray} {z:List Wr} (ht:TypeId) {k:sK→Prog (List Wr)} (hk:∀v,k v=.ret [Wr.s d v]) (h:(PW op (bytesOf A) (bytesOf B) k).ends σ z) :
  ∃kk y',(∃v,(Go.binOp op ht (.string A) (.string B)).run P w=.ok v w∧iM cx σ α F w (v1 kk y') v)∧z=[Wr.s d (v1 kk y')]:=by
 unfold PW at h
 cases op <;> simp only [hk] at h
 case add=>
  obtain ⟨h0,h⟩:=h
  rw [jV,jV] at h0
  refine ⟨.str,bytesOf A++bytesOf B,⟨.string (A++B), ?_, ?_⟩,aA h⟩
  ·have:¬(((A.size+B.size:Nat):Int)>IntKind.i64.max):=by
    simp only [IntKind.max,IntKind.signed,IntKind.bits]
    simp
    omega
   simp only [Go.binOp,Op.stringOp]
   rw [if_neg this]
   rfl
  ·rw [←Bj]; exact JK
 case eql=>exact ⟨.bool,_,⟨.bool (decide (bytesOf A=bytesOf B)),by simp only [Go.binOp,Op.stringOp]; rw [uz]; rfl,iL _⟩,aA h⟩
 case neq=>exact ⟨.bool,_,⟨.bool (!decide (bytesOf A=bytesOf B)),by simp only [Go.binOp,Op.stringOp]; rw [uz]; rfl,iL _⟩,aA h⟩
 case lss=>exact ⟨.bool,_,⟨.bool (uX (bytesOf A) (bytesOf B)),by simp only [Go.binOp,Op.stringOp]; rw [qI]; rfl,iL _⟩,aA h⟩
 case leq=>exact ⟨.bool,_,⟨.bool (uX (bytesOf A) (bytesOf B) || decide (bytesOf A=bytesOf B)),by simp only [Go.binOp,Op.stringOp]; rw [qI,uz]; rfl,iL _⟩,aA h⟩
 case gtr=>exact ⟨.bool,_,⟨.bool (!(uX (bytesOf A) (bytesOf B) || decide (bytesOf A=bytesOf B))),by simp only [Go.binOp,Op.stringOp]; rw [qI,uz]; rfl,iL _⟩,aA h⟩
 case geq=>exact ⟨.bool,_,⟨.bool (!uX (bytesOf A) (bytesOf B)),by simp only [Go.binOp,Op.stringOp]; rw [qI]; rfl,iL _⟩,aA h⟩
 all_goals exact h.elim
theorem NV (H:Rel cx σ α F a w) (hd:o.dst=some d) (hdn:d<cx.nt) {t:TypeId} {x:Operand} {op:UnOp} (ho:o.op=.unOp op t x)
  (h:(dJ x fun a=>unP op a fun v=>(.ret [Wr.s d v]:Prog (List Wr))).ends σ ws):nJ P cx o a w (az ws σ):=by
 obtain ⟨v,h1,h2,h⟩:=bP H h
 unfold unP at h
 split at h
 ·obtain ⟨e1,e2⟩:=sG h1
  rw [aA h]
  exact bI H hd hdn (by simp [execOp,ho,e1,Op.unary,Op.intArith]) (lN _ (kK _ _)) u7
 ·obtain ⟨e1,e2⟩:=sG h1
  rw [aA h]
  exact bI H hd hdn (by simp [execOp,ho,e1,Op.unary,Op.intBits]) (lN _ (kK _ _)) u7
 ·have e1:=tX h1
  rw [aA h]
  exact bI H hd hdn (by simp [execOp,ho,e1,Op.unary]) (iL _) u7
 ·exact h.elim
end
end
section
open Go
variable [Fr]
section
variable {P:Program} {T:iD} {cx:Cx} {σ:St} {α:dI} {F:List Nat} {a:Act} {w:World} {o:Oper} {d:Nat} {ws:List Wr}
theorem uZ {op:BinOp} {t:TypeId} {x y:Operand} {u v:Value} (h:(∀c,u≠.agg c)∧u≠.nilIface):(eqGuard op t x y u v).run P w=.ok () w:=by
 unfold eqGuard
 cases op <;> simp only [agi,agu,afT, ↓reduceIte] <;> first | rfl | skip
 all_goals (cases u <;> first | rfl | exact absurd rfl (h.1 _) | exact absurd rfl h.2)
theorem uP:∃n,Op.maxDepth=n+1:=⟨Op.maxDepth - 1,by unfold Op.maxDepth; rfl⟩
theorem run_equal_bool {t:TypeId} (h:P.underlying t=some .bool) (x y:Bool):(Op.equal t (.bool x) (.bool y)).run P w=.ok (x == y) w:=by
 obtain ⟨n,e⟩:=uP
 unfold Op.equal
 rw [e]
 simp [Op.equalIn,run_underlying h]
theorem wP {t e:TypeId} (h:P.underlying t=some (.pointer e)) {u v:Option Addr} (hn:u=none∨v=none):(Op.equal t (.pointer u) (.pointer v)).run P w=.ok (u.isNone && v.isNone) w:=by
 obtain ⟨n,e⟩:=uP
 unfold Op.equal
 rw [e]
 rcases hn with rfl | rfl
 ·simp [Op.equalIn,run_underlying h]
 ·cases u <;> simp [Op.equalIn,run_underlying h]
theorem MN {x y:AV} {u v:Value} {b:Bool} (hx:bH cx σ α F w x u) (hy:bH cx σ α F w y v) (h:Hw x y=some b):∃p q,u=.pointer p∧v=.pointer q∧(p=none∨q=none)∧(p.isNone && q.isNone)=b:=by
 unfold Hw at h
 split at h <;> simp only [afQ,reduceCtorEq] at h <;> subst h
 ·exact ⟨none,none,hx,hy, .inl rfl,rfl⟩
 ·obtain ⟨b,q,e⟩:=hy.1; exact ⟨none,_,hx,e, .inl rfl,rfl⟩
 ·obtain ⟨b,q,e⟩:=hx.1; exact ⟨_,none,e,hy, .inr rfl,rfl⟩
 ·obtain ⟨b,q,e⟩:=hy.1; exact ⟨none,_,hx,e, .inl rfl,rfl⟩
 ·obtain ⟨b,q,e⟩:=hx.1; exact ⟨_,none,e,hy, .inr rfl,rfl⟩
def CZ (P:Program) (T:iD):Prop:=∀(t:TypeId) (c:K) (x y:El c) (u v:Array Value) (w:World) (hp1 hp2:Heap) (ok1 ok2:Nat→Prop),T.ty t=some (.st c)→T.eq t=true→c.flat=true→
 Vw hp1 ok1 c x u.toList→Vw hp2 ok2 c y v.toList→(Op.equal t (.agg u) (.agg v)).run P w=.ok (uI c x y) w∧∀x y op,(eqGuard op t x y (.agg u) (.agg v)).run P w=.ok () w
theorem IY {A:Type} {z:A} {t:TypeId} {op:BinOp} {u v:AV} {k:sK→Prog A} (h:(Gi T t op u v k).ends σ z) :
  (∃ik x T1 jk y T2,u=.val (.int ik) x T1∧v=.val (.int jk) y T2)∨(∃x T1 y T2,u=.val .bool x T1∧v=.val .bool y T2)∨(∃x T1 y T2,u=.val .str x T1∧v=.val .str y T2)∨
  (∃c x T1 e y T2,u=.val (.st c) x T1∧v=.val (.st e) y T2)∨(T.ptr t=true∧∃b,Hw u v=some b∧((op=.eql∧(k (v1 .bool b)).ends σ z)∨(op=.neq∧(k (v1 .bool (!b))).ends σ z))):=by
 unfold Gi at h
 split at h
 ·exact .inl ⟨_,_,_,_,_,_,rfl,rfl⟩
 ·exact .inr (.inl ⟨_,_,_,_,rfl,rfl⟩)
 ·exact .inr (.inr (.inl ⟨_,_,_,_,rfl,rfl⟩))
 ·exact .inr (.inr (.inr (.inl ⟨_,_,_,_,_,_,rfl,rfl⟩)))
 ·rcases ay h with ⟨hp,h5⟩ | ⟨_,h5⟩
  ·cases hn:Hw u v with
   | none=>rw [hn] at h5; exact h5.elim
   | some b=>
    rw [hn] at h5
    cases op with
    | eql=>exact .inr (.inr (.inr (.inr ⟨hp,b,rfl, .inl ⟨rfl,h5⟩⟩)))
    | neq=>exact .inr (.inr (.inr (.inr ⟨hp,b,rfl, .inr ⟨rfl,h5⟩⟩)))
    | _=>exact h5.elim
  ·exact h5.elim
theorem Dt {t e:TypeId} (h:P.underlying t=some (.slice e)) (p:Option Addr) (n c:Nat):(Go.binOp .eql t (.slice p n c) (.slice none 0 0)).run P w=.ok (.bool p.isNone) w:=by
 obtain ⟨m,em⟩:=uP
 have:(Op.equal t (.slice p n c) (.slice none 0 0)).run P w=.ok p.isNone w:=by
  unfold Op.equal
  rw [em]
  cases p <;> simp [Op.equalIn,run_underlying h]
 simp only [Go.binOp]
 simp [this,Result.andThen]
theorem Jg (hT:dU P T) (hSt:CZ P T) (H:Rel cx σ α F a w) (hd:o.dst=some d) (hdn:d<cx.nt) {t t2:TypeId} {x y:Operand} {op:BinOp} (ho:o.op=.binOp op t x y t2)
  (h:(dJ x fun a=>dJ y fun b=>Gi T t op a b fun v=>(.ret [Wr.s d v]:Prog (List Wr))).ends σ ws):nJ P cx o a w (az ws σ):=by
 obtain ⟨u,h1,hu1,h5⟩:=bP H h
 obtain ⟨v,h3,hu3,h6⟩:=bP H h5
 clear h h5
 have h:=h6
 clear h6
 have hrun:∀{z:Value},((∀c,a.eval x≠.agg c)∧a.eval x≠.nilIface)→(Go.binOp op t (a.eval x) (a.eval y)).run P w=.ok z w→(execOp a.eval o).run P w=.ok (.value z) w:=by
  intro z hz h
  have hg:=uZ (P:=P) (w:=w) (op:=op) (t:=t) (x:=x) (y:=y) (v:=a.eval y) hz
  simp only [execOp,ho,agf,hg,h,af8,agl]
 rcases IY h with ⟨ik,x1,T1,jk,y1,T2,rfl,rfl⟩ | ⟨x1,T1,y1,T2,rfl,rfl⟩ | ⟨x1,T1,y1,T2,rfl,rfl⟩ | ⟨c,x1,T1,dd,y1,T2,rfl,rfl⟩ | ⟨hp,b,hne,hop⟩
 ·obtain ⟨e1,r1⟩:=sG h1
  obtain ⟨e2,r2⟩:=sG h3
  have hag:(∀c,a.eval x≠.agg c)∧a.eval x≠.nilIface:=by rw [e1]; simp
  have hplain:(bif uW ik jk then KL op ik x1 y1 fun v=>(.ret [Wr.s d v]:Prog (List Wr)) else .fail).ends σ ws→nJ P cx o a w (az ws σ):=by
   intro h
   rcases ay h with ⟨hik,h⟩ | ⟨_,h⟩
   ·have:=vF hik
    subst this
    obtain ⟨kk,y',⟨z,g1,g2⟩,g3⟩:=Mr (P:=P) (cx:=cx) (σ:=σ) (α:=α) (F:=F) (w:=w) (d:=d) r1 r2 t (fun v=>rfl) h
    rw [g3]
    exact bI H hd hdn (hrun hag (by rw [e1,e2]; exact g1)) g2 u7
   ·exact h.elim
  cases op with
  | shl=>
   obtain ⟨h0,h⟩:=h
   rw [aA h]
   refine bI H hd hdn (hrun hag (z:=.int ik (ik.wrap (x1 * 2 ^ min y1.toNat ik.bits))) ?_) (lN ik (kK _ _)) u7
   rw [e1,e2]
   simp only [Go.binOp,Op.shift]
   rw [if_neg (Int.not_lt.2 h0)]
   rfl
  | shr=>
   obtain ⟨h0,h⟩:=h
   rw [aA h]
   refine bI H hd hdn (hrun hag (z:=.int ik (x1.fdiv (2 ^ min y1.toNat ik.bits))) ?_) (lN ik ?_) u7
   ·rw [e1,e2]
    simp only [Go.binOp,Op.shift]
    rw [if_neg (Int.not_lt.2 h0)]
    rfl
   ·cases ik <;> simp only [CG] at r1 ⊢
    have hp:(0:Int)<2 ^ min y1.toNat IntKind.u8.bits:=Int.pow_pos (by omega)
    have g1:0≤x1.fdiv (2 ^ min y1.toNat IntKind.u8.bits):=Int.fdiv_nonneg r1.1 (Int.le_of_lt hp)
    have g2:x1.fdiv (2 ^ min y1.toNat IntKind.u8.bits)≤x1:=by
     rw [Int.fdiv_eq_ediv_of_nonneg _ (Int.le_of_lt hp)]
     exact Int.ediv_le_self _ r1.1
    omega
  | _=>exact hplain h
 ·have e1:=tX h1
  have e2:=tX h3
  have hag:(∀c,a.eval x≠.agg c)∧a.eval x≠.nilIface:=by rw [e1]; simp
  have hub:T.ty t=some .bool→P.underlying t=some .bool:=fun hty=>by
   have:=hT.ty t .bool hty
   unfold fB iW at this
   exact this.1
  cases hty:T.ty t with
  | none=>simp only [Gi,hty] at h; exact h.elim
  | some k0=>
   cases k0 with
   | bool=>
    have hu:=hub hty
    simp only [Gi,hty] at h
    cases op with
    | eql=>
     rw [aA h]
     refine bI H hd hdn (hrun hag (z:=.bool (x1 == y1)) ?_) (iL _) u7
     rw [e1,e2]
     simp only [Go.binOp,agf,run_equal_bool hu,af8,agl]
    | neq=>
     rw [aA h]
     refine bI H hd hdn (hrun hag (z:=.bool (!(x1 == y1))) ?_) (iL _) u7
     rw [e1,e2]
     simp only [Go.binOp,agf,run_equal_bool hu,af8,agl]
    | _=>exact h.elim
   | _=>simp only [Gi,hty] at h; exact h.elim
 ·obtain ⟨A,e1,f1⟩:=sH h1
  obtain ⟨B,e2,f2⟩:=sH h3
  subst f1
  subst f2
  have hag:(∀c,a.eval x≠.agg c)∧a.eval x≠.nilIface:=by rw [e1]; simp
  obtain ⟨kk,y',⟨z,g1,g2⟩,g3⟩:=M3 (P:=P) (cx:=cx) (σ:=σ) (α:=α) (F:=F) (w:=w) (d:=d) t (fun v=>rfl) h
  rw [g3]
  exact bI H hd hdn (hrun hag (by rw [e1,e2]; exact g1)) g2 u7
 ·simp only [Gi] at h
  cases hck:bR (.st dd) (.st c) y1 with
  | none=>rw [hck] at h; exact h.elim
  | some y2=>
   rw [hck] at h
   obtain ⟨ek,ey⟩:=bL hck
   simp only [K.st.injEq] at ek
   subst ek
   simp only at ey
   subst ey
   simp only at h
   rcases ay h with ⟨hc,h5⟩ | ⟨_,h5⟩
   ·simp only [afW] at hc
    have hty:T.ty t=some (.st dd):=by
     have h2:=hc.2
     cases ht:T.ty t with
     | none=>rw [ht] at h2; simp at h2
     | some kk=>rw [ht] at h2; rw [K.eq_of_beq h2]
    obtain ⟨cs1,e1,V1⟩:=h1 (.inl hc.1.1)
    obtain ⟨cs2,e2,V2⟩:=h3 (.inl hc.1.1)
    have e1':a.eval x=.agg cs1.toArray:=e1
    have e2':a.eval y=.agg cs2.toArray:=e2
    obtain ⟨r1,r2⟩:=hSt t dd x1 y2 cs1.toArray cs2.toArray w _ _ _ _ hty hc.1.2 hc.1.1 (show Vw _ _ dd x1 cs1 from V1) (show Vw _ _ dd y2 cs2 from V2)
    have DZ:∀{z:Value},(Go.binOp op t (a.eval x) (a.eval y)).run P w=.ok z w→(execOp a.eval o).run P w=.ok (.value z) w:=by
     intro z h
     have hg:=r2 x y op
     rw [←e1', ←e2'] at hg
     simp only [execOp,ho,agf,hg,h,af8,agl]
    cases op with
    | eql=>
     rw [aA h5]
     refine bI H hd hdn (DZ (z:=.bool (uI dd x1 y2)) ?_) (iL _) u7
     rw [e1',e2']
     simp only [Go.binOp,agf,r1,af8,agl]
    | neq=>
     rw [aA h5]
     refine bI H hd hdn (DZ (z:=.bool (!uI dd x1 y2)) ?_) (iL _) u7
     rw [e1',e2']
     simp only [Go.binOp,agf,r1,af8,agl]
    | _=>exact h5.elim
   ·exact h5.elim
 ·obtain ⟨e,hu⟩:=hT.ptr t hp
  obtain ⟨p,q,e1,e2,hn,hb⟩:=MN h1 h3 hne
  have hag:(∀c,a.eval x≠.agg c)∧a.eval x≠.nilIface:=by rw [e1]; simp
  rcases hop with ⟨rfl,h5⟩ | ⟨rfl,h5⟩
  ·rw [aA h5]
   refine bI H hd hdn (hrun hag (z:=.bool b) ?_) (iL _) u7
   rw [e1,e2]
   simp only [Go.binOp,agf,wP hu hn,hb,af8,agl]
  ·rw [aA h5]
   refine bI H hd hdn (hrun hag (z:=.bool (!b)) ?_) (iL _) u7
   rw [e1,e2]
   simp only [Go.binOp,agf,wP hu hn,hb,af8,agl]
theorem LK (hT:dU P T) (hSt:CZ P T) (H:Rel cx σ α F a w) (hd:o.dst=some d) (hdn:d<cx.nt) {t t2:TypeId} {x y:Operand} {op:BinOp} (ho:o.op=.binOp op t x y t2)
  (h:(IX T t op x y fun v=>(.ret [Wr.s d v]:Prog (List Wr))).ends σ ws):nJ P cx o a w (az ws σ):=by
 unfold IX at h
 rcases ay h with ⟨hc,h⟩ | ⟨_,h⟩
 ·simp only [afW] at hc
  have ey:y=.const (.slice none 0 0):=by
   have:=hc.1
   unfold OY at this
   split at this
   ·rfl
   ·simp at this
  have eop:op=.eql:=by
   have:=hc.2
   unfold Sq at this
   split at this
   ·rfl
   ·simp at this
  subst ey eop
  obtain ⟨u,h1,hu1,h5⟩:=bP H h
  unfold Yf at h5
  split at h5
  ·rename_i e kk hty
   obtain ⟨YU,z,Tg,cs,g1,g2,g3,h6⟩:=qO H h1 hu1 h5
   cases YU with
   | sl e' YU=>
    simp only at h6
    rw [aA h6]
    obtain ⟨p,n,c,rfl,g5,g6,g7⟩:=g2
    have ev:a.eval x=.slice p n c:=by
     have:=g1.cells
     obtain ⟨g8,g9⟩:=g1
     first
      | exact (List.cons.inj g8.symm).1
      | (simp only [List.cons.injEq,and_true] at g8; exact g8.symm)
      | exact g8
    have hu:=(fB.sl (hT.ty t _ hty)).1
    have hag:(∀c,a.eval x≠.agg c)∧a.eval x≠.nilIface:=by rw [ev]; simp
    have hg:=uZ (P:=P) (w:=w) (op:=.eql) (t:=t) (x:=x) (y:=.const (.slice none 0 0)) (v:=a.eval (.const (.slice none 0 0))) hag
    have hr:=Dt (w:=w) hu p n c
    refine bI (v:=.bool p.isNone) H hd hdn ?_ (show bH cx σ α F w (.u6 _) _ from ⟨_,rfl,fun hp=>?_⟩) trivial
    ·have e2:a.eval (.const (.slice none 0 0))=.slice none 0 0:=rfl
     have hr':(Go.binOp .eql t (a.eval x) (a.eval (.const (.slice none 0 0)))).run P w=.ok (.bool p.isNone) w:=by rw [ev,e2]; exact hr
     simp only [execOp,ho,agf,hg,hr',af8,agl]
    ·cases p with
     | some q=>simp at hp
     | none=>
      have hn:n=0:=by
       refine agc fun hne=>?_
       obtain ⟨b,o,e1,_⟩:=g7 (by omega)
       simp at e1
      have g5':n=@List.length (El YU) z:=g5
      rw [List.isEmpty_iff_length_eq_zero, ←g5',hn]
   | _=>exact h6.elim
  ·exact h5.elim
 ·exact Jg hT hSt H hd hdn ho h
end
end
section
open Go
variable [Fr]
section
variable {P:Program} {T:iD} {cx:Cx} {σ:St} {α:dI} {F:List Nat} {a:Act} {w:World} {o:Oper} {d:Nat} {ws:List Wr}
theorem iT {c:Call} {b:Builtin} (ho:o.op=.call c) (hb:c.callee=.builtin b):∃cs,(execOp a.eval o).run P w=(builtin b c.argTypes o.type cs (c.args.map a.eval)).run P w:=
 ⟨_,by simp only [execOp,ho,resolve,hb,agf,agl,af8,invoke]; rfl⟩
theorem fB.str {t:TypeId} (h:fB P T t .str):P.underlying t=some .string:=by
 unfold fB iW at h
 exact h.1
theorem qy (hT:dU P T) {c:Call} {i:Nat} {k:K} (h:(c.argTypes[i]?).bind T.ty=some k):∃t,c.argTypes[i]?=some t∧fB P T t k:=by
 cases ht:c.argTypes[i]? with
 | none=>rw [ht] at h; simp at h
 | some t=>rw [ht] at h; exact ⟨t,rfl,hT.ty t k h⟩
theorem K8 {ats:Array TypeId} {ty t:TypeId} {v:Value} {n:Nat} {args:Array Value} (ha:ats[0]?=some t) (hv:args[0]?=some v) (h:(P.underlying t=some .string∧∃B:ByteArray,v=.string B∧B.size=n)∨((∃e,P.underlying t=some (.slice e))∧∃b c,v=.slice b n c)) :
  (Builtin.len_ ats ty args).run P w=.ok (.int .i64 (n:Int)) w:=by
 unfold Builtin.len_
 simp only [ha,hv]
 rcases h with ⟨hu,B,rfl,rfl⟩ | ⟨⟨e,hu⟩,b,c,rfl⟩
 ·simp [run_underlying hu,goInt]
 ·simp [run_underlying hu,goInt]
theorem QS (hT:dU P T) (H:Rel cx σ α F a w) (hd:o.dst=some d) (hdn:d<cx.nt) {c:Call} (ho:o.op=.call c) (hb:c.callee=.builtin .len)
  (h:(jg c.args.toList fun
   | [.iC]=>match (c.argTypes[0]?).bind T.ty with
    | some (.sl _ _)=>(.ret [Wr.s d (.one (.val (.int .i64) 0 []))]:Prog (List Wr))
    | _=>.fail
   | [.val .str s _]=>match (c.argTypes[0]?).bind T.ty with
    | some .str=>.ret [Wr.s d (.one (.val (.int .i64) ((show List Int from s).length:Int) []))]
    | _=>.fail
   | [a]=>match (c.argTypes[0]?).bind T.ty with
    | some (.sl _ _)=>qz a fun kk x _=>match kk,x with
     | .sl _ kk,xs=>.ret [Wr.s d (.one (.val (.int .i64) ((show List (El kk) from xs).length:Int) []))]
     | _,_=>.fail
    | _=>.fail
   | _=>.fail).ends σ ws):nJ P cx o a w (az ws σ):=by
 obtain ⟨vs,h1,h2,h⟩:=iN H h
 have hfin:∀{t:TypeId} {n:Nat} {v:Value} {x:Operand},c.args.toList=[x]→c.argTypes[0]?=some t→a.eval x=v→((P.underlying t=some .string∧∃B:ByteArray,v=.string B∧B.size=n)∨((∃e,P.underlying t=some (.slice e))∧∃b c,v=.slice b n c))→
   nJ P cx o a w (az [Wr.s d (.one (.val (.int .i64) (n:Int) []))] σ):=by
  intro t n v x hx ht hv hs
  have ha:(c.args.map a.eval)[0]?=some v:=by
   rw [←Array.getElem?_toList,Array.toList_map,hx]
   simp [hv]
  refine bI H hd hdn ?_ (lN .i64 (n:=(n:Int)) trivial) u7
  obtain ⟨cc,hcc⟩:=iT (P:=P) (a:=a) (w:=w) ho hb
  rw [hcc]
  simp only [builtin,agf,K8 (ty:=o.type) (w:=w) ht ha hs,af8,agl]
 have hone:∀{u:AV},vs=[u]→∃x,c.args.toList=[x]∧bH cx σ α F w u (a.eval x):=by
  intro u e
  subst e
  cases hl:c.args.toList with
  | nil=>rw [hl] at h1; exact h1.elim
  | cons x l=>
   rw [hl] at h1
   cases l with
   | nil=>exact ⟨x,rfl,h1.1⟩
   | cons y l=>exact h1.2.elim
 split at h
 ·obtain ⟨x,hx,hu⟩:=hone rfl
  split at h
  ·rename_i hty
   obtain ⟨t,ht,hk⟩:=qy hT hty
   rw [aA h]
   obtain ⟨b,e⟩:=hu
   exact hfin (n:=0) hx ht rfl (.inr ⟨⟨_,hk.sl.1⟩,b,0,e⟩)
  ·exact h.elim
 ·obtain ⟨x,hx,hu⟩:=hone rfl
  split at h
  ·rename_i hty
   obtain ⟨t,ht,hk⟩:=qy hT hty
   rw [aA h]
   obtain ⟨B,e1,e2⟩:=sH hu
   subst e2
   have e:(show List Int from bytesOf B).length=B.size:=jV B
   rw [e]
   exact hfin (n:=B.size) hx ht rfl (.inl ⟨hk.str,B,e1,rfl⟩)
  ·exact h.elim
 ·obtain ⟨x,hx,hu⟩:=hone rfl
  split at h
  ·rename_i hty
   obtain ⟨t,ht,hk⟩:=qy hT hty
   obtain ⟨kk,y,Tg,cs,g1,g2,g3,g4⟩:=qO H hu (h2 _ (by simp)) h
   cases kk with
   | sl e kk=>
    rw [aA g4]
    obtain ⟨b,n,cc,f1,f2,f3,f4,f5⟩:=xy g1 g2
    have e:((@List.length (El kk) y:Nat):Int)=(n:Int):=by rw [f3]
    have e':(show List (El kk) from y).length=n:=f3.symm
    rw [e']
    exact hfin (n:=n) hx ht rfl (.inr ⟨⟨_,hk.sl.1⟩,b,cc,f1⟩)
   | _=>exact g4.elim
  ·exact h.elim
 ·exact h.elim
theorem DK (H:Rel cx σ α F a w) {r:Nat} {R:Root} (hr:aN σ r R) {b:Nat} (hb:b∈blk α R r) (hnb:¬jS cx b):gV cx σ α F w ((r,fV R.w) :: R.tags) b:=by
 have hm:=(H.roots r R hr).mine b hb
 refine ⟨hm.1,H.iB r R hr b hb,hnb,fun q Q hq hbq=>?_,fun h0=>?_⟩
 ·by_cases e:q=r
  ·subst e; exact ⟨fV R.w,by simp⟩
  ·exact absurd hb (H.AB q Q r R hq hr e b hbq)
 ·rcases hm.2 with h | ⟨j,pi,h1,h2⟩
  ·omega
  ·exact .inr ⟨j,pi,h1,h2⟩
theorem NL {A:Type} {z:A} (H:Rel cx σ α F a w):∀{l:List AV} {vs:List Value} {k:List (TypeId×Dat×List Tag)→Prog A},dO cx σ α F w l vs→(∀v∈l,nW σ v)→(Lx l k).ends σ z→
  ∃cs,jB cx σ α F w cs vs∧(∀c∈cs,eG σ c.2.2)∧(k cs).ends σ z:=by
 intro l
 induction l with
 | nil=>
  intro vs k h1 _ h
  cases vs with
  | nil=>exact ⟨[],trivial,by simp,h⟩
  | cons v vs=>exact h1.elim
 | cons x l ih=>
  intro vs k h1 h2 h
  cases vs with
  | nil=>exact h1.elim
  | cons v vs=>
   simp only [Lx] at h
   rcases uw H h1.1 (h2 x (by simp)) h with ⟨r,R,p,dd,cs,b,q,hr,hv,hg,fG,hown,hn,e,h5⟩ | ⟨bt,dd,Tg,b,q,cs,hw,e,hcs,hV,hok,hb,h5⟩
   ·rcases ay h5 with ⟨_,h6⟩ | ⟨hne,h6⟩
    ·exact h6.elim
    ·obtain ⟨cs2,g1,g2,g3⟩:=ih h1.2 (fun v hv=>h2 v (by simp [hv])) h6
     obtain ⟨hC,⟨fE,hO,hf⟩,hbb,⟨arr,te,lo,hi,m1,m2,m3,m4⟩,_⟩:=mO H hr hv hg fG hown hn
     have hbase:eB R p=te∧¬jS cx b:=by
      rcases m4 with m4 | ⟨_,m4⟩
      ·exact m4
      ·rw [m4] at hne; simp at hne
     refine ⟨(eB R p,dd,(r,fV R.w) :: R.tags) :: cs2,⟨⟨⟨b,q,e⟩,fun _=>⟨b,q,cs,e,hC, ?_,(DK H hr hbb hbase.2).q, .inr ⟨.inl (by rw [hbase.1]; unfold ni; rw [m1]),hbase.2⟩⟩⟩,g1⟩, ?_,g3⟩
     ·exact jJ _ (fun b hb=>rG hb (fun t ht=>by simp [ht])) (fun b hb=>DK H hr (afS _ (hf b hb)) (lF H hr (hf b hb))) hO
     ·intro c hc
      rcases af2.1 hc with h | h
      ·subst h
       intro t ht
       rcases af2.1 ht with h | h
       ·subst h; exact .inr ⟨R,hr.1, .inr (af6 _)⟩
       ·exact (H.dh r R hr.1).1 t h
      ·exact g2 c h
   ·obtain ⟨cs2,g1,g2,g3⟩:=ih h1.2 (fun v hv=>h2 v (by simp [hv])) h5
    refine ⟨(bt,dd,Tg) :: cs2,⟨⟨⟨b,q,e⟩,fun _=>⟨b,q,cs,e,hcs,hV,hok,hb⟩⟩,g1⟩, ?_,g3⟩
    intro c hc
    rcases af2.1 hc with h | h
    ·subst h; exact hw
    ·exact g2 c h
theorem EW (H:Rel cx σ α F a w) (hd:o.dst=some d) (hdn:d<cx.nt) {f:Nat} {first caps:Array Operand} (ho:o.op=.makeFunc (.func f) first caps)
  (h:(bif first.isEmpty then jg caps.toList fun l=>Lx l fun cs=>.ret [Wr.s d (.one (.fn f cs))] else (.fail:Prog (List Wr))).ends σ ws):nJ P cx o a w (az ws σ):=by
 rcases ay h with ⟨he,h5⟩ | ⟨_,h5⟩
 ·obtain ⟨vs,h1,h2,h6⟩:=iN H h5
  obtain ⟨cs,g1,g2,g3⟩:=NL H h1 h2 h6
  rw [aA g3]
  have hf:first=#[]:=by simpa using he
  refine bI (x:=.one (.fn f cs)) (v:=.func (.func f) #[] (caps.map a.eval)) H hd hdn ?_ ⟨(caps.map a.eval).toList,rfl,by rw [Array.toList_map]; exact g1⟩ g2
  simp [execOp,ho,Instr.makeFunc,hf]
 ·exact h5.elim
end
end
section
open Go
variable [Fr]
section
variable {P:Program} {T:iD} {cx:Cx} {σ:St} {α:dI} {F:List Nat} {a:Act} {w:World} {o:Oper} {d:Nat} {ws:List Wr}
theorem vN {A:Type} {z:A} (H:Rel cx σ α F a w) {x:Option Operand} {k:Option Int→Prog A} (h:(Ak x k).ends σ z) :
  ∃i:Option Int,(k i).ends σ z∧(i=none↔x=none)∧∀j,i=some j→∃ik,x.map a.eval=some (.int ik j):=by
 cases x with
 | none=>exact ⟨none,h,by simp,fun j hj=>by simp at hj⟩
 | some y=>
  simp only [Ak] at h
  obtain ⟨v,h1,_,h⟩:=bP H h
  obtain ⟨ik,n,e,_,h⟩:=tK h1 h
  exact ⟨some n,h,by simp,fun j hj=>by simp only [afQ] at hj; subst hj; exact ⟨ik,by simp [e]⟩⟩
theorem CL {isS:Bool} {len cap:Nat} {lo hi:Option Int} {l h:Option Value} (hlc:len≤cap) (hl:lo=none→l=none) (hl':∀j,lo=some j→∃ik,l=some (.int ik j)) (hh:hi=none→h=none) (hh':∀j,hi=some j→∃ik,h=some (.int ik j))
  (h1:∀j,hi=some j→0≤j∧j≤(len:Int)) (h2:∀j,lo=some j→0≤j∧j≤hi.getD (len:Int)) :
  (Instr.sliceBounds isS len cap l h none).run P w=.ok ((lo.getD 0).toNat,(hi.getD (len:Int)).toNat,cap) w:=by
 unfold Instr.sliceBounds
 cases hi with
 | none=>
  rw [hh rfl]
  cases lo with
  | none=>rw [hl rfl]; simp
  | some j=>
   obtain ⟨ik,e⟩:=hl' j rfl
   obtain ⟨g1,g2⟩:=h2 j rfl
   simp only [Option.getD_none] at g2
   rw [e]
   simp [Instr.sliceBound,asIntOf,g1,g2]
 | some i=>
  obtain ⟨ik,e⟩:=hh' i rfl
  obtain ⟨f1,f2⟩:=h1 i rfl
  have f3:i≤(cap:Int):=by omega
  rw [e]
  cases lo with
  | none=>rw [hl rfl]; simp [Instr.sliceBound,asIntOf,f1,f3]
  | some j=>
   obtain ⟨YT,e2⟩:=hl' j rfl
   obtain ⟨g1,g2⟩:=h2 j rfl
   simp only [Option.getD_some] at g2
   have g3:j≤max i 0:=by omega
   rw [e2]
   simp [Instr.sliceBound,asIntOf,f1,f3,g1]
   omega
theorem Kn {h:Heap} {ok:Nat→Prop} {e:TypeId} {k:K} {xs:List (El k)} {b:Option Addr} {n c l m:Nat} (H:Vw h ok (.sl e k) xs [.slice b n c]) (hl:l≤m) (hm:m≤n) :
  Vw h ok (.sl e k) (show List (El k) from (xs.take m).drop l) [.slice (if c=l then b else b.map (·.add (l * k.size))) (m - l) (c - l)]:=by
 obtain ⟨b',n',c',e1,e2,e3,e4⟩:=H
 simp only [List.cons.injEq,Value.slice.injEq,and_true] at e1
 obtain ⟨rfl,rfl,rfl⟩:=e1
 have hxl:xs.length=n:=e2.symm
 have hlen:((xs.take m).drop l).length=m - l:=by simp; omega
 refine ⟨_,_,_,rfl,hlen.symm,by omega,fun h0=>?_⟩
 obtain ⟨bb,q,rfl,hok,hel,hes⟩:=e4 (by omega)
 have hc:¬c=l:=by omega
 refine ⟨bb,q+l * k.size,by rw [if_neg hc]; simp [addr_add],hok,hel,fun i hi=>?_⟩
 have hi':i<((xs.take m).drop l).length:=hi
 obtain ⟨ds,h1,h2⟩:=hes (l+i) (by show l+i<xs.length; omega)
 refine ⟨ds, ?_, ?_⟩
 ·rw [Nat.add_assoc, ←Nat.add_mul]
  exact h1
 ·have:(show List (El k) from (xs.take m).drop l)[i]'hi=xs[l+i]'(by omega):=by
   show ((xs.take m).drop l)[i]=_
   simp
  rw [this]
  exact h2
theorem EN (B:ByteArray) (l m:Nat):bytesOf (B.extract l m)=((bytesOf B).take m).drop l:=by
 unfold bytesOf
 rw [←List.map_take, ←List.map_drop]
 congr 1
 simp [ByteArray.data_extract,List.extract_eq_take_drop,List.drop_take]
def Cm (lo:Option Int):Nat:=(lo.getD 0).toNat
def FT (hi:Option Int) (n:Nat):Nat:=(hi.getD (n:Int)).toNat
theorem FJ {t e:TypeId} {k:K} (ht:fB P T t (.sl e k)) {b:Option Addr} {n c:Nat} {lo hi:Option Int} {l h:Option Value} (hlc:n≤c) (hl:lo=none→l=none) (hl':∀j,lo=some j→∃ik,l=some (.int ik j)) (hh:hi=none→h=none) (hh':∀j,hi=some j→∃ik,h=some (.int ik j))
  (h1:∀j,hi=some j→0≤j∧j≤(n:Int)) (h2:∀j,lo=some j→0≤j∧j≤hi.getD (n:Int)) :
  (Instr.sliceAt t (.slice b n c) l h none).run P w=.ok (.slice (if c=Cm lo then b else b.map (·.add (Cm lo * k.size))) (FT hi n - Cm lo) (c - Cm lo)) w:=by
 obtain ⟨hu,he,_,_⟩:=ht.sl
 unfold Instr.sliceAt Instr.slice
 simp only [agf,run_underlying hu,Result.andThen,CL (isS:=true) (w:=w) hlc hl hl' hh hh' h1 h2,he.info.sizeOf w,agl]
 rfl
theorem Du {t:TypeId} (ht:fB P T t .str) {B:ByteArray} {lo hi:Option Int} {l h:Option Value} (hl:lo=none→l=none) (hl':∀j,lo=some j→∃ik,l=some (.int ik j)) (hh:hi=none→h=none) (hh':∀j,hi=some j→∃ik,h=some (.int ik j))
  (h1:∀j,hi=some j→0≤j∧j≤(B.size:Int)) (h2:∀j,lo=some j→0≤j∧j≤hi.getD (B.size:Int)) :
  (Instr.sliceAt t (.string B) l h none).run P w=.ok (.string (B.extract (Cm lo) (FT hi B.size))) w:=by
 have hu:=ht.str
 unfold Instr.sliceAt Instr.slice
 simp [agf,run_underlying hu,Result.andThen,CL (isS:=false) (w:=w) (af6 B.size) hl hl' hh hh' h1 h2,agl,Cm,FT]
theorem w9 {x:Option Operand} (h:isZero x=true):∃ik,x=some (.const (.int ik 0)):=by
 unfold isZero at h
 split at h
 ·exact ⟨_,rfl⟩
 ·simp at h
theorem LW (hT:dU P T) (H:Rel cx σ α F a w) (hd:o.dst=some d) (hdn:d<cx.nt) {t:TypeId} {x:Operand} {lo hi mx:Option Operand}
  (h:(match T.ty t with
   | some kk=>bif isZero lo && isZero hi && isZero mx then match kk with
     | .sl _ _=>dJ x fun
      | .iC=>.ret [Wr.s d (.one .iC)]
      | a=>qz a fun k' _ _=>bif k'.beq kk then .ret [Wr.s d (.one .iC)] else .fail
     | _=>.fail
    else match mx with
     | none=>dJ x fun a=>Ak lo fun lo=>Ak hi fun hi=>JX kk a lo hi fun u=>.ret [Wr.s d (.one u)]
     | some _=>.fail
   | none=>(.fail:Prog (List Wr))).ends σ ws) (ho:o.op=.slice t x lo hi mx):nJ P cx o a w (az ws σ):=by
 cases hty:T.ty t with
 | none=>rw [hty] at h; exact h.elim
 | some kk=>
  rw [hty] at h
  have ht:=hT.ty t kk hty
  rcases ay h with ⟨hz,h5⟩ | ⟨_,h5⟩
  ·simp only [afW] at hz
   obtain ⟨Vh,rfl⟩:=w9 hz.1.1
   obtain ⟨YT,rfl⟩:=w9 hz.1.2
   obtain ⟨ik3,rfl⟩:=w9 hz.2
   cases kk with
   | sl e k=>
    obtain ⟨u,h1,h2,h6⟩:=bP H h5
    have hfin:(∃b n c,a.eval x=.slice b n c)→ws=[Wr.s d (.one .iC)]→nJ P cx o a w (az ws σ):=by
     rintro ⟨b,n,c,e⟩ hws
     rw [hws]
     obtain ⟨hu,he,_,_⟩:=ht.sl
     refine bI (x:=.one .iC) (v:=.slice b 0 0) H hd hdn ?_ ⟨b,rfl⟩ trivial
     have hcv:∀v,a.eval (.const v)=v:=fun _=>rfl
     simp [execOp,ho,e,Instr.sliceAt,Instr.slice,run_underlying hu,Instr.sliceBounds,Instr.sliceBound,asIntOf,he.info.sizeOf w,hcv]
    cases u with
    | iC=>
     obtain ⟨b,e⟩:=h1
     exact hfin ⟨b,0,0,e⟩ (aA h6)
    | _=>
     obtain ⟨k',y,Tg,cs,g1,g2,g3,g4⟩:=qO H h1 h2 h6
     rcases beq_true g4 with ⟨ek,g5⟩ | ⟨_,g5⟩
     ·subst ek
      obtain ⟨b,n,c,f1,_⟩:=xy g1 g2
      exact hfin ⟨b,n,c,f1⟩ (aA g5)
     ·exact g5.elim
   | _=>exact h5.elim
  ·cases mx with
   | some m=>exact h5.elim
   | none=>
    obtain ⟨u,h1,h2,h6⟩:=bP H h5
    obtain ⟨l,h7,l1,l2⟩:=vN H h6
    obtain ⟨m,h8,m1,m2⟩:=vN H h7
    have hl:l=none→lo.map a.eval=none:=fun e=>by rw [l1.1 e]; rfl
    have hm:m=none→hi.map a.eval=none:=fun e=>by rw [m1.1 e]; rfl
    have hstr:∀{s:List Int} {Tg:List Tag},u=.val .str s Tg→nJ P cx o a w (az ws σ):=by
     intro s Tg e
     subst e
     obtain ⟨B,e1,e2⟩:=sH h1
     subst e2
     simp only [JX] at h8
     rcases ay h8 with ⟨_,h9⟩ | ⟨hk,h9⟩
     ·exact h9.elim
     ·have ek:kk=.str:=K.eq_of_beq (by simpa using hk)
      subst ek
      have hln:=jV B
      have hgo:∀{p:List Int},(∀j,m=some j→0≤j∧j≤(B.size:Int))→(∀j,l=some j→0≤j∧j≤m.getD (B.size:Int))→p=((bytesOf B).take (FT m B.size)).drop (Cm l)→ws=[Wr.s d (.one (.val .str p []))]→nJ P cx o a w (az ws σ):=by
       intro p g1 g2 hp hws
       rw [hws,hp]
       have hrun:=Du (w:=w) ht (B:=B) hl l2 hm m2 g1 g2
       refine bI (v:=.string (B.extract (Cm l) (FT m B.size))) H hd hdn ?_ ?_ (fun t ht=>by simp at ht)
       ·simp only [execOp,ho,e1,agf]
        rw [show (none:Option Operand).map a.eval=none from rfl,hrun]
        rfl
       ·rw [←EN]
        exact JK
      cases l with
      | none=>
       cases m with
       | none=>exact hgo (by simp) (by simp) (by simp [Cm,FT, ←hln]) (aA h9)
       | some j=>
        obtain ⟨hc,h9⟩:=h9
        exact hgo (fun i hi=>by simp only [afQ] at hi; subst hi; rw [←hln]; exact hc) (by simp) (by simp [Cm,FT]) (aA h9)
      | some i=>
       cases m with
       | none=>
        obtain ⟨hc,h9⟩:=h9
        exact hgo (by simp) (fun i hi=>by simp only [afQ] at hi; subst hi; simp only [Option.getD_none]; rw [←hln]; exact hc) (by simp [Cm,FT, ←hln]) (aA h9)
       | some j=>
        obtain ⟨hc,h9⟩:=h9
        have hc':0≤i∧i≤j∧j≤((bytesOf B).length:Int):=hc
        exact hgo (fun i' hi=>by simp only [afQ] at hi; subst hi; rw [←hln]; exact ⟨by omega,hc'.2.2⟩) (fun i' hi=>by simp only [afQ] at hi; subst hi; exact ⟨hc'.1,hc'.2.1⟩) (by simp [Cm,FT]) (aA h9)
    have hsl:(qz u fun k2 y Tg=>match k2,y with
      | .sl e k3,xs=>bif !kk.beq (.sl e k3) then .fail else
       match l,m with
       | none,none=>(.ret [Wr.s d (.one (.val (.sl e k3) xs Tg))]:Prog (List Wr))
       | some l,none=>.qB (0≤l∧l≤((show List (El k3) from xs).length:Int)) inferInstance (.ret [Wr.s d (.one (.val (.sl e k3) ((show List (El k3) from xs).drop l.toNat) Tg))])
       | none,some h=>.qB (0≤h∧h≤((show List (El k3) from xs).length:Int)) inferInstance (.ret [Wr.s d (.one (.val (.sl e k3) ((show List (El k3) from xs).take h.toNat) Tg))])
       | some l,some h=>.qB (0≤l∧l≤h∧h≤((show List (El k3) from xs).length:Int)) inferInstance (.ret [Wr.s d (.one (.val (.sl e k3) (((show List (El k3) from xs).take h.toNat).drop l.toNat) Tg))])
      | _,_=>.fail).ends σ ws→nJ P cx o a w (az ws σ):=by
     intro h9
     obtain ⟨k2,y,Tg,cs,g1,g2,g3,g4⟩:=qO H h1 h2 h9
     cases k2 with
     | sl e k3=>
      simp only at g4
      rcases ay g4 with ⟨_,g5⟩ | ⟨hk,g5⟩
      ·exact g5.elim
      ·have ek:kk=.sl e k3:=K.eq_of_beq (by simpa using hk)
       subst ek
       have hln:(show List (El k3) from y).length=@List.length (El k3) y:=rfl
       obtain ⟨b,n,c,f1,f2,f3,f4,f5⟩:=xy g1 g2
       have hgo:∀{p:List (El k3)},(∀j,m=some j→0≤j∧j≤(n:Int))→(∀j,l=some j→0≤j∧j≤m.getD (n:Int))→p=((show List (El k3) from y).take (FT m n)).drop (Cm l)→ws=[Wr.s d (.one (.val (.sl e k3) p Tg))]→nJ P cx o a w (az ws σ):=by
        intro p q1 q2 hp hws
        rw [hws,hp]
        have hrun:=FJ (w:=w) ht (b:=b) f4 hl l2 hm m2 q1 q2
        have hlm:Cm l≤FT m n∧FT m n≤n:=by
         unfold Cm FT
         cases l with
         | none=>
          cases m with
          | none=>simp
          | some j=>have:=q1 j rfl; simp; omega
         | some i=>
          have h3:=q2 i rfl
          cases m with
          | none=>simp at h3 ⊢; omega
          | some j=>have:=q1 j rfl; simp at h3 ⊢; omega
        have hV:=Kn (xs:=(show List (El k3) from y)) (by rw [f2] at g2; exact g2) hlm.1 hlm.2
        refine bI H hd hdn ?_ (show bH cx σ α F w (.val (.sl e k3) _ Tg) (.slice (if c=Cm l then b else b.map (·.add (Cm l * k3.size))) (FT m n - Cm l) (c - Cm l)) from fun _=>⟨_,⟨rfl,by simp⟩,hV⟩) g3
        simp only [execOp,ho,f1,agf]
        rw [show (none:Option Operand).map a.eval=none from rfl,hrun]
        rfl
       have f3':((show List (El k3) from y).length:Int)=(n:Int):=by rw [f3]
       cases l with
       | none=>
        cases m with
        | none=>exact hgo (by simp) (by simp) (by simp only [Cm,FT,Option.getD_none,af0,Int.toNat_zero,List.drop_zero]; rw [f3,List.take_length]) (aA g5)
        | some j=>
         obtain ⟨hc,h9⟩:=g5
         exact hgo (fun i hi=>by simp only [afQ] at hi; subst hi; rw [←f3']; exact hc) (by simp) (by simp [Cm,FT]) (aA h9)
       | some i=>
        cases m with
        | none=>
         obtain ⟨hc,h9⟩:=g5
         exact hgo (by simp) (fun i hi=>by simp only [afQ] at hi; subst hi; simp only [Option.getD_none]; rw [←f3']; exact hc) (by simp only [Cm,FT,Option.getD_none,Option.getD_some,af0]; rw [f3,List.take_length]) (aA h9)
        | some j=>
         obtain ⟨hc,h9⟩:=g5
         have hc':0≤i∧i≤j∧j≤((show List (El k3) from y).length:Int):=hc
         exact hgo (fun i' hi=>by simp only [afQ] at hi; subst hi; rw [←f3']; exact ⟨by omega,hc'.2.2⟩) (fun i' hi=>by simp only [afQ] at hi; subst hi; exact ⟨hc'.1,hc'.2.1⟩) (by simp [Cm,FT]) (aA h9)
     | _=>exact g4.elim
    cases u with
    | val k1 s Tg=>
     cases k1 with
     | str=>exact hstr rfl
     | _=>exact hsl h8
    | _=>exact hsl h8
end
end
section
open Go
variable [Fr]
section
variable {cx:Cx} {σ:St} {α:dI} {F:List Nat} {a:Act} {w:World} {r:Nat} {R:Root}
theorem Rel.lose (H:Rel cx σ α F a w) (hr:aN σ r R) (hv:bn σ R) {l:List TypeId} (hl:l≠[]):∃α',Rel cx (aj σ r (rE R l)) α' F a w:=by
 have K:=H.roots r R hr
 have hnt:=H.dh r R hr.1
 have hsub:∀t,au t (bD R.own l)=true→au t R.own=true:=fun t ht=>(dn.1 ht).1
 obtain ⟨DW,fd,hp1,hO⟩:=qG (own':=bD R.own l) (fun t _ h=>hsub t h) (K.ow hv)
 have hfo:∀b∈DW,b∈α.fo r:=fun b hb=>hp1.mem_iff.2 (afV _ hb)
 have YO:∀b∈fd,b∈α.fo r:=fun b hb=>hp1.mem_iff.2 (afS _ hb)
 have hbk:∀b∈gQ (rE R l) (α.loc r) DW,b∈blk α R r:=fun b hb=>by
  rw [bV]
  rcases afZ.1 hb with h | h
  ·exact afV _ h
  ·exact afS _ (hfo b h)
 have hnd:=K.nd
 rw [bV] at hnd
 have Uv:(gQ R (α.loc r) (DW++fd)).Nodup:=by
  have:(gQ R (α.loc r) (α.fo r)).Perm (gQ R (α.loc r) (DW++fd)):=List.Perm.append_left _ hp1
  exact this.nodup_iff.1 hnd
 have Sc:(gQ R (α.loc r) DW++fd).Nodup:=by
  have e:gQ R (α.loc r) (DW++fd)=gQ R (α.loc r) DW++fd:=by simp [gQ,agb]
  rw [←e]; exact Uv
 have T1:vg cx σ α F w r R (rE R l) DW F w l []:=by
  refine ⟨.inr ⟨rfl,rfl,af6 _,rfl,fun _=>rfl, .inl hl⟩,⟨fun t ht=>hnt.1 t ht,fun n hn=>hnt.2.2 n hn⟩,⟨rfl,rfl,rfl⟩,af6 _,fun b _ hne=>absurd rfl hne,fun _ b hb=>.inl (hbk b hb),fun b hb=>.inl hb,H.uU,fun _ b hb=>H.iB r R hr b (hbk b hb),fun _ _ _ _ _ _ _ _ hne=>absurd rfl hne,fun _=>⟨rfl,rfl⟩⟩
 have hcl0:∀tys,bg (aj σ r (rE R l)) tys R.tags=bg σ tys R.tags:=fun tys=>kr hnt.2.2
 refine ⟨aG α r (α.loc r) (α.hdr r) DW,T1.rel H hr (fun _=>⟨fun hvn=>?_,K.len,fun b o hb=>?_, ?_⟩) ?_ ?_⟩
 ·refine bq (fun _ _=>rfl) (fun b hb=>?_) (fun _ _=>rfl) hO
  have hblk:∀q Q,aN (aj σ r (rE R l)) q Q→b∈blk (aG α r (α.loc r) (α.hdr r) DW) Q q→(q=r∧b∈gQ R (α.loc r) DW)∨(q≠r∧aN σ q Q∧b∈blk α Q q):=by
   intro q Q hq hbq
   by_cases e:q=r
   ·subst e
    obtain ⟨rfl,_⟩:=eD hq
    rw [dY] at hbq
    exact .inl ⟨rfl,hbq⟩
   ·refine .inr ⟨e,(Ck e).1 hq, ?_⟩
    cases Re:Nat.beq q r with
    | true=>exact absurd (afU Re) e
    | false=>simpa [blk,dQ,aG,upd,Re] using hbq
  rcases hb with hb | hb
  ·obtain ⟨g1,g2,g3,g4,g5⟩:=hb
   refine ⟨g1,g2,g3,fun q Q hq hbq=>?_,g5⟩
   rcases hblk q Q hq hbq with ⟨rfl,h⟩ | ⟨_,h1,h2⟩
   ·exact g4 q R hr (hbk b h)
   ·exact g4 q Q h1 h2
  ·have hbb:b∈blk α R r:=afS _ (YO b hb)
   have hm:=K.mine b hbb
   refine ⟨hm.1,H.iB r R hr b hbb,lF H hr (YO b hb),fun q Q hq hbq=>?_,fun h0=>?_⟩
   ·exfalso
    rcases hblk q Q hq hbq with ⟨rfl,h⟩ | ⟨h,h1,h2⟩
    ·exact (afX.1 Sc).2.2 b h b hb rfl
    ·exact H.AB q Q r R h1 hr h b h2 hbb
   ·rcases hm.2 with h | ⟨j,pi,h1,h2⟩
    ·omega
    ·exact .inr ⟨j,pi,h1,h2⟩
 ·exact K.mem b o (by rw [qi]; exact hb)
 ·have:=Sc.sublist (List.sublist_append_left _ _)
  exact this
 ·intro _ p n v hn hold
  refine ⟨hold.1,fun Q hQ Rl hcl hty hs=>?_⟩
  rw [aH] at hQ
  simp only [afQ] at hQ
  subst hQ
  obtain ⟨g1,cs,b,o,g2,g3⟩:=hold.2 R hr.1 hv hcl (fun t ht=>hsub t (hty t ht)) hs
  refine ⟨g1,cs,b,o, ?_,g3⟩
  have e1:(aG α r (α.loc r) (α.hdr r) DW).hdr r=α.hdr r:=by simp [aG,upd_same]
  have e2:dQ (aG α r (α.loc r) (α.hdr r) DW) (rE R l) r=dQ α R r:=by rw [jf,qi]; rfl
  rw [e1,e2]
  exact g2
 ·intro _ g v _ hold Q hQ hg
  obtain ⟨rfl,_⟩:=eD hQ
  obtain ⟨h1,h2⟩:=hold R hr hg
  refine ⟨h1, ?_⟩
  simp only [aG,upd_same]
  exact h2
theorem UT (H:Rel cx σ α F a w) (l:List TypeId) (r:Nat):∃α',Rel cx (Pm l r σ) α' F a w:=by
 unfold Pm
 split
 ·exact ⟨_,H⟩
 ·rename_i hl
  split
  ·rename_i R hR
   cases hc:R.aZ || !bg σ R.wF R.tags || !R.own.any (fun t=>au t l) with
   | true=>exact ⟨_,H⟩
   | false=>
    simp only [Bool.or_eq_false_iff,Bool.not_eq_false'] at hc
    exact H.lose (r:=r) (R:=R) ⟨hR,hc.1.1⟩ ⟨hc.1.1,hc.1.2⟩ (fun h=>hl h)
  ·exact ⟨_,H⟩
theorem Fp (hi:Hint):∀(rs:List Nat) {σ:St} {α:dI},Rel cx σ α F a w→∃α',Rel cx (xh hi rs σ) α' F a w
 | [],_,_,H=>⟨_,H⟩
 | r :: rs,_,_,H=>by
  obtain ⟨α',h⟩:=UT H (ru (1000000+r) hi.less) r
  exact Fp hi rs h
end
end
section
open Go
variable [Fr]
section
variable {cx:Cx} {σ:St} {α:dI} {F:List Nat} {a:Act} {w:World} {r:Nat}
theorem K5 (H:Rel cx σ α F a w) (hn:σ.roots r=none) (hx:fC r=false) {e:TypeId} {k:K} {xs:List (El k)} {own:List TypeId} {tags:List Tag} {arr:Array Value} {lo hi n c:Nat} {bz:List (List Nat)} {F1:List Nat}
  (hwt:eG σ tags) (hown:au e own=true) (hfr:yI arr.size lo hi) (hnx:n=xs.length) (hnc:n≤c) (hca:c * k.size≤arr.size)
  (hfl:bz.length=xs.length) (Iy:∀b∈bz.flatten,b∈F) (Fb:bz.flatten.Nodup) (hF1:∀b∈F1,b∈F∧b∉bz.flatten) (Xb:F1.Nodup)
  (hel:∀(i:Nat) (hi:i<xs.length),∃ds,ds.length=k.size∧(∀j,j<ds.length→arr[i * k.size+j]?=ds[j]?)∧Ow (hp w) own (fun b=>gV cx σ α F w tags b∨(b∈F∧b∉F1∧b∉bz.flatten)) k xs[i] ds (bz.getD i [])) (kp:Bool) (dr:Nat) :
  ∃α' F',Rel cx (aj σ r (aI (.sl e k) xs own tags .anon kp)) α' F' a ((dw w dr).alloc (.cells arr e (lo,hi)))∧
   bH cx (aj σ r (aI (.sl e k) xs own tags .anon kp)) α' F' ((dw w dr).alloc (.cells arr e (lo,hi))) (.ref r 0) (.slice (some ⟨w.heap.size,0,none⟩) n c):=by
 have H0:=H.drawn dr
 obtain ⟨H1,T1⟩:=H0.alloc (.cells arr e (lo,hi))
 have hsz:(dw w dr).heap.size=w.heap.size:=rfl
 have hnew:hp ((dw w dr).alloc (.cells arr e (lo,hi))) w.heap.size=some (.cells arr e (lo,hi)):=oh (dw w dr) _
 have hold:∀b,b<w.heap.size→hp ((dw w dr).alloc (.cells arr e (lo,hi))) b=hp w b:=fun b hb=>mg (dw w dr) _ hb
 have Ah:w.heap.size∉F:=fun h=>by have:=(H.fl _ h).1; omega
 have hv:aR own (.sl e k)=aR own k:=by simp [aR,hown]
 obtain ⟨α',k1,k2⟩:=tJ (k:=.sl e k) (x:=(xs:El (.sl e k))) (own:=own) (tags:=tags) (v:=.slice (some ⟨w.heap.size,0,none⟩) n c) (cs:=[.slice (some ⟨w.heap.size,0,none⟩) n c]) (fo:=w.heap.size :: bz.flatten) (r:=r) (F':=F1) H1 hn hx
  (fun b hb=>by
   rcases af2.1 hb with h | h
   ·subst h; exact agn
   ·exact age _ (Iy b h))
  (agp.2 ⟨fun h=>Ah (Iy _ h),Fb⟩) hwt
  (fun b hb=>⟨age _ (hF1 b hb).1,fun h=>by
   rcases af2.1 h with h | h
   ·subst h; exact Ah (hF1 _ hb).1
   ·exact (hF1 b hb).2 h⟩) Xb rfl
  (fun hc=>by
   rw [hv] at hc
   obtain ⟨_,hV,_⟩:=T1.views H0 tags _ hwt hc
   unfold Ow
   rw [if_pos hown]
   refine ⟨_,_,_,rfl,hnx,hnc, .inr ⟨w.heap.size,0,arr,lo,hi,rfl,hnew,hfr,by omega,bz,hfl, .refl _,fun i hi=>?_⟩⟩
   obtain ⟨ds,h1,h2,h3⟩:=hel i hi
   refine ⟨ds,fun j hj=>?_, ?_⟩
   ·unfold cellAt
    rw [hnew]
    simp only [Nat.zero_add]
    exact h2 j hj
   ·refine bq ?_ ?_ (fun b hb=>hold b (H.fl b (Iy b (ou hb))).1) (oN _ (fun _ h=>h) h3)
    ·rintro b ⟨hb | ⟨hb,_⟩,_⟩
     ·exact hold b hb.1
     ·exact hold b (H.fl b hb).1
    ·rintro b ⟨hb | ⟨g1,g2,g3⟩,hty⟩
     ·exact .inl (hV b hb (.inl hty)).1
     ·refine .inr ⟨age _ g1,g2,fun h=>?_⟩
      rcases af2.1 h with h | h
      ·subst h; exact Ah g1
      ·exact g3 h) ⟨rfl,by simp⟩ kp
 exact ⟨α',F1,k1,k2⟩
theorem FE (H:Rel cx σ α F a w) (hn:σ.roots r=none) (hx:fC r=false) {e:TypeId} {k:K} {xs:List (El k)} {own:List TypeId} {arr:Array Value} {lo hi n c:Nat}
  (hown:au e own=true) (hfr:yI arr.size lo hi) (hnx:n=xs.length) (hnc:n≤c) (hca:c * k.size≤arr.size)
  (hel:∀(i:Nat) (hi:i<xs.length),∃ds,ds.length=k.size∧(∀j,j<ds.length→arr[i * k.size+j]?=ds[j]?)∧∀h ok,Ow h own ok k xs[i] ds []) (kp:Bool) (dr:Nat) :
  ∃α' F',Rel cx (aj σ r (aI (.sl e k) xs own [] .anon kp)) α' F' a ((dw w dr).alloc (.cells arr e (lo,hi)))∧
   bH cx (aj σ r (aI (.sl e k) xs own [] .anon kp)) α' F' ((dw w dr).alloc (.cells arr e (lo,hi))) (.ref r 0) (.slice (some ⟨w.heap.size,0,none⟩) n c):=by
 have hfl:(List.replicate xs.length ([]:List Nat)).flatten=[]:=by simp
 refine K5 H hn hx (bz:=List.replicate xs.length []) (F1:=F) (fun t ht=>by simp at ht) hown hfr hnx hnc hca (by simp) (by rw [hfl]; simp) (by rw [hfl]; exact List.nodup_nil) (by rw [hfl]; exact fun b hb=>⟨hb,by simp⟩) H.uU ?_ kp dr
 intro i hi
 obtain ⟨ds,h1,h2,h3⟩:=hel i hi
 refine ⟨ds,h1,h2, ?_⟩
 have:(List.replicate xs.length ([]:List Nat)).getD i []=[]:=by
  rw [bZ (by simpa using hi)]; simp
 rw [this]
 exact h3 _ _
end
end
section
open Go
variable [Fr]
section
variable {P:Program} {T:iD} {cx:Cx} {σ:St} {α:dI} {F:List Nat} {a:Act} {w:World} {o:Oper} {d:Nat} {ws:List Wr}
theorem fB.int {t:TypeId} {ik:IntKind} (h:fB P T t (.int ik)):P.underlying t=some (.int ik):=by
 unfold fB iW at h
 exact h.1
theorem fB.und {t:TypeId} {k:K} (h:fB P T t k):∃u,P.underlying t=some u:=by
 unfold fB iW at h
 cases k with
 | int ik=>exact ⟨_,h.1⟩
 | bool=>exact ⟨_,h.1⟩
 | id e=>exact ⟨_,h.1⟩
 | str=>exact ⟨_,h.1⟩
 | sl e k=>exact ⟨_,h.1⟩
 | unit=>exact h.elim
 | pair a b=>exact h.elim
 | st c=>obtain ⟨⟨fs,h1,_⟩,_⟩:=h; exact ⟨_,h1⟩
 | gap n=>exact h.elim
theorem JP (ns:List Int):∀(s:ByteArray),(∀n∈ns,0≤n∧n<256)→bytesOf (ns.foldl (fun r n=>r.push (UInt8.ofNat n.toNat)) s)=bytesOf s++ns:=by
 induction ns with
 | nil=>intro s _; simp
 | cons n ns ih=>
  intro s h
  rw [List.foldl_cons,ih _ (fun m hm=>h m (by simp [hm]))]
  have h1:=h n (by simp)
  have:bytesOf (s.push (UInt8.ofNat n.toNat))=bytesOf s++[n]:=by
   unfold bytesOf
   simp only [ByteArray.push,Array.toList_push,List.map_append,List.map_cons,List.map_nil]
   congr 2
   simp
   omega
  rw [this]
  simp
theorem Lu {h:Heap} {ok:Nat→Prop} {xs:List Int} {bb q:Nat} (hes:∀(i:Nat) (hi:i<xs.length),∃ds,Cells h bb (q+i * 1) ds∧Vw h ok (.int .u8) xs[i] ds) :
  Cells h bb q (xs.map (Value.int .u8))∧∀n∈xs,0≤n∧n<256:=by
 refine ⟨fun i hi=>?_,fun n hn=>?_⟩
 ·simp only [List.length_map] at hi
  obtain ⟨ds,h1,h2,_⟩:=hes i hi
  have:=h1 0 (by rw [h2]; simp)
  rw [h2] at this
  simp only [Nat.add_zero,Nat.mul_one,List.getElem?_cons_zero] at this
  rw [this]
  simp [hi]
 ·obtain ⟨i,hi,rfl⟩:=List.mem_iff_getElem.1 hn
  obtain ⟨ds,_,_,h3⟩:=hes i hi
  exact h3
theorem Gu (hT:dU P T) (H:Rel cx σ α F a w) (hd:o.dst=some d) (hdn:d<cx.nt) {s t:TypeId} {x:Operand} (ho:o.op=.convert s t x)
  (h:(dJ x fun a=>NM T d s t a fun ws=>(.ret ws:Prog (List Wr))).ends σ ws):nJ P cx o a w (az ws σ):=by
 obtain ⟨u,h1,h2,h5⟩:=bP H h
 have hrun:∀{v:Value} {w':World},(convert s t (a.eval x)).run P w=.ok v w'→(execOp a.eval o).run P w=.ok (.value v) w':=by
  intro v w' h
  simp only [execOp,ho,agf,h,af8,agl]
 have hstr:∀{B:ByteArray},(convert s t (a.eval x)).run P w=.ok (.string B) w→nJ P cx o a w (az [Wr.s d (v1 .str (bytesOf B))] σ):=by
  intro B hr
  exact bI H hd hdn (hrun hr) (show bH cx σ α F w (.val .str (bytesOf B) []) _ from JK) u7
 unfold NM at h5
 cases hs:T.ty s with
 | none=>rw [hs] at h5; exact h5.elim
 | some ks=>
  have hks:=hT.ty s ks hs
  cases ht:T.ty t with
  | none=>rw [hs,ht] at h5; cases ks <;> exact h5.elim
  | some kt=>
   have hkt:=hT.ty t kt ht
   rw [hs,ht] at h5
   obtain ⟨us,hus⟩:=hks.und
   cases kt with
   | int ik=>
    have h6:(match u with
     | .val (.int _) n _=>(.ret [Wr.s d (v1 (.int ik) (ik.wrap n))]:Prog (List Wr))
     | _=>.fail).ends σ ws:=by cases ks <;> exact h5
    split at h6
    ·obtain ⟨e1,e2⟩:=sG h1
     rw [aA h6]
     refine bI H hd hdn (hrun ?_) (lN ik (kK _ _)) u7
     rw [e1]
     unfold convert
     simp only [agf,run_underlying hus,run_underlying hkt.int,Result.andThen]
     rfl
    ·exact h6.elim
   | str=>
    cases ks with
    | str=>
     simp only at h5
     split at h5
     ·obtain ⟨B,e1,e2⟩:=sH h1
      subst e2
      rw [aA h5]
      refine hstr ?_
      rw [e1]
      unfold convert
      simp only [agf,run_underlying hks.str,run_underlying hkt.str,Result.andThen]
      rfl
     ·exact h5.elim
    | sl e k1=>
     cases k1 with
     | int Vh=>
      cases Vh with
      | u8=>
       obtain ⟨hu,he,_,_⟩:=hks.sl
       have hgo:∀{b:Option Addr} {n c:Nat} {xs:List Int},a.eval x=.slice b n c→n=xs.length→(0<n→∃bb q,b=some ⟨bb,q,none⟩∧∀(i:Nat) (hi:i<xs.length),∃ds,Cells (hp w) bb (q+i * 1) ds∧Vw (hp w) (fun _=>True) (.int .u8) xs[i] ds)→
         ws=[Wr.s d (v1 .str xs)]→nJ P cx o a w (az ws σ):=by
        intro b n c xs e hn hes hws
        have hcv:(convert s t (a.eval x)).run P w=(Conv.bytesToString (.slice b n c)).run P w:=by
         rw [e]
         unfold convert
         simp only [agf,run_underlying hu,run_underlying hkt.str,run_underlying he.int,Result.andThen]
        cases b with
        | none=>
         have hx0:xs=[]:=by
          cases xs with
          | nil=>rfl
          | cons y ys=>
           obtain ⟨bb,q,h0,_⟩:=hes (by rw [hn]; simp)
           simp at h0
         subst hx0
         rw [hws]
         exact hstr (B:=ByteArray.empty) (hcv.trans rfl)
        | some ad=>
         by_cases h0:0<n
         ·obtain ⟨bb,q,e0,hes'⟩:=hes h0
          simp only [afQ] at e0
          subst e0
          obtain ⟨g1,g2⟩:=Lu hes'
          have hl:(loadCells ⟨bb,q,none⟩ n).run P w=.ok (xs.map (Value.int .u8)).toArray w:=by
           have:=run_loadCells_list (P:=P) w ⟨bb,q,none⟩ (xs.map (Value.int .u8)) (fun j v hj=>by
            rw [addr_add,uB,g1 j (List.getElem?_eq_some_iff.1 hj).1]
            exact hj)
           simpa [hn] using this
          have hb:=run_bytesToString w ⟨bb,q,none⟩ n c xs hl
          have hbe:=JP xs ByteArray.empty g2
          have:xs=bytesOf (xs.foldl (fun r n=>r.push (UInt8.ofNat n.toNat)) ByteArray.empty):=by rw [hbe]; rfl
          rw [hws,this]
          exact hstr (hcv.trans hb)
         ·have hx0:xs=[]:=List.eq_nil_of_length_eq_zero (by omega)
          subst hx0
          have hn0:n=0:=by omega
          subst hn0
          have hl:(loadCells ad 0).run P w=.ok (([]:List Int).map (Value.int .u8)).toArray w:=rfl
          have hb:=run_bytesToString w ad 0 c [] hl
          rw [hws]
          exact hstr (B:=ByteArray.empty) (hcv.trans hb)
       cases u with
       | iC=>
        obtain ⟨b,e⟩:=h1
        exact hgo (xs:=[]) e rfl (fun h=>by omega) (aA h5)
       | _=>
        obtain ⟨k',y,Tg,cs,g1,g2,g3,g4⟩:=qO H h1 h2 h5
        cases k' with
        | sl e' k2=>
         cases k2 with
         | int YT=>
          cases YT with
          | u8=>
           obtain ⟨b,n,c,f1,f2,f3,f4,f5⟩:=xy g1 g2
           refine hgo (xs:=y) f1 f3 (fun h0=>?_) (aA g4)
           obtain ⟨bb,q,e0,_,_,hes⟩:=f5 h0
           exact ⟨bb,q,e0,fun i hi=>by
            obtain ⟨ds,m1,m2⟩:=hes i hi
            exact ⟨ds,m1,m2⟩⟩
          | _=>exact g4.elim
         | _=>exact g4.elim
        | _=>exact g4.elim
      | _=>exact h5.elim
     | _=>exact h5.elim
    | _=>exact h5.elim
   | sl e k1=>
    cases ks with
    | str=>
     cases k1 with
     | int Vh=>
      cases Vh with
      | u8=>
       simp only at h5
       split at h5
       ·obtain ⟨B,e1,e2⟩:=sH h1
        subst e2
        obtain ⟨g1,g2⟩:=fF h5
        rw [aA g2]
        obtain ⟨hu,he,_,_⟩:=hkt.sl
        have hr:=run_bytes_of_string w s t e B hks.str hu he.int
        have hcap:=grownCap_ge w B.size 0 e
        have hsz:(bytesRow B (grownCap w B.size 0 e)).size=grownCap w B.size 0 e:=by
         simp [bytesRow]
         show B.data.size+_=_
         have:B.data.size=B.size:=rfl
         omega
        obtain ⟨α',F',r1,r2⟩:=FE (r:=aX d 0) (e:=e) (k:=.int .u8) (xs:=bytesOf B) (own:=[e]) (arr:=bytesRow B (grownCap w B.size 0 e)) (lo:=(bytesRow B (grownCap w B.size 0 e)).size) (hi:=(bytesRow B (grownCap w B.size 0 e)).size+1) (n:=B.size) (c:=grownCap w B.size 0 e) H g1 (eO d 0)
         (by simp [au]) ⟨by omega,fun i hi=>by omega⟩ (jV B).symm hcap (by simp [K.size,hsz])
         (fun i hi=>by
          have hi':i<B.size:=by rw [←jV B]; exact hi
          refine ⟨[Value.int .u8 (bytesOf B)[i]],rfl,fun j hj=>?_,fun h ok=>⟨rfl,rfl, ?_⟩⟩
          ·simp only [aga] at hj
           have hj0:j=0:=by omega
           subst hj0
           have hid:i<B.data.size:=hi'
           simp only [K.size,Nat.mul_one,Nat.add_zero,List.getElem?_cons_zero]
           unfold bytesRow
           rw [Array.getElem?_append_left (by simpa using hid)]
           simp [bytesOf]
           exact ⟨B.data[i],Array.getElem?_eq_getElem hid,rfl⟩
          ·have:=(bytesOf B)[i]
           have hm:(bytesOf B)[i]∈bytesOf B:=agj hi
           unfold bytesOf at hm
           obtain ⟨y,_,hy⟩:=ags.1 hm
           show (0:Int)≤(bytesOf B)[i]∧(bytesOf B)[i]<256
           have hy':(y.toNat:Int)=(bytesOf B)[i]:=hy
           rw [←hy']
           have:=y.toNat_lt
           omega) false (w.drawn+1)
        exact gT (x:=.one (.ref (aX d 0) 0)) r1 hd hdn (hrun (by rw [e1]; exact hr)) r2 ⟨_,aH .., .inr (agq _)⟩
       ·exact h5.elim
      | _=>exact h5.elim
     | _=>exact h5.elim
    | _=>
     cases k1 with
     | int Vh=>cases Vh <;> exact h5.elim
     | _=>exact h5.elim
   | _=>cases ks <;> exact h5.elim
end
end
section
open Go
variable [Fr]
section
variable {P:Program} {T:iD} {cx:Cx} {σ:St} {α:dI} {F:List Nat} {a:Act} {w:World} {o:Oper} {d:Nat} {ws:List Wr}
theorem rQ {k:K} (h:(∀a b,k≠.pair a b)∧k≠.unit∧∀n,k≠.gap n):(oJ k).cells=(bK k).toArray:=by
 have:=(Lb h.1 h.2.1 h.2.2).cells
 apply Array.ext'
 simpa using this
theorem Fq {z:Array Value} {n j:Nat} (h:j<n) (hz:0<z.size):(madeCells z n)[j]?=z[j % z.size]?:=by
 unfold madeCells
 have:j % z.size<z.size:=Nat.mod_lt _ hz
 simp [h,this]
theorem De (hT:dU P T) (H:Rel cx σ α F a w) (hd:o.dst=some d) (hdn:d<cx.nt) {t:TypeId} {x y:Operand}
  (h:(match T.ty t with
   | some (.sl e kk)=>dJ x fun a=>dJ y fun b=>asInt a fun ik i=>asInt b fun jk j=>bif uW ik .i64 && uW jk .i64 then
     .qB (i=j∧0≤i∧i * T.bytes e≤140737488355328) inferInstance (ig (aX d 0)
      (.ret [Wr.r (aX d 0) (some (aI (.sl e kk) (List.replicate i.toNat kk.zero) (e :: kk.tys) [] .anon)),Wr.s d (.one (.ref (aX d 0) 0))]))
    else (.fail:Prog (List Wr))
   | _=>.fail).ends σ ws) (ho:o.op=.makeSlice t x y):nJ P cx o a w (az ws σ):=by
 cases hty:T.ty t with
 | none=>rw [hty] at h; exact h.elim
 | some k0=>
  rw [hty] at h
  cases k0 with
  | sl e kk=>
   have ht:=hT.ty t _ hty
   simp only at h
   obtain ⟨u,h1,_,h2⟩:=bP H h
   obtain ⟨v,h3,_,h4⟩:=bP H h2
   obtain ⟨ik,i,e1,_,h5⟩:=tK h1 h4
   obtain ⟨jk,j,e2,_,h6⟩:=tK h3 h5
   rcases ay h6 with ⟨_,h7⟩ | ⟨_,h7⟩
   ·obtain ⟨⟨hij,h0,hb⟩,h8⟩:=h7
    obtain ⟨g1,g2⟩:=fF h8
    rw [aA g2]
    obtain ⟨hu,he,hk,ii,hi,hby,hpos⟩:=ht.sl
    obtain ⟨i',hi',hs',hz'⟩:=he.info
    rw [hi] at hi'
    simp only [afQ] at hi'
    subst hi'
    obtain ⟨n,rfl⟩:∃n:Nat,i=n:=⟨i.toNat,by omega⟩
    subst hij
    have hbn:n * T.bytes e≤140737488355328:=by
     have:((n * T.bytes e:Nat):Int)≤140737488355328:=by simpa using hb
     omega
    have hn:n≤140737488355328:=by
     have:n * 1≤n * T.bytes e:=Nat.mul_le_mul_left _ (by omega)
     omega
    have hbi:(ii.bytes:Int) * (n:Int)≤281474976710656:=by
     rw [hby]
     have:((T.bytes e * n:Nat):Int)≤281474976710656:=by rw [Nat.mul_comm]; omega
     simpa using this
    have hr:=run_make (P:=P) w t e ii (oJ kk) hu hi hz' ik jk (n:Int) (n:Int) (by omega) (Int.le_refl _) hbi (by omega)
    simp only [af0,hs'] at hr
    have hsh:=he.shape
    have hzc:=rQ hsh
    have X6:∀h ok,Ow h (e :: kk.tys) ok kk kk.zero (bK kk) []:=fun h ok=>yG he.eF (fun t ht=>aJ.2 (by simp [ht]))
    have hzl:(bK kk).length=kk.size:=cO (X6 (hp w) (fun _=>True))
    have hms:(madeCells (oJ kk).cells (n * kk.size)).size=n * kk.size:=by simp [madeCells]
    obtain ⟨α',F',r1,r2⟩:=FE (r:=aX d 0) (e:=e) (k:=kk) (xs:=List.replicate n kk.zero) (own:=e :: kk.tys) (arr:=madeCells (oJ kk).cells (n * kk.size)) (lo:=0) (hi:=0) (n:=n) (c:=n) H g1 (eO d 0)
     (aJ.2 (by simp)) yI.zero (by simp) (af6 _) (by rw [hms]; exact af6 _)
     (fun i hi=>by
      have hi':i<n:=by simpa using hi
      refine ⟨bK kk,hzl,fun j hj=>?_,fun h ok=>?_⟩
      ·have hlt:i * kk.size+j<n * kk.size:=by
        have:(i+1) * kk.size≤n * kk.size:=agm _ (by omega)
        rw [Nat.add_mul,Nat.one_mul] at this
        omega
       rw [Fq hlt (by rw [hzc]; simp; omega),hzc]
       simp only [List.size_toArray,hzl,List.getElem?_toArray]
       congr 1
       rw [Nat.mul_comm,Nat.mul_add_mod]
       exact Nat.mod_eq_of_lt (by omega)
      ·have:(List.replicate n kk.zero)[i]'hi=kk.zero:=by simp
       rw [this]
       exact X6 h ok) false w.drawn
    refine gT (x:=.one (.ref (aX d 0) 0)) r1 hd hdn ?_ r2 ⟨_,aH .., .inr (agq _)⟩
    simp only [execOp,ho,e1,e2,agf,hr,af8,agl]
    rfl
   ·exact h7.elim
  | _=>exact h.elim
end
end
section
open Go
variable [Fr]
section
variable {P:Program} {T:iD} {cx:Cx} {σ:St} {α:dI} {F:List Nat} {a:Act} {w:World} {o:Oper} {d:Nat} {ws:List Wr}
def mm2 (mx:Bool):Value→Value→Sem Value:=if mx then Builtin.max2 else Builtin.min2
theorem Po {A:Type} {z:A} {mx:Bool} {ik:IntKind} {k:Int→Prog A}:∀{l:List AV} {vs:List Value} {x:Int},dO cx σ α F w l vs→CG ik x→(ML mx ik x l k).ends σ z→
  ∃y,(vs.foldlM (mm2 mx) (.int ik x)).run P w=.ok (.int ik y) w∧CG ik y∧(k y).ends σ z:=by
 intro l
 induction l with
 | nil=>
  intro vs x h1 hr h
  cases vs with
  | nil=>exact ⟨x,rfl,hr,h⟩
  | cons v vs=>exact h1.elim
 | cons u l ih=>
  intro vs x h1 hr h
  cases vs with
  | nil=>exact h1.elim
  | cons v vs=>
   cases u with
   | val k1 y Tg=>
    cases k1 with
    | int jk=>
     simp only [ML] at h
     rcases ay h with ⟨hk,h5⟩ | ⟨_,h5⟩
     ·have:=vF hk
      subst this
      obtain ⟨e1,e2⟩:=sG h1.1
      subst e1
      have hr':CG ik (if mx=true then (if (show Int from y)>x then y else x) else (if (show Int from y)<x then y else x)):=by
       split <;> split <;> assumption
      obtain ⟨y',g1,g2,g3⟩:=ih h1.2 hr' h5
      refine ⟨y', ?_,g2,g3⟩
      rw [List.foldlM_cons,agf]
      have hstep:(mm2 mx (.int ik x) (.int ik y)).run P w=.ok (.int ik (if mx=true then (if (show Int from y)>x then y else x) else (if (show Int from y)<x then y else x))) w:=by
       cases mx <;> rfl
      rw [hstep]
      exact g1
     ·exact h5.elim
    | _=>exact h.elim
   | _=>exact h.elim
theorem BA (H:Rel cx σ α F a w) (hd:o.dst=some d) (hdn:d<cx.nt) {c:Call} {mx:Bool} (ho:o.op=.call c) (hb:c.callee=.builtin (if mx then .max else .min))
  (h:(jg c.args.toList fun
   | .val (.int ik) x _ :: l=>ML mx ik x l fun z=>.ret [Wr.s d (.one (.val (.int ik) z []))]
   | _=>(.fail:Prog (List Wr))).ends σ ws):nJ P cx o a w (az ws σ):=by
 obtain ⟨vs,h1,h2,h5⟩:=iN H h
 split at h5
 ·rename_i ik x Tg l
  cases hl:c.args.toList with
  | nil=>rw [hl] at h1; exact h1.elim
  | cons y l'=>
   rw [hl] at h1
   obtain ⟨e1,e2⟩:=sG h1.1
   obtain ⟨z,g1,g2,g3⟩:=Po (P:=P) (w:=w) h1.2 e2 h5
   rw [aA g3]
   refine bI (v:=.int ik z) H hd hdn ?_ (JJ g2) (fun t ht=>by simp at ht)
   obtain ⟨cc,hcc⟩:=iT (P:=P) (a:=a) (w:=w) ho hb
   rw [hcc]
   have hargs:(c.args.map a.eval).toList=.int ik x :: l'.map a.eval:=by rw [Array.toList_map,hl,List.map_cons,e1]
   cases mx with
   | true=>
    have g1':(List.foldlM Builtin.max2 (Value.int ik x) (l'.map a.eval)).run P w=.ok (.int ik z) w:=g1
    simp only [if_true,builtin,Builtin.max_,hargs,agf,g1',af8,agl]
   | false=>
    have g1':(List.foldlM Builtin.min2 (Value.int ik x) (l'.map a.eval)).run P w=.ok (.int ik z) w:=g1
    simp only [afT,if_false,builtin,Builtin.min_,hargs,agf,g1',af8,agl]
 ·exact h5.elim
end
end
section
open Go
variable [Fr]
theorem fold_at:∀(vs:List Value) (k off:Nat) (cells:Array Value),off+k+vs.length≤cells.size→
  ((vs.zipIdx k).foldl (fun cs (p:Value×Nat)=>cs.setIfInBounds (off+p.2) p.1) cells).size=cells.size∧
  ∀i,((vs.zipIdx k).foldl (fun cs (p:Value×Nat)=>cs.setIfInBounds (off+p.2) p.1) cells)[i]?=if off+k≤i∧i<off+k+vs.length then vs[i - (off+k)]? else cells[i]?:=by
 intro vs
 induction vs with
 | nil=>intro k off cells h; exact ⟨rfl,fun i=>by simp; omega⟩
 | cons v vs ih=>
  intro k off cells h
  simp only [agd] at h
  simp only [List.zipIdx_cons,List.foldl_cons]
  obtain ⟨g1,g2⟩:=ih (k+1) off (cells.setIfInBounds (off+k) v) (by simp; omega)
  refine ⟨by rw [g1]; simp,fun i=>?_⟩
  rw [g2 i]
  simp only [agd]
  by_cases h1:off+(k+1)≤i∧i<off+(k+1)+vs.length
  ·rw [if_pos h1,if_pos (by omega)]
   have:i - (off+k)=(i - (off+(k+1)))+1:=by omega
   rw [this,List.getElem?_cons_succ]
  ·rw [if_neg h1]
   by_cases h2:i=off+k
   ·subst h2
    rw [if_pos (by omega),Array.getElem?_setIfInBounds_self_of_lt (by omega),Nat.sub_self]
    rfl
   ·rw [if_neg (by omega),Array.getElem?_setIfInBounds_ne (by omega)]
theorem Oa (vs:List Value) (off:Nat) (cells:Array Value) (h:off+vs.length≤cells.size) :
  (vs.zipIdx.foldl (fun cs (p:Value×Nat)=>cs.setIfInBounds (off+p.2) p.1) cells)=(cells.toList.take off++(vs++cells.toList.drop (off+vs.length))).toArray:=by
 obtain ⟨g1,g2⟩:=fold_at vs 0 off cells (by omega)
 apply Array.ext_getElem?
 intro i
 rw [g2 i]
 simp only [Nat.add_zero,List.getElem?_toArray]
 by_cases h1:i<off
 ·rw [if_neg (by omega),List.getElem?_append_left (by simp; omega),List.getElem?_take_of_lt h1]
  simp
 ·by_cases h2:i<off+vs.length
  ·rw [if_pos (by omega),List.getElem?_append_right (by simp; omega),List.getElem?_append_left (by simp; omega)]
   congr 1
   simp
   omega
  ·rw [if_neg (by omega),List.getElem?_append_right (by simp; omega),List.getElem?_append_right (by simp; omega),List.getElem?_drop]
   rw [Array.getElem?_toList]
   congr 1
   simp
   omega
theorem y5 {place:Nat→Option (Nat×Nat)} {cells:Array Value} {i off:Nat} {v:Value} {vs:List Value} {rest:List (Nat×Value)} (hp:place i=some (off,vs.length)) (hv:v.cells=vs.toArray) (hl:off+vs.length≤cells.size) :
  Instr.fill place cells ((i,v) :: rest)=Instr.fill place (cells.toList.take off++(vs++cells.toList.drop (off+vs.length))).toArray rest:=by
 rw [←Oa vs off cells hl]
 conv=>lhs; unfold Instr.fill
 rw [hp]
 simp only [hv,List.size_toArray,ne_eq,not_true_eq_false,decide_false,Bool.false_or,decide_eq_true_eq]
 rw [if_neg (by omega)]
 simp
def kN:List (Nat×gP)→xH→Option xH
 | [],b=>some b
 | (n,tk) :: l,b=>match b.k,b.x with
  | .st c,x=>match aK n c x with
   | some d=>bif tk.k.beq d.1 then
     match cu n c x ⟨tk.k,tk.x⟩ with
     | some z=>kN l { k:=.st z.1,x:=z.2,bad:=tk.bad++b.bad,tags:=iy tk.gq b.tags,ws:=b.ws++tk.ws,keep:=tk.keep || b.keep,all:=tk.tags++b.all }
     | none=>none
    else none
   | none=>none
  | _,_=>none
section
variable {P:Program} {T:iD} {cx:Cx} {σ:St} {α:dI} {F:List Nat} {a:Act} {w:World}
theorem Bh {A:Type} {z:A} (H:Rel cx σ α F a w) {k:xH→Prog A}:∀{l:List (Nat×AV)} {vs:List Value} {b:xH},dO cx σ α F w (l.map (·.2)) vs→(∀v∈l,nW σ v.2)→(wT l b k).ends σ z→
  ∃(tks:List gP) (b':xH),tks.length=l.length∧vs.length=l.length∧(∀it∈vs.zip tks,rZ cx σ α F w it.1 it.2)∧kN ((l.map (·.1)).zip tks) b=some b'∧(k b').ends σ z:=by
 intro l
 induction l with
 | nil=>
  intro vs b h1 _ h
  cases vs with
  | nil=>exact ⟨[],b,rfl,rfl,by simp,rfl,h⟩
  | cons v vs=>exact h1.elim
 | cons p l ih=>
  obtain ⟨n,x⟩:=p
  intro vs b h1 h2 h
  cases vs with
  | nil=>exact h1.elim
  | cons v vs=>
   obtain ⟨bk,bx,abv,WX,bws,WW,abu⟩:=b
   cases bk with
   | st c=>
    simp only [wT] at h
    cases hg:aK n c bx with
    | none=>rw [hg] at h; exact h.elim
    | some d=>
     rw [hg] at h
     simp only at h
     obtain ⟨tk,htk,h5⟩:=nH H h1.1 (h2 (n,x) (by simp)) h
     rcases ay h5 with ⟨hk,h6⟩ | ⟨_,h6⟩
     ·cases hp:cu n c bx ⟨tk.k,tk.x⟩ with
      | none=>rw [hp] at h6; exact h6.elim
      | some zz=>
       rw [hp] at h6
       obtain ⟨tks,b',g1,g2,g3,g4,g5⟩:=ih h1.2 (fun v hv=>h2 v (by simp [hv])) h6
       refine ⟨tk :: tks,b',by simp [g1],by simp [g2], ?_, ?_,g5⟩
       ·intro it hit
        rw [List.zip_cons_cons] at hit
        rcases af2.1 hit with h | h
        ·subst h; exact htk
        ·exact g3 it h
       ·rw [List.map_cons,List.zip_cons_cons]
        unfold kN
        simp only [hg,hk,cond_true,hp]
        exact g4
     ·exact h6.elim
   | _=>exact h.elim
end
end
section
open Go
variable [Fr]
def rY (h:Heap) (own:List TypeId) (ok:Nat→Prop):List (Nat×gP)→List Value→List (List Nat)→Prop
 | [],[],[]=>True
 | p :: l,v :: vs,ft :: uJ=>(∃cs,VC p.2.k v cs∧Ow h own ok p.2.k p.2.x cs ft)∧rY h own ok l vs uJ
 | _,_,_=>False
theorem Bg {h:Heap} {own:List TypeId} {ok:Nat→Prop} {place:Nat→Option (Nat×Nat)} {c:K} (hpl:∀n off k,bu n c=some (off,k)→place n=some (off,k.size)) :
  ∀(l:List (Nat×gP)) {vs:List Value} {uJ:List (List Nat)} {x:El c} {cs:List Value} {fo:List Nat} {bad:List TypeId} {tags:List Tag} {ws:List Wr} {kp:Bool} {all:List Tag} {b':xH},
   Ow h own ok c x cs fo→rY h own ok l vs uJ→kN l ⟨.st c,x,bad,tags,ws,kp,all⟩=some b'→
   ∃(x':El c) (cs':List Value) (dA rest:List Nat) (bad':List TypeId) (tags':List Tag) (ws':List Wr) (kp':Bool) (all':List Tag),b'=⟨.st c,x',bad',tags',ws',kp',all'⟩∧Ow h own ok c x' cs' dA∧(fo++uJ.flatten).Perm (dA++rest)∧
    Instr.fill place cs.toArray ((l.map (·.1)).zip vs)=some cs'.toArray:=by
 intro l
 induction l with
 | nil=>
  intro vs uJ x cs fo bad tags ws kp all b' H hP hb
  cases vs with
  | nil=>
   cases uJ with
   | nil=>
    simp only [kN,afQ] at hb
    exact ⟨x,cs,fo,[],bad,tags,ws,kp,all,hb.symm,H,by simp,rfl⟩
   | cons f fs=>exact hP.elim
  | cons v vs=>cases uJ <;> exact hP.elim
 | cons p l ih=>
  obtain ⟨n,tk⟩:=p
  intro vs uJ x cs fo bad tags ws kp all b' H hP hb
  cases vs with
  | nil=>cases uJ <;> exact hP.elim
  | cons v vs=>
   cases uJ with
   | nil=>exact hP.elim
   | cons ft uJ=>
    obtain ⟨⟨cst,hv,hO⟩,hP'⟩:=hP
    unfold kN at hb
    simp only at hb
    cases hg:aK n c x with
    | none=>rw [hg] at hb; simp at hb
    | some d=>
     rw [hg] at hb
     simp only at hb
     cases hk:tk.k.beq d.1 with
     | false=>rw [hk] at hb; simp at hb
     | true=>
      rw [hk] at hb
      simp only [cond_true] at hb
      cases hp:cu n c x ⟨tk.k,tk.x⟩ with
      | none=>rw [hp] at hb; simp at hb
      | some z=>
       rw [hp] at hb
       simp only at hb
       have ek:=K.eq_of_beq hk
       have ez:=Bq n hg hp ek
       obtain ⟨off,pre,cs1,post,fE,fr,ho,ec,hl,hpf,hd,hu,_⟩:=AA n H hg
       have r:=hu h ok ⟨tk.k,tk.x⟩ cst ft z hp hO (fun b hb=>⟨hb,rfl⟩) (fun _ _=>rfl)
       obtain ⟨zk,zx⟩:=z
       simp only at ez
       subst ez
       obtain ⟨x',cs',dA,rest,bad',tags',ws',kp',all',g1,g2,g3,g4⟩:=ih r hP' hb
       refine ⟨x',cs',dA,fE++rest,bad',tags',ws',kp',all',g1,g2, ?_, ?_⟩
       ·simp only [List.flatten_cons]
        have s1:(fo++(ft++uJ.flatten)).Perm ((fE++fr)++(ft++uJ.flatten)):=List.Perm.append_right _ hpf
        have s2:((fE++fr)++(ft++uJ.flatten)).Perm (fE++((ft++fr)++uJ.flatten)):=by
         rw [agb]
         refine List.Perm.append_left _ ?_
         rw [←agb]
         exact List.Perm.append_right _ List.perm_append_comm
        exact s1.trans (s2.trans ((List.Perm.append_left _ g3).trans tV))
       ·rw [List.map_cons,List.zip_cons_cons]
        have hcl:cst.length=d.1.size:=by rw [cO hO,ek]
        have x8:v.cells=cst.toArray:=by
         have:=hv.cells
         apply Array.ext'
         simpa using this
        rw [y5 (off:=off) (vs:=cst) (by rw [hcl]; exact hpl n off d.1 ho) x8 (by rw [ec]; simp; have:=cO hd; omega)]
        have e2:(cs.toArray.toList.take off++(cst++cs.toArray.toList.drop (off+cst.length)))=pre++(cst++post):=by
         have hd1:=cO hd
         simp only
         rw [ec, ←hl]
         simp [hcl, ←hd1]
        rw [e2]
        exact g4
end
section
open Go
variable [Fr]
theorem uT:∀(l:List (Nat×gP)) {b b':xH},kN l b=some b'→
  b'.ws=b.ws++l.flatMap (fun p=>p.2.ws)∧(∀p∈l,∀t∈p.2.tags,t∈b'.all)∧(∀t∈b.all,t∈b'.all)∧(∀p∈l,∀t∈p.2.bad,t∈b'.bad)∧(∀t∈b.bad,t∈b'.bad)∧
  (∀p∈l,∀t∈p.2.gq,t∈b'.tags)∧(∀t∈b.tags,t∈b'.tags)∧(∀t∈b'.tags,t∈b.tags∨∃p∈l,t∈p.2.gq):=by
 intro l
 induction l with
 | nil=>
  intro b b' h
  simp only [kN,afQ] at h
  subst h
  simp
 | cons p l ih=>
  obtain ⟨n,tk⟩:=p
  intro b b' h
  obtain ⟨bk,bx,abv,WX,bws,WW,abu⟩:=b
  cases bk with
  | st c=>
   unfold kN at h
   simp only at h
   cases hg:aK n c bx with
   | none=>rw [hg] at h; simp at h
   | some d=>
    rw [hg] at h
    simp only at h
    cases hk:tk.k.beq d.1 with
    | false=>rw [hk] at h; simp at h
    | true=>
     rw [hk] at h
     simp only [cond_true] at h
     cases hp:cu n c bx ⟨tk.k,tk.x⟩ with
     | none=>rw [hp] at h; simp at h
     | some z=>
      rw [hp] at h
      simp only at h
      obtain ⟨g1,g2,g3,g4,g5,g6,g7,g8⟩:=ih h
      refine ⟨by rw [g1]; simp, ?_,fun t ht=>g3 t (by simp [ht]), ?_,fun t ht=>g5 t (by simp [ht]), ?_,fun t ht=>g7 t (cK.2 (.inr ht)), ?_⟩
      ·intro p hp t ht
       rcases af2.1 hp with h | h
       ·subst h; exact g3 t (by simp [ht])
       ·exact g2 p h t ht
      ·intro p hp t ht
       rcases af2.1 hp with h | h
       ·subst h; exact g5 t (by simp [ht])
       ·exact g4 p h t ht
      ·intro p hp t ht
       rcases af2.1 hp with h | h
       ·subst h; exact g7 t (cK.2 (.inl ht))
       ·exact g6 p h t ht
      ·intro t ht
       rcases g8 t ht with h | ⟨p,h1,h2⟩
       ·rcases cK.1 h with h | h
        ·exact .inr ⟨(n,tk),by simp,h⟩
        ·exact .inl h
       ·exact .inr ⟨p,by simp [h1],h2⟩
  | _=>simp [kN] at h
theorem rY.mono {h:Heap} {own:List TypeId} {ok ok':Nat→Prop} (hk:∀b,ok b→ok' b):∀{l:List (Nat×gP)} {vs:List Value} {uJ:List (List Nat)},rY h own ok l vs uJ→rY h own ok' l vs uJ
 | [],[],[],_=>trivial
 | _ :: _,_ :: _,_ :: _,hP=>⟨by obtain ⟨cs,h1,h2⟩:=hP.1; exact ⟨cs,h1,bq (fun _ _=>rfl) hk (fun _ _=>rfl) h2⟩,rY.mono hk hP.2⟩
 | [],[],_ :: _,hP=>hP.elim
 | [],_ :: _,_,hP=>hP.elim
 | _ :: _,[],_,hP=>hP.elim
 | _ :: _,_ :: _,[],hP=>hP.elim
section
variable {cx:Cx} {σ:St} {α:dI} {F:List Nat} {w:World}
theorem sV {own':List TypeId} {T:List Tag}:∀(items:List (Nat×Value×gP)) {hs:List (List Value×List Nat)},nU cx σ α F w (items.map (·.2)) hs→(∀it∈items,∀t∈it.2.2.bad,au t own'=false)→(∀it∈items,∀t∈it.2.2.gq,t∈T)→
  ∃(uJ:List (List Nat)) (vC:List Nat),(hs.flatMap (·.2)).Perm (uJ.flatten++vC)∧rY (hp w) own' (fun b=>gV cx σ α F w T b∨b∈vC) (items.map fun p=>(p.1,p.2.2)) (items.map (·.2.1)) uJ:=by
 intro items
 induction items with
 | nil=>
  intro hs h _ _
  cases hs with
  | nil=>exact ⟨[],[],by simp,trivial⟩
  | cons _ _=>exact h.elim
 | cons it items ih=>
  obtain ⟨n,v,tk⟩:=it
  intro hs h hbad htag
  cases hs with
  | nil=>exact h.elim
  | cons hd hs=>
   obtain ⟨cs,fo⟩:=hd
   obtain ⟨⟨h1,h2,h3⟩,h4⟩:=h
   obtain ⟨uJ,vC,g1,g2⟩:=ih h4 (fun it hit=>hbad it (by simp [hit])) (fun it hit=>htag it (by simp [hit]))
   have hO:=h2.ow h3
   have hO2:Ow (hp w) tk.own (fun b=>gV cx σ α F w T b) tk.k tk.x cs fo:=by
    cases hb:tk.bad with
    | nil=>exact fP hb hO
    | cons t0 l=>
     have e:tk.gq=tk.tags:=by unfold gP.gq; rw [hb]
     exact bq (fun _ _=>rfl) (fun b hb=>rG hb (fun t ht=>htag (n,v,tk) (by simp) t (by show t∈tk.gq; rw [e]; exact ht))) (fun _ _=>rfl) hO
   obtain ⟨ft,wJ,p1,p2⟩:=qG (own':=own') (fun t ht hm=>by
    rcases vW (own:=tk.own) ht with h | h
    ·have:=hbad (n,v,tk) (by simp) t h
     rw [hm] at this
     simp at this
    ·exact h) hO2
   refine ⟨ft :: uJ,wJ++vC, ?_,⟨cs,h1,bq (fun _ _=>rfl) (fun b hb=>?_) (fun _ _=>rfl) p2⟩,g2.mono (fun b hb=>?_)⟩
   ·simp only [List.flatMap_cons,List.flatten_cons]
    refine (p1.append g1).trans ?_
    simp only [agb]
    refine List.Perm.append_left _ ?_
    exact tV
   ·rcases hb with hb | hb
    ·exact .inl hb
    ·exact .inr (by simp [hb])
   ·rcases hb with hb | hb
    ·exact .inl hb
    ·exact .inr (by simp [hb])
end
end
section
open Go
variable [Fr]
theorem MS {P:Program} {T:iD}:∀{c:K} {fs:List Field} {Ct:Nat},(iW P T c).2 fs Ct→
  ∃places,fs.mapM (fun f=>(P.info? f.type).map fun i=>(f.offset,i.size))=some places∧∀n off k,bu n c=some (off,k)→places[n]?=some (Ct+off,k.size):=by
 intro c
 induction c with
 | unit=>
  intro fs Ct h
  have h':fs=[]:=h
  subst h'
  exact ⟨[],rfl,fun n off k ho=>by cases n <;> simp [bu] at ho⟩
 | pair a b iha ihb=>
  intro fs Ct h
  cases fs with
  | nil=>exact h.elim
  | cons f fs=>
   obtain ⟨h1,h2,h3,h4⟩:=h
   obtain ⟨pl,g1,g2⟩:=ihb h4
   obtain ⟨i,i1,i2,_⟩:=fB.info (show fB P T f.type a from h2)
   refine ⟨(Ct,a.size) :: pl, ?_, ?_⟩
   ·rw [List.mapM_cons,i1,g1]
    simp [h1,i2]
   ·intro n off k ho
    cases n with
    | zero=>
     simp only [bu,afQ,af1] at ho
     obtain ⟨rfl,rfl⟩:=ho
     rfl
    | succ n=>
     simp only [bu] at ho
     cases h5:bu n b with
     | none=>rw [h5] at ho; simp at ho
     | some q=>
      rw [h5] at ho
      simp only [afQ,af1] at ho
      rw [List.getElem?_cons_succ,g2 n q.1 q.2 (by rw [h5]), ←ho.1, ←ho.2]
      congr 2
      omega
 | _=>intro fs Ct h; exact h.elim
theorem Bi {P:Program} {T:iD} {t:TypeId} {c:K} (ht:fB P T t (.st c)):∃place:Nat→Option (Nat×Nat),(∀n off k,bu n c=some (off,k)→place n=some (off,k.size))∧
  ∀parts,P.built t parts=Instr.fill place (bK c).toArray parts:=by
 obtain ⟨fs,hu,hf⟩:=ht.st
 obtain ⟨i,i1,i2,i3⟩:=ht.info
 obtain ⟨pl,g1,g2⟩:=MS hf
 refine ⟨(pl.toArray[·]?),fun n off k ho=>?_,fun parts=>?_⟩
 ·have:=g2 n off k ho
  simpa using this
 ·unfold Program.built
  rw [i1,hu]
  simp only [i3,g1]
  rfl
theorem tZ {h:Heap} {own:List TypeId} {ok:Nat→Prop}:∀{k:K},eF k=true→Ow h own ok k k.zero (bK k) []:=by
 intro k
 induction k with
 | int ik=>intro _; exact ⟨rfl,rfl,by cases ik <;> simp [CG,K.zero]⟩
 | bool=>intro _; exact ⟨rfl,rfl⟩
 | id e=>intro _; exact ⟨rfl,by show _=[Fr.iq 0]; rw [Fr.UL]; rfl⟩
 | str=>intro _; exact ⟨rfl,ByteArray.empty,rfl,rfl⟩
 | sl e k ih=>intro _; exact vM
 | unit=>intro _; exact ⟨rfl,rfl⟩
 | pair a b iha ihb=>
  intro hg
  simp [eF] at hg
  exact ⟨bK a,bK b,[],[],rfl, .refl _,iha hg.1,ihb hg.2⟩
 | st f ih=>intro hg; exact ih hg
 | gap n=>intro hg; simp [eF] at hg
theorem xz {cx:Cx} {σ:St} {α:dI} {F:List Nat} {w:World} {r:Nat} (hn:σ.roots r=none):∀{l:List (Value×gP)},(∀it∈l,rZ cx σ α F w it.1 it.2)→r∉(qh l).flatMap Wr.pQ:=by
 intro l h hm
 simp only [qh,agt] at hm
 obtain ⟨wr,⟨it,hit,hw⟩,hr⟩:=hm
 cases h it hit with
 | held hws cs hv hh hc=>rw [hws] at hw; simp at hw
 | ref q R hlr hv e hk hd=>
  rw [e] at hw
  simp only [af9] at hw
  subst hw
  simp only [Wr.pQ,af9] at hr
  rw [hr,hlr.1] at hn
  simp at hn
 | cut q R cs hlr hv hk e hd hl Ml how=>
  rw [e.2.2.1] at hw
  simp only [af9] at hw
  subst hw
  simp only [Wr.pQ,af9] at hr
  rw [hr,hlr.1] at hn
  simp at hn
 | gap q R p dd z hlr hv hg hz fG hown hpv e hnn=>
  rw [e] at hw
  simp only [af9] at hw
  subst hw
  simp only [Wr.pQ,af9] at hr
  rw [hr,hlr.1] at hn
  simp at hn
theorem zA:∀(ns:List Nat) (vs:List Value) (ts:List gP),ns.length=ts.length→vs.length=ts.length→
  ((ns.zip (vs.zip ts)).map (·.2)=vs.zip ts)∧((ns.zip (vs.zip ts)).map (fun p=>(p.1,p.2.2))=ns.zip ts)∧((ns.zip (vs.zip ts)).map (·.2.1)=vs)∧(qh (vs.zip ts)=(ns.zip ts).flatMap (fun p=>p.2.ws)):=by
 intro ns
 induction ns with
 | nil=>
  intro vs ts h1 h2
  cases ts with
  | nil=>cases vs with
   | nil=>exact ⟨rfl,rfl,rfl,rfl⟩
   | cons _ _=>simp at h2
  | cons _ _=>simp at h1
 | cons n ns ih=>
  intro vs ts h1 h2
  cases ts with
  | nil=>simp at h1
  | cons t ts=>
   cases vs with
   | nil=>simp at h2
   | cons v vs=>
    obtain ⟨g1,g2,g3,g4⟩:=ih vs ts (by simpa using h1) (by simpa using h2)
    refine ⟨by simp [g1],by simp [g2],by simp [g3], ?_⟩
    unfold qh at g4 ⊢
    simp [g4]
end
section
open Go
variable [Fr]
section
variable {P:Program} {T:iD} {cx:Cx} {σ:St} {α:dI} {F:List Nat} {a:Act} {w:World} {o:Oper} {d:Nat} {ws:List Wr}
theorem su:∀{l:List (Value×gP)} {hs:List (List Value×List Nat)},nU cx σ α F w l hs→∀b∈hs.flatMap (·.2),b∈F
 | [],[],_,b,hb=>by simp at hb
 | _ :: _,hd :: hs,h,b,hb=>by
  simp only [List.flatMap_cons,afZ] at hb
  rcases hb with hb | hb
  ·exact h.1.2.1.sub b hb
  ·exact su h.2 b hb
 | [],_ :: _,h,_,_=>h.elim
 | _ :: _,[],h,_,_=>h.elim
theorem uK:∀{l:List (Value×gP)} {hs:List (List Value×List Nat)},nU cx σ α F w l hs→∀it∈l,eG σ it.2.tags
 | [],[],_,it,hi=>by simp at hi
 | _ :: _,hd :: hs,h,it,hi=>by
  rcases af2.1 hi with hi | hi
  ·subst hi; exact h.1.2.1.wt
  ·exact uK h.2 it hi
 | [],_ :: _,h,_,_=>h.elim
 | _ :: _,[],h,_,_=>h.elim
theorem DR (hT:dU P T) (H:Rel cx σ α F a w) (hd:o.dst=some d) (hdn:d<cx.nt) {t:TypeId} {ps:Array (Nat×Operand)}
  (h:(match T.ty t with
   | some (.st c)=>wI ps.toList fun l=>wT l ⟨.st c,(K.st c).zero,[],[],[],false,[]⟩ fun b=>bif !yF b.ws b.all then .fail else bif b.k.tys.all fun t=>au t b.bad then
     .ret (b.ws++[Wr.s d (.one (.val b.k b.x b.tags))])
    else ig (aX d 0) (.ret (b.ws++[Wr.r (aX d 0) (some (aI b.k b.x (bD b.k.tys b.bad) b.tags .anon b.keep)),Wr.s d (.one (.ref (aX d 0) 0))]))
   | _=>(.fail:Prog (List Wr))).ends σ ws) (ho:o.op=.build t ps):nJ P cx o a w (az ws σ):=by
 cases hty:T.ty t with
 | none=>rw [hty] at h; exact h.elim
 | some k0=>
  rw [hty] at h
  cases k0 with
  | st c=>
   have ht:=hT.ty t _ hty
   simp only at h
   obtain ⟨vs,e1,h1,h2,h3⟩:=yZ H h
   obtain ⟨tks,b',l1,l2,Ky,zR,h4⟩:=Bh H h1 h2 h3
   have hlen:vs.length=tks.length:=l1.symm
   have Cc:(vs.map (·.1)).length=tks.length:=by rw [List.length_map]; exact hlen
   have Ch:((evs a ps.toList).map (·.2)).length=tks.length:=by rw [l2]; exact hlen
   generalize hns:vs.map (·.1)=ns at *
   generalize hvv:(evs a ps.toList).map (·.2)=vals at *
   obtain ⟨z1,z2,z3,z4⟩:=zA ns vals tks Cc Ch
   obtain ⟨f1,f2,f3,f4,f5,f6,f7,f8⟩:=uT _ zR
   simp only [List.nil_append] at f1
   rcases ay h4 with ⟨_,h5⟩ | ⟨hws,h5⟩
   ·exact h5.elim
   ·have wW:yF b'.ws b'.all=true:=by simpa using hws
    unfold yF at wW
    simp only [afW] at wW
    have hw1:=q8.1 wW.1
    have hw2:=uy.1 wW.2
    rw [f1, ←z4] at hw1 hw2
    obtain ⟨α',F',hs,H',hA,hnd,hnF,hFF,hS,_⟩:=takes (vals.zip tks) H Ky hw1 (fun tg p9=>hw2 tg (by
     obtain ⟨it,hit,h6⟩:=agt.1 p9
     have:it∈(ns.zip (vals.zip tks)).map (·.2):=by rw [z1]; exact hit
     obtain ⟨q,hq,rfl⟩:=ags.1 this
     exact f2 (q.1,q.2.2) (by rw [←z2]; exact ags.2 ⟨q,hq,rfl⟩) tg h6))
    have RZ:=hA
    rw [←z1] at hA
    obtain ⟨uJ,vC,p1,p2⟩:=sV (own':=bD (K.st c).tys b'.bad) (T:=b'.tags) (ns.zip (vals.zip tks)) hA
     (fun it hit tg p9=>by
      cases hm:au tg (bD (K.st c).tys b'.bad) with
      | false=>rfl
      | true=>exact absurd (f4 (it.1,it.2.2) (by rw [←z2]; exact ags.2 ⟨it,hit,rfl⟩) tg p9) (dn.1 hm).2)
     (fun it hit tg p9=>f6 (it.1,it.2.2) (by rw [←z2]; exact ags.2 ⟨it,hit,rfl⟩) tg p9)
    rw [z2,z3,z1] at p2
    obtain ⟨place,q1,q2⟩:=Bi ht
    obtain ⟨x',cs',dA,rest,bad',tags',SH,kp',all',r1,r2,r3,r4⟩:=Bg q1 (ns.zip tks) (x:=(K.st c).zero) (cs:=bK c) (fo:=[]) (tZ (k:=c) ht.eF) p2 zR
    subst r1
    simp only at wW f1 f2 f3 f4 f5 f6 f7 f8 h5 p2 r2 r3
    have hzn:(ns.zip tks).map (·.1)=ns:=by rw [List.map_fst_zip (by omega)]
    have hparts:((ps.map fun (p:Nat×Operand)=>(p.1,a.eval p.2)).toList)=ns.zip vals:=by
     rw [Array.toList_map, ←hvv,e1]
     have:∀l:List (Nat×Operand),l.map (fun p=>(p.1,a.eval p.2))=(l.map (·.1)).zip ((evs a l).map (·.2)):=by
      intro l
      induction l with
      | nil=>rfl
      | cons p l ih=>simp [evs] at ih ⊢; exact ih
     exact this _
    have hrun:(execOp a.eval o).run P w=.ok (.value (.agg cs'.toArray)) w:=by
     have hb:=run_build (P:=P) w t (ps.map fun (p:Nat×Operand)=>(p.1,a.eval p.2)) cs'.toArray (by rw [hparts,q2, ←r4,hzn])
     simp only [execOp,ho,agf,hb,af8,agl]
    have hperm:(hs.flatMap (·.2)).Perm (dA++(rest++vC)):=by
     refine p1.trans ?_
     rw [←agb]
     exact List.Perm.append_right _ (by simpa using r3)
    have nK:=hperm.nodup hnd
    have hin:∀b∈hs.flatMap (·.2),b∈F':=su RZ
    have Ai:∀b∈dA,b∈F':=fun b hb=>hin b (hperm.mem_iff.2 (by simp [hb]))
    have Me:∀b∈vC,b∈F'∧b∉dA:=fun b hb=>⟨hin b (hperm.mem_iff.2 (by simp [hb])),fun h=>(afX.1 nK).2.2 b h b (by simp [hb]) rfl⟩
    have hV:VC (.st c) (.agg cs'.toArray) cs':=rfl
    have hwt:eG (az (qh (vals.zip tks)) σ) tags':=by
     intro tg p9
     rcases f8 tg p9 with h | ⟨q,hq,hq2⟩
     ·simp at h
     ·rw [←z2] at hq
      obtain ⟨it,hit,rfl⟩:=ags.1 hq
      have hit2:it.2∈vals.zip tks:=by rw [←z1]; exact ags.2 ⟨it,hit,rfl⟩
      exact wC (uK RZ it.2 hit2) tg hq2
    have Mq:SH=qh (vals.zip tks):=by rw [f1,z4]
    rcases ay h5 with ⟨hall,h6⟩ | ⟨_,h6⟩
    ·rw [aA h6]
     have hnone:∀tg∈c.tys,au tg (bD (K.st c).tys bad')=false:=by
      intro tg p9
      cases hm:au tg (bD (K.st c).tys bad') with
      | false=>rfl
      | true=>
       have:=af5.1 hall tg p9
       exact absurd (aJ.1 this) (dn.1 hm).2
     have Ca:dA=[]:=by
      cases hf:dA with
      | nil=>rfl
      | cons b l=>
       obtain ⟨e,g1,g2,_⟩:=pU (k:=c) r2 b (by rw [hf]; simp)
       rw [hnone e g1] at g2
       simp at g2
     have T2:=yh (w':=w) (F':=F'.filter fun b=>!au b vC) H' ⟨rfl,rfl,rfl⟩ (af6 _) (fun _ _ h=>absurd rfl h) (fun b hb=>.inl (af7.1 hb).1) (H'.uU.filter _)
     have H2:=H'.mem T2
     have hok:∀b,(gV cx (az (qh (vals.zip tks)) σ) α' F' w tags' b∨b∈vC)→gV cx (az (qh (vals.zip tks)) σ) α' (F'.filter fun b=>!au b vC) w tags' b:=by
      rintro b (hb | hb)
      ·exact ⟨hb.1,fun h=>hb.2.1 (af7.1 h).1,hb.2.2⟩
      ·have Ah:=(Me b hb).1
       have hm:=H'.fl b Ah
       refine ⟨hm.1,fun h=>?_,oL H' Ah,fun q Q hq hbq=>absurd Ah (H'.iB q Q hq b hbq),fun h0=>?_⟩
       ·have:=(af7.1 h).2
        simp only [Bool.not_eq_true',aS] at this
        exact this hb
       ·rcases hm.2 with h | ⟨j,pi,h1,h2⟩
        ·omega
        ·exact .inr ⟨j,pi,h1,h2⟩
     have hVw:=jJ (k:=.st c) _ hok (fun b hb=>by rw [Ca] at hb; simp at hb) r2
     rw [Mq,bQ]
     exact gT (x:=.one (.val (.st c) x' tags')) H2 hd hdn hrun (show bH cx _ α' _ w (.val (.st c) x' tags') _ from fun _=>⟨cs',hV,hVw⟩) hwt
    ·obtain ⟨g1,g2⟩:=fF h6
     rw [aA g2]
     have hnr:=xz g1 Ky
     have hn1:(az (qh (vals.zip tks)) σ).roots (aX d 0)=none:=by rw [(hS _ hnr).root]; exact g1
     obtain ⟨xE,k1,k2⟩:=tJ (k:=.st c) (x:=x') (own:=bD (K.st c).tys bad') (tags:=tags') (v:=.agg cs'.toArray) (cs:=cs') (fo:=dA) (r:=aX d 0) (F':=F'.filter fun b=>!au b (dA++vC)) H' hn1 (eO d 0)
      Ai (afX.1 nK).1 hwt (fun b hb=>by
       rw [af7] at hb
       have:=hb.2
       simp only [Bool.not_eq_true',aS,afZ,not_or] at this
       exact ⟨hb.1,this.1⟩) (H'.uU.filter _) (cO (k:=c) r2)
      (fun _=>bq (k:=.st c) (fun _ _=>rfl) (fun b hb=>by
       rcases hb with hb | hb
       ·exact .inl hb
       ·refine .inr ⟨(Me b hb).1,fun h=>?_,(Me b hb).2⟩
        rw [af7] at h
        have:=h.2
        simp only [Bool.not_eq_true',aS,afZ,not_or] at this
        exact this.2 hb) (fun _ _=>rfl) r2) hV kp'
     rw [Mq,bQ]
     exact gT (x:=.one (.ref (aX d 0) 0)) k1 hd hdn hrun k2 ⟨_,aH .., .inr (agq _)⟩
  | _=>exact h.elim
theorem vK:∀(ws:List Wr) (σ:St) (n:Nat),(az ws σ).slots n=(vJ ws n).getD (σ.slots n)
 | [],_,_=>rfl
 | .s m x :: ws,σ,n=>by
  show (az ws ((Wr.s m x).app σ)).slots n=_
  rw [vK ws]
  simp only [vJ]
  cases vJ ws n with
  | some b=>rfl
  | none=>
   show upd σ.slots m x n=Option.getD (bif Nat.beq n m then some x else none) (σ.slots n)
   unfold upd
   cases Nat.beq n m <;> rfl
 | .r m q :: ws,σ,n=>by
  show (az ws ((Wr.r m q).app σ)).slots n=_
  rw [vK ws]
  simp only [vJ]
  cases q <;> rfl
theorem vI:∀(ws:List Wr) (σ:St) (n:Nat),(az ws σ).roots n=(xg ws n).getD (σ.roots n)
 | [],_,_=>rfl
 | .s m x :: ws,σ,n=>by
  show (az ws ((Wr.s m x).app σ)).roots n=_
  rw [vI ws]
  rfl
 | .r m q :: ws,σ,n=>by
  show (az ws ((Wr.r m q).app σ)).roots n=_
  rw [vI ws]
  simp only [xg]
  cases xg ws n with
  | some b=>rfl
  | none=>
   cases q with
   | none=>
    show upd σ.roots m (some bT) n=Option.getD (bif Nat.beq n m then some (some bT) else none) (σ.roots n)
    unfold upd
    cases Nat.beq n m <;> rfl
   | some q=>
    show upd σ.roots m (some q) n=Option.getD (bif Nat.beq n m then some (some q) else none) (σ.roots n)
    unfold upd
    cases Nat.beq n m <;> rfl
theorem MO {A:Type} {us:List Wr} {z:A}:∀{p:Prog A},(p.over us).ends σ z→p.ends (az us σ) z:=by
 intro p
 induction p with
 | ret _=>exact fun h=>h
 | fail=>exact fun h=>h
 | slot n k ih=>
  intro h
  show (k ((az us σ).slots n)).ends _ z
  rw [vK]
  simp only [Prog.over] at h
  cases hl:vJ us n with
  | some v=>rw [hl] at h; exact ih _ h
  | none=>rw [hl] at h; exact ih _ h
 | root n k ih=>
  intro h
  show (k ((az us σ).roots n)).ends _ z
  rw [vI]
  simp only [Prog.over] at h
  cases hl:xg us n with
  | some v=>rw [hl] at h; exact ih _ h
  | none=>rw [hl] at h; exact ih _ h
 | qB c d k ih=>exact fun h=>⟨h.1,ih h.2⟩
 | br c t e JD JC=>exact fun h=>h.imp (fun h=>⟨h.1,JD h.2⟩) (fun h=>⟨h.1,JC h.2⟩)
 | opt β q k ih=>
  rintro ⟨b,h1,h2⟩
  exact ⟨b,h1,ih b h2⟩
theorem yU {A B:Type} {f:A→Prog B} {z:B}:∀{p:Prog A},(p.bind f).ends σ z→∃x,p.ends σ x∧(f x).ends σ z:=by
 intro p
 induction p with
 | ret x=>exact fun h=>⟨x,rfl,h⟩
 | fail=>exact fun h=>h.elim
 | slot n k ih=>exact fun h=>ih _ h
 | root n k ih=>exact fun h=>ih _ h
 | qB c d k ih=>exact fun h=>let ⟨x,h1,h2⟩:=ih h.2; ⟨x,⟨h.1,h1⟩,h2⟩
 | br c t e JD JC=>
  rintro (h | h)
  ·obtain ⟨x,h1,h2⟩:=JD h.2
   exact ⟨x, .inl ⟨h.1,h1⟩,h2⟩
  ·obtain ⟨x,h1,h2⟩:=JC h.2
   exact ⟨x, .inr ⟨h.1,h1⟩,h2⟩
 | opt β q k ih=>
  rintro ⟨b,h1,h2⟩
  obtain ⟨x,h3,h4⟩:=ih b h2
  exact ⟨x,⟨b,h1,h3⟩,h4⟩
theorem zl {p q:Prog (List Wr)} {z:List Wr} (h:(RF p q).ends σ z):∃us vs,p.ends σ us∧q.ends (az us σ) vs∧z=us++vs:=by
 obtain ⟨us,h1,h2⟩:=yU h
 obtain ⟨vs,h3,h4⟩:=yU h2
 exact ⟨us,vs,h1,MO h3,h4⟩
theorem Pk:∀{c:K} {us us' cs:List Value},MF c us cs→MF c us' cs→us=us':=by
 intro c
 induction c with
 | unit=>
  intro us us' cs h h'
  cases us with
  | nil=>cases us' with
   | nil=>rfl
   | cons _ _=>exact h'.elim
  | cons _ _=>exact h.elim
 | pair k r ihk ih=>
  intro us us' cs h h'
  cases us with
  | nil=>exact h.elim
  | cons u us=>
   cases us' with
   | nil=>exact h'.elim
   | cons u' us'=>
    obtain ⟨c1,c2,e,h1,h2,h3⟩:=h
    obtain ⟨d1,d2,e',h1',h2',h3'⟩:=h'
    rw [e] at e'
    obtain ⟨rfl,rfl⟩:=List.append_inj e' (h2.trans h2'.symm)
    rw [ih h3 h3']
    congr 1
    cases k with
    | st f=>exact (show u=_ from h1).trans (show u'=_ from h1').symm
    | _=>exact (by simpa using (And.left h1).symm.trans (And.left h1'):u=u')
 | _=>intro us us' cs h; cases us <;> exact h.elim
theorem Pj {A:Type} {z:A} (H:Rel cx σ α F a w) {p:Prog A}:∀{c:K} {l:List (Nat×AV)} {i:Nat} {vs:List Value},dO cx σ α F w (l.map (·.2)) vs→(∀v∈l,nW σ v.2)→(Ph c l i p).ends σ z→
  ∃cs,MF c vs cs∧(l.map (fun q=>q.1)).zip vs=xB i vs∧p.ends σ z:=by
 intro c
 induction c with
 | unit=>
  intro l i vs h1 _ h
  cases l with
  | nil=>
   cases vs with
   | nil=>exact ⟨[],rfl,rfl,h⟩
   | cons _ _=>exact h1.elim
  | cons _ _=>exact h.elim
 | pair k r ihk ih=>
  intro l i vs h1 h2 h
  cases l with
  | nil=>exact h.elim
  | cons q l=>
   obtain ⟨n,x⟩:=q
   cases vs with
   | nil=>exact h1.elim
   | cons v vs=>
    simp only [Ph] at h
    rcases ay h with ⟨hn,h⟩ | ⟨_,h⟩
    ·obtain ⟨tk,htk,h⟩:=nH H h1.1 (h2 (n,x) (by simp)) h
     rcases ay h with ⟨hk,h⟩ | ⟨_,h⟩
     ·obtain ⟨cs,g1,g2,g3⟩:=ih h1.2 (fun v hv=>h2 v (by simp [hv])) h
      obtain ⟨dH,F1,cst,U9,lw,lh,H1,T1,k1,k2,_⟩:=take1 H htk
      have ek:=K.eq_of_beq hk
      rw [ek] at k1
      refine ⟨cst++cs,⟨cst,cs,rfl,k1,by rw [k2.len,ek],g1⟩, ?_,g3⟩
      simp only [List.map_cons,List.zip_cons_cons,xB]
      rw [g2,afU hn]
     ·exact h.elim
    ·exact h.elim
 | _=>intro l i vs _ _ h; cases l <;> exact h.elim
theorem Iq {k:K} (h:eF k=true):(bK k).length=k.size:=cO (h:=fun _=>none) (own:=[]) (ok:=fun _=>True) (tZ h)
theorem GH {place:Nat→Option (Nat×Nat)}:∀{c:K} {us cs pre:List Value} {j:Nat},eF c=true→MF c us cs→(∀n off k,bu n c=some (off,k)→place (j+n)=some (pre.length+off,k.size))→
  Instr.fill place (pre++bK c).toArray (xB j us)=some (pre++cs).toArray:=by
 intro c
 induction c with
 | unit=>
  intro us cs pre j _ h _
  cases us with
  | nil=>
   have h':cs=[]:=h
   subst h'
   rfl
  | cons _ _=>exact h.elim
 | pair k r ihk ih=>
  intro us cs pre j hg h hp
  cases us with
  | nil=>exact h.elim
  | cons u us=>
   obtain ⟨c1,c2,rfl,h1,h2,h3⟩:=h
   simp only [eF,afW] at hg
   have hz:=Iq hg.1
   have x8:u.cells=c1.toArray:=by
    have:=h1.cells
    apply Array.ext'
    simpa using this
   have h0:=hp 0 0 k rfl
   simp only [Nat.add_zero] at h0
   simp only [xB]
   rw [y5 (off:=pre.length) (vs:=c1) (by rw [h2]; exact h0) x8 (by simp only [bK,List.size_toArray,afY]; omega)]
   have e2:((pre++bK (.pair k r)).toArray.toList.take pre.length++(c1++(pre++bK (.pair k r)).toArray.toList.drop (pre.length+c1.length)))=(pre++c1)++bK r:=by
    simp only [bK]
    rw [←agb pre]
    have e3:pre.length+c1.length=(pre++bK k).length:=by simp [h2,hz]
    rw [e3,List.drop_left]
    simp
   rw [e2,ih hg.2 h3 (fun n off kk ho=>?_)]
   ·simp
   ·have:=hp (n+1) (k.size+off) kk (by simp [bu,ho])
    rw [show j+1+n=j+(n+1) by omega,this]
    simp [h2]
    omega
 | _=>intro us cs pre j _ h; cases us <;> exact h.elim
theorem parts_eval {ps:Array (Nat×Operand)} {ns:List Nat} {vals:List Value} (e1:ns=ps.toList.map (·.1)) (hvv:(evs a ps.toList).map (·.2)=vals):((ps.map fun (p:Nat×Operand)=>(p.1,a.eval p.2)).toList)=ns.zip vals:=by
 rw [Array.toList_map, ←hvv,e1]
 have:∀l:List (Nat×Operand),l.map (fun p=>(p.1,a.eval p.2))=(l.map (·.1)).zip ((evs a l).map (·.2)):=by
  intro l
  induction l with
  | nil=>rfl
  | cons p l ih=>simp [evs] at ih ⊢; exact ih
 exact this _
theorem QT (hT:dU P T) (H:Rel cx σ α F a w) (hd:o.dst=some d) (hdn:d<cx.nt) {t:TypeId} {ps:Array (Nat×Operand)}
  (h:(match T.ty t with
   | some (.st c)=>wI ps.toList fun l=>Ph c l 0 (.ret [Wr.s d (.lit t c (l.map fun q:Nat×AV=>q.2))])
   | _=>(.fail:Prog (List Wr))).ends σ ws) (ho:o.op=.build t ps):nJ P cx o a w (az ws σ):=by
 cases hty:T.ty t with
 | none=>rw [hty] at h; exact h.elim
 | some k0=>
  rw [hty] at h
  cases k0 with
  | st c=>
   have ht:=hT.ty t _ hty
   simp only at h
   obtain ⟨vs,e1,h1,h2,h3⟩:=yZ H h
   obtain ⟨cs,g1,g2,g3⟩:=Pj H h1 h2 h3
   rw [aA g3]
   obtain ⟨place,q1,q2⟩:=Bi ht
   have hb:=run_build (P:=P) w t (ps.map fun (p:Nat×Operand)=>(p.1,a.eval p.2)) cs.toArray (by
    rw [parts_eval e1 rfl,q2,g2]
    have:=GH (pre:=[]) (j:=0) (place:=place) (c:=c) (by simpa [eF] using ht.eF) g1 (fun n off k ho=>by simpa using q1 n off k ho)
    simpa using this)
   have hrun:(execOp a.eval o).run P w=.ok (.value (.agg cs.toArray)) w:=by simp only [execOp,ho,agf,hb,af8,agl]
   refine bI (x:=.lit t c (vs.map (·.2))) (v:=.agg cs.toArray) H hd hdn hrun ⟨_,cs,⟨rfl,g1⟩,h1⟩ (fun x hx=>?_)
   obtain ⟨q,hq,rfl⟩:=ags.1 hx
   exact h2 q hq
  | _=>exact h.elim
theorem Rel.JS (H:Rel cx σ α F a w) {s:Nat} {x:sK} (hw:sO σ x) (hx:iM cx σ α F w x (a.tmps.getD s undef)):Rel cx (iU σ (upd σ.slots s x)) α F a w where
 defs:=H.defs
 sz:=H.sz
 jT:=H.jT
 yu:=H.yu
 slots:=by
  intro n
  rw [zB]
  show iM cx σ α F w (upd σ.slots s x n) _
  by_cases e:n=s
  ·subst e
   rw [upd_same]
   exact hx
  ·rw [upd_ne _ _ e]
   exact H.slots n
 oF:=by
  intro n
  rw [Bd]
  show sO σ (upd σ.slots s x n)
  by_cases e:n=s
  ·subst e; rw [upd_same]; exact hw
  ·rw [upd_ne _ _ e]; exact H.oF n
 roots:=by
  intro r R hr
  have K:=H.roots r R hr
  exact ⟨fun hv=>K.ow ((mD _).1 hv),K.len,K.mem,K.nd,K.mine⟩
 dh:=H.dh
 AB:=H.AB
 fl:=H.fl
 uU:=H.uU
 iB:=H.iB
 frame:=H.frame
 qb:=H.qb
 lK:=H.lK
 rA:=fun j p ts v h=>let ⟨h0,R,h1,h2⟩:=H.rA j p ts v h; ⟨h0,R,h1,fun ht=>(uj _).2 (h2 ht)⟩
 rC:=H.rC
theorem yH {A:Type}:∀(l:List A) (i:Nat),(xB i l).map (fun p=>p.2)=l
 | [],_=>rfl
 | x :: l,i=>by simp only [xB,List.map_cons,yH l]
theorem Ir {A B:Type}:∀(l:List A) (m:List B) (i:Nat),m.length=l.length→((xB i l).map (fun p=>p.1)).zip m=xB i m
 | [],[],_,_=>rfl
 | x :: l,y :: m,i,h=>by simp only [xB,List.map_cons,List.zip_cons_cons,Ir l m (i+1) (by simpa using h)]
 | [],_ :: _,_,h=>by simp at h
 | _ :: _,[],_,h=>by simp at h
theorem UW (hT:dU P T) (H:Rel cx σ α F a w) {s:Nat} (h:(UU T s .ret).ends σ ws):∃α' F',Rel cx (az ws σ) α' F' a w:=by
 unfold UU at h
 have h:(match σ.slots s with
  | .lit t c l=>_
  | _=>(.fail:Prog (List Wr))).ends σ ws:=h
 have hsl:=H.slots s
 have hsw:=H.oF s
 cases hs:σ.slots s with
 | one _=>rw [hs] at h; exact h.elim
 | CV _=>rw [hs] at h; exact h.elim
 | lit t c l=>
  rw [hs] at h hsl hsw
  obtain ⟨us,cs,⟨ev,Rb⟩,hl⟩:=hsl
  rcases ay h with ⟨hty,h⟩ | ⟨_,h⟩
  ·have ht:fB P T t (.st c):=by
    cases hty':T.ty t with
    | none=>rw [hty'] at hty; simp at hty
    | some kk=>
     rw [hty'] at hty
     have:=K.eq_of_beq hty
     subst this
     exact hT.ty t _ hty'
   have hl':dO cx σ α F w ((xB 0 l).map (·.2)) us:=by rw [yH]; exact hl
   obtain ⟨tks,b',l1,l2,Ky,zR,h4⟩:=Bh H hl' (fun v hv=>hsw v.2 (by
    have:v.2∈(xB 0 l).map (·.2):=ags.2 ⟨v,hv,rfl⟩
    rwa [yH] at this)) h
   have Sa:us.length=(xB 0 l).length:=l2
   have XE:us.length=l.length:=by
    have:=congrArg List.length (yH l 0)
    rw [List.length_map] at this
    omega
   generalize hns:(xB 0 l).map (·.1)=ns at *
   have Cc:ns.length=tks.length:=by rw [←hns,List.length_map]; exact l1.symm
   have Ch:us.length=tks.length:=by rw [l2]; exact l1.symm
   obtain ⟨z1,z2,z3,z4⟩:=zA ns us tks Cc Ch
   obtain ⟨f1,f2,f3,f4,f5,f6,f7,f8⟩:=uT _ zR
   simp only [List.nil_append] at f1
   rcases ay h4 with ⟨_,h5⟩ | ⟨hws,h5⟩
   ·exact h5.elim
   ·have wW:yF b'.ws b'.all=true:=by simpa using hws
    unfold yF at wW
    simp only [afW] at wW
    have hw1:=q8.1 wW.1
    have hw2:=uy.1 wW.2
    rw [f1, ←z4] at hw1 hw2
    obtain ⟨α',F',hs',H',hA,hnd,hnF,hFF,hS,_⟩:=takes (us.zip tks) H Ky hw1 (fun tg p9=>hw2 tg (by
     obtain ⟨it,hit,h6⟩:=agt.1 p9
     have:it∈(ns.zip (us.zip tks)).map (·.2):=by rw [z1]; exact hit
     obtain ⟨q,hq,rfl⟩:=ags.1 this
     exact f2 (q.1,q.2.2) (by rw [←z2]; exact ags.2 ⟨q,hq,rfl⟩) tg h6))
    have RZ:=hA
    rw [←z1] at hA
    obtain ⟨uJ,vC,p1,p2⟩:=sV (own':=bD (K.st c).tys b'.bad) (T:=b'.tags) (ns.zip (us.zip tks)) hA
     (fun it hit tg p9=>by
      cases hm:au tg (bD (K.st c).tys b'.bad) with
      | false=>rfl
      | true=>exact absurd (f4 (it.1,it.2.2) (by rw [←z2]; exact ags.2 ⟨it,hit,rfl⟩) tg p9) (dn.1 hm).2)
     (fun it hit tg p9=>f6 (it.1,it.2.2) (by rw [←z2]; exact ags.2 ⟨it,hit,rfl⟩) tg p9)
    rw [z2,z3,z1] at p2
    obtain ⟨place,q1,q2⟩:=Bi ht
    obtain ⟨x',cs',dA,rest,bad',tags',SH,kp',all',r1,r2,r3,r4⟩:=Bg q1 (ns.zip tks) (x:=(K.st c).zero) (cs:=bK c) (fo:=[]) (tZ (k:=c) ht.eF) p2 zR
    subst r1
    simp only at wW f1 f2 f3 f4 f5 f6 f7 f8 h5 p2 r2 r3
    have hzn:(ns.zip tks).map (·.1)=ns:=by rw [List.map_fst_zip (by omega)]
    have hcs:cs'=cs:=by
     have e:=GH (pre:=[]) (j:=0) (place:=place) (c:=c) (by simpa [eF] using ht.eF) Rb (fun n off k ho=>by simpa using q1 n off k ho)
     simp only [List.nil_append] at e
     rw [hzn, ←hns,Ir l us 0 XE,e] at r4
     simpa using r4.symm
    subst hcs
    have hperm:(hs'.flatMap (·.2)).Perm (dA++(rest++vC)):=by
     refine p1.trans ?_
     rw [←agb]
     exact List.Perm.append_right _ (by simpa using r3)
    have nK:=hperm.nodup hnd
    have hin:∀b∈hs'.flatMap (·.2),b∈F':=su RZ
    have Ai:∀b∈dA,b∈F':=fun b hb=>hin b (hperm.mem_iff.2 (by simp [hb]))
    have Me:∀b∈vC,b∈F'∧b∉dA:=fun b hb=>⟨hin b (hperm.mem_iff.2 (by simp [hb])),fun h=>(afX.1 nK).2.2 b h b (by simp [hb]) rfl⟩
    have hV:VC (.st c) (.agg cs'.toArray) cs':=rfl
    have hwt:eG (az (qh (us.zip tks)) σ) tags':=by
     intro tg p9
     rcases f8 tg p9 with h | ⟨q,hq,hq2⟩
     ·simp at h
     ·rw [←z2] at hq
      obtain ⟨it,hit,rfl⟩:=ags.1 hq
      have hit2:it.2∈us.zip tks:=by rw [←z1]; exact ags.2 ⟨it,hit,rfl⟩
      exact wC (uK RZ it.2 hit2) tg hq2
    have Mq:SH=qh (us.zip tks):=by rw [f1,z4]
    obtain ⟨g1,g2⟩:=fF h5
    rw [aA g2]
    have hnr:=xz g1 Ky
    have hn1:(az (qh (us.zip tks)) σ).roots (aX s 1)=none:=by rw [(hS _ hnr).root]; exact g1
    obtain ⟨xE,k1,k2⟩:=tJ (k:=.st c) (x:=x') (own:=bD (K.st c).tys bad') (tags:=tags') (v:=.agg cs'.toArray) (cs:=cs') (fo:=dA) (r:=aX s 1) (F':=F'.filter fun b=>!au b (dA++vC)) H' hn1 (eO s 1)
     Ai (afX.1 nK).1 hwt (fun b hb=>by
      rw [af7] at hb
      have:=hb.2
      simp only [Bool.not_eq_true',aS,afZ,not_or] at this
      exact ⟨hb.1,this.1⟩) (H'.uU.filter _) (cO (k:=c) r2)
     (fun _=>bq (k:=.st c) (fun _ _=>rfl) (fun b hb=>by
      rcases hb with hb | hb
      ·exact .inl hb
      ·refine .inr ⟨(Me b hb).1,fun h=>?_,(Me b hb).2⟩
       rw [af7] at h
       have:=h.2
       simp only [Bool.not_eq_true',aS,afZ,not_or] at this
       exact this.2 hb) (fun _ _=>rfl) r2) hV kp'
    rw [Mq,bQ]
    exact ⟨xE,_,k1.JS (x:=.one (.ref (aX s 1) 0)) ⟨_,aH .., .inr (agq _)⟩ (by rw [ev]; exact k2)⟩
  ·exact h.elim
theorem zT {σ':St} {α':dI} {F':List Nat} (f:AV→AV) (hf:∀x v,bH cx σ α F w x v→bH cx σ' α' F' w x v→bH cx σ' α' F' w (f x) v) :
  ∀{l:List AV} {vs:List Value},dO cx σ α F w l vs→dO cx σ' α' F' w l vs→dO cx σ' α' F' w (l.map f) vs
 | [],[],_,_=>trivial
 | x :: l,v :: vs,h1,h2=>⟨hf x v h1.1 h2.1,zT f hf h1.2 h2.2⟩
 | [],_ :: _,h,_=>h.elim
 | _ :: _,[],h,_=>h.elim
theorem FB {p q:List Stp} (h:vO p q=true):∃i j,p=[.fD i]∧q=[.fD j]∧i≠j:=by
 unfold vO at h
 split at h
 ·rename_i i j
  exact ⟨i,j,rfl,rfl,Nat.ne_of_beq_eq_false (by simpa using h)⟩
 ·simp at h
theorem PU (H:Rel cx σ α F a w) {s s2:Nat} (h:(JY s s2 .ret).ends σ ws):∃α' F',Rel cx (az ws σ) α' F' a w:=by
 unfold JY at h
 have h:(match σ.slots s with
  | .one (.oQ r p v)=>_
  | _=>(.fail:Prog (List Wr))).ends σ ws:=h
 have hsl:=H.slots s
 split at h
 case h_2=>exact h.elim
 case h_1 r p v hs=>
  rw [hs] at hsl
  unfold sF at h
  obtain ⟨R,hr,hv,h⟩:=cz h
  rcases ay h with ⟨Rm,h⟩ | ⟨_,h⟩
  case inr=>exact h.elim
  have Rm:=afU Rm
  cases qj:aO p R.k R.x with
  | none=>rw [qj] at h; exact h.elim
  | some dd=>
   rw [qj] at h
   obtain ⟨fG,hown,cs,wh,Ve,x8⟩:=hsl R hr.1 hv Rm dd qj
   rcases ay h with ⟨hc,h⟩ | ⟨_,h⟩
   case inr=>
    obtain ⟨_,h⟩:=fH h
    rcases ay h with ⟨_,h⟩ | ⟨hc,h⟩
    ·exact h.elim
    ·simp at hc
   cases hga:wK R p dd with
   | none=>rw [hga] at h; exact h.elim
   | some R'=>
    rw [hga] at h
    unfold wK at hga
    cases hz:dR p R.k R.x (og dd) with
    | none=>rw [hz] at hga; simp at hga
    | some zz=>
     rw [hz] at hga
     simp only [afQ] at hga
     have hpv:p≠[]∨∃t,R.kind=.var t:=by
      simp only [afW,Bool.or_eq_true] at hc
      rcases hc.2 with h | h
      ·left; intro e; subst e; simp at h
      ·right
       unfold Root.isVar at h
       cases hk:R.kind with
       | var t=>exact ⟨t,rfl⟩
       | anon=>rw [hk] at h; simp at h
       | par=>rw [hk] at h; simp at h
       | dead=>rw [hk] at h; simp at h
     rcases ay h with ⟨_,h⟩ | ⟨hss,h⟩
     ·exact h.elim
     obtain ⟨hne,_⟩:=Bool.or_eq_false_iff.1 hss
     have hne:s≠s2:=Nat.ne_of_beq_eq_false hne
     obtain ⟨hfr,h⟩:=fF h
     have h:(match σ.slots s2 with
      | .lit t c l=>_
      | _=>(.fail:Prog (List Wr))).ends σ ws:=h
     have hs2:=H.slots s2
     have hw2:=H.oF s2
     cases hsl2:σ.slots s2 with
     | one _=>rw [hsl2] at h; exact h.elim
     | CV _=>rw [hsl2] at h; exact h.elim
     | lit t c l=>
      rw [hsl2] at h hs2 hw2
      rw [aA h]
      obtain ⟨us,cs2,⟨ev,Rb⟩,hl⟩:=hs2
      obtain ⟨cs1,kP,fE,rest,g1,H1,T1,g4,g5,_⟩:=gap H hr hv qj hz fG hown hpv
      rw [Ve] at g1
      simp only [afQ,af1] at g1
      obtain ⟨rfl,rfl⟩:=g1
      have hR':R'=dV R dd zz:=hga.symm
      subst hR'
      have hrl:aX s 1≠r:=fun e=>by rw [e,hr.1] at hfr; simp at hfr
      have hn1:(aj σ r (dV R dd zz)).roots (aX s 1)=none:=by rw [bU σ _ hrl]; exact hfr
      have hcl:bg (aj σ r (dV R dd zz)) (aR (dd.1.tys.filter fun t=>au t R.own) dd.1) R.tags=true:=by
       rw [qN dd.1 (fun _ h=>h),g5]
       exact ng hv.2 (fun _ h=>h) (sJ p qj hown)
      have hh:Held cx (aj σ r (dV R dd zz)) (aG α r (α.loc r) (α.hdr r) rest) (fE++F) w dd.1 dd.2 (dd.1.tys.filter fun t=>au t R.own) R.tags cs fE:=
       ⟨fun hc=>nV (fun t ht=>zX t ht) (g4.ow (by rw [qN dd.1 (fun _ h=>h)] at hc; exact hc)),g4.wt,g4.sub,g4.nd,g4.len⟩
      let tk:gP:=⟨dd.1,dd.2,dd.1.tys.filter (fun t=>au t R.own),R.tags,[.r r (some (dV R dd zz))],R.keep⟩
      have hhw:eG (aj σ r (dV R dd zz)) tk.tags:=hh.wt
      obtain ⟨H2,r3⟩:=DC (r:=aX s 1) (k:=tk.k) (x:=tk.x) (own:=tk.own) (tags:=tk.gq) (F':=(fE++F).filter fun b=>!au b fE) H1 hn1 (eO s 1) hh.sub hh.nd (wC (tk:=tk) hhw)
       (fun b hb=>by
        obtain ⟨q1,q2⟩:=af7.1 hb
        simp only [Bool.not_eq_true',aS] at q2
        exact ⟨q1,q2⟩) (H1.uU.filter _) hh.len
       (fun Xp=>by
        cases hb:tk.bad with
        | nil=>exact fP hb (hh.ow hcl)
        | cons t0 l=>
         have et:tk.gq=tk.tags:=by
          unfold gP.gq
          rw [hb]
         rw [et] at Xp ⊢
         exact bq (fun _ _=>rfl) (fun b h=>.inl h) (fun _ _=>rfl) (hh.ow Xp)) x8 R.keep
      have H3:=H2.JS (s:=s) (x:=.one (.ref (aX s 1) 0)) ⟨_,aH .., .inr (agq _)⟩ r3
      have hs3:=H3.slots s2
      have hw3:=H3.oF s2
      have hkeep:(iU (aj (aj σ r (dV R dd zz)) (aX s 1) (aI tk.k tk.x tk.own tk.gq .anon R.keep)) (upd (aj (aj σ r (dV R dd zz)) (aX s 1) (aI tk.k tk.x tk.own tk.gq .anon R.keep)).slots s (.one (.ref (aX s 1) 0)))).slots s2=.lit t c l:=by
       show upd σ.slots s _ s2=_
       rw [upd_ne _ _ (Ne.symm hne)]
       exact hsl2
      rw [hkeep] at hs3 hw3
      obtain ⟨us',cs3,⟨ev',XF⟩,hl'⟩:=hs3
      have ecs:cs3=cs2:=by
       rw [ev] at ev'
       have:=congrArg Value.cells ev'
       simpa [Value.cells] using this.symm
      subst ecs
      have eus:=Pk Rb XF
      subst eus
      have hroot:(aj (aj σ r (dV R dd zz)) (aX s 1) (aI tk.k tk.x tk.own tk.gq .anon R.keep)).roots r=some (dV R dd zz):=by
       rw [bU _ _ (Ne.symm hrl),aH]
      refine ⟨_,_,H3.JS (s:=s2) (x:=.lit t c (l.map (Ju r p v tk.ws))) (fun x hx=>?_) ⟨us,cs3,⟨ev,Rb⟩,zT (Ju r p v tk.ws) (fun x u hx0 hx1=>?_) hl hl'⟩⟩
      ·obtain ⟨y,hy,rfl⟩:=ags.1 hx
       have hy':=hw3 y hy
       show nW _ (freshen r p v (dV R dd zz).rR y)
       unfold freshen
       split
       ·rename_i q p' n
        cases hb:(Nat.beq r q && Nat.beq n v && vO p p') with
        | false=>exact hy'
        | true=>
         simp only [afW] at hb
         rw [←afU hb.1.1]
         exact ⟨_,hroot, .inr (af6 _)⟩
       ·exact hy'
      ·show bH cx _ _ _ w (freshen r p v (dV R dd zz).rR x) u
       unfold freshen
       split
       ·rename_i q p' n
        cases hb:(Nat.beq r q && Nat.beq n v && vO p p') with
        | false=>exact hx1
        | true=>
         simp only [afW] at hb
         have e1:=afU hb.1.1
         have e2:=afU hb.1.2
         subst e1
         subst e2
         obtain ⟨i,j,rfl,rfl,hij⟩:=FB hb.2
         intro Q hQ Rl hnQ d' hd'
         have hQ':Q=dV R dd zz:=by
          have hQ:(aj (aj σ r (dV R dd zz)) (aX s 1) (aI tk.k tk.x tk.own tk.gq .anon R.keep)).roots r=some Q:=hQ
          rw [hroot] at hQ
          simpa using hQ.symm
         subst hQ'
         have hold:=hx0 R hr.1 hv Rm
         obtain ⟨Rk,Rx,TM,Nz,Rw,Rh,Rg,Ny,WO,Nw,Rew,Reh⟩:=R
         cases Rk with
         | st c0=>
          simp only [dR] at hz
          simp only [aO] at qj
          cases hci:aK i c0 Rx with
          | none=>rw [hci] at qj; simp at qj
          | some d0=>
           rw [hci] at hz qj
           simp only [afQ] at qj
           subst qj
           simp only at hz
           cases hcp:cu i c0 Rx (og d0) with
           | none=>rw [hcp] at hz; simp at hz
           | some z0=>
            rw [hcp] at hz
            simp only [afQ] at hz
            subst hz
            have hput:aK j z0.1 z0.2=aK j c0 Rx:=xP i j (Ne.symm hij) hcp
            have hd2:aO [.fD j] (.st c0) Rx=some d':=by
             have hd3:aO [.fD j] (.st z0.1) z0.2=some d':=hd'
             simp only [aO] at hd3 ⊢
             rw [hput] at hd3
             exact hd3
            obtain ⟨w1,w2,cs4,wh4,w3,w4⟩:=hold d' hd2
            have hcj:(aK j c0 Rx).isSome=true:=by
             cases hcj:aK j c0 Rx with
             | none=>simp only [aO] at hd2; rw [hcj] at hd2; simp at hd2
             | some _=>rfl
            refine ⟨?_, ?_,cs4,wh4, ?_,w4⟩
            ·show kH [.fD j] (.st z0.1) z0.2
             simp only [kH]
             rw [hput]
             cases ab2:aK j c0 Rx with
             | none=>rw [ab2] at hcj; simp at hcj
             | some _=>trivial
            ·intro t' ht'
             have ht':t'∈aa [.fD j] (.st z0.1):=ht'
             simp only [aa] at ht'
             split at ht' <;> simp at ht'
            ·have e3:(aG (aG α r (α.loc r) (α.hdr r) rest) (aX s 1) (0,0) cs fE).hdr r=α.hdr r:=by simp [aG,upd_same,upd_ne _ _ (Ne.symm hrl)]
             rw [e3]
             have e4:dQ (aG (aG α r (α.loc r) (α.hdr r) rest) (aX s 1) (0,0) cs fE) (dV { k:=.st c0,x:=Rx,own:=TM,tags:=Nz,w:=Rw,h:=Rh,g:=Rg,kind:=Ny,fixed:=WO,keep:=Nw,ew:=Rew,eh:=Reh } d0 ⟨.st z0.1,z0.2⟩) r=dQ α { k:=.st c0,x:=Rx,own:=TM,tags:=Nz,w:=Rw,h:=Rh,g:=Rg,kind:=Ny,fixed:=WO,keep:=Nw,ew:=Rew,eh:=Reh } r:=by
              unfold dQ dV
              simp [aG,upd_same,upd_ne _ _ (Ne.symm hrl)]
             rw [e4]
             have w3':bE (hp w) [.fD j] (.st c0) (α.hdr r) _=some (cs4,wh4):=w3
             show bE (hp w) [.fD j] (.st z0.1) (α.hdr r) _=some (cs4,wh4)
             simp only [bE] at w3' ⊢
             cases hoj:bu j c0 with
             | none=>rw [hoj] at w3'; simp at w3'
             | some q=>
              rw [hoj] at w3'
              rw [xQ i j (Ne.symm hij) hci hcp (oZ d0.1) hoj]
              exact w3'
         | _=>simp [aO] at qj
       ·exact hx1
theorem MZ {s2:Nat}:∀{l:List (Nat×Operand)} {ws:List Wr} {σ:St} {α:dI} {F:List Nat},Rel cx σ α F a w→(splits s2 l).ends σ ws→∃α' F',Rel cx (az ws σ) α' F' a w:=by
 intro l
 induction l with
 | nil=>intro ws σ α F H h; rw [aA h]; exact ⟨α,F,H⟩
 | cons q l ih=>
  obtain ⟨n,x⟩:=q
  intro ws σ α F H h
  cases x with
  | tmp s=>
   simp only [splits] at h
   have h:(match σ.slots s with
    | .one (.oQ r _ _)=>_
    | _=>splits s2 l).ends σ ws:=h
   split at h
   ·have h:(match σ.slots s2 with
     | .lit _ _ m=>_
     | _=>(.fail:Prog (List Wr))).ends σ ws:=h
    split at h
    ·rcases ay h with ⟨_,h⟩ | ⟨_,h⟩
     ·obtain ⟨us,vs,h1,h2,rfl⟩:=zl h
      obtain ⟨dH,F1,H1⟩:=PU H h1
      rw [bQ]
      exact ih H1 h2
     ·exact ih H h
    ·exact h.elim
   ·exact ih H h
  | _=>exact ih H h
theorem GJ {A:Type} {z:A} {k:Nat→Prog A}:∀{l:List (Nat×Operand)},(vY l k).ends σ z→∃s,(k s).ends σ z:=by
 intro l
 induction l with
 | nil=>exact fun h=>h.elim
 | cons q l ih=>
  obtain ⟨n,x⟩:=q
  intro h
  cases x with
  | tmp s=>
   simp only [vY] at h
   have h:(match σ.slots s with
    | .lit _ _ _=>k s
    | _=>vY l k).ends σ z:=h
   split at h
   ·exact ⟨s,h⟩
   ·exact ih h
  | _=>exact ih h
theorem Dh (hT:dU P T) (H:Rel cx σ α F a w) (hd:o.dst=some d) (hdn:d<cx.nt) {t:TypeId} {ps:Array (Nat×Operand)}
  (h:(Eo T d t ps).ends σ ws) (ho:o.op=.build t ps):nJ P cx o a w (az ws σ):=by
 obtain ⟨s,h⟩:=GJ h
 obtain ⟨us,vs,h1,h2,rfl⟩:=zl h
 obtain ⟨us2,vs2,h3,h4,rfl⟩:=zl h2
 obtain ⟨dH,F1,H1⟩:=MZ H h1
 obtain ⟨xE,F2,H2⟩:=UW hT H1 h3
 rw [bQ,bQ]
 exact DR hT H2 hd hdn h4 ho
end
end
section
open Go
variable [Fr]
section
variable {P:Program} {T:iD} {w:World}
structure Src (P:Program) (w:World) (size:Nat) (u:TypeId) (x:Value) (m:Nat) (news:List Value):Prop where
 und:(∃e',P.underlying u=some (.slice e'))∨P.underlying u=some .string
 len:∀w',(Builtin.lenOf x).run P w'=.ok m w'
 cells:(Builtin.firstCells size m x).run P w=.ok news.toArray w∧(Builtin.firstCells size m x).run P w.drew=.ok news.toArray w.drew
 nl:news.length=m * size
 one:∀v∈news,v.oneCell'=true
theorem wz {size:Nat} {u:TypeId} {b:Option Addr} {m c:Nat} {news:List Value} (hu:(∃e',P.underlying u=some (.slice e'))∨P.underlying u=some .string) (hl:news.length=m * size) (h1:∀v∈news,v.oneCell'=true)
  (hc:0<m→∃bb q,b=some ⟨bb,q,none⟩∧Cells (hp w) bb q news):Src P w size u (.slice b m c) m news where
 und:=hu
 len:=fun w'=>rfl
 cells:=by
  have key:∀w',hp w'=hp w→(Builtin.firstCells size m (.slice b m c)).run P w'=.ok news.toArray w':=by
   intro w' hw
   by_cases h0:0<m
   ·obtain ⟨bb,q,rfl,hcs⟩:=hc h0
    exact run_firstCells_some (P:=P) w' size m ⟨bb,q,none⟩ m c news hl (fun j v hj=>by
     rw [addr_add,uB,hw,hcs j (List.getElem?_eq_some_iff.1 hj).1]
     exact hj)
   ·have hm:m=0:=by omega
    subst hm
    have hn:news=[]:=List.eq_nil_of_length_eq_zero (by simpa using hl)
    subst hn
    cases b with
    | none=>exact run_firstCells_none w' size 0 0 c
    | some ad=>exact run_firstCells_some (P:=P) w' size 0 ad 0 c [] (by simp) (fun j v hj=>by simp at hj)
  exact ⟨key w rfl,key w.drew rfl⟩
 nl:=hl
 one:=h1
theorem JZ {u:TypeId} {B:ByteArray} (hu:(∃e',P.underlying u=some (.slice e'))∨P.underlying u=some .string):Src P w 1 u (.string B) B.size (B.data.toList.map fun b=>.int .u8 b.toNat) where
 und:=hu
 len:=fun w'=>rfl
 cells:=by
  have h:B.extract 0 B.size=B:=by
   apply ByteArray.ext
   simp
  constructor <;> (simp [Builtin.firstCells,h]; apply Array.ext'; simp)
 nl:=by simp
 one:=by intro v hv; simp only [ags] at hv; obtain ⟨b,_,rfl⟩:=hv; rfl
theorem sZ {t u ty e:TypeId} {k:K} (ht:fB P T t (.sl e k)) {b:Option Addr} {n c m:Nat} {x:Value} {news:List Value} (hs:Src P w k.size u x m news) (hr:n+m≤c) :
  (Builtin.append_ #[t,u] ty #[.slice b n c,x]).run P w=(match b with
   | some a=>(storeCells (a.add (n * k.size)) news).run P w
   | none=>.ok () w).andThen fun _ w'=>.ok (.slice b (n+m) c) w':=by
 obtain ⟨hu,he,_,_⟩:=ht.sl
 have e1:=hs.len w
 have e2:=hs.cells.1
 rcases hs.und with ⟨e',hd⟩ | hd <;> cases b <;> simp [Builtin.append_,run_underlying hu,he.info.sizeOf w,run_underlying hd,e1,e2,hr,Result.andThen]
end
end
section
open Go
variable [Fr]
section
variable {P:Program} {T:iD} {w:World}
theorem vQ {t u ty e:TypeId} {k:K} (ht:fB P T t (.sl e k)) {b:Option Addr} {n c m:Nat} {x:Value} {news olds:List Value} (hs:Src P w k.size u x m news)
  (hold:(Builtin.firstCells k.size n (.slice b n c)).run P w.drew=.ok olds.toArray w.drew) (hr:¬n+m≤c) (hb:(n+m) * T.bytes e≤140737488355328) :
  ∃nc,n+m≤nc∧(Builtin.append_ #[t,u] ty #[.slice b n c,x]).run P w =
   .ok (.slice (some ⟨w.heap.size,0,none⟩) (n+m) nc) (w.drew.alloc (.cells (olds.toArray++news.toArray++Builtin.zeroCells (oJ k).cells (nc - (n+m))) e)):=by
 obtain ⟨hu,he,_,i,hi,hby,hpos⟩:=ht.sl
 obtain ⟨i',hi',hs',hz'⟩:=he.info
 rw [hi] at hi'
 simp only [afQ] at hi'
 subst hi'
 have e1:=hs.len w
 have e2:=hs.cells.2
 have h2:¬(281474976710656<Builtin.nextslicecap (n+m) c * i.bytes):=by
  have:=growslice_fits (need:=n+m) (old:=c) (bytes:=i.bytes) (by omega) (by rw [hby]; exact hb)
  omega
 have h3:i.bytes≠0:=by omega
 refine ⟨grownCap w (n+m) c e,grownCap_ge w (n+m) c e, ?_⟩
 rw [←hs'] at hold e2
 rcases hs.und with ⟨e',hd⟩ | hd
 ·simp [Builtin.append_,run_underlying hu,run_underlying hd,sizeOf,typeInfo,zeroValue,hi,hz',e1,hr,h2,h3,Question.forced,hold,e2,newRow,grownCap]
  congr 2
  apply Array.ext'
  simp [agb]
 ·simp [Builtin.append_,run_underlying hu,run_underlying hd,sizeOf,typeInfo,zeroValue,hi,hz',e1,hr,h2,h3,Question.forced,hold,e2,newRow,grownCap]
  congr 2
  apply Array.ext'
  simp [agb]
end
end
end Go.Proofs.Ytabnmpabdhmkoaa.Ow
