/- A verified reading of translated code: values in place of memory; part C of 6, spaces and remarks taken out. No condition. Own work of this seat. -/
import Derived.Test.YtabnmpabdhmkoaaOwB
import Derived.Laws.Strings
import Derived.Laws.BytesString
import Derived.Laws.IdiomStrings
import Derived.Laws.MakeOwn
import Derived.Laws.Tables
import Derived.Laws.AppendOwn
set_option linter.unusedSectionVars false
set_option linter.unusedVariables false
set_option linter.unusedSimpArgs false
namespace Go.Proofs.Ytabnmpabdhmkoaa.Ow
section
open Go
variable [Fr]
theorem beq_true {a b:K} {A:Type} {x y:Prog A} {σ:St} {z:A} (h:(bif a.beq b then x else y).ends σ z):(a=b∧x.ends σ z)∨(a.beq b=false∧y.ends σ z):=by
  cases hb:a.beq b with
  | true=>rw [hb] at h; exact .inl ⟨K.eq_of_beq hb,h⟩
  | false=>rw [hb] at h; exact .inr ⟨rfl,h⟩
section
variable {P:Program} {T:gL} {cx:Cx} {σ:St} {α:dA} {F:List Nat} {a:Act} {w:World} {o:Oper} {d:Nat} {ws:List Wr}
theorem structField {P:Program} {T:gL}:∀(n:Nat) {c:K} {fs:List Field} {Ac off:Nat} {k:K},(iC P T c).2 fs Ac→aV n c=some (off,k)→∃f,fs[n]?=some f∧f.offset=Ac+off∧eP P T f.type k∧0<k.size:=by
  intro n
  induction n with
  | zero=>
    intro c fs Ac off k h ho
    cases c with
    | pair a b=>
      simp only [aV,abr,abD] at ho
      obtain ⟨rfl,rfl⟩:=ho
      cases fs with
      | nil=>exact h.elim
      | cons f fs=>exact ⟨f,rfl,h.1,h.2.1,h.2.2.1⟩
    | _=>simp [aV] at ho
  | succ n ih=>
    intro c fs Ac off k h ho
    cases c with
    | pair a b=>
      simp only [aV] at ho
      cases h2:aV n b with
      | none=>rw [h2] at ho; simp at ho
      | some q=>
        rw [h2] at ho
        simp only [abr,abD] at ho
        cases fs with
        | nil=>exact h.elim
        | cons f fs=>
          obtain ⟨g,g1,g2,g3,g4⟩:=ih (off:=q.1) (k:=q.2) h.2.2.2 (by rw [h2])
          exact ⟨g,by simpa using g1,by rw [g2, ←ho.1]; omega,by rw [←ho.2]; exact g3,by rw [←ho.2]; exact g4⟩
    | _=>simp [aV] at ho
theorem eP.st {t:TypeId} {c:K} (h:eP P T t (.st c)):∃fs,P.underlying t=some (.struct fs)∧(iC P T c).2 fs.toList 0:=by
  unfold eP iC at h
  exact h.1
theorem uE {cs:List Value} {off n:Nat} (h:off+n≤cs.length):((cs.drop off).take n).length=n:=by simp; omega
theorem zi:∀(n:Nat) {c:K} {off:Nat} {k:K},aV n c=some (off,k)→off+k.size≤c.size:=by
  intro n
  induction n with
  | zero=>intro c off k h; cases c with
    | pair a b=>simp only [aV,abr,abD] at h; obtain ⟨rfl,rfl⟩:=h; simp [K.size]
    | _=>simp [aV] at h
  | succ n ih=>intro c off k h; cases c with
    | pair a b=>
      simp only [aV] at h
      cases h2:aV n b with
      | none=>rw [h2] at h; simp at h
      | some q=>
        rw [h2] at h
        simp only [abr,abD] at h
        have:=ih (off:=q.1) (k:=q.2) (by rw [h2])
        simp only [K.size]
        rw [←h.1, ←h.2]
        omega
    | _=>simp [aV] at h
theorem Mm {t:TypeId} {k:K} (h:eP P T t k) (hk:0<k.size) {cs:List Value} {off:Nat} (hl:off+k.size≤cs.length):∃u,(part t cs.toArray off).run P w=.ok u w∧((∀x,u≠.agg x)∨nM k=true→VC k u ((cs.drop off).take k.size)):=by
  unfold part
  simp only [abR,h.isAgg w,Result.andThen]
  cases hs:nM k with
  | true=>
    refine ⟨.agg (cs.toArray.extract off (off+k.size)),by simp [h.info.sizeOf w,Result.andThen],fun _=>?_⟩
    cases k with
    | st c=>
      show Value.agg _=.agg _
      congr 1
      apply Array.ext'
      simp [List.extract_eq_take_drop]
    | _=>simp [nM] at hs
  | false=>
    have hlt:off<cs.length:=by omega
    refine ⟨cs[off],by simp [hlt],fun hu=>?_⟩
    have hu':∀x,cs[off]≠.agg x:=hu.resolve_right (by simp)
    have hk1:k.size=1:=by
      cases k with
      | st c=>simp [nM] at hs
      | pair a b=>exact (show False from h).elim
      | unit=>exact (show False from h).elim
      | gap n=>exact (show False from h).elim
      | _=>rfl
    have e:(cs.drop off).take k.size=[cs[off]]:=by
      rw [hk1,List.drop_eq_getElem_cons hlt]
      rfl
    rw [e]
    cases k with
    | st c=>simp [nM] at hs
    | _=>exact ⟨rfl,hu'⟩
theorem Ba {v:Value} (h:v.oneCell'=true):∀x,v≠.agg x:=by
  intro x e
  subst e
  simp [Value.oneCell'] at h
theorem JR {t:TypeId} {c:K} (h:eP P T t (.st c)) {cs:List Value} {n off:Nat} {k:K} (ho:aV n c=some (off,k)) (hl:cs.length=c.size) (h1:∀v∈cs,v.oneCell'=true) :
    ∃u,(Instr.field t (.agg cs.toArray) n).run P w=.ok u w∧VC k u ((cs.drop off).take k.size):=by
  obtain ⟨fs,hu,hf⟩:=h.st
  obtain ⟨f,f1,f2,f3,f4⟩:=structField n hf ho
  have hle:=zi n ho
  obtain ⟨u,g1,g2⟩:=Mm (w:=w) f3 f4 (cs:=cs) (off:=off) (by omega)
  have XE:fs[n]?=some f:=by rw [←Array.getElem?_toList]; exact f1
  refine ⟨u, ?_,g2 ?_⟩
  · unfold Instr.field
    simp only [abR,run_underlying hu,Result.andThen,XE,asAgg,abW]
    rw [show f.offset=off from by omega]
    exact g1
  · cases hs:nM k with
    | true=>exact .inr rfl
    | false=>
      left
      unfold part at g1
      simp only [abR,f3.isAgg w,Result.andThen,hs] at g1
      have hlt:off<cs.length:=by omega
      simp [hlt] at g1
      rw [←g1]
      exact Ba (h1 _ (abU hlt))
theorem sW {r:Nat} {R:Root} {p:List Stp} {v:Value} {dd:Dat} {cs:List Value} {wh:Option (Nat×Nat)} (hr:aM σ r R) (hg:aI p R.k R.x=some dd) (h1:jM p R.k R.x) (h2:∀t∈aa p R.k,aA t R.own=true)
    (h3:bn (hp w) p R.k (α.hdr r) (dY α R r)=some (cs,wh)) (h4:VC dd.1 v cs):bz cx σ α F w (.mU r p R.pR) v:=by
  intro R' hR' _ _ d' hd'
  rw [hr.1] at hR'
  simp only [abr] at hR'
  subst hR'
  rw [hg] at hd'
  simp only [abr] at hd'
  subst hd'
  exact ⟨h1,h2,cs,wh,h3,h4⟩
theorem Rel.KV (H:Rel cx σ α F a w) {w':World} (hos:w'.os=w.os) (hout:w'.output=w.output) (hsz:w.heap.size≤w'.heap.size) (hold:∀b,b<w.heap.size→hp w' b=hp w b) (ht:w'.tape=w.tape):Rel cx σ α F a w':=by
  have hs:∀r,Same σ α σ α r:=fun r=>⟨rfl,rfl,rfl,rfl⟩
  have hch:∀b,b<w.heap.size→hp w' b=hp w b:=hold
  have T:jN cx σ α F w σ α F w' (fun _=>[]) (fun _=>[]):=by
    refine ⟨rfl,⟨hos,ht,hout⟩,hsz,fun r R hr=>⟨R,hr, ?_⟩,fun r R' _ h=>absurd (hs r) h,fun r R' h1 h2=>by rw [h1] at h2; simp at h2,fun b hb hne=>absurd (hch b hb) hne, ?_,H.rZ,
      fun r R' _ h=>absurd (hs r) h,fun r R r' R' _ _ _ h=>absurd (hs r) h, ?_,fun r R R' h1 h2 _=>by rw [h1] at h2; simp only [abr] at h2; subst h2; exact ⟨rfl,rfl⟩⟩
    · cases hd:R.aT with
      | true=>exact .inl ⟨rfl,fun hk=>by unfold Root.aT at hd; rw [hk] at hd; simp at hd⟩
      | false=>exact .inr ⟨rfl,rfl,rfl,abI _,rfl,rfl,fun _=>rfl, .inr ⟨rfl,rfl,hs r⟩⟩
    · rintro b (⟨r,R,h1,h2,h3⟩ | h)
      · exact absurd ⟨R,h1,h2⟩ h3
      · exact .inl h
    · intro j pi b o n h1 h2 hne
      obtain ⟨R,hR,hk,hl,_⟩:=H.kP j pi b o n h1 h2
      exact absurd (hch b ((H.roots _ R hR).mine b (by simp [blk,dY,hk,hl])).1) hne
  exact H.turn T (fun r R _ h=>absurd (hs r) h) (fun r R _ h=>absurd (hs r) h) (fun r R _ h=>absurd (hs r) h)
theorem Cs:∀(n:Nat) {c:K},(aa.yl n c).isSome=true→∃off k,aV n c=some (off,k):=by
  intro n
  induction n with
  | zero=>intro c h; cases c with
    | pair a b=>exact ⟨0,a,rfl⟩
    | _=>simp [aa.yl] at h
  | succ n ih=>intro c h; cases c with
    | pair a b=>obtain ⟨off,k,h1⟩:=ih (c:=b) h; exact ⟨a.size+off,k,by simp [aV,h1]⟩
    | _=>simp [aa.yl] at h
theorem DT:∀(n:Nat) {c k:K},aa.yl n c=some k→∃off,aV n c=some (off,k):=by
  intro n
  induction n with
  | zero=>intro c k h; cases c with
    | pair a b=>simp only [aa.yl,abr] at h; subst h; exact ⟨0,rfl⟩
    | _=>simp [aa.yl] at h
  | succ n ih=>intro c k h; cases c with
    | pair a b=>obtain ⟨off,h1⟩:=ih (c:=b) h; exact ⟨a.size+off,by simp [aV,h1]⟩
    | _=>simp [aa.yl] at h
theorem A7:∀(p:List Stp) {n:Nat} {k k1 k2:K} {off o2:Nat} {c:K},iU p k=some (off,k1)→k1=.st c→aV n c=some (o2,k2)→iU (p++[.fu n]) k=some (off+o2,k2):=by
  intro p
  induction p with
  | nil=>
    intro n k k1 k2 off o2 c h e h2
    simp only [iU,abr,abD] at h
    obtain ⟨rfl,rfl⟩:=h
    subst e
    simp [iU,h2]
  | cons s p ih=>
    intro n k k1 k2 off o2 c h e h2
    cases s with
    | idx i=>simp [iU] at h
    | fu m=>
      cases k with
      | st c'=>
        simp only [iU,List.cons_append] at h ⊢
        cases hq:aV m c' with
        | none=>rw [hq] at h; simp at h
        | some q=>
          rw [hq] at h
          simp only at h ⊢
          cases hr:iU p q.2 with
          | none=>rw [hr] at h; simp at h
          | some r=>
            rw [hr] at h
            simp only [abr,abD] at h
            obtain ⟨rfl,rfl⟩:=h
            rw [ih (off:=r.1) (k1:=r.2) (by rw [hr]) e h2]
            simp only [Nat.add_assoc]
      | _=>simp [iU] at h
theorem Jz:∀(p:List Stp) {k k1 k2:K} {off:Nat},BJ p k=some k1→iU p k=some (off,k2)→k2=k1:=by
  intro p
  induction p with
  | nil=>
    intro k k1 k2 off h1 h2
    simp only [BJ,abr] at h1
    simp only [iU,abr,abD] at h2
    rw [←h1,h2.2]
  | cons s p ih=>
    intro k k1 k2 off h1 h2
    cases s with
    | idx i=>simp [iU] at h2
    | fu m=>
      cases k with
      | st c=>
        simp only [BJ,iU] at h1 h2
        cases hk:aa.yl m c with
        | none=>rw [hk] at h1; simp at h1
        | some k0=>
          obtain ⟨o,ho⟩:=DT m hk
          rw [hk] at h1
          rw [ho] at h2
          simp only at h1 h2
          cases hr:iU p k0 with
          | none=>rw [hr] at h2; simp at h2
          | some r=>
            rw [hr] at h2
            simp only [abr,abD] at h2
            rw [←h2.2]
            exact ih (off:=r.1) h1 (by rw [hr])
      | _=>simp [iU] at h2
theorem zK {h:Heap}:∀(p:List Stp) {k k1:K} {x:El k} {cs:List Value} {d:Dat} {off:Nat},aI p k x=some d→iU p k=some (off,k1)→cs.length=k.size→
    k1=d.1∧off+k1.size≤cs.length∧bn h p k cs none=some ((cs.drop off).take k1.size,none)∧jM p k x∧aa p k=[]:=by
  intro p
  induction p with
  | nil=>
    intro k k1 x cs d off hg ho hl
    simp only [aI,abr] at hg
    simp only [iU,abr,abD] at ho
    obtain ⟨rfl,rfl⟩:=ho
    subst hg
    exact ⟨rfl,by omega,by simp [bn, ←hl],trivial,by simp [aa]⟩
  | cons s p ih=>
    intro k k1 x cs d off hg ho hl
    cases s with
    | idx i=>simp [iU] at ho
    | fu n=>
      cases k with
      | st c=>
        simp only [aI,iU] at hg ho
        cases hcg:aC n c x with
        | none=>rw [hcg] at hg; simp at hg
        | some s=>
          rw [hcg] at hg
          simp only at hg
          cases hq:aV n c with
          | none=>rw [hq] at ho; simp at ho
          | some q=>
            have hk2:q.2=s.1:=rH n (c:=c) hcg hq
            rw [hq] at ho
            obtain ⟨q1,q2⟩:=q
            simp only at hk2 ho
            subst hk2
            cases hr:iU p s.1 with
            | none=>rw [hr] at ho; simp at ho
            | some r=>
              rw [hr] at ho
              simp only [abr,abD] at ho
              obtain ⟨rfl,rfl⟩:=ho
              have hle:=zi n hq
              have hl':cs.length=c.size:=hl
              obtain ⟨g1,g2,g3,g4,g5⟩:=ih (cs:=(cs.drop q1).take s.1.size) (off:=r.1) (k1:=r.2) hg (by rw [hr]) (uE (by omega))
              rw [uE (by omega)] at g2
              refine ⟨g1,by omega, ?_,by simp only [jM,hcg]; exact g4,by simp [aa,bP n hcg,g5]⟩
              simp only [bn]
              rw [hq]
              simp only [Option.map_none]
              rw [g3]
              simp only [List.drop_take,List.take_take,List.drop_drop,Nat.min_eq_left (show r.2.size≤s.1.size - r.1 by omega)]
      | _=>simp [aI] at hg
theorem yC (σ:St) (r:Nat) (A B:Root):ak (ak σ r A) r B=ak σ r B:=by
  unfold ak
  simp only [St.mk.injEq,true_and]
  funext n
  unfold upd
  cases Nat.beq n r <;> rfl
theorem BD {h:Heap}:∀(p:List Stp) {k:K} {x:El k} {t d z:Dat},p.all Stp.lM=true→aI p k x=some d→dL p k x t=some z→t.1.size=d.1.size→
    aI p z.1 z.2=some t∧jM p z.1 z.2∧aa p z.1=[]∧∀cs wh,bn h p z.1 cs wh=bn h p k cs wh:=by
  intro p
  induction p with
  | nil=>
    intro k x t d z _ hg hz hs
    simp only [dL,abr] at hz
    subst hz
    exact ⟨rfl,trivial,by simp [aa],fun cs wh=>rfl⟩
  | cons s p ih=>
    intro k x t d z hp hg hz hs
    cases s with
    | idx i=>simp [Stp.lM] at hp
    | fu n=>
      have hp':p.all Stp.lM=true:=by simpa [Stp.lM] using hp
      cases k with
      | st c=>
        simp only [aI,dL] at hg hz
        cases hcg:aC n c x with
        | none=>rw [hcg] at hg; simp at hg
        | some s=>
          rw [hcg] at hg hz
          simp only at hg hz
          cases hs':dL p s.1 s.2 t with
          | none=>rw [hs'] at hz; simp at hz
          | some u=>
            rw [hs'] at hz
            simp only at hz
            cases hcp:bT n c x u with
            | none=>rw [hcp] at hz; simp at hz
            | some y=>
              rw [hcp] at hz
              simp only [abr] at hz
              subst hz
              obtain ⟨i1,i2,i3,i4⟩:=ih hp' hg hs' hs
              have e1:aC n y.1 y.2=some u:=qQ n hcp
              have hsz:u.1.size=s.1.size:=xD p hg hs hs'
              refine ⟨by simp only [aI,e1]; exact i1,by simp only [jM,e1]; exact i2,by simp [aa,bP n e1,i3],fun cs wh=>?_⟩
              simp only [bn]
              cases ho:aV n c with
              | none=>
                exfalso
                obtain ⟨off,h1⟩:=DT n (bP n hcg)
                rw [ho] at h1; simp at h1
              | some q=>
                have hk2:q.2=s.1:=rH n (c:=c) hcg ho
                obtain ⟨q1,q2⟩:=q
                simp only at hk2
                subst hk2
                rw [rJ n ho hcp]
                simp only
                rw [hsz]
                exact i4 _ _
      | _=>simp [aI] at hg
theorem Gx {R:Root} {r:Nat} {p:List Stp} {d:Dat} {tk:gp} {q:Root×Dat} (h:C8 R r p d tk=some q) :
    ∃zg own',dL p R.k R.x (mh d)=some zg∧q=(dR R d zg own',(mh d))∧(∀t∈zg.1.tys,aA t own'=aA t R.own)∧p.all Stp.lM=true∧(p≠[]∨∃t,R.kind=.var t)∧∀n,(r,n)∉tk.tags:=by
  unfold C8 at h
  cases hc:(!d.1.flat && p.all Stp.lM && !R.keep && (!p.isEmpty || R.isVar) && tk.tags.all (fun t=>!Nat.beq t.1 r)) with
  | false=>rw [hc] at h; simp at h
  | true=>
    rw [hc] at h
    simp only [cond_true] at h
    simp only [aby] at hc
    obtain ⟨⟨⟨⟨_,c1⟩,_⟩,c2⟩,c3⟩:=hc
    unfold uP at h
    cases hz:dL p R.k R.x (mh d) with
    | none=>rw [hz] at h; simp at h
    | some zg=>
      rw [hz] at h
      simp only at h
      cases hl:tk.own.filter (fun t=>!aA t R.own && aA t d.1.tys && !aA t zg.1.tys) with
      | nil=>rw [hl] at h; simp at h
      | cons a l=>
        rw [hl] at h
        simp only [abr] at h
        refine ⟨zg,(a :: l)++R.own,rfl,h.symm,fun t ht=>?_,c1, ?_,fun n hn=>?_⟩
        · cases hm:aA t R.own with
          | true=>rw [bu] at hm ⊢; exact abu _ hm
          | false=>
            rw [aO] at hm ⊢
            intro h1
            rcases abB.1 h1 with h1 | h1
            · rw [←hl] at h1
              have:=(abJ.1 h1).2
              simp only [aby,Bool.not_eq_true',aO] at this
              exact this.2 ht
            · exact hm h1
        · rcases Bool.or_eq_true .. |>.mp c2 with h1 | h1
          · left; intro e; rw [e] at h1; simp at h1
          · right
            unfold Root.isVar at h1
            cases hk:R.kind with
            | var t=>exact ⟨t,rfl⟩
            | anon=>rw [hk] at h1; simp at h1
            | par=>rw [hk] at h1; simp at h1
            | dead=>rw [hk] at h1; simp at h1
        · have:=abH.1 c3 _ hn
          simp at this
theorem Ay {t:TypeId} {kk:K} {x:El kk} {JY:List TypeId} {lQ:List Tag} {nO:List Wr} {IE:Bool} {cst:List Value} {Ro:List Nat} {v:Value} {r:Nat} {R:Root} (ht:eP P T t kk)
    (H:Rel cx σ α F a w) (hr:aM σ r R) (hv:bg σ R) {p:List Stp} {dd:Dat} (hg:aI p R.k R.x=some dd) (eZ:jM p R.k R.x) (hown:∀t∈aa p R.k,aA t R.own=true)
    (k2:aU σ (aK JY kk) lQ=true) (k3:VC kk v cst) (k1:Held cx σ α F w kk x JY lQ cst Ro)
    {cs1:List Value} {b o:Nat} (hn:bn (hp w) p R.k (α.hdr r) (dY α R r)=some (cs1,some (b,o))) {A:Type} {z:A} {k:List Wr→Prog A} {RH:St} (h:(storeAt kk r p ⟨kk,x,JY,lQ,nO,IE⟩ R dd k).ends RH z) :
    ∃w',(Instr.storeAt t (.pointer (some ⟨b,o,none⟩)) v).run P w=.ok () w'∧∃α' F',∃R',Rel cx (ak σ r R') α' F' a w'∧(k (nO++[.r r (some R')])).ends RH z:=by
  unfold storeAt at h
  rcases ah h with ⟨hc3,h⟩ | ⟨_,h⟩
  · simp only [aby] at hc3
    simp only [gp.bad] at hc3 h
    cases hz:dL p R.k R.x ⟨kk,x⟩ with
    | none=>rw [hz] at h; exact h.elim
    | some z=>
      rw [hz] at h
      simp only at h
      rcases ah h with ⟨_,h⟩ | ⟨_,h⟩
      · exact h.elim
      · obtain ⟨w',r1,α',F',r2⟩:=JU (P:=P) (z:=z) ht H hr hv hg hz eZ hown k1 k2 k3
          (by
            rcases Bool.or_eq_true .. |>.mp hc3.1.1 with h | h
            · exact .inl (K.eq_of_beq h)
            · exact .inr (K.eq_of_beq (aby .. |>.mp h).1))
          (by
            rcases Bool.or_eq_true .. |>.mp hc3.1.2 with h | h
            · exact .inl h
            · exact .inr h)
          (fun t ht=>by
            have:=abH.1 hc3.2 t ht
            simpa [aO] using this) (R.keep || IE) hn
        exact ⟨w',r1,α',F',_,r2,h⟩
  · exact h.elim
theorem F3 (hT:dO P T) (H:Rel cx σ α F a w) (hd:o.dst=none) {t:TypeId} {x y:Operand} (ho:o.op=.store t x y) {u v:AV} (h1:bz cx σ α F w u (a.eval x)) (h2:l9 σ u) (h3:bz cx σ α F w v (a.eval y)) (h4:l9 σ v)
    (h:(GM T t u v fun ws=>(.ret ws:Prog (List Wr))).ends σ ws):lS P cx o a w (aj ws σ):=by
  unfold GM at h
  cases hty:T.ty t with
  | none=>rw [hty] at h; exact h.elim
  | some kk=>
   rw [hty] at h
   cases u with
   | ptr r p n=>
    simp only at h
    have ht:=hT.ty t kk hty
    obtain ⟨tk,htk,h⟩:=lN H h3 h4 h
    rcases ah h with ⟨hc1,h⟩ | ⟨_,h⟩
    · simp only [aby] at hc1
      obtain ⟨R,hr,hv,h⟩:=bU h
      rcases ah h with ⟨hc2,h⟩ | ⟨_,h⟩
      · simp only [aby] at hc2
        cases hg:aI p R.k R.x with
        | none=>rw [hg] at h; exact h.elim
        | some dd=>
          rw [hg] at h
          simp only at h
          have hkk:tk.k=kk:=K.eq_of_beq hc1.1
          have Jr:=Oj hc1.2
          have hown:=iT hc2.1.2
          obtain ⟨eZ,cs,b,q,hn,e⟩:=h1.2 R hr.1 hv hc2.1.1 hown (by rw [hg]; rfl)
          have hap:=rE.1 hc2.2
          obtain ⟨fB,F1,cst,Ro,lw,lh,H1,T1,k1,k2,k3,k4,k5,k6⟩:=take1 H htk
          have hS:=k6 r Jr
          have hr1:=(hS.live R).2 hr
          have hv1:bg (aj tk.ws σ) R:=⟨hv.1,by rw [eD (fun t ht=>(k6 t.1 (hap t ht)).root)]; exact hv.2⟩
          have hn1:bn (hp w) p R.k (fB.hdr r) (dY fB R r)=some (cs,some (b,q)):=by rw [hS.hdr,hS.wh]; exact hn
          obtain ⟨Zu,tkx,JY,lQ,nO,IE⟩:=tk
          simp only at hkk
          subst hkk
          simp only [gp.bad] at k2 k3 h
          cases hrg:C8 R r p dd ⟨Zu,tkx,JY,lQ,nO,IE⟩ with
          | none=>
            rw [hrg] at h
            obtain ⟨w',r1,α',F',r2⟩:=Ay (P:=P) ht H1 hr1 hv1 hg eZ hown k3 k1 k2 hn1 h
            obtain ⟨R',r2,r3⟩:=r2
            rw [az r3]
            refine ⟨undef,w',α',F', .inr ⟨?_,rfl⟩, ?_⟩
            · simp only [execOp,ho,e,abR,r1,abK,abW]
            · rw [hd,bK]
              exact r2
          | some qq=>
            rw [hrg] at h
            simp only at h
            obtain ⟨hck,h⟩:=fq h
            obtain ⟨zg,own',g1,g2,g3,g4,g5,g6⟩:=Gx hrg
            subst g2
            simp only at hck h
            have hnt:=(H1.cB r R hr1.1).2.2
            obtain ⟨cs1,jS,eX,rest,hn',H2,T2,_,_,hpm⟩:=TP (own':=own') H1 hr1 hv1 hg g1 eZ hown g5 g3
            rw [hn1] at hn'
            simp only [abr,abD] at hn'
            obtain ⟨rfl,rfl⟩:=hn'
            have hr2:aM (ak (aj nO σ) r (dR R dd zg own')) r (dR R dd zg own'):=⟨aF ..,hr.2⟩
            have hv2:bg (ak (aj nO σ) r (dR R dd zg own')) (dR R dd zg own'):=⟨hv.1,by
              show aU _ _ R.tags=true
              rw [jG hnt,eD (fun t ht=>(k6 t.1 (hap t ht)).root)]
              exact hck⟩
            have k1':=k2.turn H1 T2 (fun b hb=>⟨rfl,abu _ (k2.sub b hb)⟩)
            have k2':aU (ak (aj nO σ) r (dR R dd zg own')) (aK JY Zu) lQ=true:=by rw [jG g6]; exact k3
            obtain ⟨f1,f2,f3,f4⟩:=BD (h:=hp w) p g4 hg g1 (mZ dd.1)
            have hsd:(aB fB r (fB.loc r) (fB.hdr r) rest).hdr r=fB.hdr r:=by simp [aB,upd_same]
            have YD:dY (aB fB r (fB.loc r) (fB.hdr r) rest) (dR R dd zg own') r=dY fB R r:=by rw [iG,oL (show (dR R dd zg own').kind=R.kind from rfl), ←nP]
            have hn2:bn (hp w) p (dR R dd zg own').k ((aB fB r (fB.loc r) (fB.hdr r) rest).hdr r) (dY (aB fB r (fB.loc r) (fB.hdr r) rest) (dR R dd zg own') r)=some (cs,some (b,q)):=by
              rw [hsd,YD]
              exact (f4 _ _).trans hn1
            obtain ⟨w',r1,α',F',r2⟩:=Ay (P:=P) ht H2 hr2 hv2 f1 f2 (fun t ht=>by have ht':t∈aa p zg.1:=ht; rw [f3] at ht'; simp at ht') k2' k1 k1' hn2 h
            obtain ⟨R',r2,r3⟩:=r2
            rw [az r3]
            refine ⟨undef,w',α',F', .inr ⟨?_,rfl⟩, ?_⟩
            · simp only [execOp,ho,e,abR,r1,abK,abW]
            · rw [hd,bK]
              rw [yC] at r2
              exact r2
      · exact h.elim
    · exact h.elim
   | _=>exact h.elim
theorem KD {A:Type} {z:A} {x:AV} {kk:K} {yes:Nat→Nat→Prog A} {no:Prog A} (h:(Nb x kk yes no).ends σ z):(∃r g R,x=.ref r g∧aM σ r R∧bg σ R∧R.g=g∧R.k=kk∧(yes r g).ends σ z)∨no.ends σ z:=by
  cases x with
  | ref r g=>
    simp only [Nb,Prog.ends] at h
    cases hr:σ.roots r with
    | none=>rw [hr] at h; exact .inr h
    | some R=>
      rw [hr] at h
      simp only at h
      rcases ah h with ⟨_,h⟩ | ⟨_,h⟩
      · obtain ⟨R',hr',hv,h⟩:=bU h
        rcases ah h with ⟨hc,h⟩ | ⟨_,h⟩
        · simp only [aby] at hc
          exact .inl ⟨r,g,R',rfl,hr',hv,abw hc.1,K.eq_of_beq hc.2,h⟩
        · exact h.elim
      · exact .inr h
  | _=>exact .inr h
theorem Nk (H:Rel cx σ α F a w) (hd:o.dst=some d) (hdn:d<cx.nt) {t:TypeId} {x:Operand} (ho:o.op=.box t x)
    (h:(match T.ty t with
      | some kk=>dz x fun a=>Nb a kk (fun r g=>.ret [Wr.s d (.one (.zo r g kk []))]) <| qm kk a fun tk=>bif tk.k.beq kk && !aA t tk.bad then
          gG (aS d 0) (.ret (tk.ws++[Wr.r (aS d 0) (some (aD tk.k tk.x tk.own tk.fH (.var t) tk.keep)),Wr.s d (.one (.ptr (aS d 0) [] 0))]))
        else (.fail:Prog (List Wr))
      | none=>.fail).ends σ ws):lS P cx o a w (aj ws σ):=by
  split at h
  · rename_i kk hty
    obtain ⟨u,h1,h2,h⟩:=bI H h
    rcases KD h with ⟨r,g,R,eu,hr,hv,eg,ek,h5⟩ | h
    · subst eu eg ek
      obtain ⟨hka,wC⟩:=h1 R hr rfl
      have hb0:∀b,b<w.heap.size→hp (w.alloc (.cells (a.eval x).cells t)) b=hp w b:=fun b hb=>kJ w _ hb
      have H1:Rel cx σ α F a (w.alloc (.cells (a.eval x).cells t)):=H.KV rfl rfl (by show w.heap.size≤(w.heap.push _).size; simp) hb0 rfl
      have hnew:=mo w (.cells (a.eval x).cells t)
      rw [az h5]
      refine gq (v:=.pointer (some ⟨w.heap.size,0,none⟩)) (x:=.one (.zo r R.g R.k [])) H1 hd hdn (by simp only [execOp,ho,abR,BV,abK,abW]) ⟨a.eval x,w.heap.size,0,R.k,rfl,⟨?_,fun hF=>?_,fun q Q hq hbq=>?_⟩,fun i hi=>?_,rfl,h1⟩ h2
      · show w.heap.size<(w.heap.push _).size; simp
      · have:=(H.fl _ hF).1; omega
      · have:=((H.roots q Q hq).mine _ hbq).1; omega
      · unfold cellAt
        rw [hnew]
        simp
    obtain ⟨tk,htk,h⟩:=lN H h1 h2 h
    rcases ah h with ⟨_,h⟩ | ⟨_,h⟩
    · obtain ⟨g1,g2⟩:=eY h
      rw [az g2]
      obtain ⟨fB,F1,cst,Ro,lw,lh,H1,T1,k1,k2,k3,k4,k5,k6⟩:=take1 H htk
      have hnr:aS d 0∉tk.ws.flatMap Wr.nG:=by
        intro hm
        cases htk with
        | held hws cs hv h hc=>rw [hws] at hm; simp at hm
        | ref r R hr hv e hk hd=>rw [e] at hm; simp only [List.flatMap_cons,List.flatMap_nil,abV,Wr.nG,abL] at hm; rw [hm,hr.1] at g1; simp at g1
        | cut r R cs hr hv hk e hd hl Js how=>rw [e.2.2.1] at hm; simp only [List.flatMap_cons,List.flatMap_nil,abV,Wr.nG,abL] at hm; rw [hm,hr.1] at g1; simp at g1
        | gap r R p dd z hr hv hg hz eZ hown hpv e hn=>rw [e] at hm; simp only [List.flatMap_cons,List.flatMap_nil,abV,Wr.nG,abL] at hm; rw [hm,hr.1] at g1; simp at g1
      have hn1:(aj tk.ws σ).roots (aS d 0)=none:=by rw [(k6 _ hnr).root]; exact g1
      obtain ⟨r1,α',F',r2,r3⟩:=Hw (P:=P) (t:=t) H1 hn1 (dZ d 0) k2 k3 k1 tk.keep
      rw [bK]
      exact gq (x:=.one (.ptr (aS d 0) [] 0)) r2 hd hdn (by simp only [execOp,ho,abR,r1,abK,abW]) r3 ⟨_,aF .., .inr (ab0 _)⟩
    · exact h.elim
  · exact h.elim
theorem Ey {B:Type} {z:B} (hT:dO P T) (H:Rel cx σ α F a w) {t:TypeId} {x:Operand} {v:AV} {mU:Bool} (ho:o.op=.load t x) (h1:bz cx σ α F w v (a.eval x)) (h2:l9 σ v) {k:AV→Prog B}
    (h:(wF T mU t v k).ends σ z):∃u v',(execOp a.eval o).run P w=.ok (.value v') w∧bz cx σ α F w u v'∧l9 σ u∧(k u).ends σ z:=by
  unfold wF at h
  split at h
  · exact h.elim
  · rename_i kk hty
    have ht:=hT.ty t kk hty
    obtain ⟨s1,s2,s3⟩:=ht.shape
    split at h
    · rename_i r g k0 p
      obtain ⟨u,b,off,k1,e,hq,hC,ho1,hR⟩:=h1
      obtain ⟨R,hr,hv,h⟩:=bU h
      rcases ah h with ⟨hc,h⟩ | ⟨_,h⟩
      · simp only [aby] at hc
        cases hg:aI p R.k R.x with
        | none=>rw [hg] at h; exact h.elim
        | some dd=>
          rw [hg] at h
          simp only at h
          obtain ⟨dk,dx⟩:=dd
          rcases beq_true h with ⟨ek,h5⟩ | ⟨_,h⟩
          · simp only at ek
            subst ek
            have hk0:=K.eq_of_beq hc.1.2
            subst hk0
            obtain ⟨hka,wC⟩:=hR R hr (abw hc.1.1)
            rw [wC.cells] at hC
            have hwn:dY α R r=none:=by unfold dY; rw [hka]
            obtain ⟨g1,g2,g3,g4,g5⟩:=zK (h:=hp w) p hg ho1 (H.roots r R hr).len
            simp only at g1
            subst g1
            have hown:∀t∈aa p R.k,aA t R.own=true:=fun t ht=>by rw [g5] at ht; simp at ht
            have hn:bn (hp w) p R.k (α.hdr r) (dY α R r)=some (((α.hdr r).drop off).take k1.size,none):=by rw [hwn]; exact g3
            obtain ⟨eX,hO,hf⟩:=oC H hr hv hg g4 hown hn
            have hV:=ku H hr hO hf
            have hcs:Cells (hp w) b off (((α.hdr r).drop off).take k1.size):=by
              intro i hi
              have hi':i<k1.size:=by rw [uE g2] at hi; exact hi
              have:=hC (off+i) (by omega)
              rw [Nat.zero_add] at this
              rw [this,List.getElem?_take_of_lt hi',List.getElem?_drop]
            obtain ⟨u',hu⟩:=VC.mk s1 s2 s3 hV
            have hrun:=nu (P:=P) ht hcs (jh hV) hu
            have hrun':(execOp a.eval o).run P w=.ok (.value u') w:=by simp only [execOp,ho,e,abR,hrun,abK,abW]
            rcases ah h5 with ⟨hf,h6⟩ | ⟨_,h6⟩
            · exact ⟨.val k1 dx [],u',hrun',fun _=>⟨_,hu,gN hf hV⟩,fun t ht=>by simp at ht,h6⟩
            · exact ⟨.mU r p R.pR,u',hrun',sW (cx:=cx) (F:=F) hr hg g4 hown hn hu,⟨R,hr.1, .inr (abI _)⟩,h6⟩
          · exact h.elim
      · exact h.elim
    rcases rD H h1 h2 h with ⟨r,R,p,dd,cs,b,q,hr,hv,hg,eZ,hown,hn,e,h⟩ | ⟨bt,dd,Tg,b,q,cs,hw,e,hcs,hV,hok,hb,h⟩
    · obtain ⟨hC,⟨eX,hO,hf⟩,_⟩:=kV H hr hv hg eZ hown hn
      obtain ⟨dk,dx⟩:=dd
      rcases beq_true h with ⟨ek,h5⟩ | ⟨_,h⟩
      · simp only at ek
        subst ek
        clear h
        have h:=h5
        clear h5
        have hV:=ku H hr hO hf
        obtain ⟨u,hu⟩:=VC.mk s1 s2 s3 hV
        have hrun:=nu (P:=P) ht hC (jh hV) hu
        have hrun':(execOp a.eval o).run P w=.ok (.value u) w:=by simp only [execOp,ho,e,abR,hrun,abK,abW]
        rcases ah h with ⟨_,h⟩ | ⟨_,h⟩
        · exact ⟨.mU r p R.pR,u,hrun',sW (cx:=cx) (F:=F) hr hg eZ hown hn hu,⟨R,hr.1, .inr (abI _)⟩,h⟩
        · exact ⟨.val dk dx _,u,hrun',fun _=>⟨cs,hu,hV⟩,BP H hr _,h⟩
      · exact h.elim
    · obtain ⟨dk,dx⟩:=dd
      rcases beq_true h with ⟨ek,h5⟩ | ⟨_,h⟩
      · simp only at ek
        subst ek
        clear h
        have h:=h5
        clear h5
        obtain ⟨u,hu⟩:=VC.mk s1 s2 s3 hV
        have hrun:=nu (P:=P) ht hcs (jh hV) hu
        have hrun':(execOp a.eval o).run P w=.ok (.value u) w:=by simp only [execOp,ho,e,abR,hrun,abK,abW]
        refine ⟨.val dk dx _,u,hrun',fun _=>⟨cs,hu, ?_⟩, ?_,h⟩
        · cases hf:dk.flat with
          | true=>exact gN hf hV
          | false=>exact hV
        · cases hf:dk.flat with
          | true=>intro t ht; simp at ht
          | false=>exact hw
      · exact h.elim
theorem KH (hT:dO P T) (H:Rel cx σ α F a w) (hd:o.dst=some d) (hdn:d<cx.nt) {t:TypeId} {x:Operand} {mU:Bool} (ho:o.op=.load t x)
    (h:(dz x fun v=>wF T mU t v fun u=>(.ret [Wr.s d (.one u)]:Prog (List Wr))).ends σ ws):lS P cx o a w (aj ws σ):=by
  obtain ⟨v,h1,h2,h⟩:=bI H h
  obtain ⟨u,v',g1,g2,g3,h⟩:=Ey hT H ho h1 h2 h
  rw [az h]
  exact bB H hd hdn g1 g2 g3
theorem DZ (hT:dO P T) (H:Rel cx σ α F a w) (hd:o.dst=some d) (hdn:d<cx.nt) {t:TypeId} {x:Operand} (ho:o.op=.load t x)
    (h:(dz x fun v=>wF T true t v fun u=>match T.ty t with
      | some kk=>qm kk u fun tk=>gG (aS d 0) (.ret (tk.ws++[Wr.r (aS d 0) (some (aD tk.k tk.x tk.own tk.fH .anon tk.keep)),Wr.s d (.one (.ref (aS d 0) 0))]))
      | none=>(.fail:Prog (List Wr))).ends σ ws):lS P cx o a w (aj ws σ):=by
  obtain ⟨v,h1,h2,h⟩:=bI H h
  obtain ⟨u,v',hrun,g4,g5,h⟩:=Ey hT H ho h1 h2 h
  split at h
  · rename_i kk hty
    obtain ⟨tk,htk,h⟩:=lN H g4 g5 h
    obtain ⟨g1,g2⟩:=eY h
    rw [az g2]
    obtain ⟨fB,F1,cst,Ro,lw,lh,H1,T1,k1,k2,k3,k4,k5,k6⟩:=take1 H htk
    have hnr:aS d 0∉tk.ws.flatMap Wr.nG:=by
      intro hm
      cases htk with
      | held hws cs hv h hc=>rw [hws] at hm; simp at hm
      | ref r R hr hv e hk hd=>rw [e] at hm; simp only [List.flatMap_cons,List.flatMap_nil,abV,Wr.nG,abL] at hm; rw [hm,hr.1] at g1; simp at g1
      | cut r R cs hr hv hk e hd hl Js how=>rw [e.2.2.1] at hm; simp only [List.flatMap_cons,List.flatMap_nil,abV,Wr.nG,abL] at hm; rw [hm,hr.1] at g1; simp at g1
      | gap r R p dd z hr hv hg hz eZ hown hpv e hn=>rw [e] at hm; simp only [List.flatMap_cons,List.flatMap_nil,abV,Wr.nG,abL] at hm; rw [hm,hr.1] at g1; simp at g1
    have hn1:(aj tk.ws σ).roots (aS d 0)=none:=by rw [(k6 _ hnr).root]; exact g1
    obtain ⟨α',r2,r3⟩:=qN (F':=F1.filter fun b=>!aA b Ro) H1 hn1 (dZ d 0) k2.sub k2.nd (uF k2.wt)
      (fun b hb=>by
        obtain ⟨q1,q2⟩:=abJ.1 hb
        simp only [Bool.not_eq_true',aO] at q2
        exact ⟨q1,q2⟩) (H1.rZ.filter _) k2.len
      (fun hcl=>by
        cases hb:tk.bad with
        | nil=>exact jC hb (k2.ow k3)
        | cons t0 l=>
          have et:tk.fH=tk.tags:=by
            unfold gp.fH
            rw [hb]
          rw [et] at hcl ⊢
          exact aY (fun _ _=>rfl) (fun b h=>.inl h) (fun _ _=>rfl) (k2.ow hcl)) k1 tk.keep
    rw [bK]
    exact gq (x:=.one (.ref (aS d 0) 0)) r2 hd hdn hrun r3 ⟨_,aF .., .inr (ab0 _)⟩
  · exact h.elim
end
end
section
open Go
variable [Fr]
theorem Dy {h:Heap} {ok:Nat→Prop}:∀(n:Nat) {c:K} {x:El c} {cs:List Value} {d:Dat},Vw h ok c x cs→aC n c x=some d→∃off,aV n c=some (off,d.1)∧Vw h ok d.1 d.2 ((cs.drop off).take d.1.size):=by
 intro n
 induction n with
 | zero=>
  intro c x cs d H hg
  cases c with
  | pair a b=>
   simp only [aC,abr] at hg
   subst hg
   obtain ⟨c1,c2,rfl,h1,h2⟩:=H
   refine ⟨0,rfl, ?_⟩
   have:=jh h1
   simpa [←this] using h1
  | _=>simp [aC] at hg
 | succ n ih=>
  intro c x cs d H hg
  cases c with
  | pair a b=>
   simp only [aC] at hg
   obtain ⟨c1,c2,rfl,h1,h2⟩:=H
   obtain ⟨off,g1,g2⟩:=ih h2 hg
   refine ⟨a.size+off,by simp [aV,g1], ?_⟩
   have:=jh h1
   rw [←this, ←List.drop_drop]
   simpa using g2
  | _=>simp [aC] at hg
theorem xR:∀(p:List Stp) {q:List Stp} {k:K} {x:El k} {d:Dat},aI p k x=some d→aI (p++q) k x=aI q d.1 d.2:=by
 intro p
 induction p with
 | nil=>intro q k x d h; simp only [aI,abr] at h; subst h; rfl
 | cons s p ih=>
  intro q k x d h
  cases s with
  | fu n=>
   cases k with
   | st c=>
    simp only [aI,List.cons_append] at h ⊢
    cases hg:aC n c x with
    | none=>rw [hg] at h; simp at h
    | some s=>rw [hg] at h; exact ih h
   | _=>simp [aI] at h
  | idx i=>
   cases k with
   | sl e k=>simp only [aI,List.cons_append] at h ⊢; exact ih h
   | _=>simp [aI] at h
theorem uV:∀(p:List Stp) {q:List Stp} {k:K} {x:El k} {d:Dat},aI p k x=some d→jM p k x→jM q d.1 d.2→jM (p++q) k x:=by
 intro p
 induction p with
 | nil=>intro q k x d h _ h2; simp only [aI,abr] at h; subst h; exact h2
 | cons s p ih=>
  intro q k x d h h1 h2
  cases s with
  | fu n=>
   cases k with
   | st c=>
    simp only [aI,jM,List.cons_append] at h h1 ⊢
    cases hg:aC n c x with
    | none=>rw [hg] at h; simp at h
    | some s=>rw [hg] at h h1; exact ih h h1 h2
   | _=>simp [aI] at h
  | idx i=>
   cases k with
   | sl e k=>simp only [aI,jM,List.cons_append] at h h1 ⊢; exact ⟨h1.1,h1.2.1,ih h h1.2.2 h2⟩
   | _=>simp [aI] at h
theorem ug:∀(p:List Stp) {q:List Stp} {k:K} {x:El k} {d:Dat},aI p k x=some d→aa (p++q) k=aa p k++aa q d.1:=by
 intro p
 induction p with
 | nil=>intro q k x d h; simp only [aI,abr] at h; subst h; rfl
 | cons s p ih=>
  intro q k x d h
  cases s with
  | fu n=>
   cases k with
   | st c=>
    simp only [aI,aa,List.cons_append] at h ⊢
    cases hg:aC n c x with
    | none=>rw [hg] at h; simp at h
    | some s=>rw [hg] at h; rw [bP n hg]; exact ih h
   | _=>simp [aI] at h
  | idx i=>
   cases k with
   | sl e k=>simp only [aI,aa,List.cons_append] at h ⊢; rw [ih h]
   | _=>simp [aI] at h
theorem tV {h:Heap}:∀(p:List Stp) {q:List Stp} {k:K} {x:El k} {d:Dat} {cs:List Value} {wh:Option (Nat×Nat)} {c1:List Value} {w1:Option (Nat×Nat)},aI p k x=some d→bn h p k cs wh=some (c1,w1)→bn h (p++q) k cs wh=bn h q d.1 c1 w1:=by
 intro p
 induction p with
 | nil=>
  intro q k x d cs wh c1 w1 h h1
  simp only [aI,abr] at h
  subst h
  simp only [bn,abr,abD] at h1
  obtain ⟨rfl,rfl⟩:=h1
  rfl
 | cons s p ih=>
  intro q k x d cs wh c1 w1 h h1
  cases s with
  | fu n=>
   cases k with
   | st c=>
    simp only [aI,bn,List.cons_append] at h h1 ⊢
    cases hg:aC n c x with
    | none=>rw [hg] at h; simp at h
    | some s=>
     rw [hg] at h
     cases ho:aV n c with
     | none=>rw [ho] at h1; simp at h1
     | some q2=>
      rw [ho] at h1
      have hk:=rH n (c:=c) hg ho
      obtain ⟨o2,k2⟩:=q2
      simp only at hk
      subst hk
      exact ih h h1
   | _=>simp [aI] at h
  | idx i=>
   cases k with
   | sl e k=>
    simp only [aI,List.cons_append] at h
    simp only [bn,List.cons_append] at h1 ⊢
    split at h1
    ·exact ih h h1
    ·simp at h1
   | _=>simp [aI] at h
theorem y8 {a b:K} (h:a.beq b=true):a.size=b.size:=by rw [K.eq_of_beq h]
theorem JC:∀{a b:K},a.like b=true→a.size=b.size:=by
 intro a
 induction a with
 | gap n=>intro b h; simp only [K.like] at h; exact abw h
 | pair a b iha ihb=>
  intro c h
  cases c with
  | pair c d=>simp only [K.like,aby] at h; simp [K.size,iha h.1,ihb h.2]
  | _=>exact y8 (by simpa [K.like] using h)
 | st f ih=>
  intro b h
  cases b with
  | st g=>simp only [K.like] at h; exact ih (b:=g) h
  | _=>exact y8 (by simpa [K.like] using h)
 | _=>intro b h; exact y8 (by simpa [K.like] using h)
theorem LG:∀(n:Nat) {a b:K} {off:Nat} {k:K},a.like b=true→aV n a=some (off,k)→∃k',aV n b=some (off,k'):=by
 intro n
 induction n with
 | zero=>
  intro a b off k h ho
  cases a with
  | pair a1 a2=>
   simp only [aV,abr,abD] at ho
   cases b with
   | pair b1 b2=>exact ⟨b1,by simp [aV,ho.1]⟩
   | _=>simp [K.like,K.beq] at h
  | _=>simp [aV] at ho
 | succ n ih=>
  intro a b off k h ho
  cases a with
  | pair a1 a2=>
   simp only [aV] at ho
   cases h2:aV n a2 with
   | none=>rw [h2] at ho; simp at ho
   | some q=>
    rw [h2] at ho
    simp only [abr,abD] at ho
    cases b with
    | pair b1 b2=>
     simp only [K.like,aby] at h
     obtain ⟨k',h3⟩:=ih (off:=q.1) (k:=q.2) h.2 (by rw [h2])
     exact ⟨k',by simp [aV,h3, ←ho.1,JC h.1]⟩
    | _=>simp [K.like,K.beq] at h
  | _=>simp [aV] at ho
section
variable {P:Program} {T:gL} {cx:Cx} {σ:St} {α:dA} {F:List Nat} {a:Act} {w:World} {o:Oper} {d:Nat} {ws:List Wr}
theorem EX {t:TypeId} {c:K} (h:eP P T t (.st c)) {n off:Nat} {k:K} (ho:aV n c=some (off,k)) (b q:Nat) :
  (Instr.fieldAt t (.pointer (some ⟨b,q,none⟩)) n).run P w=.ok (.pointer (some ⟨b,q+off,none⟩)) w:=by
 obtain ⟨fs,hu,hf⟩:=h.st
 obtain ⟨f,f1,f2,f3,f4⟩:=structField n hf ho
 have XE:fs[n]?=some f:=by rw [←Array.getElem?_toList]; exact f1
 unfold Instr.fieldAt Instr.sureAddr fieldPlace
 simp only [abR,run_underlying hu,Result.andThen,XE,abW,f3.info.sizeOf w,Sem.run_ite]
 rw [if_neg (by omega),addr_add]
 simp [show f.offset=off from by omega]
theorem Jc (hT:dO P T) (H:Rel cx σ α F a w) (hd:o.dst=some d) (hdn:d<cx.nt) {t:TypeId} {x:Operand} {n:Nat} (ho:o.op=.field t x n)
  (h:(match T.ty t with
   | some kk=>dz x fun a=>zG kk a n fun u=>.ret [Wr.s d (.one u)]
   | none=>(.fail:Prog (List Wr))).ends σ ws):lS P cx o a w (aj ws σ):=by
 split at h
 case h_2=>exact h.elim
 rename_i kk hty
 have ht:=hT.ty t kk hty
 obtain ⟨v,h1,h2,h⟩:=bI H h
 have Ia:∀{c:K} {cs:List Value} {off:Nat} {k:K},kk=.st c→a.eval x=.agg cs.toArray→aV n c=some (off,k)→cs.length=c.size→(∀v∈cs,v.oneCell'=true)→
   ∃u,(execOp a.eval o).run P w=.ok (.value u) w∧VC k u ((cs.drop off).take k.size):=by
  intro c cs off k ek ev hoff hl h1
  subst ek
  obtain ⟨u,g1,g2⟩:=JR (w:=w) ht hoff hl h1
  exact ⟨u,by simp only [execOp,ho,ev,abR,g1,abK,abW],g2⟩
 have key:∀{r:Nat} {R:Root} {p:List Stp} {d0 dd:Dat} {cs:List Value} {wh:Option (Nat×Nat)},aM σ r R→bg σ R→aI p R.k R.x=some d0→d0.1=kk→aI (p++[.fu n]) R.k R.x=some dd→jM p R.k R.x→(∀t∈aa p R.k,aA t R.own=true)→
   bn (hp w) p R.k (α.hdr r) (dY α R r)=some (cs,wh)→VC d0.1 (a.eval x) cs→
   ∃u,(execOp a.eval o).run P w=.ok (.value u) w∧bz cx σ α F w (.mU r (p++[.fu n]) R.pR) u∧(dd.1.flat=true→bz cx σ α F w (.val dd.1 dd.2 []) u):=by
  intro r R p d0 dd cs wh hr hv hg0 e0 hg eZ hown hn wC
  obtain ⟨k0,x0⟩:=d0
  simp only at e0
  subst e0
  have hg1:=xR p (q:=[.fu n]) hg0
  rw [hg] at hg1
  have hpt:=ug p (q:=[.fu n]) hg0
  cases k0 with
  | st c=>
   simp only [aI] at hg1
   cases hcg:aC n c x0 with
   | none=>rw [hcg] at hg1; simp at hg1
   | some s=>
    rw [hcg] at hg1
    simp only [aI,abr] at hg1
    subst hg1
    obtain ⟨eX,hO,hf⟩:=oC H hr hv hg0 eZ hown hn
    obtain ⟨off,pre,cs1,post,OQ,fr,ho1,ec,hl,hp,hd2,_⟩:=yH n (show Ow _ _ _ c x0 cs eX from hO) hcg
    have hsub:(cs.drop off).take s.1.size=cs1:=by rw [ec]; exact kY hl (cz hd2)
    obtain ⟨u,r1,r2⟩:=Ia rfl wC ho1 (cz (k:=c) hO) (Fx ht.dV hO)
    rw [hsub] at r2
    refine ⟨u,r1,sW (cs:=cs1) (wh:=wh.map fun q=>(q.1,q.2+off)) hr hg ?_ ?_ ?_ r2,fun hfl=>fun _=>⟨cs1,r2,gN hfl (iY (fun _=>True) (fun _ _=>trivial) (fun _ _=>trivial) hd2)⟩⟩
    ·exact uV p hg0 eZ (by simp only [jM,hcg])
    ·rw [hpt]
     intro t ht
     rcases abB.1 ht with h | h
     ·exact hown t h
     ·simp [aa,bP n hcg] at h
    ·rw [tV p hg0 hn]
     simp only [bn]
     rw [ho1]
     simp only
     rw [hsub]
  | _=>simp [aI] at hg1
 cases v with
 | val k0 y Tg=>
  cases k0 with
  | st c=>
   simp only [zG] at h
   rcases ah h with ⟨hc,h⟩ | ⟨_,h⟩
   ·have ek:=K.eq_of_beq hc
    cases hg:aC n c y with
    | none=>rw [hg] at h; exact h.elim
    | some dd=>
     rw [hg] at h
     obtain ⟨g1,g2⟩:=fq h
     rw [az g2]
     obtain ⟨cs,hv,hV⟩:=h1 (.inr g1)
     obtain ⟨off,ho1,ho2⟩:=Dy n (show Vw _ _ c y cs from hV) hg
     obtain ⟨u,r1,r2⟩:=Ia ek.symm hv ho1 (jh (k:=c) hV) (Cm (k:=.st c) (by rw [ek]; exact ht.dV) hV)
     refine bB H hd hdn r1 (show bz cx σ α F w (.val dd.1 dd.2 _) u from fun _=>⟨_,r2, ?_⟩) ?_
     ·cases hf:dd.1.flat with
      | true=>exact gN hf ho2
      | false=>exact ho2
     ·cases hf:dd.1.flat with
      | true=>intro t ht; simp at ht
      | false=>exact h2
   ·exact h.elim
  | _=>exact h.elim
 | ref r g=>
  simp only [zG] at h
  obtain ⟨R,hr,hv,h⟩:=bU h
  rcases ah h with ⟨hc,h5⟩ | ⟨_,h⟩
  ·simp only [aby] at hc
   obtain ⟨hka,wC⟩:=h1 R hr (abw hc.1)
   have ek:=K.eq_of_beq hc.2
   cases hg:aI [.fu n] R.k R.x with
   | none=>rw [hg] at h5; exact h5.elim
   | some dd=>
    rw [hg] at h5
    simp only at h5
    obtain ⟨u,r1,r2,r3⟩:=key (p:=[]) (d0:=⟨R.k,R.x⟩) hr hv rfl ek hg trivial (fun t ht=>by simp [aa] at ht) rfl wC
    rcases ah h5 with ⟨hf,h6⟩ | ⟨_,h6⟩
    ·rw [az h6]
     exact bB H hd hdn r1 (r3 hf) (fun t ht=>by simp at ht)
    ·rw [az h6]
     exact bB (x:=.one (.mU r [.fu n] R.pR)) H hd hdn r1 r2 ⟨R,hr.1, .inr (abI _)⟩
  ·exact h.elim
 | mU r p nn=>
  simp only [zG] at h
  obtain ⟨R,hr,hv,h⟩:=bU h
  rcases ah h with ⟨hc,h5⟩ | ⟨_,h⟩
  ·cases hg0:aI p R.k R.x with
   | none=>rw [hg0] at h5; exact h5.elim
   | some d0=>
    cases hg:aI (p++[.fu n]) R.k R.x with
    | none=>rw [hg0,hg] at h5; exact h5.elim
    | some dd=>
     rw [hg0,hg] at h5
     simp only at h5
     rcases ah h5 with ⟨_,h6⟩ | ⟨hk,h6⟩
     ·exact h6.elim
     ·have ek:d0.1=kk:=K.eq_of_beq (by simpa using hk)
      obtain ⟨g1,g2,cs,wh,g3,g4⟩:=h1 R hr.1 hv (abw hc) d0 hg0
      obtain ⟨u,r1,r2,r3⟩:=key hr hv hg0 ek hg g1 g2 g3 g4
      rcases ah h6 with ⟨hf,h7⟩ | ⟨_,h7⟩
      ·rw [az h7]
       exact bB H hd hdn r1 (r3 hf) (fun t ht=>by simp at ht)
      ·rw [az h7]
       exact bB (x:=.one (.mU r (p++[.fu n]) R.pR)) H hd hdn r1 (show iK cx σ α F w (.one (.mU r (p++[.fu n]) R.pR)) u from r2) ⟨R,hr.1, .inr (abI _)⟩
  ·exact h.elim
 | _=>exact h.elim
theorem AR (hT:dO P T) (H:Rel cx σ α F a w) (hd:o.dst=some d) (hdn:d<cx.nt) {t:TypeId} {x:Operand} {n:Nat} (ho:o.op=.fieldAddr t x n)
  (h:(match T.ty t with
   | some kk=>dz x fun a=>oZ kk a n fun u=>.ret [Wr.s d (.one u)]
   | none=>(.fail:Prog (List Wr))).ends σ ws):lS P cx o a w (aj ws σ):=by
 split at h
 case h_2=>exact h.elim
 rename_i kk hty
 have ht:=hT.ty t kk hty
 obtain ⟨v,h1,h2,h⟩:=bI H h
 have hrun:∀{c:K} {off:Nat} {k:K} {b q:Nat},kk=.st c→aV n c=some (off,k)→a.eval x=.pointer (some ⟨b,q,none⟩)→(execOp a.eval o).run P w=.ok (.value (.pointer (some ⟨b,q+off,none⟩))) w:=by
  intro c off k b q ek hoff ev
  subst ek
  have:=EX (w:=w) ht hoff b q
  simp only [execOp,ho,ev,abR,this,abK,abW]
 cases v with
 | ptr r p m=>
  simp only [oZ,Prog.ends] at h
  cases hr0:σ.roots r with
  | none=>rw [hr0] at h; exact h.elim
  | some R=>
   rw [hr0] at h
   simp only at h
   cases hg:aI p R.k R.x with
   | none=>rw [hg] at h; exact h.elim
   | some d0=>
    rw [hg] at h
    simp only at h
    rcases ah h with ⟨hc,h5⟩ | ⟨_,h5⟩
    ·simp only [aby] at hc
     rw [az h5]
     unfold CJ at hc
     cases kk with
     | st c=>
      obtain ⟨off,kf,hoff⟩:=Cs n hc.2
      obtain ⟨⟨b,q,ev⟩,h1'⟩:=h1
      refine bB (x:=.one (.ptr r (p++[.fu n]) m)) H hd hdn (hrun rfl hoff ev) ⟨⟨b,q+off,rfl⟩, ?_⟩ h2
      intro R' hR' hv hcl hown hs
      rw [hr0] at hR'
      simp only [abr] at hR'
      subst hR'
      have hpt:=ug p (q:=[.fu n]) hg
      have e0:aa [.fu n] d0.1=[]:=by
       obtain ⟨dk,dx⟩:=d0
       cases dk with
       | st c'=>
        simp only [aa]
        cases aa.yl n c' <;> rfl
       | _=>rfl
      rw [e0,abV] at hpt
      have hcl':clean R.h m (fI p R.k)=true:=by
       unfold clean at hcl ⊢
       rw [abH] at hcl ⊢
       intro t ht
       have:=hcl t ht
       simp only [Bool.not_eq_true',aO] at this ⊢
       intro h6
       refine this ?_
       have e1:fI (p++[.fu n]) R.k=mI :: aa (p++[.fu n]) R.k:=by cases p <;> rfl
       rw [e1,hpt]
       cases p with
       | nil=>simp [fI] at h6
       | cons s p=>exact h6
      rw [hpt] at hown
      obtain ⟨g1,cs,b',q',g2,g3⟩:=h1' R hr0 hv hcl' hown (by rw [hg]; rfl)
      rw [ev] at g3
      simp only [Value.pointer.injEq,abr,Addr.mk.injEq,and_true] at g3
      obtain ⟨rfl,rfl⟩:=g3
      have hga:=xR p (q:=[.fu n]) hg
      rw [hga] at hs
      obtain ⟨dk,dx⟩:=d0
      cases dk with
      | st c'=>
       simp only [aI] at hs
       cases hcg:aC n c' dx with
       | none=>rw [hcg] at hs; simp at hs
       | some s=>
        have hck:(aa.yl n c').isSome=true:=by rw [bP n hcg]; rfl
        obtain ⟨off',kf',O6⟩:=Cs n hck
        have hl:c'.like c=true:=hc.1
        obtain ⟨kf2,Lg⟩:=LG n hl O6
        rw [hoff] at Lg
        simp only [abr,abD] at Lg
        refine ⟨uV p hg g1 (by simp only [jM,hcg]),(cs.drop off').take kf'.size,b,q+off, ?_,rfl⟩
        rw [tV p hg g2]
        simp only [bn]
        rw [O6]
        simp [Lg.1]
      | _=>simp [aI] at hs
     | _=>simp at hc
    ·exact h5.elim
 | gV bt k0 y Tg=>
  cases k0 with
  | st c=>
   simp only [oZ] at h
   rcases ah h with ⟨hc,h5⟩ | ⟨_,h5⟩
   ·have ek:=K.eq_of_beq hc
    cases hg:aC n c y with
    | none=>rw [hg] at h5; exact h5.elim
    | some dd=>
     rw [hg] at h5
     obtain ⟨g1,g2⟩:=fq h5
     rw [az g2]
     obtain ⟨b,q,cs,e,hcs,hV,hok,hb⟩:=h1.2 g1
     obtain ⟨off,ho1,ho2⟩:=Dy n (show Vw _ _ c y cs from hV) hg
     have hle:=zi n ho1
     have hlen:=jh (k:=c) hV
     refine bB (x:=.one (.gV bt dd.1 dd.2 Tg)) H hd hdn (hrun ek.symm ho1 e) ⟨⟨b,q+off,rfl⟩,fun _=>⟨b,q+off,_,rfl, ?_,ho2,hok,hb⟩⟩ h2
     intro i hi
     simp only [List.length_take,List.length_drop] at hi
     rw [Nat.add_assoc,hcs (off+i) (by omega)]
     rw [List.getElem?_take_of_lt (by omega),List.getElem?_drop]
   ·exact h5.elim
  | _=>exact h.elim
 | zo r g k0 p=>
  simp only [oZ] at h
  cases hk:BJ p k0 with
  | none=>rw [hk] at h; exact h.elim
  | some k1=>
   rw [hk] at h
   simp only at h
   rcases ah h with ⟨hc,h5⟩ | ⟨_,h5⟩
   ·simp only [aby] at hc
    rw [az h5]
    have ek:=K.eq_of_beq hc.1
    subst ek
    obtain ⟨u,b,off,k2,e,hq,hC,ho1,hR⟩:=h1
    have e2:=Jz p hk ho1
    subst e2
    unfold CJ at hc
    cases k2 with
    | st c=>
     obtain ⟨o2,kf,hoff⟩:=Cs n hc.2
     exact bB (x:=.one (.zo r g k0 (p++[.fu n]))) H hd hdn (hrun rfl hoff e) ⟨u,b,off+o2,kf,rfl,hq,hC,A7 p ho1 rfl hoff,hR⟩ h2
    | _=>simp at hc
   ·exact h5.elim
 | _=>exact h.elim
theorem run_indexAt {t e:TypeId} {k:K} (h:eP P T t (.sl e k)) {ik:IntKind} {i:Int} {b q n c:Nat} (h0:0≤i) (h1:i<(n:Int)) :
  (Instr.indexAt t (.slice (some ⟨b,q,none⟩) n c) (.int ik i)).run P w=.ok (.pointer (some ⟨b,q+i.toNat * k.size,none⟩)) w:=by
 obtain ⟨hu,he,_,_⟩:=h.sl
 unfold Instr.indexAt
 simp [asIntOf,run_underlying hu,Result.andThen,h0,h1,he.info.sizeOf w,addr_add]
end
end
section
open Go
variable [Fr]
section
variable {P:Program} {T:gL} {cx:Cx} {σ:St} {α:dA} {F:List Nat} {a:Act} {w:World} {o:Oper} {d:Nat} {ws:List Wr}
theorem vC {e:TypeId} {k:K} {v:Value} {cs:List Value} {h:Heap} {ok:Nat→Prop} {xs:List (El k)} (hv:VC (.sl e k) v cs) (hV:Vw h ok (.sl e k) xs cs) :
  ∃b n c,v=.slice b n c∧cs=[.slice b n c]∧n=xs.length∧n≤c∧(0<n→∃bb q,b=some ⟨bb,q,none⟩∧ok bb∧oW h bb e∧∀(i:Nat) (hi:i<xs.length),∃ds,Cells h bb (q+i * k.size) ds∧Vw h ok k xs[i] ds):=by
 obtain ⟨b,n,c,e1,e2,e3,e4⟩:=hV
 obtain ⟨e5,_⟩:cs=[v]∧_:=hv
 rw [e1] at e5
 simp only [List.cons.injEq,and_true] at e5
 exact ⟨b,n,c,e5.symm,e1,e2,e3,e4⟩
theorem AU (hT:dO P T) (H:Rel cx σ α F a w) (hd:o.dst=some d) (hdn:d<cx.nt) {t:TypeId} {x y:Operand} (ho:o.op=.indexAddr t x y)
  (h:(match T.ty t with
   | some kk=>dz x fun a=>dz y fun i=>asInt i fun _ i=>o9 kk a i fun u=>.ret [Wr.s d (.one u)]
   | none=>(.fail:Prog (List Wr))).ends σ ws):lS P cx o a w (aj ws σ):=by
 split at h
 case h_2=>exact h.elim
 rename_i k0 hty
 have ht:=hT.ty t k0 hty
 obtain ⟨v,h1,h2,h⟩:=bI H h
 obtain ⟨vi,h3,_,h⟩:=bI H h
 obtain ⟨ik,i,ei,_,h⟩:=qO h3 h
 have hrun:∀{e:TypeId} {k:K} {b q n c:Nat},k0=.sl e k→a.eval x=.slice (some ⟨b,q,none⟩) n c→0≤i→i<(n:Int)→(execOp a.eval o).run P w=.ok (.value (.pointer (some ⟨b,q+i.toNat * k.size,none⟩))) w:=by
  intro e k b q n c ek ev g0 g1
  subst ek
  have:=run_indexAt (w:=w) (ik:=ik) (b:=b) (q:=q) (c:=c) ht g0 g1
  simp only [execOp,ho,ev,ei,abR,this,abK,abW]
 have key:∀{r:Nat} {R:Root} {p:List Stp} {e:TypeId} {kk:K} {xs:List (El kk)} {cs:List Value} {wh:Option (Nat×Nat)},aM σ r R→bg σ R→aI p R.k R.x=some ⟨.sl e kk,xs⟩→K.sl e kk=k0→jM p R.k R.x→(∀t∈aa p R.k,aA t R.own=true)→
   bn (hp w) p R.k (α.hdr r) (dY α R r)=some (cs,wh)→VC (.sl e kk) (a.eval x) cs→aN i xs.length→
   ∃u,(execOp a.eval o).run P w=.ok (.value u) w∧bz cx σ α F w (.ptr r (p++[.idx i]) (fF R.h)) u∧bz cx σ α F w (.gV e kk (xs.getD i.toNat kk.zero) (R.out r (.sl e kk))) u:=by
  intro r R p e kk xs cs wh hr hv hg ek eZ hown hn wC hin
  obtain ⟨eX,hO,hf⟩:=oC H hr hv hg eZ hown hn
  have hV:=ku H hr hO hf
  obtain ⟨b,n,c,g1,g2,g3,g4,g5⟩:=vC wC hV
  have i0:(0:Int)≤i:=hin.1
  have i1:i<(xs.length:Int):=hin.2
  have hlt:i.toNat<xs.length:=by omega
  obtain ⟨bb,q,rfl,hok,hel,hes⟩:=g5 (by rw [g3]; exact Nat.lt_of_le_of_lt (ab0 _) hlt)
  obtain ⟨ds,hc,XR⟩:=hes i.toNat hlt
  refine ⟨_,hrun ek.symm g1 i0 (by rw [g3]; exact i1),⟨⟨bb,q+i.toNat * kk.size,rfl⟩, ?_⟩,⟨⟨bb,q+i.toNat * kk.size,rfl⟩,fun _=>⟨bb,_,ds,rfl,hc, ?_,hok.q, .inr ⟨hel,hok.2.2.1⟩⟩⟩⟩
  ·intro R' hR' _ _ _ _
   rw [hr.1] at hR'
   simp only [abr] at hR'
   subst hR'
   refine ⟨uV p hg eZ ⟨i0,i1,trivial⟩,kW (hp w) bb (q+i.toNat * kk.size) kk.size,bb,q+i.toNat * kk.size, ?_,rfl⟩
   rw [tV p hg hn,g2]
   rfl
  ·rw [bR hlt]
   exact XR
 cases v with
 | val k1 y Tg=>
  cases k1 with
  | sl e kk=>
   simp only [o9] at h
   rcases ah h with ⟨hc,h5⟩ | ⟨_,h5⟩
   ·have ek:=K.eq_of_beq hc
    obtain ⟨g1,g2⟩:=fq h5
    obtain ⟨hin,g3⟩:=g2
    rw [az g3]
    obtain ⟨cs,wC,hV⟩:=h1 (.inr g1)
    obtain ⟨b,n,c,f1,f2,f3,f4,f5⟩:=vC wC hV
    obtain ⟨i0,i1⟩:=hin
    have hlt:i.toNat < @List.length (El kk) y:=by
     have Zq:i<((@List.length (El kk) y:Nat):Int):=i1
     omega
    obtain ⟨bb,q,rfl,hok,hel,hes⟩:=f5 (by omega)
    obtain ⟨ds,hcs,XR⟩:=hes i.toNat hlt
    refine bB (x:=.one (.gV e kk _ Tg)) H hd hdn (hrun ek.symm f1 i0 (by rw [f3]; exact i1)) ⟨⟨bb,_,rfl⟩,fun _=>⟨bb,_,ds,rfl,hcs, ?_,hok.q, .inr ⟨hel,hok.2.2.1⟩⟩⟩ h2
    have eg:(show List (El kk) from y).getD i.toNat kk.zero=(show List (El kk) from y)[i.toNat]'hlt:=bR hlt
    rw [eg]
    exact XR
   ·exact h5.elim
  | _=>exact h.elim
 | ref r g=>
  simp only [o9] at h
  obtain ⟨R,hr,hv,h⟩:=bU h
  rcases ah h with ⟨hc,h5⟩ | ⟨_,h5⟩
  ·obtain ⟨hka,wC⟩:=h1 R hr (abw hc)
   have hg:aI [] R.k R.x=some ⟨R.k,R.x⟩:=rfl
   have hK:∀(q:Dat),aI [] R.k R.x=some q→∀hh:(match q.1,q.2 with
     | .sl e kk,xs=>bif aA e R.own && (K.sl e kk).beq k0 then Prog.nY (aN i (show List (El kk) from xs).length) inferInstance ((.ret [Wr.s d (.one (.ptr r [.idx i] (fF R.h)))]):Prog (List Wr)) else Prog.fail
     | _,_=>Prog.fail).ends σ ws,VC q.1 (a.eval x) (α.hdr r)→lS P cx o a w (aj ws σ):=by
    intro q hq hh wC
    obtain ⟨qk,qx⟩:=q
    cases qk with
    | sl e kk=>
     simp only at hh
     rcases ah hh with ⟨hc2,h6⟩ | ⟨_,h6⟩
     ·simp only [aby] at hc2
      obtain ⟨hin,h7⟩:=h6
      rw [az h7]
      obtain ⟨u,r1,r2,_⟩:=key (p:=[]) hr hv hq (K.eq_of_beq hc2.2) trivial (fun t ht=>by simp [aa] at ht) rfl wC hin
      exact bB (x:=.one (.ptr r [.idx i] (fF R.h))) H hd hdn r1 r2 ⟨R,hr.1, .inr (abI _)⟩
     ·exact h6.elim
    | _=>exact hh.elim
   exact hK ⟨R.k,R.x⟩ hg h5 wC
  ·exact h5.elim
 | mU r p nn=>
  simp only [o9] at h
  obtain ⟨R,hr,hv,h⟩:=bU h
  rcases ah h with ⟨hc,h5⟩ | ⟨_,h5⟩
  ·cases hg0:aI p R.k R.x with
   | none=>rw [hg0] at h5; exact h5.elim
   | some d0=>
    rw [hg0] at h5
    obtain ⟨g1,g2,cs,wh,g3,g4⟩:=h1 R hr.1 hv (abw hc) d0 hg0
    obtain ⟨dk,dx⟩:=d0
    cases dk with
    | sl e kk=>
     simp only at h5
     rcases ah h5 with ⟨_,h6⟩ | ⟨hk,h6⟩
     ·exact h6.elim
     ·have ek:K.sl e kk=k0:=K.eq_of_beq (by simpa using hk)
      rcases ah h6 with ⟨_,h7⟩ | ⟨_,h7⟩
      ·obtain ⟨hin,h8⟩:=h7
       rw [az h8]
       obtain ⟨u,r1,r2,_⟩:=key hr hv hg0 ek g1 g2 g3 g4 hin
       exact bB (x:=.one (.ptr r (p++[.idx i]) (fF R.h))) H hd hdn r1 (show iK cx σ α F w (.one (.ptr r (p++[.idx i]) (fF R.h))) u from r2) ⟨R,hr.1, .inr (abI _)⟩
      ·obtain ⟨hin,h8⟩:=h7
       rw [az h8]
       obtain ⟨u,r1,_,r3⟩:=key hr hv hg0 ek g1 g2 g3 g4 hin
       exact bB H hd hdn r1 (show iK cx σ α F w (.one (.gV e kk _ (R.out r (.sl e kk)))) u from r3) (BP H hr _)
    | _=>exact h5.elim
  ·exact h5.elim
 | _=>exact h.elim
theorem Cq (B:ByteArray) {n:Nat} (h:n<B.size):(bytesOf B).getD n 0=(B[n].toNat:Int):=by
 unfold bytesOf
 have:n<(B.data.toList.map fun b=>(b.toNat:Int)).length:=by simpa using h
 rw [bR this]
 simp
 rfl
theorem iR (B:ByteArray):(bytesOf B).length=B.size:=by simp [bytesOf]
theorem Jd (hT:dO P T) (H:Rel cx σ α F a w) (hd:o.dst=some d) (hdn:d<cx.nt) {t:TypeId} {x y:Operand} (ho:o.op=.index t x y)
  (h:(dz x fun a=>dz y fun i=>asInt i fun _ i=>match T.ty t,a with
   | some .str, .val .str s _=>.nY (aN i (show List Int from s).length) inferInstance (.ret [Wr.s d (.one (.val (.int .u8) ((show List Int from s).getD i.toNat 0) []))])
   | _,_=>(.fail:Prog (List Wr))).ends σ ws):lS P cx o a w (aj ws σ):=by
 obtain ⟨v,h1,h2,h⟩:=bI H h
 obtain ⟨vi,h3,_,h⟩:=bI H h
 obtain ⟨ik,i,ei,_,h⟩:=qO h3 h
 cases hty:T.ty t with
 | none=>rw [hty] at h; exact h.elim
 | some k0=>
  rw [hty] at h
  cases k0 with
  | str=>
   cases v with
   | val k1 s Tg=>
    cases k1 with
    | str=>
     simp only at h
     obtain ⟨⟨i0,i1⟩,h4⟩:=h
     rw [az h4]
     obtain ⟨B,e1,e2⟩:=qp h1
     subst e2
     have hu:P.underlying t=some .string:=by
      have:=hT.ty t .str hty
      unfold eP iC at this
      exact this.1
     have hlt:i.toNat<B.size:=by
      have Zq:i<((bytesOf B).length:Int):=i1
      rw [iR] at Zq
      omega
     refine bB (v:=.int .u8 (B[i.toNat].toNat:Int)) H hd hdn ?_ ?_ (fun t ht=>by simp at ht)
     ·simp only [execOp,ho,e1,ei,Instr.index,asIntOf,abR,abW,abK,run_underlying hu]
      rw [if_pos i0]
      simp [hlt]
     ·have eg:(show List Int from bytesOf B).getD i.toNat 0=(B[i.toNat].toNat:Int):=Cq B hlt
      rw [eg]
      refine Gp ⟨by omega, ?_⟩
      have:=B[i.toNat].toNat_lt
      omega
    | _=>exact h.elim
   | _=>exact h.elim
  | _=>cases v <;> exact h.elim
theorem Gm {l:List AV} {vs:List Value} (h:dJ cx σ α F w l vs) {i:Nat} {x:AV} (hi:l[i]?=some x):∃v,vs[i]?=some v∧bz cx σ α F w x v:=by
 induction l generalizing vs i with
 | nil=>simp at hi
 | cons b l ih=>
  cases vs with
  | nil=>exact h.elim
  | cons u vs=>
   cases i with
   | zero=>simp only [List.getElem?_cons_zero,abr] at hi; subst hi; exact ⟨u,rfl,h.1⟩
   | succ i=>simp only [List.getElem?_cons_succ] at hi; obtain ⟨v,h1,h2⟩:=ih h.2 hi; exact ⟨v,by simpa using h1,h2⟩
theorem DY (H:Rel cx σ α F a w) (hd:o.dst=some d) (hdn:d<cx.nt) {x:Operand} {i:Nat} (ho:o.op=.extract x i)
  (h:(nS x fun
   | .Cb l=>match l[i]? with
    | some u=>.ret [Wr.s d (.one u)]
    | none=>.fail
   | _=>(.fail:Prog (List Wr))).ends σ ws):lS P cx o a w (aj ws σ):=by
 obtain ⟨v,h1,h2,h⟩:=mX H h
 cases v with
 | one u=>exact h.elim
 | lit _ _ _=>exact h.elim
 | Cb l=>
  simp only at h
  cases hi:l[i]? with
  | none=>rw [hi] at h; exact h.elim
  | some u=>
   rw [hi] at h
   rw [az h]
   obtain ⟨vs,e1,e2⟩:=h1
   obtain ⟨v,g1,g2⟩:=Gm e2 hi
   refine bB (x:=.one u) (v:=v) H hd hdn ?_ g2 (h2 u (List.mem_of_getElem? hi))
   simp [execOp,ho,e1,Instr.extract,g1]
end
end
section
open Go
variable [Fr]
theorem jP (ik:IntKind) (n:Int):Al ik (ik.wrap n):=by
 cases ik <;> simp only [Al]
 simp only [IntKind.wrap,IntKind.bits,IntKind.signed]
 simp
 omega
section
variable {P:Program} {cx:Cx} {σ:St} {α:dA} {F:List Nat} {a:Act} {w:World} {o:Oper} {d:Nat} {ws:List Wr}
theorem kF (ik:IntKind) {n:Int} (h:Al ik n):iK cx σ α F w (v1 (.int ik) n) (.int ik n):=Gp h
theorem gW (b:Bool):iK cx σ α F w (v1 .bool b) (.bool b):=NV
theorem sJ {k:K} {x:El k}:rF σ (v1 k x):=fun t ht=>by simp at ht
theorem Jw {op:BinOp} {ik:IntKind} {x y:Int} {z:List Wr} (hx:Al ik x) (hy:Al ik y) (ht:TypeId) {k:qH→Prog (List Wr)} (hk:∀v,k v=.ret [Wr.s d v]) (h:(Ic op ik x y k).ends σ z) :
  ∃kk y',(∃v,(Go.binOp op ht (.int ik x) (.int ik y)).run P w=.ok v w∧iK cx σ α F w (v1 kk y') v)∧z=[Wr.s d (v1 kk y')]:=by
 unfold Ic at h
 cases op <;> simp only [hk] at h
 case add=>exact ⟨.int ik,_,⟨_,by simp [Go.binOp,Op.intArith],kF ik (jP ik _)⟩,az h⟩
 case sub=>exact ⟨.int ik,_,⟨_,by simp [Go.binOp,Op.intArith],kF ik (jP ik _)⟩,az h⟩
 case mul=>exact ⟨.int ik,_,⟨_,by simp [Go.binOp,Op.intArith],kF ik (jP ik _)⟩,az h⟩
 case quo=>
  obtain ⟨h0,h⟩:=h
  exact ⟨.int ik,_,⟨_,by simp [Go.binOp,Op.intDiv,h0],kF ik (jP ik _)⟩,az h⟩
 case rem=>
  obtain ⟨h0,h⟩:=h
  refine ⟨.int ik,_,⟨_,by simp [Go.binOp,Op.intDiv,h0],kF ik ?_⟩,az h⟩
  cases ik <;> simp only [Al] at hx hy ⊢
  have h1:=Int.tmod_nonneg y hx.1
  have h2:x.tmod y<y:=by
   rw [Int.tmod_eq_emod_of_nonneg hx.1]
   exact Int.emod_lt_of_pos x (by omega)
  omega
 case and=>exact ⟨.int ik,_,⟨_,by simp [Go.binOp,Op.intBits],kF ik (jP ik _)⟩,az h⟩
 case or=>exact ⟨.int ik,_,⟨_,by simp [Go.binOp,Op.intBits],kF ik (jP ik _)⟩,az h⟩
 case xor=>exact ⟨.int ik,_,⟨_,by simp [Go.binOp,Op.intBits],kF ik (jP ik _)⟩,az h⟩
 case andNot=>exact ⟨.int ik,_,⟨_,by simp [Go.binOp,Op.intBits],kF ik (jP ik _)⟩,az h⟩
 case eql=>exact ⟨.bool,_,⟨.bool (decide (x=y)),by simp only [Go.binOp,ne_eq,not_true_eq_false, ↓reduceIte]; rfl,gW _⟩,az h⟩
 case neq=>exact ⟨.bool,_,⟨.bool (!decide (x=y)),by simp only [Go.binOp,ne_eq,not_true_eq_false, ↓reduceIte]; rfl,gW _⟩,az h⟩
 case lss=>exact ⟨.bool,_,⟨_,by simp [Go.binOp,Op.intCmp],gW _⟩,az h⟩
 case leq=>exact ⟨.bool,_,⟨_,by simp [Go.binOp,Op.intCmp],gW _⟩,az h⟩
 case gtr=>exact ⟨.bool,_,⟨_,by simp [Go.binOp,Op.intCmp],gW _⟩,az h⟩
 case geq=>exact ⟨.bool,_,⟨_,by simp [Go.binOp,Op.intCmp],gW _⟩,az h⟩
 all_goals exact h.elim
theorem LF:∀(x y:List UInt8),sw (x.map fun b=>(b.toNat:Int)) (y.map fun b=>(b.toNat:Int))=Op.bytesLess x y:=by
 intro x
 induction x with
 | nil=>intro y; cases y <;> rfl
 | cons a x ih=>
  intro y
  cases y with
  | nil=>rfl
  | cons b y=>
   simp only [List.map_cons,sw,Op.bytesLess,ih]
   have h1:decide ((a.toNat:Int)<(b.toNat:Int))=decide (a<b):=by
    apply decide_eq_decide.2
    rw [UInt8.lt_iff_toNat_lt]
    omega
   have h2:decide ((a.toNat:Int)=(b.toNat:Int))=(a == b):=by
    rw [show (a == b)=decide (a=b) from rfl]
    apply decide_eq_decide.2
    rw [←UInt8.toNat_inj]
    omega
   rw [h1,h2]
theorem ED:∀{x y:List UInt8},x.map (fun b=>(b.toNat:Int))=y.map (fun b=>(b.toNat:Int))↔x=y:=by
 intro x
 induction x with
 | nil=>intro y; cases y <;> simp
 | cons a x ih=>
  intro y
  cases y with
  | nil=>simp
  | cons b y=>
   simp only [List.map_cons,List.cons.injEq,ih]
   have:(a.toNat:Int)=(b.toNat:Int)↔a=b:=by rw [←UInt8.toNat_inj]; omega
   rw [this]
theorem DL {A B:ByteArray}:bytesOf A=bytesOf B↔A.toList=B.toList:=by
 unfold bytesOf
 rw [ED,ByteArray.toList_eq,ByteArray.toList_eq]
theorem rG {A B:ByteArray}:(A.toList == B.toList)=decide (bytesOf A=bytesOf B):=by
 rw [show (A.toList == B.toList)=decide (A.toList=B.toList) from by
  cases h:(A.toList == B.toList) with
  | true=>simp [eq_of_beq h]
  | false=>simp [ne_of_beq_false h]]
 exact decide_eq_decide.2 DL.symm
theorem oo {A B:ByteArray}:Op.bytesLess A.toList B.toList=sw (bytesOf A) (bytesOf B):=by
 unfold bytesOf
 rw [LF,ByteArray.toList_eq,ByteArray.toList_eq]
theorem ze (A B:ByteArray):bytesOf (A++B)=bytesOf A++bytesOf B:=by
 unfold bytesOf
 rw [←List.map_append]
 congr 1
theorem JV {op:BinOp} {A B:ByteArray} {z:List Wr} (ht:TypeId) {k:qH→Prog (List Wr)} (hk:∀v,k v=.ret [Wr.s d v]) (h:(Mt op (bytesOf A) (bytesOf B) k).ends σ z) :
  ∃kk y',(∃v,(Go.binOp op ht (.string A) (.string B)).run P w=.ok v w∧iK cx σ α F w (v1 kk y') v)∧z=[Wr.s d (v1 kk y')]:=by
 unfold Mt at h
 cases op <;> simp only [hk] at h
 case add=>
  obtain ⟨h0,h⟩:=h
  rw [iR,iR] at h0
  refine ⟨.str,bytesOf A++bytesOf B,⟨.string (A++B), ?_, ?_⟩,az h⟩
  ·have:¬(((A.size+B.size:Nat):Int)>IntKind.i64.max):=by
    simp only [IntKind.max,IntKind.signed,IntKind.bits]
    simp
    omega
   simp only [Go.binOp,Op.stringOp]
   rw [if_neg this]
   rfl
  ·rw [←ze]; exact Gq
 case eql=>exact ⟨.bool,_,⟨.bool (decide (bytesOf A=bytesOf B)),by simp only [Go.binOp,Op.stringOp]; rw [rG]; rfl,gW _⟩,az h⟩
 case neq=>exact ⟨.bool,_,⟨.bool (!decide (bytesOf A=bytesOf B)),by simp only [Go.binOp,Op.stringOp]; rw [rG]; rfl,gW _⟩,az h⟩
 case lss=>exact ⟨.bool,_,⟨.bool (sw (bytesOf A) (bytesOf B)),by simp only [Go.binOp,Op.stringOp]; rw [oo]; rfl,gW _⟩,az h⟩
 case leq=>exact ⟨.bool,_,⟨.bool (sw (bytesOf A) (bytesOf B) || decide (bytesOf A=bytesOf B)),by simp only [Go.binOp,Op.stringOp]; rw [oo,rG]; rfl,gW _⟩,az h⟩
 case gtr=>exact ⟨.bool,_,⟨.bool (!(sw (bytesOf A) (bytesOf B) || decide (bytesOf A=bytesOf B))),by simp only [Go.binOp,Op.stringOp]; rw [oo,rG]; rfl,gW _⟩,az h⟩
 case geq=>exact ⟨.bool,_,⟨.bool (!sw (bytesOf A) (bytesOf B)),by simp only [Go.binOp,Op.stringOp]; rw [oo]; rfl,gW _⟩,az h⟩
 all_goals exact h.elim
theorem KL (H:Rel cx σ α F a w) (hd:o.dst=some d) (hdn:d<cx.nt) {t:TypeId} {x:Operand} {op:UnOp} (ho:o.op=.unOp op t x)
  (h:(dz x fun a=>YV op a fun v=>(.ret [Wr.s d v]:Prog (List Wr))).ends σ ws):lS P cx o a w (aj ws σ):=by
 obtain ⟨v,h1,h2,h⟩:=bI H h
 unfold YV at h
 split at h
 ·obtain ⟨e1,e2⟩:=qo h1
  rw [az h]
  exact bB H hd hdn (by simp [execOp,ho,e1,Op.unary,Op.intArith]) (kF _ (jP _ _)) sJ
 ·obtain ⟨e1,e2⟩:=qo h1
  rw [az h]
  exact bB H hd hdn (by simp [execOp,ho,e1,Op.unary,Op.intBits]) (kF _ (jP _ _)) sJ
 ·have e1:=qZ h1
  rw [az h]
  exact bB H hd hdn (by simp [execOp,ho,e1,Op.unary]) (gW _) sJ
 ·exact h.elim
end
end
section
open Go
variable [Fr]
section
variable {P:Program} {T:gL} {cx:Cx} {σ:St} {α:dA} {F:List Nat} {a:Act} {w:World} {o:Oper} {d:Nat} {ws:List Wr}
theorem sF {op:BinOp} {t:TypeId} {x y:Operand} {u v:Value} (h:(∀c,u≠.agg c)∧u≠.nilIface):(eqGuard op t x y u v).run P w=.ok () w:=by
 unfold eqGuard
 cases op <;> simp only [abT,ab4,abv, ↓reduceIte] <;> first | rfl | skip
 all_goals (cases u <;> first | rfl | exact absurd rfl (h.1 _) | exact absurd rfl h.2)
theorem rW:∃n,Op.maxDepth=n+1:=⟨Op.maxDepth - 1,by unfold Op.maxDepth; rfl⟩
theorem run_equal_bool {t:TypeId} (h:P.underlying t=some .bool) (x y:Bool):(Op.equal t (.bool x) (.bool y)).run P w=.ok (x == y) w:=by
 obtain ⟨n,e⟩:=rW
 unfold Op.equal
 rw [e]
 simp [Op.equalIn,run_underlying h]
theorem uR {t e:TypeId} (h:P.underlying t=some (.pointer e)) {u v:Option Addr} (hn:u=none∨v=none):(Op.equal t (.pointer u) (.pointer v)).run P w=.ok (u.isNone && v.isNone) w:=by
 obtain ⟨n,e⟩:=rW
 unfold Op.equal
 rw [e]
 rcases hn with rfl | rfl
 ·simp [Op.equalIn,run_underlying h]
 ·cases u <;> simp [Op.equalIn,run_underlying h]
theorem JK {x y:AV} {u v:Value} {b:Bool} (hx:bz cx σ α F w x u) (hy:bz cx σ α F w y v) (h:EG x y=some b):∃p q,u=.pointer p∧v=.pointer q∧(p=none∨q=none)∧(p.isNone && q.isNone)=b:=by
 unfold EG at h
 split at h <;> simp only [abr,reduceCtorEq] at h <;> subst h
 ·exact ⟨none,none,hx,hy, .inl rfl,rfl⟩
 ·obtain ⟨b,q,e⟩:=hy.1; exact ⟨none,_,hx,e, .inl rfl,rfl⟩
 ·obtain ⟨b,q,e⟩:=hx.1; exact ⟨_,none,e,hy, .inr rfl,rfl⟩
 ·obtain ⟨b,q,e⟩:=hy.1; exact ⟨none,_,hx,e, .inl rfl,rfl⟩
 ·obtain ⟨b,q,e⟩:=hx.1; exact ⟨_,none,e,hy, .inr rfl,rfl⟩
def AO (P:Program) (T:gL):Prop:=∀(t:TypeId) (c:K) (x y:El c) (u v:Array Value) (w:World) (hp1 hp2:Heap) (ok1 Zt:Nat→Prop),T.ty t=some (.st c)→T.eq t=true→c.flat=true→
 Vw hp1 ok1 c x u.toList→Vw hp2 Zt c y v.toList→(Op.equal t (.agg u) (.agg v)).run P w=.ok (rP c x y) w∧∀x y op,(eqGuard op t x y (.agg u) (.agg v)).run P w=.ok () w
theorem FI {A:Type} {z:A} {t:TypeId} {op:BinOp} {u v:AV} {k:qH→Prog A} (h:(DJ T t op u v k).ends σ z) :
  (∃ik x T1 jk y T2,u=.val (.int ik) x T1∧v=.val (.int jk) y T2)∨(∃x T1 y T2,u=.val .bool x T1∧v=.val .bool y T2)∨(∃x T1 y T2,u=.val .str x T1∧v=.val .str y T2)∨
  (∃c x T1 e y T2,u=.val (.st c) x T1∧v=.val (.st e) y T2)∨(T.ptr t=true∧∃b,EG u v=some b∧((op=.eql∧(k (v1 .bool b)).ends σ z)∨(op=.neq∧(k (v1 .bool (!b))).ends σ z))):=by
 unfold DJ at h
 split at h
 ·exact .inl ⟨_,_,_,_,_,_,rfl,rfl⟩
 ·exact .inr (.inl ⟨_,_,_,_,rfl,rfl⟩)
 ·exact .inr (.inr (.inl ⟨_,_,_,_,rfl,rfl⟩))
 ·exact .inr (.inr (.inr (.inl ⟨_,_,_,_,_,_,rfl,rfl⟩)))
 ·rcases ah h with ⟨hp,h5⟩ | ⟨_,h5⟩
  ·cases hn:EG u v with
   | none=>rw [hn] at h5; exact h5.elim
   | some b=>
    rw [hn] at h5
    cases op with
    | eql=>exact .inr (.inr (.inr (.inr ⟨hp,b,rfl, .inl ⟨rfl,h5⟩⟩)))
    | neq=>exact .inr (.inr (.inr (.inr ⟨hp,b,rfl, .inr ⟨rfl,h5⟩⟩)))
    | _=>exact h5.elim
  ·exact h5.elim
theorem Bf {t e:TypeId} (h:P.underlying t=some (.slice e)) (p:Option Addr) (n c:Nat):(Go.binOp .eql t (.slice p n c) (.slice none 0 0)).run P w=.ok (.bool p.isNone) w:=by
 obtain ⟨m,em⟩:=rW
 have:(Op.equal t (.slice p n c) (.slice none 0 0)).run P w=.ok p.isNone w:=by
  unfold Op.equal
  rw [em]
  cases p <;> simp [Op.equalIn,run_underlying h]
 simp only [Go.binOp]
 simp [this,Result.andThen]
theorem FY (hT:dO P T) (hSt:AO P T) (H:Rel cx σ α F a w) (hd:o.dst=some d) (hdn:d<cx.nt) {t t2:TypeId} {x y:Operand} {op:BinOp} (ho:o.op=.binOp op t x y t2)
  (h:(dz x fun a=>dz y fun b=>DJ T t op a b fun v=>(.ret [Wr.s d v]:Prog (List Wr))).ends σ ws):lS P cx o a w (aj ws σ):=by
 obtain ⟨u,h1,hu1,h5⟩:=bI H h
 obtain ⟨v,h3,hu3,h6⟩:=bI H h5
 clear h h5
 have h:=h6
 clear h6
 have hrun:∀{z:Value},((∀c,a.eval x≠.agg c)∧a.eval x≠.nilIface)→(Go.binOp op t (a.eval x) (a.eval y)).run P w=.ok z w→(execOp a.eval o).run P w=.ok (.value z) w:=by
  intro z hz h
  have hg:=sF (P:=P) (w:=w) (op:=op) (t:=t) (x:=x) (y:=y) (v:=a.eval y) hz
  simp only [execOp,ho,abR,hg,h,abK,abW]
 rcases FI h with ⟨ik,x1,T1,jk,y1,T2,rfl,rfl⟩ | ⟨x1,T1,y1,T2,rfl,rfl⟩ | ⟨x1,T1,y1,T2,rfl,rfl⟩ | ⟨c,x1,T1,dd,y1,T2,rfl,rfl⟩ | ⟨hp,b,hne,hop⟩
 ·obtain ⟨e1,r1⟩:=qo h1
  obtain ⟨e2,r2⟩:=qo h3
  have hag:(∀c,a.eval x≠.agg c)∧a.eval x≠.nilIface:=by rw [e1]; simp
  have hplain:(bif su ik jk then Ic op ik x1 y1 fun v=>(.ret [Wr.s d v]:Prog (List Wr)) else .fail).ends σ ws→lS P cx o a w (aj ws σ):=by
   intro h
   rcases ah h with ⟨hik,h⟩ | ⟨_,h⟩
   ·have:=tC hik
    subst this
    obtain ⟨kk,y',⟨z,g1,g2⟩,g3⟩:=Jw (P:=P) (cx:=cx) (σ:=σ) (α:=α) (F:=F) (w:=w) (d:=d) r1 r2 t (fun v=>rfl) h
    rw [g3]
    exact bB H hd hdn (hrun hag (by rw [e1,e2]; exact g1)) g2 sJ
   ·exact h.elim
  cases op with
  | shl=>
   obtain ⟨h0,h⟩:=h
   rw [az h]
   refine bB H hd hdn (hrun hag (z:=.int ik (ik.wrap (x1 * 2 ^ min y1.toNat ik.bits))) ?_) (kF ik (jP _ _)) sJ
   rw [e1,e2]
   simp only [Go.binOp,Op.shift]
   rw [if_neg (Int.not_lt.2 h0)]
   rfl
  | shr=>
   obtain ⟨h0,h⟩:=h
   rw [az h]
   refine bB H hd hdn (hrun hag (z:=.int ik (x1.fdiv (2 ^ min y1.toNat ik.bits))) ?_) (kF ik ?_) sJ
   ·rw [e1,e2]
    simp only [Go.binOp,Op.shift]
    rw [if_neg (Int.not_lt.2 h0)]
    rfl
   ·cases ik <;> simp only [Al] at r1 ⊢
    have hp:(0:Int)<2 ^ min y1.toNat IntKind.u8.bits:=Int.pow_pos (by omega)
    have g1:0≤x1.fdiv (2 ^ min y1.toNat IntKind.u8.bits):=Int.fdiv_nonneg r1.1 (Int.le_of_lt hp)
    have g2:x1.fdiv (2 ^ min y1.toNat IntKind.u8.bits)≤x1:=by
     rw [Int.fdiv_eq_ediv_of_nonneg _ (Int.le_of_lt hp)]
     exact Int.ediv_le_self _ r1.1
    omega
  | _=>exact hplain h
 ·have e1:=qZ h1
  have e2:=qZ h3
  have hag:(∀c,a.eval x≠.agg c)∧a.eval x≠.nilIface:=by rw [e1]; simp
  have hub:T.ty t=some .bool→P.underlying t=some .bool:=fun hty=>by
   have:=hT.ty t .bool hty
   unfold eP iC at this
   exact this.1
  cases hty:T.ty t with
  | none=>simp only [DJ,hty] at h; exact h.elim
  | some k0=>
   cases k0 with
   | bool=>
    have hu:=hub hty
    simp only [DJ,hty] at h
    cases op with
    | eql=>
     rw [az h]
     refine bB H hd hdn (hrun hag (z:=.bool (x1 == y1)) ?_) (gW _) sJ
     rw [e1,e2]
     simp only [Go.binOp,abR,run_equal_bool hu,abK,abW]
    | neq=>
     rw [az h]
     refine bB H hd hdn (hrun hag (z:=.bool (!(x1 == y1))) ?_) (gW _) sJ
     rw [e1,e2]
     simp only [Go.binOp,abR,run_equal_bool hu,abK,abW]
    | _=>exact h.elim
   | _=>simp only [DJ,hty] at h; exact h.elim
 ·obtain ⟨A,e1,f1⟩:=qp h1
  obtain ⟨B,e2,f2⟩:=qp h3
  subst f1
  subst f2
  have hag:(∀c,a.eval x≠.agg c)∧a.eval x≠.nilIface:=by rw [e1]; simp
  obtain ⟨kk,y',⟨z,g1,g2⟩,g3⟩:=JV (P:=P) (cx:=cx) (σ:=σ) (α:=α) (F:=F) (w:=w) (d:=d) t (fun v=>rfl) h
  rw [g3]
  exact bB H hd hdn (hrun hag (by rw [e1,e2]; exact g1)) g2 sJ
 ·simp only [DJ] at h
  cases hck:bL (.st dd) (.st c) y1 with
  | none=>rw [hck] at h; exact h.elim
  | some y2=>
   rw [hck] at h
   obtain ⟨ek,ey⟩:=bF hck
   simp only [K.st.injEq] at ek
   subst ek
   simp only at ey
   subst ey
   simp only at h
   rcases ah h with ⟨hc,h5⟩ | ⟨_,h5⟩
   ·simp only [aby] at hc
    have hty:T.ty t=some (.st dd):=by
     have h2:=hc.2
     cases ht:T.ty t with
     | none=>rw [ht] at h2; simp at h2
     | some kk=>rw [ht] at h2; rw [K.eq_of_beq h2]
    obtain ⟨cs1,e1,V1⟩:=h1 (.inl hc.1.1)
    obtain ⟨cs2,e2,V2⟩:=h3 (.inl hc.1.1)
    have XB:a.eval x=.agg cs1.toArray:=e1
    have e2':a.eval y=.agg cs2.toArray:=e2
    obtain ⟨r1,r2⟩:=hSt t dd x1 y2 cs1.toArray cs2.toArray w _ _ _ _ hty hc.1.2 hc.1.1 (show Vw _ _ dd x1 cs1 from V1) (show Vw _ _ dd y2 cs2 from V2)
    have BH:∀{z:Value},(Go.binOp op t (a.eval x) (a.eval y)).run P w=.ok z w→(execOp a.eval o).run P w=.ok (.value z) w:=by
     intro z h
     have hg:=r2 x y op
     rw [←XB, ←e2'] at hg
     simp only [execOp,ho,abR,hg,h,abK,abW]
    cases op with
    | eql=>
     rw [az h5]
     refine bB H hd hdn (BH (z:=.bool (rP dd x1 y2)) ?_) (gW _) sJ
     rw [XB,e2']
     simp only [Go.binOp,abR,r1,abK,abW]
    | neq=>
     rw [az h5]
     refine bB H hd hdn (BH (z:=.bool (!rP dd x1 y2)) ?_) (gW _) sJ
     rw [XB,e2']
     simp only [Go.binOp,abR,r1,abK,abW]
    | _=>exact h5.elim
   ·exact h5.elim
 ·obtain ⟨e,hu⟩:=hT.ptr t hp
  obtain ⟨p,q,e1,e2,hn,hb⟩:=JK h1 h3 hne
  have hag:(∀c,a.eval x≠.agg c)∧a.eval x≠.nilIface:=by rw [e1]; simp
  rcases hop with ⟨rfl,h5⟩ | ⟨rfl,h5⟩
  ·rw [az h5]
   refine bB H hd hdn (hrun hag (z:=.bool b) ?_) (gW _) sJ
   rw [e1,e2]
   simp only [Go.binOp,abR,uR hu hn,hb,abK,abW]
  ·rw [az h5]
   refine bB H hd hdn (hrun hag (z:=.bool (!b)) ?_) (gW _) sJ
   rw [e1,e2]
   simp only [Go.binOp,abR,uR hu hn,hb,abK,abW]
theorem I8 (hT:dO P T) (hSt:AO P T) (H:Rel cx σ α F a w) (hd:o.dst=some d) (hdn:d<cx.nt) {t t2:TypeId} {x y:Operand} {op:BinOp} (ho:o.op=.binOp op t x y t2)
  (h:(FH T t op x y fun v=>(.ret [Wr.s d v]:Prog (List Wr))).ends σ ws):lS P cx o a w (aj ws σ):=by
 unfold FH at h
 rcases ah h with ⟨hc,h⟩ | ⟨_,h⟩
 ·simp only [aby] at hc
  have ey:y=.const (.slice none 0 0):=by
   have:=hc.1
   unfold Lx at this
   split at this
   ·rfl
   ·simp at this
  have ZX:op=.eql:=by
   have:=hc.2
   unfold Pg at this
   split at this
   ·rfl
   ·simp at this
  subst ey ZX
  obtain ⟨u,h1,hu1,h5⟩:=bI H h
  unfold U6 at h5
  split at h5
  ·rename_i e kk hty
   obtain ⟨Vz,z,Tg,cs,g1,g2,g3,h6⟩:=oG H h1 hu1 h5
   cases Vz with
   | sl e' Vz=>
    simp only at h6
    rw [az h6]
    obtain ⟨p,n,c,rfl,g5,g6,g7⟩:=g2
    have ev:a.eval x=.slice p n c:=by
     have:=g1.cells
     obtain ⟨g8,g9⟩:=g1
     first
      | exact (List.cons.inj g8.symm).1
      | (simp only [List.cons.injEq,and_true] at g8; exact g8.symm)
      | exact g8
    have hu:=(eP.sl (hT.ty t _ hty)).1
    have hag:(∀c,a.eval x≠.agg c)∧a.eval x≠.nilIface:=by rw [ev]; simp
    have hg:=sF (P:=P) (w:=w) (op:=.eql) (t:=t) (x:=x) (y:=.const (.slice none 0 0)) (v:=a.eval (.const (.slice none 0 0))) hag
    have hr:=Bf (w:=w) hu p n c
    refine bB (v:=.bool p.isNone) H hd hdn ?_ (show bz cx σ α F w (.sI _) _ from ⟨_,rfl,fun hp=>?_⟩) trivial
    ·have e2:a.eval (.const (.slice none 0 0))=.slice none 0 0:=rfl
     have hr':(Go.binOp .eql t (a.eval x) (a.eval (.const (.slice none 0 0)))).run P w=.ok (.bool p.isNone) w:=by rw [ev,e2]; exact hr
     simp only [execOp,ho,abR,hg,hr',abK,abW]
    ·cases p with
     | some q=>simp at hp
     | none=>
      have hn:n=0:=by
       refine abO fun hne=>?_
       obtain ⟨b,o,e1,_⟩:=g7 (by omega)
       simp at e1
      have XH:n=@List.length (El Vz) z:=g5
      rw [List.isEmpty_iff_length_eq_zero, ←XH,hn]
   | _=>exact h6.elim
  ·exact h5.elim
 ·exact FY hT hSt H hd hdn ho h
end
end
section
open Go
variable [Fr]
section
variable {P:Program} {T:gL} {cx:Cx} {σ:St} {α:dA} {F:List Nat} {a:Act} {w:World} {o:Oper} {d:Nat} {ws:List Wr}
theorem iw {c:Call} {b:Builtin} (ho:o.op=.call c) (hb:c.callee=.builtin b):∃cs,(execOp a.eval o).run P w=(builtin b c.argTypes o.type cs (c.args.map a.eval)).run P w:=
 ⟨_,by simp only [execOp,ho,resolve,hb,abR,abW,abK,invoke]; rfl⟩
theorem eP.str {t:TypeId} (h:eP P T t .str):P.underlying t=some .string:=by
 unfold eP iC at h
 exact h.1
theorem nU (hT:dO P T) {c:Call} {i:Nat} {k:K} (h:(c.argTypes[i]?).bind T.ty=some k):∃t,c.argTypes[i]?=some t∧eP P T t k:=by
 cases ht:c.argTypes[i]? with
 | none=>rw [ht] at h; simp at h
 | some t=>rw [ht] at h; exact ⟨t,rfl,hT.ty t k h⟩
theorem IB {ats:Array TypeId} {ty t:TypeId} {v:Value} {n:Nat} {args:Array Value} (ha:ats[0]?=some t) (hv:args[0]?=some v) (h:(P.underlying t=some .string∧∃B:ByteArray,v=.string B∧B.size=n)∨((∃e,P.underlying t=some (.slice e))∧∃b c,v=.slice b n c)) :
  (Builtin.len_ ats ty args).run P w=.ok (.int .i64 (n:Int)) w:=by
 unfold Builtin.len_
 simp only [ha,hv]
 rcases h with ⟨hu,B,rfl,rfl⟩ | ⟨⟨e,hu⟩,b,c,rfl⟩
 ·simp [run_underlying hu,goInt]
 ·simp [run_underlying hu,goInt]
theorem Nl (hT:dO P T) (H:Rel cx σ α F a w) (hd:o.dst=some d) (hdn:d<cx.nt) {c:Call} (ho:o.op=.call c) (hb:c.callee=.builtin .len)
  (h:(iI c.args.toList fun
   | [.gK]=>match (c.argTypes[0]?).bind T.ty with
    | some (.sl _ _)=>(.ret [Wr.s d (.one (.val (.int .i64) 0 []))]:Prog (List Wr))
    | _=>.fail
   | [.val .str s _]=>match (c.argTypes[0]?).bind T.ty with
    | some .str=>.ret [Wr.s d (.one (.val (.int .i64) ((show List Int from s).length:Int) []))]
    | _=>.fail
   | [a]=>match (c.argTypes[0]?).bind T.ty with
    | some (.sl _ _)=>nW a fun kk x _=>match kk,x with
     | .sl _ kk,xs=>.ret [Wr.s d (.one (.val (.int .i64) ((show List (El kk) from xs).length:Int) []))]
     | _,_=>.fail
    | _=>.fail
   | _=>.fail).ends σ ws):lS P cx o a w (aj ws σ):=by
 obtain ⟨vs,h1,h2,h⟩:=gY H h
 have hfin:∀{t:TypeId} {n:Nat} {v:Value} {x:Operand},c.args.toList=[x]→c.argTypes[0]?=some t→a.eval x=v→((P.underlying t=some .string∧∃B:ByteArray,v=.string B∧B.size=n)∨((∃e,P.underlying t=some (.slice e))∧∃b c,v=.slice b n c))→
   lS P cx o a w (aj [Wr.s d (.one (.val (.int .i64) (n:Int) []))] σ):=by
  intro t n v x hx ht hv hs
  have ha:(c.args.map a.eval)[0]?=some v:=by
   rw [←Array.getElem?_toList,Array.toList_map,hx]
   simp [hv]
  refine bB H hd hdn ?_ (kF .i64 (n:=(n:Int)) trivial) sJ
  obtain ⟨cc,hcc⟩:=iw (P:=P) (a:=a) (w:=w) ho hb
  rw [hcc]
  simp only [builtin,abR,IB (ty:=o.type) (w:=w) ht ha hs,abK,abW]
 have hone:∀{u:AV},vs=[u]→∃x,c.args.toList=[x]∧bz cx σ α F w u (a.eval x):=by
  intro u e
  subst e
  cases hl:c.args.toList with
  | nil=>rw [hl] at h1; exact h1.elim
  | cons x l=>
   rw [hl] at h1
   cases l with
   | nil=>exact ⟨x,rfl,h1.1⟩
   | cons y l=>exact h1.2.elim
 split at h
 ·obtain ⟨x,hx,hu⟩:=hone rfl
  split at h
  ·rename_i hty
   obtain ⟨t,ht,hk⟩:=nU hT hty
   rw [az h]
   obtain ⟨b,e⟩:=hu
   exact hfin (n:=0) hx ht rfl (.inr ⟨⟨_,hk.sl.1⟩,b,0,e⟩)
  ·exact h.elim
 ·obtain ⟨x,hx,hu⟩:=hone rfl
  split at h
  ·rename_i hty
   obtain ⟨t,ht,hk⟩:=nU hT hty
   rw [az h]
   obtain ⟨B,e1,e2⟩:=qp hu
   subst e2
   have e:(show List Int from bytesOf B).length=B.size:=iR B
   rw [e]
   exact hfin (n:=B.size) hx ht rfl (.inl ⟨hk.str,B,e1,rfl⟩)
  ·exact h.elim
 ·obtain ⟨x,hx,hu⟩:=hone rfl
  split at h
  ·rename_i hty
   obtain ⟨t,ht,hk⟩:=nU hT hty
   obtain ⟨kk,y,Tg,cs,g1,g2,g3,g4⟩:=oG H hu (h2 _ (by simp)) h
   cases kk with
   | sl e kk=>
    rw [az g4]
    obtain ⟨b,n,cc,f1,f2,f3,f4,f5⟩:=vC g1 g2
    have e:((@List.length (El kk) y:Nat):Int)=(n:Int):=by rw [f3]
    have e':(show List (El kk) from y).length=n:=f3.symm
    rw [e']
    exact hfin (n:=n) hx ht rfl (.inr ⟨⟨_,hk.sl.1⟩,b,cc,f1⟩)
   | _=>exact g4.elim
  ·exact h.elim
 ·exact h.elim
theorem Bu (H:Rel cx σ α F a w) {r:Nat} {R:Root} (hr:aM σ r R) {b:Nat} (hb:b∈blk α R r) (hnb:¬jq cx b):gy cx σ α F w ((r,fF R.w) :: R.tags) b:=by
 have hm:=(H.roots r R hr).mine b hb
 refine ⟨hm.1,H.gQ r R hr b hb,hnb,fun q Q hq hbq=>?_,fun h0=>?_⟩
 ·by_cases e:q=r
  ·subst e; exact ⟨fF R.w,by simp⟩
  ·exact absurd hb (H.yI q Q r R hq hr e b hbq)
 ·rcases hm.2 with h | ⟨j,pi,h1,h2⟩
  ·omega
  ·exact .inr ⟨j,pi,h1,h2⟩
theorem Kz {A:Type} {z:A} (H:Rel cx σ α F a w):∀{l:List AV} {vs:List Value} {k:List (TypeId×Dat×List Tag)→Prog A},dJ cx σ α F w l vs→(∀v∈l,l9 σ v)→(IY l k).ends σ z→
  ∃cs,jE cx σ α F w cs vs∧(∀c∈cs,dW σ c.2.2)∧(k cs).ends σ z:=by
 intro l
 induction l with
 | nil=>
  intro vs k h1 _ h
  cases vs with
  | nil=>exact ⟨[],trivial,by simp,h⟩
  | cons v vs=>exact h1.elim
 | cons x l ih=>
  intro vs k h1 h2 h
  cases vs with
  | nil=>exact h1.elim
  | cons v vs=>
   simp only [IY] at h
   rcases rD H h1.1 (h2 x (by simp)) h with ⟨r,R,p,dd,cs,b,q,hr,hv,hg,eZ,hown,hn,e,h5⟩ | ⟨bt,dd,Tg,b,q,cs,hw,e,hcs,hV,hok,hb,h5⟩
   ·rcases ah h5 with ⟨_,h6⟩ | ⟨hne,h6⟩
    ·exact h6.elim
    ·obtain ⟨cs2,g1,g2,g3⟩:=ih h1.2 (fun v hv=>h2 v (by simp [hv])) h6
     obtain ⟨hC,⟨eX,hO,hf⟩,hbb,⟨arr,te,lo,hi,m1,m2,m3,m4⟩,_⟩:=kV H hr hv hg eZ hown hn
     have hbase:dS R p=te∧¬jq cx b:=by
      rcases m4 with m4 | ⟨_,m4⟩
      ·exact m4
      ·rw [m4] at hne; simp at hne
     refine ⟨(dS R p,dd,(r,fF R.w) :: R.tags) :: cs2,⟨⟨⟨b,q,e⟩,fun _=>⟨b,q,cs,e,hC, ?_,(Bu H hr hbb hbase.2).q, .inr ⟨.inl (by rw [hbase.1]; unfold lH; rw [m1]),hbase.2⟩⟩⟩,g1⟩, ?_,g3⟩
     ·exact iY _ (fun b hb=>pE hb (fun t ht=>by simp [ht])) (fun b hb=>Bu H hr (abu _ (hf b hb)) (ko H hr (hf b hb))) hO
     ·intro c hc
      rcases abE.1 hc with h | h
      ·subst h
       intro t ht
       rcases abE.1 ht with h | h
       ·subst h; exact .inr ⟨R,hr.1, .inr (abI _)⟩
       ·exact (H.cB r R hr.1).1 t h
      ·exact g2 c h
   ·obtain ⟨cs2,g1,g2,g3⟩:=ih h1.2 (fun v hv=>h2 v (by simp [hv])) h5
    refine ⟨(bt,dd,Tg) :: cs2,⟨⟨⟨b,q,e⟩,fun _=>⟨b,q,cs,e,hcs,hV,hok,hb⟩⟩,g1⟩, ?_,g3⟩
    intro c hc
    rcases abE.1 hc with h | h
    ·subst h; exact hw
    ·exact g2 c h
theorem Cy (H:Rel cx σ α F a w) (hd:o.dst=some d) (hdn:d<cx.nt) {f:Nat} {first caps:Array Operand} (ho:o.op=.makeFunc (.func f) first caps)
  (h:(bif first.isEmpty then iI caps.toList fun l=>IY l fun cs=>.ret [Wr.s d (.one (.fn f cs))] else (.fail:Prog (List Wr))).ends σ ws):lS P cx o a w (aj ws σ):=by
 rcases ah h with ⟨he,h5⟩ | ⟨_,h5⟩
 ·obtain ⟨vs,h1,h2,h6⟩:=gY H h5
  obtain ⟨cs,g1,g2,g3⟩:=Kz H h1 h2 h6
  rw [az g3]
  have hf:first=#[]:=by simpa using he
  refine bB (x:=.one (.fn f cs)) (v:=.func (.func f) #[] (caps.map a.eval)) H hd hdn ?_ ⟨(caps.map a.eval).toList,rfl,by rw [Array.toList_map]; exact g1⟩ g2
  simp [execOp,ho,Instr.makeFunc,hf]
 ·exact h5.elim
end
end
section
open Go
variable [Fr]
section
variable {P:Program} {T:gL} {cx:Cx} {σ:St} {α:dA} {F:List Nat} {a:Act} {w:World} {o:Oper} {d:Nat} {ws:List Wr}
theorem tY {A:Type} {z:A} (H:Rel cx σ α F a w) {x:Option Operand} {k:Option Int→Prog A} (h:(yw x k).ends σ z) :
  ∃i:Option Int,(k i).ends σ z∧(i=none↔x=none)∧∀j,i=some j→∃ik,x.map a.eval=some (.int ik j):=by
 cases x with
 | none=>exact ⟨none,h,by simp,fun j hj=>by simp at hj⟩
 | some y=>
  simp only [yw] at h
  obtain ⟨v,h1,_,h⟩:=bI H h
  obtain ⟨ik,n,e,_,h⟩:=qO h1 h
  exact ⟨some n,h,by simp,fun j hj=>by simp only [abr] at hj; subst hj; exact ⟨ik,by simp [e]⟩⟩
theorem Ap {YI:Bool} {len cap:Nat} {lo hi:Option Int} {l h:Option Value} (hlc:len≤cap) (hl:lo=none→l=none) (hl':∀j,lo=some j→∃ik,l=some (.int ik j)) (hh:hi=none→h=none) (hh':∀j,hi=some j→∃ik,h=some (.int ik j))
  (h1:∀j,hi=some j→0≤j∧j≤(len:Int)) (h2:∀j,lo=some j→0≤j∧j≤hi.getD (len:Int)) :
  (Instr.sliceBounds YI len cap l h none).run P w=.ok ((lo.getD 0).toNat,(hi.getD (len:Int)).toNat,cap) w:=by
 unfold Instr.sliceBounds
 cases hi with
 | none=>
  rw [hh rfl]
  cases lo with
  | none=>rw [hl rfl]; simp
  | some j=>
   obtain ⟨ik,e⟩:=hl' j rfl
   obtain ⟨g1,g2⟩:=h2 j rfl
   simp only [Option.getD_none] at g2
   rw [e]
   simp [Instr.sliceBound,asIntOf,g1,g2]
 | some i=>
  obtain ⟨ik,e⟩:=hh' i rfl
  obtain ⟨f1,f2⟩:=h1 i rfl
  have f3:i≤(cap:Int):=by omega
  rw [e]
  cases lo with
  | none=>rw [hl rfl]; simp [Instr.sliceBound,asIntOf,f1,f3]
  | some j=>
   obtain ⟨Vy,e2⟩:=hl' j rfl
   obtain ⟨g1,g2⟩:=h2 j rfl
   simp only [Option.getD_some] at g2
   have g3:j≤max i 0:=by omega
   rw [e2]
   simp [Instr.sliceBound,asIntOf,f1,f3,g1]
   omega
theorem Ht {h:Heap} {ok:Nat→Prop} {e:TypeId} {k:K} {xs:List (El k)} {b:Option Addr} {n c l m:Nat} (H:Vw h ok (.sl e k) xs [.slice b n c]) (hl:l≤m) (hm:m≤n) :
  Vw h ok (.sl e k) (show List (El k) from (xs.take m).drop l) [.slice (if c=l then b else b.map (·.add (l * k.size))) (m - l) (c - l)]:=by
 obtain ⟨b',n',c',e1,e2,e3,e4⟩:=H
 simp only [List.cons.injEq,Value.slice.injEq,and_true] at e1
 obtain ⟨rfl,rfl,rfl⟩:=e1
 have hxl:xs.length=n:=e2.symm
 have hlen:((xs.take m).drop l).length=m - l:=by simp; omega
 refine ⟨_,_,_,rfl,hlen.symm,by omega,fun h0=>?_⟩
 obtain ⟨bb,q,rfl,hok,hel,hes⟩:=e4 (by omega)
 have hc:¬c=l:=by omega
 refine ⟨bb,q+l * k.size,by rw [if_neg hc]; simp [addr_add],hok,hel,fun i hi=>?_⟩
 have hi':i<((xs.take m).drop l).length:=hi
 obtain ⟨ds,h1,h2⟩:=hes (l+i) (by show l+i<xs.length; omega)
 refine ⟨ds, ?_, ?_⟩
 ·rw [Nat.add_assoc, ←Nat.add_mul]
  exact h1
 ·have:(show List (El k) from (xs.take m).drop l)[i]'hi=xs[l+i]'(by omega):=by
   show ((xs.take m).drop l)[i]=_
   simp
  rw [this]
  exact h2
theorem Cr (B:ByteArray) (l m:Nat):bytesOf (B.extract l m)=((bytesOf B).take m).drop l:=by
 unfold bytesOf
 rw [←List.map_take, ←List.map_drop]
 congr 1
 simp [ByteArray.data_extract,List.extract_eq_take_drop,List.drop_take]
def zX (lo:Option Int):Nat:=(lo.getD 0).toNat
def Dl (hi:Option Int) (n:Nat):Nat:=(hi.getD (n:Int)).toNat
theorem Db {t e:TypeId} {k:K} (ht:eP P T t (.sl e k)) {b:Option Addr} {n c:Nat} {lo hi:Option Int} {l h:Option Value} (hlc:n≤c) (hl:lo=none→l=none) (hl':∀j,lo=some j→∃ik,l=some (.int ik j)) (hh:hi=none→h=none) (hh':∀j,hi=some j→∃ik,h=some (.int ik j))
  (h1:∀j,hi=some j→0≤j∧j≤(n:Int)) (h2:∀j,lo=some j→0≤j∧j≤hi.getD (n:Int)) :
  (Instr.sliceAt t (.slice b n c) l h none).run P w=.ok (.slice (if c=zX lo then b else b.map (·.add (zX lo * k.size))) (Dl hi n - zX lo) (c - zX lo)) w:=by
 obtain ⟨hu,he,_,_⟩:=ht.sl
 unfold Instr.sliceAt Instr.slice
 simp only [abR,run_underlying hu,Result.andThen,Ap (YI:=true) (w:=w) hlc hl hl' hh hh' h1 h2,he.info.sizeOf w,abW]
 rfl
theorem Bg {t:TypeId} (ht:eP P T t .str) {B:ByteArray} {lo hi:Option Int} {l h:Option Value} (hl:lo=none→l=none) (hl':∀j,lo=some j→∃ik,l=some (.int ik j)) (hh:hi=none→h=none) (hh':∀j,hi=some j→∃ik,h=some (.int ik j))
  (h1:∀j,hi=some j→0≤j∧j≤(B.size:Int)) (h2:∀j,lo=some j→0≤j∧j≤hi.getD (B.size:Int)) :
  (Instr.sliceAt t (.string B) l h none).run P w=.ok (.string (B.extract (zX lo) (Dl hi B.size))) w:=by
 have hu:=ht.str
 unfold Instr.sliceAt Instr.slice
 simp [abR,run_underlying hu,Result.andThen,Ap (YI:=false) (w:=w) (abI B.size) hl hl' hh hh' h1 h2,abW,zX,Dl]
theorem ve {x:Option Operand} (h:isZero x=true):∃ik,x=some (.const (.int ik 0)):=by
 unfold isZero at h
 split at h
 ·exact ⟨_,rfl⟩
 ·simp at h
theorem Je (hT:dO P T) (H:Rel cx σ α F a w) (hd:o.dst=some d) (hdn:d<cx.nt) {t:TypeId} {x:Operand} {lo hi mx:Option Operand}
  (h:(match T.ty t with
   | some kk=>bif isZero lo && isZero hi && isZero mx then match kk with
     | .sl _ _=>dz x fun
      | .gK=>.ret [Wr.s d (.one .gK)]
      | a=>nW a fun k' _ _=>bif k'.beq kk then .ret [Wr.s d (.one .gK)] else .fail
     | _=>.fail
    else match mx with
     | none=>dz x fun a=>yw lo fun lo=>yw hi fun hi=>GJ kk a lo hi fun u=>.ret [Wr.s d (.one u)]
     | some _=>.fail
   | none=>(.fail:Prog (List Wr))).ends σ ws) (ho:o.op=.slice t x lo hi mx):lS P cx o a w (aj ws σ):=by
 cases hty:T.ty t with
 | none=>rw [hty] at h; exact h.elim
 | some kk=>
  rw [hty] at h
  have ht:=hT.ty t kk hty
  rcases ah h with ⟨hz,h5⟩ | ⟨_,h5⟩
  ·simp only [aby] at hz
   obtain ⟨Ry,rfl⟩:=ve hz.1.1
   obtain ⟨Vy,rfl⟩:=ve hz.1.2
   obtain ⟨ik3,rfl⟩:=ve hz.2
   cases kk with
   | sl e k=>
    obtain ⟨u,h1,h2,h6⟩:=bI H h5
    have hfin:(∃b n c,a.eval x=.slice b n c)→ws=[Wr.s d (.one .gK)]→lS P cx o a w (aj ws σ):=by
     rintro ⟨b,n,c,e⟩ hws
     rw [hws]
     obtain ⟨hu,he,_,_⟩:=ht.sl
     refine bB (x:=.one .gK) (v:=.slice b 0 0) H hd hdn ?_ ⟨b,rfl⟩ trivial
     have hcv:∀v,a.eval (.const v)=v:=fun _=>rfl
     simp [execOp,ho,e,Instr.sliceAt,Instr.slice,run_underlying hu,Instr.sliceBounds,Instr.sliceBound,asIntOf,he.info.sizeOf w,hcv]
    cases u with
    | gK=>
     obtain ⟨b,e⟩:=h1
     exact hfin ⟨b,0,0,e⟩ (az h6)
    | _=>
     obtain ⟨k',y,Tg,cs,g1,g2,g3,g4⟩:=oG H h1 h2 h6
     rcases beq_true g4 with ⟨ek,g5⟩ | ⟨_,g5⟩
     ·subst ek
      obtain ⟨b,n,c,f1,_⟩:=vC g1 g2
      exact hfin ⟨b,n,c,f1⟩ (az g5)
     ·exact g5.elim
   | _=>exact h5.elim
  ·cases mx with
   | some m=>exact h5.elim
   | none=>
    obtain ⟨u,h1,h2,h6⟩:=bI H h5
    obtain ⟨l,h7,l1,l2⟩:=tY H h6
    obtain ⟨m,h8,m1,m2⟩:=tY H h7
    have hl:l=none→lo.map a.eval=none:=fun e=>by rw [l1.1 e]; rfl
    have hm:m=none→hi.map a.eval=none:=fun e=>by rw [m1.1 e]; rfl
    have hstr:∀{s:List Int} {Tg:List Tag},u=.val .str s Tg→lS P cx o a w (aj ws σ):=by
     intro s Tg e
     subst e
     obtain ⟨B,e1,e2⟩:=qp h1
     subst e2
     simp only [GJ] at h8
     rcases ah h8 with ⟨_,h9⟩ | ⟨hk,h9⟩
     ·exact h9.elim
     ·have ek:kk=.str:=K.eq_of_beq (by simpa using hk)
      subst ek
      have hln:=iR B
      have hgo:∀{p:List Int},(∀j,m=some j→0≤j∧j≤(B.size:Int))→(∀j,l=some j→0≤j∧j≤m.getD (B.size:Int))→p=((bytesOf B).take (Dl m B.size)).drop (zX l)→ws=[Wr.s d (.one (.val .str p []))]→lS P cx o a w (aj ws σ):=by
       intro p g1 g2 hp hws
       rw [hws,hp]
       have hrun:=Bg (w:=w) ht (B:=B) hl l2 hm m2 g1 g2
       refine bB (v:=.string (B.extract (zX l) (Dl m B.size))) H hd hdn ?_ ?_ (fun t ht=>by simp at ht)
       ·simp only [execOp,ho,e1,abR]
        rw [show (none:Option Operand).map a.eval=none from rfl,hrun]
        rfl
       ·rw [←Cr]
        exact Gq
      cases l with
      | none=>
       cases m with
       | none=>exact hgo (by simp) (by simp) (by simp [zX,Dl, ←hln]) (az h9)
       | some j=>
        obtain ⟨hc,h9⟩:=h9
        exact hgo (fun i hi=>by simp only [abr] at hi; subst hi; rw [←hln]; exact hc) (by simp) (by simp [zX,Dl]) (az h9)
      | some i=>
       cases m with
       | none=>
        obtain ⟨hc,h9⟩:=h9
        exact hgo (by simp) (fun i hi=>by simp only [abr] at hi; subst hi; simp only [Option.getD_none]; rw [←hln]; exact hc) (by simp [zX,Dl, ←hln]) (az h9)
       | some j=>
        obtain ⟨hc,h9⟩:=h9
        have hc':0≤i∧i≤j∧j≤((bytesOf B).length:Int):=hc
        exact hgo (fun i' hi=>by simp only [abr] at hi; subst hi; rw [←hln]; exact ⟨by omega,hc'.2.2⟩) (fun i' hi=>by simp only [abr] at hi; subst hi; exact ⟨hc'.1,hc'.2.1⟩) (by simp [zX,Dl]) (az h9)
    have hsl:(nW u fun k2 y Tg=>match k2,y with
      | .sl e k3,xs=>bif !kk.beq (.sl e k3) then .fail else
       match l,m with
       | none,none=>(.ret [Wr.s d (.one (.val (.sl e k3) xs Tg))]:Prog (List Wr))
       | some l,none=>.nY (0≤l∧l≤((show List (El k3) from xs).length:Int)) inferInstance (.ret [Wr.s d (.one (.val (.sl e k3) ((show List (El k3) from xs).drop l.toNat) Tg))])
       | none,some h=>.nY (0≤h∧h≤((show List (El k3) from xs).length:Int)) inferInstance (.ret [Wr.s d (.one (.val (.sl e k3) ((show List (El k3) from xs).take h.toNat) Tg))])
       | some l,some h=>.nY (0≤l∧l≤h∧h≤((show List (El k3) from xs).length:Int)) inferInstance (.ret [Wr.s d (.one (.val (.sl e k3) (((show List (El k3) from xs).take h.toNat).drop l.toNat) Tg))])
      | _,_=>.fail).ends σ ws→lS P cx o a w (aj ws σ):=by
     intro h9
     obtain ⟨k2,y,Tg,cs,g1,g2,g3,g4⟩:=oG H h1 h2 h9
     cases k2 with
     | sl e k3=>
      simp only at g4
      rcases ah g4 with ⟨_,g5⟩ | ⟨hk,g5⟩
      ·exact g5.elim
      ·have ek:kk=.sl e k3:=K.eq_of_beq (by simpa using hk)
       subst ek
       have hln:(show List (El k3) from y).length=@List.length (El k3) y:=rfl
       obtain ⟨b,n,c,f1,f2,f3,f4,f5⟩:=vC g1 g2
       have hgo:∀{p:List (El k3)},(∀j,m=some j→0≤j∧j≤(n:Int))→(∀j,l=some j→0≤j∧j≤m.getD (n:Int))→p=((show List (El k3) from y).take (Dl m n)).drop (zX l)→ws=[Wr.s d (.one (.val (.sl e k3) p Tg))]→lS P cx o a w (aj ws σ):=by
        intro p q1 q2 hp hws
        rw [hws,hp]
        have hrun:=Db (w:=w) ht (b:=b) f4 hl l2 hm m2 q1 q2
        have hlm:zX l≤Dl m n∧Dl m n≤n:=by
         unfold zX Dl
         cases l with
         | none=>
          cases m with
          | none=>simp
          | some j=>have:=q1 j rfl; simp; omega
         | some i=>
          have h3:=q2 i rfl
          cases m with
          | none=>simp at h3 ⊢; omega
          | some j=>have:=q1 j rfl; simp at h3 ⊢; omega
        have hV:=Ht (xs:=(show List (El k3) from y)) (by rw [f2] at g2; exact g2) hlm.1 hlm.2
        refine bB H hd hdn ?_ (show bz cx σ α F w (.val (.sl e k3) _ Tg) (.slice (if c=zX l then b else b.map (·.add (zX l * k3.size))) (Dl m n - zX l) (c - zX l)) from fun _=>⟨_,⟨rfl,by simp⟩,hV⟩) g3
        simp only [execOp,ho,f1,abR]
        rw [show (none:Option Operand).map a.eval=none from rfl,hrun]
        rfl
       have f3':((show List (El k3) from y).length:Int)=(n:Int):=by rw [f3]
       cases l with
       | none=>
        cases m with
        | none=>exact hgo (by simp) (by simp) (by simp only [zX,Dl,Option.getD_none,abC,Int.toNat_zero,List.drop_zero]; rw [f3,List.take_length]) (az g5)
        | some j=>
         obtain ⟨hc,h9⟩:=g5
         exact hgo (fun i hi=>by simp only [abr] at hi; subst hi; rw [←f3']; exact hc) (by simp) (by simp [zX,Dl]) (az h9)
       | some i=>
        cases m with
        | none=>
         obtain ⟨hc,h9⟩:=g5
         exact hgo (by simp) (fun i hi=>by simp only [abr] at hi; subst hi; simp only [Option.getD_none]; rw [←f3']; exact hc) (by simp only [zX,Dl,Option.getD_none,Option.getD_some,abC]; rw [f3,List.take_length]) (az h9)
        | some j=>
         obtain ⟨hc,h9⟩:=g5
         have hc':0≤i∧i≤j∧j≤((show List (El k3) from y).length:Int):=hc
         exact hgo (fun i' hi=>by simp only [abr] at hi; subst hi; rw [←f3']; exact ⟨by omega,hc'.2.2⟩) (fun i' hi=>by simp only [abr] at hi; subst hi; exact ⟨hc'.1,hc'.2.1⟩) (by simp [zX,Dl]) (az h9)
     | _=>exact g4.elim
    cases u with
    | val k1 s Tg=>
     cases k1 with
     | str=>exact hstr rfl
     | _=>exact hsl h8
    | _=>exact hsl h8
end
end
section
open Go
variable [Fr]
section
variable {cx:Cx} {σ:St} {α:dA} {F:List Nat} {a:Act} {w:World} {r:Nat} {R:Root}
theorem Rel.lose (H:Rel cx σ α F a w) (hr:aM σ r R) (hv:bg σ R) {l:List TypeId} (hl:l≠[]):∃α',Rel cx (ak σ r (pq R l)) α' F a w:=by
 have K:=H.roots r R hr
 have hnt:=H.cB r R hr.1
 have hsub:∀t,aA t (aZ R.own l)=true→aA t R.own=true:=fun t ht=>(cZ.1 ht).1
 obtain ⟨BF,fd,hp1,hO⟩:=om (own':=aZ R.own l) (fun t _ h=>hsub t h) (K.ow hv)
 have hfo:∀b∈BF,b∈α.fo r:=fun b hb=>hp1.mem_iff.2 (abx _ hb)
 have Vu:∀b∈fd,b∈α.fo r:=fun b hb=>hp1.mem_iff.2 (abu _ hb)
 have hbk:∀b∈gJ (pq R l) (α.loc r) BF,b∈blk α R r:=fun b hb=>by
  rw [bO]
  rcases abB.1 hb with h | h
  ·exact abx _ h
  ·exact abu _ (hfo b h)
 have hnd:=K.nd
 rw [bO] at hnd
 have Qw:(gJ R (α.loc r) (BF++fd)).Nodup:=by
  have:(gJ R (α.loc r) (α.fo r)).Perm (gJ R (α.loc r) (BF++fd)):=List.Perm.append_left _ hp1
  exact this.nodup_iff.1 hnd
 have O5:(gJ R (α.loc r) BF++fd).Nodup:=by
  have e:gJ R (α.loc r) (BF++fd)=gJ R (α.loc r) BF++fd:=by simp [gJ,abN]
  rw [←e]; exact Qw
 have T1:sQ cx σ α F w r R (pq R l) BF F w l []:=by
  refine ⟨.inr ⟨rfl,rfl,abI _,rfl,fun _=>rfl, .inl hl⟩,⟨fun t ht=>hnt.1 t ht,fun n hn=>hnt.2.2 n hn⟩,⟨rfl,rfl,rfl⟩,abI _,fun b _ hne=>absurd rfl hne,fun _ b hb=>.inl (hbk b hb),fun b hb=>.inl hb,H.rZ,fun _ b hb=>H.gQ r R hr b (hbk b hb),fun _ _ _ _ _ _ _ _ hne=>absurd rfl hne,fun _=>⟨rfl,rfl⟩⟩
 have hcl0:∀tys,aU (ak σ r (pq R l)) tys R.tags=aU σ tys R.tags:=fun tys=>jG hnt.2.2
 refine ⟨aB α r (α.loc r) (α.hdr r) BF,T1.rel H hr (fun _=>⟨fun hvn=>?_,K.len,fun b o hb=>?_, ?_⟩) ?_ ?_⟩
 ·refine aY (fun _ _=>rfl) (fun b hb=>?_) (fun _ _=>rfl) hO
  have hblk:∀q Q,aM (ak σ r (pq R l)) q Q→b∈blk (aB α r (α.loc r) (α.hdr r) BF) Q q→(q=r∧b∈gJ R (α.loc r) BF)∨(q≠r∧aM σ q Q∧b∈blk α Q q):=by
   intro q Q hq hbq
   by_cases e:q=r
   ·subst e
    obtain ⟨rfl,_⟩:=dU hq
    rw [eU] at hbq
    exact .inl ⟨rfl,hbq⟩
   ·refine .inr ⟨e,(zW e).1 hq, ?_⟩
    cases NK:Nat.beq q r with
    | true=>exact absurd (abw NK) e
    | false=>simpa [blk,dY,aB,upd,NK] using hbq
  rcases hb with hb | hb
  ·obtain ⟨g1,g2,g3,g4,g5⟩:=hb
   refine ⟨g1,g2,g3,fun q Q hq hbq=>?_,g5⟩
   rcases hblk q Q hq hbq with ⟨rfl,h⟩ | ⟨_,h1,h2⟩
   ·exact g4 q R hr (hbk b h)
   ·exact g4 q Q h1 h2
  ·have hbb:b∈blk α R r:=abu _ (Vu b hb)
   have hm:=K.mine b hbb
   refine ⟨hm.1,H.gQ r R hr b hbb,ko H hr (Vu b hb),fun q Q hq hbq=>?_,fun h0=>?_⟩
   ·exfalso
    rcases hblk q Q hq hbq with ⟨rfl,h⟩ | ⟨h,h1,h2⟩
    ·exact (abz.1 O5).2.2 b h b hb rfl
    ·exact H.yI q Q r R h1 hr h b h2 hbb
   ·rcases hm.2 with h | ⟨j,pi,h1,h2⟩
    ·omega
    ·exact .inr ⟨j,pi,h1,h2⟩
 ·exact K.mem b o (by rw [nP]; exact hb)
 ·have:=O5.sublist (List.sublist_append_left _ _)
  exact this
 ·intro _ p n v hn hold
  refine ⟨hold.1,fun Q hQ NM hcl hty hs=>?_⟩
  rw [aF] at hQ
  simp only [abr] at hQ
  subst hQ
  obtain ⟨g1,cs,b,o,g2,g3⟩:=hold.2 R hr.1 hv hcl (fun t ht=>hsub t (hty t ht)) hs
  refine ⟨g1,cs,b,o, ?_,g3⟩
  have e1:(aB α r (α.loc r) (α.hdr r) BF).hdr r=α.hdr r:=by simp [aB,upd_same]
  have e2:dY (aB α r (α.loc r) (α.hdr r) BF) (pq R l) r=dY α R r:=by rw [iG,nP]; rfl
  rw [e1,e2]
  exact g2
 ·intro _ g v _ hold Q hQ hg
  obtain ⟨rfl,_⟩:=dU hQ
  obtain ⟨h1,h2⟩:=hold R hr hg
  refine ⟨h1, ?_⟩
  simp only [aB,upd_same]
  exact h2
theorem QT (H:Rel cx σ α F a w) (l:List TypeId) (r:Nat):∃α',Rel cx (LP l r σ) α' F a w:=by
 unfold LP
 split
 ·exact ⟨_,H⟩
 ·rename_i hl
  split
  ·rename_i R hR
   cases hc:R.aT || !aU σ R.uK R.tags || !R.own.any (fun t=>aA t l) with
   | true=>exact ⟨_,H⟩
   | false=>
    simp only [Bool.or_eq_false_iff,Bool.not_eq_false'] at hc
    exact H.lose (r:=r) (R:=R) ⟨hR,hc.1.1⟩ ⟨hc.1.1,hc.1.2⟩ (fun h=>hl h)
  ·exact ⟨_,H⟩
theorem CU (hi:Hint):∀(rs:List Nat) {σ:St} {α:dA},Rel cx σ α F a w→∃α',Rel cx (vo hi rs σ) α' F a w
 | [],_,_,H=>⟨_,H⟩
 | r :: rs,_,_,H=>by
  obtain ⟨α',h⟩:=QT H (o7 (1000000+r) hi.less) r
  exact CU hi rs h
end
end
section
open Go
variable [Fr]
section
variable {cx:Cx} {σ:St} {α:dA} {F:List Nat} {a:Act} {w:World} {r:Nat}
theorem Iz (H:Rel cx σ α F a w) (hn:σ.roots r=none) (hx:eH r=false) {e:TypeId} {k:K} {xs:List (El k)} {own:List TypeId} {tags:List Tag} {arr:Array Value} {lo hi n c:Nat} {bE:List (List Nat)} {F1:List Nat}
  (hwt:dW σ tags) (hown:aA e own=true) (hfr:wQ arr.size lo hi) (hnx:n=xs.length) (hnc:n≤c) (hca:c * k.size≤arr.size)
  (hfl:bE.length=xs.length) (Rq:∀b∈bE.flatten,b∈F) (CK:bE.flatten.Nodup) (hF1:∀b∈F1,b∈F∧b∉bE.flatten) (TT:F1.Nodup)
  (hel:∀(i:Nat) (hi:i<xs.length),∃ds,ds.length=k.size∧(∀j,j<ds.length→arr[i * k.size+j]?=ds[j]?)∧Ow (hp w) own (fun b=>gy cx σ α F w tags b∨(b∈F∧b∉F1∧b∉bE.flatten)) k xs[i] ds (bE.getD i [])) (kp:Bool) (dr:Nat) :
  ∃α' F',Rel cx (ak σ r (aD (.sl e k) xs own tags .anon kp)) α' F' a ((dw w dr).alloc (.cells arr e (lo,hi)))∧
   bz cx (ak σ r (aD (.sl e k) xs own tags .anon kp)) α' F' ((dw w dr).alloc (.cells arr e (lo,hi))) (.ref r 0) (.slice (some ⟨w.heap.size,0,none⟩) n c):=by
 have H0:=H.drawn dr
 obtain ⟨H1,T1⟩:=H0.alloc (.cells arr e (lo,hi))
 have hsz:(dw w dr).heap.size=w.heap.size:=rfl
 have hnew:hp ((dw w dr).alloc (.cells arr e (lo,hi))) w.heap.size=some (.cells arr e (lo,hi)):=mo (dw w dr) _
 have hold:∀b,b<w.heap.size→hp ((dw w dr).alloc (.cells arr e (lo,hi))) b=hp w b:=fun b hb=>kJ (dw w dr) _ hb
 have AB:w.heap.size∉F:=fun h=>by have:=(H.fl _ h).1; omega
 have hv:aK own (.sl e k)=aK own k:=by simp [aK,hown]
 obtain ⟨α',k1,k2⟩:=qN (k:=.sl e k) (x:=(xs:El (.sl e k))) (own:=own) (tags:=tags) (v:=.slice (some ⟨w.heap.size,0,none⟩) n c) (cs:=[.slice (some ⟨w.heap.size,0,none⟩) n c]) (fo:=w.heap.size :: bE.flatten) (r:=r) (F':=F1) H1 hn hx
  (fun b hb=>by
   rcases abE.1 hb with h | h
   ·subst h; exact abY
   ·exact abQ _ (Rq b h))
  (abZ.2 ⟨fun h=>AB (Rq _ h),CK⟩) hwt
  (fun b hb=>⟨abQ _ (hF1 b hb).1,fun h=>by
   rcases abE.1 h with h | h
   ·subst h; exact AB (hF1 _ hb).1
   ·exact (hF1 b hb).2 h⟩) TT rfl
  (fun hc=>by
   rw [hv] at hc
   obtain ⟨_,hV,_⟩:=T1.views H0 tags _ hwt hc
   unfold Ow
   rw [if_pos hown]
   refine ⟨_,_,_,rfl,hnx,hnc, .inr ⟨w.heap.size,0,arr,lo,hi,rfl,hnew,hfr,by omega,bE,hfl, .refl _,fun i hi=>?_⟩⟩
   obtain ⟨ds,h1,h2,h3⟩:=hel i hi
   refine ⟨ds,fun j hj=>?_, ?_⟩
   ·unfold cellAt
    rw [hnew]
    simp only [Nat.zero_add]
    exact h2 j hj
   ·refine aY ?_ ?_ (fun b hb=>hold b (H.fl b (Rq b (mD hb))).1) (mQ _ (fun _ h=>h) h3)
    ·rintro b ⟨hb | ⟨hb,_⟩,_⟩
     ·exact hold b hb.1
     ·exact hold b (H.fl b hb).1
    ·rintro b ⟨hb | ⟨g1,g2,g3⟩,hty⟩
     ·exact .inl (hV b hb (.inl hty)).1
     ·refine .inr ⟨abQ _ g1,g2,fun h=>?_⟩
      rcases abE.1 h with h | h
      ·subst h; exact AB g1
      ·exact g3 h) ⟨rfl,by simp⟩ kp
 exact ⟨α',F1,k1,k2⟩
theorem C9 (H:Rel cx σ α F a w) (hn:σ.roots r=none) (hx:eH r=false) {e:TypeId} {k:K} {xs:List (El k)} {own:List TypeId} {arr:Array Value} {lo hi n c:Nat}
  (hown:aA e own=true) (hfr:wQ arr.size lo hi) (hnx:n=xs.length) (hnc:n≤c) (hca:c * k.size≤arr.size)
  (hel:∀(i:Nat) (hi:i<xs.length),∃ds,ds.length=k.size∧(∀j,j<ds.length→arr[i * k.size+j]?=ds[j]?)∧∀h ok,Ow h own ok k xs[i] ds []) (kp:Bool) (dr:Nat) :
  ∃α' F',Rel cx (ak σ r (aD (.sl e k) xs own [] .anon kp)) α' F' a ((dw w dr).alloc (.cells arr e (lo,hi)))∧
   bz cx (ak σ r (aD (.sl e k) xs own [] .anon kp)) α' F' ((dw w dr).alloc (.cells arr e (lo,hi))) (.ref r 0) (.slice (some ⟨w.heap.size,0,none⟩) n c):=by
 have hfl:(List.replicate xs.length ([]:List Nat)).flatten=[]:=by simp
 refine Iz H hn hx (bE:=List.replicate xs.length []) (F1:=F) (fun t ht=>by simp at ht) hown hfr hnx hnc hca (by simp) (by rw [hfl]; simp) (by rw [hfl]; exact List.nodup_nil) (by rw [hfl]; exact fun b hb=>⟨hb,by simp⟩) H.rZ ?_ kp dr
 intro i hi
 obtain ⟨ds,h1,h2,h3⟩:=hel i hi
 refine ⟨ds,h1,h2, ?_⟩
 have:(List.replicate xs.length ([]:List Nat)).getD i []=[]:=by
  rw [bR (by simpa using hi)]; simp
 rw [this]
 exact h3 _ _
end
end
section
open Go
variable [Fr]
section
variable {P:Program} {T:gL} {cx:Cx} {σ:St} {α:dA} {F:List Nat} {a:Act} {w:World} {o:Oper} {d:Nat} {ws:List Wr}
theorem eP.int {t:TypeId} {ik:IntKind} (h:eP P T t (.int ik)):P.underlying t=some (.int ik):=by
 unfold eP iC at h
 exact h.1
theorem eP.und {t:TypeId} {k:K} (h:eP P T t k):∃u,P.underlying t=some u:=by
 unfold eP iC at h
 cases k with
 | int ik=>exact ⟨_,h.1⟩
 | bool=>exact ⟨_,h.1⟩
 | id e=>exact ⟨_,h.1⟩
 | str=>exact ⟨_,h.1⟩
 | sl e k=>exact ⟨_,h.1⟩
 | unit=>exact h.elim
 | pair a b=>exact h.elim
 | st c=>obtain ⟨⟨fs,h1,_⟩,_⟩:=h; exact ⟨_,h1⟩
 | gap n=>exact h.elim
theorem Gu (ns:List Int):∀(s:ByteArray),(∀n∈ns,0≤n∧n<256)→bytesOf (ns.foldl (fun r n=>r.push (UInt8.ofNat n.toNat)) s)=bytesOf s++ns:=by
 induction ns with
 | nil=>intro s _; simp
 | cons n ns ih=>
  intro s h
  rw [List.foldl_cons,ih _ (fun m hm=>h m (by simp [hm]))]
  have h1:=h n (by simp)
  have:bytesOf (s.push (UInt8.ofNat n.toNat))=bytesOf s++[n]:=by
   unfold bytesOf
   simp only [ByteArray.push,Array.toList_push,List.map_append,List.map_cons,List.map_nil]
   congr 2
   simp
   omega
  rw [this]
  simp
theorem IW {h:Heap} {ok:Nat→Prop} {xs:List Int} {bb q:Nat} (hes:∀(i:Nat) (hi:i<xs.length),∃ds,Cells h bb (q+i * 1) ds∧Vw h ok (.int .u8) xs[i] ds) :
  Cells h bb q (xs.map (Value.int .u8))∧∀n∈xs,0≤n∧n<256:=by
 refine ⟨fun i hi=>?_,fun n hn=>?_⟩
 ·simp only [List.length_map] at hi
  obtain ⟨ds,h1,h2,_⟩:=hes i hi
  have:=h1 0 (by rw [h2]; simp)
  rw [h2] at this
  simp only [Nat.add_zero,Nat.mul_one,List.getElem?_cons_zero] at this
  rw [this]
  simp [hi]
 ·obtain ⟨i,hi,rfl⟩:=List.mem_iff_getElem.1 hn
  obtain ⟨ds,_,_,h3⟩:=hes i hi
  exact h3
theorem DX (hT:dO P T) (H:Rel cx σ α F a w) (hd:o.dst=some d) (hdn:d<cx.nt) {s t:TypeId} {x:Operand} (ho:o.op=.convert s t x)
  (h:(dz x fun a=>KA T d s t a fun ws=>(.ret ws:Prog (List Wr))).ends σ ws):lS P cx o a w (aj ws σ):=by
 obtain ⟨u,h1,h2,h5⟩:=bI H h
 have hrun:∀{v:Value} {w':World},(convert s t (a.eval x)).run P w=.ok v w'→(execOp a.eval o).run P w=.ok (.value v) w':=by
  intro v w' h
  simp only [execOp,ho,abR,h,abK,abW]
 have hstr:∀{B:ByteArray},(convert s t (a.eval x)).run P w=.ok (.string B) w→lS P cx o a w (aj [Wr.s d (v1 .str (bytesOf B))] σ):=by
  intro B hr
  exact bB H hd hdn (hrun hr) (show bz cx σ α F w (.val .str (bytesOf B) []) _ from Gq) sJ
 unfold KA at h5
 cases hs:T.ty s with
 | none=>rw [hs] at h5; exact h5.elim
 | some ks=>
  have hks:=hT.ty s ks hs
  cases ht:T.ty t with
  | none=>rw [hs,ht] at h5; cases ks <;> exact h5.elim
  | some kt=>
   have hkt:=hT.ty t kt ht
   rw [hs,ht] at h5
   obtain ⟨us,hus⟩:=hks.und
   cases kt with
   | int ik=>
    have h6:(match u with
     | .val (.int _) n _=>(.ret [Wr.s d (v1 (.int ik) (ik.wrap n))]:Prog (List Wr))
     | _=>.fail).ends σ ws:=by cases ks <;> exact h5
    split at h6
    ·obtain ⟨e1,e2⟩:=qo h1
     rw [az h6]
     refine bB H hd hdn (hrun ?_) (kF ik (jP _ _)) sJ
     rw [e1]
     unfold convert
     simp only [abR,run_underlying hus,run_underlying hkt.int,Result.andThen]
     rfl
    ·exact h6.elim
   | str=>
    cases ks with
    | str=>
     simp only at h5
     split at h5
     ·obtain ⟨B,e1,e2⟩:=qp h1
      subst e2
      rw [az h5]
      refine hstr ?_
      rw [e1]
      unfold convert
      simp only [abR,run_underlying hks.str,run_underlying hkt.str,Result.andThen]
      rfl
     ·exact h5.elim
    | sl e k1=>
     cases k1 with
     | int Ry=>
      cases Ry with
      | u8=>
       obtain ⟨hu,he,_,_⟩:=hks.sl
       have hgo:∀{b:Option Addr} {n c:Nat} {xs:List Int},a.eval x=.slice b n c→n=xs.length→(0<n→∃bb q,b=some ⟨bb,q,none⟩∧∀(i:Nat) (hi:i<xs.length),∃ds,Cells (hp w) bb (q+i * 1) ds∧Vw (hp w) (fun _=>True) (.int .u8) xs[i] ds)→
         ws=[Wr.s d (v1 .str xs)]→lS P cx o a w (aj ws σ):=by
        intro b n c xs e hn hes hws
        have hcv:(convert s t (a.eval x)).run P w=(Conv.bytesToString (.slice b n c)).run P w:=by
         rw [e]
         unfold convert
         simp only [abR,run_underlying hu,run_underlying hkt.str,run_underlying he.int,Result.andThen]
        cases b with
        | none=>
         have hx0:xs=[]:=by
          cases xs with
          | nil=>rfl
          | cons y ys=>
           obtain ⟨bb,q,h0,_⟩:=hes (by rw [hn]; simp)
           simp at h0
         subst hx0
         rw [hws]
         exact hstr (B:=ByteArray.empty) (hcv.trans rfl)
        | some ad=>
         by_cases h0:0<n
         ·obtain ⟨bb,q,e0,hes'⟩:=hes h0
          simp only [abr] at e0
          subst e0
          obtain ⟨g1,g2⟩:=IW hes'
          have hl:(loadCells ⟨bb,q,none⟩ n).run P w=.ok (xs.map (Value.int .u8)).toArray w:=by
           have:=run_loadCells_list (P:=P) w ⟨bb,q,none⟩ (xs.map (Value.int .u8)) (fun j v hj=>by
            rw [addr_add,qg,g1 j (List.getElem?_eq_some_iff.1 hj).1]
            exact hj)
           simpa [hn] using this
          have hb:=run_bytesToString w ⟨bb,q,none⟩ n c xs hl
          have hbe:=Gu xs ByteArray.empty g2
          have:xs=bytesOf (xs.foldl (fun r n=>r.push (UInt8.ofNat n.toNat)) ByteArray.empty):=by rw [hbe]; rfl
          rw [hws,this]
          exact hstr (hcv.trans hb)
         ·have hx0:xs=[]:=List.eq_nil_of_length_eq_zero (by omega)
          subst hx0
          have hn0:n=0:=by omega
          subst hn0
          have hl:(loadCells ad 0).run P w=.ok (([]:List Int).map (Value.int .u8)).toArray w:=rfl
          have hb:=run_bytesToString w ad 0 c [] hl
          rw [hws]
          exact hstr (B:=ByteArray.empty) (hcv.trans hb)
       cases u with
       | gK=>
        obtain ⟨b,e⟩:=h1
        exact hgo (xs:=[]) e rfl (fun h=>by omega) (az h5)
       | _=>
        obtain ⟨k',y,Tg,cs,g1,g2,g3,g4⟩:=oG H h1 h2 h5
        cases k' with
        | sl e' k2=>
         cases k2 with
         | int Vy=>
          cases Vy with
          | u8=>
           obtain ⟨b,n,c,f1,f2,f3,f4,f5⟩:=vC g1 g2
           refine hgo (xs:=y) f1 f3 (fun h0=>?_) (az g4)
           obtain ⟨bb,q,e0,_,_,hes⟩:=f5 h0
           exact ⟨bb,q,e0,fun i hi=>by
            obtain ⟨ds,m1,m2⟩:=hes i hi
            exact ⟨ds,m1,m2⟩⟩
          | _=>exact g4.elim
         | _=>exact g4.elim
        | _=>exact g4.elim
      | _=>exact h5.elim
     | _=>exact h5.elim
    | _=>exact h5.elim
   | sl e k1=>
    cases ks with
    | str=>
     cases k1 with
     | int Ry=>
      cases Ry with
      | u8=>
       simp only at h5
       split at h5
       ·obtain ⟨B,e1,e2⟩:=qp h1
        subst e2
        obtain ⟨g1,g2⟩:=eY h5
        rw [az g2]
        obtain ⟨hu,he,_,_⟩:=hkt.sl
        have hr:=run_bytes_of_string w s t e B hks.str hu he.int
        have hcap:=grownCap_ge w B.size 0 e
        have hsz:(bytesRow B (grownCap w B.size 0 e)).size=grownCap w B.size 0 e:=by
         simp [bytesRow]
         show B.data.size+_=_
         have:B.data.size=B.size:=rfl
         omega
        obtain ⟨α',F',r1,r2⟩:=C9 (r:=aS d 0) (e:=e) (k:=.int .u8) (xs:=bytesOf B) (own:=[e]) (arr:=bytesRow B (grownCap w B.size 0 e)) (lo:=(bytesRow B (grownCap w B.size 0 e)).size) (hi:=(bytesRow B (grownCap w B.size 0 e)).size+1) (n:=B.size) (c:=grownCap w B.size 0 e) H g1 (dZ d 0)
         (by simp [aA]) ⟨by omega,fun i hi=>by omega⟩ (iR B).symm hcap (by simp [K.size,hsz])
         (fun i hi=>by
          have hi':i<B.size:=by rw [←iR B]; exact hi
          refine ⟨[Value.int .u8 (bytesOf B)[i]],rfl,fun j hj=>?_,fun h ok=>⟨rfl,rfl, ?_⟩⟩
          ·simp only [abM] at hj
           have hj0:j=0:=by omega
           subst hj0
           have hid:i<B.data.size:=hi'
           simp only [K.size,Nat.mul_one,Nat.add_zero,List.getElem?_cons_zero]
           unfold bytesRow
           rw [Array.getElem?_append_left (by simpa using hid)]
           simp [bytesOf]
           exact ⟨B.data[i],Array.getElem?_eq_getElem hid,rfl⟩
          ·have:=(bytesOf B)[i]
           have hm:(bytesOf B)[i]∈bytesOf B:=abU hi
           unfold bytesOf at hm
           obtain ⟨y,_,hy⟩:=ab2.1 hm
           show (0:Int)≤(bytesOf B)[i]∧(bytesOf B)[i]<256
           have hy':(y.toNat:Int)=(bytesOf B)[i]:=hy
           rw [←hy']
           have:=y.toNat_lt
           omega) false (w.drawn+1)
        exact gq (x:=.one (.ref (aS d 0) 0)) r1 hd hdn (hrun (by rw [e1]; exact hr)) r2 ⟨_,aF .., .inr (ab0 _)⟩
       ·exact h5.elim
      | _=>exact h5.elim
     | _=>exact h5.elim
    | _=>
     cases k1 with
     | int Ry=>cases Ry <;> exact h5.elim
     | _=>exact h5.elim
   | _=>cases ks <;> exact h5.elim
end
end
section
open Go
variable [Fr]
section
variable {P:Program} {T:gL} {cx:Cx} {σ:St} {α:dA} {F:List Nat} {a:Act} {w:World} {o:Oper} {d:Nat} {ws:List Wr}
theorem pQ {k:K} (h:(∀a b,k≠.pair a b)∧k≠.unit∧∀n,k≠.gap n):(mJ k).cells=(bD k).toArray:=by
 have:=(IG h.1 h.2.1 h.2.2).cells
 apply Array.ext'
 simpa using this
theorem CV {z:Array Value} {n j:Nat} (h:j<n) (hz:0<z.size):(madeCells z n)[j]?=z[j % z.size]?:=by
 unfold madeCells
 have:j % z.size<z.size:=Nat.mod_lt _ hz
 simp [h,this]
theorem AX (hT:dO P T) (H:Rel cx σ α F a w) (hd:o.dst=some d) (hdn:d<cx.nt) {t:TypeId} {x y:Operand}
  (h:(match T.ty t with
   | some (.sl e kk)=>dz x fun a=>dz y fun b=>asInt a fun ik i=>asInt b fun jk j=>bif su ik .i64 && su jk .i64 then
     .nY (i=j∧0≤i∧i * T.bytes e≤140737488355328) inferInstance (gG (aS d 0)
      (.ret [Wr.r (aS d 0) (some (aD (.sl e kk) (List.replicate i.toNat kk.zero) (e :: kk.tys) [] .anon)),Wr.s d (.one (.ref (aS d 0) 0))]))
    else (.fail:Prog (List Wr))
   | _=>.fail).ends σ ws) (ho:o.op=.makeSlice t x y):lS P cx o a w (aj ws σ):=by
 cases hty:T.ty t with
 | none=>rw [hty] at h; exact h.elim
 | some k0=>
  rw [hty] at h
  cases k0 with
  | sl e kk=>
   have ht:=hT.ty t _ hty
   simp only at h
   obtain ⟨u,h1,_,h2⟩:=bI H h
   obtain ⟨v,h3,_,h4⟩:=bI H h2
   obtain ⟨ik,i,e1,_,h5⟩:=qO h1 h4
   obtain ⟨jk,j,e2,_,h6⟩:=qO h3 h5
   rcases ah h6 with ⟨_,h7⟩ | ⟨_,h7⟩
   ·obtain ⟨⟨hij,h0,hb⟩,h8⟩:=h7
    obtain ⟨g1,g2⟩:=eY h8
    rw [az g2]
    obtain ⟨hu,he,hk,ii,hi,hby,hpos⟩:=ht.sl
    obtain ⟨i',hi',hs',hz'⟩:=he.info
    rw [hi] at hi'
    simp only [abr] at hi'
    subst hi'
    obtain ⟨n,rfl⟩:∃n:Nat,i=n:=⟨i.toNat,by omega⟩
    subst hij
    have hbn:n * T.bytes e≤140737488355328:=by
     have:((n * T.bytes e:Nat):Int)≤140737488355328:=by simpa using hb
     omega
    have hn:n≤140737488355328:=by
     have:n * 1≤n * T.bytes e:=Nat.mul_le_mul_left _ (by omega)
     omega
    have hbi:(ii.bytes:Int) * (n:Int)≤281474976710656:=by
     rw [hby]
     have:((T.bytes e * n:Nat):Int)≤281474976710656:=by rw [Nat.mul_comm]; omega
     simpa using this
    have hr:=run_make (P:=P) w t e ii (mJ kk) hu hi hz' ik jk (n:Int) (n:Int) (by omega) (Int.le_refl _) hbi (by omega)
    simp only [abC,hs'] at hr
    have hsh:=he.shape
    have hzc:=pQ hsh
    have UU:∀h ok,Ow h (e :: kk.tys) ok kk kk.zero (bD kk) []:=fun h ok=>wO he.dV (fun t ht=>bu.2 (by simp [ht]))
    have hzl:(bD kk).length=kk.size:=cz (UU (hp w) (fun _=>True))
    have hms:(madeCells (mJ kk).cells (n * kk.size)).size=n * kk.size:=by simp [madeCells]
    obtain ⟨α',F',r1,r2⟩:=C9 (r:=aS d 0) (e:=e) (k:=kk) (xs:=List.replicate n kk.zero) (own:=e :: kk.tys) (arr:=madeCells (mJ kk).cells (n * kk.size)) (lo:=0) (hi:=0) (n:=n) (c:=n) H g1 (dZ d 0)
     (bu.2 (by simp)) wQ.zero (by simp) (abI _) (by rw [hms]; exact abI _)
     (fun i hi=>by
      have hi':i<n:=by simpa using hi
      refine ⟨bD kk,hzl,fun j hj=>?_,fun h ok=>?_⟩
      ·have hlt:i * kk.size+j<n * kk.size:=by
        have:(i+1) * kk.size≤n * kk.size:=abX _ (by omega)
        rw [Nat.add_mul,Nat.one_mul] at this
        omega
       rw [CV hlt (by rw [hzc]; simp; omega),hzc]
       simp only [List.size_toArray,hzl,List.getElem?_toArray]
       congr 1
       rw [Nat.mul_comm,Nat.mul_add_mod]
       exact Nat.mod_eq_of_lt (by omega)
      ·have:(List.replicate n kk.zero)[i]'hi=kk.zero:=by simp
       rw [this]
       exact UU h ok) false w.drawn
    refine gq (x:=.one (.ref (aS d 0) 0)) r1 hd hdn ?_ r2 ⟨_,aF .., .inr (ab0 _)⟩
    simp only [execOp,ho,e1,e2,abR,hr,abK,abW]
    rfl
   ·exact h7.elim
  | _=>exact h.elim
end
end
section
open Go
variable [Fr]
section
variable {P:Program} {T:gL} {cx:Cx} {σ:St} {α:dA} {F:List Nat} {a:Act} {w:World} {o:Oper} {d:Nat} {ws:List Wr}
def Zr (mx:Bool):Value→Value→Sem Value:=if mx then Builtin.max2 else Builtin.min2
theorem LU {A:Type} {z:A} {mx:Bool} {ik:IntKind} {k:Int→Prog A}:∀{l:List AV} {vs:List Value} {x:Int},dJ cx σ α F w l vs→Al ik x→(JJ mx ik x l k).ends σ z→
  ∃y,(vs.foldlM (Zr mx) (.int ik x)).run P w=.ok (.int ik y) w∧Al ik y∧(k y).ends σ z:=by
 intro l
 induction l with
 | nil=>
  intro vs x h1 hr h
  cases vs with
  | nil=>exact ⟨x,rfl,hr,h⟩
  | cons v vs=>exact h1.elim
 | cons u l ih=>
  intro vs x h1 hr h
  cases vs with
  | nil=>exact h1.elim
  | cons v vs=>
   cases u with
   | val k1 y Tg=>
    cases k1 with
    | int jk=>
     simp only [JJ] at h
     rcases ah h with ⟨hk,h5⟩ | ⟨_,h5⟩
     ·have:=tC hk
      subst this
      obtain ⟨e1,e2⟩:=qo h1.1
      subst e1
      have hr':Al ik (if mx=true then (if (show Int from y)>x then y else x) else (if (show Int from y)<x then y else x)):=by
       split <;> split <;> assumption
      obtain ⟨y',g1,g2,g3⟩:=ih h1.2 hr' h5
      refine ⟨y', ?_,g2,g3⟩
      rw [List.foldlM_cons,abR]
      have hstep:(Zr mx (.int ik x) (.int ik y)).run P w=.ok (.int ik (if mx=true then (if (show Int from y)>x then y else x) else (if (show Int from y)<x then y else x))) w:=by
       cases mx <;> rfl
      rw [hstep]
      exact g1
     ·exact h5.elim
    | _=>exact h.elim
   | _=>exact h.elim
theorem zu (H:Rel cx σ α F a w) (hd:o.dst=some d) (hdn:d<cx.nt) {c:Call} {mx:Bool} (ho:o.op=.call c) (hb:c.callee=.builtin (if mx then .max else .min))
  (h:(iI c.args.toList fun
   | .val (.int ik) x _ :: l=>JJ mx ik x l fun z=>.ret [Wr.s d (.one (.val (.int ik) z []))]
   | _=>(.fail:Prog (List Wr))).ends σ ws):lS P cx o a w (aj ws σ):=by
 obtain ⟨vs,h1,h2,h5⟩:=gY H h
 split at h5
 ·rename_i ik x Tg l
  cases hl:c.args.toList with
  | nil=>rw [hl] at h1; exact h1.elim
  | cons y l'=>
   rw [hl] at h1
   obtain ⟨e1,e2⟩:=qo h1.1
   obtain ⟨z,g1,g2,g3⟩:=LU (P:=P) (w:=w) h1.2 e2 h5
   rw [az g3]
   refine bB (v:=.int ik z) H hd hdn ?_ (Gp g2) (fun t ht=>by simp at ht)
   obtain ⟨cc,hcc⟩:=iw (P:=P) (a:=a) (w:=w) ho hb
   rw [hcc]
   have hargs:(c.args.map a.eval).toList=.int ik x :: l'.map a.eval:=by rw [Array.toList_map,hl,List.map_cons,e1]
   cases mx with
   | true=>
    have g1':(List.foldlM Builtin.max2 (Value.int ik x) (l'.map a.eval)).run P w=.ok (.int ik z) w:=g1
    simp only [if_true,builtin,Builtin.max_,hargs,abR,g1',abK,abW]
   | false=>
    have g1':(List.foldlM Builtin.min2 (Value.int ik x) (l'.map a.eval)).run P w=.ok (.int ik z) w:=g1
    simp only [abv,if_false,builtin,Builtin.min_,hargs,abR,g1',abK,abW]
 ·exact h5.elim
end
end
section
open Go
variable [Fr]
theorem fold_at:∀(vs:List Value) (k off:Nat) (cells:Array Value),off+k+vs.length≤cells.size→
  ((vs.zipIdx k).foldl (fun cs (p:Value×Nat)=>cs.setIfInBounds (off+p.2) p.1) cells).size=cells.size∧
  ∀i,((vs.zipIdx k).foldl (fun cs (p:Value×Nat)=>cs.setIfInBounds (off+p.2) p.1) cells)[i]?=if off+k≤i∧i<off+k+vs.length then vs[i - (off+k)]? else cells[i]?:=by
 intro vs
 induction vs with
 | nil=>intro k off cells h; exact ⟨rfl,fun i=>by simp; omega⟩
 | cons v vs ih=>
  intro k off cells h
  simp only [abP] at h
  simp only [List.zipIdx_cons,List.foldl_cons]
  obtain ⟨g1,g2⟩:=ih (k+1) off (cells.setIfInBounds (off+k) v) (by simp; omega)
  refine ⟨by rw [g1]; simp,fun i=>?_⟩
  rw [g2 i]
  simp only [abP]
  by_cases h1:off+(k+1)≤i∧i<off+(k+1)+vs.length
  ·rw [if_pos h1,if_pos (by omega)]
   have:i - (off+k)=(i - (off+(k+1)))+1:=by omega
   rw [this,List.getElem?_cons_succ]
  ·rw [if_neg h1]
   by_cases h2:i=off+k
   ·subst h2
    rw [if_pos (by omega),Array.getElem?_setIfInBounds_self_of_lt (by omega),Nat.sub_self]
    rfl
   ·rw [if_neg (by omega),Array.getElem?_setIfInBounds_ne (by omega)]
theorem KU (vs:List Value) (off:Nat) (cells:Array Value) (h:off+vs.length≤cells.size) :
  (vs.zipIdx.foldl (fun cs (p:Value×Nat)=>cs.setIfInBounds (off+p.2) p.1) cells)=(cells.toList.take off++(vs++cells.toList.drop (off+vs.length))).toArray:=by
 obtain ⟨g1,g2⟩:=fold_at vs 0 off cells (by omega)
 apply Array.ext_getElem?
 intro i
 rw [g2 i]
 simp only [Nat.add_zero,List.getElem?_toArray]
 by_cases h1:i<off
 ·rw [if_neg (by omega),List.getElem?_append_left (by simp; omega),List.getElem?_take_of_lt h1]
  simp
 ·by_cases h2:i<off+vs.length
  ·rw [if_pos (by omega),List.getElem?_append_right (by simp; omega),List.getElem?_append_left (by simp; omega)]
   congr 1
   simp
   omega
  ·rw [if_neg (by omega),List.getElem?_append_right (by simp; omega),List.getElem?_append_right (by simp; omega),List.getElem?_drop]
   rw [Array.getElem?_toList]
   congr 1
   simp
   omega
theorem xk {place:Nat→Option (Nat×Nat)} {cells:Array Value} {i off:Nat} {v:Value} {vs:List Value} {rest:List (Nat×Value)} (hp:place i=some (off,vs.length)) (hv:v.cells=vs.toArray) (hl:off+vs.length≤cells.size) :
  Instr.fill place cells ((i,v) :: rest)=Instr.fill place (cells.toList.take off++(vs++cells.toList.drop (off+vs.length))).toArray rest:=by
 rw [←KU vs off cells hl]
 conv=>lhs; unfold Instr.fill
 rw [hp]
 simp only [hv,List.size_toArray,ne_eq,not_true_eq_false,decide_false,Bool.false_or,decide_eq_true_eq]
 rw [if_neg (by omega)]
 simp
def jR:List (Nat×gp)→vK→Option vK
 | [],b=>some b
 | (n,tk) :: l,b=>match b.k,b.x with
  | .st c,x=>match aC n c x with
   | some d=>bif tk.k.beq d.1 then
     match bT n c x ⟨tk.k,tk.x⟩ with
     | some z=>jR l { k:=.st z.1,x:=z.2,bad:=tk.bad++b.bad,tags:=gH tk.fH b.tags,ws:=b.ws++tk.ws,keep:=tk.keep || b.keep,all:=tk.tags++b.all }
     | none=>none
    else none
   | none=>none
  | _,_=>none
section
variable {P:Program} {T:gL} {cx:Cx} {σ:St} {α:dA} {F:List Nat} {a:Act} {w:World}
theorem za {A:Type} {z:A} (H:Rel cx σ α F a w) {k:vK→Prog A}:∀{l:List (Nat×AV)} {vs:List Value} {b:vK},dJ cx σ α F w (l.map (·.2)) vs→(∀v∈l,l9 σ v.2)→(uX l b k).ends σ z→
  ∃(tks:List gp) (b':vK),tks.length=l.length∧vs.length=l.length∧(∀it∈vs.zip tks,qd cx σ α F w it.1 it.2)∧jR ((l.map (·.1)).zip tks) b=some b'∧(k b').ends σ z:=by
 intro l
 induction l with
 | nil=>
  intro vs b h1 _ h
  cases vs with
  | nil=>exact ⟨[],b,rfl,rfl,by simp,rfl,h⟩
  | cons v vs=>exact h1.elim
 | cons p l ih=>
  obtain ⟨n,x⟩:=p
  intro vs b h1 h2 h
  cases vs with
  | nil=>exact h1.elim
  | cons v vs=>
   obtain ⟨bk,bx,Xx,TJ,bws,TH,Xw⟩:=b
   cases bk with
   | st c=>
    simp only [uX] at h
    cases hg:aC n c bx with
    | none=>rw [hg] at h; exact h.elim
    | some d=>
     rw [hg] at h
     simp only at h
     obtain ⟨tk,htk,h5⟩:=lN H h1.1 (h2 (n,x) (by simp)) h
     rcases ah h5 with ⟨hk,h6⟩ | ⟨_,h6⟩
     ·cases hp:bT n c bx ⟨tk.k,tk.x⟩ with
      | none=>rw [hp] at h6; exact h6.elim
      | some zz=>
       rw [hp] at h6
       obtain ⟨tks,b',g1,g2,g3,g4,g5⟩:=ih h1.2 (fun v hv=>h2 v (by simp [hv])) h6
       refine ⟨tk :: tks,b',by simp [g1],by simp [g2], ?_, ?_,g5⟩
       ·intro it hit
        rw [List.zip_cons_cons] at hit
        rcases abE.1 hit with h | h
        ·subst h; exact htk
        ·exact g3 it h
       ·rw [List.map_cons,List.zip_cons_cons]
        unfold jR
        simp only [hg,hk,cond_true,hp]
        exact g4
     ·exact h6.elim
   | _=>exact h.elim
end
end
section
open Go
variable [Fr]
def qc (h:Heap) (own:List TypeId) (ok:Nat→Prop):List (Nat×gp)→List Value→List (List Nat)→Prop
 | [],[],[]=>True
 | p :: l,v :: vs,ft :: rQ=>(∃cs,VC p.2.k v cs∧Ow h own ok p.2.k p.2.x cs ft)∧qc h own ok l vs rQ
 | _,_,_=>False
theorem y9 {h:Heap} {own:List TypeId} {ok:Nat→Prop} {place:Nat→Option (Nat×Nat)} {c:K} (hpl:∀n off k,aV n c=some (off,k)→place n=some (off,k.size)) :
  ∀(l:List (Nat×gp)) {vs:List Value} {rQ:List (List Nat)} {x:El c} {cs:List Value} {fo:List Nat} {bad:List TypeId} {tags:List Tag} {ws:List Wr} {kp:Bool} {all:List Tag} {b':vK},
   Ow h own ok c x cs fo→qc h own ok l vs rQ→jR l ⟨.st c,x,bad,tags,ws,kp,all⟩=some b'→
   ∃(x':El c) (cs':List Value) (gu rest:List Nat) (bad':List TypeId) (tags':List Tag) (ws':List Wr) (kp':Bool) (all':List Tag),b'=⟨.st c,x',bad',tags',ws',kp',all'⟩∧Ow h own ok c x' cs' gu∧(fo++rQ.flatten).Perm (gu++rest)∧
    Instr.fill place cs.toArray ((l.map (·.1)).zip vs)=some cs'.toArray:=by
 intro l
 induction l with
 | nil=>
  intro vs rQ x cs fo bad tags ws kp all b' H hP hb
  cases vs with
  | nil=>
   cases rQ with
   | nil=>
    simp only [jR,abr] at hb
    exact ⟨x,cs,fo,[],bad,tags,ws,kp,all,hb.symm,H,by simp,rfl⟩
   | cons f fs=>exact hP.elim
  | cons v vs=>cases rQ <;> exact hP.elim
 | cons p l ih=>
  obtain ⟨n,tk⟩:=p
  intro vs rQ x cs fo bad tags ws kp all b' H hP hb
  cases vs with
  | nil=>cases rQ <;> exact hP.elim
  | cons v vs=>
   cases rQ with
   | nil=>exact hP.elim
   | cons ft rQ=>
    obtain ⟨⟨cst,hv,hO⟩,hP'⟩:=hP
    unfold jR at hb
    simp only at hb
    cases hg:aC n c x with
    | none=>rw [hg] at hb; simp at hb
    | some d=>
     rw [hg] at hb
     simp only at hb
     cases hk:tk.k.beq d.1 with
     | false=>rw [hk] at hb; simp at hb
     | true=>
      rw [hk] at hb
      simp only [cond_true] at hb
      cases hp:bT n c x ⟨tk.k,tk.x⟩ with
      | none=>rw [hp] at hb; simp at hb
      | some z=>
       rw [hp] at hb
       simp only at hb
       have ek:=K.eq_of_beq hk
       have ez:=zl n hg hp ek
       obtain ⟨off,pre,cs1,post,eX,fr,ho,ec,hl,hpf,hd,hu,_⟩:=yH n H hg
       have r:=hu h ok ⟨tk.k,tk.x⟩ cst ft z hp hO (fun b hb=>⟨hb,rfl⟩) (fun _ _=>rfl)
       obtain ⟨zk,zx⟩:=z
       simp only at ez
       subst ez
       obtain ⟨x',cs',gu,rest,bad',tags',ws',kp',all',g1,g2,g3,g4⟩:=ih r hP' hb
       refine ⟨x',cs',gu,eX++rest,bad',tags',ws',kp',all',g1,g2, ?_, ?_⟩
       ·simp only [List.flatten_cons]
        have s1:(fo++(ft++rQ.flatten)).Perm ((eX++fr)++(ft++rQ.flatten)):=List.Perm.append_right _ hpf
        have s2:((eX++fr)++(ft++rQ.flatten)).Perm (eX++((ft++fr)++rQ.flatten)):=by
         rw [abN]
         refine List.Perm.append_left _ ?_
         rw [←abN]
         exact List.Perm.append_right _ List.perm_append_comm
        exact s1.trans (s2.trans ((List.Perm.append_left _ g3).trans qX))
       ·rw [List.map_cons,List.zip_cons_cons]
        have hcl:cst.length=d.1.size:=by rw [cz hO,ek]
        have wC:v.cells=cst.toArray:=by
         have:=hv.cells
         apply Array.ext'
         simpa using this
        rw [xk (off:=off) (vs:=cst) (by rw [hcl]; exact hpl n off d.1 ho) wC (by rw [ec]; simp; have:=cz hd; omega)]
        have e2:(cs.toArray.toList.take off++(cst++cs.toArray.toList.drop (off+cst.length)))=pre++(cst++post):=by
         have hd1:=cz hd
         simp only
         rw [ec, ←hl]
         simp [hcl, ←hd1]
        rw [e2]
        exact g4
end
section
open Go
variable [Fr]
theorem rY:∀(l:List (Nat×gp)) {b b':vK},jR l b=some b'→
  b'.ws=b.ws++l.flatMap (fun p=>p.2.ws)∧(∀p∈l,∀t∈p.2.tags,t∈b'.all)∧(∀t∈b.all,t∈b'.all)∧(∀p∈l,∀t∈p.2.bad,t∈b'.bad)∧(∀t∈b.bad,t∈b'.bad)∧
  (∀p∈l,∀t∈p.2.fH,t∈b'.tags)∧(∀t∈b.tags,t∈b'.tags)∧(∀t∈b'.tags,t∈b.tags∨∃p∈l,t∈p.2.fH):=by
 intro l
 induction l with
 | nil=>
  intro b b' h
  simp only [jR,abr] at h
  subst h
  simp
 | cons p l ih=>
  obtain ⟨n,tk⟩:=p
  intro b b' h
  obtain ⟨bk,bx,Xx,TJ,bws,TH,Xw⟩:=b
  cases bk with
  | st c=>
   unfold jR at h
   simp only at h
   cases hg:aC n c bx with
   | none=>rw [hg] at h; simp at h
   | some d=>
    rw [hg] at h
    simp only at h
    cases hk:tk.k.beq d.1 with
    | false=>rw [hk] at h; simp at h
    | true=>
     rw [hk] at h
     simp only [cond_true] at h
     cases hp:bT n c bx ⟨tk.k,tk.x⟩ with
     | none=>rw [hp] at h; simp at h
     | some z=>
      rw [hp] at h
      simp only at h
      obtain ⟨g1,g2,g3,g4,g5,g6,g7,g8⟩:=ih h
      refine ⟨by rw [g1]; simp, ?_,fun t ht=>g3 t (by simp [ht]), ?_,fun t ht=>g5 t (by simp [ht]), ?_,fun t ht=>g7 t (bX.2 (.inr ht)), ?_⟩
      ·intro p hp t ht
       rcases abE.1 hp with h | h
       ·subst h; exact g3 t (by simp [ht])
       ·exact g2 p h t ht
      ·intro p hp t ht
       rcases abE.1 hp with h | h
       ·subst h; exact g5 t (by simp [ht])
       ·exact g4 p h t ht
      ·intro p hp t ht
       rcases abE.1 hp with h | h
       ·subst h; exact g7 t (bX.2 (.inl ht))
       ·exact g6 p h t ht
      ·intro t ht
       rcases g8 t ht with h | ⟨p,h1,h2⟩
       ·rcases bX.1 h with h | h
        ·exact .inr ⟨(n,tk),by simp,h⟩
        ·exact .inl h
       ·exact .inr ⟨p,by simp [h1],h2⟩
  | _=>simp [jR] at h
theorem qc.mono {h:Heap} {own:List TypeId} {ok ok':Nat→Prop} (hk:∀b,ok b→ok' b):∀{l:List (Nat×gp)} {vs:List Value} {rQ:List (List Nat)},qc h own ok l vs rQ→qc h own ok' l vs rQ
 | [],[],[],_=>trivial
 | _ :: _,_ :: _,_ :: _,hP=>⟨by obtain ⟨cs,h1,h2⟩:=hP.1; exact ⟨cs,h1,aY (fun _ _=>rfl) hk (fun _ _=>rfl) h2⟩,qc.mono hk hP.2⟩
 | [],[],_ :: _,hP=>hP.elim
 | [],_ :: _,_,hP=>hP.elim
 | _ :: _,[],_,hP=>hP.elim
 | _ :: _,_ :: _,[],hP=>hP.elim
section
variable {cx:Cx} {σ:St} {α:dA} {F:List Nat} {w:World}
theorem qD {own':List TypeId} {T:List Tag}:∀(items:List (Nat×Value×gp)) {hs:List (List Value×List Nat)},lY cx σ α F w (items.map (·.2)) hs→(∀it∈items,∀t∈it.2.2.bad,aA t own'=false)→(∀it∈items,∀t∈it.2.2.fH,t∈T)→
  ∃(rQ:List (List Nat)) (sZ:List Nat),(hs.flatMap (·.2)).Perm (rQ.flatten++sZ)∧qc (hp w) own' (fun b=>gy cx σ α F w T b∨b∈sZ) (items.map fun p=>(p.1,p.2.2)) (items.map (·.2.1)) rQ:=by
 intro items
 induction items with
 | nil=>
  intro hs h _ _
  cases hs with
  | nil=>exact ⟨[],[],by simp,trivial⟩
  | cons _ _=>exact h.elim
 | cons it items ih=>
  obtain ⟨n,v,tk⟩:=it
  intro hs h hbad htag
  cases hs with
  | nil=>exact h.elim
  | cons hd hs=>
   obtain ⟨cs,fo⟩:=hd
   obtain ⟨⟨h1,h2,h3⟩,h4⟩:=h
   obtain ⟨rQ,sZ,g1,g2⟩:=ih h4 (fun it hit=>hbad it (by simp [hit])) (fun it hit=>htag it (by simp [hit]))
   have hO:=h2.ow h3
   have hO2:Ow (hp w) tk.own (fun b=>gy cx σ α F w T b) tk.k tk.x cs fo:=by
    cases hb:tk.bad with
    | nil=>exact jC hb hO
    | cons t0 l=>
     have e:tk.fH=tk.tags:=by unfold gp.fH; rw [hb]
     exact aY (fun _ _=>rfl) (fun b hb=>pE hb (fun t ht=>htag (n,v,tk) (by simp) t (by show t∈tk.fH; rw [e]; exact ht))) (fun _ _=>rfl) hO
   obtain ⟨ft,uO,p1,p2⟩:=om (own':=own') (fun t ht hm=>by
    rcases uu (own:=tk.own) ht with h | h
    ·have:=hbad (n,v,tk) (by simp) t h
     rw [hm] at this
     simp at this
    ·exact h) hO2
   refine ⟨ft :: rQ,uO++sZ, ?_,⟨cs,h1,aY (fun _ _=>rfl) (fun b hb=>?_) (fun _ _=>rfl) p2⟩,g2.mono (fun b hb=>?_)⟩
   ·simp only [List.flatMap_cons,List.flatten_cons]
    refine (p1.append g1).trans ?_
    simp only [abN]
    refine List.Perm.append_left _ ?_
    exact qX
   ·rcases hb with hb | hb
    ·exact .inl hb
    ·exact .inr (by simp [hb])
   ·rcases hb with hb | hb
    ·exact .inl hb
    ·exact .inr (by simp [hb])
end
end
section
open Go
variable [Fr]
theorem JN {P:Program} {T:gL}:∀{c:K} {fs:List Field} {Ac:Nat},(iC P T c).2 fs Ac→
  ∃places,fs.mapM (fun f=>(P.info? f.type).map fun i=>(f.offset,i.size))=some places∧∀n off k,aV n c=some (off,k)→places[n]?=some (Ac+off,k.size):=by
 intro c
 induction c with
 | unit=>
  intro fs Ac h
  have h':fs=[]:=h
  subst h'
  exact ⟨[],rfl,fun n off k ho=>by cases n <;> simp [aV] at ho⟩
 | pair a b iha ihb=>
  intro fs Ac h
  cases fs with
  | nil=>exact h.elim
  | cons f fs=>
   obtain ⟨h1,h2,h3,h4⟩:=h
   obtain ⟨pl,g1,g2⟩:=ihb h4
   obtain ⟨i,i1,i2,_⟩:=eP.info (show eP P T f.type a from h2)
   refine ⟨(Ac,a.size) :: pl, ?_, ?_⟩
   ·rw [List.mapM_cons,i1,g1]
    simp [h1,i2]
   ·intro n off k ho
    cases n with
    | zero=>
     simp only [aV,abr,abD] at ho
     obtain ⟨rfl,rfl⟩:=ho
     rfl
    | succ n=>
     simp only [aV] at ho
     cases h5:aV n b with
     | none=>rw [h5] at ho; simp at ho
     | some q=>
      rw [h5] at ho
      simp only [abr,abD] at ho
      rw [List.getElem?_cons_succ,g2 n q.1 q.2 (by rw [h5]), ←ho.1, ←ho.2]
      congr 2
      omega
 | _=>intro fs Ac h; exact h.elim
theorem zb {P:Program} {T:gL} {t:TypeId} {c:K} (ht:eP P T t (.st c)):∃place:Nat→Option (Nat×Nat),(∀n off k,aV n c=some (off,k)→place n=some (off,k.size))∧
  ∀parts,P.built t parts=Instr.fill place (bD c).toArray parts:=by
 obtain ⟨fs,hu,hf⟩:=ht.st
 obtain ⟨i,i1,i2,i3⟩:=ht.info
 obtain ⟨pl,g1,g2⟩:=JN hf
 refine ⟨(pl.toArray[·]?),fun n off k ho=>?_,fun parts=>?_⟩
 ·have:=g2 n off k ho
  simpa using this
 ·unfold Program.built
  rw [i1,hu]
  simp only [i3,g1]
  rfl
theorem q9 {h:Heap} {own:List TypeId} {ok:Nat→Prop}:∀{k:K},dV k=true→Ow h own ok k k.zero (bD k) []:=by
 intro k
 induction k with
 | int ik=>intro _; exact ⟨rfl,rfl,by cases ik <;> simp [Al,K.zero]⟩
 | bool=>intro _; exact ⟨rfl,rfl⟩
 | id e=>intro _; exact ⟨rfl,by show _=[Fr.Rv 0]; rw [Fr.UW]; rfl⟩
 | str=>intro _; exact ⟨rfl,ByteArray.empty,rfl,rfl⟩
 | sl e k ih=>intro _; exact tX
 | unit=>intro _; exact ⟨rfl,rfl⟩
 | pair a b iha ihb=>
  intro hg
  simp [dV] at hg
  exact ⟨bD a,bD b,[],[],rfl, .refl _,iha hg.1,ihb hg.2⟩
 | st f ih=>intro hg; exact ih hg
 | gap n=>intro hg; simp [dV] at hg
theorem vD {cx:Cx} {σ:St} {α:dA} {F:List Nat} {w:World} {r:Nat} (hn:σ.roots r=none):∀{l:List (Value×gp)},(∀it∈l,qd cx σ α F w it.1 it.2)→r∉(nO l).flatMap Wr.nG:=by
 intro l h hm
 simp only [nO,ab3] at hm
 obtain ⟨wr,⟨it,hit,hw⟩,hr⟩:=hm
 cases h it hit with
 | held hws cs hv hh hc=>rw [hws] at hw; simp at hw
 | ref q R hlr hv e hk hd=>
  rw [e] at hw
  simp only [abL] at hw
  subst hw
  simp only [Wr.nG,abL] at hr
  rw [hr,hlr.1] at hn
  simp at hn
 | cut q R cs hlr hv hk e hd hl Js how=>
  rw [e.2.2.1] at hw
  simp only [abL] at hw
  subst hw
  simp only [Wr.nG,abL] at hr
  rw [hr,hlr.1] at hn
  simp at hn
 | gap q R p dd z hlr hv hg hz eZ hown hpv e hnn=>
  rw [e] at hw
  simp only [abL] at hw
  subst hw
  simp only [Wr.nG,abL] at hr
  rw [hr,hlr.1] at hn
  simp at hn
theorem xG:∀(ns:List Nat) (vs:List Value) (ts:List gp),ns.length=ts.length→vs.length=ts.length→
  ((ns.zip (vs.zip ts)).map (·.2)=vs.zip ts)∧((ns.zip (vs.zip ts)).map (fun p=>(p.1,p.2.2))=ns.zip ts)∧((ns.zip (vs.zip ts)).map (·.2.1)=vs)∧(nO (vs.zip ts)=(ns.zip ts).flatMap (fun p=>p.2.ws)):=by
 intro ns
 induction ns with
 | nil=>
  intro vs ts h1 h2
  cases ts with
  | nil=>cases vs with
   | nil=>exact ⟨rfl,rfl,rfl,rfl⟩
   | cons _ _=>simp at h2
  | cons _ _=>simp at h1
 | cons n ns ih=>
  intro vs ts h1 h2
  cases ts with
  | nil=>simp at h1
  | cons t ts=>
   cases vs with
   | nil=>simp at h2
   | cons v vs=>
    obtain ⟨g1,g2,g3,g4⟩:=ih vs ts (by simpa using h1) (by simpa using h2)
    refine ⟨by simp [g1],by simp [g2],by simp [g3], ?_⟩
    unfold nO at g4 ⊢
    simp [g4]
end
section
open Go
variable [Fr]
section
variable {P:Program} {T:gL} {cx:Cx} {σ:St} {α:dA} {F:List Nat} {a:Act} {w:World} {o:Oper} {d:Nat} {ws:List Wr}
theorem qi:∀{l:List (Value×gp)} {hs:List (List Value×List Nat)},lY cx σ α F w l hs→∀b∈hs.flatMap (·.2),b∈F
 | [],[],_,b,hb=>by simp at hb
 | _ :: _,hd :: hs,h,b,hb=>by
  simp only [List.flatMap_cons,abB] at hb
  rcases hb with hb | hb
  ·exact h.1.2.1.sub b hb
  ·exact qi h.2 b hb
 | [],_ :: _,h,_,_=>h.elim
 | _ :: _,[],h,_,_=>h.elim
theorem rR:∀{l:List (Value×gp)} {hs:List (List Value×List Nat)},lY cx σ α F w l hs→∀it∈l,dW σ it.2.tags
 | [],[],_,it,hi=>by simp at hi
 | _ :: _,hd :: hs,h,it,hi=>by
  rcases abE.1 hi with hi | hi
  ·subst hi; exact h.1.2.1.wt
  ·exact rR h.2 it hi
 | [],_ :: _,h,_,_=>h.elim
 | _ :: _,[],h,_,_=>h.elim
theorem BB (hT:dO P T) (H:Rel cx σ α F a w) (hd:o.dst=some d) (hdn:d<cx.nt) {t:TypeId} {ps:Array (Nat×Operand)}
  (h:(match T.ty t with
   | some (.st c)=>uN ps.toList fun l=>uX l ⟨.st c,(K.st c).zero,[],[],[],false,[]⟩ fun b=>bif !wN b.ws b.all then .fail else bif b.k.tys.all fun t=>aA t b.bad then
     .ret (b.ws++[Wr.s d (.one (.val b.k b.x b.tags))])
    else gG (aS d 0) (.ret (b.ws++[Wr.r (aS d 0) (some (aD b.k b.x (aZ b.k.tys b.bad) b.tags .anon b.keep)),Wr.s d (.one (.ref (aS d 0) 0))]))
   | _=>(.fail:Prog (List Wr))).ends σ ws) (ho:o.op=.build t ps):lS P cx o a w (aj ws σ):=by
 cases hty:T.ty t with
 | none=>rw [hty] at h; exact h.elim
 | some k0=>
  rw [hty] at h
  cases k0 with
  | st c=>
   have ht:=hT.ty t _ hty
   simp only at h
   obtain ⟨vs,e1,h1,h2,h3⟩:=xh H h
   obtain ⟨tks,b',l1,l2,HZ,xS,h4⟩:=za H h1 h2 h3
   have hlen:vs.length=tks.length:=l1.symm
   have zR:(vs.map (·.1)).length=tks.length:=by rw [List.length_map]; exact hlen
   have zU:((evs a ps.toList).map (·.2)).length=tks.length:=by rw [l2]; exact hlen
   generalize hns:vs.map (·.1)=ns at *
   generalize hvv:(evs a ps.toList).map (·.2)=vals at *
   obtain ⟨z1,z2,z3,z4⟩:=xG ns vals tks zR zU
   obtain ⟨f1,f2,f3,f4,f5,f6,f7,f8⟩:=rY _ xS
   simp only [List.nil_append] at f1
   rcases ah h4 with ⟨_,h5⟩ | ⟨hws,h5⟩
   ·exact h5.elim
   ·have uZ:wN b'.ws b'.all=true:=by simpa using hws
    unfold wN at uZ
    simp only [aby] at uZ
    have hw1:=oU.1 uZ.1
    have hw2:=rE.1 uZ.2
    rw [f1, ←z4] at hw1 hw2
    obtain ⟨α',F',hs,H',hA,hnd,hnF,XJ,hS,_⟩:=takes (vals.zip tks) H HZ hw1 (fun tg nL=>hw2 tg (by
     obtain ⟨it,hit,h6⟩:=ab3.1 nL
     have:it∈(ns.zip (vals.zip tks)).map (·.2):=by rw [z1]; exact hit
     obtain ⟨q,hq,rfl⟩:=ab2.1 this
     exact f2 (q.1,q.2.2) (by rw [←z2]; exact ab2.2 ⟨q,hq,rfl⟩) tg h6))
    have OU:=hA
    rw [←z1] at hA
    obtain ⟨rQ,sZ,p1,p2⟩:=qD (own':=aZ (K.st c).tys b'.bad) (T:=b'.tags) (ns.zip (vals.zip tks)) hA
     (fun it hit tg nL=>by
      cases hm:aA tg (aZ (K.st c).tys b'.bad) with
      | false=>rfl
      | true=>exact absurd (f4 (it.1,it.2.2) (by rw [←z2]; exact ab2.2 ⟨it,hit,rfl⟩) tg nL) (cZ.1 hm).2)
     (fun it hit tg nL=>f6 (it.1,it.2.2) (by rw [←z2]; exact ab2.2 ⟨it,hit,rfl⟩) tg nL)
    rw [z2,z3,z1] at p2
    obtain ⟨place,q1,q2⟩:=zb ht
    obtain ⟨x',cs',gu,rest,bad',tags',Pw,kp',all',r1,r2,r3,r4⟩:=y9 q1 (ns.zip tks) (x:=(K.st c).zero) (cs:=bD c) (fo:=[]) (q9 (k:=c) ht.dV) p2 xS
    subst r1
    simp only at uZ f1 f2 f3 f4 f5 f6 f7 f8 h5 p2 r2 r3
    have hzn:(ns.zip tks).map (·.1)=ns:=by rw [List.map_fst_zip (by omega)]
    have hparts:((ps.map fun (p:Nat×Operand)=>(p.1,a.eval p.2)).toList)=ns.zip vals:=by
     rw [Array.toList_map, ←hvv,e1]
     have:∀l:List (Nat×Operand),l.map (fun p=>(p.1,a.eval p.2))=(l.map (·.1)).zip ((evs a l).map (·.2)):=by
      intro l
      induction l with
      | nil=>rfl
      | cons p l ih=>simp [evs] at ih ⊢; exact ih
     exact this _
    have hrun:(execOp a.eval o).run P w=.ok (.value (.agg cs'.toArray)) w:=by
     have hb:=run_build (P:=P) w t (ps.map fun (p:Nat×Operand)=>(p.1,a.eval p.2)) cs'.toArray (by rw [hparts,q2, ←r4,hzn])
     simp only [execOp,ho,abR,hb,abK,abW]
    have hperm:(hs.flatMap (·.2)).Perm (gu++(rest++sZ)):=by
     refine p1.trans ?_
     rw [←abN]
     exact List.Perm.append_right _ (by simpa using r3)
    have qU:=hperm.nodup hnd
    have hin:∀b∈hs.flatMap (·.2),b∈F':=qi OU
    have yu:∀b∈gu,b∈F':=fun b hb=>hin b (hperm.mem_iff.2 (by simp [hb]))
    have Jl:∀b∈sZ,b∈F'∧b∉gu:=fun b hb=>⟨hin b (hperm.mem_iff.2 (by simp [hb])),fun h=>(abz.1 qU).2.2 b h b (by simp [hb]) rfl⟩
    have hV:VC (.st c) (.agg cs'.toArray) cs':=rfl
    have hwt:dW (aj (nO (vals.zip tks)) σ) tags':=by
     intro tg nL
     rcases f8 tg nL with h | ⟨q,hq,hq2⟩
     ·simp at h
     ·rw [←z2] at hq
      obtain ⟨it,hit,rfl⟩:=ab2.1 hq
      have hit2:it.2∈vals.zip tks:=by rw [←z1]; exact ab2.2 ⟨it,hit,rfl⟩
      exact uF (rR OU it.2 hit2) tg hq2
    have Jv:Pw=nO (vals.zip tks):=by rw [f1,z4]
    rcases ah h5 with ⟨hall,h6⟩ | ⟨_,h6⟩
    ·rw [az h6]
     have hnone:∀tg∈c.tys,aA tg (aZ (K.st c).tys bad')=false:=by
      intro tg nL
      cases hm:aA tg (aZ (K.st c).tys bad') with
      | false=>rfl
      | true=>
       have:=abH.1 hall tg nL
       exact absurd (bu.1 this) (cZ.1 hm).2
     have zP:gu=[]:=by
      cases hf:gu with
      | nil=>rfl
      | cons b l=>
       obtain ⟨e,g1,g2,_⟩:=oQ (k:=c) r2 b (by rw [hf]; simp)
       rw [hnone e g1] at g2
       simp at g2
     have T2:=wG (w':=w) (F':=F'.filter fun b=>!aA b sZ) H' ⟨rfl,rfl,rfl⟩ (abI _) (fun _ _ h=>absurd rfl h) (fun b hb=>.inl (abJ.1 hb).1) (H'.rZ.filter _)
     have H2:=H'.mem T2
     have hok:∀b,(gy cx (aj (nO (vals.zip tks)) σ) α' F' w tags' b∨b∈sZ)→gy cx (aj (nO (vals.zip tks)) σ) α' (F'.filter fun b=>!aA b sZ) w tags' b:=by
      rintro b (hb | hb)
      ·exact ⟨hb.1,fun h=>hb.2.1 (abJ.1 h).1,hb.2.2⟩
      ·have AB:=(Jl b hb).1
       have hm:=H'.fl b AB
       refine ⟨hm.1,fun h=>?_,mO H' AB,fun q Q hq hbq=>absurd AB (H'.gQ q Q hq b hbq),fun h0=>?_⟩
       ·have:=(abJ.1 h).2
        simp only [Bool.not_eq_true',aO] at this
        exact this hb
       ·rcases hm.2 with h | ⟨j,pi,h1,h2⟩
        ·omega
        ·exact .inr ⟨j,pi,h1,h2⟩
     have hVw:=iY (k:=.st c) _ hok (fun b hb=>by rw [zP] at hb; simp at hb) r2
     rw [Jv,bK]
     exact gq (x:=.one (.val (.st c) x' tags')) H2 hd hdn hrun (show bz cx _ α' _ w (.val (.st c) x' tags') _ from fun _=>⟨cs',hV,hVw⟩) hwt
    ·obtain ⟨g1,g2⟩:=eY h6
     rw [az g2]
     have hnr:=vD g1 HZ
     have hn1:(aj (nO (vals.zip tks)) σ).roots (aS d 0)=none:=by rw [(hS _ hnr).root]; exact g1
     obtain ⟨vI,k1,k2⟩:=qN (k:=.st c) (x:=x') (own:=aZ (K.st c).tys bad') (tags:=tags') (v:=.agg cs'.toArray) (cs:=cs') (fo:=gu) (r:=aS d 0) (F':=F'.filter fun b=>!aA b (gu++sZ)) H' hn1 (dZ d 0)
      yu (abz.1 qU).1 hwt (fun b hb=>by
       rw [abJ] at hb
       have:=hb.2
       simp only [Bool.not_eq_true',aO,abB,not_or] at this
       exact ⟨hb.1,this.1⟩) (H'.rZ.filter _) (cz (k:=c) r2)
      (fun _=>aY (k:=.st c) (fun _ _=>rfl) (fun b hb=>by
       rcases hb with hb | hb
       ·exact .inl hb
       ·refine .inr ⟨(Jl b hb).1,fun h=>?_,(Jl b hb).2⟩
        rw [abJ] at h
        have:=h.2
        simp only [Bool.not_eq_true',aO,abB,not_or] at this
        exact this.2 hb) (fun _ _=>rfl) r2) hV kp'
     rw [Jv,bK]
     exact gq (x:=.one (.ref (aS d 0) 0)) k1 hd hdn hrun k2 ⟨_,aF .., .inr (ab0 _)⟩
  | _=>exact h.elim
theorem tT:∀(ws:List Wr) (σ:St) (n:Nat),(aj ws σ).slots n=(tQ ws n).getD (σ.slots n)
 | [],_,_=>rfl
 | .s m x :: ws,σ,n=>by
  show (aj ws ((Wr.s m x).app σ)).slots n=_
  rw [tT ws]
  simp only [tQ]
  cases tQ ws n with
  | some b=>rfl
  | none=>
   show upd σ.slots m x n=Option.getD (bif Nat.beq n m then some x else none) (σ.slots n)
   unfold upd
   cases Nat.beq n m <;> rfl
 | .r m q :: ws,σ,n=>by
  show (aj ws ((Wr.r m q).app σ)).slots n=_
  rw [tT ws]
  simp only [tQ]
  cases q <;> rfl
theorem tO:∀(ws:List Wr) (σ:St) (n:Nat),(aj ws σ).roots n=(vk ws n).getD (σ.roots n)
 | [],_,_=>rfl
 | .s m x :: ws,σ,n=>by
  show (aj ws ((Wr.s m x).app σ)).roots n=_
  rw [tO ws]
  rfl
 | .r m q :: ws,σ,n=>by
  show (aj ws ((Wr.r m q).app σ)).roots n=_
  rw [tO ws]
  simp only [vk]
  cases vk ws n with
  | some b=>rfl
  | none=>
   cases q with
   | none=>
    show upd σ.roots m (some bN) n=Option.getD (bif Nat.beq n m then some (some bN) else none) (σ.roots n)
    unfold upd
    cases Nat.beq n m <;> rfl
   | some q=>
    show upd σ.roots m (some q) n=Option.getD (bif Nat.beq n m then some (some q) else none) (σ.roots n)
    unfold upd
    cases Nat.beq n m <;> rfl
theorem JL {A:Type} {us:List Wr} {z:A}:∀{p:Prog A},(p.over us).ends σ z→p.ends (aj us σ) z:=by
 intro p
 induction p with
 | ret _=>exact fun h=>h
 | fail=>exact fun h=>h
 | slot n k ih=>
  intro h
  show (k ((aj us σ).slots n)).ends _ z
  rw [tT]
  simp only [Prog.over] at h
  cases hl:tQ us n with
  | some v=>rw [hl] at h; exact ih _ h
  | none=>rw [hl] at h; exact ih _ h
 | root n k ih=>
  intro h
  show (k ((aj us σ).roots n)).ends _ z
  rw [tO]
  simp only [Prog.over] at h
  cases hl:vk us n with
  | some v=>rw [hl] at h; exact ih _ h
  | none=>rw [hl] at h; exact ih _ h
 | nY c d k ih=>exact fun h=>⟨h.1,ih h.2⟩
 | br c t e Gi Gh=>exact fun h=>h.imp (fun h=>⟨h.1,Gi h.2⟩) (fun h=>⟨h.1,Gh h.2⟩)
 | opt β q k ih=>
  rintro ⟨b,h1,h2⟩
  exact ⟨b,h1,ih b h2⟩
theorem wY {A B:Type} {f:A→Prog B} {z:B}:∀{p:Prog A},(p.bind f).ends σ z→∃x,p.ends σ x∧(f x).ends σ z:=by
 intro p
 induction p with
 | ret x=>exact fun h=>⟨x,rfl,h⟩
 | fail=>exact fun h=>h.elim
 | slot n k ih=>exact fun h=>ih _ h
 | root n k ih=>exact fun h=>ih _ h
 | nY c d k ih=>exact fun h=>let ⟨x,h1,h2⟩:=ih h.2; ⟨x,⟨h.1,h1⟩,h2⟩
 | br c t e Gi Gh=>
  rintro (h | h)
  ·obtain ⟨x,h1,h2⟩:=Gi h.2
   exact ⟨x, .inl ⟨h.1,h1⟩,h2⟩
  ·obtain ⟨x,h1,h2⟩:=Gh h.2
   exact ⟨x, .inr ⟨h.1,h1⟩,h2⟩
 | opt β q k ih=>
  rintro ⟨b,h1,h2⟩
  obtain ⟨x,h3,h4⟩:=ih b h2
  exact ⟨x,⟨b,h1,h3⟩,h4⟩
theorem xB {p q:Prog (List Wr)} {z:List Wr} (h:(Oc p q).ends σ z):∃us vs,p.ends σ us∧q.ends (aj us σ) vs∧z=us++vs:=by
 obtain ⟨us,h1,h2⟩:=wY h
 obtain ⟨vs,h3,h4⟩:=wY h2
 exact ⟨us,vs,h1,JL h3,h4⟩
theorem LM:∀{c:K} {us us' cs:List Value},JD c us cs→JD c us' cs→us=us':=by
 intro c
 induction c with
 | unit=>
  intro us us' cs h h'
  cases us with
  | nil=>cases us' with
   | nil=>rfl
   | cons _ _=>exact h'.elim
  | cons _ _=>exact h.elim
 | pair k r ihk ih=>
  intro us us' cs h h'
  cases us with
  | nil=>exact h.elim
  | cons u us=>
   cases us' with
   | nil=>exact h'.elim
   | cons u' us'=>
    obtain ⟨c1,c2,e,h1,h2,h3⟩:=h
    obtain ⟨d1,d2,e',h1',h2',h3'⟩:=h'
    rw [e] at e'
    obtain ⟨rfl,rfl⟩:=List.append_inj e' (h2.trans h2'.symm)
    rw [ih h3 h3']
    congr 1
    cases k with
    | st f=>exact (show u=_ from h1).trans (show u'=_ from h1').symm
    | _=>exact (by simpa using (And.left h1).symm.trans (And.left h1'):u=u')
 | _=>intro us us' cs h; cases us <;> exact h.elim
theorem LK {A:Type} {z:A} (H:Rel cx σ α F a w) {p:Prog A}:∀{c:K} {l:List (Nat×AV)} {i:Nat} {vs:List Value},dJ cx σ α F w (l.map (·.2)) vs→(∀v∈l,l9 σ v.2)→(LJ c l i p).ends σ z→
  ∃cs,JD c vs cs∧(l.map (fun q=>q.1)).zip vs=vF i vs∧p.ends σ z:=by
 intro c
 induction c with
 | unit=>
  intro l i vs h1 _ h
  cases l with
  | nil=>
   cases vs with
   | nil=>exact ⟨[],rfl,rfl,h⟩
   | cons _ _=>exact h1.elim
  | cons _ _=>exact h.elim
 | pair k r ihk ih=>
  intro l i vs h1 h2 h
  cases l with
  | nil=>exact h.elim
  | cons q l=>
   obtain ⟨n,x⟩:=q
   cases vs with
   | nil=>exact h1.elim
   | cons v vs=>
    simp only [LJ] at h
    rcases ah h with ⟨hn,h⟩ | ⟨_,h⟩
    ·obtain ⟨tk,htk,h⟩:=lN H h1.1 (h2 (n,x) (by simp)) h
     rcases ah h with ⟨hk,h⟩ | ⟨_,h⟩
     ·obtain ⟨cs,g1,g2,g3⟩:=ih h1.2 (fun v hv=>h2 v (by simp [hv])) h
      obtain ⟨fB,F1,cst,Ro,lw,lh,H1,T1,k1,k2,_⟩:=take1 H htk
      have ek:=K.eq_of_beq hk
      rw [ek] at k1
      refine ⟨cst++cs,⟨cst,cs,rfl,k1,by rw [k2.len,ek],g1⟩, ?_,g3⟩
      simp only [List.map_cons,List.zip_cons_cons,vF]
      rw [g2,abw hn]
     ·exact h.elim
    ·exact h.elim
 | _=>intro l i vs _ _ h; cases l <;> exact h.elim
theorem Fe {k:K} (h:dV k=true):(bD k).length=k.size:=cz (h:=fun _=>none) (own:=[]) (ok:=fun _=>True) (q9 h)
theorem D9 {place:Nat→Option (Nat×Nat)}:∀{c:K} {us cs pre:List Value} {j:Nat},dV c=true→JD c us cs→(∀n off k,aV n c=some (off,k)→place (j+n)=some (pre.length+off,k.size))→
  Instr.fill place (pre++bD c).toArray (vF j us)=some (pre++cs).toArray:=by
 intro c
 induction c with
 | unit=>
  intro us cs pre j _ h _
  cases us with
  | nil=>
   have h':cs=[]:=h
   subst h'
   rfl
  | cons _ _=>exact h.elim
 | pair k r ihk ih=>
  intro us cs pre j hg h hp
  cases us with
  | nil=>exact h.elim
  | cons u us=>
   obtain ⟨c1,c2,rfl,h1,h2,h3⟩:=h
   simp only [dV,aby] at hg
   have hz:=Fe hg.1
   have wC:u.cells=c1.toArray:=by
    have:=h1.cells
    apply Array.ext'
    simpa using this
   have h0:=hp 0 0 k rfl
   simp only [Nat.add_zero] at h0
   simp only [vF]
   rw [xk (off:=pre.length) (vs:=c1) (by rw [h2]; exact h0) wC (by simp only [bD,List.size_toArray,abA]; omega)]
   have e2:((pre++bD (.pair k r)).toArray.toList.take pre.length++(c1++(pre++bD (.pair k r)).toArray.toList.drop (pre.length+c1.length)))=(pre++c1)++bD r:=by
    simp only [bD]
    rw [←abN pre]
    have e3:pre.length+c1.length=(pre++bD k).length:=by simp [h2,hz]
    rw [e3,List.drop_left]
    simp
   rw [e2,ih hg.2 h3 (fun n off kk ho=>?_)]
   ·simp
   ·have:=hp (n+1) (k.size+off) kk (by simp [aV,ho])
    rw [show j+1+n=j+(n+1) by omega,this]
    simp [h2]
    omega
 | _=>intro us cs pre j _ h; cases us <;> exact h.elim
theorem parts_eval {ps:Array (Nat×Operand)} {ns:List Nat} {vals:List Value} (e1:ns=ps.toList.map (·.1)) (hvv:(evs a ps.toList).map (·.2)=vals):((ps.map fun (p:Nat×Operand)=>(p.1,a.eval p.2)).toList)=ns.zip vals:=by
 rw [Array.toList_map, ←hvv,e1]
 have:∀l:List (Nat×Operand),l.map (fun p=>(p.1,a.eval p.2))=(l.map (·.1)).zip ((evs a l).map (·.2)):=by
  intro l
  induction l with
  | nil=>rfl
  | cons p l ih=>simp [evs] at ih ⊢; exact ih
 exact this _
theorem Nn (hT:dO P T) (H:Rel cx σ α F a w) (hd:o.dst=some d) (hdn:d<cx.nt) {t:TypeId} {ps:Array (Nat×Operand)}
  (h:(match T.ty t with
   | some (.st c)=>uN ps.toList fun l=>LJ c l 0 (.ret [Wr.s d (.lit t c (l.map fun q:Nat×AV=>q.2))])
   | _=>(.fail:Prog (List Wr))).ends σ ws) (ho:o.op=.build t ps):lS P cx o a w (aj ws σ):=by
 cases hty:T.ty t with
 | none=>rw [hty] at h; exact h.elim
 | some k0=>
  rw [hty] at h
  cases k0 with
  | st c=>
   have ht:=hT.ty t _ hty
   simp only at h
   obtain ⟨vs,e1,h1,h2,h3⟩:=xh H h
   obtain ⟨cs,g1,g2,g3⟩:=LK H h1 h2 h3
   rw [az g3]
   obtain ⟨place,q1,q2⟩:=zb ht
   have hb:=run_build (P:=P) w t (ps.map fun (p:Nat×Operand)=>(p.1,a.eval p.2)) cs.toArray (by
    rw [parts_eval e1 rfl,q2,g2]
    have:=D9 (pre:=[]) (j:=0) (place:=place) (c:=c) (by simpa [dV] using ht.dV) g1 (fun n off k ho=>by simpa using q1 n off k ho)
    simpa using this)
   have hrun:(execOp a.eval o).run P w=.ok (.value (.agg cs.toArray)) w:=by simp only [execOp,ho,abR,hb,abK,abW]
   refine bB (x:=.lit t c (vs.map (·.2))) (v:=.agg cs.toArray) H hd hdn hrun ⟨_,cs,⟨rfl,g1⟩,h1⟩ (fun x hx=>?_)
   obtain ⟨q,hq,rfl⟩:=ab2.1 hx
   exact h2 q hq
  | _=>exact h.elim
theorem Rel.Gz (H:Rel cx σ α F a w) {s:Nat} {x:qH} (hw:rF σ x) (hx:iK cx σ α F w x (a.tmps.getD s undef)):Rel cx (iy σ (upd σ.slots s x)) α F a w where
 defs:=H.defs
 sz:=H.sz
 kP:=H.kP
 yx:=H.yx
 slots:=by
  intro n
  rw [xH]
  show iK cx σ α F w (upd σ.slots s x n) _
  by_cases e:n=s
  ·subst e
   rw [upd_same]
   exact hx
  ·rw [upd_ne _ _ e]
   exact H.slots n
 mH:=by
  intro n
  rw [yY]
  show rF σ (upd σ.slots s x n)
  by_cases e:n=s
  ·subst e; rw [upd_same]; exact hw
  ·rw [upd_ne _ _ e]; exact H.mH n
 roots:=by
  intro r R hr
  have K:=H.roots r R hr
  exact ⟨fun hv=>K.ow ((kN _).1 hv),K.len,K.mem,K.nd,K.mine⟩
 cB:=H.cB
 yI:=H.yI
 fl:=H.fl
 rZ:=H.rZ
 gQ:=H.gQ
 frame:=H.frame
 tJ:=H.tJ
 pG:=H.pG
 tK:=fun j p ts v h=>let ⟨h0,R,h1,h2⟩:=H.tK j p ts v h; ⟨h0,R,h1,fun ht=>(ru _).2 (h2 ht)⟩
 tL:=H.tL
theorem wP {A:Type}:∀(l:List A) (i:Nat),(vF i l).map (fun p=>p.2)=l
 | [],_=>rfl
 | x :: l,i=>by simp only [vF,List.map_cons,wP l]
theorem Fg {A B:Type}:∀(l:List A) (m:List B) (i:Nat),m.length=l.length→((vF i l).map (fun p=>p.1)).zip m=vF i m
 | [],[],_,_=>rfl
 | x :: l,y :: m,i,h=>by simp only [vF,List.map_cons,List.zip_cons_cons,Fg l m (i+1) (by simpa using h)]
 | [],_ :: _,_,h=>by simp at h
 | _ :: _,[],_,h=>by simp at h
theorem QV (hT:dO P T) (H:Rel cx σ α F a w) {s:Nat} (h:(QU T s .ret).ends σ ws):∃α' F',Rel cx (aj ws σ) α' F' a w:=by
 unfold QU at h
 have h:(match σ.slots s with
  | .lit t c l=>_
  | _=>(.fail:Prog (List Wr))).ends σ ws:=h
 have hsl:=H.slots s
 have hsw:=H.mH s
 cases hs:σ.slots s with
 | one _=>rw [hs] at h; exact h.elim
 | Cb _=>rw [hs] at h; exact h.elim
 | lit t c l=>
  rw [hs] at h hsl hsw
  obtain ⟨us,cs,⟨ev,NI⟩,hl⟩:=hsl
  rcases ah h with ⟨hty,h⟩ | ⟨_,h⟩
  ·have ht:eP P T t (.st c):=by
    cases hty':T.ty t with
    | none=>rw [hty'] at hty; simp at hty
    | some kk=>
     rw [hty'] at hty
     have:=K.eq_of_beq hty
     subst this
     exact hT.ty t _ hty'
   have hl':dJ cx σ α F w ((vF 0 l).map (·.2)) us:=by rw [wP]; exact hl
   obtain ⟨tks,b',l1,l2,HZ,xS,h4⟩:=za H hl' (fun v hv=>hsw v.2 (by
    have:v.2∈(vF 0 l).map (·.2):=ab2.2 ⟨v,hv,rfl⟩
    rwa [wP] at this)) h
   have O4:us.length=(vF 0 l).length:=l2
   have Ut:us.length=l.length:=by
    have:=congrArg List.length (wP l 0)
    rw [List.length_map] at this
    omega
   generalize hns:(vF 0 l).map (·.1)=ns at *
   have zR:ns.length=tks.length:=by rw [←hns,List.length_map]; exact l1.symm
   have zU:us.length=tks.length:=by rw [l2]; exact l1.symm
   obtain ⟨z1,z2,z3,z4⟩:=xG ns us tks zR zU
   obtain ⟨f1,f2,f3,f4,f5,f6,f7,f8⟩:=rY _ xS
   simp only [List.nil_append] at f1
   rcases ah h4 with ⟨_,h5⟩ | ⟨hws,h5⟩
   ·exact h5.elim
   ·have uZ:wN b'.ws b'.all=true:=by simpa using hws
    unfold wN at uZ
    simp only [aby] at uZ
    have hw1:=oU.1 uZ.1
    have hw2:=rE.1 uZ.2
    rw [f1, ←z4] at hw1 hw2
    obtain ⟨α',F',hs',H',hA,hnd,hnF,XJ,hS,_⟩:=takes (us.zip tks) H HZ hw1 (fun tg nL=>hw2 tg (by
     obtain ⟨it,hit,h6⟩:=ab3.1 nL
     have:it∈(ns.zip (us.zip tks)).map (·.2):=by rw [z1]; exact hit
     obtain ⟨q,hq,rfl⟩:=ab2.1 this
     exact f2 (q.1,q.2.2) (by rw [←z2]; exact ab2.2 ⟨q,hq,rfl⟩) tg h6))
    have OU:=hA
    rw [←z1] at hA
    obtain ⟨rQ,sZ,p1,p2⟩:=qD (own':=aZ (K.st c).tys b'.bad) (T:=b'.tags) (ns.zip (us.zip tks)) hA
     (fun it hit tg nL=>by
      cases hm:aA tg (aZ (K.st c).tys b'.bad) with
      | false=>rfl
      | true=>exact absurd (f4 (it.1,it.2.2) (by rw [←z2]; exact ab2.2 ⟨it,hit,rfl⟩) tg nL) (cZ.1 hm).2)
     (fun it hit tg nL=>f6 (it.1,it.2.2) (by rw [←z2]; exact ab2.2 ⟨it,hit,rfl⟩) tg nL)
    rw [z2,z3,z1] at p2
    obtain ⟨place,q1,q2⟩:=zb ht
    obtain ⟨x',cs',gu,rest,bad',tags',Pw,kp',all',r1,r2,r3,r4⟩:=y9 q1 (ns.zip tks) (x:=(K.st c).zero) (cs:=bD c) (fo:=[]) (q9 (k:=c) ht.dV) p2 xS
    subst r1
    simp only at uZ f1 f2 f3 f4 f5 f6 f7 f8 h5 p2 r2 r3
    have hzn:(ns.zip tks).map (·.1)=ns:=by rw [List.map_fst_zip (by omega)]
    have hcs:cs'=cs:=by
     have e:=D9 (pre:=[]) (j:=0) (place:=place) (c:=c) (by simpa [dV] using ht.dV) NI (fun n off k ho=>by simpa using q1 n off k ho)
     simp only [List.nil_append] at e
     rw [hzn, ←hns,Fg l us 0 Ut,e] at r4
     simpa using r4.symm
    subst hcs
    have hperm:(hs'.flatMap (·.2)).Perm (gu++(rest++sZ)):=by
     refine p1.trans ?_
     rw [←abN]
     exact List.Perm.append_right _ (by simpa using r3)
    have qU:=hperm.nodup hnd
    have hin:∀b∈hs'.flatMap (·.2),b∈F':=qi OU
    have yu:∀b∈gu,b∈F':=fun b hb=>hin b (hperm.mem_iff.2 (by simp [hb]))
    have Jl:∀b∈sZ,b∈F'∧b∉gu:=fun b hb=>⟨hin b (hperm.mem_iff.2 (by simp [hb])),fun h=>(abz.1 qU).2.2 b h b (by simp [hb]) rfl⟩
    have hV:VC (.st c) (.agg cs'.toArray) cs':=rfl
    have hwt:dW (aj (nO (us.zip tks)) σ) tags':=by
     intro tg nL
     rcases f8 tg nL with h | ⟨q,hq,hq2⟩
     ·simp at h
     ·rw [←z2] at hq
      obtain ⟨it,hit,rfl⟩:=ab2.1 hq
      have hit2:it.2∈us.zip tks:=by rw [←z1]; exact ab2.2 ⟨it,hit,rfl⟩
      exact uF (rR OU it.2 hit2) tg hq2
    have Jv:Pw=nO (us.zip tks):=by rw [f1,z4]
    obtain ⟨g1,g2⟩:=eY h5
    rw [az g2]
    have hnr:=vD g1 HZ
    have hn1:(aj (nO (us.zip tks)) σ).roots (aS s 1)=none:=by rw [(hS _ hnr).root]; exact g1
    obtain ⟨vI,k1,k2⟩:=qN (k:=.st c) (x:=x') (own:=aZ (K.st c).tys bad') (tags:=tags') (v:=.agg cs'.toArray) (cs:=cs') (fo:=gu) (r:=aS s 1) (F':=F'.filter fun b=>!aA b (gu++sZ)) H' hn1 (dZ s 1)
     yu (abz.1 qU).1 hwt (fun b hb=>by
      rw [abJ] at hb
      have:=hb.2
      simp only [Bool.not_eq_true',aO,abB,not_or] at this
      exact ⟨hb.1,this.1⟩) (H'.rZ.filter _) (cz (k:=c) r2)
     (fun _=>aY (k:=.st c) (fun _ _=>rfl) (fun b hb=>by
      rcases hb with hb | hb
      ·exact .inl hb
      ·refine .inr ⟨(Jl b hb).1,fun h=>?_,(Jl b hb).2⟩
       rw [abJ] at h
       have:=h.2
       simp only [Bool.not_eq_true',aO,abB,not_or] at this
       exact this.2 hb) (fun _ _=>rfl) r2) hV kp'
    rw [Jv,bK]
    exact ⟨vI,_,k1.Gz (x:=.one (.ref (aS s 1) 0)) ⟨_,aF .., .inr (ab0 _)⟩ (by rw [ev]; exact k2)⟩
  ·exact h.elim
theorem xW {σ':St} {α':dA} {F':List Nat} (f:AV→AV) (hf:∀x v,bz cx σ α F w x v→bz cx σ' α' F' w x v→bz cx σ' α' F' w (f x) v) :
  ∀{l:List AV} {vs:List Value},dJ cx σ α F w l vs→dJ cx σ' α' F' w l vs→dJ cx σ' α' F' w (l.map f) vs
 | [],[],_,_=>trivial
 | x :: l,v :: vs,h1,h2=>⟨hf x v h1.1 h2.1,xW f hf h1.2 h2.2⟩
 | [],_ :: _,h,_=>h.elim
 | _ :: _,[],h,_=>h.elim
theorem CY {p q:List Stp} (h:tZ p q=true):∃i j,p=[.fu i]∧q=[.fu j]∧i≠j:=by
 unfold tZ at h
 split at h
 ·rename_i i j
  exact ⟨i,j,rfl,rfl,Nat.ne_of_beq_eq_false (by simpa using h)⟩
 ·simp at h
theorem Mr (H:Rel cx σ α F a w) {s s2:Nat} (h:(GK s s2 .ret).ends σ ws):∃α' F',Rel cx (aj ws σ) α' F' a w:=by
 unfold GK at h
 have h:(match σ.slots s with
  | .one (.mU r p v)=>_
  | _=>(.fail:Prog (List Wr))).ends σ ws:=h
 have hsl:=H.slots s
 split at h
 case h_2=>exact h.elim
 case h_1 r p v hs=>
  rw [hs] at hsl
  unfold qm at h
  obtain ⟨R,hr,hv,h⟩:=bU h
  rcases ah h with ⟨NP,h⟩ | ⟨_,h⟩
  case inr=>exact h.elim
  have NP:=abw NP
  cases nQ:aI p R.k R.x with
  | none=>rw [nQ] at h; exact h.elim
  | some dd=>
   rw [nQ] at h
   obtain ⟨eZ,hown,cs,wh,Rs,wC⟩:=hsl R hr.1 hv NP dd nQ
   rcases ah h with ⟨hc,h⟩ | ⟨_,h⟩
   case inr=>
    obtain ⟨_,h⟩:=fq h
    rcases ah h with ⟨_,h⟩ | ⟨hc,h⟩
    ·exact h.elim
    ·simp at hc
   cases hga:uP R p dd with
   | none=>rw [hga] at h; exact h.elim
   | some R'=>
    rw [hga] at h
    unfold uP at hga
    cases hz:dL p R.k R.x (mh dd) with
    | none=>rw [hz] at hga; simp at hga
    | some zz=>
     rw [hz] at hga
     simp only [abr] at hga
     have hpv:p≠[]∨∃t,R.kind=.var t:=by
      simp only [aby,Bool.or_eq_true] at hc
      rcases hc.2 with h | h
      ·left; intro e; subst e; simp at h
      ·right
       unfold Root.isVar at h
       cases hk:R.kind with
       | var t=>exact ⟨t,rfl⟩
       | anon=>rw [hk] at h; simp at h
       | par=>rw [hk] at h; simp at h
       | dead=>rw [hk] at h; simp at h
     rcases ah h with ⟨_,h⟩ | ⟨hss,h⟩
     ·exact h.elim
     obtain ⟨hne,_⟩:=Bool.or_eq_false_iff.1 hss
     have hne:s≠s2:=Nat.ne_of_beq_eq_false hne
     obtain ⟨hfr,h⟩:=eY h
     have h:(match σ.slots s2 with
      | .lit t c l=>_
      | _=>(.fail:Prog (List Wr))).ends σ ws:=h
     have hs2:=H.slots s2
     have hw2:=H.mH s2
     cases hsl2:σ.slots s2 with
     | one _=>rw [hsl2] at h; exact h.elim
     | Cb _=>rw [hsl2] at h; exact h.elim
     | lit t c l=>
      rw [hsl2] at h hs2 hw2
      rw [az h]
      obtain ⟨us,cs2,⟨ev,NI⟩,hl⟩:=hs2
      obtain ⟨cs1,jS,eX,rest,g1,H1,T1,g4,g5,_⟩:=gap H hr hv nQ hz eZ hown hpv
      rw [Rs] at g1
      simp only [abr,abD] at g1
      obtain ⟨rfl,rfl⟩:=g1
      have hR':R'=dQ R dd zz:=hga.symm
      subst hR'
      have hrl:aS s 1≠r:=fun e=>by rw [e,hr.1] at hfr; simp at hfr
      have hn1:(ak σ r (dQ R dd zz)).roots (aS s 1)=none:=by rw [bS σ _ hrl]; exact hfr
      have hcl:aU (ak σ r (dQ R dd zz)) (aK (dd.1.tys.filter fun t=>aA t R.own) dd.1) R.tags=true:=by
       rw [oD dd.1 (fun _ h=>h),g5]
       exact lG hv.2 (fun _ h=>h) (qy p nQ hown)
      have hh:Held cx (ak σ r (dQ R dd zz)) (aB α r (α.loc r) (α.hdr r) rest) (eX++F) w dd.1 dd.2 (dd.1.tys.filter fun t=>aA t R.own) R.tags cs eX:=
       ⟨fun hc=>lZ (fun t ht=>x8 t ht) (g4.ow (by rw [oD dd.1 (fun _ h=>h)] at hc; exact hc)),g4.wt,g4.sub,g4.nd,g4.len⟩
      let tk:gp:=⟨dd.1,dd.2,dd.1.tys.filter (fun t=>aA t R.own),R.tags,[.r r (some (dQ R dd zz))],R.keep⟩
      have hhw:dW (ak σ r (dQ R dd zz)) tk.tags:=hh.wt
      obtain ⟨H2,r3⟩:=Bo (r:=aS s 1) (k:=tk.k) (x:=tk.x) (own:=tk.own) (tags:=tk.fH) (F':=(eX++F).filter fun b=>!aA b eX) H1 hn1 (dZ s 1) hh.sub hh.nd (uF (tk:=tk) hhw)
       (fun b hb=>by
        obtain ⟨q1,q2⟩:=abJ.1 hb
        simp only [Bool.not_eq_true',aO] at q2
        exact ⟨q1,q2⟩) (H1.rZ.filter _) hh.len
       (fun Ue=>by
        cases hb:tk.bad with
        | nil=>exact jC hb (hh.ow hcl)
        | cons t0 l=>
         have et:tk.fH=tk.tags:=by
          unfold gp.fH
          rw [hb]
         rw [et] at Ue ⊢
         exact aY (fun _ _=>rfl) (fun b h=>.inl h) (fun _ _=>rfl) (hh.ow Ue)) wC R.keep
      have H3:=H2.Gz (s:=s) (x:=.one (.ref (aS s 1) 0)) ⟨_,aF .., .inr (ab0 _)⟩ r3
      have hs3:=H3.slots s2
      have hw3:=H3.mH s2
      have hkeep:(iy (ak (ak σ r (dQ R dd zz)) (aS s 1) (aD tk.k tk.x tk.own tk.fH .anon R.keep)) (upd (ak (ak σ r (dQ R dd zz)) (aS s 1) (aD tk.k tk.x tk.own tk.fH .anon R.keep)).slots s (.one (.ref (aS s 1) 0)))).slots s2=.lit t c l:=by
       show upd σ.slots s _ s2=_
       rw [upd_ne _ _ (Ne.symm hne)]
       exact hsl2
      rw [hkeep] at hs3 hw3
      obtain ⟨us',Y4,⟨ev',Uv⟩,hl'⟩:=hs3
      have XC:Y4=cs2:=by
       rw [ev] at ev'
       have:=congrArg Value.cells ev'
       simpa [Value.cells] using this.symm
      subst XC
      have ZY:=LM NI Uv
      subst ZY
      have hroot:(ak (ak σ r (dQ R dd zz)) (aS s 1) (aD tk.k tk.x tk.own tk.fH .anon R.keep)).roots r=some (dQ R dd zz):=by
       rw [bS _ _ (Ne.symm hrl),aF]
      refine ⟨_,_,H3.Gz (s:=s2) (x:=.lit t c (l.map (Gc r p v tk.ws))) (fun x hx=>?_) ⟨us,Y4,⟨ev,NI⟩,xW (Gc r p v tk.ws) (fun x u hx0 hx1=>?_) hl hl'⟩⟩
      ·obtain ⟨y,hy,rfl⟩:=ab2.1 hx
       have hy':=hw3 y hy
       show l9 _ (freshen r p v (dQ R dd zz).pR y)
       unfold freshen
       split
       ·rename_i q p' n
        cases hb:(Nat.beq r q && Nat.beq n v && tZ p p') with
        | false=>exact hy'
        | true=>
         simp only [aby] at hb
         rw [←abw hb.1.1]
         exact ⟨_,hroot, .inr (abI _)⟩
       ·exact hy'
      ·show bz cx _ _ _ w (freshen r p v (dQ R dd zz).pR x) u
       unfold freshen
       split
       ·rename_i q p' n
        cases hb:(Nat.beq r q && Nat.beq n v && tZ p p') with
        | false=>exact hx1
        | true=>
         simp only [aby] at hb
         have e1:=abw hb.1.1
         have e2:=abw hb.1.2
         subst e1
         subst e2
         obtain ⟨i,j,rfl,rfl,hij⟩:=CY hb.2
         intro Q hQ NM hnQ d' hd'
         have hQ':Q=dQ R dd zz:=by
          have hQ:(ak (ak σ r (dQ R dd zz)) (aS s 1) (aD tk.k tk.x tk.own tk.fH .anon R.keep)).roots r=some Q:=hQ
          rw [hroot] at hQ
          simpa using hQ.symm
         subst hQ'
         have hold:=hx0 R hr.1 hv NP
         obtain ⟨Rk,Rx,PW,Km,Rw,Rh,Rg,Kl,TA,Kk,Xk,Xj⟩:=R
         cases Rk with
         | st c0=>
          simp only [dL] at hz
          simp only [aI] at nQ
          cases hci:aC i c0 Rx with
          | none=>rw [hci] at nQ; simp at nQ
          | some d0=>
           rw [hci] at hz nQ
           simp only [abr] at nQ
           subst nQ
           simp only at hz
           cases hcp:bT i c0 Rx (mh d0) with
           | none=>rw [hcp] at hz; simp at hz
           | some z0=>
            rw [hcp] at hz
            simp only [abr] at hz
            subst hz
            have hput:aC j z0.1 z0.2=aC j c0 Rx:=vT i j (Ne.symm hij) hcp
            have hd2:aI [.fu j] (.st c0) Rx=some d':=by
             have hd3:aI [.fu j] (.st z0.1) z0.2=some d':=hd'
             simp only [aI] at hd3 ⊢
             rw [hput] at hd3
             exact hd3
            obtain ⟨w1,w2,XA,YW,w3,w4⟩:=hold d' hd2
            have hcj:(aC j c0 Rx).isSome=true:=by
             cases hcj:aC j c0 Rx with
             | none=>simp only [aI] at hd2; rw [hcj] at hd2; simp at hd2
             | some _=>rfl
            refine ⟨?_, ?_,XA,YW, ?_,w4⟩
            ·show jM [.fu j] (.st z0.1) z0.2
             simp only [jM]
             rw [hput]
             cases XY:aC j c0 Rx with
             | none=>rw [XY] at hcj; simp at hcj
             | some _=>trivial
            ·intro t' ht'
             have ht':t'∈aa [.fu j] (.st z0.1):=ht'
             simp only [aa] at ht'
             split at ht' <;> simp at ht'
            ·have e3:(aB (aB α r (α.loc r) (α.hdr r) rest) (aS s 1) (0,0) cs eX).hdr r=α.hdr r:=by simp [aB,upd_same,upd_ne _ _ (Ne.symm hrl)]
             rw [e3]
             have e4:dY (aB (aB α r (α.loc r) (α.hdr r) rest) (aS s 1) (0,0) cs eX) (dQ { k:=.st c0,x:=Rx,own:=PW,tags:=Km,w:=Rw,h:=Rh,g:=Rg,kind:=Kl,fixed:=TA,keep:=Kk,ew:=Xk,eh:=Xj } d0 ⟨.st z0.1,z0.2⟩) r=dY α { k:=.st c0,x:=Rx,own:=PW,tags:=Km,w:=Rw,h:=Rh,g:=Rg,kind:=Kl,fixed:=TA,keep:=Kk,ew:=Xk,eh:=Xj } r:=by
              unfold dY dQ
              simp [aB,upd_same,upd_ne _ _ (Ne.symm hrl)]
             rw [e4]
             have w3':bn (hp w) [.fu j] (.st c0) (α.hdr r) _=some (XA,YW):=w3
             show bn (hp w) [.fu j] (.st z0.1) (α.hdr r) _=some (XA,YW)
             simp only [bn] at w3' ⊢
             cases hoj:aV j c0 with
             | none=>rw [hoj] at w3'; simp at w3'
             | some q=>
              rw [hoj] at w3'
              rw [vU i j (Ne.symm hij) hci hcp (mZ d0.1) hoj]
              exact w3'
         | _=>simp [aI] at nQ
       ·exact hx1
theorem JS {s2:Nat}:∀{l:List (Nat×Operand)} {ws:List Wr} {σ:St} {α:dA} {F:List Nat},Rel cx σ α F a w→(splits s2 l).ends σ ws→∃α' F',Rel cx (aj ws σ) α' F' a w:=by
 intro l
 induction l with
 | nil=>intro ws σ α F H h; rw [az h]; exact ⟨α,F,H⟩
 | cons q l ih=>
  obtain ⟨n,x⟩:=q
  intro ws σ α F H h
  cases x with
  | tmp s=>
   simp only [splits] at h
   have h:(match σ.slots s with
    | .one (.mU r _ _)=>_
    | _=>splits s2 l).ends σ ws:=h
   split at h
   ·have h:(match σ.slots s2 with
     | .lit _ _ m=>_
     | _=>(.fail:Prog (List Wr))).ends σ ws:=h
    split at h
    ·rcases ah h with ⟨_,h⟩ | ⟨_,h⟩
     ·obtain ⟨us,vs,h1,h2,rfl⟩:=xB h
      obtain ⟨fB,F1,H1⟩:=Mr H h1
      rw [bK]
      exact ih H1 h2
     ·exact ih H h
    ·exact h.elim
   ·exact ih H h
  | _=>exact ih H h
theorem Eb {A:Type} {z:A} {k:Nat→Prog A}:∀{l:List (Nat×Operand)},(uy l k).ends σ z→∃s,(k s).ends σ z:=by
 intro l
 induction l with
 | nil=>exact fun h=>h.elim
 | cons q l ih=>
  obtain ⟨n,x⟩:=q
  intro h
  cases x with
  | tmp s=>
   simp only [uy] at h
   have h:(match σ.slots s with
    | .lit _ _ _=>k s
    | _=>uy l k).ends σ z:=h
   split at h
   ·exact ⟨s,h⟩
   ·exact ih h
  | _=>exact ih h
theorem AZ (hT:dO P T) (H:Rel cx σ α F a w) (hd:o.dst=some d) (hdn:d<cx.nt) {t:TypeId} {ps:Array (Nat×Operand)}
  (h:(BZ T d t ps).ends σ ws) (ho:o.op=.build t ps):lS P cx o a w (aj ws σ):=by
 obtain ⟨s,h⟩:=Eb h
 obtain ⟨us,vs,h1,h2,rfl⟩:=xB h
 obtain ⟨us2,vs2,h3,h4,rfl⟩:=xB h2
 obtain ⟨fB,F1,H1⟩:=JS H h1
 obtain ⟨vI,F2,H2⟩:=QV hT H1 h3
 rw [bK,bK]
 exact BB hT H2 hd hdn h4 ho
end
end
section
open Go
variable [Fr]
section
variable {P:Program} {T:gL} {w:World}
structure Src (P:Program) (w:World) (size:Nat) (u:TypeId) (x:Value) (m:Nat) (news:List Value):Prop where
 und:(∃e',P.underlying u=some (.slice e'))∨P.underlying u=some .string
 len:∀w',(Builtin.lenOf x).run P w'=.ok m w'
 cells:(Builtin.firstCells size m x).run P w=.ok news.toArray w∧(Builtin.firstCells size m x).run P w.drew=.ok news.toArray w.drew
 nl:news.length=m * size
 one:∀v∈news,v.oneCell'=true
theorem uD {size:Nat} {u:TypeId} {b:Option Addr} {m c:Nat} {news:List Value} (hu:(∃e',P.underlying u=some (.slice e'))∨P.underlying u=some .string) (hl:news.length=m * size) (h1:∀v∈news,v.oneCell'=true)
  (hc:0<m→∃bb q,b=some ⟨bb,q,none⟩∧Cells (hp w) bb q news):Src P w size u (.slice b m c) m news where
 und:=hu
 len:=fun w'=>rfl
 cells:=by
  have key:∀w',hp w'=hp w→(Builtin.firstCells size m (.slice b m c)).run P w'=.ok news.toArray w':=by
   intro w' hw
   by_cases h0:0<m
   ·obtain ⟨bb,q,rfl,hcs⟩:=hc h0
    exact run_firstCells_some (P:=P) w' size m ⟨bb,q,none⟩ m c news hl (fun j v hj=>by
     rw [addr_add,qg,hw,hcs j (List.getElem?_eq_some_iff.1 hj).1]
     exact hj)
   ·have hm:m=0:=by omega
    subst hm
    have hn:news=[]:=List.eq_nil_of_length_eq_zero (by simpa using hl)
    subst hn
    cases b with
    | none=>exact run_firstCells_none w' size 0 0 c
    | some ad=>exact run_firstCells_some (P:=P) w' size 0 ad 0 c [] (by simp) (fun j v hj=>by simp at hj)
  exact ⟨key w rfl,key w.drew rfl⟩
 nl:=hl
 one:=h1
theorem GL {u:TypeId} {B:ByteArray} (hu:(∃e',P.underlying u=some (.slice e'))∨P.underlying u=some .string):Src P w 1 u (.string B) B.size (B.data.toList.map fun b=>.int .u8 b.toNat) where
 und:=hu
 len:=fun w'=>rfl
 cells:=by
  have h:B.extract 0 B.size=B:=by
   apply ByteArray.ext
   simp
  constructor <;> (simp [Builtin.firstCells,h]; apply Array.ext'; simp)
 nl:=by simp
 one:=by intro v hv; simp only [ab2] at hv; obtain ⟨b,_,rfl⟩:=hv; rfl
theorem qF {t u ty e:TypeId} {k:K} (ht:eP P T t (.sl e k)) {b:Option Addr} {n c m:Nat} {x:Value} {news:List Value} (hs:Src P w k.size u x m news) (hr:n+m≤c) :
  (Builtin.append_ #[t,u] ty #[.slice b n c,x]).run P w=(match b with
   | some a=>(storeCells (a.add (n * k.size)) news).run P w
   | none=>.ok () w).andThen fun _ w'=>.ok (.slice b (n+m) c) w':=by
 obtain ⟨hu,he,_,_⟩:=ht.sl
 have e1:=hs.len w
 have e2:=hs.cells.1
 rcases hs.und with ⟨e',hd⟩ | hd <;> cases b <;> simp [Builtin.append_,run_underlying hu,he.info.sizeOf w,run_underlying hd,e1,e2,hr,Result.andThen]
end
end
section
open Go
variable [Fr]
section
variable {P:Program} {T:gL} {w:World}
theorem uh {t u ty e:TypeId} {k:K} (ht:eP P T t (.sl e k)) {b:Option Addr} {n c m:Nat} {x:Value} {news olds:List Value} (hs:Src P w k.size u x m news)
  (hold:(Builtin.firstCells k.size n (.slice b n c)).run P w.drew=.ok olds.toArray w.drew) (hr:¬n+m≤c) (hb:(n+m) * T.bytes e≤140737488355328) :
  ∃nc,n+m≤nc∧(Builtin.append_ #[t,u] ty #[.slice b n c,x]).run P w =
   .ok (.slice (some ⟨w.heap.size,0,none⟩) (n+m) nc) (w.drew.alloc (.cells (olds.toArray++news.toArray++Builtin.zeroCells (mJ k).cells (nc - (n+m))) e)):=by
 obtain ⟨hu,he,_,i,hi,hby,hpos⟩:=ht.sl
 obtain ⟨i',hi',hs',hz'⟩:=he.info
 rw [hi] at hi'
 simp only [abr] at hi'
 subst hi'
 have e1:=hs.len w
 have e2:=hs.cells.2
 have h2:¬(281474976710656<Builtin.nextslicecap (n+m) c * i.bytes):=by
  have:=growslice_fits (need:=n+m) (old:=c) (bytes:=i.bytes) (by omega) (by rw [hby]; exact hb)
  omega
 have h3:i.bytes≠0:=by omega
 refine ⟨grownCap w (n+m) c e,grownCap_ge w (n+m) c e, ?_⟩
 rw [←hs'] at hold e2
 rcases hs.und with ⟨e',hd⟩ | hd
 ·simp [Builtin.append_,run_underlying hu,run_underlying hd,sizeOf,typeInfo,zeroValue,hi,hz',e1,hr,h2,h3,Question.forced,hold,e2,newRow,grownCap]
  congr 2
  apply Array.ext'
  simp [abN]
 ·simp [Builtin.append_,run_underlying hu,run_underlying hd,sizeOf,typeInfo,zeroValue,hi,hz',e1,hr,h2,h3,Question.forced,hold,e2,newRow,grownCap]
  congr 2
  apply Array.ext'
  simp [abN]
end
end
end Go.Proofs.Ytabnmpabdhmkoaa.Ow
