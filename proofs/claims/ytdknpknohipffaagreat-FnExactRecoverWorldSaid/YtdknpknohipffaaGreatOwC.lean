/- A verified reading of translated code: values in place of memory; part C of 6, spaces and remarks taken out. No condition. Own work of this seat. -/
import Derived.Test.YtdknpknohipffaaGreatOwB
import Derived.Laws.Strings
import Derived.Laws.BytesString
import Derived.Laws.IdiomStrings
import Derived.Laws.MakeOwn
import Derived.Laws.Tables
import Derived.Laws.AppendOwn
/- The framework, part 19: fields and elements. Own work of this seat. -/
set_option linter.unusedSectionVars false
set_option linter.unusedVariables false
set_option linter.unusedSimpArgs false
namespace Go.Proofs.YtdknpknohipffaaGreat.Ow
open Go
variable [Fr]
theorem RV {h:Heap} {ok:Nat→Prop}:∀(n:Nat) {c:K} {x:El c} {cs:List Value} {d:Dat},Vw h ok c x cs→aQ n c x=some d→∃off,bD n c=some (off,d.1)∧Vw h ok d.1 d.2 ((cs.drop off).take d.1.size):=by
 intro n
 induction n with
 | zero=>
  intro c x cs d H hg
  cases c with
  | pair a b=>
   simp only [aQ,Option.some.injEq] at hg
   subst hg
   obtain ⟨c1,c2,rfl,h1,h2⟩:=H
   refine ⟨0,rfl, ?_⟩
   have:=nC h1
   simpa [←this] using h1
  | _=>simp [aQ] at hg
 | succ n ih=>
  intro c x cs d H hg
  cases c with
  | pair a b=>
   simp only [aQ] at hg
   obtain ⟨c1,c2,rfl,h1,h2⟩:=H
   obtain ⟨off,g1,g2⟩:=ih h2 hg
   refine ⟨a.size+off,by simp [bD,g1], ?_⟩
   have:=nC h1
   rw [←this, ←List.drop_drop]
   simpa using g2
  | _=>simp [aQ] at hg
theorem Kj:∀(p:List Stp) {q:List Stp} {k:K} {x:El k} {d:Dat},aT p k x=some d→aT (p++q) k x=aT q d.1 d.2:=by
 intro p
 induction p with
 | nil=>intro q k x d h; simp only [aT,Option.some.injEq] at h; subst h; rfl
 | cons s p ih=>
  intro q k x d h
  cases s with
  | gL n=>
   cases k with
   | st c=>
    simp only [aT,List.cons_append] at h ⊢
    cases hg:aQ n c x with
    | none=>rw [hg] at h; simp at h
    | some s=>rw [hg] at h; exact ih h
   | _=>simp [aT] at h
  | idx i=>
   cases k with
   | sl e k=>simp only [aT,List.cons_append] at h ⊢; exact ih h
   | _=>simp [aT] at h
theorem Gm:∀(p:List Stp) {q:List Stp} {k:K} {x:El k} {d:Dat},aT p k x=some d→oZ p k x→oZ q d.1 d.2→oZ (p++q) k x:=by
 intro p
 induction p with
 | nil=>intro q k x d h _ h2; simp only [aT,Option.some.injEq] at h; subst h; exact h2
 | cons s p ih=>
  intro q k x d h h1 h2
  cases s with
  | gL n=>
   cases k with
   | st c=>
    simp only [aT,oZ,List.cons_append] at h h1 ⊢
    cases hg:aQ n c x with
    | none=>rw [hg] at h; simp at h
    | some s=>rw [hg] at h h1; exact ih h h1 h2
   | _=>simp [aT] at h
  | idx i=>
   cases k with
   | sl e k=>simp only [aT,oZ,List.cons_append] at h h1 ⊢; exact ⟨h1.1,h1.2.1,ih h h1.2.2 h2⟩
   | _=>simp [aT] at h
theorem ET:∀(p:List Stp) {q:List Stp} {k:K} {x:El k} {d:Dat},aT p k x=some d→ah (p++q) k=ah p k++ah q d.1:=by
 intro p
 induction p with
 | nil=>intro q k x d h; simp only [aT,Option.some.injEq] at h; subst h; rfl
 | cons s p ih=>
  intro q k x d h
  cases s with
  | gL n=>
   cases k with
   | st c=>
    simp only [aT,ah,List.cons_append] at h ⊢
    cases hg:aQ n c x with
    | none=>rw [hg] at h; simp at h
    | some s=>rw [hg] at h; rw [bU n hg]; exact ih h
   | _=>simp [aT] at h
  | idx i=>
   cases k with
   | sl e k=>simp only [aT,ah,List.cons_append] at h ⊢; rw [ih h]
   | _=>simp [aT] at h
theorem EP {h:Heap}:∀(p:List Stp) {q:List Stp} {k:K} {x:El k} {d:Dat} {cs:List Value} {wh:Option (Nat×Nat)} {c1:List Value} {w1:Option (Nat×Nat)},aT p k x=some d→bF h p k cs wh=some (c1,w1)→bF h (p++q) k cs wh=bF h q d.1 c1 w1:=by
 intro p
 induction p with
 | nil=>
  intro q k x d cs wh c1 w1 h h1
  simp only [aT,Option.some.injEq] at h
  subst h
  simp only [bF,Option.some.injEq,Prod.mk.injEq] at h1
  obtain ⟨rfl,rfl⟩:=h1
  rfl
 | cons s p ih=>
  intro q k x d cs wh c1 w1 h h1
  cases s with
  | gL n=>
   cases k with
   | st c=>
    simp only [aT,bF,List.cons_append] at h h1 ⊢
    cases hg:aQ n c x with
    | none=>rw [hg] at h; simp at h
    | some s=>
     rw [hg] at h
     cases ho:bD n c with
     | none=>rw [ho] at h1; simp at h1
     | some q2=>
      rw [ho] at h1
      have hk:=C8 n (c:=c) hg ho
      obtain ⟨o2,k2⟩:=q2
      simp only at hk
      subst hk
      exact ih h h1
   | _=>simp [aT] at h
  | idx i=>
   cases k with
   | sl e k=>
    simp only [aT,List.cons_append] at h
    simp only [bF,List.cons_append] at h1 ⊢
    split at h1
    ·exact ih h h1
    ·simp at h1
   | _=>simp [aT] at h
theorem Mo {a b:K} (h:a.beq b=true):a.size=b.size:=by rw [K.eq_of_beq h]
theorem Yn:∀{a b:K},a.like b=true→a.size=b.size:=by
 intro a
 induction a with
 | gap n=>intro b h; simp only [K.like] at h; exact Nat.eq_of_beq_eq_true h
 | pair a b iha ihb=>
  intro c h
  cases c with
  | pair c d=>simp only [K.like,Bool.and_eq_true] at h; simp [K.size,iha h.1,ihb h.2]
  | _=>exact Mo (by simpa [K.like] using h)
 | st f ih=>
  intro b h
  cases b with
  | st g=>simp only [K.like] at h; exact ih (b:=g) h
  | _=>exact Mo (by simpa [K.like] using h)
 | _=>intro b h; exact Mo (by simpa [K.like] using h)
theorem aba:∀(n:Nat) {a b:K} {off:Nat} {k:K},a.like b=true→bD n a=some (off,k)→∃k',bD n b=some (off,k'):=by
 intro n
 induction n with
 | zero=>
  intro a b off k h ho
  cases a with
  | pair a1 a2=>
   simp only [bD,Option.some.injEq,Prod.mk.injEq] at ho
   cases b with
   | pair b1 b2=>exact ⟨b1,by simp [bD,ho.1]⟩
   | _=>simp [K.like,K.beq] at h
  | _=>simp [bD] at ho
 | succ n ih=>
  intro a b off k h ho
  cases a with
  | pair a1 a2=>
   simp only [bD] at ho
   cases h2:bD n a2 with
   | none=>rw [h2] at ho; simp at ho
   | some q=>
    rw [h2] at ho
    simp only [Option.some.injEq,Prod.mk.injEq] at ho
    cases b with
    | pair b1 b2=>
     simp only [K.like,Bool.and_eq_true] at h
     obtain ⟨k',h3⟩:=ih (off:=q.1) (k:=q.2) h.2 (by rw [h2])
     exact ⟨k',by simp [bD,h3, ←ho.1,Yn h.1]⟩
    | _=>simp [K.like,K.beq] at h
  | _=>simp [bD] at ho
section
variable {P:Program} {T:jF} {cx:Cx} {σ:St} {α:dN} {F:List Nat} {a:Act} {w:World} {o:Oper} {d:Nat} {ws:List Wr}
theorem TU {t:TypeId} {c:K} (h:fP P T t (.st c)) {n off:Nat} {k:K} (ho:bD n c=some (off,k)) (b q:Nat) :
  (Instr.fieldAt t (.pointer (some ⟨b,q,none⟩)) n).run P w=.ok (.pointer (some ⟨b,q+off,none⟩)) w:=by
 obtain ⟨fs,hu,hf⟩:=h.st
 obtain ⟨f,f1,f2,f3,f4⟩:=structField n hf ho
 have f1':fs[n]?=some f:=by rw [←Array.getElem?_toList]; exact f1
 unfold Instr.fieldAt Instr.sureAddr fieldPlace
 simp only [Sem.run_bind,run_underlying hu,Result.andThen,f1',Sem.run_pure,f3.info.sizeOf w,Sem.run_ite]
 rw [if_neg (by omega),addr_add]
 simp [show f.offset=off from by omega]
theorem XN (hT:fq P T) (H:Rel cx σ α F a w) (hd:o.dst=some d) (hdn:d<cx.nt) {t:TypeId} {x:Operand} {n:Nat} (ho:o.op=.field t x n)
  (h:(match T.ty t with
   | some kk=>dP x fun a=>MW kk a n fun u=>.ret [Wr.s d (.one u)]
   | none=>(.fail:Prog (List Wr))).ends σ ws):vJ P cx o a w (aC ws σ):=by
 split at h
 case h_2=>exact h.elim
 rename_i kk hty
 have ht:=hT.ty t kk hty
 obtain ⟨v,h1,h2,h⟩:=bS H h
 have Wy:∀{c:K} {cs:List Value} {off:Nat} {k:K},kk=.st c→a.eval x=.agg cs.toArray→bD n c=some (off,k)→cs.length=c.size→(∀v∈cs,v.oneCell'=true)→
   ∃u,(execOp a.eval o).run P w=.ok (.value u) w∧VC k u ((cs.drop off).take k.size):=by
  intro c cs off k ek ev hoff hl h1
  subst ek
  obtain ⟨u,g1,g2⟩:=YG (w:=w) ht hoff hl h1
  exact ⟨u,by simp only [execOp,ho,ev,Sem.run_bind,g1,Result.andThen_ok,Sem.run_pure],g2⟩
 have key:∀{r:Nat} {R:Root} {p:List Stp} {d0 dd:Dat} {cs:List Value} {wh:Option (Nat×Nat)},aR σ r R→bq σ R→aT p R.k R.x=some d0→d0.1=kk→aT (p++[.gL n]) R.k R.x=some dd→oZ p R.k R.x→(∀t∈ah p R.k,ay t R.own=true)→
   bF (hp w) p R.k (α.hdr r) (eD α R r)=some (cs,wh)→VC d0.1 (a.eval x) cs→
   ∃u,(execOp a.eval o).run P w=.ok (.value u) w∧bH cx σ α F w (.zW r (p++[.gL n]) R.Bp) u∧(dd.1.flat=true→bH cx σ α F w (.val dd.1 dd.2 []) u):=by
  intro r R p d0 dd cs wh hr hv hg0 e0 hg fT hown hn KS
  obtain ⟨k0,x0⟩:=d0
  simp only at e0
  subst e0
  have hg1:=Kj p (q:=[.gL n]) hg0
  rw [hg] at hg1
  have hpt:=ET p (q:=[.gL n]) hg0
  cases k0 with
  | st c=>
   simp only [aT] at hg1
   cases hcg:aQ n c x0 with
   | none=>rw [hcg] at hg1; simp at hg1
   | some s=>
    rw [hcg] at hg1
    simp only [aT,Option.some.injEq] at hg1
    subst hg1
    obtain ⟨gp,hO,hf⟩:=yF H hr hv hg0 fT hown hn
    obtain ⟨off,pre,cs1,post,fo2,fr,ho1,ec,hl,hp,hd2,_⟩:=K9 n (show Ow _ _ _ c x0 cs gp from hO) hcg
    have hsub:(cs.drop off).take s.1.size=cs1:=by rw [ec]; exact sH hl (dA hd2)
    obtain ⟨u,r1,r2⟩:=Wy rfl KS ho1 (dA (k:=c) hO) (Ut ht.gP hO)
    rw [hsub] at r2
    refine ⟨u,r1,EA (cs:=cs1) (wh:=wh.map fun q=>(q.1,q.2+off)) hr hg ?_ ?_ ?_ r2,fun hfl=>fun _=>⟨cs1,r2,je hfl (mg (fun _=>True) (fun _ _=>trivial) (fun _ _=>trivial) hd2)⟩⟩
    ·exact Gm p hg0 fT (by simp only [oZ,hcg])
    ·rw [hpt]
     intro t ht
     rcases List.mem_append.1 ht with h | h
     ·exact hown t h
     ·simp [ah,bU n hcg] at h
    ·rw [EP p hg0 hn]
     simp only [bF]
     rw [ho1]
     simp only
     rw [hsub]
  | _=>simp [aT] at hg1
 cases v with
 | val k0 y Tg=>
  cases k0 with
  | st c=>
   simp only [MW] at h
   rcases aB h with ⟨hc,h⟩ | ⟨_,h⟩
   ·have ek:=K.eq_of_beq hc
    cases hg:aQ n c y with
    | none=>rw [hg] at h; exact h.elim
    | some dd=>
     rw [hg] at h
     obtain ⟨g1,g2⟩:=gN h
     rw [aD g2]
     obtain ⟨cs,hv,hV⟩:=h1 (.inr g1)
     obtain ⟨off,ho1,ho2⟩:=RV n (show Vw _ _ c y cs from hV) hg
     obtain ⟨u,r1,r2⟩:=Wy ek.symm hv ho1 (nC (k:=c) hV) (Qi (k:=.st c) (by rw [ek]; exact ht.gP) hV)
     refine bL H hd hdn r1 (show bH cx σ α F w (.val dd.1 dd.2 _) u from fun _=>⟨_,r2, ?_⟩) ?_
     ·cases hf:dd.1.flat with
      | true=>exact je hf ho2
      | false=>exact ho2
     ·cases hf:dd.1.flat with
      | true=>intro t ht; simp at ht
      | false=>exact h2
   ·exact h.elim
  | _=>exact h.elim
 | ref r g=>
  simp only [MW] at h
  obtain ⟨R,hr,hv,h⟩:=dh h
  rcases aB h with ⟨hc,h5⟩ | ⟨_,h⟩
  ·simp only [Bool.and_eq_true] at hc
   obtain ⟨hka,KS⟩:=h1 R hr (Nat.eq_of_beq_eq_true hc.1)
   have ek:=K.eq_of_beq hc.2
   cases hg:aT [.gL n] R.k R.x with
   | none=>rw [hg] at h5; exact h5.elim
   | some dd=>
    rw [hg] at h5
    simp only at h5
    obtain ⟨u,r1,r2,r3⟩:=key (p:=[]) (d0:=⟨R.k,R.x⟩) hr hv rfl ek hg trivial (fun t ht=>by simp [ah] at ht) rfl KS
    rcases aB h5 with ⟨hf,h6⟩ | ⟨_,h6⟩
    ·rw [aD h6]
     exact bL H hd hdn r1 (r3 hf) (fun t ht=>by simp at ht)
    ·rw [aD h6]
     exact bL (x:=.one (.zW r [.gL n] R.Bp)) H hd hdn r1 r2 ⟨R,hr.1, .inr (Nat.le_refl _)⟩
  ·exact h.elim
 | zW r p nn=>
  simp only [MW] at h
  obtain ⟨R,hr,hv,h⟩:=dh h
  rcases aB h with ⟨hc,h5⟩ | ⟨_,h⟩
  ·cases hg0:aT p R.k R.x with
   | none=>rw [hg0] at h5; exact h5.elim
   | some d0=>
    cases hg:aT (p++[.gL n]) R.k R.x with
    | none=>rw [hg0,hg] at h5; exact h5.elim
    | some dd=>
     rw [hg0,hg] at h5
     simp only at h5
     rcases aB h5 with ⟨_,h6⟩ | ⟨hk,h6⟩
     ·exact h6.elim
     ·have ek:d0.1=kk:=K.eq_of_beq (by simpa using hk)
      obtain ⟨g1,g2,cs,wh,g3,g4⟩:=h1 R hr.1 hv (Nat.eq_of_beq_eq_true hc) d0 hg0
      obtain ⟨u,r1,r2,r3⟩:=key hr hv hg0 ek hg g1 g2 g3 g4
      rcases aB h6 with ⟨hf,h7⟩ | ⟨_,h7⟩
      ·rw [aD h7]
       exact bL H hd hdn r1 (r3 hf) (fun t ht=>by simp at ht)
      ·rw [aD h7]
       exact bL (x:=.one (.zW r (p++[.gL n]) R.Bp)) H hd hdn r1 (show kJ cx σ α F w (.one (.zW r (p++[.gL n]) R.Bp)) u from r2) ⟨R,hr.1, .inr (Nat.le_refl _)⟩
  ·exact h.elim
 | _=>exact h.elim
theorem OA (hT:fq P T) (H:Rel cx σ α F a w) (hd:o.dst=some d) (hdn:d<cx.nt) {t:TypeId} {x:Operand} {n:Nat} (ho:o.op=.fieldAddr t x n)
  (h:(match T.ty t with
   | some kk=>dP x fun a=>zm kk a n fun u=>.ret [Wr.s d (.one u)]
   | none=>(.fail:Prog (List Wr))).ends σ ws):vJ P cx o a w (aC ws σ):=by
 split at h
 case h_2=>exact h.elim
 rename_i kk hty
 have ht:=hT.ty t kk hty
 obtain ⟨v,h1,h2,h⟩:=bS H h
 have hrun:∀{c:K} {off:Nat} {k:K} {b q:Nat},kk=.st c→bD n c=some (off,k)→a.eval x=.pointer (some ⟨b,q,none⟩)→(execOp a.eval o).run P w=.ok (.value (.pointer (some ⟨b,q+off,none⟩))) w:=by
  intro c off k b q ek hoff ev
  subst ek
  have:=TU (w:=w) ht hoff b q
  simp only [execOp,ho,ev,Sem.run_bind,this,Result.andThen_ok,Sem.run_pure]
 cases v with
 | ptr r p m=>
  simp only [zm,Prog.ends] at h
  cases hr0:σ.roots r with
  | none=>rw [hr0] at h; exact h.elim
  | some R=>
   rw [hr0] at h
   simp only at h
   cases hg:aT p R.k R.x with
   | none=>rw [hg] at h; exact h.elim
   | some d0=>
    rw [hg] at h
    simp only at h
    rcases aB h with ⟨hc,h5⟩ | ⟨_,h5⟩
    ·simp only [Bool.and_eq_true] at hc
     rw [aD h5]
     unfold QH at hc
     cases kk with
     | st c=>
      obtain ⟨off,kf,hoff⟩:=Qv n hc.2
      obtain ⟨⟨b,q,ev⟩,h1'⟩:=h1
      refine bL (x:=.one (.ptr r (p++[.gL n]) m)) H hd hdn (hrun rfl hoff ev) ⟨⟨b,q+off,rfl⟩, ?_⟩ h2
      intro R' hR' hv hcl hown hs
      rw [hr0] at hR'
      simp only [Option.some.injEq] at hR'
      subst hR'
      have hpt:=ET p (q:=[.gL n]) hg
      have e0:ah [.gL n] d0.1=[]:=by
       obtain ⟨dk,dx⟩:=d0
       cases dk with
       | st c'=>
        simp only [ah]
        cases ah.KN n c' <;> rfl
       | _=>rfl
      rw [e0,List.append_nil] at hpt
      have hcl':clean R.h m (eB p R.k)=true:=by
       unfold clean at hcl ⊢
       rw [List.all_eq_true] at hcl ⊢
       intro t ht
       have:=hcl t ht
       simp only [Bool.not_eq_true',aV] at this ⊢
       intro h6
       refine this ?_
       have e1:eB (p++[.gL n]) R.k=tK :: ah (p++[.gL n]) R.k:=by cases p <;> rfl
       rw [e1,hpt]
       cases p with
       | nil=>simp [eB] at h6
       | cons s p=>exact h6
      rw [hpt] at hown
      obtain ⟨g1,cs,b',q',g2,g3⟩:=h1' R hr0 hv hcl' hown (by rw [hg]; rfl)
      rw [ev] at g3
      simp only [Value.pointer.injEq,Option.some.injEq,Addr.mk.injEq,and_true] at g3
      obtain ⟨rfl,rfl⟩:=g3
      have hga:=Kj p (q:=[.gL n]) hg
      rw [hga] at hs
      obtain ⟨dk,dx⟩:=d0
      cases dk with
      | st c'=>
       simp only [aT] at hs
       cases hcg:aQ n c' dx with
       | none=>rw [hcg] at hs; simp at hs
       | some s=>
        have hck:(ah.KN n c').isSome=true:=by rw [bU n hcg]; rfl
        obtain ⟨off',kf',aeg⟩:=Qv n hck
        have hl:c'.like c=true:=hc.1
        obtain ⟨kf2,aaE⟩:=aba n hl aeg
        rw [hoff] at aaE
        simp only [Option.some.injEq,Prod.mk.injEq] at aaE
        refine ⟨Gm p hg g1 (by simp only [oZ,hcg]),(cs.drop off').take kf'.size,b,q+off, ?_,rfl⟩
        rw [EP p hg g2]
        simp only [bF]
        rw [aeg]
        simp [aaE.1]
      | _=>simp [aT] at hs
     | _=>simp at hc
    ·exact h5.elim
 | jl bt k0 y Tg=>
  cases k0 with
  | st c=>
   simp only [zm] at h
   rcases aB h with ⟨hc,h5⟩ | ⟨_,h5⟩
   ·have ek:=K.eq_of_beq hc
    cases hg:aQ n c y with
    | none=>rw [hg] at h5; exact h5.elim
    | some dd=>
     rw [hg] at h5
     obtain ⟨g1,g2⟩:=gN h5
     rw [aD g2]
     obtain ⟨b,q,cs,e,hcs,hV,hok,hb⟩:=h1.2 g1
     obtain ⟨off,ho1,ho2⟩:=RV n (show Vw _ _ c y cs from hV) hg
     have hle:=Mx n ho1
     have hlen:=nC (k:=c) hV
     refine bL (x:=.one (.jl bt dd.1 dd.2 Tg)) H hd hdn (hrun ek.symm ho1 e) ⟨⟨b,q+off,rfl⟩,fun _=>⟨b,q+off,_,rfl, ?_,ho2,hok,hb⟩⟩ h2
     intro i hi
     simp only [List.length_take,List.length_drop] at hi
     rw [Nat.add_assoc,hcs (off+i) (by omega)]
     rw [List.getElem?_take_of_lt (by omega),List.getElem?_drop]
   ·exact h5.elim
  | _=>exact h.elim
 | MF r g k0 p=>
  simp only [zm] at h
  cases hk:Pn p k0 with
  | none=>rw [hk] at h; exact h.elim
  | some k1=>
   rw [hk] at h
   simp only at h
   rcases aB h with ⟨hc,h5⟩ | ⟨_,h5⟩
   ·simp only [Bool.and_eq_true] at hc
    rw [aD h5]
    have ek:=K.eq_of_beq hc.1
    subst ek
    obtain ⟨u,b,off,k2,e,hq,hC,ho1,hR⟩:=h1
    have e2:=Yi p hk ho1
    subst e2
    unfold QH at hc
    cases k2 with
    | st c=>
     obtain ⟨o2,kf,hoff⟩:=Qv n hc.2
     exact bL (x:=.one (.MF r g k0 (p++[.gL n]))) H hd hdn (hrun rfl hoff e) ⟨u,b,off+o2,kf,rfl,hq,hC,OE p ho1 rfl hoff,hR⟩ h2
    | _=>simp at hc
   ·exact h5.elim
 | _=>exact h.elim
theorem run_indexAt {t e:TypeId} {k:K} (h:fP P T t (.sl e k)) {ik:IntKind} {i:Int} {b q n c:Nat} (h0:0≤i) (h1:i<(n:Int)) :
  (Instr.indexAt t (.slice (some ⟨b,q,none⟩) n c) (.int ik i)).run P w=.ok (.pointer (some ⟨b,q+i.toNat * k.size,none⟩)) w:=by
 obtain ⟨hu,he,_,_⟩:=h.sl
 unfold Instr.indexAt
 simp [asIntOf,run_underlying hu,Result.andThen,h0,h1,he.info.sizeOf w,addr_add]
end
end Go.Proofs.YtdknpknohipffaaGreat.Ow

/- The framework, part 20: elements, lengths, tuples. Own work of this seat. -/
namespace Go.Proofs.YtdknpknohipffaaGreat.Ow
open Go
variable [Fr]
section
variable {P:Program} {T:jF} {cx:Cx} {σ:St} {α:dN} {F:List Nat} {a:Act} {w:World} {o:Oper} {d:Nat} {ws:List Wr}
theorem GL {e:TypeId} {k:K} {v:Value} {cs:List Value} {h:Heap} {ok:Nat→Prop} {xs:List (El k)} (hv:VC (.sl e k) v cs) (hV:Vw h ok (.sl e k) xs cs) :
  ∃b n c,v=.slice b n c∧cs=[.slice b n c]∧n=xs.length∧n≤c∧(0<n→∃bb q,b=some ⟨bb,q,none⟩∧ok bb∧zi h bb e∧∀(i:Nat) (hi:i<xs.length),∃ds,Cells h bb (q+i * k.size) ds∧Vw h ok k xs[i] ds):=by
 obtain ⟨b,n,c,e1,e2,e3,e4⟩:=hV
 obtain ⟨e5,_⟩:cs=[v]∧_:=hv
 rw [e1] at e5
 simp only [List.cons.injEq,and_true] at e5
 exact ⟨b,n,c,e5.symm,e1,e2,e3,e4⟩
theorem OB (hT:fq P T) (H:Rel cx σ α F a w) (hd:o.dst=some d) (hdn:d<cx.nt) {t:TypeId} {x y:Operand} (ho:o.op=.indexAddr t x y)
  (h:(match T.ty t with
   | some kk=>dP x fun a=>dP y fun i=>asInt i fun _ i=>zo kk a i fun u=>.ret [Wr.s d (.one u)]
   | none=>(.fail:Prog (List Wr))).ends σ ws):vJ P cx o a w (aC ws σ):=by
 split at h
 case h_2=>exact h.elim
 rename_i k0 hty
 have ht:=hT.ty t k0 hty
 obtain ⟨v,h1,h2,h⟩:=bS H h
 obtain ⟨vi,h3,_,h⟩:=bS H h
 obtain ⟨ik,i,ei,_,h⟩:=BP h3 h
 have hrun:∀{e:TypeId} {k:K} {b q n c:Nat},k0=.sl e k→a.eval x=.slice (some ⟨b,q,none⟩) n c→0≤i→i<(n:Int)→(execOp a.eval o).run P w=.ok (.value (.pointer (some ⟨b,q+i.toNat * k.size,none⟩))) w:=by
  intro e k b q n c ek ev g0 g1
  subst ek
  have:=run_indexAt (w:=w) (ik:=ik) (b:=b) (q:=q) (c:=c) ht g0 g1
  simp only [execOp,ho,ev,ei,Sem.run_bind,this,Result.andThen_ok,Sem.run_pure]
 have key:∀{r:Nat} {R:Root} {p:List Stp} {e:TypeId} {kk:K} {xs:List (El kk)} {cs:List Value} {wh:Option (Nat×Nat)},aR σ r R→bq σ R→aT p R.k R.x=some ⟨.sl e kk,xs⟩→K.sl e kk=k0→oZ p R.k R.x→(∀t∈ah p R.k,ay t R.own=true)→
   bF (hp w) p R.k (α.hdr r) (eD α R r)=some (cs,wh)→VC (.sl e kk) (a.eval x) cs→aH i xs.length→
   ∃u,(execOp a.eval o).run P w=.ok (.value u) w∧bH cx σ α F w (.ptr r (p++[.idx i]) (gG R.h)) u∧bH cx σ α F w (.jl e kk (xs.getD i.toNat kk.zero) (R.out r (.sl e kk))) u:=by
  intro r R p e kk xs cs wh hr hv hg ek fT hown hn KS hin
  obtain ⟨gp,hO,hf⟩:=yF H hr hv hg fT hown hn
  have hV:=qK H hr hO hf
  obtain ⟨b,n,c,g1,g2,g3,g4,g5⟩:=GL KS hV
  have i0:(0:Int)≤i:=hin.1
  have i1:i<(xs.length:Int):=hin.2
  have hlt:i.toNat<xs.length:=by omega
  obtain ⟨bb,q,rfl,hok,hel,hes⟩:=g5 (by rw [g3]; exact Nat.lt_of_le_of_lt (Nat.zero_le _) hlt)
  obtain ⟨ds,hc,hVd⟩:=hes i.toNat hlt
  refine ⟨_,hrun ek.symm g1 i0 (by rw [g3]; exact i1),⟨⟨bb,q+i.toNat * kk.size,rfl⟩, ?_⟩,⟨⟨bb,q+i.toNat * kk.size,rfl⟩,fun _=>⟨bb,_,ds,rfl,hc, ?_,hok.q, .inr ⟨hel,hok.2.2.1⟩⟩⟩⟩
  ·intro R' hR' _ _ _ _
   rw [hr.1] at hR'
   simp only [Option.some.injEq] at hR'
   subst hR'
   refine ⟨Gm p hg fT ⟨i0,i1,trivial⟩,sF (hp w) bb (q+i.toNat * kk.size) kk.size,bb,q+i.toNat * kk.size, ?_,rfl⟩
   rw [EP p hg hn,g2]
   rfl
  ·rw [bZ hlt]
   exact hVd
 cases v with
 | val k1 y Tg=>
  cases k1 with
  | sl e kk=>
   simp only [zo] at h
   rcases aB h with ⟨hc,h5⟩ | ⟨_,h5⟩
   ·have ek:=K.eq_of_beq hc
    obtain ⟨g1,g2⟩:=gN h5
    obtain ⟨hin,g3⟩:=g2
    rw [aD g3]
    obtain ⟨cs,KS,hV⟩:=h1 (.inr g1)
    obtain ⟨b,n,c,f1,f2,f3,f4,f5⟩:=GL KS hV
    obtain ⟨i0,i1⟩:=hin
    have hlt:i.toNat < @List.length (El kk) y:=by
     have i1':i<((@List.length (El kk) y:Nat):Int):=i1
     omega
    obtain ⟨bb,q,rfl,hok,hel,hes⟩:=f5 (by omega)
    obtain ⟨ds,hcs,hVd⟩:=hes i.toNat hlt
    refine bL (x:=.one (.jl e kk _ Tg)) H hd hdn (hrun ek.symm f1 i0 (by rw [f3]; exact i1)) ⟨⟨bb,_,rfl⟩,fun _=>⟨bb,_,ds,rfl,hcs, ?_,hok.q, .inr ⟨hel,hok.2.2.1⟩⟩⟩ h2
    have eg:(show List (El kk) from y).getD i.toNat kk.zero=(show List (El kk) from y)[i.toNat]'hlt:=bZ hlt
    rw [eg]
    exact hVd
   ·exact h5.elim
  | _=>exact h.elim
 | ref r g=>
  simp only [zo] at h
  obtain ⟨R,hr,hv,h⟩:=dh h
  rcases aB h with ⟨hc,h5⟩ | ⟨_,h5⟩
  ·obtain ⟨hka,KS⟩:=h1 R hr (Nat.eq_of_beq_eq_true hc)
   have hg:aT [] R.k R.x=some ⟨R.k,R.x⟩:=rfl
   have hK:∀(q:Dat),aT [] R.k R.x=some q→∀hh:(match q.1,q.2 with
     | .sl e kk,xs=>bif ay e R.own && (K.sl e kk).beq k0 then Prog.zX (aH i (show List (El kk) from xs).length) inferInstance ((.ret [Wr.s d (.one (.ptr r [.idx i] (gG R.h)))]):Prog (List Wr)) else Prog.fail
     | _,_=>Prog.fail).ends σ ws,VC q.1 (a.eval x) (α.hdr r)→vJ P cx o a w (aC ws σ):=by
    intro q hq hh KS
    obtain ⟨qk,qx⟩:=q
    cases qk with
    | sl e kk=>
     simp only at hh
     rcases aB hh with ⟨hc2,h6⟩ | ⟨_,h6⟩
     ·simp only [Bool.and_eq_true] at hc2
      obtain ⟨hin,h7⟩:=h6
      rw [aD h7]
      obtain ⟨u,r1,r2,_⟩:=key (p:=[]) hr hv hq (K.eq_of_beq hc2.2) trivial (fun t ht=>by simp [ah] at ht) rfl KS hin
      exact bL (x:=.one (.ptr r [.idx i] (gG R.h))) H hd hdn r1 r2 ⟨R,hr.1, .inr (Nat.le_refl _)⟩
     ·exact h6.elim
    | _=>exact hh.elim
   exact hK ⟨R.k,R.x⟩ hg h5 KS
  ·exact h5.elim
 | zW r p nn=>
  simp only [zo] at h
  obtain ⟨R,hr,hv,h⟩:=dh h
  rcases aB h with ⟨hc,h5⟩ | ⟨_,h5⟩
  ·cases hg0:aT p R.k R.x with
   | none=>rw [hg0] at h5; exact h5.elim
   | some d0=>
    rw [hg0] at h5
    obtain ⟨g1,g2,cs,wh,g3,g4⟩:=h1 R hr.1 hv (Nat.eq_of_beq_eq_true hc) d0 hg0
    obtain ⟨dk,dx⟩:=d0
    cases dk with
    | sl e kk=>
     simp only at h5
     rcases aB h5 with ⟨_,h6⟩ | ⟨hk,h6⟩
     ·exact h6.elim
     ·have ek:K.sl e kk=k0:=K.eq_of_beq (by simpa using hk)
      rcases aB h6 with ⟨_,h7⟩ | ⟨_,h7⟩
      ·obtain ⟨hin,h8⟩:=h7
       rw [aD h8]
       obtain ⟨u,r1,r2,_⟩:=key hr hv hg0 ek g1 g2 g3 g4 hin
       exact bL (x:=.one (.ptr r (p++[.idx i]) (gG R.h))) H hd hdn r1 (show kJ cx σ α F w (.one (.ptr r (p++[.idx i]) (gG R.h))) u from r2) ⟨R,hr.1, .inr (Nat.le_refl _)⟩
      ·obtain ⟨hin,h8⟩:=h7
       rw [aD h8]
       obtain ⟨u,r1,_,r3⟩:=key hr hv hg0 ek g1 g2 g3 g4 hin
       exact bL H hd hdn r1 (show kJ cx σ α F w (.one (.jl e kk _ (R.out r (.sl e kk)))) u from r3) (Py H hr _)
    | _=>exact h5.elim
  ·exact h5.elim
 | _=>exact h.elim
theorem Qs (B:ByteArray) {n:Nat} (h:n<B.size):(bytesOf B).getD n 0=(B[n].toNat:Int):=by
 unfold bytesOf
 have:n<(B.data.toList.map fun b=>(b.toNat:Int)).length:=by simpa using h
 rw [bZ this]
 simp
 rfl
theorem nJ (B:ByteArray):(bytesOf B).length=B.size:=by simp [bytesOf]
theorem XO (hT:fq P T) (H:Rel cx σ α F a w) (hd:o.dst=some d) (hdn:d<cx.nt) {t:TypeId} {x y:Operand} (ho:o.op=.index t x y)
  (h:(dP x fun a=>dP y fun i=>asInt i fun _ i=>match T.ty t,a with
   | some .str, .val .str s _=>.zX (aH i (show List Int from s).length) inferInstance (.ret [Wr.s d (.one (.val (.int .u8) ((show List Int from s).getD i.toNat 0) []))])
   | _,_=>(.fail:Prog (List Wr))).ends σ ws):vJ P cx o a w (aC ws σ):=by
 obtain ⟨v,h1,h2,h⟩:=bS H h
 obtain ⟨vi,h3,_,h⟩:=bS H h
 obtain ⟨ik,i,ei,_,h⟩:=BP h3 h
 cases hty:T.ty t with
 | none=>rw [hty] at h; exact h.elim
 | some k0=>
  rw [hty] at h
  cases k0 with
  | str=>
   cases v with
   | val k1 s Tg=>
    cases k1 with
    | str=>
     simp only at h
     obtain ⟨⟨i0,i1⟩,h4⟩:=h
     rw [aD h4]
     obtain ⟨B,e1,e2⟩:=A7 h1
     subst e2
     have hu:P.underlying t=some .string:=by
      have:=hT.ty t .str hty
      unfold fP kg at this
      exact this.1
     have hlt:i.toNat<B.size:=by
      have i1':i<((bytesOf B).length:Int):=i1
      rw [nJ] at i1'
      omega
     refine bL (v:=.int .u8 (B[i.toNat].toNat:Int)) H hd hdn ?_ ?_ (fun t ht=>by simp at ht)
     ·simp only [execOp,ho,e1,ei,Instr.index,asIntOf,Sem.run_bind,Sem.run_pure,Result.andThen_ok,run_underlying hu]
      rw [if_pos i0]
      simp [hlt]
     ·have eg:(show List Int from bytesOf B).getD i.toNat 0=(B[i.toNat].toNat:Int):=Qs B hlt
      rw [eg]
      refine Vt ⟨by omega, ?_⟩
      have:=B[i.toNat].toNat_lt
      omega
    | _=>exact h.elim
   | _=>exact h.elim
  | _=>cases v <;> exact h.elim
theorem Vq {l:List AV} {vs:List Value} (h:fE cx σ α F w l vs) {i:Nat} {x:AV} (hi:l[i]?=some x):∃v,vs[i]?=some v∧bH cx σ α F w x v:=by
 induction l generalizing vs i with
 | nil=>simp at hi
 | cons b l ih=>
  cases vs with
  | nil=>exact h.elim
  | cons u vs=>
   cases i with
   | zero=>simp only [List.getElem?_cons_zero,Option.some.injEq] at hi; subst hi; exact ⟨u,rfl,h.1⟩
   | succ i=>simp only [List.getElem?_cons_succ] at hi; obtain ⟨v,h1,h2⟩:=ih h.2 hi; exact ⟨v,by simpa using h1,h2⟩
theorem Sv (H:Rel cx σ α F a w) (hd:o.dst=some d) (hdn:d<cx.nt) {x:Operand} {i:Nat} (ho:o.op=.extract x i)
  (h:(xZ x fun
   | .Li l=>match l[i]? with
    | some u=>.ret [Wr.s d (.one u)]
    | none=>.fail
   | _=>(.fail:Prog (List Wr))).ends σ ws):vJ P cx o a w (aC ws σ):=by
 obtain ⟨v,h1,h2,h⟩:=wG H h
 cases v with
 | one u=>exact h.elim
 | Li l=>
  simp only at h
  cases hi:l[i]? with
  | none=>rw [hi] at h; exact h.elim
  | some u=>
   rw [hi] at h
   rw [aD h]
   obtain ⟨vs,e1,e2⟩:=h1
   obtain ⟨v,g1,g2⟩:=Vq e2 hi
   refine bL (x:=.one u) (v:=v) H hd hdn ?_ g2 (h2 u (List.mem_of_getElem? hi))
   simp [execOp,ho,e1,Instr.extract,g1]
end
end Go.Proofs.YtdknpknohipffaaGreat.Ow

/- The framework, part 21: operators. Own work of this seat. -/
namespace Go.Proofs.YtdknpknohipffaaGreat.Ow
open Go
variable [Fr]
theorem oO (ik:IntKind) (n:Int):KX ik (ik.wrap n):=by
 cases ik <;> simp only [KX]
 simp only [IntKind.wrap,IntKind.bits,IntKind.signed]
 simp
 omega
section
variable {P:Program} {cx:Cx} {σ:St} {α:dN} {F:List Nat} {a:Act} {w:World} {o:Oper} {d:Nat} {ws:List Wr}
theorem qO (ik:IntKind) {n:Int} (h:KX ik n):kJ cx σ α F w (v1 (.int ik) n) (.int ik n):=Vt h
theorem jm (b:Bool):kJ cx σ α F w (v1 .bool b) (.bool b):=ado
theorem D9 {k:K} {x:El k}:CV σ (v1 k x):=fun t ht=>by simp at ht
theorem Yf {op:BinOp} {ik:IntKind} {x y:Int} {z:List Wr} (hx:KX ik x) (hy:KX ik y) (ht:TypeId) {k:Br→Prog (List Wr)} (hk:∀v,k v=.ret [Wr.s d v]) (h:(WB op ik x y k).ends σ z) :
  ∃kk y',(∃v,(Go.binOp op ht (.int ik x) (.int ik y)).run P w=.ok v w∧kJ cx σ α F w (v1 kk y') v)∧z=[Wr.s d (v1 kk y')]:=by
 unfold WB at h
 cases op <;> simp only [hk] at h
 case add=>exact ⟨.int ik,_,⟨_,by simp [Go.binOp,Op.intArith],qO ik (oO ik _)⟩,aD h⟩
 case sub=>exact ⟨.int ik,_,⟨_,by simp [Go.binOp,Op.intArith],qO ik (oO ik _)⟩,aD h⟩
 case mul=>exact ⟨.int ik,_,⟨_,by simp [Go.binOp,Op.intArith],qO ik (oO ik _)⟩,aD h⟩
 case quo=>
  obtain ⟨h0,h⟩:=h
  exact ⟨.int ik,_,⟨_,by simp [Go.binOp,Op.intDiv,h0],qO ik (oO ik _)⟩,aD h⟩
 case rem=>
  obtain ⟨h0,h⟩:=h
  refine ⟨.int ik,_,⟨_,by simp [Go.binOp,Op.intDiv,h0],qO ik ?_⟩,aD h⟩
  cases ik <;> simp only [KX] at hx hy ⊢
  have h1:=Int.tmod_nonneg y hx.1
  have h2:x.tmod y<y:=by
   rw [Int.tmod_eq_emod_of_nonneg hx.1]
   exact Int.emod_lt_of_pos x (by omega)
  omega
 case and=>exact ⟨.int ik,_,⟨_,by simp [Go.binOp,Op.intBits],qO ik (oO ik _)⟩,aD h⟩
 case or=>exact ⟨.int ik,_,⟨_,by simp [Go.binOp,Op.intBits],qO ik (oO ik _)⟩,aD h⟩
 case xor=>exact ⟨.int ik,_,⟨_,by simp [Go.binOp,Op.intBits],qO ik (oO ik _)⟩,aD h⟩
 case andNot=>exact ⟨.int ik,_,⟨_,by simp [Go.binOp,Op.intBits],qO ik (oO ik _)⟩,aD h⟩
 case eql=>exact ⟨.bool,_,⟨.bool (decide (x=y)),by simp only [Go.binOp,ne_eq,not_true_eq_false, ↓reduceIte]; rfl,jm _⟩,aD h⟩
 case neq=>exact ⟨.bool,_,⟨.bool (!decide (x=y)),by simp only [Go.binOp,ne_eq,not_true_eq_false, ↓reduceIte]; rfl,jm _⟩,aD h⟩
 case lss=>exact ⟨.bool,_,⟨_,by simp [Go.binOp,Op.intCmp],jm _⟩,aD h⟩
 case leq=>exact ⟨.bool,_,⟨_,by simp [Go.binOp,Op.intCmp],jm _⟩,aD h⟩
 case gtr=>exact ⟨.bool,_,⟨_,by simp [Go.binOp,Op.intCmp],jm _⟩,aD h⟩
 case geq=>exact ⟨.bool,_,⟨_,by simp [Go.binOp,Op.intCmp],jm _⟩,aD h⟩
 all_goals exact h.elim
theorem aa6:∀(x y:List UInt8),DI (x.map fun b=>(b.toNat:Int)) (y.map fun b=>(b.toNat:Int))=Op.bytesLess x y:=by
 intro x
 induction x with
 | nil=>intro y; cases y <;> rfl
 | cons a x ih=>
  intro y
  cases y with
  | nil=>rfl
  | cons b y=>
   simp only [List.map_cons,DI,Op.bytesLess,ih]
   have h1:decide ((a.toNat:Int)<(b.toNat:Int))=decide (a<b):=by
    apply decide_eq_decide.2
    rw [UInt8.lt_iff_toNat_lt]
    omega
   have h2:decide ((a.toNat:Int)=(b.toNat:Int))=(a == b):=by
    rw [show (a == b)=decide (a=b) from rfl]
    apply decide_eq_decide.2
    rw [←UInt8.toNat_inj]
    omega
   rw [h1,h2]
theorem Tw:∀{x y:List UInt8},x.map (fun b=>(b.toNat:Int))=y.map (fun b=>(b.toNat:Int))↔x=y:=by
 intro x
 induction x with
 | nil=>intro y; cases y <;> simp
 | cons a x ih=>
  intro y
  cases y with
  | nil=>simp
  | cons b y=>
   simp only [List.map_cons,List.cons.injEq,ih]
   have:(a.toNat:Int)=(b.toNat:Int)↔a=b:=by rw [←UInt8.toNat_inj]; omega
   rw [this]
theorem Si {A B:ByteArray}:bytesOf A=bytesOf B↔A.toList=B.toList:=by
 unfold bytesOf
 rw [Tw,ByteArray.toList_eq,ByteArray.toList_eq]
theorem CW {A B:ByteArray}:(A.toList == B.toList)=decide (bytesOf A=bytesOf B):=by
 rw [show (A.toList == B.toList)=decide (A.toList=B.toList) from by
  cases h:(A.toList == B.toList) with
  | true=>simp [eq_of_beq h]
  | false=>simp [ne_of_beq_false h]]
 exact decide_eq_decide.2 Si.symm
theorem yB {A B:ByteArray}:Op.bytesLess A.toList B.toList=DI (bytesOf A) (bytesOf B):=by
 unfold bytesOf
 rw [aa6,ByteArray.toList_eq,ByteArray.toList_eq]
theorem Ms (A B:ByteArray):bytesOf (A++B)=bytesOf A++bytesOf B:=by
 unfold bytesOf
 rw [←List.map_append]
 congr 1
theorem YM {op:BinOp} {A B:ByteArray} {z:List Wr} (ht:TypeId) {k:Br→Prog (List Wr)} (hk:∀v,k v=.ret [Wr.s d v]) (h:(abO op (bytesOf A) (bytesOf B) k).ends σ z) :
  ∃kk y',(∃v,(Go.binOp op ht (.string A) (.string B)).run P w=.ok v w∧kJ cx σ α F w (v1 kk y') v)∧z=[Wr.s d (v1 kk y')]:=by
 unfold abO at h
 cases op <;> simp only [hk] at h
 case add=>
  obtain ⟨h0,h⟩:=h
  rw [nJ,nJ] at h0
  refine ⟨.str,bytesOf A++bytesOf B,⟨.string (A++B), ?_, ?_⟩,aD h⟩
  ·have:¬(((A.size+B.size:Nat):Int)>IntKind.i64.max):=by
    simp only [IntKind.max,IntKind.signed,IntKind.bits]
    simp
    omega
   simp only [Go.binOp,Op.stringOp]
   rw [if_neg this]
   rfl
  ·rw [←Ms]; exact Vu
 case eql=>exact ⟨.bool,_,⟨.bool (decide (bytesOf A=bytesOf B)),by simp only [Go.binOp,Op.stringOp]; rw [CW]; rfl,jm _⟩,aD h⟩
 case neq=>exact ⟨.bool,_,⟨.bool (!decide (bytesOf A=bytesOf B)),by simp only [Go.binOp,Op.stringOp]; rw [CW]; rfl,jm _⟩,aD h⟩
 case lss=>exact ⟨.bool,_,⟨.bool (DI (bytesOf A) (bytesOf B)),by simp only [Go.binOp,Op.stringOp]; rw [yB]; rfl,jm _⟩,aD h⟩
 case leq=>exact ⟨.bool,_,⟨.bool (DI (bytesOf A) (bytesOf B) || decide (bytesOf A=bytesOf B)),by simp only [Go.binOp,Op.stringOp]; rw [yB,CW]; rfl,jm _⟩,aD h⟩
 case gtr=>exact ⟨.bool,_,⟨.bool (!(DI (bytesOf A) (bytesOf B) || decide (bytesOf A=bytesOf B))),by simp only [Go.binOp,Op.stringOp]; rw [yB,CW]; rfl,jm _⟩,aD h⟩
 case geq=>exact ⟨.bool,_,⟨.bool (!DI (bytesOf A) (bytesOf B)),by simp only [Go.binOp,Op.stringOp]; rw [yB]; rfl,jm _⟩,aD h⟩
 all_goals exact h.elim
theorem Z5 (H:Rel cx σ α F a w) (hd:o.dst=some d) (hdn:d<cx.nt) {t:TypeId} {x:Operand} {op:UnOp} (ho:o.op=.unOp op t x)
  (h:(dP x fun a=>unP op a fun v=>(.ret [Wr.s d v]:Prog (List Wr))).ends σ ws):vJ P cx o a w (aC ws σ):=by
 obtain ⟨v,h1,h2,h⟩:=bS H h
 unfold unP at h
 split at h
 ·obtain ⟨e1,e2⟩:=AZ h1
  rw [aD h]
  exact bL H hd hdn (by simp [execOp,ho,e1,Op.unary,Op.intArith]) (qO _ (oO _ _)) D9
 ·obtain ⟨e1,e2⟩:=AZ h1
  rw [aD h]
  exact bL H hd hdn (by simp [execOp,ho,e1,Op.unary,Op.intBits]) (qO _ (oO _ _)) D9
 ·have e1:=Cu h1
  rw [aD h]
  exact bL H hd hdn (by simp [execOp,ho,e1,Op.unary]) (jm _) D9
 ·exact h.elim
end
end Go.Proofs.YtdknpknohipffaaGreat.Ow

/- The framework, part 22: two operands. Own work of this seat. -/
namespace Go.Proofs.YtdknpknohipffaaGreat.Ow
open Go
variable [Fr]
section
variable {P:Program} {T:jF} {cx:Cx} {σ:St} {α:dN} {F:List Nat} {a:Act} {w:World} {o:Oper} {d:Nat} {ws:List Wr}
theorem D6 {op:BinOp} {t:TypeId} {x y:Operand} {u v:Value} (h:(∀c,u≠.agg c)∧u≠.nilIface):(eqGuard op t x y u v).run P w=.ok () w:=by
 unfold eqGuard
 cases op <;> simp only [Bool.not_true,Bool.not_false,Bool.false_eq_true, ↓reduceIte] <;> first | rfl | skip
 all_goals (cases u <;> first | rfl | exact absurd rfl (h.1 _) | exact absurd rfl h.2)
theorem Dl:∃n,Op.maxDepth=n+1:=⟨Op.maxDepth - 1,by unfold Op.maxDepth; rfl⟩
theorem run_equal_bool {t:TypeId} (h:P.underlying t=some .bool) (x y:Bool):(Op.equal t (.bool x) (.bool y)).run P w=.ok (x == y) w:=by
 obtain ⟨n,e⟩:=Dl
 unfold Op.equal
 rw [e]
 simp [Op.equalIn,run_underlying h]
theorem Gd {t e:TypeId} (h:P.underlying t=some (.pointer e)) {u v:Option Addr} (hn:u=none∨v=none):(Op.equal t (.pointer u) (.pointer v)).run P w=.ok (u.isNone && v.isNone) w:=by
 obtain ⟨n,e⟩:=Dl
 unfold Op.equal
 rw [e]
 rcases hn with rfl | rfl
 ·simp [Op.equalIn,run_underlying h]
 ·cases u <;> simp [Op.equalIn,run_underlying h]
theorem Yy {x y:AV} {u v:Value} {b:Bool} (hx:bH cx σ α F w x u) (hy:bH cx σ α F w y v) (h:TB x y=some b):∃p q,u=.pointer p∧v=.pointer q∧(p=none∨q=none)∧(p.isNone && q.isNone)=b:=by
 unfold TB at h
 split at h <;> simp only [Option.some.injEq,reduceCtorEq] at h <;> subst h
 ·exact ⟨none,none,hx,hy, .inl rfl,rfl⟩
 ·obtain ⟨b,q,e⟩:=hy.1; exact ⟨none,_,hx,e, .inl rfl,rfl⟩
 ·obtain ⟨b,q,e⟩:=hx.1; exact ⟨_,none,e,hy, .inr rfl,rfl⟩
 ·obtain ⟨b,q,e⟩:=hy.1; exact ⟨none,_,hx,e, .inl rfl,rfl⟩
 ·obtain ⟨b,q,e⟩:=hx.1; exact ⟨_,none,e,hy, .inr rfl,rfl⟩
def Ot (P:Program) (T:jF):Prop:=∀(t:TypeId) (c:K) (x y:El c) (u v:Array Value) (w:World) (hp1 hp2:Heap) (ok1 ok2:Nat→Prop),T.ty t=some (.st c)→T.eq t=true→c.flat=true→
 Vw hp1 ok1 c x u.toList→Vw hp2 ok2 c y v.toList→(Op.equal t (.agg u) (.agg v)).run P w=.ok (Df c x y) w∧∀x y op,(eqGuard op t x y (.agg u) (.agg v)).run P w=.ok () w
theorem UJ {A:Type} {z:A} {t:TypeId} {op:BinOp} {u v:AV} {k:Br→Prog A} (h:(Sd T t op u v k).ends σ z) :
  (∃ik x T1 jk y T2,u=.val (.int ik) x T1∧v=.val (.int jk) y T2)∨(∃x T1 y T2,u=.val .bool x T1∧v=.val .bool y T2)∨(∃x T1 y T2,u=.val .str x T1∧v=.val .str y T2)∨
  (∃c x T1 e y T2,u=.val (.st c) x T1∧v=.val (.st e) y T2)∨(T.ptr t=true∧∃b,TB u v=some b∧((op=.eql∧(k (v1 .bool b)).ends σ z)∨(op=.neq∧(k (v1 .bool (!b))).ends σ z))):=by
 unfold Sd at h
 split at h
 ·exact .inl ⟨_,_,_,_,_,_,rfl,rfl⟩
 ·exact .inr (.inl ⟨_,_,_,_,rfl,rfl⟩)
 ·exact .inr (.inr (.inl ⟨_,_,_,_,rfl,rfl⟩))
 ·exact .inr (.inr (.inr (.inl ⟨_,_,_,_,_,_,rfl,rfl⟩)))
 ·rcases aB h with ⟨hp,h5⟩ | ⟨_,h5⟩
  ·cases hn:TB u v with
   | none=>rw [hn] at h5; exact h5.elim
   | some b=>
    rw [hn] at h5
    cases op with
    | eql=>exact .inr (.inr (.inr (.inr ⟨hp,b,rfl, .inl ⟨rfl,h5⟩⟩)))
    | neq=>exact .inr (.inr (.inr (.inr ⟨hp,b,rfl, .inr ⟨rfl,h5⟩⟩)))
    | _=>exact h5.elim
  ·exact h5.elim
theorem OO {t e:TypeId} (h:P.underlying t=some (.slice e)) (p:Option Addr) (n c:Nat):(Go.binOp .eql t (.slice p n c) (.slice none 0 0)).run P w=.ok (.bool p.isNone) w:=by
 obtain ⟨m,em⟩:=Dl
 have:(Op.equal t (.slice p n c) (.slice none 0 0)).run P w=.ok p.isNone w:=by
  unfold Op.equal
  rw [em]
  cases p <;> simp [Op.equalIn,run_underlying h]
 simp only [Go.binOp]
 simp [this,Result.andThen]
theorem U1 (hT:fq P T) (hSt:Ot P T) (H:Rel cx σ α F a w) (hd:o.dst=some d) (hdn:d<cx.nt) {t t2:TypeId} {x y:Operand} {op:BinOp} (ho:o.op=.binOp op t x y t2)
  (h:(dP x fun a=>dP y fun b=>Sd T t op a b fun v=>(.ret [Wr.s d v]:Prog (List Wr))).ends σ ws):vJ P cx o a w (aC ws σ):=by
 obtain ⟨u,h1,hu1,h5⟩:=bS H h
 obtain ⟨v,h3,hu3,h6⟩:=bS H h5
 clear h h5
 have h:=h6
 clear h6
 have hrun:∀{z:Value},((∀c,a.eval x≠.agg c)∧a.eval x≠.nilIface)→(Go.binOp op t (a.eval x) (a.eval y)).run P w=.ok z w→(execOp a.eval o).run P w=.ok (.value z) w:=by
  intro z hz h
  have hg:=D6 (P:=P) (w:=w) (op:=op) (t:=t) (x:=x) (y:=y) (v:=a.eval y) hz
  simp only [execOp,ho,Sem.run_bind,hg,h,Result.andThen_ok,Sem.run_pure]
 rcases UJ h with ⟨ik,x1,T1,jk,y1,T2,rfl,rfl⟩ | ⟨x1,T1,y1,T2,rfl,rfl⟩ | ⟨x1,T1,y1,T2,rfl,rfl⟩ | ⟨c,x1,T1,dd,y1,T2,rfl,rfl⟩ | ⟨hp,b,hne,hop⟩
 ·obtain ⟨e1,r1⟩:=AZ h1
  obtain ⟨e2,r2⟩:=AZ h3
  have hag:(∀c,a.eval x≠.agg c)∧a.eval x≠.nilIface:=by rw [e1]; simp
  have hplain:(bif DF ik jk then WB op ik x1 y1 fun v=>(.ret [Wr.s d v]:Prog (List Wr)) else .fail).ends σ ws→vJ P cx o a w (aC ws σ):=by
   intro h
   rcases aB h with ⟨hik,h⟩ | ⟨_,h⟩
   ·have:=EH hik
    subst this
    obtain ⟨kk,y',⟨z,g1,g2⟩,g3⟩:=Yf (P:=P) (cx:=cx) (σ:=σ) (α:=α) (F:=F) (w:=w) (d:=d) r1 r2 t (fun v=>rfl) h
    rw [g3]
    exact bL H hd hdn (hrun hag (by rw [e1,e2]; exact g1)) g2 D9
   ·exact h.elim
  cases op with
  | shl=>
   obtain ⟨h0,h⟩:=h
   rw [aD h]
   refine bL H hd hdn (hrun hag (z:=.int ik (ik.wrap (x1 * 2 ^ min y1.toNat ik.bits))) ?_) (qO ik (oO _ _)) D9
   rw [e1,e2]
   simp only [Go.binOp,Op.shift]
   rw [if_neg (Int.not_lt.2 h0)]
   rfl
  | shr=>
   obtain ⟨h0,h⟩:=h
   rw [aD h]
   refine bL H hd hdn (hrun hag (z:=.int ik (x1.fdiv (2 ^ min y1.toNat ik.bits))) ?_) (qO ik ?_) D9
   ·rw [e1,e2]
    simp only [Go.binOp,Op.shift]
    rw [if_neg (Int.not_lt.2 h0)]
    rfl
   ·cases ik <;> simp only [KX] at r1 ⊢
    have hp:(0:Int)<2 ^ min y1.toNat IntKind.u8.bits:=Int.pow_pos (by omega)
    have g1:0≤x1.fdiv (2 ^ min y1.toNat IntKind.u8.bits):=Int.fdiv_nonneg r1.1 (Int.le_of_lt hp)
    have g2:x1.fdiv (2 ^ min y1.toNat IntKind.u8.bits)≤x1:=by
     rw [Int.fdiv_eq_ediv_of_nonneg _ (Int.le_of_lt hp)]
     exact Int.ediv_le_self _ r1.1
    omega
  | _=>exact hplain h
 ·have e1:=Cu h1
  have e2:=Cu h3
  have hag:(∀c,a.eval x≠.agg c)∧a.eval x≠.nilIface:=by rw [e1]; simp
  have hub:T.ty t=some .bool→P.underlying t=some .bool:=fun hty=>by
   have:=hT.ty t .bool hty
   unfold fP kg at this
   exact this.1
  cases hty:T.ty t with
  | none=>simp only [Sd,hty] at h; exact h.elim
  | some k0=>
   cases k0 with
   | bool=>
    have hu:=hub hty
    simp only [Sd,hty] at h
    cases op with
    | eql=>
     rw [aD h]
     refine bL H hd hdn (hrun hag (z:=.bool (x1 == y1)) ?_) (jm _) D9
     rw [e1,e2]
     simp only [Go.binOp,Sem.run_bind,run_equal_bool hu,Result.andThen_ok,Sem.run_pure]
    | neq=>
     rw [aD h]
     refine bL H hd hdn (hrun hag (z:=.bool (!(x1 == y1))) ?_) (jm _) D9
     rw [e1,e2]
     simp only [Go.binOp,Sem.run_bind,run_equal_bool hu,Result.andThen_ok,Sem.run_pure]
    | _=>exact h.elim
   | _=>simp only [Sd,hty] at h; exact h.elim
 ·obtain ⟨A,e1,f1⟩:=A7 h1
  obtain ⟨B,e2,f2⟩:=A7 h3
  subst f1
  subst f2
  have hag:(∀c,a.eval x≠.agg c)∧a.eval x≠.nilIface:=by rw [e1]; simp
  obtain ⟨kk,y',⟨z,g1,g2⟩,g3⟩:=YM (P:=P) (cx:=cx) (σ:=σ) (α:=α) (F:=F) (w:=w) (d:=d) t (fun v=>rfl) h
  rw [g3]
  exact bL H hd hdn (hrun hag (by rw [e1,e2]; exact g1)) g2 D9
 ·simp only [Sd] at h
  cases hck:bQ (.st dd) (.st c) y1 with
  | none=>rw [hck] at h; exact h.elim
  | some y2=>
   rw [hck] at h
   obtain ⟨ek,ey⟩:=bK hck
   simp only [K.st.injEq] at ek
   subst ek
   simp only at ey
   subst ey
   simp only at h
   rcases aB h with ⟨hc,h5⟩ | ⟨_,h5⟩
   ·simp only [Bool.and_eq_true] at hc
    have hty:T.ty t=some (.st dd):=by
     have h2:=hc.2
     cases ht:T.ty t with
     | none=>rw [ht] at h2; simp at h2
     | some kk=>rw [ht] at h2; rw [K.eq_of_beq h2]
    obtain ⟨cs1,e1,V1⟩:=h1 (.inl hc.1.1)
    obtain ⟨cs2,e2,V2⟩:=h3 (.inl hc.1.1)
    have e1':a.eval x=.agg cs1.toArray:=e1
    have e2':a.eval y=.agg cs2.toArray:=e2
    obtain ⟨r1,r2⟩:=hSt t dd x1 y2 cs1.toArray cs2.toArray w _ _ _ _ hty hc.1.2 hc.1.1 (show Vw _ _ dd x1 cs1 from V1) (show Vw _ _ dd y2 cs2 from V2)
    have Pj:∀{z:Value},(Go.binOp op t (a.eval x) (a.eval y)).run P w=.ok z w→(execOp a.eval o).run P w=.ok (.value z) w:=by
     intro z h
     have hg:=r2 x y op
     rw [←e1', ←e2'] at hg
     simp only [execOp,ho,Sem.run_bind,hg,h,Result.andThen_ok,Sem.run_pure]
    cases op with
    | eql=>
     rw [aD h5]
     refine bL H hd hdn (Pj (z:=.bool (Df dd x1 y2)) ?_) (jm _) D9
     rw [e1',e2']
     simp only [Go.binOp,Sem.run_bind,r1,Result.andThen_ok,Sem.run_pure]
    | neq=>
     rw [aD h5]
     refine bL H hd hdn (Pj (z:=.bool (!Df dd x1 y2)) ?_) (jm _) D9
     rw [e1',e2']
     simp only [Go.binOp,Sem.run_bind,r1,Result.andThen_ok,Sem.run_pure]
    | _=>exact h5.elim
   ·exact h5.elim
 ·obtain ⟨e,hu⟩:=hT.ptr t hp
  obtain ⟨p,q,e1,e2,hn,hb⟩:=Yy h1 h3 hne
  have hag:(∀c,a.eval x≠.agg c)∧a.eval x≠.nilIface:=by rw [e1]; simp
  rcases hop with ⟨rfl,h5⟩ | ⟨rfl,h5⟩
  ·rw [aD h5]
   refine bL H hd hdn (hrun hag (z:=.bool b) ?_) (jm _) D9
   rw [e1,e2]
   simp only [Go.binOp,Sem.run_bind,Gd hu hn,hb,Result.andThen_ok,Sem.run_pure]
  ·rw [aD h5]
   refine bL H hd hdn (hrun hag (z:=.bool (!b)) ?_) (jm _) D9
   rw [e1,e2]
   simp only [Go.binOp,Sem.run_bind,Gd hu hn,hb,Result.andThen_ok,Sem.run_pure]
theorem XK (hT:fq P T) (hSt:Ot P T) (H:Rel cx σ α F a w) (hd:o.dst=some d) (hdn:d<cx.nt) {t t2:TypeId} {x y:Operand} {op:BinOp} (ho:o.op=.binOp op t x y t2)
  (h:(UI T t op x y fun v=>(.ret [Wr.s d v]:Prog (List Wr))).ends σ ws):vJ P cx o a w (aC ws σ):=by
 unfold UI at h
 rcases aB h with ⟨hc,h⟩ | ⟨_,h⟩
 ·simp only [Bool.and_eq_true] at hc
  have ey:y=.const (.slice none 0 0):=by
   have:=hc.1
   unfold aaV at this
   split at this
   ·rfl
   ·simp at this
  have eop:op=.eql:=by
   have:=hc.2
   unfold aep at this
   split at this
   ·rfl
   ·simp at this
  subst ey eop
  obtain ⟨u,h1,hu1,h5⟩:=bS H h
  unfold akL at h5
  split at h5
  ·rename_i e kk hty
   obtain ⟨kk',z,Tg,cs,g1,g2,g3,h6⟩:=yH H h1 hu1 h5
   cases kk' with
   | sl e' kk'=>
    simp only at h6
    rw [aD h6]
    obtain ⟨p,n,c,rfl,g5,g6,g7⟩:=g2
    have ev:a.eval x=.slice p n c:=by
     have:=g1.cells
     obtain ⟨g8,g9⟩:=g1
     first
      | exact (List.cons.inj g8.symm).1
      | (simp only [List.cons.injEq,and_true] at g8; exact g8.symm)
      | exact g8
    have hu:=(fP.sl (hT.ty t _ hty)).1
    have hag:(∀c,a.eval x≠.agg c)∧a.eval x≠.nilIface:=by rw [ev]; simp
    have hg:=D6 (P:=P) (w:=w) (op:=.eql) (t:=t) (x:=x) (y:=.const (.slice none 0 0)) (v:=a.eval (.const (.slice none 0 0))) hag
    have hr:=OO (w:=w) hu p n c
    refine bL (v:=.bool p.isNone) H hd hdn ?_ (show bH cx σ α F w (.D7 _) _ from ⟨_,rfl,fun hp=>?_⟩) trivial
    ·have e2:a.eval (.const (.slice none 0 0))=.slice none 0 0:=rfl
     have hr':(Go.binOp .eql t (a.eval x) (a.eval (.const (.slice none 0 0)))).run P w=.ok (.bool p.isNone) w:=by rw [ev,e2]; exact hr
     simp only [execOp,ho,Sem.run_bind,hg,hr',Result.andThen_ok,Sem.run_pure]
    ·cases p with
     | some q=>simp at hp
     | none=>
      have hn:n=0:=by
       refine Classical.byContradiction fun hne=>?_
       obtain ⟨b,o,e1,_⟩:=g7 (by omega)
       simp at e1
      have g5':n=@List.length (El kk') z:=g5
      rw [List.isEmpty_iff_length_eq_zero, ←g5',hn]
   | _=>exact h6.elim
  ·exact h5.elim
 ·exact U1 hT hSt H hd hdn ho h
end
end Go.Proofs.YtdknpknohipffaaGreat.Ow

/- The framework, part 23: lengths, function values, numbers turned. Own work of this seat. -/
namespace Go.Proofs.YtdknpknohipffaaGreat.Ow
open Go
variable [Fr]
section
variable {P:Program} {T:jF} {cx:Cx} {σ:St} {α:dN} {F:List Nat} {a:Act} {w:World} {o:Oper} {d:Nat} {ws:List Wr}
theorem jK {c:Call} {b:Builtin} (ho:o.op=.call c) (hb:c.callee=.builtin b):∃cs,(execOp a.eval o).run P w=(builtin b c.argTypes o.type cs (c.args.map a.eval)).run P w:=
 ⟨_,by simp only [execOp,ho,resolve,hb,Sem.run_bind,Sem.run_pure,Result.andThen_ok,invoke]; rfl⟩
theorem fP.str {t:TypeId} (h:fP P T t .str):P.underlying t=some .string:=by
 unfold fP kg at h
 exact h.1
theorem x9 (hT:fq P T) {c:Call} {i:Nat} {k:K} (h:(c.argTypes[i]?).bind T.ty=some k):∃t,c.argTypes[i]?=some t∧fP P T t k:=by
 cases ht:c.argTypes[i]? with
 | none=>rw [ht] at h; simp at h
 | some t=>rw [ht] at h; exact ⟨t,rfl,hT.ty t k h⟩
theorem WX {ats:Array TypeId} {ty t:TypeId} {v:Value} {n:Nat} {args:Array Value} (ha:ats[0]?=some t) (hv:args[0]?=some v) (h:(P.underlying t=some .string∧∃B:ByteArray,v=.string B∧B.size=n)∨((∃e,P.underlying t=some (.slice e))∧∃b c,v=.slice b n c)) :
  (Builtin.len_ ats ty args).run P w=.ok (.int .i64 (n:Int)) w:=by
 unfold Builtin.len_
 simp only [ha,hv]
 rcases h with ⟨hu,B,rfl,rfl⟩ | ⟨⟨e,hu⟩,b,c,rfl⟩
 ·simp [run_underlying hu,goInt]
 ·simp [run_underlying hu,goInt]
theorem acV (hT:fq P T) (H:Rel cx σ α F a w) (hd:o.dst=some d) (hdn:d<cx.nt) {c:Call} (ho:o.op=.call c) (hb:c.callee=.builtin .len)
  (h:(j4 c.args.toList fun
   | [.iZ]=>match (c.argTypes[0]?).bind T.ty with
    | some (.sl _ _)=>(.ret [Wr.s d (.one (.val (.int .i64) 0 []))]:Prog (List Wr))
    | _=>.fail
   | [.val .str s _]=>match (c.argTypes[0]?).bind T.ty with
    | some .str=>.ret [Wr.s d (.one (.val (.int .i64) ((show List Int from s).length:Int) []))]
    | _=>.fail
   | [a]=>match (c.argTypes[0]?).bind T.ty with
    | some (.sl _ _)=>yj a fun kk x _=>match kk,x with
     | .sl _ kk,xs=>.ret [Wr.s d (.one (.val (.int .i64) ((show List (El kk) from xs).length:Int) []))]
     | _,_=>.fail
    | _=>.fail
   | _=>.fail).ends σ ws):vJ P cx o a w (aC ws σ):=by
 obtain ⟨vs,h1,h2,h⟩:=jv H h
 have hfin:∀{t:TypeId} {n:Nat} {v:Value} {x:Operand},c.args.toList=[x]→c.argTypes[0]?=some t→a.eval x=v→((P.underlying t=some .string∧∃B:ByteArray,v=.string B∧B.size=n)∨((∃e,P.underlying t=some (.slice e))∧∃b c,v=.slice b n c))→
   vJ P cx o a w (aC [Wr.s d (.one (.val (.int .i64) (n:Int) []))] σ):=by
  intro t n v x hx ht hv hs
  have ha:(c.args.map a.eval)[0]?=some v:=by
   rw [←Array.getElem?_toList,Array.toList_map,hx]
   simp [hv]
  refine bL H hd hdn ?_ (qO .i64 (n:=(n:Int)) trivial) D9
  obtain ⟨cc,hcc⟩:=jK (P:=P) (a:=a) (w:=w) ho hb
  rw [hcc]
  simp only [builtin,Sem.run_bind,WX (ty:=o.type) (w:=w) ht ha hs,Result.andThen_ok,Sem.run_pure]
 have hone:∀{u:AV},vs=[u]→∃x,c.args.toList=[x]∧bH cx σ α F w u (a.eval x):=by
  intro u e
  subst e
  cases hl:c.args.toList with
  | nil=>rw [hl] at h1; exact h1.elim
  | cons x l=>
   rw [hl] at h1
   cases l with
   | nil=>exact ⟨x,rfl,h1.1⟩
   | cons y l=>exact h1.2.elim
 split at h
 ·obtain ⟨x,hx,hu⟩:=hone rfl
  split at h
  ·rename_i hty
   obtain ⟨t,ht,hk⟩:=x9 hT hty
   rw [aD h]
   obtain ⟨b,e⟩:=hu
   exact hfin (n:=0) hx ht rfl (.inr ⟨⟨_,hk.sl.1⟩,b,0,e⟩)
  ·exact h.elim
 ·obtain ⟨x,hx,hu⟩:=hone rfl
  split at h
  ·rename_i hty
   obtain ⟨t,ht,hk⟩:=x9 hT hty
   rw [aD h]
   obtain ⟨B,e1,e2⟩:=A7 hu
   subst e2
   have e:(show List Int from bytesOf B).length=B.size:=nJ B
   rw [e]
   exact hfin (n:=B.size) hx ht rfl (.inl ⟨hk.str,B,e1,rfl⟩)
  ·exact h.elim
 ·obtain ⟨x,hx,hu⟩:=hone rfl
  split at h
  ·rename_i hty
   obtain ⟨t,ht,hk⟩:=x9 hT hty
   obtain ⟨kk,y,Tg,cs,g1,g2,g3,g4⟩:=yH H hu (h2 _ (by simp)) h
   cases kk with
   | sl e kk=>
    rw [aD g4]
    obtain ⟨b,n,cc,f1,f2,f3,f4,f5⟩:=GL g1 g2
    have e:((@List.length (El kk) y:Nat):Int)=(n:Int):=by rw [f3]
    have e':(show List (El kk) from y).length=n:=f3.symm
    rw [e']
    exact hfin (n:=n) hx ht rfl (.inr ⟨⟨_,hk.sl.1⟩,b,cc,f1⟩)
   | _=>exact g4.elim
  ·exact h.elim
 ·exact h.elim
theorem O3 (H:Rel cx σ α F a w) {r:Nat} {R:Root} (hr:aR σ r R) {b:Nat} (hb:b∈blk α R r) (hnb:¬nG cx b):iU cx σ α F w ((r,gG R.w) :: R.tags) b:=by
 have hm:=(H.roots r R hr).mine b hb
 refine ⟨hm.1,H.jH r R hr b hb,hnb,fun q Q hq hbq=>?_,fun h0=>?_⟩
 ·by_cases e:q=r
  ·subst e; exact ⟨gG R.w,by simp⟩
  ·exact absurd hb (H.Og q Q r R hq hr e b hbq)
 ·rcases hm.2 with h | ⟨j,pi,h1,h2⟩
  ·omega
  ·exact .inr ⟨j,pi,h1,h2⟩
theorem ZT {A:Type} {z:A} (H:Rel cx σ α F a w):∀{l:List AV} {vs:List Value} {k:List (TypeId×Dat×List Tag)→Prog A},fE cx σ α F w l vs→(∀v∈l,wD σ v)→(XA l k).ends σ z→
  ∃cs,lD cx σ α F w cs vs∧(∀c∈cs,fC σ c.2.2)∧(k cs).ends σ z:=by
 intro l
 induction l with
 | nil=>
  intro vs k h1 _ h
  cases vs with
  | nil=>exact ⟨[],trivial,by simp,h⟩
  | cons v vs=>exact h1.elim
 | cons x l ih=>
  intro vs k h1 h2 h
  cases vs with
  | nil=>exact h1.elim
  | cons v vs=>
   simp only [XA] at h
   rcases CS H h1.1 (h2 x (by simp)) h with ⟨r,R,p,dd,cs,b,q,hr,hv,hg,fT,hown,hn,e,h5⟩ | ⟨bt,dd,Tg,b,q,cs,hw,e,hcs,hV,hok,hb,h5⟩
   ·rcases aB h5 with ⟨_,h6⟩ | ⟨hne,h6⟩
    ·exact h6.elim
    ·obtain ⟨cs2,g1,g2,g3⟩:=ih h1.2 (fun v hv=>h2 v (by simp [hv])) h6
     obtain ⟨hC,⟨gp,hO,hf⟩,hbb,⟨arr,te,lo,hi,m1,m2,m3,m4⟩,_⟩:=sD H hr hv hg fT hown hn
     have hbase:eT R p=te∧¬nG cx b:=by
      rcases m4 with m4 | ⟨_,m4⟩
      ·exact m4
      ·rw [m4] at hne; simp at hne
     refine ⟨(eT R p,dd,(r,gG R.w) :: R.tags) :: cs2,⟨⟨⟨b,q,e⟩,fun _=>⟨b,q,cs,e,hC, ?_,(O3 H hr hbb hbase.2).q, .inr ⟨.inl (by rw [hbase.1]; unfold uo; rw [m1]),hbase.2⟩⟩⟩,g1⟩, ?_,g3⟩
     ·exact mg _ (fun b hb=>zC hb (fun t ht=>by simp [ht])) (fun b hb=>O3 H hr (List.mem_append_right _ (hf b hb)) (qG H hr (hf b hb))) hO
     ·intro c hc
      rcases List.mem_cons.1 hc with h | h
      ·subst h
       intro t ht
       rcases List.mem_cons.1 ht with h | h
       ·subst h; exact .inr ⟨R,hr.1, .inr (Nat.le_refl _)⟩
       ·exact (H.dF r R hr.1).1 t h
      ·exact g2 c h
   ·obtain ⟨cs2,g1,g2,g3⟩:=ih h1.2 (fun v hv=>h2 v (by simp [hv])) h5
    refine ⟨(bt,dd,Tg) :: cs2,⟨⟨⟨b,q,e⟩,fun _=>⟨b,q,cs,e,hcs,hV,hok,hb⟩⟩,g1⟩, ?_,g3⟩
    intro c hc
    rcases List.mem_cons.1 hc with h | h
    ·subst h; exact hw
    ·exact g2 c h
theorem QB (H:Rel cx σ α F a w) (hd:o.dst=some d) (hdn:d<cx.nt) {f:Nat} {first caps:Array Operand} (ho:o.op=.makeFunc (.func f) first caps)
  (h:(bif first.isEmpty then j4 caps.toList fun l=>XA l fun cs=>.ret [Wr.s d (.one (.fn f cs))] else (.fail:Prog (List Wr))).ends σ ws):vJ P cx o a w (aC ws σ):=by
 rcases aB h with ⟨he,h5⟩ | ⟨_,h5⟩
 ·obtain ⟨vs,h1,h2,h6⟩:=jv H h5
  obtain ⟨cs,g1,g2,g3⟩:=ZT H h1 h2 h6
  rw [aD g3]
  have hf:first=#[]:=by simpa using he
  refine bL (x:=.one (.fn f cs)) (v:=.func (.func f) #[] (caps.map a.eval)) H hd hdn ?_ ⟨(caps.map a.eval).toList,rfl,by rw [Array.toList_map]; exact g1⟩ g2
  simp [execOp,ho,Instr.makeFunc,hf]
 ·exact h5.elim
end
end Go.Proofs.YtdknpknohipffaaGreat.Ow

/- The framework, part 24: parts of slices and strings. Own work of this seat. -/
namespace Go.Proofs.YtdknpknohipffaaGreat.Ow
open Go
variable [Fr]
section
variable {P:Program} {T:jF} {cx:Cx} {σ:St} {α:dN} {F:List Nat} {a:Act} {w:World} {o:Oper} {d:Nat} {ws:List Wr}
theorem ES {A:Type} {z:A} (H:Rel cx σ α F a w) {x:Option Operand} {k:Option Int→Prog A} (h:(KV x k).ends σ z) :
  ∃i:Option Int,(k i).ends σ z∧(i=none↔x=none)∧∀j,i=some j→∃ik,x.map a.eval=some (.int ik j):=by
 cases x with
 | none=>exact ⟨none,h,by simp,fun j hj=>by simp at hj⟩
 | some y=>
  simp only [KV] at h
  obtain ⟨v,h1,_,h⟩:=bS H h
  obtain ⟨ik,n,e,_,h⟩:=BP h1 h
  exact ⟨some n,h,by simp,fun j hj=>by simp only [Option.some.injEq] at hj; subst hj; exact ⟨ik,by simp [e]⟩⟩
theorem NR {isS:Bool} {len cap:Nat} {lo hi:Option Int} {l h:Option Value} (hlc:len≤cap) (hl:lo=none→l=none) (hl':∀j,lo=some j→∃ik,l=some (.int ik j)) (hh:hi=none→h=none) (hh':∀j,hi=some j→∃ik,h=some (.int ik j))
  (h1:∀j,hi=some j→0≤j∧j≤(len:Int)) (h2:∀j,lo=some j→0≤j∧j≤hi.getD (len:Int)) :
  (Instr.sliceBounds isS len cap l h none).run P w=.ok ((lo.getD 0).toNat,(hi.getD (len:Int)).toNat,cap) w:=by
 unfold Instr.sliceBounds
 cases hi with
 | none=>
  rw [hh rfl]
  cases lo with
  | none=>rw [hl rfl]; simp
  | some j=>
   obtain ⟨ik,e⟩:=hl' j rfl
   obtain ⟨g1,g2⟩:=h2 j rfl
   simp only [Option.getD_none] at g2
   rw [e]
   simp [Instr.sliceBound,asIntOf,g1,g2]
 | some i=>
  obtain ⟨ik,e⟩:=hh' i rfl
  obtain ⟨f1,f2⟩:=h1 i rfl
  have f3:i≤(cap:Int):=by omega
  rw [e]
  cases lo with
  | none=>rw [hl rfl]; simp [Instr.sliceBound,asIntOf,f1,f3]
  | some j=>
   obtain ⟨ik2,e2⟩:=hl' j rfl
   obtain ⟨g1,g2⟩:=h2 j rfl
   simp only [Option.getD_some] at g2
   have g3:j≤max i 0:=by omega
   rw [e2]
   simp [Instr.sliceBound,asIntOf,f1,f3,g1]
   omega
theorem Wi {h:Heap} {ok:Nat→Prop} {e:TypeId} {k:K} {xs:List (El k)} {b:Option Addr} {n c l m:Nat} (H:Vw h ok (.sl e k) xs [.slice b n c]) (hl:l≤m) (hm:m≤n) :
  Vw h ok (.sl e k) (show List (El k) from (xs.take m).drop l) [.slice (if c=l then b else b.map (·.add (l * k.size))) (m - l) (c - l)]:=by
 obtain ⟨b',n',c',e1,e2,e3,e4⟩:=H
 simp only [List.cons.injEq,Value.slice.injEq,and_true] at e1
 obtain ⟨rfl,rfl,rfl⟩:=e1
 have hxl:xs.length=n:=e2.symm
 have hlen:((xs.take m).drop l).length=m - l:=by simp; omega
 refine ⟨_,_,_,rfl,hlen.symm,by omega,fun h0=>?_⟩
 obtain ⟨bb,q,rfl,hok,hel,hes⟩:=e4 (by omega)
 have hc:¬c=l:=by omega
 refine ⟨bb,q+l * k.size,by rw [if_neg hc]; simp [addr_add],hok,hel,fun i hi=>?_⟩
 have hi':i<((xs.take m).drop l).length:=hi
 obtain ⟨ds,h1,h2⟩:=hes (l+i) (by show l+i<xs.length; omega)
 refine ⟨ds, ?_, ?_⟩
 ·rw [Nat.add_assoc, ←Nat.add_mul]
  exact h1
 ·have:(show List (El k) from (xs.take m).drop l)[i]'hi=xs[l+i]'(by omega):=by
   show ((xs.take m).drop l)[i]=_
   simp
  rw [this]
  exact h2
theorem Qt (B:ByteArray) (l m:Nat):bytesOf (B.extract l m)=((bytesOf B).take m).drop l:=by
 unfold bytesOf
 rw [←List.map_take, ←List.map_drop]
 congr 1
 simp [ByteArray.data_extract,List.extract_eq_take_drop,List.drop_take]
def Nu (lo:Option Int):Nat:=(lo.getD 0).toNat
def Rz (hi:Option Int) (n:Nat):Nat:=(hi.getD (n:Int)).toNat
theorem Rj {t e:TypeId} {k:K} (ht:fP P T t (.sl e k)) {b:Option Addr} {n c:Nat} {lo hi:Option Int} {l h:Option Value} (hlc:n≤c) (hl:lo=none→l=none) (hl':∀j,lo=some j→∃ik,l=some (.int ik j)) (hh:hi=none→h=none) (hh':∀j,hi=some j→∃ik,h=some (.int ik j))
  (h1:∀j,hi=some j→0≤j∧j≤(n:Int)) (h2:∀j,lo=some j→0≤j∧j≤hi.getD (n:Int)) :
  (Instr.sliceAt t (.slice b n c) l h none).run P w=.ok (.slice (if c=Nu lo then b else b.map (·.add (Nu lo * k.size))) (Rz hi n - Nu lo) (c - Nu lo)) w:=by
 obtain ⟨hu,he,_,_⟩:=ht.sl
 unfold Instr.sliceAt Instr.slice
 simp only [Sem.run_bind,run_underlying hu,Result.andThen,NR (isS:=true) (w:=w) hlc hl hl' hh hh' h1 h2,he.info.sizeOf w,Sem.run_pure]
 rfl
theorem OP {t:TypeId} (ht:fP P T t .str) {B:ByteArray} {lo hi:Option Int} {l h:Option Value} (hl:lo=none→l=none) (hl':∀j,lo=some j→∃ik,l=some (.int ik j)) (hh:hi=none→h=none) (hh':∀j,hi=some j→∃ik,h=some (.int ik j))
  (h1:∀j,hi=some j→0≤j∧j≤(B.size:Int)) (h2:∀j,lo=some j→0≤j∧j≤hi.getD (B.size:Int)) :
  (Instr.sliceAt t (.string B) l h none).run P w=.ok (.string (B.extract (Nu lo) (Rz hi B.size))) w:=by
 have hu:=ht.str
 unfold Instr.sliceAt Instr.slice
 simp [Sem.run_bind,run_underlying hu,Result.andThen,NR (isS:=false) (w:=w) (Nat.le_refl B.size) hl hl' hh hh' h1 h2,Sem.run_pure,Nu,Rz]
theorem Gx {x:Option Operand} (h:isZero x=true):∃ik,x=some (.const (.int ik 0)):=by
 unfold isZero at h
 split at h
 ·exact ⟨_,rfl⟩
 ·simp at h
theorem XP (hT:fq P T) (H:Rel cx σ α F a w) (hd:o.dst=some d) (hdn:d<cx.nt) {t:TypeId} {x:Operand} {lo hi mx:Option Operand}
  (h:(match T.ty t with
   | some kk=>bif isZero lo && isZero hi && isZero mx then match kk with
     | .sl _ _=>dP x fun
      | .iZ=>.ret [Wr.s d (.one .iZ)]
      | a=>yj a fun k' _ _=>bif k'.beq kk then .ret [Wr.s d (.one .iZ)] else .fail
     | _=>.fail
    else match mx with
     | none=>dP x fun a=>KV lo fun lo=>KV hi fun hi=>VG kk a lo hi fun u=>.ret [Wr.s d (.one u)]
     | some _=>.fail
   | none=>(.fail:Prog (List Wr))).ends σ ws) (ho:o.op=.slice t x lo hi mx):vJ P cx o a w (aC ws σ):=by
 cases hty:T.ty t with
 | none=>rw [hty] at h; exact h.elim
 | some kk=>
  rw [hty] at h
  have ht:=hT.ty t kk hty
  rcases aB h with ⟨hz,h5⟩ | ⟨_,h5⟩
  ·simp only [Bool.and_eq_true] at hz
   obtain ⟨ik1,rfl⟩:=Gx hz.1.1
   obtain ⟨ik2,rfl⟩:=Gx hz.1.2
   obtain ⟨ik3,rfl⟩:=Gx hz.2
   cases kk with
   | sl e k=>
    obtain ⟨u,h1,h2,h6⟩:=bS H h5
    have hfin:(∃b n c,a.eval x=.slice b n c)→ws=[Wr.s d (.one .iZ)]→vJ P cx o a w (aC ws σ):=by
     rintro ⟨b,n,c,e⟩ hws
     rw [hws]
     obtain ⟨hu,he,_,_⟩:=ht.sl
     refine bL (x:=.one .iZ) (v:=.slice b 0 0) H hd hdn ?_ ⟨b,rfl⟩ trivial
     have hcv:∀v,a.eval (.const v)=v:=fun _=>rfl
     simp [execOp,ho,e,Instr.sliceAt,Instr.slice,run_underlying hu,Instr.sliceBounds,Instr.sliceBound,asIntOf,he.info.sizeOf w,hcv]
    cases u with
    | iZ=>
     obtain ⟨b,e⟩:=h1
     exact hfin ⟨b,0,0,e⟩ (aD h6)
    | _=>
     obtain ⟨k',y,Tg,cs,g1,g2,g3,g4⟩:=yH H h1 h2 h6
     rcases beq_true g4 with ⟨ek,g5⟩ | ⟨_,g5⟩
     ·subst ek
      obtain ⟨b,n,c,f1,_⟩:=GL g1 g2
      exact hfin ⟨b,n,c,f1⟩ (aD g5)
     ·exact g5.elim
   | _=>exact h5.elim
  ·cases mx with
   | some m=>exact h5.elim
   | none=>
    obtain ⟨u,h1,h2,h6⟩:=bS H h5
    obtain ⟨l,h7,l1,l2⟩:=ES H h6
    obtain ⟨m,h8,m1,m2⟩:=ES H h7
    have hl:l=none→lo.map a.eval=none:=fun e=>by rw [l1.1 e]; rfl
    have hm:m=none→hi.map a.eval=none:=fun e=>by rw [m1.1 e]; rfl
    have hstr:∀{s:List Int} {Tg:List Tag},u=.val .str s Tg→vJ P cx o a w (aC ws σ):=by
     intro s Tg e
     subst e
     obtain ⟨B,e1,e2⟩:=A7 h1
     subst e2
     simp only [VG] at h8
     rcases aB h8 with ⟨_,h9⟩ | ⟨hk,h9⟩
     ·exact h9.elim
     ·have ek:kk=.str:=K.eq_of_beq (by simpa using hk)
      subst ek
      have hln:=nJ B
      have hgo:∀{p:List Int},(∀j,m=some j→0≤j∧j≤(B.size:Int))→(∀j,l=some j→0≤j∧j≤m.getD (B.size:Int))→p=((bytesOf B).take (Rz m B.size)).drop (Nu l)→ws=[Wr.s d (.one (.val .str p []))]→vJ P cx o a w (aC ws σ):=by
       intro p g1 g2 hp hws
       rw [hws,hp]
       have hrun:=OP (w:=w) ht (B:=B) hl l2 hm m2 g1 g2
       refine bL (v:=.string (B.extract (Nu l) (Rz m B.size))) H hd hdn ?_ ?_ (fun t ht=>by simp at ht)
       ·simp only [execOp,ho,e1,Sem.run_bind]
        rw [show (none:Option Operand).map a.eval=none from rfl,hrun]
        rfl
       ·rw [←Qt]
        exact Vu
      cases l with
      | none=>
       cases m with
       | none=>exact hgo (by simp) (by simp) (by simp [Nu,Rz, ←hln]) (aD h9)
       | some j=>
        obtain ⟨hc,h9⟩:=h9
        exact hgo (fun i hi=>by simp only [Option.some.injEq] at hi; subst hi; rw [←hln]; exact hc) (by simp) (by simp [Nu,Rz]) (aD h9)
      | some i=>
       cases m with
       | none=>
        obtain ⟨hc,h9⟩:=h9
        exact hgo (by simp) (fun i hi=>by simp only [Option.some.injEq] at hi; subst hi; simp only [Option.getD_none]; rw [←hln]; exact hc) (by simp [Nu,Rz, ←hln]) (aD h9)
       | some j=>
        obtain ⟨hc,h9⟩:=h9
        have hc':0≤i∧i≤j∧j≤((bytesOf B).length:Int):=hc
        exact hgo (fun i' hi=>by simp only [Option.some.injEq] at hi; subst hi; rw [←hln]; exact ⟨by omega,hc'.2.2⟩) (fun i' hi=>by simp only [Option.some.injEq] at hi; subst hi; exact ⟨hc'.1,hc'.2.1⟩) (by simp [Nu,Rz]) (aD h9)
    have hsl:(yj u fun k2 y Tg=>match k2,y with
      | .sl e k3,xs=>bif !kk.beq (.sl e k3) then .fail else
       match l,m with
       | none,none=>(.ret [Wr.s d (.one (.val (.sl e k3) xs Tg))]:Prog (List Wr))
       | some l,none=>.zX (0≤l∧l≤((show List (El k3) from xs).length:Int)) inferInstance (.ret [Wr.s d (.one (.val (.sl e k3) ((show List (El k3) from xs).drop l.toNat) Tg))])
       | none,some h=>.zX (0≤h∧h≤((show List (El k3) from xs).length:Int)) inferInstance (.ret [Wr.s d (.one (.val (.sl e k3) ((show List (El k3) from xs).take h.toNat) Tg))])
       | some l,some h=>.zX (0≤l∧l≤h∧h≤((show List (El k3) from xs).length:Int)) inferInstance (.ret [Wr.s d (.one (.val (.sl e k3) (((show List (El k3) from xs).take h.toNat).drop l.toNat) Tg))])
      | _,_=>.fail).ends σ ws→vJ P cx o a w (aC ws σ):=by
     intro h9
     obtain ⟨k2,y,Tg,cs,g1,g2,g3,g4⟩:=yH H h1 h2 h9
     cases k2 with
     | sl e k3=>
      simp only at g4
      rcases aB g4 with ⟨_,g5⟩ | ⟨hk,g5⟩
      ·exact g5.elim
      ·have ek:kk=.sl e k3:=K.eq_of_beq (by simpa using hk)
       subst ek
       have hln:(show List (El k3) from y).length=@List.length (El k3) y:=rfl
       obtain ⟨b,n,c,f1,f2,f3,f4,f5⟩:=GL g1 g2
       have hgo:∀{p:List (El k3)},(∀j,m=some j→0≤j∧j≤(n:Int))→(∀j,l=some j→0≤j∧j≤m.getD (n:Int))→p=((show List (El k3) from y).take (Rz m n)).drop (Nu l)→ws=[Wr.s d (.one (.val (.sl e k3) p Tg))]→vJ P cx o a w (aC ws σ):=by
        intro p q1 q2 hp hws
        rw [hws,hp]
        have hrun:=Rj (w:=w) ht (b:=b) f4 hl l2 hm m2 q1 q2
        have hlm:Nu l≤Rz m n∧Rz m n≤n:=by
         unfold Nu Rz
         cases l with
         | none=>
          cases m with
          | none=>simp
          | some j=>have:=q1 j rfl; simp; omega
         | some i=>
          have h3:=q2 i rfl
          cases m with
          | none=>simp at h3 ⊢; omega
          | some j=>have:=q1 j rfl; simp at h3 ⊢; omega
        have hV:=Wi (xs:=(show List (El k3) from y)) (by rw [f2] at g2; exact g2) hlm.1 hlm.2
        refine bL H hd hdn ?_ (show bH cx σ α F w (.val (.sl e k3) _ Tg) (.slice (if c=Nu l then b else b.map (·.add (Nu l * k3.size))) (Rz m n - Nu l) (c - Nu l)) from fun _=>⟨_,⟨rfl,by simp⟩,hV⟩) g3
        simp only [execOp,ho,f1,Sem.run_bind]
        rw [show (none:Option Operand).map a.eval=none from rfl,hrun]
        rfl
       have f3':((show List (El k3) from y).length:Int)=(n:Int):=by rw [f3]
       cases l with
       | none=>
        cases m with
        | none=>exact hgo (by simp) (by simp) (by simp only [Nu,Rz,Option.getD_none,Int.toNat_natCast,Int.toNat_zero,List.drop_zero]; rw [f3,List.take_length]) (aD g5)
        | some j=>
         obtain ⟨hc,h9⟩:=g5
         exact hgo (fun i hi=>by simp only [Option.some.injEq] at hi; subst hi; rw [←f3']; exact hc) (by simp) (by simp [Nu,Rz]) (aD h9)
       | some i=>
        cases m with
        | none=>
         obtain ⟨hc,h9⟩:=g5
         exact hgo (by simp) (fun i hi=>by simp only [Option.some.injEq] at hi; subst hi; simp only [Option.getD_none]; rw [←f3']; exact hc) (by simp only [Nu,Rz,Option.getD_none,Option.getD_some,Int.toNat_natCast]; rw [f3,List.take_length]) (aD h9)
        | some j=>
         obtain ⟨hc,h9⟩:=g5
         have hc':0≤i∧i≤j∧j≤((show List (El k3) from y).length:Int):=hc
         exact hgo (fun i' hi=>by simp only [Option.some.injEq] at hi; subst hi; rw [←f3']; exact ⟨by omega,hc'.2.2⟩) (fun i' hi=>by simp only [Option.some.injEq] at hi; subst hi; exact ⟨hc'.1,hc'.2.1⟩) (by simp [Nu,Rz]) (aD h9)
     | _=>exact g4.elim
    cases u with
    | val k1 s Tg=>
     cases k1 with
     | str=>exact hstr rfl
     | _=>exact hsl h8
    | _=>exact hsl h8
end
end Go.Proofs.YtdknpknohipffaaGreat.Ow

/- The framework, part 25: a root that owns less from now on. Own work of this seat. -/
namespace Go.Proofs.YtdknpknohipffaaGreat.Ow
open Go
variable [Fr]
section
variable {cx:Cx} {σ:St} {α:dN} {F:List Nat} {a:Act} {w:World} {r:Nat} {R:Root}
theorem Rel.lose (H:Rel cx σ α F a w) (hr:aR σ r R) (hv:bq σ R) {l:List TypeId} (hl:l≠[]):∃α',Rel cx (az σ r (zA R l)) α' F a w:=by
 have K:=H.roots r R hr
 have hnt:=H.dF r R hr.1
 have hsub:∀t,ay t (bI R.own l)=true→ay t R.own=true:=fun t ht=>(dI.1 ht).1
 obtain ⟨Pf,fd,hp1,hO⟩:=yA (own':=bI R.own l) (fun t _ h=>hsub t h) (K.ow hv)
 have hfo:∀b∈Pf,b∈α.fo r:=fun b hb=>hp1.mem_iff.2 (List.mem_append_left _ hb)
 have hfd:∀b∈fd,b∈α.fo r:=fun b hb=>hp1.mem_iff.2 (List.mem_append_right _ hb)
 have hbk:∀b∈iE (zA R l) (α.loc r) Pf,b∈blk α R r:=fun b hb=>by
  rw [bT]
  rcases List.mem_append.1 hb with h | h
  ·exact List.mem_append_left _ h
  ·exact List.mem_append_right _ (hfo b h)
 have hnd:=K.nd
 rw [bT] at hnd
 have agm:(iE R (α.loc r) (Pf++fd)).Nodup:=by
  have:(iE R (α.loc r) (α.fo r)).Perm (iE R (α.loc r) (Pf++fd)):=List.Perm.append_left _ hp1
  exact this.nodup_iff.1 hnd
 have aef:(iE R (α.loc r) Pf++fd).Nodup:=by
  have e:iE R (α.loc r) (Pf++fd)=iE R (α.loc r) Pf++fd:=by simp [iE,List.append_assoc]
  rw [←e]; exact agm
 have T1:Es cx σ α F w r R (zA R l) Pf F w l []:=by
  refine ⟨.inr ⟨rfl,rfl,Nat.le_refl _,rfl,fun _=>rfl, .inl hl⟩,⟨fun t ht=>hnt.1 t ht,fun n hn=>hnt.2.2 n hn⟩,⟨rfl,rfl,rfl⟩,Nat.le_refl _,fun b _ hne=>absurd rfl hne,fun _ b hb=>.inl (hbk b hb),fun b hb=>.inl hb,H.Fw,fun _ b hb=>H.jH r R hr b (hbk b hb),fun _ _ _ _ _ _ _ _ hne=>absurd rfl hne,fun _=>⟨rfl,rfl⟩⟩
 have hcl0:∀tys,bg (az σ r (zA R l)) tys R.tags=bg σ tys R.tags:=fun tys=>nY hnt.2.2
 refine ⟨aJ α r (α.loc r) (α.hdr r) Pf,T1.rel H hr (fun _=>⟨fun hvn=>?_,K.len,fun b o hb=>?_, ?_⟩) ?_ ?_⟩
 ·refine bC (fun _ _=>rfl) (fun b hb=>?_) (fun _ _=>rfl) hO
  have hblk:∀q Q,aR (az σ r (zA R l)) q Q→b∈blk (aJ α r (α.loc r) (α.hdr r) Pf) Q q→(q=r∧b∈iE R (α.loc r) Pf)∨(q≠r∧aR σ q Q∧b∈blk α Q q):=by
   intro q Q hq hbq
   by_cases e:q=r
   ·subst e
    obtain ⟨rfl,_⟩:=eU hq
    rw [eO] at hbq
    exact .inl ⟨rfl,hbq⟩
   ·refine .inr ⟨e,(Nt e).1 hq, ?_⟩
    cases hqr:Nat.beq q r with
    | true=>exact absurd (Nat.eq_of_beq_eq_true hqr) e
    | false=>simpa [blk,eD,aJ,upd,hqr] using hbq
  rcases hb with hb | hb
  ·obtain ⟨g1,g2,g3,g4,g5⟩:=hb
   refine ⟨g1,g2,g3,fun q Q hq hbq=>?_,g5⟩
   rcases hblk q Q hq hbq with ⟨rfl,h⟩ | ⟨_,h1,h2⟩
   ·exact g4 q R hr (hbk b h)
   ·exact g4 q Q h1 h2
  ·have hbb:b∈blk α R r:=List.mem_append_right _ (hfd b hb)
   have hm:=K.mine b hbb
   refine ⟨hm.1,H.jH r R hr b hbb,qG H hr (hfd b hb),fun q Q hq hbq=>?_,fun h0=>?_⟩
   ·exfalso
    rcases hblk q Q hq hbq with ⟨rfl,h⟩ | ⟨h,h1,h2⟩
    ·exact (List.nodup_append.1 aef).2.2 b h b hb rfl
    ·exact H.Og q Q r R h1 hr h b h2 hbb
   ·rcases hm.2 with h | ⟨j,pi,h1,h2⟩
    ·omega
    ·exact .inr ⟨j,pi,h1,h2⟩
 ·exact K.mem b o (by rw [xO]; exact hb)
 ·have:=aef.sublist (List.sublist_append_left _ _)
  exact this
 ·intro _ p n v hn hold
  refine ⟨hold.1,fun Q hQ hvQ hcl hty hs=>?_⟩
  rw [aK] at hQ
  simp only [Option.some.injEq] at hQ
  subst hQ
  obtain ⟨g1,cs,b,o,g2,g3⟩:=hold.2 R hr.1 hv hcl (fun t ht=>hsub t (hty t ht)) hs
  refine ⟨g1,cs,b,o, ?_,g3⟩
  have e1:(aJ α r (α.loc r) (α.hdr r) Pf).hdr r=α.hdr r:=by simp [aJ,upd_same]
  have e2:eD (aJ α r (α.loc r) (α.hdr r) Pf) (zA R l) r=eD α R r:=by rw [jX,xO]; rfl
  rw [e1,e2]
  exact g2
 ·intro _ g v _ hold Q hQ hg
  obtain ⟨rfl,_⟩:=eU hQ
  obtain ⟨h1,h2⟩:=hold R hr hg
  refine ⟨h1, ?_⟩
  simp only [aJ,upd_same]
  exact h2
theorem agL (H:Rel cx σ α F a w) (l:List TypeId) (r:Nat):∃α',Rel cx (abd l r σ) α' F a w:=by
 unfold abd
 split
 ·exact ⟨_,H⟩
 ·rename_i hl
  split
  ·rename_i R hR
   cases hc:R.aZ || !bg σ R.FX R.tags || !R.own.any (fun t=>ay t l) with
   | true=>exact ⟨_,H⟩
   | false=>
    simp only [Bool.or_eq_false_iff,Bool.not_eq_false'] at hc
    exact H.lose (r:=r) (R:=R) ⟨hR,hc.1.1⟩ ⟨hc.1.1,hc.1.2⟩ (fun h=>hl h)
  ·exact ⟨_,H⟩
theorem QX (hi:Hint):∀(rs:List Nat) {σ:St} {α:dN},Rel cx σ α F a w→∃α',Rel cx (Gy hi rs σ) α' F a w
 | [],_,_,H=>⟨_,H⟩
 | r :: rs,_,_,H=>by
  obtain ⟨α',h⟩:=agL H (zn (1000000+r) hi.less) r
  exact QX hi rs h
end
end Go.Proofs.YtdknpknohipffaaGreat.Ow

/- The framework, part 26: a new row. Own work of this seat. -/
namespace Go.Proofs.YtdknpknohipffaaGreat.Ow
open Go
variable [Fr]
section
variable {cx:Cx} {σ:St} {α:dN} {F:List Nat} {a:Act} {w:World} {r:Nat}
theorem WT (H:Rel cx σ α F a w) (hn:σ.roots r=none) (hx:fK r=false) {e:TypeId} {k:K} {xs:List (El k)} {own:List TypeId} {tags:List Tag} {arr:Array Value} {lo hi n c:Nat} {bz:List (List Nat)} {F1:List Nat}
  (hwt:fC σ tags) (hown:ay e own=true) (hfr:∀i,i<arr.size→¬(lo≤i∧i<hi)) (hnx:n=xs.length) (hnc:n≤c) (hca:c * k.size≤arr.size)
  (hfl:bz.length=xs.length) (Uh:∀b∈bz.flatten,b∈F) (QL:bz.flatten.Nodup) (hF1:∀b∈F1,b∈F∧b∉bz.flatten) (ajN:F1.Nodup)
  (hel:∀(i:Nat) (hi:i<xs.length),∃ds,ds.length=k.size∧(∀j,j<ds.length→arr[i * k.size+j]?=ds[j]?)∧Ow (hp w) own (fun b=>iU cx σ α F w tags b∨(b∈F∧b∉F1∧b∉bz.flatten)) k xs[i] ds (bz.getD i [])) (kp:Bool) (dr:Nat) :
  ∃α' F',Rel cx (az σ r (aP (.sl e k) xs own tags .anon kp)) α' F' a ((dw w dr).alloc (.cells arr e (lo,hi)))∧
   bH cx (az σ r (aP (.sl e k) xs own tags .anon kp)) α' F' ((dw w dr).alloc (.cells arr e (lo,hi))) (.ref r 0) (.slice (some ⟨w.heap.size,0,none⟩) n c):=by
 have H0:=H.drawn dr
 obtain ⟨H1,T1⟩:=H0.alloc (.cells arr e (lo,hi))
 have hsz:(dw w dr).heap.size=w.heap.size:=rfl
 have hnew:hp ((dw w dr).alloc (.cells arr e (lo,hi))) w.heap.size=some (.cells arr e (lo,hi)):=u7 (dw w dr) _
 have hold:∀b,b<w.heap.size→hp ((dw w dr).alloc (.cells arr e (lo,hi))) b=hp w b:=fun b hb=>rz (dw w dr) _ hb
 have KQ:w.heap.size∉F:=fun h=>by have:=(H.fl _ h).1; omega
 have hv:aU own (.sl e k)=aU own k:=by simp [aU,hown]
 obtain ⟨α',k1,k2⟩:=Eu (k:=.sl e k) (x:=(xs:El (.sl e k))) (own:=own) (tags:=tags) (v:=.slice (some ⟨w.heap.size,0,none⟩) n c) (cs:=[.slice (some ⟨w.heap.size,0,none⟩) n c]) (fo:=w.heap.size :: bz.flatten) (r:=r) (F':=F1) H1 hn hx
  (fun b hb=>by
   rcases List.mem_cons.1 hb with h | h
   ·subst h; exact List.mem_cons_self
   ·exact List.mem_cons_of_mem _ (Uh b h))
  (List.nodup_cons.2 ⟨fun h=>KQ (Uh _ h),QL⟩) hwt
  (fun b hb=>⟨List.mem_cons_of_mem _ (hF1 b hb).1,fun h=>by
   rcases List.mem_cons.1 h with h | h
   ·subst h; exact KQ (hF1 _ hb).1
   ·exact (hF1 b hb).2 h⟩) ajN rfl
  (fun hc=>by
   rw [hv] at hc
   obtain ⟨_,hV,_⟩:=T1.views H0 tags _ hwt hc
   unfold Ow
   rw [if_pos hown]
   refine ⟨_,_,_,rfl,hnx,hnc, .inr ⟨w.heap.size,0,arr,lo,hi,rfl,hnew,hfr,by omega,bz,hfl, .refl _,fun i hi=>?_⟩⟩
   obtain ⟨ds,h1,h2,h3⟩:=hel i hi
   refine ⟨ds,fun j hj=>?_, ?_⟩
   ·unfold cellAt
    rw [hnew]
    simp only [Nat.zero_add]
    exact h2 j hj
   ·refine bC ?_ ?_ (fun b hb=>hold b (H.fl b (Uh b (vv hb))).1) (wB _ (fun _ h=>h) h3)
    ·rintro b ⟨hb | ⟨hb,_⟩,_⟩
     ·exact hold b hb.1
     ·exact hold b (H.fl b hb).1
    ·rintro b ⟨hb | ⟨g1,g2,g3⟩,hty⟩
     ·exact .inl (hV b hb (.inl hty)).1
     ·refine .inr ⟨List.mem_cons_of_mem _ g1,g2,fun h=>?_⟩
      rcases List.mem_cons.1 h with h | h
      ·subst h; exact KQ g1
      ·exact g3 h) ⟨rfl,by simp⟩ kp
 exact ⟨α',F1,k1,k2⟩
theorem Ri (H:Rel cx σ α F a w) (hn:σ.roots r=none) (hx:fK r=false) {e:TypeId} {k:K} {xs:List (El k)} {own:List TypeId} {arr:Array Value} {lo hi n c:Nat}
  (hown:ay e own=true) (hfr:∀i,i<arr.size→¬(lo≤i∧i<hi)) (hnx:n=xs.length) (hnc:n≤c) (hca:c * k.size≤arr.size)
  (hel:∀(i:Nat) (hi:i<xs.length),∃ds,ds.length=k.size∧(∀j,j<ds.length→arr[i * k.size+j]?=ds[j]?)∧∀h ok,Ow h own ok k xs[i] ds []) (kp:Bool) (dr:Nat) :
  ∃α' F',Rel cx (az σ r (aP (.sl e k) xs own [] .anon kp)) α' F' a ((dw w dr).alloc (.cells arr e (lo,hi)))∧
   bH cx (az σ r (aP (.sl e k) xs own [] .anon kp)) α' F' ((dw w dr).alloc (.cells arr e (lo,hi))) (.ref r 0) (.slice (some ⟨w.heap.size,0,none⟩) n c):=by
 have hfl:(List.replicate xs.length ([]:List Nat)).flatten=[]:=by simp
 refine WT H hn hx (bz:=List.replicate xs.length []) (F1:=F) (fun t ht=>by simp at ht) hown hfr hnx hnc hca (by simp) (by rw [hfl]; simp) (by rw [hfl]; exact List.nodup_nil) (by rw [hfl]; exact fun b hb=>⟨hb,by simp⟩) H.Fw ?_ kp dr
 intro i hi
 obtain ⟨ds,h1,h2,h3⟩:=hel i hi
 refine ⟨ds,h1,h2, ?_⟩
 have:(List.replicate xs.length ([]:List Nat)).getD i []=[]:=by
  rw [bZ (by simpa using hi)]; simp
 rw [this]
 exact h3 _ _
end
end Go.Proofs.YtdknpknohipffaaGreat.Ow

/- The framework, part 27: numbers and texts turned. Own work of this seat. -/
namespace Go.Proofs.YtdknpknohipffaaGreat.Ow
open Go
variable [Fr]
section
variable {P:Program} {T:jF} {cx:Cx} {σ:St} {α:dN} {F:List Nat} {a:Act} {w:World} {o:Oper} {d:Nat} {ws:List Wr}
theorem fP.int {t:TypeId} {ik:IntKind} (h:fP P T t (.int ik)):P.underlying t=some (.int ik):=by
 unfold fP kg at h
 exact h.1
theorem fP.und {t:TypeId} {k:K} (h:fP P T t k):∃u,P.underlying t=some u:=by
 unfold fP kg at h
 cases k with
 | int ik=>exact ⟨_,h.1⟩
 | bool=>exact ⟨_,h.1⟩
 | id e=>exact ⟨_,h.1⟩
 | str=>exact ⟨_,h.1⟩
 | sl e k=>exact ⟨_,h.1⟩
 | unit=>exact h.elim
 | pair a b=>exact h.elim
 | st c=>obtain ⟨⟨fs,h1,_⟩,_⟩:=h; exact ⟨_,h1⟩
 | gap n=>exact h.elim
theorem Vz (ns:List Int):∀(s:ByteArray),(∀n∈ns,0≤n∧n<256)→bytesOf (ns.foldl (fun r n=>r.push (UInt8.ofNat n.toNat)) s)=bytesOf s++ns:=by
 induction ns with
 | nil=>intro s _; simp
 | cons n ns ih=>
  intro s h
  rw [List.foldl_cons,ih _ (fun m hm=>h m (by simp [hm]))]
  have h1:=h n (by simp)
  have:bytesOf (s.push (UInt8.ofNat n.toNat))=bytesOf s++[n]:=by
   unfold bytesOf
   simp only [ByteArray.push,Array.toList_push,List.map_append,List.map_cons,List.map_nil]
   congr 2
   simp
   omega
  rw [this]
  simp
theorem Xy {h:Heap} {ok:Nat→Prop} {xs:List Int} {bb q:Nat} (hes:∀(i:Nat) (hi:i<xs.length),∃ds,Cells h bb (q+i * 1) ds∧Vw h ok (.int .u8) xs[i] ds) :
  Cells h bb q (xs.map (Value.int .u8))∧∀n∈xs,0≤n∧n<256:=by
 refine ⟨fun i hi=>?_,fun n hn=>?_⟩
 ·simp only [List.length_map] at hi
  obtain ⟨ds,h1,h2,_⟩:=hes i hi
  have:=h1 0 (by rw [h2]; simp)
  rw [h2] at this
  simp only [Nat.add_zero,Nat.mul_one,List.getElem?_cons_zero] at this
  rw [this]
  simp [hi]
 ·obtain ⟨i,hi,rfl⟩:=List.mem_iff_getElem.1 hn
  obtain ⟨ds,_,_,h3⟩:=hes i hi
  exact h3
theorem Su (hT:fq P T) (H:Rel cx σ α F a w) (hd:o.dst=some d) (hdn:d<cx.nt) {s t:TypeId} {x:Operand} (ho:o.op=.convert s t x)
  (h:(dP x fun a=>ZU T d s t a fun ws=>(.ret ws:Prog (List Wr))).ends σ ws):vJ P cx o a w (aC ws σ):=by
 obtain ⟨u,h1,h2,h5⟩:=bS H h
 have hrun:∀{v:Value} {w':World},(convert s t (a.eval x)).run P w=.ok v w'→(execOp a.eval o).run P w=.ok (.value v) w':=by
  intro v w' h
  simp only [execOp,ho,Sem.run_bind,h,Result.andThen_ok,Sem.run_pure]
 have hstr:∀{B:ByteArray},(convert s t (a.eval x)).run P w=.ok (.string B) w→vJ P cx o a w (aC [Wr.s d (v1 .str (bytesOf B))] σ):=by
  intro B hr
  exact bL H hd hdn (hrun hr) (show bH cx σ α F w (.val .str (bytesOf B) []) _ from Vu) D9
 unfold ZU at h5
 cases hs:T.ty s with
 | none=>rw [hs] at h5; exact h5.elim
 | some ks=>
  have hks:=hT.ty s ks hs
  cases ht:T.ty t with
  | none=>rw [hs,ht] at h5; cases ks <;> exact h5.elim
  | some kt=>
   have hkt:=hT.ty t kt ht
   rw [hs,ht] at h5
   obtain ⟨us,hus⟩:=hks.und
   cases kt with
   | int ik=>
    have h6:(match u with
     | .val (.int _) n _=>(.ret [Wr.s d (v1 (.int ik) (ik.wrap n))]:Prog (List Wr))
     | _=>.fail).ends σ ws:=by cases ks <;> exact h5
    split at h6
    ·obtain ⟨e1,e2⟩:=AZ h1
     rw [aD h6]
     refine bL H hd hdn (hrun ?_) (qO ik (oO _ _)) D9
     rw [e1]
     unfold convert
     simp only [Sem.run_bind,run_underlying hus,run_underlying hkt.int,Result.andThen]
     rfl
    ·exact h6.elim
   | str=>
    cases ks with
    | str=>
     simp only at h5
     split at h5
     ·obtain ⟨B,e1,e2⟩:=A7 h1
      subst e2
      rw [aD h5]
      refine hstr ?_
      rw [e1]
      unfold convert
      simp only [Sem.run_bind,run_underlying hks.str,run_underlying hkt.str,Result.andThen]
      rfl
     ·exact h5.elim
    | sl e k1=>
     cases k1 with
     | int ik1=>
      cases ik1 with
      | u8=>
       obtain ⟨hu,he,_,_⟩:=hks.sl
       have hgo:∀{b:Option Addr} {n c:Nat} {xs:List Int},a.eval x=.slice b n c→n=xs.length→(0<n→∃bb q,b=some ⟨bb,q,none⟩∧∀(i:Nat) (hi:i<xs.length),∃ds,Cells (hp w) bb (q+i * 1) ds∧Vw (hp w) (fun _=>True) (.int .u8) xs[i] ds)→
         ws=[Wr.s d (v1 .str xs)]→vJ P cx o a w (aC ws σ):=by
        intro b n c xs e hn hes hws
        have hcv:(convert s t (a.eval x)).run P w=(Conv.bytesToString (.slice b n c)).run P w:=by
         rw [e]
         unfold convert
         simp only [Sem.run_bind,run_underlying hu,run_underlying hkt.str,run_underlying he.int,Result.andThen]
        cases b with
        | none=>
         have hx0:xs=[]:=by
          cases xs with
          | nil=>rfl
          | cons y ys=>
           obtain ⟨bb,q,h0,_⟩:=hes (by rw [hn]; simp)
           simp at h0
         subst hx0
         rw [hws]
         exact hstr (B:=ByteArray.empty) (hcv.trans rfl)
        | some ad=>
         by_cases h0:0<n
         ·obtain ⟨bb,q,e0,hes'⟩:=hes h0
          simp only [Option.some.injEq] at e0
          subst e0
          obtain ⟨g1,g2⟩:=Xy hes'
          have hl:(loadCells ⟨bb,q,none⟩ n).run P w=.ok (xs.map (Value.int .u8)).toArray w:=by
           have:=run_loadCells_list (P:=P) w ⟨bb,q,none⟩ (xs.map (Value.int .u8)) (fun j v hj=>by
            rw [addr_add,CZ,g1 j (List.getElem?_eq_some_iff.1 hj).1]
            exact hj)
           simpa [hn] using this
          have hb:=run_bytesToString w ⟨bb,q,none⟩ n c xs hl
          have hbe:=Vz xs ByteArray.empty g2
          have:xs=bytesOf (xs.foldl (fun r n=>r.push (UInt8.ofNat n.toNat)) ByteArray.empty):=by rw [hbe]; rfl
          rw [hws,this]
          exact hstr (hcv.trans hb)
         ·have hx0:xs=[]:=List.eq_nil_of_length_eq_zero (by omega)
          subst hx0
          have hn0:n=0:=by omega
          subst hn0
          have hl:(loadCells ad 0).run P w=.ok (([]:List Int).map (Value.int .u8)).toArray w:=rfl
          have hb:=run_bytesToString w ad 0 c [] hl
          rw [hws]
          exact hstr (B:=ByteArray.empty) (hcv.trans hb)
       cases u with
       | iZ=>
        obtain ⟨b,e⟩:=h1
        exact hgo (xs:=[]) e rfl (fun h=>by omega) (aD h5)
       | _=>
        obtain ⟨k',y,Tg,cs,g1,g2,g3,g4⟩:=yH H h1 h2 h5
        cases k' with
        | sl e' k2=>
         cases k2 with
         | int ik2=>
          cases ik2 with
          | u8=>
           obtain ⟨b,n,c,f1,f2,f3,f4,f5⟩:=GL g1 g2
           refine hgo (xs:=y) f1 f3 (fun h0=>?_) (aD g4)
           obtain ⟨bb,q,e0,_,_,hes⟩:=f5 h0
           exact ⟨bb,q,e0,fun i hi=>by
            obtain ⟨ds,m1,m2⟩:=hes i hi
            exact ⟨ds,m1,m2⟩⟩
          | _=>exact g4.elim
         | _=>exact g4.elim
        | _=>exact g4.elim
      | _=>exact h5.elim
     | _=>exact h5.elim
    | _=>exact h5.elim
   | sl e k1=>
    cases ks with
    | str=>
     cases k1 with
     | int ik1=>
      cases ik1 with
      | u8=>
       simp only at h5
       split at h5
       ·obtain ⟨B,e1,e2⟩:=A7 h1
        subst e2
        obtain ⟨g1,g2⟩:=gZ h5
        rw [aD g2]
        obtain ⟨hu,he,_,_⟩:=hkt.sl
        have hr:=run_bytes_of_string w s t e B hks.str hu he.int
        have hcap:=grownCap_ge w B.size 0 e
        have hsz:(bytesRow B (grownCap w B.size 0 e)).size=grownCap w B.size 0 e:=by
         simp [bytesRow]
         show B.data.size+_=_
         have:B.data.size=B.size:=rfl
         omega
        obtain ⟨α',F',r1,r2⟩:=Ri (r:=bE d 0) (e:=e) (k:=.int .u8) (xs:=bytesOf B) (own:=[e]) (arr:=bytesRow B (grownCap w B.size 0 e)) (lo:=(bytesRow B (grownCap w B.size 0 e)).size) (hi:=(bytesRow B (grownCap w B.size 0 e)).size+1) (n:=B.size) (c:=grownCap w B.size 0 e) H g1 (gF d 0)
         (by simp [ay]) (fun i hi=>by omega) (nJ B).symm hcap (by simp [K.size,hsz])
         (fun i hi=>by
          have hi':i<B.size:=by rw [←nJ B]; exact hi
          refine ⟨[Value.int .u8 (bytesOf B)[i]],rfl,fun j hj=>?_,fun h ok=>⟨rfl,rfl, ?_⟩⟩
          ·simp only [List.length_singleton] at hj
           have hj0:j=0:=by omega
           subst hj0
           have hid:i<B.data.size:=hi'
           simp only [K.size,Nat.mul_one,Nat.add_zero,List.getElem?_cons_zero]
           unfold bytesRow
           rw [Array.getElem?_append_left (by simpa using hid)]
           simp [bytesOf]
           exact ⟨B.data[i],Array.getElem?_eq_getElem hid,rfl⟩
          ·have:=(bytesOf B)[i]
           have hm:(bytesOf B)[i]∈bytesOf B:=List.getElem_mem hi
           unfold bytesOf at hm
           obtain ⟨y,_,hy⟩:=List.mem_map.1 hm
           show (0:Int)≤(bytesOf B)[i]∧(bytesOf B)[i]<256
           have hy':(y.toNat:Int)=(bytesOf B)[i]:=hy
           rw [←hy']
           have:=y.toNat_lt
           omega) false (w.drawn+1)
        exact iY (x:=.one (.ref (bE d 0) 0)) r1 hd hdn (hrun (by rw [e1]; exact hr)) r2 ⟨_,aK .., .inr (Nat.zero_le _)⟩
       ·exact h5.elim
      | _=>exact h5.elim
     | _=>exact h5.elim
    | _=>
     cases k1 with
     | int ik1=>cases ik1 <;> exact h5.elim
     | _=>exact h5.elim
   | _=>cases ks <;> exact h5.elim
end
end Go.Proofs.YtdknpknohipffaaGreat.Ow

/- The framework, part 28: a made slice. Own work of this seat. -/
namespace Go.Proofs.YtdknpknohipffaaGreat.Ow
open Go
variable [Fr]
section
variable {P:Program} {T:jF} {cx:Cx} {σ:St} {α:dN} {F:List Nat} {a:Act} {w:World} {o:Oper} {d:Nat} {ws:List Wr}
theorem zU {k:K} (h:(∀a b,k≠.pair a b)∧k≠.unit∧∀n,k≠.gap n):(vL k).cells=(bW k).toArray:=by
 have:=(Xa h.1 h.2.1 h.2.2).cells
 apply Array.ext'
 simpa using this
theorem QY {z:Array Value} {n j:Nat} (h:j<n) (hz:0<z.size):(madeCells z n)[j]?=z[j % z.size]?:=by
 unfold madeCells
 have:j % z.size<z.size:=Nat.mod_lt _ hz
 simp [h,this]
theorem OC (hT:fq P T) (H:Rel cx σ α F a w) (hd:o.dst=some d) (hdn:d<cx.nt) {t:TypeId} {x y:Operand}
  (h:(match T.ty t with
   | some (.sl e kk)=>dP x fun a=>dP y fun b=>asInt a fun ik i=>asInt b fun jk j=>bif DF ik .i64 && DF jk .i64 then
     .zX (i=j∧0≤i∧i * T.bytes e≤140737488355328) inferInstance (ku (bE d 0)
      (.ret [Wr.r (bE d 0) (some (aP (.sl e kk) (List.replicate i.toNat kk.zero) (e :: kk.tys) [] .anon)),Wr.s d (.one (.ref (bE d 0) 0))]))
    else (.fail:Prog (List Wr))
   | _=>.fail).ends σ ws) (ho:o.op=.makeSlice t x y):vJ P cx o a w (aC ws σ):=by
 cases hty:T.ty t with
 | none=>rw [hty] at h; exact h.elim
 | some k0=>
  rw [hty] at h
  cases k0 with
  | sl e kk=>
   have ht:=hT.ty t _ hty
   simp only at h
   obtain ⟨u,h1,_,h2⟩:=bS H h
   obtain ⟨v,h3,_,h4⟩:=bS H h2
   obtain ⟨ik,i,e1,_,h5⟩:=BP h1 h4
   obtain ⟨jk,j,e2,_,h6⟩:=BP h3 h5
   rcases aB h6 with ⟨_,h7⟩ | ⟨_,h7⟩
   ·obtain ⟨⟨hij,h0,hb⟩,h8⟩:=h7
    obtain ⟨g1,g2⟩:=gZ h8
    rw [aD g2]
    obtain ⟨hu,he,hk,ii,hi,hby,hpos⟩:=ht.sl
    obtain ⟨i',hi',hs',hz'⟩:=he.info
    rw [hi] at hi'
    simp only [Option.some.injEq] at hi'
    subst hi'
    obtain ⟨n,rfl⟩:∃n:Nat,i=n:=⟨i.toNat,by omega⟩
    subst hij
    have hbn:n * T.bytes e≤140737488355328:=by
     have:((n * T.bytes e:Nat):Int)≤140737488355328:=by simpa using hb
     omega
    have hn:n≤140737488355328:=by
     have:n * 1≤n * T.bytes e:=Nat.mul_le_mul_left _ (by omega)
     omega
    have hbi:(ii.bytes:Int) * (n:Int)≤281474976710656:=by
     rw [hby]
     have:((T.bytes e * n:Nat):Int)≤281474976710656:=by rw [Nat.mul_comm]; omega
     simpa using this
    have hr:=run_make (P:=P) w t e ii (vL kk) hu hi hz' ik jk (n:Int) (n:Int) (by omega) (Int.le_refl _) hbi (by omega)
    simp only [Int.toNat_natCast,hs'] at hr
    have hsh:=he.shape
    have hzc:=zU hsh
    have hzO:∀h ok,Ow h (e :: kk.tys) ok kk kk.zero (bW kk) []:=fun h ok=>IM he.gP (fun t ht=>aL.2 (by simp [ht]))
    have hzl:(bW kk).length=kk.size:=dA (hzO (hp w) (fun _=>True))
    have hms:(madeCells (vL kk).cells (n * kk.size)).size=n * kk.size:=by simp [madeCells]
    obtain ⟨α',F',r1,r2⟩:=Ri (r:=bE d 0) (e:=e) (k:=kk) (xs:=List.replicate n kk.zero) (own:=e :: kk.tys) (arr:=madeCells (vL kk).cells (n * kk.size)) (lo:=0) (hi:=0) (n:=n) (c:=n) H g1 (gF d 0)
     (aL.2 (by simp)) (fun i hi=>by omega) (by simp) (Nat.le_refl _) (by rw [hms]; exact Nat.le_refl _)
     (fun i hi=>by
      have hi':i<n:=by simpa using hi
      refine ⟨bW kk,hzl,fun j hj=>?_,fun h ok=>?_⟩
      ·have hlt:i * kk.size+j<n * kk.size:=by
        have:(i+1) * kk.size≤n * kk.size:=Nat.mul_le_mul_right _ (by omega)
        rw [Nat.add_mul,Nat.one_mul] at this
        omega
       rw [QY hlt (by rw [hzc]; simp; omega),hzc]
       simp only [List.size_toArray,hzl,List.getElem?_toArray]
       congr 1
       rw [Nat.mul_comm,Nat.mul_add_mod]
       exact Nat.mod_eq_of_lt (by omega)
      ·have:(List.replicate n kk.zero)[i]'hi=kk.zero:=by simp
       rw [this]
       exact hzO h ok) false w.drawn
    refine iY (x:=.one (.ref (bE d 0) 0)) r1 hd hdn ?_ r2 ⟨_,aK .., .inr (Nat.zero_le _)⟩
    simp only [execOp,ho,e1,e2,Sem.run_bind,hr,Result.andThen_ok,Sem.run_pure]
    rfl
   ·exact h7.elim
  | _=>exact h.elim
end
end Go.Proofs.YtdknpknohipffaaGreat.Ow

/- The framework, part 29: least and greatest. Own work of this seat. -/
namespace Go.Proofs.YtdknpknohipffaaGreat.Ow
open Go
variable [Fr]
section
variable {P:Program} {T:jF} {cx:Cx} {σ:St} {α:dN} {F:List Nat} {a:Act} {w:World} {o:Oper} {d:Nat} {ws:List Wr}
def mm2 (mx:Bool):Value→Value→Sem Value:=if mx then Builtin.max2 else Builtin.min2
theorem abk {A:Type} {z:A} {mx:Bool} {ik:IntKind} {k:Int→Prog A}:∀{l:List AV} {vs:List Value} {x:Int},fE cx σ α F w l vs→KX ik x→(Yw mx ik x l k).ends σ z→
  ∃y,(vs.foldlM (mm2 mx) (.int ik x)).run P w=.ok (.int ik y) w∧KX ik y∧(k y).ends σ z:=by
 intro l
 induction l with
 | nil=>
  intro vs x h1 hr h
  cases vs with
  | nil=>exact ⟨x,rfl,hr,h⟩
  | cons v vs=>exact h1.elim
 | cons u l ih=>
  intro vs x h1 hr h
  cases vs with
  | nil=>exact h1.elim
  | cons v vs=>
   cases u with
   | val k1 y Tg=>
    cases k1 with
    | int jk=>
     simp only [Yw] at h
     rcases aB h with ⟨hk,h5⟩ | ⟨_,h5⟩
     ·have:=EH hk
      subst this
      obtain ⟨e1,e2⟩:=AZ h1.1
      subst e1
      have hr':KX ik (if mx=true then (if (show Int from y)>x then y else x) else (if (show Int from y)<x then y else x)):=by
       split <;> split <;> assumption
      obtain ⟨y',g1,g2,g3⟩:=ih h1.2 hr' h5
      refine ⟨y', ?_,g2,g3⟩
      rw [List.foldlM_cons,Sem.run_bind]
      have hstep:(mm2 mx (.int ik x) (.int ik y)).run P w=.ok (.int ik (if mx=true then (if (show Int from y)>x then y else x) else (if (show Int from y)<x then y else x))) w:=by
       cases mx <;> rfl
      rw [hstep]
      exact g1
     ·exact h5.elim
    | _=>exact h.elim
   | _=>exact h.elim
theorem MJ (H:Rel cx σ α F a w) (hd:o.dst=some d) (hdn:d<cx.nt) {c:Call} {mx:Bool} (ho:o.op=.call c) (hb:c.callee=.builtin (if mx then .max else .min))
  (h:(j4 c.args.toList fun
   | .val (.int ik) x _ :: l=>Yw mx ik x l fun z=>.ret [Wr.s d (.one (.val (.int ik) z []))]
   | _=>(.fail:Prog (List Wr))).ends σ ws):vJ P cx o a w (aC ws σ):=by
 obtain ⟨vs,h1,h2,h5⟩:=jv H h
 split at h5
 ·rename_i ik x Tg l
  cases hl:c.args.toList with
  | nil=>rw [hl] at h1; exact h1.elim
  | cons y l'=>
   rw [hl] at h1
   obtain ⟨e1,e2⟩:=AZ h1.1
   obtain ⟨z,g1,g2,g3⟩:=abk (P:=P) (w:=w) h1.2 e2 h5
   rw [aD g3]
   refine bL (v:=.int ik z) H hd hdn ?_ (Vt g2) (fun t ht=>by simp at ht)
   obtain ⟨cc,hcc⟩:=jK (P:=P) (a:=a) (w:=w) ho hb
   rw [hcc]
   have hargs:(c.args.map a.eval).toList=.int ik x :: l'.map a.eval:=by rw [Array.toList_map,hl,List.map_cons,e1]
   cases mx with
   | true=>
    have g1':(List.foldlM Builtin.max2 (Value.int ik x) (l'.map a.eval)).run P w=.ok (.int ik z) w:=g1
    simp only [if_true,builtin,Builtin.max_,hargs,Sem.run_bind,g1',Result.andThen_ok,Sem.run_pure]
   | false=>
    have g1':(List.foldlM Builtin.min2 (Value.int ik x) (l'.map a.eval)).run P w=.ok (.int ik z) w:=g1
    simp only [Bool.false_eq_true,if_false,builtin,Builtin.min_,hargs,Sem.run_bind,g1',Result.andThen_ok,Sem.run_pure]
 ·exact h5.elim
end
end Go.Proofs.YtdknpknohipffaaGreat.Ow

/- The framework, part 30: a struct is built. Own work of this seat. -/
namespace Go.Proofs.YtdknpknohipffaaGreat.Ow
open Go
variable [Fr]
theorem fold_at:∀(vs:List Value) (k off:Nat) (cells:Array Value),off+k+vs.length≤cells.size→
  ((vs.zipIdx k).foldl (fun cs (p:Value×Nat)=>cs.setIfInBounds (off+p.2) p.1) cells).size=cells.size∧
  ∀i,((vs.zipIdx k).foldl (fun cs (p:Value×Nat)=>cs.setIfInBounds (off+p.2) p.1) cells)[i]?=if off+k≤i∧i<off+k+vs.length then vs[i - (off+k)]? else cells[i]?:=by
 intro vs
 induction vs with
 | nil=>intro k off cells h; exact ⟨rfl,fun i=>by simp; omega⟩
 | cons v vs ih=>
  intro k off cells h
  simp only [List.length_cons] at h
  simp only [List.zipIdx_cons,List.foldl_cons]
  obtain ⟨g1,g2⟩:=ih (k+1) off (cells.setIfInBounds (off+k) v) (by simp; omega)
  refine ⟨by rw [g1]; simp,fun i=>?_⟩
  rw [g2 i]
  simp only [List.length_cons]
  by_cases h1:off+(k+1)≤i∧i<off+(k+1)+vs.length
  ·rw [if_pos h1,if_pos (by omega)]
   have:i - (off+k)=(i - (off+(k+1)))+1:=by omega
   rw [this,List.getElem?_cons_succ]
  ·rw [if_neg h1]
   by_cases h2:i=off+k
   ·subst h2
    rw [if_pos (by omega),Array.getElem?_setIfInBounds_self_of_lt (by omega),Nat.sub_self]
    rfl
   ·rw [if_neg (by omega),Array.getElem?_setIfInBounds_ne (by omega)]
theorem aac (vs:List Value) (off:Nat) (cells:Array Value) (h:off+vs.length≤cells.size) :
  (vs.zipIdx.foldl (fun cs (p:Value×Nat)=>cs.setIfInBounds (off+p.2) p.1) cells)=(cells.toList.take off++(vs++cells.toList.drop (off+vs.length))).toArray:=by
 obtain ⟨g1,g2⟩:=fold_at vs 0 off cells (by omega)
 apply Array.ext_getElem?
 intro i
 rw [g2 i]
 simp only [Nat.add_zero,List.getElem?_toArray]
 by_cases h1:i<off
 ·rw [if_neg (by omega),List.getElem?_append_left (by simp; omega),List.getElem?_take_of_lt h1]
  simp
 ·by_cases h2:i<off+vs.length
  ·rw [if_pos (by omega),List.getElem?_append_right (by simp; omega),List.getElem?_append_left (by simp; omega)]
   congr 1
   simp
   omega
  ·rw [if_neg (by omega),List.getElem?_append_right (by simp; omega),List.getElem?_append_right (by simp; omega),List.getElem?_drop]
   rw [Array.getElem?_toList]
   congr 1
   simp
   omega
theorem Pb {place:Nat→Option (Nat×Nat)} {cells:Array Value} {i off:Nat} {v:Value} {vs:List Value} {rest:List (Nat×Value)} (hp:place i=some (off,vs.length)) (hv:v.cells=vs.toArray) (hl:off+vs.length≤cells.size) :
  Instr.fill place cells ((i,v) :: rest)=Instr.fill place (cells.toList.take off++(vs++cells.toList.drop (off+vs.length))).toArray rest:=by
 rw [←aac vs off cells hl]
 conv=>lhs; unfold Instr.fill
 rw [hp]
 simp only [hv,List.size_toArray,ne_eq,not_true_eq_false,decide_false,Bool.false_or,decide_eq_true_eq]
 rw [if_neg (by omega)]
 simp
def oV:List (Nat×iN)→GV→Option GV
 | [],b=>some b
 | (n,tk) :: l,b=>match b.k,b.x with
  | .st c,x=>match aQ n c x with
   | some d=>bif tk.k.beq d.1 then
     match cB n c x ⟨tk.k,tk.x⟩ with
     | some z=>oV l { k:=.st z.1,x:=z.2,bad:=tk.bad++b.bad,tags:=iR tk.ko b.tags,ws:=b.ws++tk.ws,keep:=tk.keep || b.keep,all:=tk.tags++b.all }
     | none=>none
    else none
   | none=>none
  | _,_=>none
section
variable {P:Program} {T:jF} {cx:Cx} {σ:St} {α:dN} {F:List Nat} {a:Act} {w:World}
theorem UM {A:Type} {z:A} (H:Rel cx σ α F a w) {k:GV→Prog A}:∀{l:List (Nat×AV)} {vs:List Value} {b:GV},fE cx σ α F w (l.map (·.2)) vs→(∀v∈l,wD σ v.2)→(Mr l b k).ends σ z→
  ∃(tks:List iN) (b':GV),tks.length=l.length∧vs.length=l.length∧(∀it∈vs.zip tks,Ak cx σ α F w it.1 it.2)∧oV ((l.map (·.1)).zip tks) b=some b'∧(k b').ends σ z:=by
 intro l
 induction l with
 | nil=>
  intro vs b h1 _ h
  cases vs with
  | nil=>exact ⟨[],b,rfl,rfl,by simp,rfl,h⟩
  | cons v vs=>exact h1.elim
 | cons p l ih=>
  obtain ⟨n,x⟩:=p
  intro vs b h1 h2 h
  cases vs with
  | nil=>exact h1.elim
  | cons v vs=>
   obtain ⟨bk,bx,anL,ajD,bws,ajC,anK⟩:=b
   cases bk with
   | st c=>
    simp only [Mr] at h
    cases hg:aQ n c bx with
    | none=>rw [hg] at h; exact h.elim
    | some d=>
     rw [hg] at h
     simp only at h
     obtain ⟨tk,htk,h5⟩:=wN H h1.1 (h2 (n,x) (by simp)) h
     rcases aB h5 with ⟨hk,h6⟩ | ⟨_,h6⟩
     ·cases hp:cB n c bx ⟨tk.k,tk.x⟩ with
      | none=>rw [hp] at h6; exact h6.elim
      | some zz=>
       rw [hp] at h6
       obtain ⟨tks,b',g1,g2,g3,g4,g5⟩:=ih h1.2 (fun v hv=>h2 v (by simp [hv])) h6
       refine ⟨tk :: tks,b',by simp [g1],by simp [g2], ?_, ?_,g5⟩
       ·intro it hit
        rw [List.zip_cons_cons] at hit
        rcases List.mem_cons.1 hit with h | h
        ·subst h; exact htk
        ·exact g3 it h
       ·rw [List.map_cons,List.zip_cons_cons]
        unfold oV
        simp only [hg,hk,cond_true,hp]
        exact g4
     ·exact h6.elim
   | _=>exact h.elim
end
end Go.Proofs.YtdknpknohipffaaGreat.Ow

/- The framework, part 31: the cells of what is built. Own work of this seat. -/
namespace Go.Proofs.YtdknpknohipffaaGreat.Ow
open Go
variable [Fr]
def Aj (h:Heap) (own:List TypeId) (ok:Nat→Prop):List (Nat×iN)→List Value→List (List Nat)→Prop
 | [],[],[]=>True
 | p :: l,v :: vs,ft :: DC=>(∃cs,VC p.2.k v cs∧Ow h own ok p.2.k p.2.x cs ft)∧Aj h own ok l vs DC
 | _,_,_=>False
theorem UL {h:Heap} {own:List TypeId} {ok:Nat→Prop} {place:Nat→Option (Nat×Nat)} {c:K} (hpl:∀n off k,bD n c=some (off,k)→place n=some (off,k.size)) :
  ∀(l:List (Nat×iN)) {vs:List Value} {DC:List (List Nat)} {x:El c} {cs:List Value} {fo:List Nat} {bad:List TypeId} {tags:List Tag} {ws:List Wr} {kp:Bool} {all:List Tag} {b':GV},
   Ow h own ok c x cs fo→Aj h own ok l vs DC→oV l ⟨.st c,x,bad,tags,ws,kp,all⟩=some b'→
   ∃(x':El c) (cs':List Value) (dK rest:List Nat) (bad':List TypeId) (tags':List Tag) (ws':List Wr) (kp':Bool) (all':List Tag),b'=⟨.st c,x',bad',tags',ws',kp',all'⟩∧Ow h own ok c x' cs' dK∧(fo++DC.flatten).Perm (dK++rest)∧
    Instr.fill place cs.toArray ((l.map (·.1)).zip vs)=some cs'.toArray:=by
 intro l
 induction l with
 | nil=>
  intro vs DC x cs fo bad tags ws kp all b' H hP hb
  cases vs with
  | nil=>
   cases DC with
   | nil=>
    simp only [oV,Option.some.injEq] at hb
    exact ⟨x,cs,fo,[],bad,tags,ws,kp,all,hb.symm,H,by simp,rfl⟩
   | cons f fs=>exact hP.elim
  | cons v vs=>cases DC <;> exact hP.elim
 | cons p l ih=>
  obtain ⟨n,tk⟩:=p
  intro vs DC x cs fo bad tags ws kp all b' H hP hb
  cases vs with
  | nil=>cases DC <;> exact hP.elim
  | cons v vs=>
   cases DC with
   | nil=>exact hP.elim
   | cons ft DC=>
    obtain ⟨⟨cst,hv,hO⟩,hP'⟩:=hP
    unfold oV at hb
    simp only at hb
    cases hg:aQ n c x with
    | none=>rw [hg] at hb; simp at hb
    | some d=>
     rw [hg] at hb
     simp only at hb
     cases hk:tk.k.beq d.1 with
     | false=>rw [hk] at hb; simp at hb
     | true=>
      rw [hk] at hb
      simp only [cond_true] at hb
      cases hp:cB n c x ⟨tk.k,tk.x⟩ with
      | none=>rw [hp] at hb; simp at hb
      | some z=>
       rw [hp] at hb
       simp only at hb
       have ek:=K.eq_of_beq hk
       have ez:=MB n hg hp ek
       obtain ⟨off,pre,cs1,post,gp,fr,ho,ec,hl,hpf,hd,hu,_⟩:=K9 n H hg
       have r:=hu h ok ⟨tk.k,tk.x⟩ cst ft z hp hO (fun b hb=>⟨hb,rfl⟩) (fun _ _=>rfl)
       obtain ⟨zk,zx⟩:=z
       simp only at ez
       subst ez
       obtain ⟨x',cs',dK,rest,bad',tags',ws',kp',all',g1,g2,g3,g4⟩:=ih r hP' hb
       refine ⟨x',cs',dK,gp++rest,bad',tags',ws',kp',all',g1,g2, ?_, ?_⟩
       ·simp only [List.flatten_cons]
        have s1:(fo++(ft++DC.flatten)).Perm ((gp++fr)++(ft++DC.flatten)):=List.Perm.append_right _ hpf
        have s2:((gp++fr)++(ft++DC.flatten)).Perm (gp++((ft++fr)++DC.flatten)):=by
         rw [List.append_assoc]
         refine List.Perm.append_left _ ?_
         rw [←List.append_assoc]
         exact List.Perm.append_right _ List.perm_append_comm
        exact s1.trans (s2.trans ((List.Perm.append_left _ g3).trans Ch))
       ·rw [List.map_cons,List.zip_cons_cons]
        have hcl:cst.length=d.1.size:=by rw [dA hO,ek]
        have KS:v.cells=cst.toArray:=by
         have:=hv.cells
         apply Array.ext'
         simpa using this
        rw [Pb (off:=off) (vs:=cst) (by rw [hcl]; exact hpl n off d.1 ho) KS (by rw [ec]; simp; have:=dA hd; omega)]
        have e2:(cs.toArray.toList.take off++(cst++cs.toArray.toList.drop (off+cst.length)))=pre++(cst++post):=by
         have hd1:=dA hd
         simp only
         rw [ec, ←hl]
         simp [hcl, ←hd1]
        rw [e2]
        exact g4
end Go.Proofs.YtdknpknohipffaaGreat.Ow

/- The framework, part 32: what is built, joined. Own work of this seat. -/
namespace Go.Proofs.YtdknpknohipffaaGreat.Ow
open Go
variable [Fr]
theorem KM:∀(l:List (Nat×iN)) {b b':GV},oV l b=some b'→
  b'.ws=b.ws++l.flatMap (fun p=>p.2.ws)∧(∀p∈l,∀t∈p.2.tags,t∈b'.all)∧(∀t∈b.all,t∈b'.all)∧(∀p∈l,∀t∈p.2.bad,t∈b'.bad)∧(∀t∈b.bad,t∈b'.bad)∧
  (∀p∈l,∀t∈p.2.ko,t∈b'.tags)∧(∀t∈b.tags,t∈b'.tags)∧(∀t∈b'.tags,t∈b.tags∨∃p∈l,t∈p.2.ko):=by
 intro l
 induction l with
 | nil=>
  intro b b' h
  simp only [oV,Option.some.injEq] at h
  subst h
  simp
 | cons p l ih=>
  obtain ⟨n,tk⟩:=p
  intro b b' h
  obtain ⟨bk,bx,anL,ajD,bws,ajC,anK⟩:=b
  cases bk with
  | st c=>
   unfold oV at h
   simp only at h
   cases hg:aQ n c bx with
   | none=>rw [hg] at h; simp at h
   | some d=>
    rw [hg] at h
    simp only at h
    cases hk:tk.k.beq d.1 with
    | false=>rw [hk] at h; simp at h
    | true=>
     rw [hk] at h
     simp only [cond_true] at h
     cases hp:cB n c bx ⟨tk.k,tk.x⟩ with
     | none=>rw [hp] at h; simp at h
     | some z=>
      rw [hp] at h
      simp only at h
      obtain ⟨g1,g2,g3,g4,g5,g6,g7,g8⟩:=ih h
      refine ⟨by rw [g1]; simp, ?_,fun t ht=>g3 t (by simp [ht]), ?_,fun t ht=>g5 t (by simp [ht]), ?_,fun t ht=>g7 t (cZ.2 (.inr ht)), ?_⟩
      ·intro p hp t ht
       rcases List.mem_cons.1 hp with h | h
       ·subst h; exact g3 t (by simp [ht])
       ·exact g2 p h t ht
      ·intro p hp t ht
       rcases List.mem_cons.1 hp with h | h
       ·subst h; exact g5 t (by simp [ht])
       ·exact g4 p h t ht
      ·intro p hp t ht
       rcases List.mem_cons.1 hp with h | h
       ·subst h; exact g7 t (cZ.2 (.inl ht))
       ·exact g6 p h t ht
      ·intro t ht
       rcases g8 t ht with h | ⟨p,h1,h2⟩
       ·rcases cZ.1 h with h | h
        ·exact .inr ⟨(n,tk),by simp,h⟩
        ·exact .inl h
       ·exact .inr ⟨p,by simp [h1],h2⟩
  | _=>simp [oV] at h
theorem Aj.mono {h:Heap} {own:List TypeId} {ok ok':Nat→Prop} (hk:∀b,ok b→ok' b):∀{l:List (Nat×iN)} {vs:List Value} {DC:List (List Nat)},Aj h own ok l vs DC→Aj h own ok' l vs DC
 | [],[],[],_=>trivial
 | _ :: _,_ :: _,_ :: _,hP=>⟨by obtain ⟨cs,h1,h2⟩:=hP.1; exact ⟨cs,h1,bC (fun _ _=>rfl) hk (fun _ _=>rfl) h2⟩,Aj.mono hk hP.2⟩
 | [],[],_ :: _,hP=>hP.elim
 | [],_ :: _,_,hP=>hP.elim
 | _ :: _,[],_,hP=>hP.elim
 | _ :: _,_ :: _,[],hP=>hP.elim
section
variable {cx:Cx} {σ:St} {α:dN} {F:List Nat} {w:World}
theorem F9 {own':List TypeId} {T:List Tag}:∀(items:List (Nat×Value×iN)) {hs:List (List Value×List Nat)},uX cx σ α F w (items.map (·.2)) hs→(∀it∈items,∀t∈it.2.2.bad,ay t own'=false)→(∀it∈items,∀t∈it.2.2.ko,t∈T)→
  ∃(DC:List (List Nat)) (JD:List Nat),(hs.flatMap (·.2)).Perm (DC.flatten++JD)∧Aj (hp w) own' (fun b=>iU cx σ α F w T b∨b∈JD) (items.map fun p=>(p.1,p.2.2)) (items.map (·.2.1)) DC:=by
 intro items
 induction items with
 | nil=>
  intro hs h _ _
  cases hs with
  | nil=>exact ⟨[],[],by simp,trivial⟩
  | cons _ _=>exact h.elim
 | cons it items ih=>
  obtain ⟨n,v,tk⟩:=it
  intro hs h hbad htag
  cases hs with
  | nil=>exact h.elim
  | cons hd hs=>
   obtain ⟨cs,fo⟩:=hd
   obtain ⟨⟨h1,h2,h3⟩,h4⟩:=h
   obtain ⟨DC,JD,g1,g2⟩:=ih h4 (fun it hit=>hbad it (by simp [hit])) (fun it hit=>htag it (by simp [hit]))
   have hO:=h2.ow h3
   have hO2:Ow (hp w) tk.own (fun b=>iU cx σ α F w T b) tk.k tk.x cs fo:=by
    cases hb:tk.bad with
    | nil=>exact gQ hb hO
    | cons t0 l=>
     have e:tk.ko=tk.tags:=by unfold iN.ko; rw [hb]
     exact bC (fun _ _=>rfl) (fun b hb=>zC hb (fun t ht=>htag (n,v,tk) (by simp) t (by show t∈tk.ko; rw [e]; exact ht))) (fun _ _=>rfl) hO
   obtain ⟨ft,F6,p1,p2⟩:=yA (own':=own') (fun t ht hm=>by
    rcases Fp (own:=tk.own) ht with h | h
    ·have:=hbad (n,v,tk) (by simp) t h
     rw [hm] at this
     simp at this
    ·exact h) hO2
   refine ⟨ft :: DC,F6++JD, ?_,⟨cs,h1,bC (fun _ _=>rfl) (fun b hb=>?_) (fun _ _=>rfl) p2⟩,g2.mono (fun b hb=>?_)⟩
   ·simp only [List.flatMap_cons,List.flatten_cons]
    refine (p1.append g1).trans ?_
    simp only [List.append_assoc]
    refine List.Perm.append_left _ ?_
    exact Ch
   ·rcases hb with hb | hb
    ·exact .inl hb
    ·exact .inr (by simp [hb])
   ·rcases hb with hb | hb
    ·exact .inl hb
    ·exact .inr (by simp [hb])
end
end Go.Proofs.YtdknpknohipffaaGreat.Ow

/- The framework, part 33: a struct is built, the operation. Own work of this seat. -/
namespace Go.Proofs.YtdknpknohipffaaGreat.Ow
open Go
variable [Fr]
theorem YD {P:Program} {T:jF}:∀{c:K} {fs:List Field} {NC:Nat},(kg P T c).2 fs NC→
  ∃places,fs.mapM (fun f=>(P.info? f.type).map fun i=>(f.offset,i.size))=some places∧∀n off k,bD n c=some (off,k)→places[n]?=some (NC+off,k.size):=by
 intro c
 induction c with
 | unit=>
  intro fs NC h
  have h':fs=[]:=h
  subst h'
  exact ⟨[],rfl,fun n off k ho=>by cases n <;> simp [bD] at ho⟩
 | pair a b iha ihb=>
  intro fs NC h
  cases fs with
  | nil=>exact h.elim
  | cons f fs=>
   obtain ⟨h1,h2,h3,h4⟩:=h
   obtain ⟨pl,g1,g2⟩:=ihb h4
   obtain ⟨i,i1,i2,_⟩:=fP.info (show fP P T f.type a from h2)
   refine ⟨(NC,a.size) :: pl, ?_, ?_⟩
   ·rw [List.mapM_cons,i1,g1]
    simp [h1,i2]
   ·intro n off k ho
    cases n with
    | zero=>
     simp only [bD,Option.some.injEq,Prod.mk.injEq] at ho
     obtain ⟨rfl,rfl⟩:=ho
     rfl
    | succ n=>
     simp only [bD] at ho
     cases h5:bD n b with
     | none=>rw [h5] at ho; simp at ho
     | some q=>
      rw [h5] at ho
      simp only [Option.some.injEq,Prod.mk.injEq] at ho
      rw [List.getElem?_cons_succ,g2 n q.1 q.2 (by rw [h5]), ←ho.1, ←ho.2]
      congr 2
      omega
 | _=>intro fs NC h; exact h.elim
theorem ZQ {P:Program} {T:jF} {t:TypeId} {c:K} (ht:fP P T t (.st c)):∃place:Nat→Option (Nat×Nat),(∀n off k,bD n c=some (off,k)→place n=some (off,k.size))∧
  ∀parts,P.built t parts=Instr.fill place (bW c).toArray parts:=by
 obtain ⟨fs,hu,hf⟩:=ht.st
 obtain ⟨i,i1,i2,i3⟩:=ht.info
 obtain ⟨pl,g1,g2⟩:=YD hf
 refine ⟨(pl.toArray[·]?),fun n off k ho=>?_,fun parts=>?_⟩
 ·have:=g2 n off k ho
  simpa using this
 ·unfold Program.built
  rw [i1,hu]
  simp only [i3,g1]
  rfl
theorem IP {h:Heap} {own:List TypeId} {ok:Nat→Prop}:∀{k:K},gP k=true→Ow h own ok k k.zero (bW k) []:=by
 intro k
 induction k with
 | int ik=>intro _; exact ⟨rfl,rfl,by cases ik <;> simp [KX,K.zero]⟩
 | bool=>intro _; exact ⟨rfl,rfl⟩
 | id e=>intro _; exact ⟨rfl,by show _=[Fr.iP 0]; rw [Fr.agE]; rfl⟩
 | str=>intro _; exact ⟨rfl,ByteArray.empty,rfl,rfl⟩
 | sl e k ih=>intro _; exact ER
 | unit=>intro _; exact ⟨rfl,rfl⟩
 | pair a b iha ihb=>
  intro hg
  simp [gP] at hg
  exact ⟨bW a,bW b,[],[],rfl, .refl _,iha hg.1,ihb hg.2⟩
 | st f ih=>intro hg; exact ih hg
 | gap n=>intro hg; simp [gP] at hg
theorem N8 {cx:Cx} {σ:St} {α:dN} {F:List Nat} {w:World} {r:Nat} (hn:σ.roots r=none):∀{l:List (Value×iN)},(∀it∈l,Ak cx σ α F w it.1 it.2)→r∉(yu l).flatMap Wr.xu:=by
 intro l h hm
 simp only [yu,List.mem_flatMap] at hm
 obtain ⟨wr,⟨it,hit,hw⟩,hr⟩:=hm
 cases h it hit with
 | held hws cs hv hh hc=>rw [hws] at hw; simp at hw
 | ref q R hlr hv e hk hd=>
  rw [e] at hw
  simp only [List.mem_singleton] at hw
  subst hw
  simp only [Wr.xu,List.mem_singleton] at hr
  rw [hr,hlr.1] at hn
  simp at hn
 | cut q R cs hlr hv hk e hd hl Yc how=>
  rw [e.2.2.1] at hw
  simp only [List.mem_singleton] at hw
  subst hw
  simp only [Wr.xu,List.mem_singleton] at hr
  rw [hr,hlr.1] at hn
  simp at hn
 | gap q R p dd z hlr hv hg hz fT hown hpv e hnn=>
  rw [e] at hw
  simp only [List.mem_singleton] at hw
  subst hw
  simp only [Wr.xu,List.mem_singleton] at hr
  rw [hr,hlr.1] at hn
  simp at hn
theorem P6:∀(ns:List Nat) (vs:List Value) (ts:List iN),ns.length=ts.length→vs.length=ts.length→
  ((ns.zip (vs.zip ts)).map (·.2)=vs.zip ts)∧((ns.zip (vs.zip ts)).map (fun p=>(p.1,p.2.2))=ns.zip ts)∧((ns.zip (vs.zip ts)).map (·.2.1)=vs)∧(yu (vs.zip ts)=(ns.zip ts).flatMap (fun p=>p.2.ws)):=by
 intro ns
 induction ns with
 | nil=>
  intro vs ts h1 h2
  cases ts with
  | nil=>cases vs with
   | nil=>exact ⟨rfl,rfl,rfl,rfl⟩
   | cons _ _=>simp at h2
  | cons _ _=>simp at h1
 | cons n ns ih=>
  intro vs ts h1 h2
  cases ts with
  | nil=>simp at h1
  | cons t ts=>
   cases vs with
   | nil=>simp at h2
   | cons v vs=>
    obtain ⟨g1,g2,g3,g4⟩:=ih vs ts (by simpa using h1) (by simpa using h2)
    refine ⟨by simp [g1],by simp [g2],by simp [g3], ?_⟩
    unfold yu at g4 ⊢
    simp [g4]
end Go.Proofs.YtdknpknohipffaaGreat.Ow

/- The framework, part 34: did_build. Own work of this seat. -/
namespace Go.Proofs.YtdknpknohipffaaGreat.Ow
open Go
variable [Fr]
section
variable {P:Program} {T:jF} {cx:Cx} {σ:St} {α:dN} {F:List Nat} {a:Act} {w:World} {o:Oper} {d:Nat} {ws:List Wr}
theorem EF:∀{l:List (Value×iN)} {hs:List (List Value×List Nat)},uX cx σ α F w l hs→∀b∈hs.flatMap (·.2),b∈F
 | [],[],_,b,hb=>by simp at hb
 | _ :: _,hd :: hs,h,b,hb=>by
  simp only [List.flatMap_cons,List.mem_append] at hb
  rcases hb with hb | hb
  ·exact h.1.2.1.sub b hb
  ·exact EF h.2 b hb
 | [],_ :: _,h,_,_=>h.elim
 | _ :: _,[],h,_,_=>h.elim
theorem Gt:∀{l:List (Value×iN)} {hs:List (List Value×List Nat)},uX cx σ α F w l hs→∀it∈l,fC σ it.2.tags
 | [],[],_,it,hi=>by simp at hi
 | _ :: _,hd :: hs,h,it,hi=>by
  rcases List.mem_cons.1 hi with hi | hi
  ·subst hi; exact h.1.2.1.wt
  ·exact Gt h.2 it hi
 | [],_ :: _,h,_,_=>h.elim
 | _ :: _,[],h,_,_=>h.elim
theorem did_build (hT:fq P T) (H:Rel cx σ α F a w) (hd:o.dst=some d) (hdn:d<cx.nt) {t:TypeId} {ps:Array (Nat×Operand)}
  (h:(match T.ty t with
   | some (.st c)=>MR ps.toList fun l=>Mr l ⟨.st c,(K.st c).zero,[],[],[],false,[]⟩ fun b=>bif !OU b.ws b.all then .fail else bif b.k.tys.all fun t=>ay t b.bad then
     .ret (b.ws++[Wr.s d (.one (.val b.k b.x b.tags))])
    else ku (bE d 0) (.ret (b.ws++[Wr.r (bE d 0) (some (aP b.k b.x (bI b.k.tys b.bad) b.tags .anon b.keep)),Wr.s d (.one (.ref (bE d 0) 0))]))
   | _=>(.fail:Prog (List Wr))).ends σ ws) (ho:o.op=.build t ps):vJ P cx o a w (aC ws σ):=by
 cases hty:T.ty t with
 | none=>rw [hty] at h; exact h.elim
 | some k0=>
  rw [hty] at h
  cases k0 with
  | st c=>
   have ht:=hT.ty t _ hty
   simp only at h
   obtain ⟨vs,e1,h1,h2,h3⟩:=O8 H h
   obtain ⟨tks,b',l1,l2,hTk,SS,h4⟩:=UM H h1 h2 h3
   have hlen:vs.length=tks.length:=l1.symm
   have Vk:(vs.map (·.1)).length=tks.length:=by rw [List.length_map]; exact hlen
   have Te:((evs a ps.toList).map (·.2)).length=tks.length:=by rw [l2]; exact hlen
   generalize hns:vs.map (·.1)=ns at *
   generalize hvv:(evs a ps.toList).map (·.2)=vals at *
   obtain ⟨z1,z2,z3,z4⟩:=P6 ns vals tks Vk Te
   obtain ⟨f1,f2,f3,f4,f5,f6,f7,f8⟩:=KM _ SS
   simp only [List.nil_append] at f1
   rcases aB h4 with ⟨_,h5⟩ | ⟨hws,h5⟩
   ·exact h5.elim
   ·have QS:OU b'.ws b'.all=true:=by simpa using hws
    unfold OU at QS
    simp only [Bool.and_eq_true] at QS
    have hw1:=CU.1 QS.1
    have hw2:=Gp.1 QS.2
    rw [f1, ←z4] at hw1 hw2
    obtain ⟨α',F',hs,H',hA,hnd,hnF,hFF,hS,_⟩:=takes (vals.zip tks) H hTk hw1 (fun tg zZ=>hw2 tg (by
     obtain ⟨it,hit,h6⟩:=List.mem_flatMap.1 zZ
     have:it∈(ns.zip (vals.zip tks)).map (·.2):=by rw [z1]; exact hit
     obtain ⟨q,hq,rfl⟩:=List.mem_map.1 this
     exact f2 (q.1,q.2.2) (by rw [←z2]; exact List.mem_map.2 ⟨q,hq,rfl⟩) tg h6))
    have hA0:=hA
    rw [←z1] at hA
    obtain ⟨DC,JD,p1,p2⟩:=F9 (own':=bI (K.st c).tys b'.bad) (T:=b'.tags) (ns.zip (vals.zip tks)) hA
     (fun it hit tg zZ=>by
      cases hm:ay tg (bI (K.st c).tys b'.bad) with
      | false=>rfl
      | true=>exact absurd (f4 (it.1,it.2.2) (by rw [←z2]; exact List.mem_map.2 ⟨it,hit,rfl⟩) tg zZ) (dI.1 hm).2)
     (fun it hit tg zZ=>f6 (it.1,it.2.2) (by rw [←z2]; exact List.mem_map.2 ⟨it,hit,rfl⟩) tg zZ)
    rw [z2,z3,z1] at p2
    obtain ⟨place,q1,q2⟩:=ZQ ht
    obtain ⟨x',cs',dK,rest,bad',tags',ws2,kp',all',r1,r2,r3,r4⟩:=UL q1 (ns.zip tks) (x:=(K.st c).zero) (cs:=bW c) (fo:=[]) (IP (k:=c) ht.gP) p2 SS
    subst r1
    simp only at QS f1 f2 f3 f4 f5 f6 f7 f8 h5 p2 r2 r3
    have hzn:(ns.zip tks).map (·.1)=ns:=by rw [List.map_fst_zip (by omega)]
    have hparts:((ps.map fun (p:Nat×Operand)=>(p.1,a.eval p.2)).toList)=ns.zip vals:=by
     rw [Array.toList_map, ←hvv,e1]
     have:∀l:List (Nat×Operand),l.map (fun p=>(p.1,a.eval p.2))=(l.map (·.1)).zip ((evs a l).map (·.2)):=by
      intro l
      induction l with
      | nil=>rfl
      | cons p l ih=>simp [evs] at ih ⊢; exact ih
     exact this _
    have hrun:(execOp a.eval o).run P w=.ok (.value (.agg cs'.toArray)) w:=by
     have hb:=run_build (P:=P) w t (ps.map fun (p:Nat×Operand)=>(p.1,a.eval p.2)) cs'.toArray (by rw [hparts,q2, ←r4,hzn])
     simp only [execOp,ho,Sem.run_bind,hb,Result.andThen_ok,Sem.run_pure]
    have hperm:(hs.flatMap (·.2)).Perm (dK++(rest++JD)):=by
     refine p1.trans ?_
     rw [←List.append_assoc]
     exact List.Perm.append_right _ (by simpa using r3)
    have wI:=hperm.nodup hnd
    have hin:∀b∈hs.flatMap (·.2),b∈F':=EF hA0
    have OH:∀b∈dK,b∈F':=fun b hb=>hin b (hperm.mem_iff.2 (by simp [hb]))
    have agc:∀b∈JD,b∈F'∧b∉dK:=fun b hb=>⟨hin b (hperm.mem_iff.2 (by simp [hb])),fun h=>(List.nodup_append.1 wI).2.2 b h b (by simp [hb]) rfl⟩
    have hV:VC (.st c) (.agg cs'.toArray) cs':=rfl
    have hwt:fC (aC (yu (vals.zip tks)) σ) tags':=by
     intro tg zZ
     rcases f8 tg zZ with h | ⟨q,hq,hq2⟩
     ·simp at h
     ·rw [←z2] at hq
      obtain ⟨it,hit,rfl⟩:=List.mem_map.1 hq
      have hit2:it.2∈vals.zip tks:=by rw [←z1]; exact List.mem_map.2 ⟨it,hit,rfl⟩
      exact Lh (Gt hA0 it.2 hit2) tg hq2
    have adh:ws2=yu (vals.zip tks):=by rw [f1,z4]
    rcases aB h5 with ⟨hall,h6⟩ | ⟨_,h6⟩
    ·rw [aD h6]
     have hnone:∀tg∈c.tys,ay tg (bI (K.st c).tys bad')=false:=by
      intro tg zZ
      cases hm:ay tg (bI (K.st c).tys bad') with
      | false=>rfl
      | true=>
       have:=List.all_eq_true.1 hall tg zZ
       exact absurd (aL.1 this) (dI.1 hm).2
     have Nc:dK=[]:=by
      cases hf:dK with
      | nil=>rfl
      | cons b l=>
       obtain ⟨e,g1,g2,_⟩:=xy (k:=c) r2 b (by rw [hf]; simp)
       rw [hnone e g1] at g2
       simp at g2
     have T2:=Iu (w':=w) (F':=F'.filter fun b=>!ay b JD) H' ⟨rfl,rfl,rfl⟩ (Nat.le_refl _) (fun _ _ h=>absurd rfl h) (fun b hb=>.inl (List.mem_filter.1 hb).1) (H'.Fw.filter _)
     have H2:=H'.mem T2
     have hok:∀b,(iU cx (aC (yu (vals.zip tks)) σ) α' F' w tags' b∨b∈JD)→iU cx (aC (yu (vals.zip tks)) σ) α' (F'.filter fun b=>!ay b JD) w tags' b:=by
      rintro b (hb | hb)
      ·exact ⟨hb.1,fun h=>hb.2.1 (List.mem_filter.1 h).1,hb.2.2⟩
      ·have KQ:=(agc b hb).1
       have hm:=H'.fl b KQ
       refine ⟨hm.1,fun h=>?_,wm H' KQ,fun q Q hq hbq=>absurd KQ (H'.jH q Q hq b hbq),fun h0=>?_⟩
       ·have:=(List.mem_filter.1 h).2
        simp only [Bool.not_eq_true',aV] at this
        exact this hb
       ·rcases hm.2 with h | ⟨j,pi,h1,h2⟩
        ·omega
        ·exact .inr ⟨j,pi,h1,h2⟩
     have hVw:=mg (k:=.st c) _ hok (fun b hb=>by rw [Nc] at hb; simp at hb) r2
     rw [adh,dD]
     exact iY (x:=.one (.val (.st c) x' tags')) H2 hd hdn hrun (show bH cx _ α' _ w (.val (.st c) x' tags') _ from fun _=>⟨cs',hV,hVw⟩) hwt
    ·obtain ⟨g1,g2⟩:=gZ h6
     rw [aD g2]
     have hnr:=N8 g1 hTk
     have hn1:(aC (yu (vals.zip tks)) σ).roots (bE d 0)=none:=by rw [(hS _ hnr).root]; exact g1
     obtain ⟨J6,k1,k2⟩:=Eu (k:=.st c) (x:=x') (own:=bI (K.st c).tys bad') (tags:=tags') (v:=.agg cs'.toArray) (cs:=cs') (fo:=dK) (r:=bE d 0) (F':=F'.filter fun b=>!ay b (dK++JD)) H' hn1 (gF d 0)
      OH (List.nodup_append.1 wI).1 hwt (fun b hb=>by
       rw [List.mem_filter] at hb
       have:=hb.2
       simp only [Bool.not_eq_true',aV,List.mem_append,not_or] at this
       exact ⟨hb.1,this.1⟩) (H'.Fw.filter _) (dA (k:=c) r2)
      (fun _=>bC (k:=.st c) (fun _ _=>rfl) (fun b hb=>by
       rcases hb with hb | hb
       ·exact .inl hb
       ·refine .inr ⟨(agc b hb).1,fun h=>?_,(agc b hb).2⟩
        rw [List.mem_filter] at h
        have:=h.2
        simp only [Bool.not_eq_true',aV,List.mem_append,not_or] at this
        exact this.2 hb) (fun _ _=>rfl) r2) hV kp'
     rw [adh,dD]
     exact iY (x:=.one (.ref (bE d 0) 0)) k1 hd hdn hrun k2 ⟨_,aK .., .inr (Nat.zero_le _)⟩
  | _=>exact h.elim
end
end Go.Proofs.YtdknpknohipffaaGreat.Ow

/- The framework, part 35: append, as the machine does it. Own work of this seat. -/
namespace Go.Proofs.YtdknpknohipffaaGreat.Ow
open Go
variable [Fr]
section
variable {P:Program} {T:jF} {w:World}
structure Src (P:Program) (w:World) (size:Nat) (u:TypeId) (x:Value) (m:Nat) (news:List Value):Prop where
 und:(∃e',P.underlying u=some (.slice e'))∨P.underlying u=some .string
 len:∀w',(Builtin.lenOf x).run P w'=.ok m w'
 cells:(Builtin.firstCells size m x).run P w=.ok news.toArray w∧(Builtin.firstCells size m x).run P w.drew=.ok news.toArray w.drew
 nl:news.length=m * size
 one:∀v∈news,v.oneCell'=true
theorem FE {size:Nat} {u:TypeId} {b:Option Addr} {m c:Nat} {news:List Value} (hu:(∃e',P.underlying u=some (.slice e'))∨P.underlying u=some .string) (hl:news.length=m * size) (h1:∀v∈news,v.oneCell'=true)
  (hc:0<m→∃bb q,b=some ⟨bb,q,none⟩∧Cells (hp w) bb q news):Src P w size u (.slice b m c) m news where
 und:=hu
 len:=fun w'=>rfl
 cells:=by
  have key:∀w',hp w'=hp w→(Builtin.firstCells size m (.slice b m c)).run P w'=.ok news.toArray w':=by
   intro w' hw
   by_cases h0:0<m
   ·obtain ⟨bb,q,rfl,hcs⟩:=hc h0
    exact run_firstCells_some (P:=P) w' size m ⟨bb,q,none⟩ m c news hl (fun j v hj=>by
     rw [addr_add,CZ,hw,hcs j (List.getElem?_eq_some_iff.1 hj).1]
     exact hj)
   ·have hm:m=0:=by omega
    subst hm
    have hn:news=[]:=List.eq_nil_of_length_eq_zero (by simpa using hl)
    subst hn
    cases b with
    | none=>exact run_firstCells_none w' size 0 0 c
    | some ad=>exact run_firstCells_some (P:=P) w' size 0 ad 0 c [] (by simp) (fun j v hj=>by simp at hj)
  exact ⟨key w rfl,key w.drew rfl⟩
 nl:=hl
 one:=h1
theorem VH {u:TypeId} {B:ByteArray} (hu:(∃e',P.underlying u=some (.slice e'))∨P.underlying u=some .string):Src P w 1 u (.string B) B.size (B.data.toList.map fun b=>.int .u8 b.toNat) where
 und:=hu
 len:=fun w'=>rfl
 cells:=by
  have h:B.extract 0 B.size=B:=by
   apply ByteArray.ext
   simp
  constructor <;> (simp [Builtin.firstCells,h]; apply Array.ext'; simp)
 nl:=by simp
 one:=by intro v hv; simp only [List.mem_map] at hv; obtain ⟨b,_,rfl⟩:=hv; rfl
theorem Bn {t u ty e:TypeId} {k:K} (ht:fP P T t (.sl e k)) {b:Option Addr} {n c m:Nat} {x:Value} {news:List Value} (hs:Src P w k.size u x m news) (hr:n+m≤c) :
  (Builtin.append_ #[t,u] ty #[.slice b n c,x]).run P w=(match b with
   | some a=>(storeCells (a.add (n * k.size)) news).run P w
   | none=>.ok () w).andThen fun _ w'=>.ok (.slice b (n+m) c) w':=by
 obtain ⟨hu,he,_,_⟩:=ht.sl
 have e1:=hs.len w
 have e2:=hs.cells.1
 rcases hs.und with ⟨e',hd⟩ | hd <;> cases b <;> simp [Builtin.append_,run_underlying hu,he.info.sizeOf w,run_underlying hd,e1,e2,hr,Result.andThen]
end
end Go.Proofs.YtdknpknohipffaaGreat.Ow

/- The framework, part 36: append that grows. Own work of this seat. -/
namespace Go.Proofs.YtdknpknohipffaaGreat.Ow
open Go
variable [Fr]
section
variable {P:Program} {T:jF} {w:World}
theorem EY {t u ty e:TypeId} {k:K} (ht:fP P T t (.sl e k)) {b:Option Addr} {n c m:Nat} {x:Value} {news olds:List Value} (hs:Src P w k.size u x m news)
  (hold:(Builtin.firstCells k.size n (.slice b n c)).run P w.drew=.ok olds.toArray w.drew) (hr:¬n+m≤c) (hb:(n+m) * T.bytes e≤140737488355328) :
  ∃nc,n+m≤nc∧(Builtin.append_ #[t,u] ty #[.slice b n c,x]).run P w =
   .ok (.slice (some ⟨w.heap.size,0,none⟩) (n+m) nc) (w.drew.alloc (.cells (olds.toArray++news.toArray++Builtin.zeroCells (vL k).cells (nc - (n+m))) e)):=by
 obtain ⟨hu,he,_,i,hi,hby,hpos⟩:=ht.sl
 obtain ⟨i',hi',hs',hz'⟩:=he.info
 rw [hi] at hi'
 simp only [Option.some.injEq] at hi'
 subst hi'
 have e1:=hs.len w
 have e2:=hs.cells.2
 have h2:¬(281474976710656<Builtin.nextslicecap (n+m) c * i.bytes):=by
  have:=growslice_fits (need:=n+m) (old:=c) (bytes:=i.bytes) (by omega) (by rw [hby]; exact hb)
  omega
 have h3:i.bytes≠0:=by omega
 refine ⟨grownCap w (n+m) c e,grownCap_ge w (n+m) c e, ?_⟩
 rw [←hs'] at hold e2
 rcases hs.und with ⟨e',hd⟩ | hd
 ·simp [Builtin.append_,run_underlying hu,run_underlying hd,sizeOf,typeInfo,zeroValue,hi,hz',e1,hr,h2,h3,Question.forced,hold,e2,newRow,grownCap]
  congr 2
  apply Array.ext'
  simp [List.append_assoc]
 ·simp [Builtin.append_,run_underlying hu,run_underlying hd,sizeOf,typeInfo,zeroValue,hi,hz',e1,hr,h2,h3,Question.forced,hold,e2,newRow,grownCap]
  congr 2
  apply Array.ext'
  simp [List.append_assoc]
end
end Go.Proofs.YtdknpknohipffaaGreat.Ow

/- The framework, part 37: append, of what is owned. Own work of this seat. -/
namespace Go.Proofs.YtdknpknohipffaaGreat.Ow
open Go
variable [Fr]
def oP (news:List Value) (s i:Nat):List Value:=(news.drop (i * s)).take s
theorem vF {news:List Value} {s i m:Nat} (h:news.length=m * s) (hi:i<m):(oP news s i).length=s:=by
 unfold oP
 have:(i+1) * s≤m * s:=Nat.mul_le_mul_right _ hi
 rw [Nat.add_mul,Nat.one_mul] at this
 simp
 omega
theorem nH {news:List Value} {s i j:Nat} (hj:j<s):(oP news s i)[j]?=news[i * s+j]?:=by
 unfold oP
 rw [List.getElem?_take,if_pos hj,List.getElem?_drop]
theorem Ih {bz EE:List (List Nat)} {i:Nat}:(bz++EE).getD i []=if i<bz.length then bz.getD i [] else EE.getD (i - bz.length) []:=by
 simp only [List.getD_eq_getElem?_getD,List.getElem?_append]
 split <;> rfl
section
variable {P:Program} {T:jF} {w:World}
theorem OZ {t u ty e:TypeId} {kk:K} (ht:fP P T t (.sl e kk)) {own:List TypeId} {ok:Nat→Prop} {Bq Dr:List (El kk)} {v0 x:Value} {Bg:List Nat} {bz:List (List Nat)} {news:List Value}
  (hO:Ow (hp w) own ok (.sl e kk) Bq [v0] Bg) (hown:ay e own=true) (hnd:(Bg++bz.flatten).Nodup) (hok:∀b,ok b→b∉Bg∧b<w.heap.size) (hlt:∀b∈Bg++bz.flatten,b<w.heap.size)
  (hS:Src P w kk.size u x Dr.length news) (hfl:bz.length=Dr.length) (hel:∀i (hi:i<Dr.length),Ow (hp w) own ok kk Dr[i] (oP news kk.size i) (bz.getD i []))
  (hb:(Bq.length+Dr.length) * T.bytes e≤140737488355328) :
  ∃v' w' dK,(Builtin.append_ #[t,u] ty #[v0,x]).run P w=.ok v' w'∧(w'.os=w.os∧w'.tape=w.tape∧w'.output=w.output)∧w.heap.size≤w'.heap.size∧
   (∀b,b<w.heap.size→hp w' b≠hp w b→b∈Bg∧uo (hp w) b=some e)∧(∀b∈dK,b∈Bg∨b∈bz.flatten∨(w.heap.size≤b∧b<w'.heap.size))∧dK.Nodup∧
   Ow (hp w') own ok (.sl e kk) (Bq++Dr) [v'] dK:=by
 have hsz:0<kk.size:=ht.sl.2.2.1
 have hnl:=hS.nl
 unfold Ow at hO
 rw [if_pos hown] at hO
 obtain ⟨a,n,c,e1,e2,e3,hO⟩:=hO
 simp only [List.cons.injEq,and_true] at e1
 subst e1
 have e2':n=Bq.length:=e2
 have hnd':=List.nodup_append.1 hnd
 by_cases hr:n+Dr.length≤c
 ·have hrun:=Bn (ty:=ty) ht hS (b:=a) (n:=n) hr
  rcases hO with ⟨hc0,hf0⟩ | ⟨b,o,arr,lo,hi,ea,hbk,hf,hs,zY,hl0,hp0,hO⟩
  ·have hx1:Dr=[]:=List.eq_nil_of_length_eq_zero (by omega)
   have hx0:Bq=[]:=List.eq_nil_of_length_eq_zero (by omega)
   subst hx1
   subst hx0
   have hnews:news=[]:=List.eq_nil_of_length_eq_zero (by simpa using hnl)
   subst hnews
   have hn0:n=0:=by simpa using e2'
   subst hn0
   subst hc0
   have:(Builtin.append_ #[t,u] ty #[.slice a 0 0,x]).run P w=.ok (.slice a 0 0) w:=by
    rw [hrun]
    cases a <;> rfl
   exact ⟨_,w,[],this,⟨rfl,rfl,rfl⟩,Nat.le_refl _,fun b _ h=>absurd rfl h,fun b hb=>by simp at hb,List.nodup_nil,ER⟩
  ·subst ea
   have hle:(n+Dr.length) * kk.size≤c * kk.size:=Nat.mul_le_mul_right _ hr
   rw [Nat.add_mul] at hle
   have hst:=oD (P:=P) (o:=o+n * kk.size) news hbk hf (by rw [hnl]; omega) hS.one
   simp only [Result.andThen,addr_add,hst] at hrun
   obtain ⟨s1,s2,lI,s3,s4,s5,s6⟩:=xN b news w arr e (lo,hi) (o+n * kk.size) hbk (by rw [hnl]; omega)
   have s7:=sG b news w (o+n * kk.size)
   have hb0:b∈Bg:=hp0.mem_iff.2 (by simp)
   have vK:=hp0.nodup hnd'.1
   have hne:∀b'∈zY.flatten++bz.flatten,b'≠b:=by
    intro b' hb' e
    subst e
    rcases List.mem_append.1 hb' with h | h
    ·exact (List.nodup_cons.1 vK).1 h
    ·exact hnd'.2.2 b' hb0 b' h rfl
   have akk:∀b',ok b'→hp (w.setCells b (o+n * kk.size) news) b'=hp w b':=fun b' h=>s1 b' (fun e=>(hok b' h).1 (e▸hb0))
   refine ⟨_,_,b :: (zY.flatten++bz.flatten),hrun,s7,by omega, ?_, ?_, ?_, ?_⟩
   ·intro b' _ hne'
    by_cases e:b'=b
    ·subst e; exact ⟨hb0,by unfold uo; rw [hbk]⟩
    ·exact absurd (s1 b' e) hne'
   ·intro b' hb'
    rcases List.mem_cons.1 hb' with h | h
    ·subst h; exact .inl hb0
    ·rcases List.mem_append.1 h with h | h
     ·exact .inl (hp0.mem_iff.2 (by simp [h]))
     ·exact .inr (.inl h)
   ·refine List.nodup_cons.2 ⟨fun h=>hne b h rfl,List.nodup_append.2 ⟨(List.nodup_cons.1 vK).2,hnd'.2.1,fun b1 h1 b2 h2 e=>hnd'.2.2 b1 (hp0.mem_iff.2 (by simp [h1])) b2 h2 e⟩⟩
   ·unfold Ow
    rw [if_pos hown]
    refine ⟨_,_,_,rfl,by simp [e2'],hr, .inr ⟨b,o,lI,lo,hi,rfl,s3,by rw [s4]; exact hf,by rw [s4]; exact hs,zY++bz,by simp [hl0,hfl],by simp,fun i hi=>?_⟩⟩
    have hi':i<Bq.length+Dr.length:=by simpa using hi
    rw [Ih]
    by_cases hi0:i<Bq.length
    ·obtain ⟨ds,h1,h2⟩:=hO i hi0
     have aoh:i<zY.length:=by rw [hl0]; exact hi0
     rw [if_pos aoh]
     have hx:(Bq++Dr)[i]'hi=Bq[i]:=List.getElem_append_left hi0
     refine ⟨ds,fun j hj=>?_, ?_⟩
     ·have hdl:=dA h2
      have hlt2:(i+1) * kk.size≤n * kk.size:=Nat.mul_le_mul_right _ (by omega)
      rw [Nat.add_mul,Nat.one_mul] at hlt2
      have:=h1 j hj
      unfold cellAt at this ⊢
      rw [hbk] at this
      rw [s3]
      simp only at this ⊢
      rw [s6 _ (by rw [hnl]; omega)]
      exact this
     ·show Ow _ own ok kk ((Bq++Dr)[i]'hi) ds _
      rw [hx]
      exact bC akk (fun _ h=>h) (fun b' hb'=>s1 b' (hne b' (List.mem_append_left _ (vv hb')))) h2
    ·have hi1:i - Bq.length<Dr.length:=by omega
     rw [if_neg (by rw [hl0]; exact hi0)]
     have hx:(Bq++Dr)[i]'hi=Dr[i - Bq.length]:=List.getElem_append_right (by omega)
     have hfe:i - zY.length=i - Bq.length:=by rw [hl0]
     rw [hfe]
     refine ⟨oP news kk.size (i - Bq.length),fun j hj=>?_, ?_⟩
     ·rw [vF hnl hi1] at hj
      unfold cellAt
      rw [s3,nH hj]
      simp only
      have e4:o+i * kk.size+j=o+n * kk.size+((i - Bq.length) * kk.size+j):=by
       have:i * kk.size=n * kk.size+(i - Bq.length) * kk.size:=by rw [←Nat.add_mul]; congr 1; omega
       omega
      rw [e4]
      refine s5 _ ?_
      rw [hnl]
      have:(i - Bq.length+1) * kk.size≤Dr.length * kk.size:=Nat.mul_le_mul_right _ hi1
      rw [Nat.add_mul,Nat.one_mul] at this
      omega
     ·show Ow _ own ok kk ((Bq++Dr)[i]'hi) _ _
      rw [hx]
      exact bC akk (fun _ h=>h) (fun b' hb'=>s1 b' (hne b' (List.mem_append_right _ (vv hb')))) (hel _ hi1)
 ·
  obtain ⟨olds,ho1,ho2,zY,hl0,hf0,hOe⟩:∃olds,olds.length=n * kk.size∧(Builtin.firstCells kk.size n (.slice a n c)).run P w.drew=.ok olds.toArray w.drew∧∃zY:List (List Nat),zY.length=Bq.length∧((∀b∈zY.flatten,b∈Bg)∧zY.flatten.Nodup)∧
    ∀i (hi:i<Bq.length),Ow (hp w) own ok kk Bq[i] (oP olds kk.size i) (zY.getD i []):=by
   rcases hO with ⟨hc0,hf0⟩ | ⟨b,o,arr,lo,hi,ea,hbk,hf,hs,zY,hl0,hp0,hO⟩
   ·have hx0:Bq=[]:=List.eq_nil_of_length_eq_zero (by omega)
    subst hx0
    have hn0:n=0:=by simpa using e2'
    subst hn0
    refine ⟨[],by simp, ?_,[],rfl,⟨by simp,by simp⟩,fun i hi=>by simp at hi⟩
    cases a with
    | none=>exact run_firstCells_none w.drew kk.size 0 0 c
    | some ad=>exact run_firstCells_some (P:=P) w.drew kk.size 0 ad 0 c [] (by simp) (fun j v hj=>by simp at hj)
   ·subst ea
    have hle:n * kk.size≤c * kk.size:=Nat.mul_le_mul_right _ e3
    have hrow:=IQ (n:=n * kk.size) hbk (by omega:o+n * kk.size≤arr.size)
    have hrl:(sF (hp w) b o (n * kk.size)).length=n * kk.size:=by simp [sF]
    have vK:=hp0.nodup hnd'.1
    refine ⟨sF (hp w) b o (n * kk.size),hrl, ?_,zY,hl0,⟨fun b' hb'=>hp0.mem_iff.2 (by simp [hb']),(List.nodup_cons.1 vK).2⟩,fun i hi=>?_⟩
    ·refine run_firstCells_some (P:=P) w.drew kk.size n ⟨b,o,none⟩ n c _ hrl (fun j v hj=>?_)
     rw [addr_add,CZ]
     have:=hrow j (by rw [hrl]; have:=(List.getElem?_eq_some_iff.1 hj).1; rw [hrl] at this; exact this)
     rw [hj] at this
     exact this
    ·obtain ⟨ds,h1,h2⟩:=hO i hi
     have hdl:=dA h2
     have:oP (sF (hp w) b o (n * kk.size)) kk.size i=ds:=by
      apply List.ext_getElem?
      intro j
      by_cases hj:j<kk.size
      ·rw [nH hj]
       have hlt2:(i+1) * kk.size≤n * kk.size:=Nat.mul_le_mul_right _ (by omega)
       rw [Nat.add_mul,Nat.one_mul] at hlt2
       rw [←hrow _ (by rw [hrl]; omega), ←Nat.add_assoc]
       exact h1 j (by omega)
      ·rw [List.getElem?_eq_none (by rw [vF hrl (by omega)]; omega),List.getElem?_eq_none (by omega)]
     rw [this]
     exact h2
  obtain ⟨nc,hnc,hrun⟩:=EY (ty:=ty) ht hS ho2 hr (by rw [e2']; exact hb)
  have hnew:=u7 w.drew (.cells (olds.toArray++news.toArray++Builtin.zeroCells (vL kk).cells (nc - (n+Dr.length))) e)
  have hold:∀b',b'<w.heap.size→hp (w.drew.alloc (.cells (olds.toArray++news.toArray++Builtin.zeroCells (vL kk).cells (nc - (n+Dr.length))) e)) b'=hp w b':=fun b' h=>rz w.drew _ h
  have hws:w.drew.heap.size=w.heap.size:=rfl
  rw [hws] at hnew
  have hsz2:(w.drew.alloc (.cells (olds.toArray++news.toArray++Builtin.zeroCells (vL kk).cells (nc - (n+Dr.length))) e)).heap.size=w.heap.size+1:=Array.size_push ..
  have hzl:(vL kk).cells.size=kk.size:=by
   rw [zU ht.sl.2.1.shape]
   simpa using dA (IP (h:=hp w) (own:=own) (ok:=ok) ht.sl.2.1.gP)
  have hall:∀b'∈zY.flatten++bz.flatten,b'<w.heap.size:=by
   intro b' hb'
   rcases List.mem_append.1 hb' with h | h
   ·exact hlt b' (List.mem_append_left _ (hf0.1 b' h))
   ·exact hlt b' (List.mem_append_right _ h)
  refine ⟨_,_,w.heap.size :: (zY.flatten++bz.flatten),hrun,⟨rfl,rfl,rfl⟩,by omega,fun b' hb' hne=>absurd (hold b' hb') hne, ?_, ?_, ?_⟩
  ·intro b' hb'
   rcases List.mem_cons.1 hb' with h | h
   ·subst h; exact .inr (.inr ⟨Nat.le_refl _,by omega⟩)
   ·rcases List.mem_append.1 h with h | h
    ·exact .inl (hf0.1 b' h)
    ·exact .inr (.inl h)
  ·refine List.nodup_cons.2 ⟨fun h=>by have:=hall _ h; omega,List.nodup_append.2 ⟨hf0.2,hnd'.2.1,fun b1 h1 b2 h2 e=>hnd'.2.2 b1 (hf0.1 b1 h1) b2 h2 e⟩⟩
  ·unfold Ow
   rw [if_pos hown]
   refine ⟨_,_,_,rfl,by simp [e2'],hnc, .inr ⟨w.heap.size,0,_,0,0,rfl,hnew,fun i hi=>by omega, ?_,zY++bz,by simp [hl0,hfl],by simp,fun i hi=>?_⟩⟩
   ·simp only [Array.size_append,List.size_toArray,size_zeroCells,hzl,ho1,hnl, ←Nat.add_mul]
    have:n+Dr.length+(nc - (n+Dr.length))=nc:=by omega
    rw [this]
    omega
   have hi':i<Bq.length+Dr.length:=by simpa using hi
   rw [Ih]
   have hcell:∀q,q<(olds++news).length→cellAt (hp (w.drew.alloc (.cells (olds.toArray++news.toArray++Builtin.zeroCells (vL kk).cells (nc - (n+Dr.length))) e))) w.heap.size (0+q)=(olds++news)[q]?:=by
    intro q hq
    unfold cellAt
    rw [hnew]
    simp only [Nat.zero_add]
    rw [Array.getElem?_append_left (by simpa using hq)]
    simp
   by_cases hi0:i<Bq.length
   ·rw [if_pos (by rw [hl0]; exact hi0)]
    have hx:(Bq++Dr)[i]'hi=Bq[i]:=List.getElem_append_left hi0
    refine ⟨oP olds kk.size i,fun j hj=>?_, ?_⟩
    ·rw [vF ho1 (by omega)] at hj
     have hlt2:(i+1) * kk.size≤n * kk.size:=Nat.mul_le_mul_right _ (by omega)
     rw [Nat.add_mul,Nat.one_mul] at hlt2
     rw [Nat.add_assoc,hcell _ (by rw [List.length_append,ho1]; omega),List.getElem?_append_left (by rw [ho1]; omega),nH hj]
    ·show Ow _ own ok kk ((Bq++Dr)[i]'hi) _ _
     rw [hx]
     exact bC (fun b' h=>hold b' (hok b' h).2) (fun _ h=>h) (fun b' hb'=>hold b' (hall b' (List.mem_append_left _ (vv hb')))) (hOe i hi0)
   ·have hi1:i - Bq.length<Dr.length:=by omega
    rw [if_neg (by rw [hl0]; exact hi0)]
    have hx:(Bq++Dr)[i]'hi=Dr[i - Bq.length]:=List.getElem_append_right (by omega)
    have hfe:i - zY.length=i - Bq.length:=by rw [hl0]
    rw [hfe]
    refine ⟨oP news kk.size (i - Bq.length),fun j hj=>?_, ?_⟩
    ·rw [vF hnl hi1] at hj
     have hlt2:(i - Bq.length+1) * kk.size≤Dr.length * kk.size:=Nat.mul_le_mul_right _ hi1
     rw [Nat.add_mul,Nat.one_mul] at hlt2
     have e4:i * kk.size=n * kk.size+(i - Bq.length) * kk.size:=by rw [←Nat.add_mul]; congr 1; omega
     rw [Nat.add_assoc,hcell _ (by rw [List.length_append,ho1,hnl]; omega),List.getElem?_append_right (by rw [ho1]; omega),nH hj]
     congr 1
     rw [ho1]
     omega
    ·show Ow _ own ok kk ((Bq++Dr)[i]'hi) _ _
     rw [hx]
     exact bC (fun b' h=>hold b' (hok b' h).2) (fun _ h=>h) (fun b' hb'=>hold b' (hall b' (List.mem_append_right _ (vv hb')))) (hel _ hi1)
end
end Go.Proofs.YtdknpknohipffaaGreat.Ow

/- The framework, part 38: what is appended. Own work of this seat. -/
namespace Go.Proofs.YtdknpknohipffaaGreat.Ow
open Go
variable [Fr]
section
variable {P:Program} {T:jF} {cx:Cx} {σ:St} {α:dN} {F:List Nat} {a:Act} {w:World}
theorem acL {k l:K} (e:k=l) {x:El k} {y:El l} (ey:y=e▸x) {h:Heap} {ok:Nat→Prop} {cs:List Value} (H:Vw h ok k x cs):Vw h ok l y cs:=by subst e; subst ey; exact H
theorem CL {k l:K} (e:k=l) {x:El k} {y:El l} (ey:y=e▸x) {h:Heap} {own:List TypeId} {ok:Nat→Prop} {cs:List Value} {fo:List Nat} (H:Ow h own ok k x cs fo):Ow h own ok l y cs fo:=by subst e; subst ey; exact H
theorem WW {u:TypeId} {size n c bb q:Nat} (hu:(∃e',P.underlying u=some (.slice e'))∨P.underlying u=some .string) (Q:Nat→List Value→Prop)
  (hE:∀i,i<n→∃ds,ds.length=size∧Cells (hp w) bb (q+i * size) ds∧(∀v∈ds,v.oneCell'=true)∧Q i ds) :
  ∃news,Src P w size u (.slice (some ⟨bb,q,none⟩) n c) n news∧∀i,i<n→Q i (oP news size i):=by
 have hrl:(sF (hp w) bb q (n * size)).length=n * size:=by simp [sF]
 have hseg:∀i,i<n→∃ds,oP (sF (hp w) bb q (n * size)) size i=ds∧ds.length=size∧Cells (hp w) bb (q+i * size) ds∧(∀v∈ds,v.oneCell'=true)∧Q i ds:=by
  intro i hi
  obtain ⟨ds,hdl,h1,h2,h3⟩:=hE i hi
  refine ⟨ds, ?_,hdl,h1,h2,h3⟩
  apply List.ext_getElem?
  intro j
  by_cases hj:j<size
  ·rw [nH hj]
   have hlt2:(i+1) * size≤n * size:=Nat.mul_le_mul_right _ (by omega)
   rw [Nat.add_mul,Nat.one_mul] at hlt2
   unfold sF
   rw [List.getElem?_map,List.getElem?_range (by omega)]
   have:=h1 j (by omega)
   simp only [Option.map_some]
   rw [←Nat.add_assoc,this,List.getElem?_eq_getElem (by omega)]
   rfl
  ·rw [List.getElem?_eq_none (by rw [vF hrl hi]; omega),List.getElem?_eq_none (by omega)]
 have hcell:∀j,j<n * size→cellAt (hp w) bb (q+j)=(sF (hp w) bb q (n * size))[j]?∧∀v,(sF (hp w) bb q (n * size))[j]?=some v→v.oneCell'=true:=by
  intro j hj
  have hk:0<size:=by
   rcases Nat.eq_zero_or_pos size with h | h
   ·rw [h] at hj; omega
   ·exact h
  have hi:j / size<n:=Nat.div_lt_of_lt_mul (by rw [Nat.mul_comm]; exact hj)
  have hm:j % size<size:=Nat.mod_lt _ hk
  obtain ⟨ds,s1,hdl,s2,s3,_⟩:=hseg _ hi
  have hjj:j / size * size+j % size=j:=by rw [Nat.mul_comm]; exact Nat.div_add_mod j size
  have h1:(sF (hp w) bb q (n * size))[j]?=ds[j % size]?:=by
   rw [←s1,nH hm,hjj]
  have h2:=s2 (j % size) (by omega)
  rw [Nat.add_assoc,hjj] at h2
  refine ⟨by rw [h2,h1],fun v hv=>?_⟩
  rw [h1] at hv
  exact s3 v (List.mem_of_getElem? hv)
 refine ⟨sF (hp w) bb q (n * size),FE hu hrl (fun v hv=>?_) (fun _=>⟨bb,q,rfl,fun i hi=>(hcell i (by rw [hrl] at hi; exact hi)).1⟩),fun i hi=>?_⟩
 ·obtain ⟨j,hj,rfl⟩:=List.mem_iff_getElem.1 hv
  exact (hcell j (by rw [hrl] at hj; exact hj)).2 _ (List.getElem?_eq_getElem hj)
 ·obtain ⟨ds,s1,_,_,_,s3⟩:=hseg i hi
  rw [s1]
  exact s3
theorem Ru {u e:TypeId} {kk:K} {h:Heap} {ok:Nat→Prop} {xs:List (El kk)} {v:Value} {cs:List Value} (hu:(∃e',P.underlying u=some (.slice e'))∨P.underlying u=some .string) (hg:gP kk=true)
  (hh:h=hp w) (hv:VC (.sl e kk) v cs) (hV:Vw h ok (.sl e kk) xs cs) :
  ∃news,Src P w kk.size u v xs.length news∧∀i (hi:i<xs.length),Vw h ok kk xs[i] (oP news kk.size i):=by
 subst hh
 obtain ⟨b,n,c,e1,e2,e3,e4,e5⟩:=GL hv hV
 subst e1
 subst e3
 by_cases h0:0<xs.length
 ·obtain ⟨bb,q,eb,hok,hel,hE⟩:=e5 h0
  subst eb
  obtain ⟨news,g1,g2⟩:=WW (P:=P) (w:=w) (n:=xs.length) (c:=c) (bb:=bb) (q:=q) hu (fun i ds=>∀hi:i<xs.length,Vw (hp w) ok kk xs[i] ds) (fun i hi=>by
   obtain ⟨ds,h1,h2⟩:=hE i hi
   exact ⟨ds,nC h2,h1,Qi hg h2,fun _=>h2⟩)
  exact ⟨news,g1,fun i hi=>g2 i hi hi⟩
 ·have hx:xs=[]:=List.eq_nil_of_length_eq_zero (by omega)
  subst hx
  exact ⟨[],FE hu (by simp) (by simp) (fun h=>by simp at h),fun i hi=>by simp at hi⟩
theorem abx {u e:TypeId} {kk:K} {own:List TypeId} {ok:Nat→Prop} {xs:List (El kk)} {v:Value} {cs:List Value} {fo:List Nat} (hu:(∃e',P.underlying u=some (.slice e'))∨P.underlying u=some .string) (hg:gP kk=true)
  (hv:VC (.sl e kk) v cs) (hown:ay e own=true) (hO:Ow (hp w) own ok (.sl e kk) xs cs fo) (hnd:fo.Nodup) :
  ∃news,Src P w kk.size u v xs.length news∧∃bz:List (List Nat),bz.length=xs.length∧bz.flatten.Nodup∧(∀b∈bz.flatten,b∈fo)∧∀i (hi:i<xs.length),Ow (hp w) own ok kk xs[i] (oP news kk.size i) (bz.getD i []):=by
 unfold Ow at hO
 rw [if_pos hown] at hO
 obtain ⟨b,n,c,e1,e2,e3,hO⟩:=hO
 obtain ⟨e5,_⟩:cs=[v]∧_:=hv
 rw [e1] at e5
 simp only [List.cons.injEq,and_true] at e5
 subst e5
 have e2':n=xs.length:=e2
 subst e2'
 rcases hO with ⟨hc0,hf0⟩ | ⟨bb,q,arr,lo,hi,ea,hbk,hf,hs,zY,hl0,hp0,hO⟩
 ·have hx:xs=[]:=List.eq_nil_of_length_eq_zero (by omega)
  subst hx
  exact ⟨[],FE hu (by simp) (by simp) (fun h=>by simp at h),[],rfl,by simp,by simp,fun i hi=>by simp at hi⟩
 ·subst ea
  have vK:=hp0.nodup hnd
  obtain ⟨news,g1,g2⟩:=WW (P:=P) (w:=w) (n:=xs.length) (c:=c) (bb:=bb) (q:=q) hu (fun i ds=>∀hi:i<xs.length,Ow (hp w) own ok kk xs[i] ds (zY.getD i [])) (fun i hi=>by
   obtain ⟨ds,h1,h2⟩:=hO i hi
   exact ⟨ds,dA h2,h1,Ut hg h2,fun _=>h2⟩)
  exact ⟨news,g1,zY,hl0,(List.nodup_cons.1 vK).2,fun b hb=>hp0.mem_iff.2 (by simp [hb]),fun i hi=>g2 i hi hi⟩
theorem Z7 {kk:K} {own own':List TypeId} {ok:Nat→Prop} {xs:List (El kk)} {news:List Value} {bz:List (List Nat)} (hfl:bz.length=xs.length) (hnd:bz.flatten.Nodup) (hsub:∀t∈kk.tys,ay t own'=true→ay t own=true)
  (hel:∀i (hi:i<xs.length),Ow (hp w) own ok kk xs[i] (oP news kk.size i) (bz.getD i [])) :
  ∃(EE:List (List Nat)) (F6:List Nat),EE.length=xs.length∧(EE.flatten++F6).Nodup∧(∀b∈EE.flatten++F6,b∈bz.flatten)∧
   ∀i (hi:i<xs.length),Ow (hp w) own' (fun b=>ok b∨b∈F6) kk xs[i] (oP news kk.size i) (EE.getD i []):=by
 suffices hs:∀(n:Nat),n≤xs.length→∃(EE:List (List Nat)) (F6:List Nat),EE.length=n∧(bz.take n).flatten.Perm (EE.flatten++F6)∧
   ∀i (_:i<n) (hi:i<xs.length),Ow (hp w) own' (fun b=>ok b∨b∈F6) kk xs[i] (oP news kk.size i) (EE.getD i []) by
  obtain ⟨EE,F6,h1,h2,h3⟩:=hs xs.length (Nat.le_refl _)
  rw [List.take_of_length_le (by omega)] at h2
  exact ⟨EE,F6,h1,h2.nodup hnd,fun b hb=>h2.mem_iff.2 hb,fun i hi=>h3 i hi hi⟩
 intro n
 induction n with
 | zero=>intro _; exact ⟨[],[],rfl,by simp,fun i hi=>by omega⟩
 | succ n ih=>
  intro hn
  obtain ⟨EE,F6,h1,h2,h3⟩:=ih (by omega)
  obtain ⟨f1,f2,p1,p2⟩:=yA (own':=own') hsub (hel n (by omega))
  refine ⟨EE++[f1],F6++f2,by simp [h1], ?_,fun i hi hi'=>?_⟩
  ·rw [List.take_succ_eq_append_getElem (by omega),List.flatten_append]
   have e:[bz[n]'(by omega)].flatten=bz.getD n []:=by rw [bZ (show n<bz.length by omega)]; simp
   rw [e]
   refine (h2.append p1).trans ?_
   simp only [List.flatten_append,List.append_assoc]
   refine List.Perm.append_left _ ?_
   simp only [List.flatten_cons,List.flatten_nil,List.append_nil]
   exact Ch
  ·rw [Ih,h1]
   by_cases h:i<n
   ·rw [if_pos h]
    exact bC (fun _ _=>rfl) (fun b hb=>hb.imp id (fun h=>by simp [h])) (fun _ _=>rfl) (h3 i h hi')
   ·have:i=n:=by omega
    subst this
    rw [if_neg (by omega)]
    simp only [Nat.sub_self]
    exact bC (fun _ _=>rfl) (fun b hb=>hb.imp id (fun h=>by simp [h])) (fun _ _=>rfl) p2
def Zz (P:Program) (cx:Cx) (σ:St) (α:dN) (F:List Nat) (a:Act) (w:World) (u e:TypeId) (kk:K) (v:Value) (s:yZ kk):Prop:=
 ∃dO F1 news,Rel cx (aC s.ws σ) dO F1 a w∧(∀q,q∉s.ws.flatMap Wr.xu→Same σ α (aC s.ws σ) dO q)∧(aC s.ws σ).slots=σ.slots∧(∀q,σ.roots q=none→(aC s.ws σ).roots q=none)∧(∀b∈F,b∈F1)∧
  fC (aC s.ws σ) s.tags∧Src P w kk.size u v s.xs.length news∧
  ∀own',(∀t∈kk.tys,ay t own'=true→t∉s.bad)→∃(bz:List (List Nat)) (F6:List Nat),bz.length=s.xs.length∧(bz.flatten++F6).Nodup∧(∀b∈bz.flatten++F6,b∈F1∧b∉F)∧
   ∀i (hi:i<s.xs.length),Ow (hp w) own' (fun b=>(iU cx (aC s.ws σ) dO F1 w s.tags b∧∃t∈s.bad,zi (hp w) b t)∨b∈F6) kk s.xs[i] (oP news kk.size i) (bz.getD i [])
theorem SH {n i:Nat}:(List.replicate n ([]:List Nat)).getD i []=[]:=by
 simp only [List.getD_eq_getElem?_getD,List.getElem?_replicate]
 split <;> rfl
theorem zT (H:Rel cx σ α F a w) {u e:TypeId} {kk:K} {v:Value} {s:yZ kk} (hws:s.ws=[]) (zZ:fC σ s.tags) {news:List Value} (hS:Src P w kk.size u v s.xs.length news)
  (hV:∀i (hi:i<s.xs.length),Vw (hp w) (iU cx σ α F w s.tags) kk s.xs[i] (oP news kk.size i)) (hbad:s.bad=kk.tys∨kk.flat=true∨s.xs=[]):Zz P cx σ α F a w u e kk v s:=by
 refine ⟨α,F,news,by rw [hws]; exact H,by rw [hws]; exact fun q _=>ny ..,by rw [hws]; rfl,by rw [hws]; exact fun q h=>h,fun _ h=>h,by rw [hws]; exact zZ,hS,fun own' ho=>?_⟩
 refine ⟨List.replicate s.xs.length [],[],by simp,by simp,by simp,fun i hi=>?_⟩
 rw [SH,hws]
 rcases hbad with h | h | h
 ·refine bC (fun _ _=>rfl) (fun b hb=>.inl (h▸hb)) (fun _ _=>rfl) (tL (fun t ht=>?_) (Me kk.tys (fun _ h=>h) (hV i hi)))
  cases hm:ay t own' with
  | false=>rfl
  | true=>exact absurd (h▸ht) (ho t ht hm)
 ·exact tL (fun t ht=>by rw [BS h] at ht; simp at ht) (je h (hV i hi))
 ·rw [h] at hi; simp at hi
theorem TW {A:Type} {z:A} (H:Rel cx σ α F a w) {u e:TypeId} {kk:K} {x:AV} {v:Value} {k:yZ kk→Prog A} (hu:(∃e',P.underlying u=some (.slice e'))∨P.underlying u=some .string) (hg:gP kk=true)
  (hx:bH cx σ α F w x v) (hw:wD σ x) (h:(abN e kk x k).ends σ z):∃s:yZ kk,(k s).ends σ z∧Zz P cx σ α F a w u e kk v s:=by
 have DD:(yj x fun k' y tags=>match bQ k' (.sl e kk) y with
   | some xs=>k ⟨xs,kk.tys,bif kk.flat then [] else tags,[],false,[]⟩
   | none=>.fail).ends σ z→∃s:yZ kk,(k s).ends σ z∧Zz P cx σ α F a w u e kk v s:=by
  intro h
  obtain ⟨k',y,Tg,cs,h1,h2,h3,h4⟩:=yH H hx hw h
  cases hc:bQ k' (.sl e kk) y with
  | none=>rw [hc] at h4; exact h4.elim
  | some xs=>
   rw [hc] at h4
   obtain ⟨ek,ey⟩:=bK hc
   subst ek
   simp only at ey
   subst ey
   obtain ⟨news,g1,g2⟩:=Ru (P:=P) (u:=u) (xs:=xs) hu hg rfl h1 h2
   cases hf:kk.flat with
   | true=>
    rw [hf] at h4
    exact ⟨_,h4,zT H rfl (fun t ht=>by simp at ht) g1 (fun i hi=>je hf (g2 i hi)) (.inr (.inl hf))⟩
   | false=>
    rw [hf] at h4
    exact ⟨_,h4,zT H rfl h3 g1 g2 (.inl rfl)⟩
 cases x with
 | val k1 y Tg=>
  cases k1 with
  | str=>
   simp only [abN] at h
   cases h1:bQ (.int .u8) kk (0:Int) with
   | none=>rw [h1] at h; exact h.elim
   | some q=>
    rw [h1] at h
    obtain ⟨ek,_⟩:=bK h1
    subst ek
    simp only at h
    cases h2:bQ (.sl e (.int .u8)) (.sl e (.int .u8)) (show List Int from y) with
    | none=>rw [h2] at h; exact h.elim
    | some xs=>
     rw [h2] at h
     obtain ⟨_,ey⟩:=bK h2
     simp only at ey
     subst ey
     obtain ⟨B,e1,e2⟩:=A7 hx
     subst e1
     have hlen:(bytesOf B).length=B.size:=nJ B
     have hS:=VH (P:=P) (w:=w) (u:=u) (B:=B) hu
     subst e2
     refine ⟨_,h,zT H rfl (fun t ht=>by simp at ht) (news:=B.data.toList.map fun b=>.int .u8 b.toNat) ?_ (fun i hi=>?_) (.inr (.inl rfl))⟩
     ·show Src P w 1 u _ (bytesOf B).length _
      rw [hlen]
      exact hS
     ·have hi':i<B.size:=by
       have:i<(bytesOf B).length:=hi
       rw [hlen] at this; exact this
      have hseg:oP (B.data.toList.map fun b=>Value.int .u8 b.toNat) (K.int .u8).size i=[.int .u8 (B.data.toList[i]'(by simpa using hi')).toNat]:=by
       apply List.ext_getElem?
       intro j
       show (oP (B.data.toList.map fun b=>Value.int .u8 b.toNat) 1 i)[j]?=_
       cases j with
       | zero=>rw [nH (by omega)]; simp [hi']
       | succ j=>rw [List.getElem?_eq_none (by rw [vF (m:=B.size) (by simp) hi']; omega)]; simp
      rw [hseg]
      have he:(bytesOf B)[i]'hi=((B.data.toList[i]'(by simpa using hi')).toNat:Int):=by simp [bytesOf]
      refine ⟨?_, ?_⟩
      ·show [Value.int .u8 _]=[Value.int .u8 _]
       congr 2
       exact he.symm
      ·show KX .u8 _
       have:KX .u8 ((B.data.toList[i]'(by simpa using hi')).toNat:Int):=⟨by omega,by have:=(B.data.toList[i]'(by simpa using hi')).toNat_lt; omega⟩
       exact he▸this
  | _=>exact DD h
 | iZ=>
  obtain ⟨b,rfl⟩:=hx
  exact ⟨_,h,zT H rfl (fun t ht=>by simp at ht) (news:=[]) (FE hu (by simp) (by simp) (fun h=>by simp at h)) (fun i hi=>by simp at hi) (.inr (.inr rfl))⟩
 | ref r g=>
  simp only [abN] at h
  obtain ⟨R,hr,hv,h⟩:=dh h
  rcases aB h with ⟨hg1,h⟩ | ⟨_,h⟩
  ·have hgg:=Nat.eq_of_beq_eq_true hg1
   obtain ⟨hkind,JF⟩:=hx R hr hgg
   cases hc:bQ R.k (.sl e kk) R.x with
   | none=>rw [hc] at h; exact h.elim
   | some xs=>
    rw [hc] at h
    simp only at h
    obtain ⟨ek,ey⟩:=bK hc
    have K:=H.roots r R hr
    have hO:=K.ow hv
    have agx:=qK H hr hO (fun b hb=>hb)
    cases hf:kk.flat with
    | true=>
     rw [hf] at h
     have M8:Vw (hp w) (iU cx σ α F w (R.out r R.k)) (.sl e kk) xs (α.hdr r):=acL ek ey agx
     obtain ⟨news,g1,g2⟩:=Ru (P:=P) (u:=u) (xs:=xs) hu hg rfl (ek▸JF) M8
     exact ⟨_,h,zT H rfl (fun t ht=>by simp at ht) g1 (fun i hi=>je hf (g2 i hi)) (.inr (.inl hf))⟩
    | false=>
     rw [hf] at h
     simp only [cond_false] at h
     rcases aB h with ⟨_,h⟩ | ⟨_,h⟩
     ·exact h.elim
     ·obtain ⟨H1,T1,hh,hcl⟩:=kill H hr hkind hv
      have X0:Ow (hp w) R.own (iU cx (az σ r cz) (jV α r) (α.fo r++F) w R.tags) (.sl e kk) xs (α.hdr r) (α.fo r):=CL ek ey (hh.ow hcl)
      have ajV:VC (.sl e kk) v (α.hdr r):=ek▸JF
      have hsame:∀q,q∉([Wr.r r none]:List Wr).flatMap Wr.xu→Same σ α (az σ r cz) (jV α r) q:=fun q hq=>iw (by simpa [Wr.xu] using hq)
      have hnone:∀q,σ.roots q=none→(az σ r cz).roots q=none:=fun q hq=>by
       rw [cu]
       ·exact hq
       ·intro e; rw [e,hr.1] at hq; simp at hq
      have OH:∀b∈α.fo r,b∉F:=fun b hb=>H.jH r R hr b (List.mem_append_right _ hb)
      cases hme:ay e R.own with
      | true=>
       obtain ⟨news,g1,bz,g2,g3,g4,g5⟩:=abx (P:=P) (u:=u) hu hg ajV hme X0 hh.nd
       rw [hme] at h
       simp only [cond_true,Bool.true_and] at h
       refine ⟨_,h,jV α r,α.fo r++F,news,H1,hsame,rfl,hnone,fun b hb=>List.mem_append_right _ hb, ?_,g1,fun own' ho=>?_⟩
       ·intro t ht
        simp only at ht
        cases hal:(kk.tys.all fun t=>ay t R.own) with
        | true=>rw [hal] at ht; simp at ht
        | false=>rw [hal] at ht; exact hh.wt t ht
       ·simp only at ho ⊢
        have g5':∀i (hi:i<List.length xs),Ow (hp w) R.own (fun b=>iU cx (az σ r cz) (jV α r) (α.fo r++F) w (bif (kk.tys.all fun t=>ay t R.own) then [] else R.tags) b∧∃t∈aU R.own kk,zi (hp w) b t) kk xs[i] (oP news kk.size i) (bz.getD i []):=by
         intro i hi
         cases hal:(kk.tys.all fun t=>ay t R.own) with
         | false=>exact wB _ (fun _ h=>h) (g5 i hi)
         | true=>exact gQ (dz (kU hal)) (g5 i hi)
        obtain ⟨EE,F6,f1,f2,f3,f4⟩:=Z7 (own':=own') g2 g3 (fun t ht hm=>(Fp (own:=R.own) ht).resolve_left (fun hx=>ho t ht hm hx)) g5'
        exact ⟨EE,F6,f1,f2,fun b hb=>⟨List.mem_append_left _ (g4 b (f3 b hb)),OH b (g4 b (f3 b hb))⟩,f4⟩
      | false=>
       have hO2:=X0
       unfold Ow at hO2
       rw [hme] at hO2 h
       simp only [Bool.false_eq_true,if_false] at hO2
       simp only [cond_false,Bool.false_and] at h
       obtain ⟨news,g1,g2⟩:=Ru (P:=P) (u:=u) (xs:=xs) hu hg rfl ajV hO2.2
       refine ⟨_,h,jV α r,α.fo r++F,news,H1,hsame,rfl,hnone,fun b hb=>List.mem_append_right _ hb,hh.wt,g1,fun own' ho=>?_⟩
       refine ⟨List.replicate (List.length xs) [],[],by simp,by simp,by simp,fun i hi=>?_⟩
       rw [SH]
       refine bC (fun _ _=>rfl) (fun b hb=>.inl hb) (fun _ _=>rfl) (tL (fun t ht=>?_) (Me kk.tys (fun _ h=>h) (g2 i hi)))
       cases hm:ay t own' with
       | false=>rfl
       | true=>exact absurd ht (ho t ht hm)
  ·exact h.elim
 | zW r p n=>exact DD h
 | undef=>exact DD h
 | ptr r p n=>exact DD h
 | jl bt k y T=>exact DD h
 | MF _ _ _ _=>exact DD h
 | D7 _=>exact DD h
 | part _ _ _ _ _=>exact DD h
 | Bl _ _ _ _=>exact DD h
 | app _ _ _ _=>exact DD h
 | vB=>exact DD h
 | fn f cs=>exact DD h
end
end Go.Proofs.YtdknpknohipffaaGreat.Ow

/- The framework, part 39: append, the operation. Own work of this seat. -/
namespace Go.Proofs.YtdknpknohipffaaGreat.Ow
open Go
variable [Fr]
section
variable {P:Program} {T:jF} {cx:Cx} {σ:St} {α:dN} {F:List Nat} {a:Act} {w:World} {o:Oper} {d:Nat} {ws:List Wr} {r:Nat} {R:Root}
theorem akO (H:Rel cx σ α F a w) (hr:aR σ r R) (hv:bq σ R) (hk:R.kind=.anon) {R':Root} (hk':R'.kind=.anon) {e:TypeId} (hw:R'.w=e :: R.w) (hh:R'.h=tK :: e :: R.h) (hg:R'.g=R.g+1) (hev:R'.ew=R.ew∧R'.eh=R.eh)
  (zZ:fC σ R'.tags∧∀n,(r,n)∉R'.tags) {w':World} (hos:w'.os=w.os∧w'.tape=w.tape∧w'.output=w.output) (hsize:w.heap.size≤w'.heap.size) {dK:List Nat}
  (Ug:∀b,b<w.heap.size→hp w' b≠hp w b→b∈F∨(b∈α.fo r∧uo (hp w) b=some e)) (akJ:∀b∈dK,b∈α.fo r∨b∈F∨(w.heap.size≤b∧b<w'.heap.size)) (hnd:dK.Nodup)
  {hdr':List Value} (hlen:hdr'.length=R'.k.size) (how:Ow (hp w') R'.own (iU cx (az σ r R') (aJ α r (α.loc r) hdr' dK) [] w' R'.tags) R'.k R'.x hdr' dK) {v':Value} (hv':VC R'.k v' hdr') :
  Rel cx (az σ r R') (aJ α r (α.loc r) hdr' dK) [] a w'∧bH cx (az σ r R') (aJ α r (α.loc r) hdr' dK) [] w' (.ref r R'.g) v':=by
 have hblk:blk α R r=α.fo r:=by simp [blk,eD,hk]
 have hd':R'.aZ=false:=by simp [Root.aZ,hk']
 have T1:Es cx σ α F w r R R' dK [] w' [e] [tK,e]:=by
  refine ⟨.inr ⟨hw,hh,by omega,hk'.trans hk.symm,fun h=>by rw [hk] at h; simp at h, .inl (by simp)⟩,zZ,hos,hsize,fun b hb hne=>?_,fun _ b hb=>?_,fun b hb=>by simp at hb,List.nodup_nil,fun _ b _ h=>by simp at h,fun j pi b o n hj hb hrj hne=>?_,fun _=>hev⟩
  ·rcases Ug b hb hne with h | ⟨h1,h2⟩
   ·exact .inl h
   ·exact .inr ⟨by rw [hblk]; exact h1, .inr (.inl ⟨e,by simp,h2⟩)⟩
  ·rw [gY hk'] at hb
   rw [hblk]
   exact akJ b hb
  ·obtain ⟨Q,hQ,hkq,_,_⟩:=H.oN j pi b o n hj hb
   have hQR:Q=R:=by have:=hQ.1; rw [←hrj,hr.1] at this; simpa using this.symm
   rw [hQR,hk] at hkq
   simp at hkq
 refine ⟨T1.rel H hr (fun _=>⟨fun _=>how,hlen,fun b o hb=>by rw [Cv hk'] at hb; simp at hb,by rw [gY hk']; exact hnd⟩) ?_ ?_, ?_⟩
 ·intro _ p n v hn hold
  refine ⟨hold.1,fun Q hQ hvQ hcl hty hs=>?_⟩
  rw [aK] at hQ
  simp only [Option.some.injEq] at hQ
  subst hQ
  cases p with
  | nil=>
   obtain ⟨_,cs,b,o,h1,_⟩:=hold.2 R hr.1 hv (by simp [clean,eB,ay]) (fun t ht=>by simp [ah] at ht) rfl
   simp only [bF,Option.some.injEq,Prod.mk.injEq] at h1
   have:eD α R r=none:=by simp [eD,hk]
   rw [this] at h1
   simp at h1
  | cons s p=>
   have e1:R'.h=[tK,e]++R.h:=hh
   rw [e1,ru hn] at hcl
   exact absurd (show tK∈eB (s :: p) R'.k from List.mem_cons_self) (hcl.1 tK (by simp))
 ·intro _ g v hgl hold Q hQ hgQ
  obtain ⟨rfl,_⟩:=eU hQ
  omega
 ·intro Q hQ _
  obtain ⟨rfl,_⟩:=eU hQ
  refine ⟨hk', ?_⟩
  simp only [aJ,upd_same]
  exact hv'
theorem WM (H:Rel cx σ α F a w) {w':World} (hs:w.heap.size≤w'.heap.size) {Tg Tg':List Tag} {dK:List Nat} {b:Nat} (hb:iU cx σ α F w Tg b∨b∈F) (ht:∀t∈Tg,t∈Tg') (hfo:b∉dK):iU cx σ α dK w' Tg' b:=by
 rcases hb with hb | hb
 ·exact ⟨Nat.lt_of_lt_of_le hb.1 hs,hfo,hb.2.2.1,fun q Q hq hbq=>(hb.2.2.2.1 q Q hq hbq).imp fun n hn=>ht _ hn,fun h0=>(hb.2.2.2.2 h0).imp (fun ⟨j,n,h1,h2⟩=>⟨j,n,ht _ h1,h2⟩) id⟩
 ·have hm:=H.fl b hb
  refine ⟨Nat.lt_of_lt_of_le hm.1 hs,hfo,wm H hb,fun q Q hq hbq=>absurd hb (H.jH q Q hq b hbq),fun h0=>?_⟩
  rcases hm.2 with h | ⟨j,pi,h1,h2⟩
  ·omega
  ·exact .inr ⟨j,pi,h1,h2⟩
theorem oC {c:Call} (ho:o.op=.call c) (hb:c.callee=.builtin .append) {x y:Operand} (ha:c.args.toList=[x,y]) {t u:TypeId} (ht:c.argTypes[0]?=some t) (hu:c.argTypes[1]?=some u) {v':Value} {w':World}
  (h:(Builtin.append_ #[t,u] o.type #[a.eval x,a.eval y]).run P w=.ok v' w'):(execOp a.eval o).run P w=.ok (.value v') w':=by
 obtain ⟨cc,hcc⟩:=jK (P:=P) (a:=a) (w:=w) ho hb
 rw [hcc]
 have h1:c.args.map a.eval=#[a.eval x,a.eval y]:=by
  apply Array.ext'
  rw [Array.toList_map,ha]
  rfl
 have h2:Builtin.append_ c.argTypes o.type #[a.eval x,a.eval y]=Builtin.append_ #[t,u] o.type #[a.eval x,a.eval y]:=by
  unfold Builtin.append_
  simp only [ht,hu]
  rfl
 rw [h1]
 simp only [builtin,Sem.run_bind,h2,h,Result.andThen_ok,Sem.run_pure]
end
end Go.Proofs.YtdknpknohipffaaGreat.Ow

/- The framework, part 40: did_append. Own work of this seat. -/
namespace Go.Proofs.YtdknpknohipffaaGreat.Ow
open Go
variable [Fr]
section
variable {P:Program} {T:jF} {cx:Cx} {σ:St} {α:dN} {F:List Nat} {a:Act} {w:World} {o:Oper} {d:Nat} {ws:List Wr}
theorem Mi (hT:fq P T) {σ1:St} {dO:dN} {F1:List Nat} (H1:Rel cx σ1 dO F1 a w) (hd:o.dst=some d) (hdn:d<cx.nt) {c:Call} (ho:o.op=.call c) (hcb:c.callee=.builtin .append) {x y:Operand} (ha:c.args.toList=[x,y])
  {t u e:TypeId} {kk:K} (ht0:c.argTypes[0]?=some t) (hu0:c.argTypes[1]?=some u) (hty:T.ty t=some (.sl e kk)) (hn1:σ1.roots (bE d 0)=none)
  {own:List TypeId} {tags T1 T2:List Tag} {bad:List TypeId} {Bq Dr:List (El kk)} {v0:Value} {Bg fd:List Nat} {bz:List (List Nat)} {F6:List Nat} {news:List Value} (hv0:a.eval x=v0) (hS:Src P w kk.size u (a.eval y) Dr.length news)
  (hown:ay e own=true) (hob:∀t,ay t own=true→t∉bad) (hwt:fC σ1 tags) (ht1:∀t∈T1,t∈tags) (ht2:∀t∈T2,t∈tags)
  (hO:Ow (hp w) own (fun b=>iU cx σ1 dO F1 w T1 b∨b∈fd) (.sl e kk) Bq [v0] Bg) (hF0:∀b∈Bg++fd,b∈F1) (vK:(Bg++fd).Nodup) (hF1:∀b∈bz.flatten++F6,b∈F1∧b∉Bg++fd) (Ij:(bz.flatten++F6).Nodup)
  (hfl:bz.length=Dr.length) (hel:∀i (hi:i<Dr.length),Ow (hp w) own (fun b=>((iU cx σ1 dO F1 w T2 b∨b∈F1)∧∃t∈bad,zi (hp w) b t)∨b∈F6) kk Dr[i] (oP news kk.size i) (bz.getD i []))
  (hb:(Bq.length+Dr.length) * T.bytes e≤140737488355328) (kp:Bool) :
  vJ P cx o a w (aC [.r (bE d 0) (some (aP (.sl e kk) (Bq++Dr) own tags .anon kp)), .s d (.one (.ref (bE d 0) 0))] σ1):=by
 have ht:=hT.ty t _ hty
 have n0:=List.nodup_append.1 vK
 have n1:=List.nodup_append.1 Ij
 have hlt:∀b∈F1,b<w.heap.size:=fun b h=>(H1.fl b h).1
 have agw:=xy hO
 have hnot:∀b,((iU cx σ1 dO F1 w T2 b∨b∈F1)∧∃t∈bad,zi (hp w) b t)→b∉Bg:=by
  rintro b ⟨_,t,h1,h2⟩ hb0
  obtain ⟨e',_,h3,h4⟩:=agw b hb0
  have h2:=H1.VP (H1.fl b (hF0 b (List.mem_append_left _ hb0))) h2
  rw [h2] at h4
  simp only [Option.some.injEq] at h4
  subst h4
  exact hob _ h3 h1
 let ok:Nat→Prop:=fun b=>(iU cx σ1 dO F1 w T1 b∨b∈fd)∨((iU cx σ1 dO F1 w T2 b∨b∈F1)∧∃t∈bad,zi (hp w) b t)∨b∈F6
 obtain ⟨v',w',dK,hrun,hos,hsz,Na,hfo,QL,M8⟩:=OZ (w:=w) (ok:=ok) (u:=u) (ty:=o.type) (x:=a.eval y) (bz:=bz) ht (bC (fun _ _=>rfl) (fun b h=>.inl h) (fun _ _=>rfl) hO) hown
  (List.nodup_append.2 ⟨n0.1,n1.1,fun b1 h1 b2 h2 e=>(hF1 b2 (List.mem_append_left _ h2)).2 (List.mem_append_left _ (e▸h1))⟩)
  (fun b hb=>by
   rcases hb with (h | h) | h | h
   ·exact ⟨fun h0=>h.2.1 (hF0 b (List.mem_append_left _ h0)),h.1⟩
   ·exact ⟨fun h0=>n0.2.2 b h0 b h rfl,hlt b (hF0 b (List.mem_append_right _ h))⟩
   ·refine ⟨hnot b h, ?_⟩
    rcases h.1 with h | h
    ·exact h.1
    ·exact hlt b h
   ·exact ⟨fun h0=>(hF1 b (List.mem_append_right _ h)).2 (List.mem_append_left _ h0),hlt b (hF1 b (List.mem_append_right _ h)).1⟩)
  (fun b hb=>by
   rcases List.mem_append.1 hb with h | h
   ·exact hlt b (hF0 b (List.mem_append_left _ h))
   ·exact hlt b (hF1 b (List.mem_append_left _ h)).1)
  hS hfl (fun i hi=>bC (fun _ _=>rfl) (fun b h=>.inr h) (fun _ _=>rfl) (hel i hi)) hb
 have OH:∀b∈dK,b∈F1∨(w.heap.size≤b∧b<w'.heap.size):=by
  intro b hb
  rcases hfo b hb with h | h | h
  ·exact .inl (hF0 b (List.mem_append_left _ h))
  ·exact .inl (hF1 b (List.mem_append_left _ h)).1
  ·exact .inr h
 have T2':=Iu (w':=w') (F':=dK) H1 hos hsz (fun b h1 h2=>hF0 b (List.mem_append_left _ (Na b h1 h2).1)) OH QL
 have H2:=H1.mem T2'
 have JF:VC (.sl e kk) v' [v']:=⟨rfl,by
  unfold Ow at M8
  rw [if_pos hown] at M8
  obtain ⟨b,n,c,e1,_⟩:=M8
  simp only [List.cons.injEq,and_true] at e1
  rw [e1]; simp⟩
 have hok:∀b,ok b→iU cx σ1 dO dK w' tags b:=by
  intro b hb
  have hnew:b<w.heap.size→¬(w.heap.size≤b∧b<w'.heap.size):=fun h=>by omega
  rcases hb with (h | h) | h | h
  ·refine WM H1 hsz (.inl h) ht1 (fun hb=>?_)
   rcases hfo b hb with h2 | h2 | h2
   ·exact h.2.1 (hF0 b (List.mem_append_left _ h2))
   ·exact h.2.1 (hF1 b (List.mem_append_left _ h2)).1
   ·exact hnew h.1 h2
  ·have hF:=hF0 b (List.mem_append_right _ h)
   refine WM H1 hsz (Tg:=[]) (.inr hF) (by simp) (fun hb=>?_)
   rcases hfo b hb with h2 | h2 | h2
   ·exact n0.2.2 b h2 b h rfl
   ·exact (hF1 b (List.mem_append_left _ h2)).2 (List.mem_append_right _ h)
   ·exact hnew (hlt b hF) h2
  ·refine WM H1 hsz h.1 ht2 (fun hb=>?_)
   have hlt':b<w.heap.size:=by
    rcases h.1 with h | h
    ·exact h.1
    ·exact hlt b h
   rcases hfo b hb with h2 | h2 | h2
   ·exact hnot b h h2
   ·obtain ⟨l,hl,hbl⟩:=List.mem_flatten.1 h2
    obtain ⟨i,hi,rfl⟩:=List.mem_iff_getElem.1 hl
    have:=xy (hel i (by omega)) b (by rw [bZ hi]; exact hbl)
    obtain ⟨e',_,h3,h4⟩:=this
    obtain ⟨_,t,h5,h6⟩:=h
    have h6:=H1.VP (H1.fl b (hF1 b (List.mem_append_left _ h2)).1) h6
    rw [h6] at h4
    simp only [Option.some.injEq] at h4
    subst h4
    exact hob _ h3 h5
   ·exact hnew hlt' h2
  ·have hF:=(hF1 b (List.mem_append_right _ h)).1
   refine WM H1 hsz (Tg:=[]) (.inr hF) (by simp) (fun hb=>?_)
   rcases hfo b hb with h2 | h2 | h2
   ·exact (hF1 b (List.mem_append_right _ h)).2 (List.mem_append_left _ h2)
   ·exact n1.2.2 b h2 b h rfl
   ·exact hnew (hlt b hF) h2
 obtain ⟨J6,k1,k2⟩:=Eu (k:=.sl e kk) (x:=Bq++Dr) (own:=own) (tags:=tags) (v:=v') (cs:=[v']) (fo:=dK) (r:=bE d 0) (F':=[]) H2 hn1 (gF d 0)
  (fun b hb=>hb) QL hwt (fun b hb=>by simp at hb) List.nodup_nil rfl (fun _=>bC (fun _ _=>rfl) (fun b hb=>.inl (hok b hb)) (fun _ _=>rfl) M8) JF kp
 exact iY (x:=.one (.ref (bE d 0) 0)) k1 hd hdn (oC ho hcb ha ht0 hu0 (by rw [hv0]; exact hrun)) k2 ⟨_,aK .., .inr (Nat.zero_le _)⟩
theorem J9 {ws:List Wr} {tags:List Tag} (h:Ew ws tags=true):∀t∈tags,t.1∉ws.flatMap Wr.xu:=fun t ht=>by
 have:=List.all_eq_true.1 h t ht
 simpa [aV] using this
theorem TC {ws:List Wr} {r:Nat} (h:(ws.all fun w=>!w.loc.beq (.r r))=true):r∉ws.flatMap Wr.xu:=by
 intro hm
 obtain ⟨wr,h1,h2⟩:=List.mem_flatMap.1 hm
 have:=List.all_eq_true.1 h wr h1
 cases wr with
 | s n x=>simp [Wr.xu] at h2
 | r n x=>
  simp only [Wr.xu,List.mem_singleton] at h2
  subst h2
  simp [Wr.loc,Loc.beq] at this
theorem did_append (hT:fq P T) (H:Rel cx σ α F a w) (hd:o.dst=some d) (hdn:d<cx.nt) {c:Call} (ho:o.op=.call c) (hcb:c.callee=.builtin .append)
  (h:(j4 c.args.toList fun
   | [a,b]=>match c.argTypes[0]?,(c.argTypes[1]?).bind T.ty with
    | some t,some (.sl _ _)=>Fu T d t a b fun ws=>(.ret ws:Prog (List Wr))
    | some t,some .str=>Fu T d t a b fun ws=>(.ret ws:Prog (List Wr))
    | _,_=>.fail
   | _=>.fail).ends σ ws):vJ P cx o a w (aC ws σ):=by
 obtain ⟨vs,h1,h2,h⟩:=jv H h
 obtain ⟨u,v,x,y,t,ut,hvs,ha,hx,hy,ht0,hu0,aoU,h9⟩:∃u v x y t ut,vs=[u,v]∧c.args.toList=[x,y]∧bH cx σ α F w u (a.eval x)∧bH cx σ α F w v (a.eval y)∧c.argTypes[0]?=some t∧c.argTypes[1]?=some ut∧
   ((∃e',P.underlying ut=some (.slice e'))∨P.underlying ut=some .string)∧(Fu T d t u v fun ws=>(.ret ws:Prog (List Wr))).ends σ ws:=by
  split at h
  ·rename_i u v
   have hargs:∃x y,c.args.toList=[x,y]∧bH cx σ α F w u (a.eval x)∧bH cx σ α F w v (a.eval y):=by
    revert h1
    generalize c.args.toList=l
    intro h1
    cases l with
    | nil=>exact h1.elim
    | cons x l=>
     cases l with
     | nil=>exact h1.2.elim
     | cons y l=>
      cases l with
      | nil=>exact ⟨x,y,rfl,h1.1,h1.2.1⟩
      | cons _ _=>exact h1.2.2.elim
   obtain ⟨x,y,e1,e2,e3⟩:=hargs
   split at h
   ·rename_i t e k e4 e5
    obtain ⟨ut,e6,e7⟩:=x9 hT e5
    exact ⟨u,v,x,y,t,ut,rfl,e1,e2,e3,e4,e6, .inl ⟨_,e7.sl.1⟩,h⟩
   ·rename_i t e4 e5
    obtain ⟨ut,e6,e7⟩:=x9 hT e5
    exact ⟨u,v,x,y,t,ut,rfl,e1,e2,e3,e4,e6, .inr e7.str,h⟩
   ·exact h.elim
  ·exact h.elim
 clear h
 have h:=h9
 clear h9
 subst hvs
 have hwu:=h2 u (by simp)
 have hwv:=h2 v (by simp)
 unfold Fu at h
 cases hty:T.ty t with
 | none=>rw [hty] at h; exact h.elim
 | some k0=>
  rw [hty] at h
  cases k0 with
  | sl e kk=>
   have ht:=hT.ty t _ hty
   simp only at h
   obtain ⟨s,h8,dO,F1,news,H1,hsame,aoQ,hnone,hFF,hwt,hS,hels⟩:=TW (P:=P) (u:=ut) H aoU ht.sl.2.1.gP hy hwv h
   clear h
   rcases aB h8 with ⟨_,h⟩ | ⟨hbad,h⟩
   ·exact h.elim
   clear h8
   cases u with
   | iZ=>
    obtain ⟨b0,hv0⟩:=hx
    obtain ⟨hb,h⟩:=h
    obtain ⟨hn,h⟩:=gZ h
    rw [aD h,dD]
    have ho1:ay e (e :: bI kk.tys s.bad)=true:=aL.2 (by simp)
    have ho2:∀t,ay t (e :: bI kk.tys s.bad)=true→t∉s.bad:=fun t ht=>by
     rcases List.mem_cons.1 (aL.1 ht) with h | h
     ·rw [h]; exact aV.1 hbad
     ·exact (dI.1 (aL.2 h)).2
    obtain ⟨bz,F6,f1,f2,f3,f4⟩:=hels (e :: bI kk.tys s.bad) (fun t _ ht=>ho2 t ht)
    exact Mi hT H1 hd hdn ho hcb ha ht0 hu0 hty (hnone _ hn) (Bq:=[]) (v0:=.slice b0 0 0) (Bg:=[]) (fd:=[]) (T1:=[]) (T2:=s.tags) (bad:=s.bad) hv0 hS ho1 ho2 hwt (by simp) (fun _ h=>h) ER (by simp) (by simp)
     (fun b hb=>⟨(f3 b hb).1,by simp⟩) f2 f1 (fun i hi=>bC (fun _ _=>rfl) (fun b hb=>hb.imp (fun h=>⟨.inl h.1,h.2⟩) id) (fun _ _=>rfl) (f4 i hi)) (by simpa using hb) s.keep
   | zW r p n=>
    obtain ⟨R,hr,hv,h⟩:=dh h
    rcases aB h with ⟨hc,h⟩ | ⟨_,h⟩
    ·simp only [Bool.and_eq_true] at hc
     obtain ⟨⟨⟨⟨⟨⟨⟨c1,c2⟩,c3⟩,c4⟩,c5⟩,c6⟩,c7⟩,c8⟩:=hc
     cases hg:aT p R.k R.x with
     | none=>rw [hg] at h; exact h.elim
     | some dd=>
      rw [hg] at h
      simp only at h
      cases hck:bQ dd.1 (.sl e kk) dd.2 with
      | none=>rw [hck] at h; exact h.elim
      | some xs=>
       rw [hck] at h
       cases hga:Ki R p dd with
       | none=>rw [hga] at h; exact h.elim
       | some R'=>
        rw [hga] at h
        simp only at h
        obtain ⟨hb,h⟩:=h
        obtain ⟨hn,h⟩:=gZ h
        rw [aD h,dD]
        obtain ⟨ek,ey⟩:=bK hck
        unfold Ki at hga
        cases hz:eF p R.k R.x (xD dd) with
        | none=>rw [hz] at hga; simp at hga
        | some z=>
         rw [hz] at hga
         simp only [Option.some.injEq] at hga
         have eR:R'=sK R dd z:=by rw [←hga]; rfl
         have hSr:=hsame r (TC c7)
         have hr1:=(hSr.live R).2 hr
         have hv1:bq (aC s.ws σ) R:=⟨hv.1,by rw [fu (fun t ht=>(hsame t.1 (J9 c8 t ht)).root)]; exact hv.2⟩
         obtain ⟨fT,hown,cs0,wh0,hn0,af5⟩:=hx R hr.1 hv (Nat.eq_of_beq_eq_true c1) dd hg
         have hpv:p≠[]∨∃t,R.kind=.var t:=by
          rw [Bool.or_eq_true] at c3
          rcases c3 with h | h
          ·exact .inl (by simpa using h)
          ·refine .inr ?_
           unfold Root.isVar at h
           cases hk:R.kind with
           | var t=>exact ⟨t,rfl⟩
           | _=>rw [hk] at h; simp at h
         obtain ⟨cs1,o7,gp,rest,g1,g2,g3,g4,g5,g6⟩:=gap H1 hr1 hv1 hg hz fT hown hpv
         rw [hSr.hdr,hSr.wh,hn0] at g1
         simp only [Option.some.injEq,Prod.mk.injEq] at g1
         obtain ⟨rfl,rfl⟩:=g1
         have hcl:bg (az (aC s.ws σ) r (sK R dd z)) (aU R.own dd.1) R.tags=true:=by
          rw [g5]
          exact wF hv1.2 (fun _ h=>h) (Fq p hg hown)
         have hO0:=CL (y:=xs) ek ey (g4.ow hcl)
         have ho1:ay e (bI ((e :: kk.tys).filter fun t=>ay t R.own) s.bad)=true:=dI.2 ⟨aL.2 (List.mem_filter.2 ⟨by simp,c5⟩),aV.1 hbad⟩
         have ho2:∀t,ay t (bI ((e :: kk.tys).filter fun t=>ay t R.own) s.bad)=true→t∉s.bad:=fun t ht=>(dI.1 ht).2
         obtain ⟨Bg,fd,hp0,X0⟩:=yA (own':=bI ((e :: kk.tys).filter fun t=>ay t R.own) s.bad) (fun t _ hm=>(List.mem_filter.1 (aL.1 (dI.1 hm).1)).2) hO0
         obtain ⟨bz,F6,f1,f2,f3,f4⟩:=hels (bI ((e :: kk.tys).filter fun t=>ay t R.own) s.bad) (fun t _ ht=>ho2 t ht)
         have agf:∀b∈gp,b∉F1:=fun b hb hF=>(List.nodup_append.1 g2.Fw).2.2 b hb b hF rfl
         have hcs:∃v0,cs0=[v0]∧a.eval x=v0:=by
          have hVk:VC (.sl e kk) (a.eval x) cs0:=ek▸af5
          exact ⟨_,hVk.1,rfl⟩
         obtain ⟨v0,ecs,ev0⟩:=hcs
         subst ecs
         subst eR
         have hne:bE d 0≠r:=fun e=>by have:=hr.1; rw [←e,hn] at this; simp at this
         refine Mi hT g2 hd hdn ho hcb ha ht0 hu0 hty (by rw [cu _ _ hne]; exact hnone _ hn) (Bq:=xs) (v0:=v0) (Bg:=Bg) (fd:=fd) (T1:=R.tags) (T2:=s.tags) (bad:=s.bad) (bz:=bz) (F6:=F6) ev0 hS ho1 ho2
          (fun t ht=>?_) (fun t ht=>cZ.2 (.inr ht)) (fun t ht=>cZ.2 (.inl ht)) X0 (fun b hb=>List.mem_append_left _ (hp0.mem_iff.2 hb)) (hp0.nodup g4.nd)
          (fun b hb=>⟨List.mem_append_right _ (f3 b hb).1,fun hb'=>agf b (hp0.mem_iff.2 hb') (f3 b hb).1⟩) f2 f1 (fun i hi=>bC (fun _ _=>rfl) (fun b hb=>?_) (fun _ _=>rfl) (f4 i hi)) hb _
         ·rcases cZ.1 ht with h | h
          ·exact g3.tag (hwt t h)
          ·exact g4.wt t h
         ·rcases hb with ⟨hb,hbt⟩ | hb
          ·refine .inl ⟨?_,hbt⟩
           by_cases hbf:b∈gp
           ·exact .inr (List.mem_append_left _ hbf)
           ·refine .inl ⟨hb.1,fun h=>?_,hb.2.2.1,fun q Q hq hbq=>?_,hb.2.2.2.2⟩
            ·rcases List.mem_append.1 h with h | h
             ·exact hbf h
             ·exact hb.2.1 h
            ·rcases jI hq with ⟨rfl,rfl,_⟩ | ⟨eq,hq'⟩
             ·refine hb.2.2.2.1 q R hr1 ?_
              rw [eO,qE (show (sK R dd z).kind=R.kind from rfl)] at hbq
              rw [bT]
              rw [eY] at hbq ⊢
              exact hbq.imp id (fun h=>g6.mem_iff.2 (List.mem_append_right _ h))
             ·rw [(iw (α:=dO) (σ:=aC s.ws σ) (R:=sK R dd z) eq).blk] at hbq
              exact hb.2.2.2.1 q Q hq' hbq
          ·exact .inr hb
    ·exact h.elim
   | ref r g=>
    obtain ⟨R,hr,hv,h⟩:=dh h
    rcases aB h with ⟨hc,h⟩ | ⟨_,h⟩
    ·simp only [Bool.and_eq_true] at hc
     obtain ⟨⟨⟨⟨⟨c1,c4⟩,c5⟩,c6⟩,c7⟩,c8⟩:=hc
     cases hck:bQ R.k (.sl e kk) R.x with
     | none=>rw [hck] at h; exact h.elim
     | some xs=>
      rw [hck] at h
      simp only at h
      obtain ⟨hb,h⟩:=h
      rw [aD h,dD]
      obtain ⟨ek,ey⟩:=bK hck
      have hSr:=hsame r (TC c7)
      have hr1:=(hSr.live R).2 hr
      have hv1:bq (aC s.ws σ) R:=⟨hv.1,by rw [fu (fun t ht=>(hsame t.1 (J9 c8 t ht)).root)]; exact hv.2⟩
      obtain ⟨hkind,af5⟩:=hx R hr (Nat.eq_of_beq_eq_true c1)
      have K1:=H1.roots r R hr1
      have adb:=H1.dF r R hr1.1
      have hfr:blk dO R r=dO.fo r:=by simp [blk,eD,hkind]
      have OH:∀b∈dO.fo r,b∉F1:=fun b hb=>H1.jH r R hr1 b (by rw [hfr]; exact hb)
      have hVk:VC (.sl e kk) (a.eval x) (dO.hdr r):=by rw [hSr.hdr]; exact ek▸af5
      have hO0:Ow (hp w) R.own (iU cx (aC s.ws σ) dO F1 w R.tags) (.sl e kk) xs [a.eval x] (dO.fo r):=by
       have:=CL (y:=xs) ek ey (K1.ow hv1)
       rw [hVk.1] at this
       exact this
      have ho1:ay e (bI R.own s.bad)=true:=dI.2 ⟨c5,aV.1 hbad⟩
      have ho2:∀t,ay t (bI R.own s.bad)=true→t∉s.bad:=fun t ht=>(dI.1 ht).2
      have hnd:(dO.fo r).Nodup:=by rw [←hfr]; exact K1.nd
      obtain ⟨Bg,fd,hp0,X0⟩:=yA (own':=bI R.own s.bad) (fun t _ hm=>(dI.1 hm).1) hO0
      obtain ⟨bz,F6,f1,f2,f3,f4⟩:=hels (bI R.own s.bad) (fun t _ ht=>ho2 t ht)
      have Nc:∀b∈Bg,b∈dO.fo r:=fun b hb=>hp0.mem_iff.2 (List.mem_append_left _ hb)
      have hfd0:∀b∈fd,b∈dO.fo r:=fun b hb=>hp0.mem_iff.2 (List.mem_append_right _ hb)
      have n0:=List.nodup_append.1 (hp0.nodup hnd)
      have n1:=List.nodup_append.1 f2
      have hlt:∀b∈dO.fo r,b<w.heap.size:=fun b hb=>(K1.mine b (by rw [hfr]; exact hb)).1
      have agk:∀b∈F1,b<w.heap.size:=fun b hb=>(H1.fl b hb).1
      have agw:=xy X0
      have hnot:∀b,(∃t∈s.bad,zi (hp w) b t)→b∉Bg:=by
       rintro b ⟨t,h1,h2⟩ hb0
       obtain ⟨e',_,h3,h4⟩:=agw b hb0
       have h2:=H1.VP (K1.mine b (by rw [hfr]; exact Nc b hb0)) h2
       rw [h2] at h4
       simp only [Option.some.injEq] at h4
       subst h4
       exact ho2 _ h3 h1
      let ok:Nat→Prop:=fun b=>(iU cx (aC s.ws σ) dO F1 w R.tags b∨b∈fd)∨(iU cx (aC s.ws σ) dO F1 w s.tags b∧∃t∈s.bad,zi (hp w) b t)∨b∈F6
      have hRr:∀b,iU cx (aC s.ws σ) dO F1 w R.tags b→b∉dO.fo r:=by
       intro b hb hbr
       obtain ⟨n,hn⟩:=hb.2.2.2.1 r R hr1 (by rw [hfr]; exact hbr)
       exact adb.2.2 n hn
      obtain ⟨v',w',dK,hrun,hos,hsz,Na,hfo,QL,M8⟩:=OZ (w:=w) (ok:=ok) (u:=ut) (ty:=o.type) (x:=a.eval y) (bz:=bz) ht (bC (fun _ _=>rfl) (fun b h=>.inl h) (fun _ _=>rfl) X0) ho1
       (List.nodup_append.2 ⟨n0.1,n1.1,fun b1 h1 b2 h2 e=>OH b1 (Nc b1 h1) (e▸(f3 b2 (List.mem_append_left _ h2)).1)⟩)
       (fun b hb=>by
        rcases hb with (h | h) | h | h
        ·exact ⟨fun h0=>hRr b h (Nc b h0),h.1⟩
        ·exact ⟨fun h0=>n0.2.2 b h0 b h rfl,hlt b (hfd0 b h)⟩
        ·exact ⟨hnot b h.2,h.1.1⟩
        ·exact ⟨fun h0=>OH b (Nc b h0) (f3 b (List.mem_append_right _ h)).1,agk b (f3 b (List.mem_append_right _ h)).1⟩)
       (fun b hb=>by
        rcases List.mem_append.1 hb with h | h
        ·exact hlt b (Nc b h)
        ·exact agk b (f3 b (List.mem_append_left _ h)).1)
       hS f1 (fun i hi=>bC (fun _ _=>rfl) (fun b h=>.inr h) (fun _ _=>rfl) (f4 i hi)) hb
      have JF:VC (.sl e kk) v' [v']:=⟨rfl,by
       have h5:=M8
       unfold Ow at h5
       rw [if_pos ho1] at h5
       obtain ⟨b,n,c,e1,_⟩:=h5
       simp only [List.cons.injEq,and_true] at e1
       rw [e1]; simp⟩
      have akj:∀b,ok b→b∉dK∧b<w.heap.size:=by
       intro b hb
       have hlt':b<w.heap.size:=by
        rcases hb with (h | h) | h | h
        ·exact h.1
        ·exact hlt b (hfd0 b h)
        ·exact h.1.1
        ·exact agk b (f3 b (List.mem_append_right _ h)).1
       refine ⟨fun hbf=>?_,hlt'⟩
       rcases hfo b hbf with h2 | h2 | h2
       ·rcases hb with (h | h) | h | h
        ·exact hRr b h (Nc b h2)
        ·exact n0.2.2 b h2 b h rfl
        ·exact hnot b h.2 h2
        ·exact OH b (Nc b h2) (f3 b (List.mem_append_right _ h)).1
       ·have hF:=(f3 b (List.mem_append_left _ h2)).1
        rcases hb with (h | h) | h | h
        ·exact h.2.1 hF
        ·exact OH b (hfd0 b h) hF
        ·exact h.1.2.1 hF
        ·exact n1.2.2 b h2 b h rfl
       ·omega
      have hnext:∀(j:Nat) (n:Nat),(su j,n)∈s.tags→(su j,n)∈iR (Am r s.tags) R.tags:=by
       intro j n hj
       refine cZ.2 (.inl (rC.2 ⟨hj,fun e=>?_⟩))
       have:=adb.2.1
       rw [←e] at this
       simp only at this
       rw [iQ] at this
       simp at this
      obtain ⟨k1,k2⟩:=akO (R':={ R with k:=.sl e kk,x:=xs++s.xs,own:=bI R.own s.bad,tags:=iR (Am r s.tags) R.tags,w:=e :: R.w,h:=tK :: e :: R.h,g:=R.g+1,keep:=R.keep || s.keep })
       (v':=v') (hdr':=[v']) (dK:=dK) (w':=w') H1 hr1 hv1 hkind hkind rfl rfl rfl ⟨rfl,rfl⟩ ⟨fun t ht=>(cZ.1 ht).elim (fun h=>hwt t (rC.1 h).1) (adb.1 t),fun n hn=>(cZ.1 hn).elim (fun h=>(rC.1 h).2 rfl) (adb.2.2 n)⟩
       hos hsz (fun b h1 h2=>.inr ⟨Nc b (Na b h1 h2).1,(Na b h1 h2).2⟩) (fun b hb=>by
        rcases hfo b hb with h | h | h
        ·exact .inl (Nc b h)
        ·exact .inr (.inl (f3 b (List.mem_append_left _ h)).1)
        ·exact .inr (.inr h)) QL rfl
       (bC (k:=.sl e kk) (fun _ _=>rfl) (fun b hb=>by
        obtain ⟨z1,z2⟩:=akj b hb
        refine ⟨Nat.lt_of_lt_of_le z2 hsz,by simp, ?_,fun q Q hq hbq=>?_,fun h0=>?_⟩
        ·rcases hb with (h | h) | h | h
         ·exact h.2.2.1
         ·exact qG H1 hr1 (hfd0 b h)
         ·exact h.1.2.2.1
         ·exact wm H1 (f3 b (List.mem_append_right _ h)).1
        ·rcases jI hq with ⟨rfl,rfl,_⟩ | ⟨eq,hq'⟩
         ·rw [eO] at hbq
          have hbq:b∈dK:=by simpa [iE,hkind] using hbq
          exact absurd hbq z1
         ·rw [(iw (α:=dO) (σ:=aC s.ws σ) (R:={ R with k:=.sl e kk,x:=xs++s.xs,own:=bI R.own s.bad,tags:=iR (Am r s.tags) R.tags,w:=e :: R.w,h:=tK :: e :: R.h,g:=R.g+1,keep:=R.keep || s.keep }) eq).blk] at hbq
          rcases hb with (h | h) | h | h
          ·exact (h.2.2.2.1 q Q hq' hbq).imp fun n hn=>cZ.2 (.inr hn)
          ·exact absurd hbq (H1.Og r R q Q hr1 hq' (Ne.symm eq) b (by rw [hfr]; exact hfd0 b h))
          ·exact (h.1.2.2.2.1 q Q hq' hbq).imp fun n hn=>cZ.2 (.inl (rC.2 ⟨hn,eq⟩))
          ·exact absurd (f3 b (List.mem_append_right _ h)).1 (H1.jH q Q hq' b hbq)
        ·have jT:Ow.mine cx w b→(∃j n,(su j,n)∈iR (Am r s.tags) R.tags∧cx.ext j b)∨∃j pi,cx.par j=some pi∧b∈pi.bl:=fun hm=>by
          rcases hm.2 with h | ⟨j,pi,h1,h2⟩
          ·omega
          ·exact .inr ⟨j,pi,h1,h2⟩
         rcases hb with (h | h) | h | h
         ·exact (h.2.2.2.2 h0).imp (fun ⟨j,n,h1,h2⟩=>⟨j,n,cZ.2 (.inr h1),h2⟩) id
         ·exact jT (K1.mine b (by rw [hfr]; exact hfd0 b h))
         ·exact (h.1.2.2.2.2 h0).imp (fun ⟨j,n,h1,h2⟩=>⟨j,n,hnext j n h1,h2⟩) id
         ·exact jT (H1.fl b (f3 b (List.mem_append_right _ h)).1)) (fun _ _=>rfl) M8) JF
      exact iY (x:=.one (.ref r (R.g+1))) k1 hd hdn (oC ho hcb ha ht0 hu0 hrun) k2 ⟨_,aK .., .inr (Nat.le_refl _)⟩
    ·exact h.elim
   | val _ _ _=>exact h.elim
   | undef=>exact h.elim
   | ptr _ _ _=>exact h.elim
   | jl _ _ _ _=>exact h.elim
   | MF _ _ _ _=>exact h.elim
   | D7 _=>exact h.elim
   | part _ _ _ _ _=>exact h.elim
   | Bl _ _ _ _=>exact h.elim
   | app _ _ _ _=>exact h.elim
   | vB=>exact h.elim
   | fn _ _=>exact h.elim
  | _=>exact h.elim
end
end Go.Proofs.YtdknpknohipffaaGreat.Ow

/- The framework, part 41: a slice is built. Own work of this seat. -/
namespace Go.Proofs.YtdknpknohipffaaGreat.Ow
open Go
variable [Fr]
section
variable {P:Program} {T:jF} {cx:Cx} {σ:St} {α:dN} {F:List Nat} {a:Act} {w:World} {o:Oper} {d:Nat} {ws:List Wr}
def ry (kk:K):List (Nat×iN)→yZ kk→Option (yZ kk)
 | [],b=>some b
 | (n,tk) :: l,b=>match bQ tk.k kk tk.x with
  | some y=>bif Nat.beq n (gG b.xs) then ry kk l { xs:=b.xs++[y],bad:=tk.bad++b.bad,tags:=iR (tk.ko) b.tags,ws:=b.ws++tk.ws,keep:=tk.keep || b.keep,all:=tk.tags++b.all } else none
  | none=>none
theorem U7 {A:Type} {z:A} (H:Rel cx σ α F a w) {kk:K} {k:yZ kk→Prog A}:∀{l:List (Nat×AV)} {vs:List Value} {b:yZ kk},fE cx σ α F w (l.map (·.2)) vs→(∀v∈l,wD σ v.2)→(MN kk l b k).ends σ z→
  ∃(tks:List iN) (b':yZ kk),tks.length=l.length∧vs.length=l.length∧(∀it∈vs.zip tks,Ak cx σ α F w it.1 it.2)∧ry kk ((l.map (·.1)).zip tks) b=some b'∧(k b').ends σ z:=by
 intro l
 induction l with
 | nil=>
  intro vs b h1 _ h
  cases vs with
  | nil=>exact ⟨[],b,rfl,rfl,by simp,rfl,h⟩
  | cons v vs=>exact h1.elim
 | cons p l ih=>
  obtain ⟨n,x⟩:=p
  intro vs b h1 h2 h
  cases vs with
  | nil=>exact h1.elim
  | cons v vs=>
   simp only [MN] at h
   obtain ⟨tk,htk,h5⟩:=wN H h1.1 (h2 (n,x) (by simp)) h
   cases hc:bQ tk.k kk tk.x with
   | none=>rw [hc] at h5; exact h5.elim
   | some y=>
    rw [hc] at h5
    simp only at h5
    rcases aB h5 with ⟨hn,h6⟩ | ⟨_,h6⟩
    ·obtain ⟨tks,b',g1,g2,g3,g4,g5⟩:=ih h1.2 (fun v hv=>h2 v (by simp [hv])) h6
     refine ⟨tk :: tks,b',by simp [g1],by simp [g2], ?_, ?_,g5⟩
     ·intro it hit
      rw [List.zip_cons_cons] at hit
      rcases List.mem_cons.1 hit with h | h
      ·subst h; exact htk
      ·exact g3 it h
     ·rw [List.map_cons,List.zip_cons_cons]
      unfold ry
      simp only [hc,hn,cond_true]
      exact g4
    ·exact h6.elim
theorem KP {kk:K}:∀(l:List (Nat×iN)) {b b':yZ kk},ry kk l b=some b'→
  b'.ws=b.ws++l.flatMap (fun p=>p.2.ws)∧(∀p∈l,∀t∈p.2.tags,t∈b'.all)∧(∀p∈l,∀t∈p.2.bad,t∈b'.bad)∧(∀t∈b.bad,t∈b'.bad)∧
  (∀p∈l,∀t∈p.2.ko,t∈b'.tags)∧(∀t∈b.tags,t∈b'.tags)∧(∀t∈b'.tags,t∈b.tags∨∃p∈l,t∈p.2.ko)∧(∀t∈b.all,t∈b'.all)∧b'.xs.length=b.xs.length+l.length:=by
 intro l
 induction l with
 | nil=>
  intro b b' h
  simp only [ry,Option.some.injEq] at h
  subst h
  simp
 | cons p l ih=>
  obtain ⟨n,tk⟩:=p
  intro b b' h
  unfold ry at h
  cases hc:bQ tk.k kk tk.x with
  | none=>rw [hc] at h; simp at h
  | some y=>
   rw [hc] at h
   simp only at h
   cases hn:Nat.beq n (gG b.xs) with
   | false=>rw [hn] at h; simp at h
   | true=>
    rw [hn] at h
    simp only [cond_true] at h
    obtain ⟨g1,g2,g3,g4,g5,g6,g7,g8,g9⟩:=ih h
    refine ⟨by rw [g1]; simp, ?_, ?_,fun t ht=>g4 t (by simp [ht]), ?_,fun t ht=>g6 t (cZ.2 (.inr ht)), ?_,fun t ht=>g8 t (by simp [ht]),by rw [g9]; simp; omega⟩
    ·intro p hp t ht
     rcases List.mem_cons.1 hp with h | h
     ·subst h; exact g8 t (by simp [ht])
     ·exact g2 p h t ht
    ·intro p hp t ht
     rcases List.mem_cons.1 hp with h | h
     ·subst h; exact g4 t (by simp [ht])
     ·exact g3 p h t ht
    ·intro p hp t ht
     rcases List.mem_cons.1 hp with h | h
     ·subst h; exact g6 t (cZ.2 (.inl ht))
     ·exact g5 p h t ht
    ·intro t ht
     rcases g7 t ht with h | ⟨p,h1,h2⟩
     ·rcases cZ.1 h with h | h
      ·exact .inr ⟨(n,tk),by simp,h⟩
      ·exact .inl h
     ·exact .inr ⟨p,by simp [h1],h2⟩
theorem U6 {h:Heap} {own:List TypeId} {ok:Nat→Prop} {kk:K} {N:Nat} :
  ∀(l:List (Nat×iN)) {vs:List Value} {DC:List (List Nat)} {b b':yZ kk} {cells:Array Value} {bz:List (List Nat)},b.xs.length+l.length≤N→cells.size=N * kk.size→bz.length=b.xs.length→
   (∀i (hi:i<b.xs.length),Ow h own ok kk b.xs[i] (oP cells.toList kk.size i) (bz.getD i []))→Aj h own ok l vs DC→ry kk l b=some b'→
   ∃cells',Instr.fill (fun i=>some (i * kk.size,kk.size)) cells ((l.map (·.1)).zip vs)=some cells'∧cells'.size=N * kk.size∧(bz++DC).length=b'.xs.length∧
    ∀i (hi:i<b'.xs.length),Ow h own ok kk b'.xs[i] (oP cells'.toList kk.size i) ((bz++DC).getD i []):=by
 intro l
 induction l with
 | nil=>
  intro vs DC b b' cells bz hN hs hf hO hP hb
  cases vs with
  | nil=>
   cases DC with
   | nil=>
    simp only [ry,Option.some.injEq] at hb
    subst hb
    exact ⟨cells,rfl,hs,by simpa using hf,by simpa using hO⟩
   | cons f fs=>exact hP.elim
  | cons v vs=>cases DC <;> exact hP.elim
 | cons p l ih=>
  obtain ⟨n,tk⟩:=p
  intro vs DC b b' cells bz hN hs hf hO hP hb
  cases vs with
  | nil=>cases DC <;> exact hP.elim
  | cons v vs=>
   cases DC with
   | nil=>exact hP.elim
   | cons ft DC=>
    obtain ⟨⟨cst,hv,hOt⟩,hP'⟩:=hP
    unfold ry at hb
    cases hc:bQ tk.k kk tk.x with
    | none=>rw [hc] at hb; simp at hb
    | some y=>
     rw [hc] at hb
     simp only at hb
     cases hn:Nat.beq n (gG b.xs) with
     | false=>rw [hn] at hb; simp at hb
     | true=>
      rw [hn] at hb
      simp only [cond_true] at hb
      have en:n=b.xs.length:=by rw [Nat.eq_of_beq_eq_true hn,rA]
      subst en
      obtain ⟨ek,ey⟩:=bK hc
      have hOy:Ow h own ok kk y cst ft:=CL ek ey hOt
      have hcl:cst.length=kk.size:=dA hOy
      have KS:v.cells=cst.toArray:=by
       have:=hv.cells
       apply Array.ext'
       simpa using this
      simp only [List.length_cons] at hN
      have hle:(b.xs.length+1) * kk.size≤N * kk.size:=Nat.mul_le_mul_right _ (by omega)
      rw [Nat.add_mul,Nat.one_mul] at hle
      have hoff:b.xs.length * kk.size+cst.length≤cells.size:=by rw [hs,hcl]; exact hle
      rw [List.map_cons,List.zip_cons_cons,Pb (place:=fun i=>some (i * kk.size,kk.size)) (off:=b.xs.length * kk.size) (vs:=cst) (by simp [hcl]) KS hoff]
      have hsz:(cells.toList.take (b.xs.length * kk.size)++(cst++cells.toList.drop (b.xs.length * kk.size+cst.length))).toArray.size=N * kk.size:=by
       simp
       omega
      obtain ⟨cells',g1,g2,g3,g4⟩:=ih (bz:=bz++[ft]) (b:={ xs:=b.xs++[y],bad:=tk.bad++b.bad,tags:=iR (tk.ko) b.tags,ws:=b.ws++tk.ws,keep:=tk.keep || b.keep,all:=tk.tags++b.all }) (by simp; omega) hsz (by simp [hf]) (by
       intro i hi
       simp only [List.length_append,List.length_cons,List.length_nil,Nat.zero_add] at hi
       rw [Ih]
       by_cases h0:i<b.xs.length
       ·rw [if_pos (by rw [hf]; exact h0)]
        have e1:(b.xs++[y])[i]'(by simp; omega)=b.xs[i]:=List.getElem_append_left h0
        show Ow h own ok kk ((b.xs++[y])[i]'(by simp; omega)) _ _
        rw [e1]
        have e2:oP (cells.toList.take (b.xs.length * kk.size)++(cst++cells.toList.drop (b.xs.length * kk.size+cst.length))) kk.size i=oP cells.toList kk.size i:=by
         have hl2:(i+1) * kk.size≤b.xs.length * kk.size:=Nat.mul_le_mul_right _ (by omega)
         rw [Nat.add_mul,Nat.one_mul] at hl2
         apply List.ext_getElem?
         intro j
         by_cases hj:j<kk.size
         ·rw [nH hj,nH hj,List.getElem?_append_left (by simp; omega),List.getElem?_take_of_lt (by omega)]
         ·unfold oP
          rw [List.getElem?_eq_none (by simp; omega),List.getElem?_eq_none (by simp; omega)]
        simp only
        rw [e2]
        exact hO i h0
       ·have:i=b.xs.length:=by omega
        subst this
        rw [if_neg (by omega),hf,Nat.sub_self]
        have e1:(b.xs++[y])[b.xs.length]'(by simp)=y:=by simp
        show Ow h own ok kk ((b.xs++[y])[b.xs.length]'(by simp)) _ _
        rw [e1]
        have e2:oP (cells.toList.take (b.xs.length * kk.size)++(cst++cells.toList.drop (b.xs.length * kk.size+cst.length))) kk.size b.xs.length=cst:=by
         have hl:(cells.toList.take (b.xs.length * kk.size)).length=b.xs.length * kk.size:=by simp; omega
         unfold oP
         conv=>lhs; arg 2; arg 1; rw [←hl]
         rw [List.drop_left, ←hcl,List.take_left]
        simp only
        rw [e2]
        exact hOy) hP' hb
      refine ⟨cells',g1,g2, ?_, ?_⟩
      ·rw [←g3]; simp
      ·intro i hi
       have:=g4 i hi
       simp only [List.append_assoc,List.cons_append,List.nil_append] at this
       exact this
end
end Go.Proofs.YtdknpknohipffaaGreat.Ow
