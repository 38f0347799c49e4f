/- A verified reading of translated code: values in place of memory; part C of 6, spaces and remarks taken out. No condition. Own work of this seat. -/
import Derived.Test.YtdknpknohipffaaGreatOwB
import Derived.Laws.Strings
import Derived.Laws.BytesString
import Derived.Laws.IdiomStrings
import Derived.Laws.MakeOwn
import Derived.Laws.Tables
import Derived.Laws.AppendOwn
set_option linter.unusedSectionVars false
set_option linter.unusedVariables false
set_option linter.unusedSimpArgs false
namespace Go.Proofs.YtdknpknohipffaaGreat.Ow
section
open Go
variable [Fr]
theorem QH {h:Heap} {ok:Nat→Prop}:∀(n:Nat) {c:K} {x:El c} {cs:List Value} {d:Dat},Vw h ok c x cs→aQ n c x=some d→∃off,bD n c=some (off,d.1)∧Vw h ok d.1 d.2 ((cs.drop off).take d.1.size):=by
 intro n
 induction n with
 | zero=>
  intro c x cs d H hg
  cases c with
  | pair a b=>
   simp only [aQ,apd] at hg
   subst hg
   obtain ⟨c1,c2,rfl,h1,h2⟩:=H
   refine ⟨0,rfl, ?_⟩
   have:=mD h1
   simpa [←this] using h1
  | _=>simp [aQ] at hg
 | succ n ih=>
  intro c x cs d H hg
  cases c with
  | pair a b=>
   simp only [aQ] at hg
   obtain ⟨c1,c2,rfl,h1,h2⟩:=H
   obtain ⟨off,g1,g2⟩:=ih h2 hg
   refine ⟨a.size+off,by simp [bD,g1], ?_⟩
   have:=mD h1
   rw [←this, ←List.drop_drop]
   simpa using g2
  | _=>simp [aQ] at hg
theorem IY:∀(p:List Stp) {q:List Stp} {k:K} {x:El k} {d:Dat},aT p k x=some d→aT (p++q) k x=aT q d.1 d.2:=by
 intro p
 induction p with
 | nil=>intro q k x d h; simp only [aT,apd] at h; subst h; rfl
 | cons s p ih=>
  intro q k x d h
  cases s with
  | gL n=>
   cases k with
   | st c=>
    simp only [aT,List.cons_append] at h ⊢
    cases hg:aQ n c x with
    | none=>rw [hg] at h; simp at h
    | some s=>rw [hg] at h; exact ih h
   | _=>simp [aT] at h
  | idx i=>
   cases k with
   | sl e k=>simp only [aT,List.cons_append] at h ⊢; exact ih h
   | _=>simp [aT] at h
theorem D5:∀(p:List Stp) {q:List Stp} {k:K} {x:El k} {d:Dat},aT p k x=some d→nX p k x→nX q d.1 d.2→nX (p++q) k x:=by
 intro p
 induction p with
 | nil=>intro q k x d h _ h2; simp only [aT,apd] at h; subst h; exact h2
 | cons s p ih=>
  intro q k x d h h1 h2
  cases s with
  | gL n=>
   cases k with
   | st c=>
    simp only [aT,nX,List.cons_append] at h h1 ⊢
    cases hg:aQ n c x with
    | none=>rw [hg] at h; simp at h
    | some s=>rw [hg] at h h1; exact ih h h1 h2
   | _=>simp [aT] at h
  | idx i=>
   cases k with
   | sl e k=>simp only [aT,nX,List.cons_append] at h h1 ⊢; exact ⟨h1.1,h1.2.1,ih h h1.2.2 h2⟩
   | _=>simp [aT] at h
theorem Cs:∀(p:List Stp) {q:List Stp} {k:K} {x:El k} {d:Dat},aT p k x=some d→ah (p++q) k=ah p k++ah q d.1:=by
 intro p
 induction p with
 | nil=>intro q k x d h; simp only [aT,apd] at h; subst h; rfl
 | cons s p ih=>
  intro q k x d h
  cases s with
  | gL n=>
   cases k with
   | st c=>
    simp only [aT,ah,List.cons_append] at h ⊢
    cases hg:aQ n c x with
    | none=>rw [hg] at h; simp at h
    | some s=>rw [hg] at h; rw [bU n hg]; exact ih h
   | _=>simp [aT] at h
  | idx i=>
   cases k with
   | sl e k=>simp only [aT,ah,List.cons_append] at h ⊢; rw [ih h]
   | _=>simp [aT] at h
theorem Cq {h:Heap}:∀(p:List Stp) {q:List Stp} {k:K} {x:El k} {d:Dat} {cs:List Value} {wh:Option (Nat×Nat)} {c1:List Value} {w1:Option (Nat×Nat)},aT p k x=some d→bF h p k cs wh=some (c1,w1)→bF h (p++q) k cs wh=bF h q d.1 c1 w1:=by
 intro p
 induction p with
 | nil=>
  intro q k x d cs wh c1 w1 h h1
  simp only [aT,apd] at h
  subst h
  simp only [bF,apd,apo] at h1
  obtain ⟨rfl,rfl⟩:=h1
  rfl
 | cons s p ih=>
  intro q k x d cs wh c1 w1 h h1
  cases s with
  | gL n=>
   cases k with
   | st c=>
    simp only [aT,bF,List.cons_append] at h h1 ⊢
    cases hg:aQ n c x with
    | none=>rw [hg] at h; simp at h
    | some s=>
     rw [hg] at h
     cases ho:bD n c with
     | none=>rw [ho] at h1; simp at h1
     | some q2=>
      rw [ho] at h1
      have hk:=Am n (c:=c) hg ho
      obtain ⟨o2,k2⟩:=q2
      simp only at hk
      subst hk
      exact ih h h1
   | _=>simp [aT] at h
  | idx i=>
   cases k with
   | sl e k=>
    simp only [aT,List.cons_append] at h
    simp only [bF,List.cons_append] at h1 ⊢
    split at h1
    ·exact ih h h1
    ·simp at h1
   | _=>simp [aT] at h
theorem KQ {a b:K} (h:a.beq b=true):a.size=b.size:=by rw [K.eq_of_beq h]
theorem Xq:∀{a b:K},a.like b=true→a.size=b.size:=by
 intro a
 induction a with
 | gap n=>intro b h; simp only [K.like] at h; exact aph h
 | pair a b iha ihb=>
  intro c h
  cases c with
  | pair c d=>simp only [K.like,apj] at h; simp [K.size,iha h.1,ihb h.2]
  | _=>exact KQ (by simpa [K.like] using h)
 | st f ih=>
  intro b h
  cases b with
  | st g=>simp only [K.like] at h; exact ih (b:=g) h
  | _=>exact KQ (by simpa [K.like] using h)
 | _=>intro b h; exact KQ (by simpa [K.like] using h)
theorem ZU:∀(n:Nat) {a b:K} {off:Nat} {k:K},a.like b=true→bD n a=some (off,k)→∃k',bD n b=some (off,k'):=by
 intro n
 induction n with
 | zero=>
  intro a b off k h ho
  cases a with
  | pair a1 a2=>
   simp only [bD,apd,apo] at ho
   cases b with
   | pair b1 b2=>exact ⟨b1,by simp [bD,ho.1]⟩
   | _=>simp [K.like,K.beq] at h
  | _=>simp [bD] at ho
 | succ n ih=>
  intro a b off k h ho
  cases a with
  | pair a1 a2=>
   simp only [bD] at ho
   cases h2:bD n a2 with
   | none=>rw [h2] at ho; simp at ho
   | some q=>
    rw [h2] at ho
    simp only [apd,apo] at ho
    cases b with
    | pair b1 b2=>
     simp only [K.like,apj] at h
     obtain ⟨k',h3⟩:=ih (off:=q.1) (k:=q.2) h.2 (by rw [h2])
     exact ⟨k',by simp [bD,h3, ←ho.1,Xq h.1]⟩
    | _=>simp [K.like,K.beq] at h
  | _=>simp [bD] at ho
section
variable {P:Program} {T:ji} {cx:Cx} {σ:St} {α:dK} {F:List Nat} {a:Act} {w:World} {o:Oper} {d:Nat} {ws:List Wr}
theorem Sv {t:TypeId} {c:K} (h:fM P T t (.st c)) {n off:Nat} {k:K} (ho:bD n c=some (off,k)) (b q:Nat) :
  (Instr.fieldAt t (.pointer (some ⟨b,q,none⟩)) n).run P w=.ok (.pointer (some ⟨b,q+off,none⟩)) w:=by
 obtain ⟨fs,hu,hf⟩:=h.st
 obtain ⟨f,f1,f2,f3,f4⟩:=structField n hf ho
 have f1':fs[n]?=some f:=by rw [←Array.getElem?_toList]; exact f1
 unfold Instr.fieldAt Instr.sureAddr fieldPlace
 simp only [apD,run_underlying hu,Result.andThen,f1',apI,f3.info.sizeOf w,Sem.run_ite]
 rw [if_neg (by omega),addr_add]
 simp [show f.offset=off from by omega]
theorem WH (hT:fu P T) (H:Rel cx σ α F a w) (hd:o.dst=some d) (hdn:d<cx.nt) {t:TypeId} {x:Operand} {n:Nat} (ho:o.op=.field t x n)
  (h:(match T.ty t with
   | some kk=>dN x fun a=>Lm kk a n fun u=>.ret [Wr.s d (.one u)]
   | none=>(.fail:Prog (List Wr))).ends σ ws):sM P cx o a w (aC ws σ):=by
 split at h
 case h_2=>exact h.elim
 rename_i kk hty
 have ht:=hT.ty t kk hty
 obtain ⟨v,h1,h2,h⟩:=bR H h
 have Vt:∀{c:K} {cs:List Value} {off:Nat} {k:K},kk=.st c→a.eval x=.agg cs.toArray→bD n c=some (off,k)→cs.length=c.size→(∀v∈cs,v.oneCell'=true)→
   ∃u,(execOp a.eval o).run P w=.ok (.value u) w∧VC k u ((cs.drop off).take k.size):=by
  intro c cs off k ek ev hoff hl h1
  subst ek
  obtain ⟨u,g1,g2⟩:=XJ (w:=w) ht hoff hl h1
  exact ⟨u,by simp only [execOp,ho,ev,apD,g1,apw,apI],g2⟩
 have key:∀{r:Nat} {R:Root} {p:List Stp} {d0 dd:Dat} {cs:List Value} {wh:Option (Nat×Nat)},aR σ r R→bq σ R→aT p R.k R.x=some d0→d0.1=kk→aT (p++[.gL n]) R.k R.x=some dd→nX p R.k R.x→(∀t∈ah p R.k,ay t R.own=true)→
   bF (hp w) p R.k (α.hdr r) (eB α R r)=some (cs,wh)→VC d0.1 (a.eval x) cs→
   ∃u,(execOp a.eval o).run P w=.ok (.value u) w∧bI cx σ α F w (.xy r (p++[.gL n]) R.yO) u∧(dd.1.flat=true→bI cx σ α F w (.val dd.1 dd.2 []) u):=by
  intro r R p d0 dd cs wh hr hv hg0 e0 hg fU hown hn Jw
  obtain ⟨k0,x0⟩:=d0
  simp only at e0
  subst e0
  have hg1:=IY p (q:=[.gL n]) hg0
  rw [hg] at hg1
  have hpt:=Cs p (q:=[.gL n]) hg0
  cases k0 with
  | st c=>
   simp only [aT] at hg1
   cases hcg:aQ n c x0 with
   | none=>rw [hcg] at hg1; simp at hg1
   | some s=>
    rw [hcg] at hg1
    simp only [aT,apd] at hg1
    subst hg1
    obtain ⟨gq,hO,hf⟩:=vR H hr hv hg0 fU hown hn
    obtain ⟨off,pre,cs1,post,fo2,fr,ho1,ec,hl,hp,hd2,_⟩:=JW n (show Ow _ _ _ c x0 cs gq from hO) hcg
    have hsub:(cs.drop off).take s.1.size=cs1:=by rw [ec]; exact qE hl (dn hd2)
    obtain ⟨u,r1,r2⟩:=Vt rfl Jw ho1 (dn (k:=c) hO) (Td ht.gN hO)
    rw [hsub] at r2
    refine ⟨u,r1,BV (cs:=cs1) (wh:=wh.map fun q=>(q.1,q.2+off)) hr hg ?_ ?_ ?_ r2,fun hfl=>fun _=>⟨cs1,r2,iA hfl (lu (fun _=>True) (fun _ _=>trivial) (fun _ _=>trivial) hd2)⟩⟩
    ·exact D5 p hg0 fU (by simp only [nX,hcg])
    ·rw [hpt]
     intro t ht
     rcases apm.1 ht with h | h
     ·exact hown t h
     ·simp [ah,bU n hcg] at h
    ·rw [Cq p hg0 hn]
     simp only [bF]
     rw [ho1]
     simp only
     rw [hsub]
  | _=>simp [aT] at hg1
 cases v with
 | val k0 y Tg=>
  cases k0 with
  | st c=>
   simp only [Lm] at h
   rcases aB h with ⟨hc,h⟩ | ⟨_,h⟩
   ·have ek:=K.eq_of_beq hc
    cases hg:aQ n c y with
    | none=>rw [hg] at h; exact h.elim
    | some dd=>
     rw [hg] at h
     obtain ⟨g1,g2⟩:=gM h
     rw [aD g2]
     obtain ⟨cs,hv,hV⟩:=h1 (.inr g1)
     obtain ⟨off,ho1,ho2⟩:=QH n (show Vw _ _ c y cs from hV) hg
     obtain ⟨u,r1,r2⟩:=Vt ek.symm hv ho1 (mD (k:=c) hV) (O5 (k:=.st c) (by rw [ek]; exact ht.gN) hV)
     refine bM H hd hdn r1 (show bI cx σ α F w (.val dd.1 dd.2 _) u from fun _=>⟨_,r2, ?_⟩) ?_
     ·cases hf:dd.1.flat with
      | true=>exact iA hf ho2
      | false=>exact ho2
     ·cases hf:dd.1.flat with
      | true=>intro t ht; simp at ht
      | false=>exact h2
   ·exact h.elim
  | _=>exact h.elim
 | ref r g=>
  simp only [Lm] at h
  obtain ⟨R,hr,hv,h⟩:=cO h
  rcases aB h with ⟨hc,h5⟩ | ⟨_,h⟩
  ·simp only [apj] at hc
   obtain ⟨hka,Jw⟩:=h1 R hr (aph hc.1)
   have ek:=K.eq_of_beq hc.2
   cases hg:aT [.gL n] R.k R.x with
   | none=>rw [hg] at h5; exact h5.elim
   | some dd=>
    rw [hg] at h5
    simp only at h5
    obtain ⟨u,r1,r2,r3⟩:=key (p:=[]) (d0:=⟨R.k,R.x⟩) hr hv rfl ek hg trivial (fun t ht=>by simp [ah] at ht) rfl Jw
    rcases aB h5 with ⟨hf,h6⟩ | ⟨_,h6⟩
    ·rw [aD h6]
     exact bM H hd hdn r1 (r3 hf) (fun t ht=>by simp at ht)
    ·rw [aD h6]
     exact bM (x:=.one (.xy r [.gL n] R.yO)) H hd hdn r1 r2 ⟨R,hr.1, .inr (apu _)⟩
  ·exact h.elim
 | xy r p nn=>
  simp only [Lm] at h
  obtain ⟨R,hr,hv,h⟩:=cO h
  rcases aB h with ⟨hc,h5⟩ | ⟨_,h⟩
  ·cases hg0:aT p R.k R.x with
   | none=>rw [hg0] at h5; exact h5.elim
   | some d0=>
    cases hg:aT (p++[.gL n]) R.k R.x with
    | none=>rw [hg0,hg] at h5; exact h5.elim
    | some dd=>
     rw [hg0,hg] at h5
     simp only at h5
     rcases aB h5 with ⟨_,h6⟩ | ⟨hk,h6⟩
     ·exact h6.elim
     ·have ek:d0.1=kk:=K.eq_of_beq (by simpa using hk)
      obtain ⟨g1,g2,cs,wh,g3,g4⟩:=h1 R hr.1 hv (aph hc) d0 hg0
      obtain ⟨u,r1,r2,r3⟩:=key hr hv hg0 ek hg g1 g2 g3 g4
      rcases aB h6 with ⟨hf,h7⟩ | ⟨_,h7⟩
      ·rw [aD h7]
       exact bM H hd hdn r1 (r3 hf) (fun t ht=>by simp at ht)
      ·rw [aD h7]
       exact bM (x:=.one (.xy r (p++[.gL n]) R.yO)) H hd hdn r1 (show jT cx σ α F w (.one (.xy r (p++[.gL n]) R.yO)) u from r2) ⟨R,hr.1, .inr (apu _)⟩
  ·exact h.elim
 | _=>exact h.elim
theorem Nh (hT:fu P T) (H:Rel cx σ α F a w) (hd:o.dst=some d) (hdn:d<cx.nt) {t:TypeId} {x:Operand} {n:Nat} (ho:o.op=.fieldAddr t x n)
  (h:(match T.ty t with
   | some kk=>dN x fun a=>wJ kk a n fun u=>.ret [Wr.s d (.one u)]
   | none=>(.fail:Prog (List Wr))).ends σ ws):sM P cx o a w (aC ws σ):=by
 split at h
 case h_2=>exact h.elim
 rename_i kk hty
 have ht:=hT.ty t kk hty
 obtain ⟨v,h1,h2,h⟩:=bR H h
 have hrun:∀{c:K} {off:Nat} {k:K} {b q:Nat},kk=.st c→bD n c=some (off,k)→a.eval x=.pointer (some ⟨b,q,none⟩)→(execOp a.eval o).run P w=.ok (.value (.pointer (some ⟨b,q+off,none⟩))) w:=by
  intro c off k b q ek hoff ev
  subst ek
  have:=Sv (w:=w) ht hoff b q
  simp only [execOp,ho,ev,apD,this,apw,apI]
 cases v with
 | ptr r p m=>
  simp only [wJ,Prog.ends] at h
  cases hr0:σ.roots r with
  | none=>rw [hr0] at h; exact h.elim
  | some R=>
   rw [hr0] at h
   simp only at h
   cases hg:aT p R.k R.x with
   | none=>rw [hg] at h; exact h.elim
   | some d0=>
    rw [hg] at h
    simp only at h
    rcases aB h with ⟨hc,h5⟩ | ⟨_,h5⟩
    ·simp only [apj] at hc
     rw [aD h5]
     unfold PG at hc
     cases kk with
     | st c=>
      obtain ⟨off,kf,hoff⟩:=Pm n hc.2
      obtain ⟨⟨b,q,ev⟩,h1'⟩:=h1
      refine bM (x:=.one (.ptr r (p++[.gL n]) m)) H hd hdn (hrun rfl hoff ev) ⟨⟨b,q+off,rfl⟩, ?_⟩ h2
      intro R' hR' hv hcl hown hs
      rw [hr0] at hR'
      simp only [apd] at hR'
      subst hR'
      have hpt:=Cs p (q:=[.gL n]) hg
      have e0:ah [.gL n] d0.1=[]:=by
       obtain ⟨dk,dx⟩:=d0
       cases dk with
       | st c'=>
        simp only [ah]
        cases ah.Js n c' <;> rfl
       | _=>rfl
      rw [e0,apH] at hpt
      have hcl':clean R.h m (eD p R.k)=true:=by
       unfold clean at hcl ⊢
       rw [apt] at hcl ⊢
       intro t ht
       have:=hcl t ht
       simp only [Bool.not_eq_true',aV] at this ⊢
       intro h6
       refine this ?_
       have e1:eD (p++[.gL n]) R.k=qK :: ah (p++[.gL n]) R.k:=by cases p <;> rfl
       rw [e1,hpt]
       cases p with
       | nil=>simp [eD] at h6
       | cons s p=>exact h6
      rw [hpt] at hown
      obtain ⟨g1,cs,b',q',g2,g3⟩:=h1' R hr0 hv hcl' hown (by rw [hg]; rfl)
      rw [ev] at g3
      simp only [Value.pointer.injEq,apd,Addr.mk.injEq,and_true] at g3
      obtain ⟨rfl,rfl⟩:=g3
      have hga:=IY p (q:=[.gL n]) hg
      rw [hga] at hs
      obtain ⟨dk,dx⟩:=d0
      cases dk with
      | st c'=>
       simp only [aT] at hs
       cases hcg:aQ n c' dx with
       | none=>rw [hcg] at hs; simp at hs
       | some s=>
        have hck:(ah.Js n c').isSome=true:=by rw [bU n hcg]; rfl
        obtain ⟨off',kf',acR⟩:=Pm n hck
        have hl:c'.like c=true:=hc.1
        obtain ⟨kf2,Zm⟩:=ZU n hl acR
        rw [hoff] at Zm
        simp only [apd,apo] at Zm
        refine ⟨D5 p hg g1 (by simp only [nX,hcg]),(cs.drop off').take kf'.size,b,q+off, ?_,rfl⟩
        rw [Cq p hg g2]
        simp only [bF]
        rw [acR]
        simp [Zm.1]
      | _=>simp [aT] at hs
     | _=>simp at hc
    ·exact h5.elim
 | je bt k0 y Tg=>
  cases k0 with
  | st c=>
   simp only [wJ] at h
   rcases aB h with ⟨hc,h5⟩ | ⟨_,h5⟩
   ·have ek:=K.eq_of_beq hc
    cases hg:aQ n c y with
    | none=>rw [hg] at h5; exact h5.elim
    | some dd=>
     rw [hg] at h5
     obtain ⟨g1,g2⟩:=gM h5
     rw [aD g2]
     obtain ⟨b,q,cs,e,hcs,hV,hok,hb⟩:=h1.2 g1
     obtain ⟨off,ho1,ho2⟩:=QH n (show Vw _ _ c y cs from hV) hg
     have hle:=KY n ho1
     have hlen:=mD (k:=c) hV
     refine bM (x:=.one (.je bt dd.1 dd.2 Tg)) H hd hdn (hrun ek.symm ho1 e) ⟨⟨b,q+off,rfl⟩,fun _=>⟨b,q+off,_,rfl, ?_,ho2,hok,hb⟩⟩ h2
     intro i hi
     simp only [List.length_take,List.length_drop] at hi
     rw [Nat.add_assoc,hcs (off+i) (by omega)]
     rw [List.getElem?_take_of_lt (by omega),List.getElem?_drop]
   ·exact h5.elim
  | _=>exact h.elim
 | K5 r g k0 p=>
  simp only [wJ] at h
  cases hk:Od p k0 with
  | none=>rw [hk] at h; exact h.elim
  | some k1=>
   rw [hk] at h
   simp only at h
   rcases aB h with ⟨hc,h5⟩ | ⟨_,h5⟩
   ·simp only [apj] at hc
    rw [aD h5]
    have ek:=K.eq_of_beq hc.1
    subst ek
    obtain ⟨u,b,off,k2,e,hq,hC,ho1,hR⟩:=h1
    have e2:=Xl p hk ho1
    subst e2
    unfold PG at hc
    cases k2 with
    | st c=>
     obtain ⟨o2,kf,hoff⟩:=Pm n hc.2
     exact bM (x:=.one (.K5 r g k0 (p++[.gL n]))) H hd hdn (hrun rfl hoff e) ⟨u,b,off+o2,kf,rfl,hq,hC,Nl p ho1 rfl hoff,hR⟩ h2
    | _=>simp at hc
   ·exact h5.elim
 | _=>exact h.elim
theorem run_indexAt {t e:TypeId} {k:K} (h:fM P T t (.sl e k)) {ik:IntKind} {i:Int} {b q n c:Nat} (h0:0≤i) (h1:i<(n:Int)) :
  (Instr.indexAt t (.slice (some ⟨b,q,none⟩) n c) (.int ik i)).run P w=.ok (.pointer (some ⟨b,q+i.toNat * k.size,none⟩)) w:=by
 obtain ⟨hu,he,_,_⟩:=h.sl
 unfold Instr.indexAt
 simp [asIntOf,run_underlying hu,Result.andThen,h0,h1,he.info.sizeOf w,addr_add]
end
end
section
open Go
variable [Fr]
section
variable {P:Program} {T:ji} {cx:Cx} {σ:St} {α:dK} {F:List Nat} {a:Act} {w:World} {o:Oper} {d:Nat} {ws:List Wr}
theorem EC {e:TypeId} {k:K} {v:Value} {cs:List Value} {h:Heap} {ok:Nat→Prop} {xs:List (El k)} (hv:VC (.sl e k) v cs) (hV:Vw h ok (.sl e k) xs cs) :
  ∃b n c,v=.slice b n c∧cs=[.slice b n c]∧n=xs.length∧n≤c∧(0<n→∃bb q,b=some ⟨bb,q,none⟩∧ok bb∧wH h bb e∧∀(i:Nat) (hi:i<xs.length),∃ds,Cells h bb (q+i * k.size) ds∧Vw h ok k xs[i] ds):=by
 obtain ⟨b,n,c,e1,e2,e3,e4⟩:=hV
 obtain ⟨e5,_⟩:cs=[v]∧_:=hv
 rw [e1] at e5
 simp only [List.cons.injEq,and_true] at e5
 exact ⟨b,n,c,e5.symm,e1,e2,e3,e4⟩
theorem Ni (hT:fu P T) (H:Rel cx σ α F a w) (hd:o.dst=some d) (hdn:d<cx.nt) {t:TypeId} {x y:Operand} (ho:o.op=.indexAddr t x y)
  (h:(match T.ty t with
   | some kk=>dN x fun a=>dN y fun i=>asInt i fun _ i=>wM kk a i fun u=>.ret [Wr.s d (.one u)]
   | none=>(.fail:Prog (List Wr))).ends σ ws):sM P cx o a w (aC ws σ):=by
 split at h
 case h_2=>exact h.elim
 rename_i k0 hty
 have ht:=hT.ty t k0 hty
 obtain ⟨v,h1,h2,h⟩:=bR H h
 obtain ⟨vi,h3,_,h⟩:=bR H h
 obtain ⟨ik,i,ei,_,h⟩:=zi h3 h
 have hrun:∀{e:TypeId} {k:K} {b q n c:Nat},k0=.sl e k→a.eval x=.slice (some ⟨b,q,none⟩) n c→0≤i→i<(n:Int)→(execOp a.eval o).run P w=.ok (.value (.pointer (some ⟨b,q+i.toNat * k.size,none⟩))) w:=by
  intro e k b q n c ek ev g0 g1
  subst ek
  have:=run_indexAt (w:=w) (ik:=ik) (b:=b) (q:=q) (c:=c) ht g0 g1
  simp only [execOp,ho,ev,ei,apD,this,apw,apI]
 have key:∀{r:Nat} {R:Root} {p:List Stp} {e:TypeId} {kk:K} {xs:List (El kk)} {cs:List Value} {wh:Option (Nat×Nat)},aR σ r R→bq σ R→aT p R.k R.x=some ⟨.sl e kk,xs⟩→K.sl e kk=k0→nX p R.k R.x→(∀t∈ah p R.k,ay t R.own=true)→
   bF (hp w) p R.k (α.hdr r) (eB α R r)=some (cs,wh)→VC (.sl e kk) (a.eval x) cs→aH i xs.length→
   ∃u,(execOp a.eval o).run P w=.ok (.value u) w∧bI cx σ α F w (.ptr r (p++[.idx i]) (gG R.h)) u∧bI cx σ α F w (.je e kk (xs.getD i.toNat kk.zero) (R.out r (.sl e kk))) u:=by
  intro r R p e kk xs cs wh hr hv hg ek fU hown hn Jw hin
  obtain ⟨gq,hO,hf⟩:=vR H hr hv hg fU hown hn
  have hV:=pE H hr hO hf
  obtain ⟨b,n,c,g1,g2,g3,g4,g5⟩:=EC Jw hV
  have i0:(0:Int)≤i:=hin.1
  have i1:i<(xs.length:Int):=hin.2
  have hlt:i.toNat<xs.length:=by omega
  obtain ⟨bb,q,rfl,hok,hel,hes⟩:=g5 (by rw [g3]; exact Nat.lt_of_le_of_lt (apM _) hlt)
  obtain ⟨ds,hc,hVd⟩:=hes i.toNat hlt
  refine ⟨_,hrun ek.symm g1 i0 (by rw [g3]; exact i1),⟨⟨bb,q+i.toNat * kk.size,rfl⟩, ?_⟩,⟨⟨bb,q+i.toNat * kk.size,rfl⟩,fun _=>⟨bb,_,ds,rfl,hc, ?_,hok.q, .inr ⟨hel,hok.2.2.1⟩⟩⟩⟩
  ·intro R' hR' _ _ _ _
   rw [hr.1] at hR'
   simp only [apd] at hR'
   subst hR'
   refine ⟨D5 p hg fU ⟨i0,i1,trivial⟩,qC (hp w) bb (q+i.toNat * kk.size) kk.size,bb,q+i.toNat * kk.size, ?_,rfl⟩
   rw [Cq p hg hn,g2]
   rfl
  ·rw [bY hlt]
   exact hVd
 cases v with
 | val k1 y Tg=>
  cases k1 with
  | sl e kk=>
   simp only [wM] at h
   rcases aB h with ⟨hc,h5⟩ | ⟨_,h5⟩
   ·have ek:=K.eq_of_beq hc
    obtain ⟨g1,g2⟩:=gM h5
    obtain ⟨hin,g3⟩:=g2
    rw [aD g3]
    obtain ⟨cs,Jw,hV⟩:=h1 (.inr g1)
    obtain ⟨b,n,c,f1,f2,f3,f4,f5⟩:=EC Jw hV
    obtain ⟨i0,i1⟩:=hin
    have hlt:i.toNat < @List.length (El kk) y:=by
     have i1':i<((@List.length (El kk) y:Nat):Int):=i1
     omega
    obtain ⟨bb,q,rfl,hok,hel,hes⟩:=f5 (by omega)
    obtain ⟨ds,hcs,hVd⟩:=hes i.toNat hlt
    refine bM (x:=.one (.je e kk _ Tg)) H hd hdn (hrun ek.symm f1 i0 (by rw [f3]; exact i1)) ⟨⟨bb,_,rfl⟩,fun _=>⟨bb,_,ds,rfl,hcs, ?_,hok.q, .inr ⟨hel,hok.2.2.1⟩⟩⟩ h2
    have eg:(show List (El kk) from y).getD i.toNat kk.zero=(show List (El kk) from y)[i.toNat]'hlt:=bY hlt
    rw [eg]
    exact hVd
   ·exact h5.elim
  | _=>exact h.elim
 | ref r g=>
  simp only [wM] at h
  obtain ⟨R,hr,hv,h⟩:=cO h
  rcases aB h with ⟨hc,h5⟩ | ⟨_,h5⟩
  ·obtain ⟨hka,Jw⟩:=h1 R hr (aph hc)
   have hg:aT [] R.k R.x=some ⟨R.k,R.x⟩:=rfl
   have hK:∀(q:Dat),aT [] R.k R.x=some q→∀hh:(match q.1,q.2 with
     | .sl e kk,xs=>bif ay e R.own && (K.sl e kk).beq k0 then Prog.xA (aH i (show List (El kk) from xs).length) inferInstance ((.ret [Wr.s d (.one (.ptr r [.idx i] (gG R.h)))]):Prog (List Wr)) else Prog.fail
     | _,_=>Prog.fail).ends σ ws,VC q.1 (a.eval x) (α.hdr r)→sM P cx o a w (aC ws σ):=by
    intro q hq hh Jw
    obtain ⟨qk,qx⟩:=q
    cases qk with
    | sl e kk=>
     simp only at hh
     rcases aB hh with ⟨hc2,h6⟩ | ⟨_,h6⟩
     ·simp only [apj] at hc2
      obtain ⟨hin,h7⟩:=h6
      rw [aD h7]
      obtain ⟨u,r1,r2,_⟩:=key (p:=[]) hr hv hq (K.eq_of_beq hc2.2) trivial (fun t ht=>by simp [ah] at ht) rfl Jw hin
      exact bM (x:=.one (.ptr r [.idx i] (gG R.h))) H hd hdn r1 r2 ⟨R,hr.1, .inr (apu _)⟩
     ·exact h6.elim
    | _=>exact hh.elim
   exact hK ⟨R.k,R.x⟩ hg h5 Jw
  ·exact h5.elim
 | xy r p nn=>
  simp only [wM] at h
  obtain ⟨R,hr,hv,h⟩:=cO h
  rcases aB h with ⟨hc,h5⟩ | ⟨_,h5⟩
  ·cases hg0:aT p R.k R.x with
   | none=>rw [hg0] at h5; exact h5.elim
   | some d0=>
    rw [hg0] at h5
    obtain ⟨g1,g2,cs,wh,g3,g4⟩:=h1 R hr.1 hv (aph hc) d0 hg0
    obtain ⟨dk,dx⟩:=d0
    cases dk with
    | sl e kk=>
     simp only at h5
     rcases aB h5 with ⟨_,h6⟩ | ⟨hk,h6⟩
     ·exact h6.elim
     ·have ek:K.sl e kk=k0:=K.eq_of_beq (by simpa using hk)
      rcases aB h6 with ⟨_,h7⟩ | ⟨_,h7⟩
      ·obtain ⟨hin,h8⟩:=h7
       rw [aD h8]
       obtain ⟨u,r1,r2,_⟩:=key hr hv hg0 ek g1 g2 g3 g4 hin
       exact bM (x:=.one (.ptr r (p++[.idx i]) (gG R.h))) H hd hdn r1 (show jT cx σ α F w (.one (.ptr r (p++[.idx i]) (gG R.h))) u from r2) ⟨R,hr.1, .inr (apu _)⟩
      ·obtain ⟨hin,h8⟩:=h7
       rw [aD h8]
       obtain ⟨u,r1,_,r3⟩:=key hr hv hg0 ek g1 g2 g3 g4 hin
       exact bM H hd hdn r1 (show jT cx σ α F w (.one (.je e kk _ (R.out r (.sl e kk)))) u from r3) (Oo H hr _)
    | _=>exact h5.elim
  ·exact h5.elim
 | _=>exact h.elim
theorem Ph (B:ByteArray) {n:Nat} (h:n<B.size):(bytesOf B).getD n 0=(B[n].toNat:Int):=by
 unfold bytesOf
 have:n<(B.data.toList.map fun b=>(b.toNat:Int)).length:=by simpa using h
 rw [bY this]
 simp
 rfl
theorem mO (B:ByteArray):(bytesOf B).length=B.size:=by simp [bytesOf]
theorem WI (hT:fu P T) (H:Rel cx σ α F a w) (hd:o.dst=some d) (hdn:d<cx.nt) {t:TypeId} {x y:Operand} (ho:o.op=.index t x y)
  (h:(dN x fun a=>dN y fun i=>asInt i fun _ i=>match T.ty t,a with
   | some .str, .val .str s _=>.xA (aH i (show List Int from s).length) inferInstance (.ret [Wr.s d (.one (.val (.int .u8) ((show List Int from s).getD i.toNat 0) []))])
   | _,_=>(.fail:Prog (List Wr))).ends σ ws):sM P cx o a w (aC ws σ):=by
 obtain ⟨v,h1,h2,h⟩:=bR H h
 obtain ⟨vi,h3,_,h⟩:=bR H h
 obtain ⟨ik,i,ei,_,h⟩:=zi h3 h
 cases hty:T.ty t with
 | none=>rw [hty] at h; exact h.elim
 | some k0=>
  rw [hty] at h
  cases k0 with
  | str=>
   cases v with
   | val k1 s Tg=>
    cases k1 with
    | str=>
     simp only at h
     obtain ⟨⟨i0,i1⟩,h4⟩:=h
     rw [aD h4]
     obtain ⟨B,e1,e2⟩:=yB h1
     subst e2
     have hu:P.underlying t=some .string:=by
      have:=hT.ty t .str hty
      unfold fM jU at this
      exact this.1
     have hlt:i.toNat<B.size:=by
      have i1':i<((bytesOf B).length:Int):=i1
      rw [mO] at i1'
      omega
     refine bM (v:=.int .u8 (B[i.toNat].toNat:Int)) H hd hdn ?_ ?_ (fun t ht=>by simp at ht)
     ·simp only [execOp,ho,e1,ei,Instr.index,asIntOf,apD,apI,apw,run_underlying hu]
      rw [if_pos i0]
      simp [hlt]
     ·have eg:(show List Int from bytesOf B).getD i.toNat 0=(B[i.toNat].toNat:Int):=Ph B hlt
      rw [eg]
      refine Uz ⟨by omega, ?_⟩
      have:=B[i.toNat].toNat_lt
      omega
    | _=>exact h.elim
   | _=>exact h.elim
  | _=>cases v <;> exact h.elim
theorem Uw {l:List AV} {vs:List Value} (h:fG cx σ α F w l vs) {i:Nat} {x:AV} (hi:l[i]?=some x):∃v,vs[i]?=some v∧bI cx σ α F w x v:=by
 induction l generalizing vs i with
 | nil=>simp at hi
 | cons b l ih=>
  cases vs with
  | nil=>exact h.elim
  | cons u vs=>
   cases i with
   | zero=>simp only [List.getElem?_cons_zero,apd] at hi; subst hi; exact ⟨u,rfl,h.1⟩
   | succ i=>simp only [List.getElem?_cons_succ] at hi; obtain ⟨v,h1,h2⟩:=ih h.2 hi; exact ⟨v,by simpa using h1,h2⟩
theorem Q9 (H:Rel cx σ α F a w) (hd:o.dst=some d) (hdn:d<cx.nt) {x:Operand} {i:Nat} (ho:o.op=.extract x i)
  (h:(u6 x fun
   | .J7 l=>match l[i]? with
    | some u=>.ret [Wr.s d (.one u)]
    | none=>.fail
   | _=>(.fail:Prog (List Wr))).ends σ ws):sM P cx o a w (aC ws σ):=by
 obtain ⟨v,h1,h2,h⟩:=tK H h
 cases v with
 | one u=>exact h.elim
 | J7 l=>
  simp only at h
  cases hi:l[i]? with
  | none=>rw [hi] at h; exact h.elim
  | some u=>
   rw [hi] at h
   rw [aD h]
   obtain ⟨vs,e1,e2⟩:=h1
   obtain ⟨v,g1,g2⟩:=Uw e2 hi
   refine bM (x:=.one u) (v:=v) H hd hdn ?_ g2 (h2 u (List.mem_of_getElem? hi))
   simp [execOp,ho,e1,Instr.extract,g1]
end
end
section
open Go
variable [Fr]
theorem nR (ik:IntKind) (n:Int):JB ik (ik.wrap n):=by
 cases ik <;> simp only [JB]
 simp only [IntKind.wrap,IntKind.bits,IntKind.signed]
 simp
 omega
section
variable {P:Program} {cx:Cx} {σ:St} {α:dK} {F:List Nat} {a:Act} {w:World} {o:Oper} {d:Nat} {ws:List Wr}
theorem pJ (ik:IntKind) {n:Int} (h:JB ik n):jT cx σ α F w (v1 (.int ik) n) (.int ik n):=Uz h
theorem jf (b:Bool):jT cx σ α F w (v1 .bool b) (.bool b):=abU
theorem BC {k:K} {x:El k}:Ah σ (v1 k x):=fun t ht=>by simp at ht
theorem Xi {op:BinOp} {ik:IntKind} {x y:Int} {z:List Wr} (hx:JB ik x) (hy:JB ik y) (ht:TypeId) {k:yQ→Prog (List Wr)} (hk:∀v,k v=.ret [Wr.s d v]) (h:(Vx op ik x y k).ends σ z) :
  ∃kk y',(∃v,(Go.binOp op ht (.int ik x) (.int ik y)).run P w=.ok v w∧jT cx σ α F w (v1 kk y') v)∧z=[Wr.s d (v1 kk y')]:=by
 unfold Vx at h
 cases op <;> simp only [hk] at h
 case add=>exact ⟨.int ik,_,⟨_,by simp [Go.binOp,Op.intArith],pJ ik (nR ik _)⟩,aD h⟩
 case sub=>exact ⟨.int ik,_,⟨_,by simp [Go.binOp,Op.intArith],pJ ik (nR ik _)⟩,aD h⟩
 case mul=>exact ⟨.int ik,_,⟨_,by simp [Go.binOp,Op.intArith],pJ ik (nR ik _)⟩,aD h⟩
 case quo=>
  obtain ⟨h0,h⟩:=h
  exact ⟨.int ik,_,⟨_,by simp [Go.binOp,Op.intDiv,h0],pJ ik (nR ik _)⟩,aD h⟩
 case rem=>
  obtain ⟨h0,h⟩:=h
  refine ⟨.int ik,_,⟨_,by simp [Go.binOp,Op.intDiv,h0],pJ ik ?_⟩,aD h⟩
  cases ik <;> simp only [JB] at hx hy ⊢
  have h1:=Int.tmod_nonneg y hx.1
  have h2:x.tmod y<y:=by
   rw [Int.tmod_eq_emod_of_nonneg hx.1]
   exact Int.emod_lt_of_pos x (by omega)
  omega
 case and=>exact ⟨.int ik,_,⟨_,by simp [Go.binOp,Op.intBits],pJ ik (nR ik _)⟩,aD h⟩
 case or=>exact ⟨.int ik,_,⟨_,by simp [Go.binOp,Op.intBits],pJ ik (nR ik _)⟩,aD h⟩
 case xor=>exact ⟨.int ik,_,⟨_,by simp [Go.binOp,Op.intBits],pJ ik (nR ik _)⟩,aD h⟩
 case andNot=>exact ⟨.int ik,_,⟨_,by simp [Go.binOp,Op.intBits],pJ ik (nR ik _)⟩,aD h⟩
 case eql=>exact ⟨.bool,_,⟨.bool (decide (x=y)),by simp only [Go.binOp,ne_eq,not_true_eq_false, ↓reduceIte]; rfl,jf _⟩,aD h⟩
 case neq=>exact ⟨.bool,_,⟨.bool (!decide (x=y)),by simp only [Go.binOp,ne_eq,not_true_eq_false, ↓reduceIte]; rfl,jf _⟩,aD h⟩
 case lss=>exact ⟨.bool,_,⟨_,by simp [Go.binOp,Op.intCmp],jf _⟩,aD h⟩
 case leq=>exact ⟨.bool,_,⟨_,by simp [Go.binOp,Op.intCmp],jf _⟩,aD h⟩
 case gtr=>exact ⟨.bool,_,⟨_,by simp [Go.binOp,Op.intCmp],jf _⟩,aD h⟩
 case geq=>exact ⟨.bool,_,⟨_,by simp [Go.binOp,Op.intCmp],jf _⟩,aD h⟩
 all_goals exact h.elim
theorem ZP:∀(x y:List UInt8),Bd (x.map fun b=>(b.toNat:Int)) (y.map fun b=>(b.toNat:Int))=Op.bytesLess x y:=by
 intro x
 induction x with
 | nil=>intro y; cases y <;> rfl
 | cons a x ih=>
  intro y
  cases y with
  | nil=>rfl
  | cons b y=>
   simp only [List.map_cons,Bd,Op.bytesLess,ih]
   have h1:decide ((a.toNat:Int)<(b.toNat:Int))=decide (a<b):=by
    apply decide_eq_decide.2
    rw [UInt8.lt_iff_toNat_lt]
    omega
   have h2:decide ((a.toNat:Int)=(b.toNat:Int))=(a == b):=by
    rw [show (a == b)=decide (a=b) from rfl]
    apply decide_eq_decide.2
    rw [←UInt8.toNat_inj]
    omega
   rw [h1,h2]
theorem RY:∀{x y:List UInt8},x.map (fun b=>(b.toNat:Int))=y.map (fun b=>(b.toNat:Int))↔x=y:=by
 intro x
 induction x with
 | nil=>intro y; cases y <;> simp
 | cons a x ih=>
  intro y
  cases y with
  | nil=>simp
  | cons b y=>
   simp only [List.map_cons,List.cons.injEq,ih]
   have:(a.toNat:Int)=(b.toNat:Int)↔a=b:=by rw [←UInt8.toNat_inj]; omega
   rw [this]
theorem QX {A B:ByteArray}:bytesOf A=bytesOf B↔A.toList=B.toList:=by
 unfold bytesOf
 rw [RY,ByteArray.toList_eq,ByteArray.toList_eq]
theorem Ai {A B:ByteArray}:(A.toList == B.toList)=decide (bytesOf A=bytesOf B):=by
 rw [show (A.toList == B.toList)=decide (A.toList=B.toList) from by
  cases h:(A.toList == B.toList) with
  | true=>simp [eq_of_beq h]
  | false=>simp [ne_of_beq_false h]]
 exact decide_eq_decide.2 QX.symm
theorem vN {A B:ByteArray}:Op.bytesLess A.toList B.toList=Bd (bytesOf A) (bytesOf B):=by
 unfold bytesOf
 rw [ZP,ByteArray.toList_eq,ByteArray.toList_eq]
theorem KU (A B:ByteArray):bytesOf (A++B)=bytesOf A++bytesOf B:=by
 unfold bytesOf
 rw [←List.map_append]
 congr 1
theorem XP {op:BinOp} {A B:ByteArray} {z:List Wr} (ht:TypeId) {k:yQ→Prog (List Wr)} (hk:∀v,k v=.ret [Wr.s d v]) (h:(aaz op (bytesOf A) (bytesOf B) k).ends σ z) :
  ∃kk y',(∃v,(Go.binOp op ht (.string A) (.string B)).run P w=.ok v w∧jT cx σ α F w (v1 kk y') v)∧z=[Wr.s d (v1 kk y')]:=by
 unfold aaz at h
 cases op <;> simp only [hk] at h
 case add=>
  obtain ⟨h0,h⟩:=h
  rw [mO,mO] at h0
  refine ⟨.str,bytesOf A++bytesOf B,⟨.string (A++B), ?_, ?_⟩,aD h⟩
  ·have:¬(((A.size+B.size:Nat):Int)>IntKind.i64.max):=by
    simp only [IntKind.max,IntKind.signed,IntKind.bits]
    simp
    omega
   simp only [Go.binOp,Op.stringOp]
   rw [if_neg this]
   rfl
  ·rw [←KU]; exact UA
 case eql=>exact ⟨.bool,_,⟨.bool (decide (bytesOf A=bytesOf B)),by simp only [Go.binOp,Op.stringOp]; rw [Ai]; rfl,jf _⟩,aD h⟩
 case neq=>exact ⟨.bool,_,⟨.bool (!decide (bytesOf A=bytesOf B)),by simp only [Go.binOp,Op.stringOp]; rw [Ai]; rfl,jf _⟩,aD h⟩
 case lss=>exact ⟨.bool,_,⟨.bool (Bd (bytesOf A) (bytesOf B)),by simp only [Go.binOp,Op.stringOp]; rw [vN]; rfl,jf _⟩,aD h⟩
 case leq=>exact ⟨.bool,_,⟨.bool (Bd (bytesOf A) (bytesOf B) || decide (bytesOf A=bytesOf B)),by simp only [Go.binOp,Op.stringOp]; rw [vN,Ai]; rfl,jf _⟩,aD h⟩
 case gtr=>exact ⟨.bool,_,⟨.bool (!(Bd (bytesOf A) (bytesOf B) || decide (bytesOf A=bytesOf B))),by simp only [Go.binOp,Op.stringOp]; rw [vN,Ai]; rfl,jf _⟩,aD h⟩
 case geq=>exact ⟨.bool,_,⟨.bool (!Bd (bytesOf A) (bytesOf B)),by simp only [Go.binOp,Op.stringOp]; rw [vN]; rfl,jf _⟩,aD h⟩
 all_goals exact h.elim
theorem YN (H:Rel cx σ α F a w) (hd:o.dst=some d) (hdn:d<cx.nt) {t:TypeId} {x:Operand} {op:UnOp} (ho:o.op=.unOp op t x)
  (h:(dN x fun a=>unP op a fun v=>(.ret [Wr.s d v]:Prog (List Wr))).ends σ ws):sM P cx o a w (aC ws σ):=by
 obtain ⟨v,h1,h2,h⟩:=bR H h
 unfold unP at h
 split at h
 ·obtain ⟨e1,e2⟩:=yA h1
  rw [aD h]
  exact bM H hd hdn (by simp [execOp,ho,e1,Op.unary,Op.intArith]) (pJ _ (nR _ _)) BC
 ·obtain ⟨e1,e2⟩:=yA h1
  rw [aD h]
  exact bM H hd hdn (by simp [execOp,ho,e1,Op.unary,Op.intBits]) (pJ _ (nR _ _)) BC
 ·have e1:=zU h1
  rw [aD h]
  exact bM H hd hdn (by simp [execOp,ho,e1,Op.unary]) (jf _) BC
 ·exact h.elim
end
end
section
open Go
variable [Fr]
section
variable {P:Program} {T:ji} {cx:Cx} {σ:St} {α:dK} {F:List Nat} {a:Act} {w:World} {o:Oper} {d:Nat} {ws:List Wr}
theorem Bv {op:BinOp} {t:TypeId} {x y:Operand} {u v:Value} (h:(∀c,u≠.agg c)∧u≠.nilIface):(eqGuard op t x y u v).run P w=.ok () w:=by
 unfold eqGuard
 cases op <;> simp only [apF,apQ,apg, ↓reduceIte] <;> first | rfl | skip
 all_goals (cases u <;> first | rfl | exact absurd rfl (h.1 _) | exact absurd rfl h.2)
theorem AJ:∃n,Op.maxDepth=n+1:=⟨Op.maxDepth - 1,by unfold Op.maxDepth; rfl⟩
theorem run_equal_bool {t:TypeId} (h:P.underlying t=some .bool) (x y:Bool):(Op.equal t (.bool x) (.bool y)).run P w=.ok (x == y) w:=by
 obtain ⟨n,e⟩:=AJ
 unfold Op.equal
 rw [e]
 simp [Op.equalIn,run_underlying h]
theorem DT {t e:TypeId} (h:P.underlying t=some (.pointer e)) {u v:Option Addr} (hn:u=none∨v=none):(Op.equal t (.pointer u) (.pointer v)).run P w=.ok (u.isNone && v.isNone) w:=by
 obtain ⟨n,e⟩:=AJ
 unfold Op.equal
 rw [e]
 rcases hn with rfl | rfl
 ·simp [Op.equalIn,run_underlying h]
 ·cases u <;> simp [Op.equalIn,run_underlying h]
theorem XB {x y:AV} {u v:Value} {b:Bool} (hx:bI cx σ α F w x u) (hy:bI cx σ α F w y v) (h:R6 x y=some b):∃p q,u=.pointer p∧v=.pointer q∧(p=none∨q=none)∧(p.isNone && q.isNone)=b:=by
 unfold R6 at h
 split at h <;> simp only [apd,reduceCtorEq] at h <;> subst h
 ·exact ⟨none,none,hx,hy, .inl rfl,rfl⟩
 ·obtain ⟨b,q,e⟩:=hy.1; exact ⟨none,_,hx,e, .inl rfl,rfl⟩
 ·obtain ⟨b,q,e⟩:=hx.1; exact ⟨_,none,e,hy, .inr rfl,rfl⟩
 ·obtain ⟨b,q,e⟩:=hy.1; exact ⟨none,_,hx,e, .inl rfl,rfl⟩
 ·obtain ⟨b,q,e⟩:=hx.1; exact ⟨_,none,e,hy, .inr rfl,rfl⟩
def M8 (P:Program) (T:ji):Prop:=∀(t:TypeId) (c:K) (x y:El c) (u v:Array Value) (w:World) (hp1 hp2:Heap) (ok1 ok2:Nat→Prop),T.ty t=some (.st c)→T.eq t=true→c.flat=true→
 Vw hp1 ok1 c x u.toList→Vw hp2 ok2 c y v.toList→(Op.equal t (.agg u) (.agg v)).run P w=.ok (Av c x y) w∧∀x y op,(eqGuard op t x y (.agg u) (.agg v)).run P w=.ok () w
theorem TB {A:Type} {z:A} {t:TypeId} {op:BinOp} {u v:AV} {k:yQ→Prog A} (h:(QV T t op u v k).ends σ z) :
  (∃ik x T1 jk y T2,u=.val (.int ik) x T1∧v=.val (.int jk) y T2)∨(∃x T1 y T2,u=.val .bool x T1∧v=.val .bool y T2)∨(∃x T1 y T2,u=.val .str x T1∧v=.val .str y T2)∨
  (∃c x T1 e y T2,u=.val (.st c) x T1∧v=.val (.st e) y T2)∨(T.ptr t=true∧∃b,R6 u v=some b∧((op=.eql∧(k (v1 .bool b)).ends σ z)∨(op=.neq∧(k (v1 .bool (!b))).ends σ z))):=by
 unfold QV at h
 split at h
 ·exact .inl ⟨_,_,_,_,_,_,rfl,rfl⟩
 ·exact .inr (.inl ⟨_,_,_,_,rfl,rfl⟩)
 ·exact .inr (.inr (.inl ⟨_,_,_,_,rfl,rfl⟩))
 ·exact .inr (.inr (.inr (.inl ⟨_,_,_,_,_,_,rfl,rfl⟩)))
 ·rcases aB h with ⟨hp,h5⟩ | ⟨_,h5⟩
  ·cases hn:R6 u v with
   | none=>rw [hn] at h5; exact h5.elim
   | some b=>
    rw [hn] at h5
    cases op with
    | eql=>exact .inr (.inr (.inr (.inr ⟨hp,b,rfl, .inl ⟨rfl,h5⟩⟩)))
    | neq=>exact .inr (.inr (.inr (.inr ⟨hp,b,rfl, .inr ⟨rfl,h5⟩⟩)))
    | _=>exact h5.elim
  ·exact h5.elim
theorem Ny {t e:TypeId} (h:P.underlying t=some (.slice e)) (p:Option Addr) (n c:Nat):(Go.binOp .eql t (.slice p n c) (.slice none 0 0)).run P w=.ok (.bool p.isNone) w:=by
 obtain ⟨m,em⟩:=AJ
 have:(Op.equal t (.slice p n c) (.slice none 0 0)).run P w=.ok p.isNone w:=by
  unfold Op.equal
  rw [em]
  cases p <;> simp [Op.equalIn,run_underlying h]
 simp only [Go.binOp]
 simp [this,Result.andThen]
theorem TU (hT:fu P T) (hSt:M8 P T) (H:Rel cx σ α F a w) (hd:o.dst=some d) (hdn:d<cx.nt) {t t2:TypeId} {x y:Operand} {op:BinOp} (ho:o.op=.binOp op t x y t2)
  (h:(dN x fun a=>dN y fun b=>QV T t op a b fun v=>(.ret [Wr.s d v]:Prog (List Wr))).ends σ ws):sM P cx o a w (aC ws σ):=by
 obtain ⟨u,h1,hu1,h5⟩:=bR H h
 obtain ⟨v,h3,hu3,h6⟩:=bR H h5
 clear h h5
 have h:=h6
 clear h6
 have hrun:∀{z:Value},((∀c,a.eval x≠.agg c)∧a.eval x≠.nilIface)→(Go.binOp op t (a.eval x) (a.eval y)).run P w=.ok z w→(execOp a.eval o).run P w=.ok (.value z) w:=by
  intro z hz h
  have hg:=Bv (P:=P) (w:=w) (op:=op) (t:=t) (x:=x) (y:=y) (v:=a.eval y) hz
  simp only [execOp,ho,apD,hg,h,apw,apI]
 rcases TB h with ⟨ik,x1,T1,jk,y1,T2,rfl,rfl⟩ | ⟨x1,T1,y1,T2,rfl,rfl⟩ | ⟨x1,T1,y1,T2,rfl,rfl⟩ | ⟨c,x1,T1,dd,y1,T2,rfl,rfl⟩ | ⟨hp,b,hne,hop⟩
 ·obtain ⟨e1,r1⟩:=yA h1
  obtain ⟨e2,r2⟩:=yA h3
  have hag:(∀c,a.eval x≠.agg c)∧a.eval x≠.nilIface:=by rw [e1]; simp
  have hplain:(bif Bc ik jk then Vx op ik x1 y1 fun v=>(.ret [Wr.s d v]:Prog (List Wr)) else .fail).ends σ ws→sM P cx o a w (aC ws σ):=by
   intro h
   rcases aB h with ⟨hik,h⟩ | ⟨_,h⟩
   ·have:=Cg hik
    subst this
    obtain ⟨kk,y',⟨z,g1,g2⟩,g3⟩:=Xi (P:=P) (cx:=cx) (σ:=σ) (α:=α) (F:=F) (w:=w) (d:=d) r1 r2 t (fun v=>rfl) h
    rw [g3]
    exact bM H hd hdn (hrun hag (by rw [e1,e2]; exact g1)) g2 BC
   ·exact h.elim
  cases op with
  | shl=>
   obtain ⟨h0,h⟩:=h
   rw [aD h]
   refine bM H hd hdn (hrun hag (z:=.int ik (ik.wrap (x1 * 2 ^ min y1.toNat ik.bits))) ?_) (pJ ik (nR _ _)) BC
   rw [e1,e2]
   simp only [Go.binOp,Op.shift]
   rw [if_neg (Int.not_lt.2 h0)]
   rfl
  | shr=>
   obtain ⟨h0,h⟩:=h
   rw [aD h]
   refine bM H hd hdn (hrun hag (z:=.int ik (x1.fdiv (2 ^ min y1.toNat ik.bits))) ?_) (pJ ik ?_) BC
   ·rw [e1,e2]
    simp only [Go.binOp,Op.shift]
    rw [if_neg (Int.not_lt.2 h0)]
    rfl
   ·cases ik <;> simp only [JB] at r1 ⊢
    have hp:(0:Int)<2 ^ min y1.toNat IntKind.u8.bits:=Int.pow_pos (by omega)
    have g1:0≤x1.fdiv (2 ^ min y1.toNat IntKind.u8.bits):=Int.fdiv_nonneg r1.1 (Int.le_of_lt hp)
    have g2:x1.fdiv (2 ^ min y1.toNat IntKind.u8.bits)≤x1:=by
     rw [Int.fdiv_eq_ediv_of_nonneg _ (Int.le_of_lt hp)]
     exact Int.ediv_le_self _ r1.1
    omega
  | _=>exact hplain h
 ·have e1:=zU h1
  have e2:=zU h3
  have hag:(∀c,a.eval x≠.agg c)∧a.eval x≠.nilIface:=by rw [e1]; simp
  have hub:T.ty t=some .bool→P.underlying t=some .bool:=fun hty=>by
   have:=hT.ty t .bool hty
   unfold fM jU at this
   exact this.1
  cases hty:T.ty t with
  | none=>simp only [QV,hty] at h; exact h.elim
  | some k0=>
   cases k0 with
   | bool=>
    have hu:=hub hty
    simp only [QV,hty] at h
    cases op with
    | eql=>
     rw [aD h]
     refine bM H hd hdn (hrun hag (z:=.bool (x1 == y1)) ?_) (jf _) BC
     rw [e1,e2]
     simp only [Go.binOp,apD,run_equal_bool hu,apw,apI]
    | neq=>
     rw [aD h]
     refine bM H hd hdn (hrun hag (z:=.bool (!(x1 == y1))) ?_) (jf _) BC
     rw [e1,e2]
     simp only [Go.binOp,apD,run_equal_bool hu,apw,apI]
    | _=>exact h.elim
   | _=>simp only [QV,hty] at h; exact h.elim
 ·obtain ⟨A,e1,f1⟩:=yB h1
  obtain ⟨B,e2,f2⟩:=yB h3
  subst f1
  subst f2
  have hag:(∀c,a.eval x≠.agg c)∧a.eval x≠.nilIface:=by rw [e1]; simp
  obtain ⟨kk,y',⟨z,g1,g2⟩,g3⟩:=XP (P:=P) (cx:=cx) (σ:=σ) (α:=α) (F:=F) (w:=w) (d:=d) t (fun v=>rfl) h
  rw [g3]
  exact bM H hd hdn (hrun hag (by rw [e1,e2]; exact g1)) g2 BC
 ·simp only [QV] at h
  cases hck:bP (.st dd) (.st c) y1 with
  | none=>rw [hck] at h; exact h.elim
  | some y2=>
   rw [hck] at h
   obtain ⟨ek,ey⟩:=bL hck
   simp only [K.st.injEq] at ek
   subst ek
   simp only at ey
   subst ey
   simp only at h
   rcases aB h with ⟨hc,h5⟩ | ⟨_,h5⟩
   ·simp only [apj] at hc
    have hty:T.ty t=some (.st dd):=by
     have h2:=hc.2
     cases ht:T.ty t with
     | none=>rw [ht] at h2; simp at h2
     | some kk=>rw [ht] at h2; rw [K.eq_of_beq h2]
    obtain ⟨cs1,e1,V1⟩:=h1 (.inl hc.1.1)
    obtain ⟨cs2,e2,V2⟩:=h3 (.inl hc.1.1)
    have e1':a.eval x=.agg cs1.toArray:=e1
    have e2':a.eval y=.agg cs2.toArray:=e2
    obtain ⟨r1,r2⟩:=hSt t dd x1 y2 cs1.toArray cs2.toArray w _ _ _ _ hty hc.1.2 hc.1.1 (show Vw _ _ dd x1 cs1 from V1) (show Vw _ _ dd y2 cs2 from V2)
    have N8:∀{z:Value},(Go.binOp op t (a.eval x) (a.eval y)).run P w=.ok z w→(execOp a.eval o).run P w=.ok (.value z) w:=by
     intro z h
     have hg:=r2 x y op
     rw [←e1', ←e2'] at hg
     simp only [execOp,ho,apD,hg,h,apw,apI]
    cases op with
    | eql=>
     rw [aD h5]
     refine bM H hd hdn (N8 (z:=.bool (Av dd x1 y2)) ?_) (jf _) BC
     rw [e1',e2']
     simp only [Go.binOp,apD,r1,apw,apI]
    | neq=>
     rw [aD h5]
     refine bM H hd hdn (N8 (z:=.bool (!Av dd x1 y2)) ?_) (jf _) BC
     rw [e1',e2']
     simp only [Go.binOp,apD,r1,apw,apI]
    | _=>exact h5.elim
   ·exact h5.elim
 ·obtain ⟨e,hu⟩:=hT.ptr t hp
  obtain ⟨p,q,e1,e2,hn,hb⟩:=XB h1 h3 hne
  have hag:(∀c,a.eval x≠.agg c)∧a.eval x≠.nilIface:=by rw [e1]; simp
  rcases hop with ⟨rfl,h5⟩ | ⟨rfl,h5⟩
  ·rw [aD h5]
   refine bM H hd hdn (hrun hag (z:=.bool b) ?_) (jf _) BC
   rw [e1,e2]
   simp only [Go.binOp,apD,DT hu hn,hb,apw,apI]
  ·rw [aD h5]
   refine bM H hd hdn (hrun hag (z:=.bool (!b)) ?_) (jf _) BC
   rw [e1,e2]
   simp only [Go.binOp,apD,DT hu hn,hb,apw,apI]
theorem WB (hT:fu P T) (hSt:M8 P T) (H:Rel cx σ α F a w) (hd:o.dst=some d) (hdn:d<cx.nt) {t t2:TypeId} {x y:Operand} {op:BinOp} (ho:o.op=.binOp op t x y t2)
  (h:(TA T t op x y fun v=>(.ret [Wr.s d v]:Prog (List Wr))).ends σ ws):sM P cx o a w (aC ws σ):=by
 unfold TA at h
 rcases aB h with ⟨hc,h⟩ | ⟨_,h⟩
 ·simp only [apj] at hc
  have ey:y=.const (.slice none 0 0):=by
   have:=hc.1
   unfold ZF at this
   split at this
   ·rfl
   ·simp at this
  have eop:op=.eql:=by
   have:=hc.2
   unfold ac0 at this
   split at this
   ·rfl
   ·simp at this
  subst ey eop
  obtain ⟨u,h1,hu1,h5⟩:=bR H h
  unfold aip at h5
  split at h5
  ·rename_i e kk hty
   obtain ⟨kk',z,Tg,cs,g1,g2,g3,h6⟩:=vS H h1 hu1 h5
   cases kk' with
   | sl e' kk'=>
    simp only at h6
    rw [aD h6]
    obtain ⟨p,n,c,rfl,g5,g6,g7⟩:=g2
    have ev:a.eval x=.slice p n c:=by
     have:=g1.cells
     obtain ⟨g8,g9⟩:=g1
     first
      | exact (List.cons.inj g8.symm).1
      | (simp only [List.cons.injEq,and_true] at g8; exact g8.symm)
      | exact g8
    have hu:=(fM.sl (hT.ty t _ hty)).1
    have hag:(∀c,a.eval x≠.agg c)∧a.eval x≠.nilIface:=by rw [ev]; simp
    have hg:=Bv (P:=P) (w:=w) (op:=.eql) (t:=t) (x:=x) (y:=.const (.slice none 0 0)) (v:=a.eval (.const (.slice none 0 0))) hag
    have hr:=Ny (w:=w) hu p n c
    refine bM (v:=.bool p.isNone) H hd hdn ?_ (show bI cx σ α F w (.Bz _) _ from ⟨_,rfl,fun hp=>?_⟩) trivial
    ·have e2:a.eval (.const (.slice none 0 0))=.slice none 0 0:=rfl
     have hr':(Go.binOp .eql t (a.eval x) (a.eval (.const (.slice none 0 0)))).run P w=.ok (.bool p.isNone) w:=by rw [ev,e2]; exact hr
     simp only [execOp,ho,apD,hg,hr',apw,apI]
    ·cases p with
     | some q=>simp at hp
     | none=>
      have hn:n=0:=by
       refine apA fun hne=>?_
       obtain ⟨b,o,e1,_⟩:=g7 (by omega)
       simp at e1
      have g5':n=@List.length (El kk') z:=g5
      rw [List.isEmpty_iff_length_eq_zero, ←g5',hn]
   | _=>exact h6.elim
  ·exact h5.elim
 ·exact TU hT hSt H hd hdn ho h
end
end
section
open Go
variable [Fr]
section
variable {P:Program} {T:ji} {cx:Cx} {σ:St} {α:dK} {F:List Nat} {a:Act} {w:World} {o:Oper} {d:Nat} {ws:List Wr}
theorem jE {c:Call} {b:Builtin} (ho:o.op=.call c) (hb:c.callee=.builtin b):∃cs,(execOp a.eval o).run P w=(builtin b c.argTypes o.type cs (c.args.map a.eval)).run P w:=
 ⟨_,by simp only [execOp,ho,resolve,hb,apD,apI,apw,invoke]; rfl⟩
theorem fM.str {t:TypeId} (h:fM P T t .str):P.underlying t=some .string:=by
 unfold fM jU at h
 exact h.1
theorem ve (hT:fu P T) {c:Call} {i:Nat} {k:K} (h:(c.argTypes[i]?).bind T.ty=some k):∃t,c.argTypes[i]?=some t∧fM P T t k:=by
 cases ht:c.argTypes[i]? with
 | none=>rw [ht] at h; simp at h
 | some t=>rw [ht] at h; exact ⟨t,rfl,hT.ty t k h⟩
theorem VQ {ats:Array TypeId} {ty t:TypeId} {v:Value} {n:Nat} {args:Array Value} (ha:ats[0]?=some t) (hv:args[0]?=some v) (h:(P.underlying t=some .string∧∃B:ByteArray,v=.string B∧B.size=n)∨((∃e,P.underlying t=some (.slice e))∧∃b c,v=.slice b n c)) :
  (Builtin.len_ ats ty args).run P w=.ok (.int .i64 (n:Int)) w:=by
 unfold Builtin.len_
 simp only [ha,hv]
 rcases h with ⟨hu,B,rfl,rfl⟩ | ⟨⟨e,hu⟩,b,c,rfl⟩
 ·simp [run_underlying hu,goInt]
 ·simp [run_underlying hu,goInt]
theorem abt (hT:fu P T) (H:Rel cx σ α F a w) (hd:o.dst=some d) (hdn:d<cx.nt) {c:Call} (ho:o.op=.call c) (hb:c.callee=.builtin .len)
  (h:(jR c.args.toList fun
   | [.iQ]=>match (c.argTypes[0]?).bind T.ty with
    | some (.sl _ _)=>(.ret [Wr.s d (.one (.val (.int .i64) 0 []))]:Prog (List Wr))
    | _=>.fail
   | [.val .str s _]=>match (c.argTypes[0]?).bind T.ty with
    | some .str=>.ret [Wr.s d (.one (.val (.int .i64) ((show List Int from s).length:Int) []))]
    | _=>.fail
   | [a]=>match (c.argTypes[0]?).bind T.ty with
    | some (.sl _ _)=>vB a fun kk x _=>match kk,x with
     | .sl _ kk,xs=>.ret [Wr.s d (.one (.val (.int .i64) ((show List (El kk) from xs).length:Int) []))]
     | _,_=>.fail
    | _=>.fail
   | _=>.fail).ends σ ws):sM P cx o a w (aC ws σ):=by
 obtain ⟨vs,h1,h2,h⟩:=jm H h
 have hfin:∀{t:TypeId} {n:Nat} {v:Value} {x:Operand},c.args.toList=[x]→c.argTypes[0]?=some t→a.eval x=v→((P.underlying t=some .string∧∃B:ByteArray,v=.string B∧B.size=n)∨((∃e,P.underlying t=some (.slice e))∧∃b c,v=.slice b n c))→
   sM P cx o a w (aC [Wr.s d (.one (.val (.int .i64) (n:Int) []))] σ):=by
  intro t n v x hx ht hv hs
  have ha:(c.args.map a.eval)[0]?=some v:=by
   rw [←Array.getElem?_toList,Array.toList_map,hx]
   simp [hv]
  refine bM H hd hdn ?_ (pJ .i64 (n:=(n:Int)) trivial) BC
  obtain ⟨cc,hcc⟩:=jE (P:=P) (a:=a) (w:=w) ho hb
  rw [hcc]
  simp only [builtin,apD,VQ (ty:=o.type) (w:=w) ht ha hs,apw,apI]
 have hone:∀{u:AV},vs=[u]→∃x,c.args.toList=[x]∧bI cx σ α F w u (a.eval x):=by
  intro u e
  subst e
  cases hl:c.args.toList with
  | nil=>rw [hl] at h1; exact h1.elim
  | cons x l=>
   rw [hl] at h1
   cases l with
   | nil=>exact ⟨x,rfl,h1.1⟩
   | cons y l=>exact h1.2.elim
 split at h
 ·obtain ⟨x,hx,hu⟩:=hone rfl
  split at h
  ·rename_i hty
   obtain ⟨t,ht,hk⟩:=ve hT hty
   rw [aD h]
   obtain ⟨b,e⟩:=hu
   exact hfin (n:=0) hx ht rfl (.inr ⟨⟨_,hk.sl.1⟩,b,0,e⟩)
  ·exact h.elim
 ·obtain ⟨x,hx,hu⟩:=hone rfl
  split at h
  ·rename_i hty
   obtain ⟨t,ht,hk⟩:=ve hT hty
   rw [aD h]
   obtain ⟨B,e1,e2⟩:=yB hu
   subst e2
   have e:(show List Int from bytesOf B).length=B.size:=mO B
   rw [e]
   exact hfin (n:=B.size) hx ht rfl (.inl ⟨hk.str,B,e1,rfl⟩)
  ·exact h.elim
 ·obtain ⟨x,hx,hu⟩:=hone rfl
  split at h
  ·rename_i hty
   obtain ⟨t,ht,hk⟩:=ve hT hty
   obtain ⟨kk,y,Tg,cs,g1,g2,g3,g4⟩:=vS H hu (h2 _ (by simp)) h
   cases kk with
   | sl e kk=>
    rw [aD g4]
    obtain ⟨b,n,cc,f1,f2,f3,f4,f5⟩:=EC g1 g2
    have e:((@List.length (El kk) y:Nat):Int)=(n:Int):=by rw [f3]
    have e':(show List (El kk) from y).length=n:=f3.symm
    rw [e']
    exact hfin (n:=n) hx ht rfl (.inr ⟨⟨_,hk.sl.1⟩,b,cc,f1⟩)
   | _=>exact g4.elim
  ·exact h.elim
 ·exact h.elim
theorem NL (H:Rel cx σ α F a w) {r:Nat} {R:Root} (hr:aR σ r R) {b:Nat} (hb:b∈blk α R r) (hnb:¬mG cx b):iT cx σ α F w ((r,gG R.w) :: R.tags) b:=by
 have hm:=(H.roots r R hr).mine b hb
 refine ⟨hm.1,H.jB r R hr b hb,hnb,fun q Q hq hbq=>?_,fun h0=>?_⟩
 ·by_cases e:q=r
  ·subst e; exact ⟨gG R.w,by simp⟩
  ·exact absurd hb (H.MX q Q r R hq hr e b hbq)
 ·rcases hm.2 with h | ⟨j,pi,h1,h2⟩
  ·omega
  ·exact .inr ⟨j,pi,h1,h2⟩
theorem YE {A:Type} {z:A} (H:Rel cx σ α F a w):∀{l:List AV} {vs:List Value} {k:List (TypeId×Dat×List Tag)→Prog A},fG cx σ α F w l vs→(∀v∈l,tF σ v)→(Wq l k).ends σ z→
  ∃cs,kK cx σ α F w cs vs∧(∀c∈cs,fD σ c.2.2)∧(k cs).ends σ z:=by
 intro l
 induction l with
 | nil=>
  intro vs k h1 _ h
  cases vs with
  | nil=>exact ⟨[],trivial,by simp,h⟩
  | cons v vs=>exact h1.elim
 | cons x l ih=>
  intro vs k h1 h2 h
  cases vs with
  | nil=>exact h1.elim
  | cons v vs=>
   simp only [Wq] at h
   rcases Af H h1.1 (h2 x (by simp)) h with ⟨r,R,p,dd,cs,b,q,hr,hv,hg,fU,hown,hn,e,h5⟩ | ⟨bt,dd,Tg,b,q,cs,hw,e,hcs,hV,hok,hb,h5⟩
   ·rcases aB h5 with ⟨_,h6⟩ | ⟨hne,h6⟩
    ·exact h6.elim
    ·obtain ⟨cs2,g1,g2,g3⟩:=ih h1.2 (fun v hv=>h2 v (by simp [hv])) h6
     obtain ⟨hC,⟨gq,hO,hf⟩,hbb,⟨arr,te,lo,hi,m1,m2,m3,m4⟩,_⟩:=qB H hr hv hg fU hown hn
     have hbase:eU R p=te∧¬mG cx b:=by
      rcases m4 with m4 | ⟨_,m4⟩
      ·exact m4
      ·rw [m4] at hne; simp at hne
     refine ⟨(eU R p,dd,(r,gG R.w) :: R.tags) :: cs2,⟨⟨⟨b,q,e⟩,fun _=>⟨b,q,cs,e,hC, ?_,(NL H hr hbb hbase.2).q, .inr ⟨.inl (by rw [hbase.1]; unfold q8; rw [m1]),hbase.2⟩⟩⟩,g1⟩, ?_,g3⟩
     ·exact lu _ (fun b hb=>wT hb (fun t ht=>by simp [ht])) (fun b hb=>NL H hr (apf _ (hf b hb)) (o9 H hr (hf b hb))) hO
     ·intro c hc
      rcases apq.1 hc with h | h
      ·subst h
       intro t ht
       rcases apq.1 ht with h | h
       ·subst h; exact .inr ⟨R,hr.1, .inr (apu _)⟩
       ·exact (H.dD r R hr.1).1 t h
      ·exact g2 c h
   ·obtain ⟨cs2,g1,g2,g3⟩:=ih h1.2 (fun v hv=>h2 v (by simp [hv])) h5
    refine ⟨(bt,dd,Tg) :: cs2,⟨⟨⟨b,q,e⟩,fun _=>⟨b,q,cs,e,hcs,hV,hok,hb⟩⟩,g1⟩, ?_,g3⟩
    intro c hc
    rcases apq.1 hc with h | h
    ·subst h; exact hw
    ·exact g2 c h
theorem Pw (H:Rel cx σ α F a w) (hd:o.dst=some d) (hdn:d<cx.nt) {f:Nat} {first caps:Array Operand} (ho:o.op=.makeFunc (.func f) first caps)
  (h:(bif first.isEmpty then jR caps.toList fun l=>Wq l fun cs=>.ret [Wr.s d (.one (.fn f cs))] else (.fail:Prog (List Wr))).ends σ ws):sM P cx o a w (aC ws σ):=by
 rcases aB h with ⟨he,h5⟩ | ⟨_,h5⟩
 ·obtain ⟨vs,h1,h2,h6⟩:=jm H h5
  obtain ⟨cs,g1,g2,g3⟩:=YE H h1 h2 h6
  rw [aD g3]
  have hf:first=#[]:=by simpa using he
  refine bM (x:=.one (.fn f cs)) (v:=.func (.func f) #[] (caps.map a.eval)) H hd hdn ?_ ⟨(caps.map a.eval).toList,rfl,by rw [Array.toList_map]; exact g1⟩ g2
  simp [execOp,ho,Instr.makeFunc,hf]
 ·exact h5.elim
end
end
section
open Go
variable [Fr]
section
variable {P:Program} {T:ji} {cx:Cx} {σ:St} {α:dK} {F:List Nat} {a:Act} {w:World} {o:Oper} {d:Nat} {ws:List Wr}
theorem Cr {A:Type} {z:A} (H:Rel cx σ α F a w) {x:Option Operand} {k:Option Int→Prog A} (h:(Jz x k).ends σ z) :
  ∃i:Option Int,(k i).ends σ z∧(i=none↔x=none)∧∀j,i=some j→∃ik,x.map a.eval=some (.int ik j):=by
 cases x with
 | none=>exact ⟨none,h,by simp,fun j hj=>by simp at hj⟩
 | some y=>
  simp only [Jz] at h
  obtain ⟨v,h1,_,h⟩:=bR H h
  obtain ⟨ik,n,e,_,h⟩:=zi h1 h
  exact ⟨some n,h,by simp,fun j hj=>by simp only [apd] at hj; subst hj; exact ⟨ik,by simp [e]⟩⟩
theorem MH {isS:Bool} {len cap:Nat} {lo hi:Option Int} {l h:Option Value} (hlc:len≤cap) (hl:lo=none→l=none) (hl':∀j,lo=some j→∃ik,l=some (.int ik j)) (hh:hi=none→h=none) (hh':∀j,hi=some j→∃ik,h=some (.int ik j))
  (h1:∀j,hi=some j→0≤j∧j≤(len:Int)) (h2:∀j,lo=some j→0≤j∧j≤hi.getD (len:Int)) :
  (Instr.sliceBounds isS len cap l h none).run P w=.ok ((lo.getD 0).toNat,(hi.getD (len:Int)).toNat,cap) w:=by
 unfold Instr.sliceBounds
 cases hi with
 | none=>
  rw [hh rfl]
  cases lo with
  | none=>rw [hl rfl]; simp
  | some j=>
   obtain ⟨ik,e⟩:=hl' j rfl
   obtain ⟨g1,g2⟩:=h2 j rfl
   simp only [Option.getD_none] at g2
   rw [e]
   simp [Instr.sliceBound,asIntOf,g1,g2]
 | some i=>
  obtain ⟨ik,e⟩:=hh' i rfl
  obtain ⟨f1,f2⟩:=h1 i rfl
  have f3:i≤(cap:Int):=by omega
  rw [e]
  cases lo with
  | none=>rw [hl rfl]; simp [Instr.sliceBound,asIntOf,f1,f3]
  | some j=>
   obtain ⟨ik2,e2⟩:=hl' j rfl
   obtain ⟨g1,g2⟩:=h2 j rfl
   simp only [Option.getD_some] at g2
   have g3:j≤max i 0:=by omega
   rw [e2]
   simp [Instr.sliceBound,asIntOf,f1,f3,g1]
   omega
theorem Vf {h:Heap} {ok:Nat→Prop} {e:TypeId} {k:K} {xs:List (El k)} {b:Option Addr} {n c l m:Nat} (H:Vw h ok (.sl e k) xs [.slice b n c]) (hl:l≤m) (hm:m≤n) :
  Vw h ok (.sl e k) (show List (El k) from (xs.take m).drop l) [.slice (if c=l then b else b.map (·.add (l * k.size))) (m - l) (c - l)]:=by
 obtain ⟨b',n',c',e1,e2,e3,e4⟩:=H
 simp only [List.cons.injEq,Value.slice.injEq,and_true] at e1
 obtain ⟨rfl,rfl,rfl⟩:=e1
 have hxl:xs.length=n:=e2.symm
 have hlen:((xs.take m).drop l).length=m - l:=by simp; omega
 refine ⟨_,_,_,rfl,hlen.symm,by omega,fun h0=>?_⟩
 obtain ⟨bb,q,rfl,hok,hel,hes⟩:=e4 (by omega)
 have hc:¬c=l:=by omega
 refine ⟨bb,q+l * k.size,by rw [if_neg hc]; simp [addr_add],hok,hel,fun i hi=>?_⟩
 have hi':i<((xs.take m).drop l).length:=hi
 obtain ⟨ds,h1,h2⟩:=hes (l+i) (by show l+i<xs.length; omega)
 refine ⟨ds, ?_, ?_⟩
 ·rw [Nat.add_assoc, ←Nat.add_mul]
  exact h1
 ·have:(show List (El k) from (xs.take m).drop l)[i]'hi=xs[l+i]'(by omega):=by
   show ((xs.take m).drop l)[i]=_
   simp
  rw [this]
  exact h2
theorem Pj (B:ByteArray) (l m:Nat):bytesOf (B.extract l m)=((bytesOf B).take m).drop l:=by
 unfold bytesOf
 rw [←List.map_take, ←List.map_drop]
 congr 1
 simp [ByteArray.data_extract,List.extract_eq_take_drop,List.drop_take]
def Mc (lo:Option Int):Nat:=(lo.getD 0).toNat
def Qs (hi:Option Int) (n:Nat):Nat:=(hi.getD (n:Int)).toNat
theorem Qf {t e:TypeId} {k:K} (ht:fM P T t (.sl e k)) {b:Option Addr} {n c:Nat} {lo hi:Option Int} {l h:Option Value} (hlc:n≤c) (hl:lo=none→l=none) (hl':∀j,lo=some j→∃ik,l=some (.int ik j)) (hh:hi=none→h=none) (hh':∀j,hi=some j→∃ik,h=some (.int ik j))
  (h1:∀j,hi=some j→0≤j∧j≤(n:Int)) (h2:∀j,lo=some j→0≤j∧j≤hi.getD (n:Int)) :
  (Instr.sliceAt t (.slice b n c) l h none).run P w=.ok (.slice (if c=Mc lo then b else b.map (·.add (Mc lo * k.size))) (Qs hi n - Mc lo) (c - Mc lo)) w:=by
 obtain ⟨hu,he,_,_⟩:=ht.sl
 unfold Instr.sliceAt Instr.slice
 simp only [apD,run_underlying hu,Result.andThen,MH (isS:=true) (w:=w) hlc hl hl' hh hh' h1 h2,he.info.sizeOf w,apI]
 rfl
theorem Nz {t:TypeId} (ht:fM P T t .str) {B:ByteArray} {lo hi:Option Int} {l h:Option Value} (hl:lo=none→l=none) (hl':∀j,lo=some j→∃ik,l=some (.int ik j)) (hh:hi=none→h=none) (hh':∀j,hi=some j→∃ik,h=some (.int ik j))
  (h1:∀j,hi=some j→0≤j∧j≤(B.size:Int)) (h2:∀j,lo=some j→0≤j∧j≤hi.getD (B.size:Int)) :
  (Instr.sliceAt t (.string B) l h none).run P w=.ok (.string (B.extract (Mc lo) (Qs hi B.size))) w:=by
 have hu:=ht.str
 unfold Instr.sliceAt Instr.slice
 simp [apD,run_underlying hu,Result.andThen,MH (isS:=false) (w:=w) (apu B.size) hl hl' hh hh' h1 h2,apI,Mc,Qs]
theorem Ef {x:Option Operand} (h:isZero x=true):∃ik,x=some (.const (.int ik 0)):=by
 unfold isZero at h
 split at h
 ·exact ⟨_,rfl⟩
 ·simp at h
theorem WJ (hT:fu P T) (H:Rel cx σ α F a w) (hd:o.dst=some d) (hdn:d<cx.nt) {t:TypeId} {x:Operand} {lo hi mx:Option Operand}
  (h:(match T.ty t with
   | some kk=>bif isZero lo && isZero hi && isZero mx then match kk with
     | .sl _ _=>dN x fun
      | .iQ=>.ret [Wr.s d (.one .iQ)]
      | a=>vB a fun k' _ _=>bif k'.beq kk then .ret [Wr.s d (.one .iQ)] else .fail
     | _=>.fail
    else match mx with
     | none=>dN x fun a=>Jz lo fun lo=>Jz hi fun hi=>UK kk a lo hi fun u=>.ret [Wr.s d (.one u)]
     | some _=>.fail
   | none=>(.fail:Prog (List Wr))).ends σ ws) (ho:o.op=.slice t x lo hi mx):sM P cx o a w (aC ws σ):=by
 cases hty:T.ty t with
 | none=>rw [hty] at h; exact h.elim
 | some kk=>
  rw [hty] at h
  have ht:=hT.ty t kk hty
  rcases aB h with ⟨hz,h5⟩ | ⟨_,h5⟩
  ·simp only [apj] at hz
   obtain ⟨ik1,rfl⟩:=Ef hz.1.1
   obtain ⟨ik2,rfl⟩:=Ef hz.1.2
   obtain ⟨ik3,rfl⟩:=Ef hz.2
   cases kk with
   | sl e k=>
    obtain ⟨u,h1,h2,h6⟩:=bR H h5
    have hfin:(∃b n c,a.eval x=.slice b n c)→ws=[Wr.s d (.one .iQ)]→sM P cx o a w (aC ws σ):=by
     rintro ⟨b,n,c,e⟩ hws
     rw [hws]
     obtain ⟨hu,he,_,_⟩:=ht.sl
     refine bM (x:=.one .iQ) (v:=.slice b 0 0) H hd hdn ?_ ⟨b,rfl⟩ trivial
     have hcv:∀v,a.eval (.const v)=v:=fun _=>rfl
     simp [execOp,ho,e,Instr.sliceAt,Instr.slice,run_underlying hu,Instr.sliceBounds,Instr.sliceBound,asIntOf,he.info.sizeOf w,hcv]
    cases u with
    | iQ=>
     obtain ⟨b,e⟩:=h1
     exact hfin ⟨b,0,0,e⟩ (aD h6)
    | _=>
     obtain ⟨k',y,Tg,cs,g1,g2,g3,g4⟩:=vS H h1 h2 h6
     rcases beq_true g4 with ⟨ek,g5⟩ | ⟨_,g5⟩
     ·subst ek
      obtain ⟨b,n,c,f1,_⟩:=EC g1 g2
      exact hfin ⟨b,n,c,f1⟩ (aD g5)
     ·exact g5.elim
   | _=>exact h5.elim
  ·cases mx with
   | some m=>exact h5.elim
   | none=>
    obtain ⟨u,h1,h2,h6⟩:=bR H h5
    obtain ⟨l,h7,l1,l2⟩:=Cr H h6
    obtain ⟨m,h8,m1,m2⟩:=Cr H h7
    have hl:l=none→lo.map a.eval=none:=fun e=>by rw [l1.1 e]; rfl
    have hm:m=none→hi.map a.eval=none:=fun e=>by rw [m1.1 e]; rfl
    have hstr:∀{s:List Int} {Tg:List Tag},u=.val .str s Tg→sM P cx o a w (aC ws σ):=by
     intro s Tg e
     subst e
     obtain ⟨B,e1,e2⟩:=yB h1
     subst e2
     simp only [UK] at h8
     rcases aB h8 with ⟨_,h9⟩ | ⟨hk,h9⟩
     ·exact h9.elim
     ·have ek:kk=.str:=K.eq_of_beq (by simpa using hk)
      subst ek
      have hln:=mO B
      have hgo:∀{p:List Int},(∀j,m=some j→0≤j∧j≤(B.size:Int))→(∀j,l=some j→0≤j∧j≤m.getD (B.size:Int))→p=((bytesOf B).take (Qs m B.size)).drop (Mc l)→ws=[Wr.s d (.one (.val .str p []))]→sM P cx o a w (aC ws σ):=by
       intro p g1 g2 hp hws
       rw [hws,hp]
       have hrun:=Nz (w:=w) ht (B:=B) hl l2 hm m2 g1 g2
       refine bM (v:=.string (B.extract (Mc l) (Qs m B.size))) H hd hdn ?_ ?_ (fun t ht=>by simp at ht)
       ·simp only [execOp,ho,e1,apD]
        rw [show (none:Option Operand).map a.eval=none from rfl,hrun]
        rfl
       ·rw [←Pj]
        exact UA
      cases l with
      | none=>
       cases m with
       | none=>exact hgo (by simp) (by simp) (by simp [Mc,Qs, ←hln]) (aD h9)
       | some j=>
        obtain ⟨hc,h9⟩:=h9
        exact hgo (fun i hi=>by simp only [apd] at hi; subst hi; rw [←hln]; exact hc) (by simp) (by simp [Mc,Qs]) (aD h9)
      | some i=>
       cases m with
       | none=>
        obtain ⟨hc,h9⟩:=h9
        exact hgo (by simp) (fun i hi=>by simp only [apd] at hi; subst hi; simp only [Option.getD_none]; rw [←hln]; exact hc) (by simp [Mc,Qs, ←hln]) (aD h9)
       | some j=>
        obtain ⟨hc,h9⟩:=h9
        have hc':0≤i∧i≤j∧j≤((bytesOf B).length:Int):=hc
        exact hgo (fun i' hi=>by simp only [apd] at hi; subst hi; rw [←hln]; exact ⟨by omega,hc'.2.2⟩) (fun i' hi=>by simp only [apd] at hi; subst hi; exact ⟨hc'.1,hc'.2.1⟩) (by simp [Mc,Qs]) (aD h9)
    have hsl:(vB u fun k2 y Tg=>match k2,y with
      | .sl e k3,xs=>bif !kk.beq (.sl e k3) then .fail else
       match l,m with
       | none,none=>(.ret [Wr.s d (.one (.val (.sl e k3) xs Tg))]:Prog (List Wr))
       | some l,none=>.xA (0≤l∧l≤((show List (El k3) from xs).length:Int)) inferInstance (.ret [Wr.s d (.one (.val (.sl e k3) ((show List (El k3) from xs).drop l.toNat) Tg))])
       | none,some h=>.xA (0≤h∧h≤((show List (El k3) from xs).length:Int)) inferInstance (.ret [Wr.s d (.one (.val (.sl e k3) ((show List (El k3) from xs).take h.toNat) Tg))])
       | some l,some h=>.xA (0≤l∧l≤h∧h≤((show List (El k3) from xs).length:Int)) inferInstance (.ret [Wr.s d (.one (.val (.sl e k3) (((show List (El k3) from xs).take h.toNat).drop l.toNat) Tg))])
      | _,_=>.fail).ends σ ws→sM P cx o a w (aC ws σ):=by
     intro h9
     obtain ⟨k2,y,Tg,cs,g1,g2,g3,g4⟩:=vS H h1 h2 h9
     cases k2 with
     | sl e k3=>
      simp only at g4
      rcases aB g4 with ⟨_,g5⟩ | ⟨hk,g5⟩
      ·exact g5.elim
      ·have ek:kk=.sl e k3:=K.eq_of_beq (by simpa using hk)
       subst ek
       have hln:(show List (El k3) from y).length=@List.length (El k3) y:=rfl
       obtain ⟨b,n,c,f1,f2,f3,f4,f5⟩:=EC g1 g2
       have hgo:∀{p:List (El k3)},(∀j,m=some j→0≤j∧j≤(n:Int))→(∀j,l=some j→0≤j∧j≤m.getD (n:Int))→p=((show List (El k3) from y).take (Qs m n)).drop (Mc l)→ws=[Wr.s d (.one (.val (.sl e k3) p Tg))]→sM P cx o a w (aC ws σ):=by
        intro p q1 q2 hp hws
        rw [hws,hp]
        have hrun:=Qf (w:=w) ht (b:=b) f4 hl l2 hm m2 q1 q2
        have hlm:Mc l≤Qs m n∧Qs m n≤n:=by
         unfold Mc Qs
         cases l with
         | none=>
          cases m with
          | none=>simp
          | some j=>have:=q1 j rfl; simp; omega
         | some i=>
          have h3:=q2 i rfl
          cases m with
          | none=>simp at h3 ⊢; omega
          | some j=>have:=q1 j rfl; simp at h3 ⊢; omega
        have hV:=Vf (xs:=(show List (El k3) from y)) (by rw [f2] at g2; exact g2) hlm.1 hlm.2
        refine bM H hd hdn ?_ (show bI cx σ α F w (.val (.sl e k3) _ Tg) (.slice (if c=Mc l then b else b.map (·.add (Mc l * k3.size))) (Qs m n - Mc l) (c - Mc l)) from fun _=>⟨_,⟨rfl,by simp⟩,hV⟩) g3
        simp only [execOp,ho,f1,apD]
        rw [show (none:Option Operand).map a.eval=none from rfl,hrun]
        rfl
       have f3':((show List (El k3) from y).length:Int)=(n:Int):=by rw [f3]
       cases l with
       | none=>
        cases m with
        | none=>exact hgo (by simp) (by simp) (by simp only [Mc,Qs,Option.getD_none,apn,Int.toNat_zero,List.drop_zero]; rw [f3,List.take_length]) (aD g5)
        | some j=>
         obtain ⟨hc,h9⟩:=g5
         exact hgo (fun i hi=>by simp only [apd] at hi; subst hi; rw [←f3']; exact hc) (by simp) (by simp [Mc,Qs]) (aD h9)
       | some i=>
        cases m with
        | none=>
         obtain ⟨hc,h9⟩:=g5
         exact hgo (by simp) (fun i hi=>by simp only [apd] at hi; subst hi; simp only [Option.getD_none]; rw [←f3']; exact hc) (by simp only [Mc,Qs,Option.getD_none,Option.getD_some,apn]; rw [f3,List.take_length]) (aD h9)
        | some j=>
         obtain ⟨hc,h9⟩:=g5
         have hc':0≤i∧i≤j∧j≤((show List (El k3) from y).length:Int):=hc
         exact hgo (fun i' hi=>by simp only [apd] at hi; subst hi; rw [←f3']; exact ⟨by omega,hc'.2.2⟩) (fun i' hi=>by simp only [apd] at hi; subst hi; exact ⟨hc'.1,hc'.2.1⟩) (by simp [Mc,Qs]) (aD h9)
     | _=>exact g4.elim
    cases u with
    | val k1 s Tg=>
     cases k1 with
     | str=>exact hstr rfl
     | _=>exact hsl h8
    | _=>exact hsl h8
end
end
section
open Go
variable [Fr]
section
variable {cx:Cx} {σ:St} {α:dK} {F:List Nat} {a:Act} {w:World} {r:Nat} {R:Root}
theorem Rel.lose (H:Rel cx σ α F a w) (hr:aR σ r R) (hv:bq σ R) {l:List TypeId} (hl:l≠[]):∃α',Rel cx (az σ r (wR R l)) α' F a w:=by
 have K:=H.roots r R hr
 have hnt:=H.dD r R hr.1
 have hsub:∀t,ay t (bJ R.own l)=true→ay t R.own=true:=fun t ht=>(dH.1 ht).1
 obtain ⟨NY,fd,hp1,hO⟩:=vM (own':=bJ R.own l) (fun t _ h=>hsub t h) (K.ow hv)
 have hfo:∀b∈NY,b∈α.fo r:=fun b hb=>hp1.mem_iff.2 (api _ hb)
 have hfd:∀b∈fd,b∈α.fo r:=fun b hb=>hp1.mem_iff.2 (apf _ hb)
 have hbk:∀b∈iF (wR R l) (α.loc r) NY,b∈blk α R r:=fun b hb=>by
  rw [bT]
  rcases apm.1 hb with h | h
  ·exact api _ h
  ·exact apf _ (hfo b h)
 have hnd:=K.nd
 rw [bT] at hnd
 have aez:(iF R (α.loc r) (NY++fd)).Nodup:=by
  have:(iF R (α.loc r) (α.fo r)).Perm (iF R (α.loc r) (NY++fd)):=List.Perm.append_left _ hp1
  exact this.nodup_iff.1 hnd
 have acQ:(iF R (α.loc r) NY++fd).Nodup:=by
  have e:iF R (α.loc r) (NY++fd)=iF R (α.loc r) NY++fd:=by simp [iF,apz]
  rw [←e]; exact aez
 have T1:BP cx σ α F w r R (wR R l) NY F w l []:=by
  refine ⟨.inr ⟨rfl,rfl,apu _,rfl,fun _=>rfl, .inl hl⟩,⟨fun t ht=>hnt.1 t ht,fun n hn=>hnt.2.2 n hn⟩,⟨rfl,rfl,rfl⟩,apu _,fun b _ hne=>absurd rfl hne,fun _ b hb=>.inl (hbk b hb),fun b hb=>.inl hb,H.Ca,fun _ b hb=>H.jB r R hr b (hbk b hb),fun _ _ _ _ _ _ _ _ hne=>absurd rfl hne,fun _=>⟨rfl,rfl⟩⟩
 have hcl0:∀tys,bg (az σ r (wR R l)) tys R.tags=bg σ tys R.tags:=fun tys=>nG hnt.2.2
 refine ⟨aJ α r (α.loc r) (α.hdr r) NY,T1.rel H hr (fun _=>⟨fun hvn=>?_,K.len,fun b o hb=>?_, ?_⟩) ?_ ?_⟩
 ·refine bC (fun _ _=>rfl) (fun b hb=>?_) (fun _ _=>rfl) hO
  have hblk:∀q Q,aR (az σ r (wR R l)) q Q→b∈blk (aJ α r (α.loc r) (α.hdr r) NY) Q q→(q=r∧b∈iF R (α.loc r) NY)∨(q≠r∧aR σ q Q∧b∈blk α Q q):=by
   intro q Q hq hbq
   by_cases e:q=r
   ·subst e
    obtain ⟨rfl,_⟩:=eX hq
    rw [eO] at hbq
    exact .inl ⟨rfl,hbq⟩
   ·refine .inr ⟨e,(Ma e).1 hq, ?_⟩
    cases hqr:Nat.beq q r with
    | true=>exact absurd (aph hqr) e
    | false=>simpa [blk,eB,aJ,upd,hqr] using hbq
  rcases hb with hb | hb
  ·obtain ⟨g1,g2,g3,g4,g5⟩:=hb
   refine ⟨g1,g2,g3,fun q Q hq hbq=>?_,g5⟩
   rcases hblk q Q hq hbq with ⟨rfl,h⟩ | ⟨_,h1,h2⟩
   ·exact g4 q R hr (hbk b h)
   ·exact g4 q Q h1 h2
  ·have hbb:b∈blk α R r:=apf _ (hfd b hb)
   have hm:=K.mine b hbb
   refine ⟨hm.1,H.jB r R hr b hbb,o9 H hr (hfd b hb),fun q Q hq hbq=>?_,fun h0=>?_⟩
   ·exfalso
    rcases hblk q Q hq hbq with ⟨rfl,h⟩ | ⟨h,h1,h2⟩
    ·exact (apk.1 acQ).2.2 b h b hb rfl
    ·exact H.MX q Q r R h1 hr h b h2 hbb
   ·rcases hm.2 with h | ⟨j,pi,h1,h2⟩
    ·omega
    ·exact .inr ⟨j,pi,h1,h2⟩
 ·exact K.mem b o (by rw [uW]; exact hb)
 ·have:=acQ.sublist (List.sublist_append_left _ _)
  exact this
 ·intro _ p n v hn hold
  refine ⟨hold.1,fun Q hQ hvQ hcl hty hs=>?_⟩
  rw [aK] at hQ
  simp only [apd] at hQ
  subst hQ
  obtain ⟨g1,cs,b,o,g2,g3⟩:=hold.2 R hr.1 hv hcl (fun t ht=>hsub t (hty t ht)) hs
  refine ⟨g1,cs,b,o, ?_,g3⟩
  have e1:(aJ α r (α.loc r) (α.hdr r) NY).hdr r=α.hdr r:=by simp [aJ,upd_same]
  have e2:eB (aJ α r (α.loc r) (α.hdr r) NY) (wR R l) r=eB α R r:=by rw [jN,uW]; rfl
  rw [e1,e2]
  exact g2
 ·intro _ g v _ hold Q hQ hg
  obtain ⟨rfl,_⟩:=eX hQ
  obtain ⟨h1,h2⟩:=hold R hr hg
  refine ⟨h1, ?_⟩
  simp only [aJ,upd_same]
  exact h2
theorem aeW (H:Rel cx σ α F a w) (l:List TypeId) (r:Nat):∃α',Rel cx (ZW l r σ) α' F a w:=by
 unfold ZW
 split
 ·exact ⟨_,H⟩
 ·rename_i hl
  split
  ·rename_i R hR
   cases hc:R.aX || !bg σ R.Dw R.tags || !R.own.any (fun t=>ay t l) with
   | true=>exact ⟨_,H⟩
   | false=>
    simp only [Bool.or_eq_false_iff,Bool.not_eq_false'] at hc
    exact H.lose (r:=r) (R:=R) ⟨hR,hc.1.1⟩ ⟨hc.1.1,hc.1.2⟩ (fun h=>hl h)
  ·exact ⟨_,H⟩
theorem PV (hi:Hint):∀(rs:List Nat) {σ:St} {α:dK},Rel cx σ α F a w→∃α',Rel cx (Eg hi rs σ) α' F a w
 | [],_,_,H=>⟨_,H⟩
 | r :: rs,_,_,H=>by
  obtain ⟨α',h⟩:=aeW H (wK (1000000+r) hi.less) r
  exact PV hi rs h
end
end
section
open Go
variable [Fr]
section
variable {cx:Cx} {σ:St} {α:dK} {F:List Nat} {a:Act} {w:World} {r:Nat}
theorem VM (H:Rel cx σ α F a w) (hn:σ.roots r=none) (hx:fP r=false) {e:TypeId} {k:K} {xs:List (El k)} {own:List TypeId} {tags:List Tag} {arr:Array Value} {lo hi n c:Nat} {bz:List (List Nat)} {F1:List Nat}
  (hwt:fD σ tags) (hown:ay e own=true) (hfr:∀i,i<arr.size→¬(lo≤i∧i<hi)) (hnx:n=xs.length) (hnc:n≤c) (hca:c * k.size≤arr.size)
  (hfl:bz.length=xs.length) (SK:∀b∈bz.flatten,b∈F) (PL:bz.flatten.Nodup) (hF1:∀b∈F1,b∈F∧b∉bz.flatten) (ahq:F1.Nodup)
  (hel:∀(i:Nat) (hi:i<xs.length),∃ds,ds.length=k.size∧(∀j,j<ds.length→arr[i * k.size+j]?=ds[j]?)∧Ow (hp w) own (fun b=>iT cx σ α F w tags b∨(b∈F∧b∉F1∧b∉bz.flatten)) k xs[i] ds (bz.getD i [])) (kp:Bool) (dr:Nat) :
  ∃α' F',Rel cx (az σ r (aP (.sl e k) xs own tags .anon kp)) α' F' a ((dw w dr).alloc (.cells arr e (lo,hi)))∧
   bI cx (az σ r (aP (.sl e k) xs own tags .anon kp)) α' F' ((dw w dr).alloc (.cells arr e (lo,hi))) (.ref r 0) (.slice (some ⟨w.heap.size,0,none⟩) n c):=by
 have H0:=H.drawn dr
 obtain ⟨H1,T1⟩:=H0.alloc (.cells arr e (lo,hi))
 have hsz:(dw w dr).heap.size=w.heap.size:=rfl
 have hnew:hp ((dw w dr).alloc (.cells arr e (lo,hi))) w.heap.size=some (.cells arr e (lo,hi)):=sj (dw w dr) _
 have hold:∀b,b<w.heap.size→hp ((dw w dr).alloc (.cells arr e (lo,hi))) b=hp w b:=fun b hb=>qc (dw w dr) _ hb
 have Jv:w.heap.size∉F:=fun h=>by have:=(H.fl _ h).1; omega
 have hv:aU own (.sl e k)=aU own k:=by simp [aU,hown]
 obtain ⟨α',k1,k2⟩:=BR (k:=.sl e k) (x:=(xs:El (.sl e k))) (own:=own) (tags:=tags) (v:=.slice (some ⟨w.heap.size,0,none⟩) n c) (cs:=[.slice (some ⟨w.heap.size,0,none⟩) n c]) (fo:=w.heap.size :: bz.flatten) (r:=r) (F':=F1) H1 hn hx
  (fun b hb=>by
   rcases apq.1 hb with h | h
   ·subst h; exact apK
   ·exact apC _ (SK b h))
  (apL.2 ⟨fun h=>Jv (SK _ h),PL⟩) hwt
  (fun b hb=>⟨apC _ (hF1 b hb).1,fun h=>by
   rcases apq.1 h with h | h
   ·subst h; exact Jv (hF1 _ hb).1
   ·exact (hF1 b hb).2 h⟩) ahq rfl
  (fun hc=>by
   rw [hv] at hc
   obtain ⟨_,hV,_⟩:=T1.views H0 tags _ hwt hc
   unfold Ow
   rw [if_pos hown]
   refine ⟨_,_,_,rfl,hnx,hnc, .inr ⟨w.heap.size,0,arr,lo,hi,rfl,hnew,hfr,by omega,bz,hfl, .refl _,fun i hi=>?_⟩⟩
   obtain ⟨ds,h1,h2,h3⟩:=hel i hi
   refine ⟨ds,fun j hj=>?_, ?_⟩
   ·unfold cellAt
    rw [hnew]
    simp only [Nat.zero_add]
    exact h2 j hj
   ·refine bC ?_ ?_ (fun b hb=>hold b (H.fl b (SK b (sF hb))).1) (tq _ (fun _ h=>h) h3)
    ·rintro b ⟨hb | ⟨hb,_⟩,_⟩
     ·exact hold b hb.1
     ·exact hold b (H.fl b hb).1
    ·rintro b ⟨hb | ⟨g1,g2,g3⟩,hty⟩
     ·exact .inl (hV b hb (.inl hty)).1
     ·refine .inr ⟨apC _ g1,g2,fun h=>?_⟩
      rcases apq.1 h with h | h
      ·subst h; exact Jv g1
      ·exact g3 h) ⟨rfl,by simp⟩ kp
 exact ⟨α',F1,k1,k2⟩
theorem Qe (H:Rel cx σ α F a w) (hn:σ.roots r=none) (hx:fP r=false) {e:TypeId} {k:K} {xs:List (El k)} {own:List TypeId} {arr:Array Value} {lo hi n c:Nat}
  (hown:ay e own=true) (hfr:∀i,i<arr.size→¬(lo≤i∧i<hi)) (hnx:n=xs.length) (hnc:n≤c) (hca:c * k.size≤arr.size)
  (hel:∀(i:Nat) (hi:i<xs.length),∃ds,ds.length=k.size∧(∀j,j<ds.length→arr[i * k.size+j]?=ds[j]?)∧∀h ok,Ow h own ok k xs[i] ds []) (kp:Bool) (dr:Nat) :
  ∃α' F',Rel cx (az σ r (aP (.sl e k) xs own [] .anon kp)) α' F' a ((dw w dr).alloc (.cells arr e (lo,hi)))∧
   bI cx (az σ r (aP (.sl e k) xs own [] .anon kp)) α' F' ((dw w dr).alloc (.cells arr e (lo,hi))) (.ref r 0) (.slice (some ⟨w.heap.size,0,none⟩) n c):=by
 have hfl:(List.replicate xs.length ([]:List Nat)).flatten=[]:=by simp
 refine VM H hn hx (bz:=List.replicate xs.length []) (F1:=F) (fun t ht=>by simp at ht) hown hfr hnx hnc hca (by simp) (by rw [hfl]; simp) (by rw [hfl]; exact List.nodup_nil) (by rw [hfl]; exact fun b hb=>⟨hb,by simp⟩) H.Ca ?_ kp dr
 intro i hi
 obtain ⟨ds,h1,h2,h3⟩:=hel i hi
 refine ⟨ds,h1,h2, ?_⟩
 have:(List.replicate xs.length ([]:List Nat)).getD i []=[]:=by
  rw [bY (by simpa using hi)]; simp
 rw [this]
 exact h3 _ _
end
end
section
open Go
variable [Fr]
section
variable {P:Program} {T:ji} {cx:Cx} {σ:St} {α:dK} {F:List Nat} {a:Act} {w:World} {o:Oper} {d:Nat} {ws:List Wr}
theorem fM.int {t:TypeId} {ik:IntKind} (h:fM P T t (.int ik)):P.underlying t=some (.int ik):=by
 unfold fM jU at h
 exact h.1
theorem fM.und {t:TypeId} {k:K} (h:fM P T t k):∃u,P.underlying t=some u:=by
 unfold fM jU at h
 cases k with
 | int ik=>exact ⟨_,h.1⟩
 | bool=>exact ⟨_,h.1⟩
 | id e=>exact ⟨_,h.1⟩
 | str=>exact ⟨_,h.1⟩
 | sl e k=>exact ⟨_,h.1⟩
 | unit=>exact h.elim
 | pair a b=>exact h.elim
 | st c=>obtain ⟨⟨fs,h1,_⟩,_⟩:=h; exact ⟨_,h1⟩
 | gap n=>exact h.elim
theorem UE (ns:List Int):∀(s:ByteArray),(∀n∈ns,0≤n∧n<256)→bytesOf (ns.foldl (fun r n=>r.push (UInt8.ofNat n.toNat)) s)=bytesOf s++ns:=by
 induction ns with
 | nil=>intro s _; simp
 | cons n ns ih=>
  intro s h
  rw [List.foldl_cons,ih _ (fun m hm=>h m (by simp [hm]))]
  have h1:=h n (by simp)
  have:bytesOf (s.push (UInt8.ofNat n.toNat))=bytesOf s++[n]:=by
   unfold bytesOf
   simp only [ByteArray.push,Array.toList_push,List.map_append,List.map_cons,List.map_nil]
   congr 2
   simp
   omega
  rw [this]
  simp
theorem Wo {h:Heap} {ok:Nat→Prop} {xs:List Int} {bb q:Nat} (hes:∀(i:Nat) (hi:i<xs.length),∃ds,Cells h bb (q+i * 1) ds∧Vw h ok (.int .u8) xs[i] ds) :
  Cells h bb q (xs.map (Value.int .u8))∧∀n∈xs,0≤n∧n<256:=by
 refine ⟨fun i hi=>?_,fun n hn=>?_⟩
 ·simp only [List.length_map] at hi
  obtain ⟨ds,h1,h2,_⟩:=hes i hi
  have:=h1 0 (by rw [h2]; simp)
  rw [h2] at this
  simp only [Nat.add_zero,Nat.mul_one,List.getElem?_cons_zero] at this
  rw [this]
  simp [hi]
 ·obtain ⟨i,hi,rfl⟩:=List.mem_iff_getElem.1 hn
  obtain ⟨ds,_,_,h3⟩:=hes i hi
  exact h3
theorem Q8 (hT:fu P T) (H:Rel cx σ α F a w) (hd:o.dst=some d) (hdn:d<cx.nt) {s t:TypeId} {x:Operand} (ho:o.op=.convert s t x)
  (h:(dN x fun a=>YF T d s t a fun ws=>(.ret ws:Prog (List Wr))).ends σ ws):sM P cx o a w (aC ws σ):=by
 obtain ⟨u,h1,h2,h5⟩:=bR H h
 have hrun:∀{v:Value} {w':World},(convert s t (a.eval x)).run P w=.ok v w'→(execOp a.eval o).run P w=.ok (.value v) w':=by
  intro v w' h
  simp only [execOp,ho,apD,h,apw,apI]
 have hstr:∀{B:ByteArray},(convert s t (a.eval x)).run P w=.ok (.string B) w→sM P cx o a w (aC [Wr.s d (v1 .str (bytesOf B))] σ):=by
  intro B hr
  exact bM H hd hdn (hrun hr) (show bI cx σ α F w (.val .str (bytesOf B) []) _ from UA) BC
 unfold YF at h5
 cases hs:T.ty s with
 | none=>rw [hs] at h5; exact h5.elim
 | some ks=>
  have hks:=hT.ty s ks hs
  cases ht:T.ty t with
  | none=>rw [hs,ht] at h5; cases ks <;> exact h5.elim
  | some kt=>
   have hkt:=hT.ty t kt ht
   rw [hs,ht] at h5
   obtain ⟨us,hus⟩:=hks.und
   cases kt with
   | int ik=>
    have h6:(match u with
     | .val (.int _) n _=>(.ret [Wr.s d (v1 (.int ik) (ik.wrap n))]:Prog (List Wr))
     | _=>.fail).ends σ ws:=by cases ks <;> exact h5
    split at h6
    ·obtain ⟨e1,e2⟩:=yA h1
     rw [aD h6]
     refine bM H hd hdn (hrun ?_) (pJ ik (nR _ _)) BC
     rw [e1]
     unfold convert
     simp only [apD,run_underlying hus,run_underlying hkt.int,Result.andThen]
     rfl
    ·exact h6.elim
   | str=>
    cases ks with
    | str=>
     simp only at h5
     split at h5
     ·obtain ⟨B,e1,e2⟩:=yB h1
      subst e2
      rw [aD h5]
      refine hstr ?_
      rw [e1]
      unfold convert
      simp only [apD,run_underlying hks.str,run_underlying hkt.str,Result.andThen]
      rfl
     ·exact h5.elim
    | sl e k1=>
     cases k1 with
     | int ik1=>
      cases ik1 with
      | u8=>
       obtain ⟨hu,he,_,_⟩:=hks.sl
       have hgo:∀{b:Option Addr} {n c:Nat} {xs:List Int},a.eval x=.slice b n c→n=xs.length→(0<n→∃bb q,b=some ⟨bb,q,none⟩∧∀(i:Nat) (hi:i<xs.length),∃ds,Cells (hp w) bb (q+i * 1) ds∧Vw (hp w) (fun _=>True) (.int .u8) xs[i] ds)→
         ws=[Wr.s d (v1 .str xs)]→sM P cx o a w (aC ws σ):=by
        intro b n c xs e hn hes hws
        have hcv:(convert s t (a.eval x)).run P w=(Conv.bytesToString (.slice b n c)).run P w:=by
         rw [e]
         unfold convert
         simp only [apD,run_underlying hu,run_underlying hkt.str,run_underlying he.int,Result.andThen]
        cases b with
        | none=>
         have hx0:xs=[]:=by
          cases xs with
          | nil=>rfl
          | cons y ys=>
           obtain ⟨bb,q,h0,_⟩:=hes (by rw [hn]; simp)
           simp at h0
         subst hx0
         rw [hws]
         exact hstr (B:=ByteArray.empty) (hcv.trans rfl)
        | some ad=>
         by_cases h0:0<n
         ·obtain ⟨bb,q,e0,hes'⟩:=hes h0
          simp only [apd] at e0
          subst e0
          obtain ⟨g1,g2⟩:=Wo hes'
          have hl:(loadCells ⟨bb,q,none⟩ n).run P w=.ok (xs.map (Value.int .u8)).toArray w:=by
           have:=run_loadCells_list (P:=P) w ⟨bb,q,none⟩ (xs.map (Value.int .u8)) (fun j v hj=>by
            rw [addr_add,Al,g1 j (List.getElem?_eq_some_iff.1 hj).1]
            exact hj)
           simpa [hn] using this
          have hb:=run_bytesToString w ⟨bb,q,none⟩ n c xs hl
          have hbe:=UE xs ByteArray.empty g2
          have:xs=bytesOf (xs.foldl (fun r n=>r.push (UInt8.ofNat n.toNat)) ByteArray.empty):=by rw [hbe]; rfl
          rw [hws,this]
          exact hstr (hcv.trans hb)
         ·have hx0:xs=[]:=List.eq_nil_of_length_eq_zero (by omega)
          subst hx0
          have hn0:n=0:=by omega
          subst hn0
          have hl:(loadCells ad 0).run P w=.ok (([]:List Int).map (Value.int .u8)).toArray w:=rfl
          have hb:=run_bytesToString w ad 0 c [] hl
          rw [hws]
          exact hstr (B:=ByteArray.empty) (hcv.trans hb)
       cases u with
       | iQ=>
        obtain ⟨b,e⟩:=h1
        exact hgo (xs:=[]) e rfl (fun h=>by omega) (aD h5)
       | _=>
        obtain ⟨k',y,Tg,cs,g1,g2,g3,g4⟩:=vS H h1 h2 h5
        cases k' with
        | sl e' k2=>
         cases k2 with
         | int ik2=>
          cases ik2 with
          | u8=>
           obtain ⟨b,n,c,f1,f2,f3,f4,f5⟩:=EC g1 g2
           refine hgo (xs:=y) f1 f3 (fun h0=>?_) (aD g4)
           obtain ⟨bb,q,e0,_,_,hes⟩:=f5 h0
           exact ⟨bb,q,e0,fun i hi=>by
            obtain ⟨ds,m1,m2⟩:=hes i hi
            exact ⟨ds,m1,m2⟩⟩
          | _=>exact g4.elim
         | _=>exact g4.elim
        | _=>exact g4.elim
      | _=>exact h5.elim
     | _=>exact h5.elim
    | _=>exact h5.elim
   | sl e k1=>
    cases ks with
    | str=>
     cases k1 with
     | int ik1=>
      cases ik1 with
      | u8=>
       simp only at h5
       split at h5
       ·obtain ⟨B,e1,e2⟩:=yB h1
        subst e2
        obtain ⟨g1,g2⟩:=gZ h5
        rw [aD g2]
        obtain ⟨hu,he,_,_⟩:=hkt.sl
        have hr:=run_bytes_of_string w s t e B hks.str hu he.int
        have hcap:=grownCap_ge w B.size 0 e
        have hsz:(bytesRow B (grownCap w B.size 0 e)).size=grownCap w B.size 0 e:=by
         simp [bytesRow]
         show B.data.size+_=_
         have:B.data.size=B.size:=rfl
         omega
        obtain ⟨α',F',r1,r2⟩:=Qe (r:=bE d 0) (e:=e) (k:=.int .u8) (xs:=bytesOf B) (own:=[e]) (arr:=bytesRow B (grownCap w B.size 0 e)) (lo:=(bytesRow B (grownCap w B.size 0 e)).size) (hi:=(bytesRow B (grownCap w B.size 0 e)).size+1) (n:=B.size) (c:=grownCap w B.size 0 e) H g1 (gF d 0)
         (by simp [ay]) (fun i hi=>by omega) (mO B).symm hcap (by simp [K.size,hsz])
         (fun i hi=>by
          have hi':i<B.size:=by rw [←mO B]; exact hi
          refine ⟨[Value.int .u8 (bytesOf B)[i]],rfl,fun j hj=>?_,fun h ok=>⟨rfl,rfl, ?_⟩⟩
          ·simp only [apy] at hj
           have hj0:j=0:=by omega
           subst hj0
           have hid:i<B.data.size:=hi'
           simp only [K.size,Nat.mul_one,Nat.add_zero,List.getElem?_cons_zero]
           unfold bytesRow
           rw [Array.getElem?_append_left (by simpa using hid)]
           simp [bytesOf]
           exact ⟨B.data[i],Array.getElem?_eq_getElem hid,rfl⟩
          ·have:=(bytesOf B)[i]
           have hm:(bytesOf B)[i]∈bytesOf B:=apG hi
           unfold bytesOf at hm
           obtain ⟨y,_,hy⟩:=apO.1 hm
           show (0:Int)≤(bytesOf B)[i]∧(bytesOf B)[i]<256
           have hy':(y.toNat:Int)=(bytesOf B)[i]:=hy
           rw [←hy']
           have:=y.toNat_lt
           omega) false (w.drawn+1)
        exact iW (x:=.one (.ref (bE d 0) 0)) r1 hd hdn (hrun (by rw [e1]; exact hr)) r2 ⟨_,aK .., .inr (apM _)⟩
       ·exact h5.elim
      | _=>exact h5.elim
     | _=>exact h5.elim
    | _=>
     cases k1 with
     | int ik1=>cases ik1 <;> exact h5.elim
     | _=>exact h5.elim
   | _=>cases ks <;> exact h5.elim
end
end
section
open Go
variable [Fr]
section
variable {P:Program} {T:ji} {cx:Cx} {σ:St} {α:dK} {F:List Nat} {a:Act} {w:World} {o:Oper} {d:Nat} {ws:List Wr}
theorem xx {k:K} (h:(∀a b,k≠.pair a b)∧k≠.unit∧∀n,k≠.gap n):(sP k).cells=(bV k).toArray:=by
 have:=(VV h.1 h.2.1 h.2.2).cells
 apply Array.ext'
 simpa using this
theorem PW {z:Array Value} {n j:Nat} (h:j<n) (hz:0<z.size):(madeCells z n)[j]?=z[j % z.size]?:=by
 unfold madeCells
 have:j % z.size<z.size:=Nat.mod_lt _ hz
 simp [h,this]
theorem Nj (hT:fu P T) (H:Rel cx σ α F a w) (hd:o.dst=some d) (hdn:d<cx.nt) {t:TypeId} {x y:Operand}
  (h:(match T.ty t with
   | some (.sl e kk)=>dN x fun a=>dN y fun b=>asInt a fun ik i=>asInt b fun jk j=>bif Bc ik .i64 && Bc jk .i64 then
     .xA (i=j∧0≤i∧i * T.bytes e≤140737488355328) inferInstance (jY (bE d 0)
      (.ret [Wr.r (bE d 0) (some (aP (.sl e kk) (List.replicate i.toNat kk.zero) (e :: kk.tys) [] .anon)),Wr.s d (.one (.ref (bE d 0) 0))]))
    else (.fail:Prog (List Wr))
   | _=>.fail).ends σ ws) (ho:o.op=.makeSlice t x y):sM P cx o a w (aC ws σ):=by
 cases hty:T.ty t with
 | none=>rw [hty] at h; exact h.elim
 | some k0=>
  rw [hty] at h
  cases k0 with
  | sl e kk=>
   have ht:=hT.ty t _ hty
   simp only at h
   obtain ⟨u,h1,_,h2⟩:=bR H h
   obtain ⟨v,h3,_,h4⟩:=bR H h2
   obtain ⟨ik,i,e1,_,h5⟩:=zi h1 h4
   obtain ⟨jk,j,e2,_,h6⟩:=zi h3 h5
   rcases aB h6 with ⟨_,h7⟩ | ⟨_,h7⟩
   ·obtain ⟨⟨hij,h0,hb⟩,h8⟩:=h7
    obtain ⟨g1,g2⟩:=gZ h8
    rw [aD g2]
    obtain ⟨hu,he,hk,ii,hi,hby,hpos⟩:=ht.sl
    obtain ⟨i',hi',hs',hz'⟩:=he.info
    rw [hi] at hi'
    simp only [apd] at hi'
    subst hi'
    obtain ⟨n,rfl⟩:∃n:Nat,i=n:=⟨i.toNat,by omega⟩
    subst hij
    have hbn:n * T.bytes e≤140737488355328:=by
     have:((n * T.bytes e:Nat):Int)≤140737488355328:=by simpa using hb
     omega
    have hn:n≤140737488355328:=by
     have:n * 1≤n * T.bytes e:=Nat.mul_le_mul_left _ (by omega)
     omega
    have hbi:(ii.bytes:Int) * (n:Int)≤281474976710656:=by
     rw [hby]
     have:((T.bytes e * n:Nat):Int)≤281474976710656:=by rw [Nat.mul_comm]; omega
     simpa using this
    have hr:=run_make (P:=P) w t e ii (sP kk) hu hi hz' ik jk (n:Int) (n:Int) (by omega) (Int.le_refl _) hbi (by omega)
    simp only [apn,hs'] at hr
    have hsh:=he.shape
    have hzc:=xx hsh
    have hzO:∀h ok,Ow h (e :: kk.tys) ok kk kk.zero (bV kk) []:=fun h ok=>Gn he.gN (fun t ht=>aL.2 (by simp [ht]))
    have hzl:(bV kk).length=kk.size:=dn (hzO (hp w) (fun _=>True))
    have hms:(madeCells (sP kk).cells (n * kk.size)).size=n * kk.size:=by simp [madeCells]
    obtain ⟨α',F',r1,r2⟩:=Qe (r:=bE d 0) (e:=e) (k:=kk) (xs:=List.replicate n kk.zero) (own:=e :: kk.tys) (arr:=madeCells (sP kk).cells (n * kk.size)) (lo:=0) (hi:=0) (n:=n) (c:=n) H g1 (gF d 0)
     (aL.2 (by simp)) (fun i hi=>by omega) (by simp) (apu _) (by rw [hms]; exact apu _)
     (fun i hi=>by
      have hi':i<n:=by simpa using hi
      refine ⟨bV kk,hzl,fun j hj=>?_,fun h ok=>?_⟩
      ·have hlt:i * kk.size+j<n * kk.size:=by
        have:(i+1) * kk.size≤n * kk.size:=apJ _ (by omega)
        rw [Nat.add_mul,Nat.one_mul] at this
        omega
       rw [PW hlt (by rw [hzc]; simp; omega),hzc]
       simp only [List.size_toArray,hzl,List.getElem?_toArray]
       congr 1
       rw [Nat.mul_comm,Nat.mul_add_mod]
       exact Nat.mod_eq_of_lt (by omega)
      ·have:(List.replicate n kk.zero)[i]'hi=kk.zero:=by simp
       rw [this]
       exact hzO h ok) false w.drawn
    refine iW (x:=.one (.ref (bE d 0) 0)) r1 hd hdn ?_ r2 ⟨_,aK .., .inr (apM _)⟩
    simp only [execOp,ho,e1,e2,apD,hr,apw,apI]
    rfl
   ·exact h7.elim
  | _=>exact h.elim
end
end
section
open Go
variable [Fr]
section
variable {P:Program} {T:ji} {cx:Cx} {σ:St} {α:dK} {F:List Nat} {a:Act} {w:World} {o:Oper} {d:Nat} {ws:List Wr}
def mm2 (mx:Bool):Value→Value→Sem Value:=if mx then Builtin.max2 else Builtin.min2
theorem Z5 {A:Type} {z:A} {mx:Bool} {ik:IntKind} {k:Int→Prog A}:∀{l:List AV} {vs:List Value} {x:Int},fG cx σ α F w l vs→JB ik x→(Xz mx ik x l k).ends σ z→
  ∃y,(vs.foldlM (mm2 mx) (.int ik x)).run P w=.ok (.int ik y) w∧JB ik y∧(k y).ends σ z:=by
 intro l
 induction l with
 | nil=>
  intro vs x h1 hr h
  cases vs with
  | nil=>exact ⟨x,rfl,hr,h⟩
  | cons v vs=>exact h1.elim
 | cons u l ih=>
  intro vs x h1 hr h
  cases vs with
  | nil=>exact h1.elim
  | cons v vs=>
   cases u with
   | val k1 y Tg=>
    cases k1 with
    | int jk=>
     simp only [Xz] at h
     rcases aB h with ⟨hk,h5⟩ | ⟨_,h5⟩
     ·have:=Cg hk
      subst this
      obtain ⟨e1,e2⟩:=yA h1.1
      subst e1
      have hr':JB ik (if mx=true then (if (show Int from y)>x then y else x) else (if (show Int from y)<x then y else x)):=by
       split <;> split <;> assumption
      obtain ⟨y',g1,g2,g3⟩:=ih h1.2 hr' h5
      refine ⟨y', ?_,g2,g3⟩
      rw [List.foldlM_cons,apD]
      have hstep:(mm2 mx (.int ik x) (.int ik y)).run P w=.ok (.int ik (if mx=true then (if (show Int from y)>x then y else x) else (if (show Int from y)<x then y else x))) w:=by
       cases mx <;> rfl
      rw [hstep]
      exact g1
     ·exact h5.elim
    | _=>exact h.elim
   | _=>exact h.elim
theorem K9 (H:Rel cx σ α F a w) (hd:o.dst=some d) (hdn:d<cx.nt) {c:Call} {mx:Bool} (ho:o.op=.call c) (hb:c.callee=.builtin (if mx then .max else .min))
  (h:(jR c.args.toList fun
   | .val (.int ik) x _ :: l=>Xz mx ik x l fun z=>.ret [Wr.s d (.one (.val (.int ik) z []))]
   | _=>(.fail:Prog (List Wr))).ends σ ws):sM P cx o a w (aC ws σ):=by
 obtain ⟨vs,h1,h2,h5⟩:=jm H h
 split at h5
 ·rename_i ik x Tg l
  cases hl:c.args.toList with
  | nil=>rw [hl] at h1; exact h1.elim
  | cons y l'=>
   rw [hl] at h1
   obtain ⟨e1,e2⟩:=yA h1.1
   obtain ⟨z,g1,g2,g3⟩:=Z5 (P:=P) (w:=w) h1.2 e2 h5
   rw [aD g3]
   refine bM (v:=.int ik z) H hd hdn ?_ (Uz g2) (fun t ht=>by simp at ht)
   obtain ⟨cc,hcc⟩:=jE (P:=P) (a:=a) (w:=w) ho hb
   rw [hcc]
   have hargs:(c.args.map a.eval).toList=.int ik x :: l'.map a.eval:=by rw [Array.toList_map,hl,List.map_cons,e1]
   cases mx with
   | true=>
    have g1':(List.foldlM Builtin.max2 (Value.int ik x) (l'.map a.eval)).run P w=.ok (.int ik z) w:=g1
    simp only [if_true,builtin,Builtin.max_,hargs,apD,g1',apw,apI]
   | false=>
    have g1':(List.foldlM Builtin.min2 (Value.int ik x) (l'.map a.eval)).run P w=.ok (.int ik z) w:=g1
    simp only [apg,if_false,builtin,Builtin.min_,hargs,apD,g1',apw,apI]
 ·exact h5.elim
end
end
section
open Go
variable [Fr]
theorem fold_at:∀(vs:List Value) (k off:Nat) (cells:Array Value),off+k+vs.length≤cells.size→
  ((vs.zipIdx k).foldl (fun cs (p:Value×Nat)=>cs.setIfInBounds (off+p.2) p.1) cells).size=cells.size∧
  ∀i,((vs.zipIdx k).foldl (fun cs (p:Value×Nat)=>cs.setIfInBounds (off+p.2) p.1) cells)[i]?=if off+k≤i∧i<off+k+vs.length then vs[i - (off+k)]? else cells[i]?:=by
 intro vs
 induction vs with
 | nil=>intro k off cells h; exact ⟨rfl,fun i=>by simp; omega⟩
 | cons v vs ih=>
  intro k off cells h
  simp only [apB] at h
  simp only [List.zipIdx_cons,List.foldl_cons]
  obtain ⟨g1,g2⟩:=ih (k+1) off (cells.setIfInBounds (off+k) v) (by simp; omega)
  refine ⟨by rw [g1]; simp,fun i=>?_⟩
  rw [g2 i]
  simp only [apB]
  by_cases h1:off+(k+1)≤i∧i<off+(k+1)+vs.length
  ·rw [if_pos h1,if_pos (by omega)]
   have:i - (off+k)=(i - (off+(k+1)))+1:=by omega
   rw [this,List.getElem?_cons_succ]
  ·rw [if_neg h1]
   by_cases h2:i=off+k
   ·subst h2
    rw [if_pos (by omega),Array.getElem?_setIfInBounds_self_of_lt (by omega),Nat.sub_self]
    rfl
   ·rw [if_neg (by omega),Array.getElem?_setIfInBounds_ne (by omega)]
theorem YU (vs:List Value) (off:Nat) (cells:Array Value) (h:off+vs.length≤cells.size) :
  (vs.zipIdx.foldl (fun cs (p:Value×Nat)=>cs.setIfInBounds (off+p.2) p.1) cells)=(cells.toList.take off++(vs++cells.toList.drop (off+vs.length))).toArray:=by
 obtain ⟨g1,g2⟩:=fold_at vs 0 off cells (by omega)
 apply Array.ext_getElem?
 intro i
 rw [g2 i]
 simp only [Nat.add_zero,List.getElem?_toArray]
 by_cases h1:i<off
 ·rw [if_neg (by omega),List.getElem?_append_left (by simp; omega),List.getElem?_take_of_lt h1]
  simp
 ·by_cases h2:i<off+vs.length
  ·rw [if_pos (by omega),List.getElem?_append_right (by simp; omega),List.getElem?_append_left (by simp; omega)]
   congr 1
   simp
   omega
  ·rw [if_neg (by omega),List.getElem?_append_right (by simp; omega),List.getElem?_append_right (by simp; omega),List.getElem?_drop]
   rw [Array.getElem?_toList]
   congr 1
   simp
   omega
theorem NT {place:Nat→Option (Nat×Nat)} {cells:Array Value} {i off:Nat} {v:Value} {vs:List Value} {rest:List (Nat×Value)} (hp:place i=some (off,vs.length)) (hv:v.cells=vs.toArray) (hl:off+vs.length≤cells.size) :
  Instr.fill place cells ((i,v) :: rest)=Instr.fill place (cells.toList.take off++(vs++cells.toList.drop (off+vs.length))).toArray rest:=by
 rw [←YU vs off cells hl]
 conv=>lhs; unfold Instr.fill
 rw [hp]
 simp only [hv,List.size_toArray,ne_eq,not_true_eq_false,decide_false,Bool.false_or,decide_eq_true_eq]
 rw [if_neg (by omega)]
 simp
def nW:List (Nat×iL)→EK→Option EK
 | [],b=>some b
 | (n,tk) :: l,b=>match b.k,b.x with
  | .st c,x=>match aQ n c x with
   | some d=>bif tk.k.beq d.1 then
     match cz n c x ⟨tk.k,tk.x⟩ with
     | some z=>nW l { k:=.st z.1,x:=z.2,bad:=tk.bad++b.bad,tags:=iP tk.jV b.tags,ws:=b.ws++tk.ws,keep:=tk.keep || b.keep,all:=tk.tags++b.all }
     | none=>none
    else none
   | none=>none
  | _,_=>none
section
variable {P:Program} {T:ji} {cx:Cx} {σ:St} {α:dK} {F:List Nat} {a:Act} {w:World}
theorem TE {A:Type} {z:A} (H:Rel cx σ α F a w) {k:EK→Prog A}:∀{l:List (Nat×AV)} {vs:List Value} {b:EK},fG cx σ α F w (l.map (·.2)) vs→(∀v∈l,tF σ v.2)→(KT l b k).ends σ z→
  ∃(tks:List iL) (b':EK),tks.length=l.length∧vs.length=l.length∧(∀it∈vs.zip tks,xQ cx σ α F w it.1 it.2)∧nW ((l.map (·.1)).zip tks) b=some b'∧(k b').ends σ z:=by
 intro l
 induction l with
 | nil=>
  intro vs b h1 _ h
  cases vs with
  | nil=>exact ⟨[],b,rfl,rfl,by simp,rfl,h⟩
  | cons v vs=>exact h1.elim
 | cons p l ih=>
  obtain ⟨n,x⟩:=p
  intro vs b h1 h2 h
  cases vs with
  | nil=>exact h1.elim
  | cons v vs=>
   obtain ⟨bk,bx,alo,ahg,bws,ahf,aln⟩:=b
   cases bk with
   | st c=>
    simp only [KT] at h
    cases hg:aQ n c bx with
    | none=>rw [hg] at h; exact h.elim
    | some d=>
     rw [hg] at h
     simp only at h
     obtain ⟨tk,htk,h5⟩:=tX H h1.1 (h2 (n,x) (by simp)) h
     rcases aB h5 with ⟨hk,h6⟩ | ⟨_,h6⟩
     ·cases hp:cz n c bx ⟨tk.k,tk.x⟩ with
      | none=>rw [hp] at h6; exact h6.elim
      | some zz=>
       rw [hp] at h6
       obtain ⟨tks,b',g1,g2,g3,g4,g5⟩:=ih h1.2 (fun v hv=>h2 v (by simp [hv])) h6
       refine ⟨tk :: tks,b',by simp [g1],by simp [g2], ?_, ?_,g5⟩
       ·intro it hit
        rw [List.zip_cons_cons] at hit
        rcases apq.1 hit with h | h
        ·subst h; exact htk
        ·exact g3 it h
       ·rw [List.map_cons,List.zip_cons_cons]
        unfold nW
        simp only [hg,hk,cond_true,hp]
        exact g4
     ·exact h6.elim
   | _=>exact h.elim
end
end
section
open Go
variable [Fr]
def xP (h:Heap) (own:List TypeId) (ok:Nat→Prop):List (Nat×iL)→List Value→List (List Nat)→Prop
 | [],[],[]=>True
 | p :: l,v :: vs,ft :: Ba=>(∃cs,VC p.2.k v cs∧Ow h own ok p.2.k p.2.x cs ft)∧xP h own ok l vs Ba
 | _,_,_=>False
theorem TD {h:Heap} {own:List TypeId} {ok:Nat→Prop} {place:Nat→Option (Nat×Nat)} {c:K} (hpl:∀n off k,bD n c=some (off,k)→place n=some (off,k.size)) :
  ∀(l:List (Nat×iL)) {vs:List Value} {Ba:List (List Nat)} {x:El c} {cs:List Value} {fo:List Nat} {bad:List TypeId} {tags:List Tag} {ws:List Wr} {kp:Bool} {all:List Tag} {b':EK},
   Ow h own ok c x cs fo→xP h own ok l vs Ba→nW l ⟨.st c,x,bad,tags,ws,kp,all⟩=some b'→
   ∃(x':El c) (cs':List Value) (dJ rest:List Nat) (bad':List TypeId) (tags':List Tag) (ws':List Wr) (kp':Bool) (all':List Tag),b'=⟨.st c,x',bad',tags',ws',kp',all'⟩∧Ow h own ok c x' cs' dJ∧(fo++Ba.flatten).Perm (dJ++rest)∧
    Instr.fill place cs.toArray ((l.map (·.1)).zip vs)=some cs'.toArray:=by
 intro l
 induction l with
 | nil=>
  intro vs Ba x cs fo bad tags ws kp all b' H hP hb
  cases vs with
  | nil=>
   cases Ba with
   | nil=>
    simp only [nW,apd] at hb
    exact ⟨x,cs,fo,[],bad,tags,ws,kp,all,hb.symm,H,by simp,rfl⟩
   | cons f fs=>exact hP.elim
  | cons v vs=>cases Ba <;> exact hP.elim
 | cons p l ih=>
  obtain ⟨n,tk⟩:=p
  intro vs Ba x cs fo bad tags ws kp all b' H hP hb
  cases vs with
  | nil=>cases Ba <;> exact hP.elim
  | cons v vs=>
   cases Ba with
   | nil=>exact hP.elim
   | cons ft Ba=>
    obtain ⟨⟨cst,hv,hO⟩,hP'⟩:=hP
    unfold nW at hb
    simp only at hb
    cases hg:aQ n c x with
    | none=>rw [hg] at hb; simp at hb
    | some d=>
     rw [hg] at hb
     simp only at hb
     cases hk:tk.k.beq d.1 with
     | false=>rw [hk] at hb; simp at hb
     | true=>
      rw [hk] at hb
      simp only [cond_true] at hb
      cases hp:cz n c x ⟨tk.k,tk.x⟩ with
      | none=>rw [hp] at hb; simp at hb
      | some z=>
       rw [hp] at hb
       simp only at hb
       have ek:=K.eq_of_beq hk
       have ez:=KZ n hg hp ek
       obtain ⟨off,pre,cs1,post,gq,fr,ho,ec,hl,hpf,hd,hu,_⟩:=JW n H hg
       have r:=hu h ok ⟨tk.k,tk.x⟩ cst ft z hp hO (fun b hb=>⟨hb,rfl⟩) (fun _ _=>rfl)
       obtain ⟨zk,zx⟩:=z
       simp only at ez
       subst ez
       obtain ⟨x',cs',dJ,rest,bad',tags',ws',kp',all',g1,g2,g3,g4⟩:=ih r hP' hb
       refine ⟨x',cs',dJ,gq++rest,bad',tags',ws',kp',all',g1,g2, ?_, ?_⟩
       ·simp only [List.flatten_cons]
        have s1:(fo++(ft++Ba.flatten)).Perm ((gq++fr)++(ft++Ba.flatten)):=List.Perm.append_right _ hpf
        have s2:((gq++fr)++(ft++Ba.flatten)).Perm (gq++((ft++fr)++Ba.flatten)):=by
         rw [apz]
         refine List.Perm.append_left _ ?_
         rw [←apz]
         exact List.Perm.append_right _ List.perm_append_comm
        exact s1.trans (s2.trans ((List.Perm.append_left _ g3).trans zG))
       ·rw [List.map_cons,List.zip_cons_cons]
        have hcl:cst.length=d.1.size:=by rw [dn hO,ek]
        have Jw:v.cells=cst.toArray:=by
         have:=hv.cells
         apply Array.ext'
         simpa using this
        rw [NT (off:=off) (vs:=cst) (by rw [hcl]; exact hpl n off d.1 ho) Jw (by rw [ec]; simp; have:=dn hd; omega)]
        have e2:(cs.toArray.toList.take off++(cst++cs.toArray.toList.drop (off+cst.length)))=pre++(cst++post):=by
         have hd1:=dn hd
         simp only
         rw [ec, ←hl]
         simp [hcl, ←hd1]
        rw [e2]
        exact g4
end
section
open Go
variable [Fr]
theorem Jr:∀(l:List (Nat×iL)) {b b':EK},nW l b=some b'→
  b'.ws=b.ws++l.flatMap (fun p=>p.2.ws)∧(∀p∈l,∀t∈p.2.tags,t∈b'.all)∧(∀t∈b.all,t∈b'.all)∧(∀p∈l,∀t∈p.2.bad,t∈b'.bad)∧(∀t∈b.bad,t∈b'.bad)∧
  (∀p∈l,∀t∈p.2.jV,t∈b'.tags)∧(∀t∈b.tags,t∈b'.tags)∧(∀t∈b'.tags,t∈b.tags∨∃p∈l,t∈p.2.jV):=by
 intro l
 induction l with
 | nil=>
  intro b b' h
  simp only [nW,apd] at h
  subst h
  simp
 | cons p l ih=>
  obtain ⟨n,tk⟩:=p
  intro b b' h
  obtain ⟨bk,bx,alo,ahg,bws,ahf,aln⟩:=b
  cases bk with
  | st c=>
   unfold nW at h
   simp only at h
   cases hg:aQ n c bx with
   | none=>rw [hg] at h; simp at h
   | some d=>
    rw [hg] at h
    simp only at h
    cases hk:tk.k.beq d.1 with
    | false=>rw [hk] at h; simp at h
    | true=>
     rw [hk] at h
     simp only [cond_true] at h
     cases hp:cz n c bx ⟨tk.k,tk.x⟩ with
     | none=>rw [hp] at h; simp at h
     | some z=>
      rw [hp] at h
      simp only at h
      obtain ⟨g1,g2,g3,g4,g5,g6,g7,g8⟩:=ih h
      refine ⟨by rw [g1]; simp, ?_,fun t ht=>g3 t (by simp [ht]), ?_,fun t ht=>g5 t (by simp [ht]), ?_,fun t ht=>g7 t (cK.2 (.inr ht)), ?_⟩
      ·intro p hp t ht
       rcases apq.1 hp with h | h
       ·subst h; exact g3 t (by simp [ht])
       ·exact g2 p h t ht
      ·intro p hp t ht
       rcases apq.1 hp with h | h
       ·subst h; exact g5 t (by simp [ht])
       ·exact g4 p h t ht
      ·intro p hp t ht
       rcases apq.1 hp with h | h
       ·subst h; exact g7 t (cK.2 (.inl ht))
       ·exact g6 p h t ht
      ·intro t ht
       rcases g8 t ht with h | ⟨p,h1,h2⟩
       ·rcases cK.1 h with h | h
        ·exact .inr ⟨(n,tk),by simp,h⟩
        ·exact .inl h
       ·exact .inr ⟨p,by simp [h1],h2⟩
  | _=>simp [nW] at h
theorem xP.mono {h:Heap} {own:List TypeId} {ok ok':Nat→Prop} (hk:∀b,ok b→ok' b):∀{l:List (Nat×iL)} {vs:List Value} {Ba:List (List Nat)},xP h own ok l vs Ba→xP h own ok' l vs Ba
 | [],[],[],_=>trivial
 | _ :: _,_ :: _,_ :: _,hP=>⟨by obtain ⟨cs,h1,h2⟩:=hP.1; exact ⟨cs,h1,bC (fun _ _=>rfl) hk (fun _ _=>rfl) h2⟩,xP.mono hk hP.2⟩
 | [],[],_ :: _,hP=>hP.elim
 | [],_ :: _,_,hP=>hP.elim
 | _ :: _,[],_,hP=>hP.elim
 | _ :: _,_ :: _,[],hP=>hP.elim
section
variable {cx:Cx} {σ:St} {α:dK} {F:List Nat} {w:World}
theorem DK {own':List TypeId} {T:List Tag}:∀(items:List (Nat×Value×iL)) {hs:List (List Value×List Nat)},rW cx σ α F w (items.map (·.2)) hs→(∀it∈items,∀t∈it.2.2.bad,ay t own'=false)→(∀it∈items,∀t∈it.2.2.jV,t∈T)→
  ∃(Ba:List (List Nat)) (HY:List Nat),(hs.flatMap (·.2)).Perm (Ba.flatten++HY)∧xP (hp w) own' (fun b=>iT cx σ α F w T b∨b∈HY) (items.map fun p=>(p.1,p.2.2)) (items.map (·.2.1)) Ba:=by
 intro items
 induction items with
 | nil=>
  intro hs h _ _
  cases hs with
  | nil=>exact ⟨[],[],by simp,trivial⟩
  | cons _ _=>exact h.elim
 | cons it items ih=>
  obtain ⟨n,v,tk⟩:=it
  intro hs h hbad htag
  cases hs with
  | nil=>exact h.elim
  | cons hd hs=>
   obtain ⟨cs,fo⟩:=hd
   obtain ⟨⟨h1,h2,h3⟩,h4⟩:=h
   obtain ⟨Ba,HY,g1,g2⟩:=ih h4 (fun it hit=>hbad it (by simp [hit])) (fun it hit=>htag it (by simp [hit]))
   have hO:=h2.ow h3
   have hO2:Ow (hp w) tk.own (fun b=>iT cx σ α F w T b) tk.k tk.x cs fo:=by
    cases hb:tk.bad with
    | nil=>exact gP hb hO
    | cons t0 l=>
     have e:tk.jV=tk.tags:=by unfold iL.jV; rw [hb]
     exact bC (fun _ _=>rfl) (fun b hb=>wT hb (fun t ht=>htag (n,v,tk) (by simp) t (by show t∈tk.jV; rw [e]; exact ht))) (fun _ _=>rfl) hO
   obtain ⟨ft,DF,p1,p2⟩:=vM (own':=own') (fun t ht hm=>by
    rcases CV (own:=tk.own) ht with h | h
    ·have:=hbad (n,v,tk) (by simp) t h
     rw [hm] at this
     simp at this
    ·exact h) hO2
   refine ⟨ft :: Ba,DF++HY, ?_,⟨cs,h1,bC (fun _ _=>rfl) (fun b hb=>?_) (fun _ _=>rfl) p2⟩,g2.mono (fun b hb=>?_)⟩
   ·simp only [List.flatMap_cons,List.flatten_cons]
    refine (p1.append g1).trans ?_
    simp only [apz]
    refine List.Perm.append_left _ ?_
    exact zG
   ·rcases hb with hb | hb
    ·exact .inl hb
    ·exact .inr (by simp [hb])
   ·rcases hb with hb | hb
    ·exact .inl hb
    ·exact .inr (by simp [hb])
end
end
section
open Go
variable [Fr]
theorem XG {P:Program} {T:ji}:∀{c:K} {fs:List Field} {Mj:Nat},(jU P T c).2 fs Mj→
  ∃places,fs.mapM (fun f=>(P.info? f.type).map fun i=>(f.offset,i.size))=some places∧∀n off k,bD n c=some (off,k)→places[n]?=some (Mj+off,k.size):=by
 intro c
 induction c with
 | unit=>
  intro fs Mj h
  have h':fs=[]:=h
  subst h'
  exact ⟨[],rfl,fun n off k ho=>by cases n <;> simp [bD] at ho⟩
 | pair a b iha ihb=>
  intro fs Mj h
  cases fs with
  | nil=>exact h.elim
  | cons f fs=>
   obtain ⟨h1,h2,h3,h4⟩:=h
   obtain ⟨pl,g1,g2⟩:=ihb h4
   obtain ⟨i,i1,i2,_⟩:=fM.info (show fM P T f.type a from h2)
   refine ⟨(Mj,a.size) :: pl, ?_, ?_⟩
   ·rw [List.mapM_cons,i1,g1]
    simp [h1,i2]
   ·intro n off k ho
    cases n with
    | zero=>
     simp only [bD,apd,apo] at ho
     obtain ⟨rfl,rfl⟩:=ho
     rfl
    | succ n=>
     simp only [bD] at ho
     cases h5:bD n b with
     | none=>rw [h5] at ho; simp at ho
     | some q=>
      rw [h5] at ho
      simp only [apd,apo] at ho
      rw [List.getElem?_cons_succ,g2 n q.1 q.2 (by rw [h5]), ←ho.1, ←ho.2]
      congr 2
      omega
 | _=>intro fs Mj h; exact h.elim
theorem YC {P:Program} {T:ji} {t:TypeId} {c:K} (ht:fM P T t (.st c)):∃place:Nat→Option (Nat×Nat),(∀n off k,bD n c=some (off,k)→place n=some (off,k.size))∧
  ∀parts,P.built t parts=Instr.fill place (bV c).toArray parts:=by
 obtain ⟨fs,hu,hf⟩:=ht.st
 obtain ⟨i,i1,i2,i3⟩:=ht.info
 obtain ⟨pl,g1,g2⟩:=XG hf
 refine ⟨(pl.toArray[·]?),fun n off k ho=>?_,fun parts=>?_⟩
 ·have:=g2 n off k ho
  simpa using this
 ·unfold Program.built
  rw [i1,hu]
  simp only [i3,g1]
  rfl
theorem Gp {h:Heap} {own:List TypeId} {ok:Nat→Prop}:∀{k:K},gN k=true→Ow h own ok k k.zero (bV k) []:=by
 intro k
 induction k with
 | int ik=>intro _; exact ⟨rfl,rfl,by cases ik <;> simp [JB,K.zero]⟩
 | bool=>intro _; exact ⟨rfl,rfl⟩
 | id e=>intro _; exact ⟨rfl,by show _=[Fr.iN 0]; rw [Fr.aeP]; rfl⟩
 | str=>intro _; exact ⟨rfl,ByteArray.empty,rfl,rfl⟩
 | sl e k ih=>intro _; exact zC
 | unit=>intro _; exact ⟨rfl,rfl⟩
 | pair a b iha ihb=>
  intro hg
  simp [gN] at hg
  exact ⟨bV a,bV b,[],[],rfl, .refl _,iha hg.1,ihb hg.2⟩
 | st f ih=>intro hg; exact ih hg
 | gap n=>intro hg; simp [gN] at hg
theorem MQ {cx:Cx} {σ:St} {α:dK} {F:List Nat} {w:World} {r:Nat} (hn:σ.roots r=none):∀{l:List (Value×iL)},(∀it∈l,xQ cx σ α F w it.1 it.2)→r∉(vF l).flatMap Wr.uF:=by
 intro l h hm
 simp only [vF,apP] at hm
 obtain ⟨wr,⟨it,hit,hw⟩,hr⟩:=hm
 cases h it hit with
 | held hws cs hv hh hc=>rw [hws] at hw; simp at hw
 | ref q R hlr hv e hk hd=>
  rw [e] at hw
  simp only [apx] at hw
  subst hw
  simp only [Wr.uF,apx] at hr
  rw [hr,hlr.1] at hn
  simp at hn
 | cut q R cs hlr hv hk e hd hl Xf how=>
  rw [e.2.2.1] at hw
  simp only [apx] at hw
  subst hw
  simp only [Wr.uF,apx] at hr
  rw [hr,hlr.1] at hn
  simp at hn
 | gap q R p dd z hlr hv hg hz fU hown hpv e hnn=>
  rw [e] at hw
  simp only [apx] at hw
  subst hw
  simp only [Wr.uF,apx] at hr
  rw [hr,hlr.1] at hn
  simp at hn
theorem OT:∀(ns:List Nat) (vs:List Value) (ts:List iL),ns.length=ts.length→vs.length=ts.length→
  ((ns.zip (vs.zip ts)).map (·.2)=vs.zip ts)∧((ns.zip (vs.zip ts)).map (fun p=>(p.1,p.2.2))=ns.zip ts)∧((ns.zip (vs.zip ts)).map (·.2.1)=vs)∧(vF (vs.zip ts)=(ns.zip ts).flatMap (fun p=>p.2.ws)):=by
 intro ns
 induction ns with
 | nil=>
  intro vs ts h1 h2
  cases ts with
  | nil=>cases vs with
   | nil=>exact ⟨rfl,rfl,rfl,rfl⟩
   | cons _ _=>simp at h2
  | cons _ _=>simp at h1
 | cons n ns ih=>
  intro vs ts h1 h2
  cases ts with
  | nil=>simp at h1
  | cons t ts=>
   cases vs with
   | nil=>simp at h2
   | cons v vs=>
    obtain ⟨g1,g2,g3,g4⟩:=ih vs ts (by simpa using h1) (by simpa using h2)
    refine ⟨by simp [g1],by simp [g2],by simp [g3], ?_⟩
    unfold vF at g4 ⊢
    simp [g4]
end
section
open Go
variable [Fr]
section
variable {P:Program} {T:ji} {cx:Cx} {σ:St} {α:dK} {F:List Nat} {a:Act} {w:World} {o:Oper} {d:Nat} {ws:List Wr}
theorem Ce:∀{l:List (Value×iL)} {hs:List (List Value×List Nat)},rW cx σ α F w l hs→∀b∈hs.flatMap (·.2),b∈F
 | [],[],_,b,hb=>by simp at hb
 | _ :: _,hd :: hs,h,b,hb=>by
  simp only [List.flatMap_cons,apm] at hb
  rcases hb with hb | hb
  ·exact h.1.2.1.sub b hb
  ·exact Ce h.2 b hb
 | [],_ :: _,h,_,_=>h.elim
 | _ :: _,[],h,_,_=>h.elim
theorem Eb:∀{l:List (Value×iL)} {hs:List (List Value×List Nat)},rW cx σ α F w l hs→∀it∈l,fD σ it.2.tags
 | [],[],_,it,hi=>by simp at hi
 | _ :: _,hd :: hs,h,it,hi=>by
  rcases apq.1 hi with hi | hi
  ·subst hi; exact h.1.2.1.wt
  ·exact Eb h.2 it hi
 | [],_ :: _,h,_,_=>h.elim
 | _ :: _,[],h,_,_=>h.elim
theorem WC (hT:fu P T) (H:Rel cx σ α F a w) (hd:o.dst=some d) (hdn:d<cx.nt) {t:TypeId} {ps:Array (Nat×Operand)}
  (h:(match T.ty t with
   | some (.st c)=>Lh ps.toList fun l=>KT l ⟨.st c,(K.st c).zero,[],[],[],false,[]⟩ fun b=>bif !NC b.ws b.all then .fail else bif b.k.tys.all fun t=>ay t b.bad then
     .ret (b.ws++[Wr.s d (.one (.val b.k b.x b.tags))])
    else jY (bE d 0) (.ret (b.ws++[Wr.r (bE d 0) (some (aP b.k b.x (bJ b.k.tys b.bad) b.tags .anon b.keep)),Wr.s d (.one (.ref (bE d 0) 0))]))
   | _=>(.fail:Prog (List Wr))).ends σ ws) (ho:o.op=.build t ps):sM P cx o a w (aC ws σ):=by
 cases hty:T.ty t with
 | none=>rw [hty] at h; exact h.elim
 | some k0=>
  rw [hty] at h
  cases k0 with
  | st c=>
   have ht:=hT.ty t _ hty
   simp only at h
   obtain ⟨vs,e1,h1,h2,h3⟩:=NR H h
   obtain ⟨tks,b',l1,l2,Y2,Rv,h4⟩:=TE H h1 h2 h3
   have hlen:vs.length=tks.length:=l1.symm
   have Un:(vs.map (·.1)).length=tks.length:=by rw [List.length_map]; exact hlen
   have RI:((evs a ps.toList).map (·.2)).length=tks.length:=by rw [l2]; exact hlen
   generalize hns:vs.map (·.1)=ns at *
   generalize hvv:(evs a ps.toList).map (·.2)=vals at *
   obtain ⟨z1,z2,z3,z4⟩:=OT ns vals tks Un RI
   obtain ⟨f1,f2,f3,f4,f5,f6,f7,f8⟩:=Jr _ Rv
   simp only [List.nil_append] at f1
   rcases aB h4 with ⟨_,h5⟩ | ⟨hws,h5⟩
   ·exact h5.elim
   ·have PR:NC b'.ws b'.all=true:=by simpa using hws
    unfold NC at PR
    simp only [apj] at PR
    have hw1:=Ag.1 PR.1
    have hw2:=D7.1 PR.2
    rw [f1, ←z4] at hw1 hw2
    obtain ⟨α',F',hs,H',hA,hnd,hnF,hFF,hS,_⟩:=takes (vals.zip tks) H Y2 hw1 (fun tg xC=>hw2 tg (by
     obtain ⟨it,hit,h6⟩:=apP.1 xC
     have:it∈(ns.zip (vals.zip tks)).map (·.2):=by rw [z1]; exact hit
     obtain ⟨q,hq,rfl⟩:=apO.1 this
     exact f2 (q.1,q.2.2) (by rw [←z2]; exact apO.2 ⟨q,hq,rfl⟩) tg h6))
    have hA0:=hA
    rw [←z1] at hA
    obtain ⟨Ba,HY,p1,p2⟩:=DK (own':=bJ (K.st c).tys b'.bad) (T:=b'.tags) (ns.zip (vals.zip tks)) hA
     (fun it hit tg xC=>by
      cases hm:ay tg (bJ (K.st c).tys b'.bad) with
      | false=>rfl
      | true=>exact absurd (f4 (it.1,it.2.2) (by rw [←z2]; exact apO.2 ⟨it,hit,rfl⟩) tg xC) (dH.1 hm).2)
     (fun it hit tg xC=>f6 (it.1,it.2.2) (by rw [←z2]; exact apO.2 ⟨it,hit,rfl⟩) tg xC)
    rw [z2,z3,z1] at p2
    obtain ⟨place,q1,q2⟩:=YC ht
    obtain ⟨x',cs',dJ,rest,bad',tags',ws2,kp',all',r1,r2,r3,r4⟩:=TD q1 (ns.zip tks) (x:=(K.st c).zero) (cs:=bV c) (fo:=[]) (Gp (k:=c) ht.gN) p2 Rv
    subst r1
    simp only at PR f1 f2 f3 f4 f5 f6 f7 f8 h5 p2 r2 r3
    have hzn:(ns.zip tks).map (·.1)=ns:=by rw [List.map_fst_zip (by omega)]
    have hparts:((ps.map fun (p:Nat×Operand)=>(p.1,a.eval p.2)).toList)=ns.zip vals:=by
     rw [Array.toList_map, ←hvv,e1]
     have:∀l:List (Nat×Operand),l.map (fun p=>(p.1,a.eval p.2))=(l.map (·.1)).zip ((evs a l).map (·.2)):=by
      intro l
      induction l with
      | nil=>rfl
      | cons p l ih=>simp [evs] at ih ⊢; exact ih
     exact this _
    have hrun:(execOp a.eval o).run P w=.ok (.value (.agg cs'.toArray)) w:=by
     have hb:=run_build (P:=P) w t (ps.map fun (p:Nat×Operand)=>(p.1,a.eval p.2)) cs'.toArray (by rw [hparts,q2, ←r4,hzn])
     simp only [execOp,ho,apD,hb,apw,apI]
    have hperm:(hs.flatMap (·.2)).Perm (dJ++(rest++HY)):=by
     refine p1.trans ?_
     rw [←apz]
     exact List.Perm.append_right _ (by simpa using r3)
    have tN:=hperm.nodup hnd
    have hin:∀b∈hs.flatMap (·.2),b∈F':=Ce hA0
    have Np:∀b∈dJ,b∈F':=fun b hb=>hin b (hperm.mem_iff.2 (by simp [hb]))
    have aep:∀b∈HY,b∈F'∧b∉dJ:=fun b hb=>⟨hin b (hperm.mem_iff.2 (by simp [hb])),fun h=>(apk.1 tN).2.2 b h b (by simp [hb]) rfl⟩
    have hV:VC (.st c) (.agg cs'.toArray) cs':=rfl
    have hwt:fD (aC (vF (vals.zip tks)) σ) tags':=by
     intro tg xC
     rcases f8 tg xC with h | ⟨q,hq,hq2⟩
     ·simp at h
     ·rw [←z2] at hq
      obtain ⟨it,hit,rfl⟩:=apO.1 hq
      have hit2:it.2∈vals.zip tks:=by rw [←z1]; exact apO.2 ⟨it,hit,rfl⟩
      exact J6 (Eb hA0 it.2 hit2) tg hq2
    have abN:ws2=vF (vals.zip tks):=by rw [f1,z4]
    rcases aB h5 with ⟨hall,h6⟩ | ⟨_,h6⟩
    ·rw [aD h6]
     have hnone:∀tg∈c.tys,ay tg (bJ (K.st c).tys bad')=false:=by
      intro tg xC
      cases hm:ay tg (bJ (K.st c).tys bad') with
      | false=>rfl
      | true=>
       have:=apt.1 hall tg xC
       exact absurd (aL.1 this) (dH.1 hm).2
     have LG:dJ=[]:=by
      cases hf:dJ with
      | nil=>rfl
      | cons b l=>
       obtain ⟨e,g1,g2,_⟩:=uH (k:=c) r2 b (by rw [hf]; simp)
       rw [hnone e g1] at g2
       simp at g2
     have T2:=FQ (w':=w) (F':=F'.filter fun b=>!ay b HY) H' ⟨rfl,rfl,rfl⟩ (apu _) (fun _ _ h=>absurd rfl h) (fun b hb=>.inl (apv.1 hb).1) (H'.Ca.filter _)
     have H2:=H'.mem T2
     have hok:∀b,(iT cx (aC (vF (vals.zip tks)) σ) α' F' w tags' b∨b∈HY)→iT cx (aC (vF (vals.zip tks)) σ) α' (F'.filter fun b=>!ay b HY) w tags' b:=by
      rintro b (hb | hb)
      ·exact ⟨hb.1,fun h=>hb.2.1 (apv.1 h).1,hb.2.2⟩
      ·have Jv:=(aep b hb).1
       have hm:=H'.fl b Jv
       refine ⟨hm.1,fun h=>?_,sU H' Jv,fun q Q hq hbq=>absurd Jv (H'.jB q Q hq b hbq),fun h0=>?_⟩
       ·have:=(apv.1 h).2
        simp only [Bool.not_eq_true',aV] at this
        exact this hb
       ·rcases hm.2 with h | ⟨j,pi,h1,h2⟩
        ·omega
        ·exact .inr ⟨j,pi,h1,h2⟩
     have hVw:=lu (k:=.st c) _ hok (fun b hb=>by rw [LG] at hb; simp at hb) r2
     rw [abN,dA]
     exact iW (x:=.one (.val (.st c) x' tags')) H2 hd hdn hrun (show bI cx _ α' _ w (.val (.st c) x' tags') _ from fun _=>⟨cs',hV,hVw⟩) hwt
    ·obtain ⟨g1,g2⟩:=gZ h6
     rw [aD g2]
     have hnr:=MQ g1 Y2
     have hn1:(aC (vF (vals.zip tks)) σ).roots (bE d 0)=none:=by rw [(hS _ hnr).root]; exact g1
     obtain ⟨II,k1,k2⟩:=BR (k:=.st c) (x:=x') (own:=bJ (K.st c).tys bad') (tags:=tags') (v:=.agg cs'.toArray) (cs:=cs') (fo:=dJ) (r:=bE d 0) (F':=F'.filter fun b=>!ay b (dJ++HY)) H' hn1 (gF d 0)
      Np (apk.1 tN).1 hwt (fun b hb=>by
       rw [apv] at hb
       have:=hb.2
       simp only [Bool.not_eq_true',aV,apm,not_or] at this
       exact ⟨hb.1,this.1⟩) (H'.Ca.filter _) (dn (k:=c) r2)
      (fun _=>bC (k:=.st c) (fun _ _=>rfl) (fun b hb=>by
       rcases hb with hb | hb
       ·exact .inl hb
       ·refine .inr ⟨(aep b hb).1,fun h=>?_,(aep b hb).2⟩
        rw [apv] at h
        have:=h.2
        simp only [Bool.not_eq_true',aV,apm,not_or] at this
        exact this.2 hb) (fun _ _=>rfl) r2) hV kp'
     rw [abN,dA]
     exact iW (x:=.one (.ref (bE d 0) 0)) k1 hd hdn hrun k2 ⟨_,aK .., .inr (apM _)⟩
  | _=>exact h.elim
end
end
section
open Go
variable [Fr]
section
variable {P:Program} {T:ji} {w:World}
structure Src (P:Program) (w:World) (size:Nat) (u:TypeId) (x:Value) (m:Nat) (news:List Value):Prop where
 und:(∃e',P.underlying u=some (.slice e'))∨P.underlying u=some .string
 len:∀w',(Builtin.lenOf x).run P w'=.ok m w'
 cells:(Builtin.firstCells size m x).run P w=.ok news.toArray w∧(Builtin.firstCells size m x).run P w.drew=.ok news.toArray w.drew
 nl:news.length=m * size
 one:∀v∈news,v.oneCell'=true
theorem De {size:Nat} {u:TypeId} {b:Option Addr} {m c:Nat} {news:List Value} (hu:(∃e',P.underlying u=some (.slice e'))∨P.underlying u=some .string) (hl:news.length=m * size) (h1:∀v∈news,v.oneCell'=true)
  (hc:0<m→∃bb q,b=some ⟨bb,q,none⟩∧Cells (hp w) bb q news):Src P w size u (.slice b m c) m news where
 und:=hu
 len:=fun w'=>rfl
 cells:=by
  have key:∀w',hp w'=hp w→(Builtin.firstCells size m (.slice b m c)).run P w'=.ok news.toArray w':=by
   intro w' hw
   by_cases h0:0<m
   ·obtain ⟨bb,q,rfl,hcs⟩:=hc h0
    exact run_firstCells_some (P:=P) w' size m ⟨bb,q,none⟩ m c news hl (fun j v hj=>by
     rw [addr_add,Al,hw,hcs j (List.getElem?_eq_some_iff.1 hj).1]
     exact hj)
   ·have hm:m=0:=by omega
    subst hm
    have hn:news=[]:=List.eq_nil_of_length_eq_zero (by simpa using hl)
    subst hn
    cases b with
    | none=>exact run_firstCells_none w' size 0 0 c
    | some ad=>exact run_firstCells_some (P:=P) w' size 0 ad 0 c [] (by simp) (fun j v hj=>by simp at hj)
  exact ⟨key w rfl,key w.drew rfl⟩
 nl:=hl
 one:=h1
theorem UL {u:TypeId} {B:ByteArray} (hu:(∃e',P.underlying u=some (.slice e'))∨P.underlying u=some .string):Src P w 1 u (.string B) B.size (B.data.toList.map fun b=>.int .u8 b.toNat) where
 und:=hu
 len:=fun w'=>rfl
 cells:=by
  have h:B.extract 0 B.size=B:=by
   apply ByteArray.ext
   simp
  constructor <;> (simp [Builtin.firstCells,h]; apply Array.ext'; simp)
 nl:=by simp
 one:=by intro v hv; simp only [apO] at hv; obtain ⟨b,_,rfl⟩:=hv; rfl
theorem yM {t u ty e:TypeId} {k:K} (ht:fM P T t (.sl e k)) {b:Option Addr} {n c m:Nat} {x:Value} {news:List Value} (hs:Src P w k.size u x m news) (hr:n+m≤c) :
  (Builtin.append_ #[t,u] ty #[.slice b n c,x]).run P w=(match b with
   | some a=>(storeCells (a.add (n * k.size)) news).run P w
   | none=>.ok () w).andThen fun _ w'=>.ok (.slice b (n+m) c) w':=by
 obtain ⟨hu,he,_,_⟩:=ht.sl
 have e1:=hs.len w
 have e2:=hs.cells.1
 rcases hs.und with ⟨e',hd⟩ | hd <;> cases b <;> simp [Builtin.append_,run_underlying hu,he.info.sizeOf w,run_underlying hd,e1,e2,hr,Result.andThen]
end
end
section
open Go
variable [Fr]
section
variable {P:Program} {T:ji} {w:World}
theorem CE {t u ty e:TypeId} {k:K} (ht:fM P T t (.sl e k)) {b:Option Addr} {n c m:Nat} {x:Value} {news olds:List Value} (hs:Src P w k.size u x m news)
  (hold:(Builtin.firstCells k.size n (.slice b n c)).run P w.drew=.ok olds.toArray w.drew) (hr:¬n+m≤c) (hb:(n+m) * T.bytes e≤140737488355328) :
  ∃nc,n+m≤nc∧(Builtin.append_ #[t,u] ty #[.slice b n c,x]).run P w =
   .ok (.slice (some ⟨w.heap.size,0,none⟩) (n+m) nc) (w.drew.alloc (.cells (olds.toArray++news.toArray++Builtin.zeroCells (sP k).cells (nc - (n+m))) e)):=by
 obtain ⟨hu,he,_,i,hi,hby,hpos⟩:=ht.sl
 obtain ⟨i',hi',hs',hz'⟩:=he.info
 rw [hi] at hi'
 simp only [apd] at hi'
 subst hi'
 have e1:=hs.len w
 have e2:=hs.cells.2
 have h2:¬(281474976710656<Builtin.nextslicecap (n+m) c * i.bytes):=by
  have:=growslice_fits (need:=n+m) (old:=c) (bytes:=i.bytes) (by omega) (by rw [hby]; exact hb)
  omega
 have h3:i.bytes≠0:=by omega
 refine ⟨grownCap w (n+m) c e,grownCap_ge w (n+m) c e, ?_⟩
 rw [←hs'] at hold e2
 rcases hs.und with ⟨e',hd⟩ | hd
 ·simp [Builtin.append_,run_underlying hu,run_underlying hd,sizeOf,typeInfo,zeroValue,hi,hz',e1,hr,h2,h3,Question.forced,hold,e2,newRow,grownCap]
  congr 2
  apply Array.ext'
  simp [apz]
 ·simp [Builtin.append_,run_underlying hu,run_underlying hd,sizeOf,typeInfo,zeroValue,hi,hz',e1,hr,h2,h3,Question.forced,hold,e2,newRow,grownCap]
  congr 2
  apply Array.ext'
  simp [apz]
end
end
section
open Go
variable [Fr]
def nS (news:List Value) (s i:Nat):List Value:=(news.drop (i * s)).take s
theorem sH {news:List Value} {s i m:Nat} (h:news.length=m * s) (hi:i<m):(nS news s i).length=s:=by
 unfold nS
 have:(i+1) * s≤m * s:=apJ _ hi
 rw [Nat.add_mul,Nat.one_mul] at this
 simp
 omega
theorem mH {news:List Value} {s i j:Nat} (hj:j<s):(nS news s i)[j]?=news[i * s+j]?:=by
 unfold nS
 rw [List.getElem?_take,if_pos hj,List.getElem?_drop]
theorem FC {bz Cc:List (List Nat)} {i:Nat}:(bz++Cc).getD i []=if i<bz.length then bz.getD i [] else Cc.getD (i - bz.length) []:=by
 simp only [apr,List.getElem?_append]
 split <;> rfl
section
variable {P:Program} {T:ji} {w:World}
theorem NI {t u ty e:TypeId} {kk:K} (ht:fM P T t (.sl e kk)) {own:List TypeId} {ok:Nat→Prop} {yP AU:List (El kk)} {v0 x:Value} {yI:List Nat} {bz:List (List Nat)} {news:List Value}
  (hO:Ow (hp w) own ok (.sl e kk) yP [v0] yI) (hown:ay e own=true) (hnd:(yI++bz.flatten).Nodup) (hok:∀b,ok b→b∉yI∧b<w.heap.size) (hlt:∀b∈yI++bz.flatten,b<w.heap.size)
  (hS:Src P w kk.size u x AU.length news) (hfl:bz.length=AU.length) (hel:∀i (hi:i<AU.length),Ow (hp w) own ok kk AU[i] (nS news kk.size i) (bz.getD i []))
  (hb:(yP.length+AU.length) * T.bytes e≤140737488355328) :
  ∃v' w' dJ,(Builtin.append_ #[t,u] ty #[v0,x]).run P w=.ok v' w'∧(w'.os=w.os∧w'.tape=w.tape∧w'.output=w.output)∧w.heap.size≤w'.heap.size∧
   (∀b,b<w.heap.size→hp w' b≠hp w b→b∈yI∧q8 (hp w) b=some e)∧(∀b∈dJ,b∈yI∨b∈bz.flatten∨(w.heap.size≤b∧b<w'.heap.size))∧dJ.Nodup∧
   Ow (hp w') own ok (.sl e kk) (yP++AU) [v'] dJ:=by
 have hsz:0<kk.size:=ht.sl.2.2.1
 have hnl:=hS.nl
 unfold Ow at hO
 rw [if_pos hown] at hO
 obtain ⟨a,n,c,e1,e2,e3,hO⟩:=hO
 simp only [List.cons.injEq,and_true] at e1
 subst e1
 have e2':n=yP.length:=e2
 have hnd':=apk.1 hnd
 by_cases hr:n+AU.length≤c
 ·have hrun:=yM (ty:=ty) ht hS (b:=a) (n:=n) hr
  rcases hO with ⟨hc0,hf0⟩ | ⟨b,o,arr,lo,hi,ea,hbk,hf,hs,xB,hl0,hp0,hO⟩
  ·have hx1:AU=[]:=List.eq_nil_of_length_eq_zero (by omega)
   have hx0:yP=[]:=List.eq_nil_of_length_eq_zero (by omega)
   subst hx1
   subst hx0
   have hnews:news=[]:=List.eq_nil_of_length_eq_zero (by simpa using hnl)
   subst hnews
   have hn0:n=0:=by simpa using e2'
   subst hn0
   subst hc0
   have:(Builtin.append_ #[t,u] ty #[.slice a 0 0,x]).run P w=.ok (.slice a 0 0) w:=by
    rw [hrun]
    cases a <;> rfl
   exact ⟨_,w,[],this,⟨rfl,rfl,rfl⟩,apu _,fun b _ h=>absurd rfl h,fun b hb=>by simp at hb,List.nodup_nil,zC⟩
  ·subst ea
   have hle:(n+AU.length) * kk.size≤c * kk.size:=apJ _ hr
   rw [Nat.add_mul] at hle
   have hst:=nI (P:=P) (o:=o+n * kk.size) news hbk hf (by rw [hnl]; omega) hS.one
   simp only [Result.andThen,addr_add,hst] at hrun
   obtain ⟨s1,s2,kP,s3,s4,s5,s6⟩:=uV b news w arr e (lo,hi) (o+n * kk.size) hbk (by rw [hnl]; omega)
   have s7:=qD b news w (o+n * kk.size)
   have hb0:b∈yI:=hp0.mem_iff.2 (by simp)
   have sO:=hp0.nodup hnd'.1
   have hne:∀b'∈xB.flatten++bz.flatten,b'≠b:=by
    intro b' hb' e
    subst e
    rcases apm.1 hb' with h | h
    ·exact (apL.1 sO).1 h
    ·exact hnd'.2.2 b' hb0 b' h rfl
   have ahW:∀b',ok b'→hp (w.setCells b (o+n * kk.size) news) b'=hp w b':=fun b' h=>s1 b' (fun e=>(hok b' h).1 (e▸hb0))
   refine ⟨_,_,b :: (xB.flatten++bz.flatten),hrun,s7,by omega, ?_, ?_, ?_, ?_⟩
   ·intro b' _ hne'
    by_cases e:b'=b
    ·subst e; exact ⟨hb0,by unfold q8; rw [hbk]⟩
    ·exact absurd (s1 b' e) hne'
   ·intro b' hb'
    rcases apq.1 hb' with h | h
    ·subst h; exact .inl hb0
    ·rcases apm.1 h with h | h
     ·exact .inl (hp0.mem_iff.2 (by simp [h]))
     ·exact .inr (.inl h)
   ·refine apL.2 ⟨fun h=>hne b h rfl,apk.2 ⟨(apL.1 sO).2,hnd'.2.1,fun b1 h1 b2 h2 e=>hnd'.2.2 b1 (hp0.mem_iff.2 (by simp [h1])) b2 h2 e⟩⟩
   ·unfold Ow
    rw [if_pos hown]
    refine ⟨_,_,_,rfl,by simp [e2'],hr, .inr ⟨b,o,kP,lo,hi,rfl,s3,by rw [s4]; exact hf,by rw [s4]; exact hs,xB++bz,by simp [hl0,hfl],by simp,fun i hi=>?_⟩⟩
    have hi':i<yP.length+AU.length:=by simpa using hi
    rw [FC]
    by_cases hi0:i<yP.length
    ·obtain ⟨ds,h1,h2⟩:=hO i hi0
     have alW:i<xB.length:=by rw [hl0]; exact hi0
     rw [if_pos alW]
     have hx:(yP++AU)[i]'hi=yP[i]:=List.getElem_append_left hi0
     refine ⟨ds,fun j hj=>?_, ?_⟩
     ·have hdl:=dn h2
      have hlt2:(i+1) * kk.size≤n * kk.size:=apJ _ (by omega)
      rw [Nat.add_mul,Nat.one_mul] at hlt2
      have:=h1 j hj
      unfold cellAt at this ⊢
      rw [hbk] at this
      rw [s3]
      simp only at this ⊢
      rw [s6 _ (by rw [hnl]; omega)]
      exact this
     ·show Ow _ own ok kk ((yP++AU)[i]'hi) ds _
      rw [hx]
      exact bC ahW (fun _ h=>h) (fun b' hb'=>s1 b' (hne b' (api _ (sF hb')))) h2
    ·have hi1:i - yP.length<AU.length:=by omega
     rw [if_neg (by rw [hl0]; exact hi0)]
     have hx:(yP++AU)[i]'hi=AU[i - yP.length]:=List.getElem_append_right (by omega)
     have hfe:i - xB.length=i - yP.length:=by rw [hl0]
     rw [hfe]
     refine ⟨nS news kk.size (i - yP.length),fun j hj=>?_, ?_⟩
     ·rw [sH hnl hi1] at hj
      unfold cellAt
      rw [s3,mH hj]
      simp only
      have e4:o+i * kk.size+j=o+n * kk.size+((i - yP.length) * kk.size+j):=by
       have:i * kk.size=n * kk.size+(i - yP.length) * kk.size:=by rw [←Nat.add_mul]; congr 1; omega
       omega
      rw [e4]
      refine s5 _ ?_
      rw [hnl]
      have:(i - yP.length+1) * kk.size≤AU.length * kk.size:=apJ _ hi1
      rw [Nat.add_mul,Nat.one_mul] at this
      omega
     ·show Ow _ own ok kk ((yP++AU)[i]'hi) _ _
      rw [hx]
      exact bC ahW (fun _ h=>h) (fun b' hb'=>s1 b' (hne b' (apf _ (sF hb')))) (hel _ hi1)
 ·
  obtain ⟨olds,ho1,ho2,xB,hl0,hf0,hOe⟩:∃olds,olds.length=n * kk.size∧(Builtin.firstCells kk.size n (.slice a n c)).run P w.drew=.ok olds.toArray w.drew∧∃xB:List (List Nat),xB.length=yP.length∧((∀b∈xB.flatten,b∈yI)∧xB.flatten.Nodup)∧
    ∀i (hi:i<yP.length),Ow (hp w) own ok kk yP[i] (nS olds kk.size i) (xB.getD i []):=by
   rcases hO with ⟨hc0,hf0⟩ | ⟨b,o,arr,lo,hi,ea,hbk,hf,hs,xB,hl0,hp0,hO⟩
   ·have hx0:yP=[]:=List.eq_nil_of_length_eq_zero (by omega)
    subst hx0
    have hn0:n=0:=by simpa using e2'
    subst hn0
    refine ⟨[],by simp, ?_,[],rfl,⟨by simp,by simp⟩,fun i hi=>by simp at hi⟩
    cases a with
    | none=>exact run_firstCells_none w.drew kk.size 0 0 c
    | some ad=>exact run_firstCells_some (P:=P) w.drew kk.size 0 ad 0 c [] (by simp) (fun j v hj=>by simp at hj)
   ·subst ea
    have hle:n * kk.size≤c * kk.size:=apJ _ e3
    have hrow:=Gr (n:=n * kk.size) hbk (by omega:o+n * kk.size≤arr.size)
    have hrl:(qC (hp w) b o (n * kk.size)).length=n * kk.size:=by simp [qC]
    have sO:=hp0.nodup hnd'.1
    refine ⟨qC (hp w) b o (n * kk.size),hrl, ?_,xB,hl0,⟨fun b' hb'=>hp0.mem_iff.2 (by simp [hb']),(apL.1 sO).2⟩,fun i hi=>?_⟩
    ·refine run_firstCells_some (P:=P) w.drew kk.size n ⟨b,o,none⟩ n c _ hrl (fun j v hj=>?_)
     rw [addr_add,Al]
     have:=hrow j (by rw [hrl]; have:=(List.getElem?_eq_some_iff.1 hj).1; rw [hrl] at this; exact this)
     rw [hj] at this
     exact this
    ·obtain ⟨ds,h1,h2⟩:=hO i hi
     have hdl:=dn h2
     have:nS (qC (hp w) b o (n * kk.size)) kk.size i=ds:=by
      apply List.ext_getElem?
      intro j
      by_cases hj:j<kk.size
      ·rw [mH hj]
       have hlt2:(i+1) * kk.size≤n * kk.size:=apJ _ (by omega)
       rw [Nat.add_mul,Nat.one_mul] at hlt2
       rw [←hrow _ (by rw [hrl]; omega), ←Nat.add_assoc]
       exact h1 j (by omega)
      ·rw [List.getElem?_eq_none (by rw [sH hrl (by omega)]; omega),List.getElem?_eq_none (by omega)]
     rw [this]
     exact h2
  obtain ⟨nc,hnc,hrun⟩:=CE (ty:=ty) ht hS ho2 hr (by rw [e2']; exact hb)
  have hnew:=sj w.drew (.cells (olds.toArray++news.toArray++Builtin.zeroCells (sP kk).cells (nc - (n+AU.length))) e)
  have hold:∀b',b'<w.heap.size→hp (w.drew.alloc (.cells (olds.toArray++news.toArray++Builtin.zeroCells (sP kk).cells (nc - (n+AU.length))) e)) b'=hp w b':=fun b' h=>qc w.drew _ h
  have hws:w.drew.heap.size=w.heap.size:=rfl
  rw [hws] at hnew
  have hsz2:(w.drew.alloc (.cells (olds.toArray++news.toArray++Builtin.zeroCells (sP kk).cells (nc - (n+AU.length))) e)).heap.size=w.heap.size+1:=Array.size_push ..
  have hzl:(sP kk).cells.size=kk.size:=by
   rw [xx ht.sl.2.1.shape]
   simpa using dn (Gp (h:=hp w) (own:=own) (ok:=ok) ht.sl.2.1.gN)
  have hall:∀b'∈xB.flatten++bz.flatten,b'<w.heap.size:=by
   intro b' hb'
   rcases apm.1 hb' with h | h
   ·exact hlt b' (api _ (hf0.1 b' h))
   ·exact hlt b' (apf _ h)
  refine ⟨_,_,w.heap.size :: (xB.flatten++bz.flatten),hrun,⟨rfl,rfl,rfl⟩,by omega,fun b' hb' hne=>absurd (hold b' hb') hne, ?_, ?_, ?_⟩
  ·intro b' hb'
   rcases apq.1 hb' with h | h
   ·subst h; exact .inr (.inr ⟨apu _,by omega⟩)
   ·rcases apm.1 h with h | h
    ·exact .inl (hf0.1 b' h)
    ·exact .inr (.inl h)
  ·refine apL.2 ⟨fun h=>by have:=hall _ h; omega,apk.2 ⟨hf0.2,hnd'.2.1,fun b1 h1 b2 h2 e=>hnd'.2.2 b1 (hf0.1 b1 h1) b2 h2 e⟩⟩
  ·unfold Ow
   rw [if_pos hown]
   refine ⟨_,_,_,rfl,by simp [e2'],hnc, .inr ⟨w.heap.size,0,_,0,0,rfl,hnew,fun i hi=>by omega, ?_,xB++bz,by simp [hl0,hfl],by simp,fun i hi=>?_⟩⟩
   ·simp only [Array.size_append,List.size_toArray,size_zeroCells,hzl,ho1,hnl, ←Nat.add_mul]
    have:n+AU.length+(nc - (n+AU.length))=nc:=by omega
    rw [this]
    omega
   have hi':i<yP.length+AU.length:=by simpa using hi
   rw [FC]
   have hcell:∀q,q<(olds++news).length→cellAt (hp (w.drew.alloc (.cells (olds.toArray++news.toArray++Builtin.zeroCells (sP kk).cells (nc - (n+AU.length))) e))) w.heap.size (0+q)=(olds++news)[q]?:=by
    intro q hq
    unfold cellAt
    rw [hnew]
    simp only [Nat.zero_add]
    rw [Array.getElem?_append_left (by simpa using hq)]
    simp
   by_cases hi0:i<yP.length
   ·rw [if_pos (by rw [hl0]; exact hi0)]
    have hx:(yP++AU)[i]'hi=yP[i]:=List.getElem_append_left hi0
    refine ⟨nS olds kk.size i,fun j hj=>?_, ?_⟩
    ·rw [sH ho1 (by omega)] at hj
     have hlt2:(i+1) * kk.size≤n * kk.size:=apJ _ (by omega)
     rw [Nat.add_mul,Nat.one_mul] at hlt2
     rw [Nat.add_assoc,hcell _ (by rw [apl,ho1]; omega),List.getElem?_append_left (by rw [ho1]; omega),mH hj]
    ·show Ow _ own ok kk ((yP++AU)[i]'hi) _ _
     rw [hx]
     exact bC (fun b' h=>hold b' (hok b' h).2) (fun _ h=>h) (fun b' hb'=>hold b' (hall b' (api _ (sF hb')))) (hOe i hi0)
   ·have hi1:i - yP.length<AU.length:=by omega
    rw [if_neg (by rw [hl0]; exact hi0)]
    have hx:(yP++AU)[i]'hi=AU[i - yP.length]:=List.getElem_append_right (by omega)
    have hfe:i - xB.length=i - yP.length:=by rw [hl0]
    rw [hfe]
    refine ⟨nS news kk.size (i - yP.length),fun j hj=>?_, ?_⟩
    ·rw [sH hnl hi1] at hj
     have hlt2:(i - yP.length+1) * kk.size≤AU.length * kk.size:=apJ _ hi1
     rw [Nat.add_mul,Nat.one_mul] at hlt2
     have e4:i * kk.size=n * kk.size+(i - yP.length) * kk.size:=by rw [←Nat.add_mul]; congr 1; omega
     rw [Nat.add_assoc,hcell _ (by rw [apl,ho1,hnl]; omega),List.getElem?_append_right (by rw [ho1]; omega),mH hj]
     congr 1
     rw [ho1]
     omega
    ·show Ow _ own ok kk ((yP++AU)[i]'hi) _ _
     rw [hx]
     exact bC (fun b' h=>hold b' (hok b' h).2) (fun _ h=>h) (fun b' hb'=>hold b' (hall b' (apf _ (sF hb')))) (hel _ hi1)
end
end
section
open Go
variable [Fr]
section
variable {P:Program} {T:ji} {cx:Cx} {σ:St} {α:dK} {F:List Nat} {a:Act} {w:World}
theorem abh {k l:K} (e:k=l) {x:El k} {y:El l} (ey:y=e▸x) {h:Heap} {ok:Nat→Prop} {cs:List Value} (H:Vw h ok k x cs):Vw h ok l y cs:=by subst e; subst ey; exact H
theorem Aa {k l:K} (e:k=l) {x:El k} {y:El l} (ey:y=e▸x) {h:Heap} {own:List TypeId} {ok:Nat→Prop} {cs:List Value} {fo:List Nat} (H:Ow h own ok k x cs fo):Ow h own ok l y cs fo:=by subst e; subst ey; exact H
theorem VP {u:TypeId} {size n c bb q:Nat} (hu:(∃e',P.underlying u=some (.slice e'))∨P.underlying u=some .string) (Q:Nat→List Value→Prop)
  (hE:∀i,i<n→∃ds,ds.length=size∧Cells (hp w) bb (q+i * size) ds∧(∀v∈ds,v.oneCell'=true)∧Q i ds) :
  ∃news,Src P w size u (.slice (some ⟨bb,q,none⟩) n c) n news∧∀i,i<n→Q i (nS news size i):=by
 have hrl:(qC (hp w) bb q (n * size)).length=n * size:=by simp [qC]
 have hseg:∀i,i<n→∃ds,nS (qC (hp w) bb q (n * size)) size i=ds∧ds.length=size∧Cells (hp w) bb (q+i * size) ds∧(∀v∈ds,v.oneCell'=true)∧Q i ds:=by
  intro i hi
  obtain ⟨ds,hdl,h1,h2,h3⟩:=hE i hi
  refine ⟨ds, ?_,hdl,h1,h2,h3⟩
  apply List.ext_getElem?
  intro j
  by_cases hj:j<size
  ·rw [mH hj]
   have hlt2:(i+1) * size≤n * size:=apJ _ (by omega)
   rw [Nat.add_mul,Nat.one_mul] at hlt2
   unfold qC
   rw [List.getElem?_map,List.getElem?_range (by omega)]
   have:=h1 j (by omega)
   simp only [Option.map_some]
   rw [←Nat.add_assoc,this,aps (by omega)]
   rfl
  ·rw [List.getElem?_eq_none (by rw [sH hrl hi]; omega),List.getElem?_eq_none (by omega)]
 have hcell:∀j,j<n * size→cellAt (hp w) bb (q+j)=(qC (hp w) bb q (n * size))[j]?∧∀v,(qC (hp w) bb q (n * size))[j]?=some v→v.oneCell'=true:=by
  intro j hj
  have hk:0<size:=by
   rcases Nat.eq_zero_or_pos size with h | h
   ·rw [h] at hj; omega
   ·exact h
  have hi:j / size<n:=Nat.div_lt_of_lt_mul (by rw [Nat.mul_comm]; exact hj)
  have hm:j % size<size:=Nat.mod_lt _ hk
  obtain ⟨ds,s1,hdl,s2,s3,_⟩:=hseg _ hi
  have hjj:j / size * size+j % size=j:=by rw [Nat.mul_comm]; exact Nat.div_add_mod j size
  have h1:(qC (hp w) bb q (n * size))[j]?=ds[j % size]?:=by
   rw [←s1,mH hm,hjj]
  have h2:=s2 (j % size) (by omega)
  rw [Nat.add_assoc,hjj] at h2
  refine ⟨by rw [h2,h1],fun v hv=>?_⟩
  rw [h1] at hv
  exact s3 v (List.mem_of_getElem? hv)
 refine ⟨qC (hp w) bb q (n * size),De hu hrl (fun v hv=>?_) (fun _=>⟨bb,q,rfl,fun i hi=>(hcell i (by rw [hrl] at hi; exact hi)).1⟩),fun i hi=>?_⟩
 ·obtain ⟨j,hj,rfl⟩:=List.mem_iff_getElem.1 hv
  exact (hcell j (by rw [hrl] at hj; exact hj)).2 _ (aps hj)
 ·obtain ⟨ds,s1,_,_,_,s3⟩:=hseg i hi
  rw [s1]
  exact s3
theorem Qo {u e:TypeId} {kk:K} {h:Heap} {ok:Nat→Prop} {xs:List (El kk)} {v:Value} {cs:List Value} (hu:(∃e',P.underlying u=some (.slice e'))∨P.underlying u=some .string) (hg:gN kk=true)
  (hh:h=hp w) (hv:VC (.sl e kk) v cs) (hV:Vw h ok (.sl e kk) xs cs) :
  ∃news,Src P w kk.size u v xs.length news∧∀i (hi:i<xs.length),Vw h ok kk xs[i] (nS news kk.size i):=by
 subst hh
 obtain ⟨b,n,c,e1,e2,e3,e4,e5⟩:=EC hv hV
 subst e1
 subst e3
 by_cases h0:0<xs.length
 ·obtain ⟨bb,q,eb,hok,hel,hE⟩:=e5 h0
  subst eb
  obtain ⟨news,g1,g2⟩:=VP (P:=P) (w:=w) (n:=xs.length) (c:=c) (bb:=bb) (q:=q) hu (fun i ds=>∀hi:i<xs.length,Vw (hp w) ok kk xs[i] ds) (fun i hi=>by
   obtain ⟨ds,h1,h2⟩:=hE i hi
   exact ⟨ds,mD h2,h1,O5 hg h2,fun _=>h2⟩)
  exact ⟨news,g1,fun i hi=>g2 i hi hi⟩
 ·have hx:xs=[]:=List.eq_nil_of_length_eq_zero (by omega)
  subst hx
  exact ⟨[],De hu (by simp) (by simp) (fun h=>by simp at h),fun i hi=>by simp at hi⟩
theorem aah {u e:TypeId} {kk:K} {own:List TypeId} {ok:Nat→Prop} {xs:List (El kk)} {v:Value} {cs:List Value} {fo:List Nat} (hu:(∃e',P.underlying u=some (.slice e'))∨P.underlying u=some .string) (hg:gN kk=true)
  (hv:VC (.sl e kk) v cs) (hown:ay e own=true) (hO:Ow (hp w) own ok (.sl e kk) xs cs fo) (hnd:fo.Nodup) :
  ∃news,Src P w kk.size u v xs.length news∧∃bz:List (List Nat),bz.length=xs.length∧bz.flatten.Nodup∧(∀b∈bz.flatten,b∈fo)∧∀i (hi:i<xs.length),Ow (hp w) own ok kk xs[i] (nS news kk.size i) (bz.getD i []):=by
 unfold Ow at hO
 rw [if_pos hown] at hO
 obtain ⟨b,n,c,e1,e2,e3,hO⟩:=hO
 obtain ⟨e5,_⟩:cs=[v]∧_:=hv
 rw [e1] at e5
 simp only [List.cons.injEq,and_true] at e5
 subst e5
 have e2':n=xs.length:=e2
 subst e2'
 rcases hO with ⟨hc0,hf0⟩ | ⟨bb,q,arr,lo,hi,ea,hbk,hf,hs,xB,hl0,hp0,hO⟩
 ·have hx:xs=[]:=List.eq_nil_of_length_eq_zero (by omega)
  subst hx
  exact ⟨[],De hu (by simp) (by simp) (fun h=>by simp at h),[],rfl,by simp,by simp,fun i hi=>by simp at hi⟩
 ·subst ea
  have sO:=hp0.nodup hnd
  obtain ⟨news,g1,g2⟩:=VP (P:=P) (w:=w) (n:=xs.length) (c:=c) (bb:=bb) (q:=q) hu (fun i ds=>∀hi:i<xs.length,Ow (hp w) own ok kk xs[i] ds (xB.getD i [])) (fun i hi=>by
   obtain ⟨ds,h1,h2⟩:=hO i hi
   exact ⟨ds,dn h2,h1,Td hg h2,fun _=>h2⟩)
  exact ⟨news,g1,xB,hl0,(apL.1 sO).2,fun b hb=>hp0.mem_iff.2 (by simp [hb]),fun i hi=>g2 i hi hi⟩
theorem YP {kk:K} {own own':List TypeId} {ok:Nat→Prop} {xs:List (El kk)} {news:List Value} {bz:List (List Nat)} (hfl:bz.length=xs.length) (hnd:bz.flatten.Nodup) (hsub:∀t∈kk.tys,ay t own'=true→ay t own=true)
  (hel:∀i (hi:i<xs.length),Ow (hp w) own ok kk xs[i] (nS news kk.size i) (bz.getD i [])) :
  ∃(Cc:List (List Nat)) (DF:List Nat),Cc.length=xs.length∧(Cc.flatten++DF).Nodup∧(∀b∈Cc.flatten++DF,b∈bz.flatten)∧
   ∀i (hi:i<xs.length),Ow (hp w) own' (fun b=>ok b∨b∈DF) kk xs[i] (nS news kk.size i) (Cc.getD i []):=by
 suffices hs:∀(n:Nat),n≤xs.length→∃(Cc:List (List Nat)) (DF:List Nat),Cc.length=n∧(bz.take n).flatten.Perm (Cc.flatten++DF)∧
   ∀i (_:i<n) (hi:i<xs.length),Ow (hp w) own' (fun b=>ok b∨b∈DF) kk xs[i] (nS news kk.size i) (Cc.getD i []) by
  obtain ⟨Cc,DF,h1,h2,h3⟩:=hs xs.length (apu _)
  rw [List.take_of_length_le (by omega)] at h2
  exact ⟨Cc,DF,h1,h2.nodup hnd,fun b hb=>h2.mem_iff.2 hb,fun i hi=>h3 i hi hi⟩
 intro n
 induction n with
 | zero=>intro _; exact ⟨[],[],rfl,by simp,fun i hi=>by omega⟩
 | succ n ih=>
  intro hn
  obtain ⟨Cc,DF,h1,h2,h3⟩:=ih (by omega)
  obtain ⟨f1,f2,p1,p2⟩:=vM (own':=own') hsub (hel n (by omega))
  refine ⟨Cc++[f1],DF++f2,by simp [h1], ?_,fun i hi hi'=>?_⟩
  ·rw [List.take_succ_eq_append_getElem (by omega),List.flatten_append]
   have e:[bz[n]'(by omega)].flatten=bz.getD n []:=by rw [bY (show n<bz.length by omega)]; simp
   rw [e]
   refine (h2.append p1).trans ?_
   simp only [List.flatten_append,apz]
   refine List.Perm.append_left _ ?_
   simp only [List.flatten_cons,List.flatten_nil,apH]
   exact zG
  ·rw [FC,h1]
   by_cases h:i<n
   ·rw [if_pos h]
    exact bC (fun _ _=>rfl) (fun b hb=>hb.imp id (fun h=>by simp [h])) (fun _ _=>rfl) (h3 i h hi')
   ·have:i=n:=by omega
    subst this
    rw [if_neg (by omega)]
    simp only [Nat.sub_self]
    exact bC (fun _ _=>rfl) (fun b hb=>hb.imp id (fun h=>by simp [h])) (fun _ _=>rfl) p2
def Yk (P:Program) (cx:Cx) (σ:St) (α:dK) (F:List Nat) (a:Act) (w:World) (u e:TypeId) (kk:K) (v:Value) (s:wB kk):Prop:=
 ∃dL F1 news,Rel cx (aC s.ws σ) dL F1 a w∧(∀q,q∉s.ws.flatMap Wr.uF→Same σ α (aC s.ws σ) dL q)∧(aC s.ws σ).slots=σ.slots∧(∀q,σ.roots q=none→(aC s.ws σ).roots q=none)∧(∀b∈F,b∈F1)∧
  fD (aC s.ws σ) s.tags∧Src P w kk.size u v s.xs.length news∧
  ∀own',(∀t∈kk.tys,ay t own'=true→t∉s.bad)→∃(bz:List (List Nat)) (DF:List Nat),bz.length=s.xs.length∧(bz.flatten++DF).Nodup∧(∀b∈bz.flatten++DF,b∈F1∧b∉F)∧
   ∀i (hi:i<s.xs.length),Ow (hp w) own' (fun b=>(iT cx (aC s.ws σ) dL F1 w s.tags b∧∃t∈s.bad,wH (hp w) b t)∨b∈DF) kk s.xs[i] (nS news kk.size i) (bz.getD i [])
theorem Ro {n i:Nat}:(List.replicate n ([]:List Nat)).getD i []=[]:=by
 simp only [apr,List.getElem?_replicate]
 split <;> rfl
theorem xw (H:Rel cx σ α F a w) {u e:TypeId} {kk:K} {v:Value} {s:wB kk} (hws:s.ws=[]) (xC:fD σ s.tags) {news:List Value} (hS:Src P w kk.size u v s.xs.length news)
  (hV:∀i (hi:i<s.xs.length),Vw (hp w) (iT cx σ α F w s.tags) kk s.xs[i] (nS news kk.size i)) (hbad:s.bad=kk.tys∨kk.flat=true∨s.xs=[]):Yk P cx σ α F a w u e kk v s:=by
 refine ⟨α,F,news,by rw [hws]; exact H,by rw [hws]; exact fun q _=>mo ..,by rw [hws]; rfl,by rw [hws]; exact fun q h=>h,fun _ h=>h,by rw [hws]; exact xC,hS,fun own' ho=>?_⟩
 refine ⟨List.replicate s.xs.length [],[],by simp,by simp,by simp,fun i hi=>?_⟩
 rw [Ro,hws]
 rcases hbad with h | h | h
 ·refine bC (fun _ _=>rfl) (fun b hb=>.inl (h▸hb)) (fun _ _=>rfl) (oZ (fun t ht=>?_) (KG kk.tys (fun _ h=>h) (hV i hi)))
  cases hm:ay t own' with
  | false=>rfl
  | true=>exact absurd (h▸ht) (ho t ht hm)
 ·exact oZ (fun t ht=>by rw [wL h] at ht; simp at ht) (iA h (hV i hi))
 ·rw [h] at hi; simp at hi
theorem Sy {A:Type} {z:A} (H:Rel cx σ α F a w) {u e:TypeId} {kk:K} {x:AV} {v:Value} {k:wB kk→Prog A} (hu:(∃e',P.underlying u=some (.slice e'))∨P.underlying u=some .string) (hg:gN kk=true)
  (hx:bI cx σ α F w x v) (hw:tF σ x) (h:(aay e kk x k).ends σ z):∃s:wB kk,(k s).ends σ z∧Yk P cx σ α F a w u e kk v s:=by
 have Bb:(vB x fun k' y tags=>match bP k' (.sl e kk) y with
   | some xs=>k ⟨xs,kk.tys,bif kk.flat then [] else tags,[],false,[]⟩
   | none=>.fail).ends σ z→∃s:wB kk,(k s).ends σ z∧Yk P cx σ α F a w u e kk v s:=by
  intro h
  obtain ⟨k',y,Tg,cs,h1,h2,h3,h4⟩:=vS H hx hw h
  cases hc:bP k' (.sl e kk) y with
  | none=>rw [hc] at h4; exact h4.elim
  | some xs=>
   rw [hc] at h4
   obtain ⟨ek,ey⟩:=bL hc
   subst ek
   simp only at ey
   subst ey
   obtain ⟨news,g1,g2⟩:=Qo (P:=P) (u:=u) (xs:=xs) hu hg rfl h1 h2
   cases hf:kk.flat with
   | true=>
    rw [hf] at h4
    exact ⟨_,h4,xw H rfl (fun t ht=>by simp at ht) g1 (fun i hi=>iA hf (g2 i hi)) (.inr (.inl hf))⟩
   | false=>
    rw [hf] at h4
    exact ⟨_,h4,xw H rfl h3 g1 g2 (.inl rfl)⟩
 cases x with
 | val k1 y Tg=>
  cases k1 with
  | str=>
   simp only [aay] at h
   cases h1:bP (.int .u8) kk (0:Int) with
   | none=>rw [h1] at h; exact h.elim
   | some q=>
    rw [h1] at h
    obtain ⟨ek,_⟩:=bL h1
    subst ek
    simp only at h
    cases h2:bP (.sl e (.int .u8)) (.sl e (.int .u8)) (show List Int from y) with
    | none=>rw [h2] at h; exact h.elim
    | some xs=>
     rw [h2] at h
     obtain ⟨_,ey⟩:=bL h2
     simp only at ey
     subst ey
     obtain ⟨B,e1,e2⟩:=yB hx
     subst e1
     have hlen:(bytesOf B).length=B.size:=mO B
     have hS:=UL (P:=P) (w:=w) (u:=u) (B:=B) hu
     subst e2
     refine ⟨_,h,xw H rfl (fun t ht=>by simp at ht) (news:=B.data.toList.map fun b=>.int .u8 b.toNat) ?_ (fun i hi=>?_) (.inr (.inl rfl))⟩
     ·show Src P w 1 u _ (bytesOf B).length _
      rw [hlen]
      exact hS
     ·have hi':i<B.size:=by
       have:i<(bytesOf B).length:=hi
       rw [hlen] at this; exact this
      have hseg:nS (B.data.toList.map fun b=>Value.int .u8 b.toNat) (K.int .u8).size i=[.int .u8 (B.data.toList[i]'(by simpa using hi')).toNat]:=by
       apply List.ext_getElem?
       intro j
       show (nS (B.data.toList.map fun b=>Value.int .u8 b.toNat) 1 i)[j]?=_
       cases j with
       | zero=>rw [mH (by omega)]; simp [hi']
       | succ j=>rw [List.getElem?_eq_none (by rw [sH (m:=B.size) (by simp) hi']; omega)]; simp
      rw [hseg]
      have he:(bytesOf B)[i]'hi=((B.data.toList[i]'(by simpa using hi')).toNat:Int):=by simp [bytesOf]
      refine ⟨?_, ?_⟩
      ·show [Value.int .u8 _]=[Value.int .u8 _]
       congr 2
       exact he.symm
      ·show JB .u8 _
       have:JB .u8 ((B.data.toList[i]'(by simpa using hi')).toNat:Int):=⟨by omega,by have:=(B.data.toList[i]'(by simpa using hi')).toNat_lt; omega⟩
       exact he▸this
  | _=>exact Bb h
 | iQ=>
  obtain ⟨b,rfl⟩:=hx
  exact ⟨_,h,xw H rfl (fun t ht=>by simp at ht) (news:=[]) (De hu (by simp) (by simp) (fun h=>by simp at h)) (fun i hi=>by simp at hi) (.inr (.inr rfl))⟩
 | ref r g=>
  simp only [aay] at h
  obtain ⟨R,hr,hv,h⟩:=cO h
  rcases aB h with ⟨hg1,h⟩ | ⟨_,h⟩
  ·have hgg:=aph hg1
   obtain ⟨hkind,H6⟩:=hx R hr hgg
   cases hc:bP R.k (.sl e kk) R.x with
   | none=>rw [hc] at h; exact h.elim
   | some xs=>
    rw [hc] at h
    simp only at h
    obtain ⟨ek,ey⟩:=bL hc
    have K:=H.roots r R hr
    have hO:=K.ow hv
    have aeJ:=pE H hr hO (fun b hb=>hb)
    cases hf:kk.flat with
    | true=>
     rw [hf] at h
     have LB:Vw (hp w) (iT cx σ α F w (R.out r R.k)) (.sl e kk) xs (α.hdr r):=abh ek ey aeJ
     obtain ⟨news,g1,g2⟩:=Qo (P:=P) (u:=u) (xs:=xs) hu hg rfl (ek▸H6) LB
     exact ⟨_,h,xw H rfl (fun t ht=>by simp at ht) g1 (fun i hi=>iA hf (g2 i hi)) (.inr (.inl hf))⟩
    | false=>
     rw [hf] at h
     simp only [cond_false] at h
     rcases aB h with ⟨_,h⟩ | ⟨_,h⟩
     ·exact h.elim
     ·obtain ⟨H1,T1,hh,hcl⟩:=kill H hr hkind hv
      have WW:Ow (hp w) R.own (iT cx (az σ r cu) (jK α r) (α.fo r++F) w R.tags) (.sl e kk) xs (α.hdr r) (α.fo r):=Aa ek ey (hh.ow hcl)
      have ahy:VC (.sl e kk) v (α.hdr r):=ek▸H6
      have hsame:∀q,q∉([Wr.r r none]:List Wr).flatMap Wr.uF→Same σ α (az σ r cu) (jK α r) q:=fun q hq=>iy (by simpa [Wr.uF] using hq)
      have hnone:∀q,σ.roots q=none→(az σ r cu).roots q=none:=fun q hq=>by
       rw [bZ]
       ·exact hq
       ·intro e; rw [e,hr.1] at hq; simp at hq
      have Np:∀b∈α.fo r,b∉F:=fun b hb=>H.jB r R hr b (apf _ hb)
      cases hme:ay e R.own with
      | true=>
       obtain ⟨news,g1,bz,g2,g3,g4,g5⟩:=aah (P:=P) (u:=u) hu hg ahy hme WW hh.nd
       rw [hme] at h
       simp only [cond_true,Bool.true_and] at h
       refine ⟨_,h,jK α r,α.fo r++F,news,H1,hsame,rfl,hnone,fun b hb=>apf _ hb, ?_,g1,fun own' ho=>?_⟩
       ·intro t ht
        simp only at ht
        cases hal:(kk.tys.all fun t=>ay t R.own) with
        | true=>rw [hal] at ht; simp at ht
        | false=>rw [hal] at ht; exact hh.wt t ht
       ·simp only at ho ⊢
        have g5':∀i (hi:i<List.length xs),Ow (hp w) R.own (fun b=>iT cx (az σ r cu) (jK α r) (α.fo r++F) w (bif (kk.tys.all fun t=>ay t R.own) then [] else R.tags) b∧∃t∈aU R.own kk,wH (hp w) b t) kk xs[i] (nS news kk.size i) (bz.getD i []):=by
         intro i hi
         cases hal:(kk.tys.all fun t=>ay t R.own) with
         | false=>exact tq _ (fun _ h=>h) (g5 i hi)
         | true=>exact gP (dm (kI hal)) (g5 i hi)
        obtain ⟨Cc,DF,f1,f2,f3,f4⟩:=YP (own':=own') g2 g3 (fun t ht hm=>(CV (own:=R.own) ht).resolve_left (fun hx=>ho t ht hm hx)) g5'
        exact ⟨Cc,DF,f1,f2,fun b hb=>⟨api _ (g4 b (f3 b hb)),Np b (g4 b (f3 b hb))⟩,f4⟩
      | false=>
       have hO2:=WW
       unfold Ow at hO2
       rw [hme] at hO2 h
       simp only [apg,if_false] at hO2
       simp only [cond_false,Bool.false_and] at h
       obtain ⟨news,g1,g2⟩:=Qo (P:=P) (u:=u) (xs:=xs) hu hg rfl ahy hO2.2
       refine ⟨_,h,jK α r,α.fo r++F,news,H1,hsame,rfl,hnone,fun b hb=>apf _ hb,hh.wt,g1,fun own' ho=>?_⟩
       refine ⟨List.replicate (List.length xs) [],[],by simp,by simp,by simp,fun i hi=>?_⟩
       rw [Ro]
       refine bC (fun _ _=>rfl) (fun b hb=>.inl hb) (fun _ _=>rfl) (oZ (fun t ht=>?_) (KG kk.tys (fun _ h=>h) (g2 i hi)))
       cases hm:ay t own' with
       | false=>rfl
       | true=>exact absurd ht (ho t ht hm)
  ·exact h.elim
 | xy r p n=>exact Bb h
 | undef=>exact Bb h
 | ptr r p n=>exact Bb h
 | je bt k y T=>exact Bb h
 | K5 _ _ _ _=>exact Bb h
 | Bz _=>exact Bb h
 | part _ _ _ _ _=>exact Bb h
 | yL _ _ _ _=>exact Bb h
 | app _ _ _ _=>exact Bb h
 | sG=>exact Bb h
 | fn f cs=>exact Bb h
end
end
section
open Go
variable [Fr]
section
variable {P:Program} {T:ji} {cx:Cx} {σ:St} {α:dK} {F:List Nat} {a:Act} {w:World} {o:Oper} {d:Nat} {ws:List Wr} {r:Nat} {R:Root}
theorem ais (H:Rel cx σ α F a w) (hr:aR σ r R) (hv:bq σ R) (hk:R.kind=.anon) {R':Root} (hk':R'.kind=.anon) {e:TypeId} (hw:R'.w=e :: R.w) (hh:R'.h=qK :: e :: R.h) (hg:R'.g=R.g+1) (hev:R'.ew=R.ew∧R'.eh=R.eh)
  (xC:fD σ R'.tags∧∀n,(r,n)∉R'.tags) {w':World} (hos:w'.os=w.os∧w'.tape=w.tape∧w'.output=w.output) (hsize:w.heap.size≤w'.heap.size) {dJ:List Nat}
  (SI:∀b,b<w.heap.size→hp w' b≠hp w b→b∈F∨(b∈α.fo r∧q8 (hp w) b=some e)) (ain:∀b∈dJ,b∈α.fo r∨b∈F∨(w.heap.size≤b∧b<w'.heap.size)) (hnd:dJ.Nodup)
  {hdr':List Value} (hlen:hdr'.length=R'.k.size) (how:Ow (hp w') R'.own (iT cx (az σ r R') (aJ α r (α.loc r) hdr' dJ) [] w' R'.tags) R'.k R'.x hdr' dJ) {v':Value} (hv':VC R'.k v' hdr') :
  Rel cx (az σ r R') (aJ α r (α.loc r) hdr' dJ) [] a w'∧bI cx (az σ r R') (aJ α r (α.loc r) hdr' dJ) [] w' (.ref r R'.g) v':=by
 have hblk:blk α R r=α.fo r:=by simp [blk,eB,hk]
 have hd':R'.aX=false:=by simp [Root.aX,hk']
 have T1:BP cx σ α F w r R R' dJ [] w' [e] [qK,e]:=by
  refine ⟨.inr ⟨hw,hh,by omega,hk'.trans hk.symm,fun h=>by rw [hk] at h; simp at h, .inl (by simp)⟩,xC,hos,hsize,fun b hb hne=>?_,fun _ b hb=>?_,fun b hb=>by simp at hb,List.nodup_nil,fun _ b _ h=>by simp at h,fun j pi b o n hj hb hrj hne=>?_,fun _=>hev⟩
  ·rcases SI b hb hne with h | ⟨h1,h2⟩
   ·exact .inl h
   ·exact .inr ⟨by rw [hblk]; exact h1, .inr (.inl ⟨e,by simp,h2⟩)⟩
  ·rw [gY hk'] at hb
   rw [hblk]
   exact ain b hb
  ·obtain ⟨Q,hQ,hkq,_,_⟩:=H.mQ j pi b o n hj hb
   have hQR:Q=R:=by have:=hQ.1; rw [←hrj,hr.1] at this; simpa using this.symm
   rw [hQR,hk] at hkq
   simp at hkq
 refine ⟨T1.rel H hr (fun _=>⟨fun _=>how,hlen,fun b o hb=>by rw [zV hk'] at hb; simp at hb,by rw [gY hk']; exact hnd⟩) ?_ ?_, ?_⟩
 ·intro _ p n v hn hold
  refine ⟨hold.1,fun Q hQ hvQ hcl hty hs=>?_⟩
  rw [aK] at hQ
  simp only [apd] at hQ
  subst hQ
  cases p with
  | nil=>
   obtain ⟨_,cs,b,o,h1,_⟩:=hold.2 R hr.1 hv (by simp [clean,eD,ay]) (fun t ht=>by simp [ah] at ht) rfl
   simp only [bF,apd,apo] at h1
   have:eB α R r=none:=by simp [eB,hk]
   rw [this] at h1
   simp at h1
  | cons s p=>
   have e1:R'.h=[qK,e]++R.h:=hh
   rw [e1,qa hn] at hcl
   exact absurd (show qK∈eD (s :: p) R'.k from apK) (hcl.1 qK (by simp))
 ·intro _ g v hgl hold Q hQ hgQ
  obtain ⟨rfl,_⟩:=eX hQ
  omega
 ·intro Q hQ _
  obtain ⟨rfl,_⟩:=eX hQ
  refine ⟨hk', ?_⟩
  simp only [aJ,upd_same]
  exact hv'
theorem VH (H:Rel cx σ α F a w) {w':World} (hs:w.heap.size≤w'.heap.size) {Tg Tg':List Tag} {dJ:List Nat} {b:Nat} (hb:iT cx σ α F w Tg b∨b∈F) (ht:∀t∈Tg,t∈Tg') (hfo:b∉dJ):iT cx σ α dJ w' Tg' b:=by
 rcases hb with hb | hb
 ·exact ⟨Nat.lt_of_lt_of_le hb.1 hs,hfo,hb.2.2.1,fun q Q hq hbq=>(hb.2.2.2.1 q Q hq hbq).imp fun n hn=>ht _ hn,fun h0=>(hb.2.2.2.2 h0).imp (fun ⟨j,n,h1,h2⟩=>⟨j,n,ht _ h1,h2⟩) id⟩
 ·have hm:=H.fl b hb
  refine ⟨Nat.lt_of_lt_of_le hm.1 hs,hfo,sU H hb,fun q Q hq hbq=>absurd hb (H.jB q Q hq b hbq),fun h0=>?_⟩
  rcases hm.2 with h | ⟨j,pi,h1,h2⟩
  ·omega
  ·exact .inr ⟨j,pi,h1,h2⟩
theorem nH {c:Call} (ho:o.op=.call c) (hb:c.callee=.builtin .append) {x y:Operand} (ha:c.args.toList=[x,y]) {t u:TypeId} (ht:c.argTypes[0]?=some t) (hu:c.argTypes[1]?=some u) {v':Value} {w':World}
  (h:(Builtin.append_ #[t,u] o.type #[a.eval x,a.eval y]).run P w=.ok v' w'):(execOp a.eval o).run P w=.ok (.value v') w':=by
 obtain ⟨cc,hcc⟩:=jE (P:=P) (a:=a) (w:=w) ho hb
 rw [hcc]
 have h1:c.args.map a.eval=#[a.eval x,a.eval y]:=by
  apply Array.ext'
  rw [Array.toList_map,ha]
  rfl
 have h2:Builtin.append_ c.argTypes o.type #[a.eval x,a.eval y]=Builtin.append_ #[t,u] o.type #[a.eval x,a.eval y]:=by
  unfold Builtin.append_
  simp only [ht,hu]
  rfl
 rw [h1]
 simp only [builtin,apD,h2,h,apw,apI]
end
end
section
open Go
variable [Fr]
section
variable {P:Program} {T:ji} {cx:Cx} {σ:St} {α:dK} {F:List Nat} {a:Act} {w:World} {o:Oper} {d:Nat} {ws:List Wr}
theorem KL (hT:fu P T) {σ1:St} {dL:dK} {F1:List Nat} (H1:Rel cx σ1 dL F1 a w) (hd:o.dst=some d) (hdn:d<cx.nt) {c:Call} (ho:o.op=.call c) (hcb:c.callee=.builtin .append) {x y:Operand} (ha:c.args.toList=[x,y])
  {t u e:TypeId} {kk:K} (ht0:c.argTypes[0]?=some t) (hu0:c.argTypes[1]?=some u) (hty:T.ty t=some (.sl e kk)) (hn1:σ1.roots (bE d 0)=none)
  {own:List TypeId} {tags T1 T2:List Tag} {bad:List TypeId} {yP AU:List (El kk)} {v0:Value} {yI fd:List Nat} {bz:List (List Nat)} {DF:List Nat} {news:List Value} (hv0:a.eval x=v0) (hS:Src P w kk.size u (a.eval y) AU.length news)
  (hown:ay e own=true) (hob:∀t,ay t own=true→t∉bad) (hwt:fD σ1 tags) (ht1:∀t∈T1,t∈tags) (ht2:∀t∈T2,t∈tags)
  (hO:Ow (hp w) own (fun b=>iT cx σ1 dL F1 w T1 b∨b∈fd) (.sl e kk) yP [v0] yI) (hF0:∀b∈yI++fd,b∈F1) (sO:(yI++fd).Nodup) (hF1:∀b∈bz.flatten++DF,b∈F1∧b∉yI++fd) (FE:(bz.flatten++DF).Nodup)
  (hfl:bz.length=AU.length) (hel:∀i (hi:i<AU.length),Ow (hp w) own (fun b=>((iT cx σ1 dL F1 w T2 b∨b∈F1)∧∃t∈bad,wH (hp w) b t)∨b∈DF) kk AU[i] (nS news kk.size i) (bz.getD i []))
  (hb:(yP.length+AU.length) * T.bytes e≤140737488355328) (kp:Bool) :
  sM P cx o a w (aC [.r (bE d 0) (some (aP (.sl e kk) (yP++AU) own tags .anon kp)), .s d (.one (.ref (bE d 0) 0))] σ1):=by
 have ht:=hT.ty t _ hty
 have n0:=apk.1 sO
 have n1:=apk.1 FE
 have hlt:∀b∈F1,b<w.heap.size:=fun b h=>(H1.fl b h).1
 have aeI:=uH hO
 have hnot:∀b,((iT cx σ1 dL F1 w T2 b∨b∈F1)∧∃t∈bad,wH (hp w) b t)→b∉yI:=by
  rintro b ⟨_,t,h1,h2⟩ hb0
  obtain ⟨e',_,h3,h4⟩:=aeI b hb0
  have h2:=H1.UX (H1.fl b (hF0 b (api _ hb0))) h2
  rw [h2] at h4
  simp only [apd] at h4
  subst h4
  exact hob _ h3 h1
 let ok:Nat→Prop:=fun b=>(iT cx σ1 dL F1 w T1 b∨b∈fd)∨((iT cx σ1 dL F1 w T2 b∨b∈F1)∧∃t∈bad,wH (hp w) b t)∨b∈DF
 obtain ⟨v',w',dJ,hrun,hos,hsz,LD,hfo,PL,LB⟩:=NI (w:=w) (ok:=ok) (u:=u) (ty:=o.type) (x:=a.eval y) (bz:=bz) ht (bC (fun _ _=>rfl) (fun b h=>.inl h) (fun _ _=>rfl) hO) hown
  (apk.2 ⟨n0.1,n1.1,fun b1 h1 b2 h2 e=>(hF1 b2 (api _ h2)).2 (api _ (e▸h1))⟩)
  (fun b hb=>by
   rcases hb with (h | h) | h | h
   ·exact ⟨fun h0=>h.2.1 (hF0 b (api _ h0)),h.1⟩
   ·exact ⟨fun h0=>n0.2.2 b h0 b h rfl,hlt b (hF0 b (apf _ h))⟩
   ·refine ⟨hnot b h, ?_⟩
    rcases h.1 with h | h
    ·exact h.1
    ·exact hlt b h
   ·exact ⟨fun h0=>(hF1 b (apf _ h)).2 (api _ h0),hlt b (hF1 b (apf _ h)).1⟩)
  (fun b hb=>by
   rcases apm.1 hb with h | h
   ·exact hlt b (hF0 b (api _ h))
   ·exact hlt b (hF1 b (api _ h)).1)
  hS hfl (fun i hi=>bC (fun _ _=>rfl) (fun b h=>.inr h) (fun _ _=>rfl) (hel i hi)) hb
 have Np:∀b∈dJ,b∈F1∨(w.heap.size≤b∧b<w'.heap.size):=by
  intro b hb
  rcases hfo b hb with h | h | h
  ·exact .inl (hF0 b (api _ h))
  ·exact .inl (hF1 b (api _ h)).1
  ·exact .inr h
 have T2':=FQ (w':=w') (F':=dJ) H1 hos hsz (fun b h1 h2=>hF0 b (api _ (LD b h1 h2).1)) Np PL
 have H2:=H1.mem T2'
 have H6:VC (.sl e kk) v' [v']:=⟨rfl,by
  unfold Ow at LB
  rw [if_pos hown] at LB
  obtain ⟨b,n,c,e1,_⟩:=LB
  simp only [List.cons.injEq,and_true] at e1
  rw [e1]; simp⟩
 have hok:∀b,ok b→iT cx σ1 dL dJ w' tags b:=by
  intro b hb
  have hnew:b<w.heap.size→¬(w.heap.size≤b∧b<w'.heap.size):=fun h=>by omega
  rcases hb with (h | h) | h | h
  ·refine VH H1 hsz (.inl h) ht1 (fun hb=>?_)
   rcases hfo b hb with h2 | h2 | h2
   ·exact h.2.1 (hF0 b (api _ h2))
   ·exact h.2.1 (hF1 b (api _ h2)).1
   ·exact hnew h.1 h2
  ·have hF:=hF0 b (apf _ h)
   refine VH H1 hsz (Tg:=[]) (.inr hF) (by simp) (fun hb=>?_)
   rcases hfo b hb with h2 | h2 | h2
   ·exact n0.2.2 b h2 b h rfl
   ·exact (hF1 b (api _ h2)).2 (apf _ h)
   ·exact hnew (hlt b hF) h2
  ·refine VH H1 hsz h.1 ht2 (fun hb=>?_)
   have hlt':b<w.heap.size:=by
    rcases h.1 with h | h
    ·exact h.1
    ·exact hlt b h
   rcases hfo b hb with h2 | h2 | h2
   ·exact hnot b h h2
   ·obtain ⟨l,hl,hbl⟩:=List.mem_flatten.1 h2
    obtain ⟨i,hi,rfl⟩:=List.mem_iff_getElem.1 hl
    have:=uH (hel i (by omega)) b (by rw [bY hi]; exact hbl)
    obtain ⟨e',_,h3,h4⟩:=this
    obtain ⟨_,t,h5,h6⟩:=h
    have h6:=H1.UX (H1.fl b (hF1 b (api _ h2)).1) h6
    rw [h6] at h4
    simp only [apd] at h4
    subst h4
    exact hob _ h3 h5
   ·exact hnew hlt' h2
  ·have hF:=(hF1 b (apf _ h)).1
   refine VH H1 hsz (Tg:=[]) (.inr hF) (by simp) (fun hb=>?_)
   rcases hfo b hb with h2 | h2 | h2
   ·exact (hF1 b (apf _ h)).2 (api _ h2)
   ·exact n1.2.2 b h2 b h rfl
   ·exact hnew (hlt b hF) h2
 obtain ⟨II,k1,k2⟩:=BR (k:=.sl e kk) (x:=yP++AU) (own:=own) (tags:=tags) (v:=v') (cs:=[v']) (fo:=dJ) (r:=bE d 0) (F':=[]) H2 hn1 (gF d 0)
  (fun b hb=>hb) PL hwt (fun b hb=>by simp at hb) List.nodup_nil rfl (fun _=>bC (fun _ _=>rfl) (fun b hb=>.inl (hok b hb)) (fun _ _=>rfl) LB) H6 kp
 exact iW (x:=.one (.ref (bE d 0) 0)) k1 hd hdn (nH ho hcb ha ht0 hu0 (by rw [hv0]; exact hrun)) k2 ⟨_,aK .., .inr (apM _)⟩
theorem IL {ws:List Wr} {tags:List Tag} (h:BS ws tags=true):∀t∈tags,t.1∉ws.flatMap Wr.uF:=fun t ht=>by
 have:=apt.1 h t ht
 simpa [aV] using this
theorem R7 {ws:List Wr} {r:Nat} (h:(ws.all fun w=>!w.loc.beq (.r r))=true):r∉ws.flatMap Wr.uF:=by
 intro hm
 obtain ⟨wr,h1,h2⟩:=apP.1 hm
 have:=apt.1 h wr h1
 cases wr with
 | s n x=>simp [Wr.uF] at h2
 | r n x=>
  simp only [Wr.uF,apx] at h2
  subst h2
  simp [Wr.loc,Loc.beq] at this
theorem TS (hT:fu P T) (H:Rel cx σ α F a w) (hd:o.dst=some d) (hdn:d<cx.nt) {c:Call} (ho:o.op=.call c) (hcb:c.callee=.builtin .append)
  (h:(jR c.args.toList fun
   | [a,b]=>match c.argTypes[0]?,(c.argTypes[1]?).bind T.ty with
    | some t,some (.sl _ _)=>CX T d t a b fun ws=>(.ret ws:Prog (List Wr))
    | some t,some .str=>CX T d t a b fun ws=>(.ret ws:Prog (List Wr))
    | _,_=>.fail
   | _=>.fail).ends σ ws):sM P cx o a w (aC ws σ):=by
 obtain ⟨vs,h1,h2,h⟩:=jm H h
 obtain ⟨u,v,x,y,t,ut,hvs,ha,hx,hy,ht0,hu0,amA,h9⟩:∃u v x y t ut,vs=[u,v]∧c.args.toList=[x,y]∧bI cx σ α F w u (a.eval x)∧bI cx σ α F w v (a.eval y)∧c.argTypes[0]?=some t∧c.argTypes[1]?=some ut∧
   ((∃e',P.underlying ut=some (.slice e'))∨P.underlying ut=some .string)∧(CX T d t u v fun ws=>(.ret ws:Prog (List Wr))).ends σ ws:=by
  split at h
  ·rename_i u v
   have hargs:∃x y,c.args.toList=[x,y]∧bI cx σ α F w u (a.eval x)∧bI cx σ α F w v (a.eval y):=by
    revert h1
    generalize c.args.toList=l
    intro h1
    cases l with
    | nil=>exact h1.elim
    | cons x l=>
     cases l with
     | nil=>exact h1.2.elim
     | cons y l=>
      cases l with
      | nil=>exact ⟨x,y,rfl,h1.1,h1.2.1⟩
      | cons _ _=>exact h1.2.2.elim
   obtain ⟨x,y,e1,e2,e3⟩:=hargs
   split at h
   ·rename_i t e k e4 e5
    obtain ⟨ut,e6,e7⟩:=ve hT e5
    exact ⟨u,v,x,y,t,ut,rfl,e1,e2,e3,e4,e6, .inl ⟨_,e7.sl.1⟩,h⟩
   ·rename_i t e4 e5
    obtain ⟨ut,e6,e7⟩:=ve hT e5
    exact ⟨u,v,x,y,t,ut,rfl,e1,e2,e3,e4,e6, .inr e7.str,h⟩
   ·exact h.elim
  ·exact h.elim
 clear h
 have h:=h9
 clear h9
 subst hvs
 have hwu:=h2 u (by simp)
 have hwv:=h2 v (by simp)
 unfold CX at h
 cases hty:T.ty t with
 | none=>rw [hty] at h; exact h.elim
 | some k0=>
  rw [hty] at h
  cases k0 with
  | sl e kk=>
   have ht:=hT.ty t _ hty
   simp only at h
   obtain ⟨s,h8,dL,F1,news,H1,hsame,amw,hnone,hFF,hwt,hS,hels⟩:=Sy (P:=P) (u:=ut) H amA ht.sl.2.1.gN hy hwv h
   clear h
   rcases aB h8 with ⟨_,h⟩ | ⟨hbad,h⟩
   ·exact h.elim
   clear h8
   cases u with
   | iQ=>
    obtain ⟨b0,hv0⟩:=hx
    obtain ⟨hb,h⟩:=h
    obtain ⟨hn,h⟩:=gZ h
    rw [aD h,dA]
    have ho1:ay e (e :: bJ kk.tys s.bad)=true:=aL.2 (by simp)
    have ho2:∀t,ay t (e :: bJ kk.tys s.bad)=true→t∉s.bad:=fun t ht=>by
     rcases apq.1 (aL.1 ht) with h | h
     ·rw [h]; exact aV.1 hbad
     ·exact (dH.1 (aL.2 h)).2
    obtain ⟨bz,DF,f1,f2,f3,f4⟩:=hels (e :: bJ kk.tys s.bad) (fun t _ ht=>ho2 t ht)
    exact KL hT H1 hd hdn ho hcb ha ht0 hu0 hty (hnone _ hn) (yP:=[]) (v0:=.slice b0 0 0) (yI:=[]) (fd:=[]) (T1:=[]) (T2:=s.tags) (bad:=s.bad) hv0 hS ho1 ho2 hwt (by simp) (fun _ h=>h) zC (by simp) (by simp)
     (fun b hb=>⟨(f3 b hb).1,by simp⟩) f2 f1 (fun i hi=>bC (fun _ _=>rfl) (fun b hb=>hb.imp (fun h=>⟨.inl h.1,h.2⟩) id) (fun _ _=>rfl) (f4 i hi)) (by simpa using hb) s.keep
   | xy r p n=>
    obtain ⟨R,hr,hv,h⟩:=cO h
    rcases aB h with ⟨hc,h⟩ | ⟨_,h⟩
    ·simp only [apj] at hc
     obtain ⟨⟨⟨⟨⟨⟨⟨c1,c2⟩,c3⟩,c4⟩,c5⟩,c6⟩,c7⟩,c8⟩:=hc
     cases hg:aT p R.k R.x with
     | none=>rw [hg] at h; exact h.elim
     | some dd=>
      rw [hg] at h
      simp only at h
      cases hck:bP dd.1 (.sl e kk) dd.2 with
      | none=>rw [hck] at h; exact h.elim
      | some xs=>
       rw [hck] at h
       cases hga:IX R p dd with
       | none=>rw [hga] at h; exact h.elim
       | some R'=>
        rw [hga] at h
        simp only at h
        obtain ⟨hb,h⟩:=h
        obtain ⟨hn,h⟩:=gZ h
        rw [aD h,dA]
        obtain ⟨ek,ey⟩:=bL hck
        unfold IX at hga
        cases hz:eF p R.k R.x (uM dd) with
        | none=>rw [hz] at hga; simp at hga
        | some z=>
         rw [hz] at hga
         simp only [apd] at hga
         have eR:R'=qH R dd z:=by rw [←hga]; rfl
         have hSr:=hsame r (R7 c7)
         have hr1:=(hSr.live R).2 hr
         have hv1:bq (aC s.ws σ) R:=⟨hv.1,by rw [fA (fun t ht=>(hsame t.1 (IL c8 t ht)).root)]; exact hv.2⟩
         obtain ⟨fU,hown,cs0,wh0,hn0,aei⟩:=hx R hr.1 hv (aph c1) dd hg
         have hpv:p≠[]∨∃t,R.kind=.var t:=by
          rw [Bool.or_eq_true] at c3
          rcases c3 with h | h
          ·exact .inl (by simpa using h)
          ·refine .inr ?_
           unfold Root.isVar at h
           cases hk:R.kind with
           | var t=>exact ⟨t,rfl⟩
           | _=>rw [hk] at h; simp at h
         obtain ⟨cs1,nY,gq,rest,g1,g2,g3,g4,g5,g6⟩:=gap H1 hr1 hv1 hg hz fU hown hpv
         rw [hSr.hdr,hSr.wh,hn0] at g1
         simp only [apd,apo] at g1
         obtain ⟨rfl,rfl⟩:=g1
         have hcl:bg (az (aC s.ws σ) r (qH R dd z)) (aU R.own dd.1) R.tags=true:=by
          rw [g5]
          exact tJ hv1.2 (fun _ h=>h) (CW p hg hown)
         have hO0:=Aa (y:=xs) ek ey (g4.ow hcl)
         have ho1:ay e (bJ ((e :: kk.tys).filter fun t=>ay t R.own) s.bad)=true:=dH.2 ⟨aL.2 (apv.2 ⟨by simp,c5⟩),aV.1 hbad⟩
         have ho2:∀t,ay t (bJ ((e :: kk.tys).filter fun t=>ay t R.own) s.bad)=true→t∉s.bad:=fun t ht=>(dH.1 ht).2
         obtain ⟨yI,fd,hp0,WW⟩:=vM (own':=bJ ((e :: kk.tys).filter fun t=>ay t R.own) s.bad) (fun t _ hm=>(apv.1 (aL.1 (dH.1 hm).1)).2) hO0
         obtain ⟨bz,DF,f1,f2,f3,f4⟩:=hels (bJ ((e :: kk.tys).filter fun t=>ay t R.own) s.bad) (fun t _ ht=>ho2 t ht)
         have aet:∀b∈gq,b∉F1:=fun b hb hF=>(apk.1 g2.Ca).2.2 b hb b hF rfl
         have hcs:∃v0,cs0=[v0]∧a.eval x=v0:=by
          have hVk:VC (.sl e kk) (a.eval x) cs0:=ek▸aei
          exact ⟨_,hVk.1,rfl⟩
         obtain ⟨v0,ecs,ev0⟩:=hcs
         subst ecs
         subst eR
         have hne:bE d 0≠r:=fun e=>by have:=hr.1; rw [←e,hn] at this; simp at this
         refine KL hT g2 hd hdn ho hcb ha ht0 hu0 hty (by rw [bZ _ _ hne]; exact hnone _ hn) (yP:=xs) (v0:=v0) (yI:=yI) (fd:=fd) (T1:=R.tags) (T2:=s.tags) (bad:=s.bad) (bz:=bz) (DF:=DF) ev0 hS ho1 ho2
          (fun t ht=>?_) (fun t ht=>cK.2 (.inr ht)) (fun t ht=>cK.2 (.inl ht)) WW (fun b hb=>api _ (hp0.mem_iff.2 hb)) (hp0.nodup g4.nd)
          (fun b hb=>⟨apf _ (f3 b hb).1,fun hb'=>aet b (hp0.mem_iff.2 hb') (f3 b hb).1⟩) f2 f1 (fun i hi=>bC (fun _ _=>rfl) (fun b hb=>?_) (fun _ _=>rfl) (f4 i hi)) hb _
         ·rcases cK.1 ht with h | h
          ·exact g3.tag (hwt t h)
          ·exact g4.wt t h
         ·rcases hb with ⟨hb,hbt⟩ | hb
          ·refine .inl ⟨?_,hbt⟩
           by_cases hbf:b∈gq
           ·exact .inr (api _ hbf)
           ·refine .inl ⟨hb.1,fun h=>?_,hb.2.2.1,fun q Q hq hbq=>?_,hb.2.2.2.2⟩
            ·rcases apm.1 h with h | h
             ·exact hbf h
             ·exact hb.2.1 h
            ·rcases jC hq with ⟨rfl,rfl,_⟩ | ⟨eq,hq'⟩
             ·refine hb.2.2.2.1 q R hr1 ?_
              rw [eO,o7 (show (qH R dd z).kind=R.kind from rfl)] at hbq
              rw [bT]
              rw [eZ] at hbq ⊢
              exact hbq.imp id (fun h=>g6.mem_iff.2 (apf _ h))
             ·rw [(iy (α:=dL) (σ:=aC s.ws σ) (R:=qH R dd z) eq).blk] at hbq
              exact hb.2.2.2.1 q Q hq' hbq
          ·exact .inr hb
    ·exact h.elim
   | ref r g=>
    obtain ⟨R,hr,hv,h⟩:=cO h
    rcases aB h with ⟨hc,h⟩ | ⟨_,h⟩
    ·simp only [apj] at hc
     obtain ⟨⟨⟨⟨⟨c1,c4⟩,c5⟩,c6⟩,c7⟩,c8⟩:=hc
     cases hck:bP R.k (.sl e kk) R.x with
     | none=>rw [hck] at h; exact h.elim
     | some xs=>
      rw [hck] at h
      simp only at h
      obtain ⟨hb,h⟩:=h
      rw [aD h,dA]
      obtain ⟨ek,ey⟩:=bL hck
      have hSr:=hsame r (R7 c7)
      have hr1:=(hSr.live R).2 hr
      have hv1:bq (aC s.ws σ) R:=⟨hv.1,by rw [fA (fun t ht=>(hsame t.1 (IL c8 t ht)).root)]; exact hv.2⟩
      obtain ⟨hkind,aei⟩:=hx R hr (aph c1)
      have K1:=H1.roots r R hr1
      have abJ:=H1.dD r R hr1.1
      have hfr:blk dL R r=dL.fo r:=by simp [blk,eB,hkind]
      have Np:∀b∈dL.fo r,b∉F1:=fun b hb=>H1.jB r R hr1 b (by rw [hfr]; exact hb)
      have hVk:VC (.sl e kk) (a.eval x) (dL.hdr r):=by rw [hSr.hdr]; exact ek▸aei
      have hO0:Ow (hp w) R.own (iT cx (aC s.ws σ) dL F1 w R.tags) (.sl e kk) xs [a.eval x] (dL.fo r):=by
       have:=Aa (y:=xs) ek ey (K1.ow hv1)
       rw [hVk.1] at this
       exact this
      have ho1:ay e (bJ R.own s.bad)=true:=dH.2 ⟨c5,aV.1 hbad⟩
      have ho2:∀t,ay t (bJ R.own s.bad)=true→t∉s.bad:=fun t ht=>(dH.1 ht).2
      have hnd:(dL.fo r).Nodup:=by rw [←hfr]; exact K1.nd
      obtain ⟨yI,fd,hp0,WW⟩:=vM (own':=bJ R.own s.bad) (fun t _ hm=>(dH.1 hm).1) hO0
      obtain ⟨bz,DF,f1,f2,f3,f4⟩:=hels (bJ R.own s.bad) (fun t _ ht=>ho2 t ht)
      have LG:∀b∈yI,b∈dL.fo r:=fun b hb=>hp0.mem_iff.2 (api _ hb)
      have hfd0:∀b∈fd,b∈dL.fo r:=fun b hb=>hp0.mem_iff.2 (apf _ hb)
      have n0:=apk.1 (hp0.nodup hnd)
      have n1:=apk.1 f2
      have hlt:∀b∈dL.fo r,b<w.heap.size:=fun b hb=>(K1.mine b (by rw [hfr]; exact hb)).1
      have aex:∀b∈F1,b<w.heap.size:=fun b hb=>(H1.fl b hb).1
      have aeI:=uH WW
      have hnot:∀b,(∃t∈s.bad,wH (hp w) b t)→b∉yI:=by
       rintro b ⟨t,h1,h2⟩ hb0
       obtain ⟨e',_,h3,h4⟩:=aeI b hb0
       have h2:=H1.UX (K1.mine b (by rw [hfr]; exact LG b hb0)) h2
       rw [h2] at h4
       simp only [apd] at h4
       subst h4
       exact ho2 _ h3 h1
      let ok:Nat→Prop:=fun b=>(iT cx (aC s.ws σ) dL F1 w R.tags b∨b∈fd)∨(iT cx (aC s.ws σ) dL F1 w s.tags b∧∃t∈s.bad,wH (hp w) b t)∨b∈DF
      have hRr:∀b,iT cx (aC s.ws σ) dL F1 w R.tags b→b∉dL.fo r:=by
       intro b hb hbr
       obtain ⟨n,hn⟩:=hb.2.2.2.1 r R hr1 (by rw [hfr]; exact hbr)
       exact abJ.2.2 n hn
      obtain ⟨v',w',dJ,hrun,hos,hsz,LD,hfo,PL,LB⟩:=NI (w:=w) (ok:=ok) (u:=ut) (ty:=o.type) (x:=a.eval y) (bz:=bz) ht (bC (fun _ _=>rfl) (fun b h=>.inl h) (fun _ _=>rfl) WW) ho1
       (apk.2 ⟨n0.1,n1.1,fun b1 h1 b2 h2 e=>Np b1 (LG b1 h1) (e▸(f3 b2 (api _ h2)).1)⟩)
       (fun b hb=>by
        rcases hb with (h | h) | h | h
        ·exact ⟨fun h0=>hRr b h (LG b h0),h.1⟩
        ·exact ⟨fun h0=>n0.2.2 b h0 b h rfl,hlt b (hfd0 b h)⟩
        ·exact ⟨hnot b h.2,h.1.1⟩
        ·exact ⟨fun h0=>Np b (LG b h0) (f3 b (apf _ h)).1,aex b (f3 b (apf _ h)).1⟩)
       (fun b hb=>by
        rcases apm.1 hb with h | h
        ·exact hlt b (LG b h)
        ·exact aex b (f3 b (api _ h)).1)
       hS f1 (fun i hi=>bC (fun _ _=>rfl) (fun b h=>.inr h) (fun _ _=>rfl) (f4 i hi)) hb
      have H6:VC (.sl e kk) v' [v']:=⟨rfl,by
       have h5:=LB
       unfold Ow at h5
       rw [if_pos ho1] at h5
       obtain ⟨b,n,c,e1,_⟩:=h5
       simp only [List.cons.injEq,and_true] at e1
       rw [e1]; simp⟩
      have ahV:∀b,ok b→b∉dJ∧b<w.heap.size:=by
       intro b hb
       have hlt':b<w.heap.size:=by
        rcases hb with (h | h) | h | h
        ·exact h.1
        ·exact hlt b (hfd0 b h)
        ·exact h.1.1
        ·exact aex b (f3 b (apf _ h)).1
       refine ⟨fun hbf=>?_,hlt'⟩
       rcases hfo b hbf with h2 | h2 | h2
       ·rcases hb with (h | h) | h | h
        ·exact hRr b h (LG b h2)
        ·exact n0.2.2 b h2 b h rfl
        ·exact hnot b h.2 h2
        ·exact Np b (LG b h2) (f3 b (apf _ h)).1
       ·have hF:=(f3 b (api _ h2)).1
        rcases hb with (h | h) | h | h
        ·exact h.2.1 hF
        ·exact Np b (hfd0 b h) hF
        ·exact h.1.2.1 hF
        ·exact n1.2.2 b h2 b h rfl
       ·omega
      have hnext:∀(j:Nat) (n:Nat),(qp j,n)∈s.tags→(qp j,n)∈iP (xR r s.tags) R.tags:=by
       intro j n hj
       refine cK.2 (.inl (qg.2 ⟨hj,fun e=>?_⟩))
       have:=abJ.2.1
       rw [←e] at this
       simp only at this
       rw [iO] at this
       simp at this
      obtain ⟨k1,k2⟩:=ais (R':={ R with k:=.sl e kk,x:=xs++s.xs,own:=bJ R.own s.bad,tags:=iP (xR r s.tags) R.tags,w:=e :: R.w,h:=qK :: e :: R.h,g:=R.g+1,keep:=R.keep || s.keep })
       (v':=v') (hdr':=[v']) (dJ:=dJ) (w':=w') H1 hr1 hv1 hkind hkind rfl rfl rfl ⟨rfl,rfl⟩ ⟨fun t ht=>(cK.1 ht).elim (fun h=>hwt t (qg.1 h).1) (abJ.1 t),fun n hn=>(cK.1 hn).elim (fun h=>(qg.1 h).2 rfl) (abJ.2.2 n)⟩
       hos hsz (fun b h1 h2=>.inr ⟨LG b (LD b h1 h2).1,(LD b h1 h2).2⟩) (fun b hb=>by
        rcases hfo b hb with h | h | h
        ·exact .inl (LG b h)
        ·exact .inr (.inl (f3 b (api _ h)).1)
        ·exact .inr (.inr h)) PL rfl
       (bC (k:=.sl e kk) (fun _ _=>rfl) (fun b hb=>by
        obtain ⟨z1,z2⟩:=ahV b hb
        refine ⟨Nat.lt_of_lt_of_le z2 hsz,by simp, ?_,fun q Q hq hbq=>?_,fun h0=>?_⟩
        ·rcases hb with (h | h) | h | h
         ·exact h.2.2.1
         ·exact o9 H1 hr1 (hfd0 b h)
         ·exact h.1.2.2.1
         ·exact sU H1 (f3 b (apf _ h)).1
        ·rcases jC hq with ⟨rfl,rfl,_⟩ | ⟨eq,hq'⟩
         ·rw [eO] at hbq
          have hbq:b∈dJ:=by simpa [iF,hkind] using hbq
          exact absurd hbq z1
         ·rw [(iy (α:=dL) (σ:=aC s.ws σ) (R:={ R with k:=.sl e kk,x:=xs++s.xs,own:=bJ R.own s.bad,tags:=iP (xR r s.tags) R.tags,w:=e :: R.w,h:=qK :: e :: R.h,g:=R.g+1,keep:=R.keep || s.keep }) eq).blk] at hbq
          rcases hb with (h | h) | h | h
          ·exact (h.2.2.2.1 q Q hq' hbq).imp fun n hn=>cK.2 (.inr hn)
          ·exact absurd hbq (H1.MX r R q Q hr1 hq' (Ne.symm eq) b (by rw [hfr]; exact hfd0 b h))
          ·exact (h.1.2.2.2.1 q Q hq' hbq).imp fun n hn=>cK.2 (.inl (qg.2 ⟨hn,eq⟩))
          ·exact absurd (f3 b (apf _ h)).1 (H1.jB q Q hq' b hbq)
        ·have jJ:Ow.mine cx w b→(∃j n,(qp j,n)∈iP (xR r s.tags) R.tags∧cx.ext j b)∨∃j pi,cx.par j=some pi∧b∈pi.bl:=fun hm=>by
          rcases hm.2 with h | ⟨j,pi,h1,h2⟩
          ·omega
          ·exact .inr ⟨j,pi,h1,h2⟩
         rcases hb with (h | h) | h | h
         ·exact (h.2.2.2.2 h0).imp (fun ⟨j,n,h1,h2⟩=>⟨j,n,cK.2 (.inr h1),h2⟩) id
         ·exact jJ (K1.mine b (by rw [hfr]; exact hfd0 b h))
         ·exact (h.1.2.2.2.2 h0).imp (fun ⟨j,n,h1,h2⟩=>⟨j,n,hnext j n h1,h2⟩) id
         ·exact jJ (H1.fl b (f3 b (apf _ h)).1)) (fun _ _=>rfl) LB) H6
      exact iW (x:=.one (.ref r (R.g+1))) k1 hd hdn (nH ho hcb ha ht0 hu0 hrun) k2 ⟨_,aK .., .inr (apu _)⟩
    ·exact h.elim
   | val _ _ _=>exact h.elim
   | undef=>exact h.elim
   | ptr _ _ _=>exact h.elim
   | je _ _ _ _=>exact h.elim
   | K5 _ _ _ _=>exact h.elim
   | Bz _=>exact h.elim
   | part _ _ _ _ _=>exact h.elim
   | yL _ _ _ _=>exact h.elim
   | app _ _ _ _=>exact h.elim
   | sG=>exact h.elim
   | fn _ _=>exact h.elim
  | _=>exact h.elim
end
end
section
open Go
variable [Fr]
section
variable {P:Program} {T:ji} {cx:Cx} {σ:St} {α:dK} {F:List Nat} {a:Act} {w:World} {o:Oper} {d:Nat} {ws:List Wr}
def qb (kk:K):List (Nat×iL)→wB kk→Option (wB kk)
 | [],b=>some b
 | (n,tk) :: l,b=>match bP tk.k kk tk.x with
  | some y=>bif Nat.beq n (gG b.xs) then qb kk l { xs:=b.xs++[y],bad:=tk.bad++b.bad,tags:=iP (tk.jV) b.tags,ws:=b.ws++tk.ws,keep:=tk.keep || b.keep,all:=tk.tags++b.all } else none
  | none=>none
theorem Ua {A:Type} {z:A} (H:Rel cx σ α F a w) {kk:K} {k:wB kk→Prog A}:∀{l:List (Nat×AV)} {vs:List Value} {b:wB kk},fG cx σ α F w (l.map (·.2)) vs→(∀v∈l,tF σ v.2)→(Ld kk l b k).ends σ z→
  ∃(tks:List iL) (b':wB kk),tks.length=l.length∧vs.length=l.length∧(∀it∈vs.zip tks,xQ cx σ α F w it.1 it.2)∧qb kk ((l.map (·.1)).zip tks) b=some b'∧(k b').ends σ z:=by
 intro l
 induction l with
 | nil=>
  intro vs b h1 _ h
  cases vs with
  | nil=>exact ⟨[],b,rfl,rfl,by simp,rfl,h⟩
  | cons v vs=>exact h1.elim
 | cons p l ih=>
  obtain ⟨n,x⟩:=p
  intro vs b h1 h2 h
  cases vs with
  | nil=>exact h1.elim
  | cons v vs=>
   simp only [Ld] at h
   obtain ⟨tk,htk,h5⟩:=tX H h1.1 (h2 (n,x) (by simp)) h
   cases hc:bP tk.k kk tk.x with
   | none=>rw [hc] at h5; exact h5.elim
   | some y=>
    rw [hc] at h5
    simp only at h5
    rcases aB h5 with ⟨hn,h6⟩ | ⟨_,h6⟩
    ·obtain ⟨tks,b',g1,g2,g3,g4,g5⟩:=ih h1.2 (fun v hv=>h2 v (by simp [hv])) h6
     refine ⟨tk :: tks,b',by simp [g1],by simp [g2], ?_, ?_,g5⟩
     ·intro it hit
      rw [List.zip_cons_cons] at hit
      rcases apq.1 hit with h | h
      ·subst h; exact htk
      ·exact g3 it h
     ·rw [List.map_cons,List.zip_cons_cons]
      unfold qb
      simp only [hc,hn,cond_true]
      exact g4
    ·exact h6.elim
theorem Ju {kk:K}:∀(l:List (Nat×iL)) {b b':wB kk},qb kk l b=some b'→
  b'.ws=b.ws++l.flatMap (fun p=>p.2.ws)∧(∀p∈l,∀t∈p.2.tags,t∈b'.all)∧(∀p∈l,∀t∈p.2.bad,t∈b'.bad)∧(∀t∈b.bad,t∈b'.bad)∧
  (∀p∈l,∀t∈p.2.jV,t∈b'.tags)∧(∀t∈b.tags,t∈b'.tags)∧(∀t∈b'.tags,t∈b.tags∨∃p∈l,t∈p.2.jV)∧(∀t∈b.all,t∈b'.all)∧b'.xs.length=b.xs.length+l.length:=by
 intro l
 induction l with
 | nil=>
  intro b b' h
  simp only [qb,apd] at h
  subst h
  simp
 | cons p l ih=>
  obtain ⟨n,tk⟩:=p
  intro b b' h
  unfold qb at h
  cases hc:bP tk.k kk tk.x with
  | none=>rw [hc] at h; simp at h
  | some y=>
   rw [hc] at h
   simp only at h
   cases hn:Nat.beq n (gG b.xs) with
   | false=>rw [hn] at h; simp at h
   | true=>
    rw [hn] at h
    simp only [cond_true] at h
    obtain ⟨g1,g2,g3,g4,g5,g6,g7,g8,g9⟩:=ih h
    refine ⟨by rw [g1]; simp, ?_, ?_,fun t ht=>g4 t (by simp [ht]), ?_,fun t ht=>g6 t (cK.2 (.inr ht)), ?_,fun t ht=>g8 t (by simp [ht]),by rw [g9]; simp; omega⟩
    ·intro p hp t ht
     rcases apq.1 hp with h | h
     ·subst h; exact g8 t (by simp [ht])
     ·exact g2 p h t ht
    ·intro p hp t ht
     rcases apq.1 hp with h | h
     ·subst h; exact g4 t (by simp [ht])
     ·exact g3 p h t ht
    ·intro p hp t ht
     rcases apq.1 hp with h | h
     ·subst h; exact g6 t (cK.2 (.inl ht))
     ·exact g5 p h t ht
    ·intro t ht
     rcases g7 t ht with h | ⟨p,h1,h2⟩
     ·rcases cK.1 h with h | h
      ·exact .inr ⟨(n,tk),by simp,h⟩
      ·exact .inl h
     ·exact .inr ⟨p,by simp [h1],h2⟩
theorem T9 {h:Heap} {own:List TypeId} {ok:Nat→Prop} {kk:K} {N:Nat} :
  ∀(l:List (Nat×iL)) {vs:List Value} {Ba:List (List Nat)} {b b':wB kk} {cells:Array Value} {bz:List (List Nat)},b.xs.length+l.length≤N→cells.size=N * kk.size→bz.length=b.xs.length→
   (∀i (hi:i<b.xs.length),Ow h own ok kk b.xs[i] (nS cells.toList kk.size i) (bz.getD i []))→xP h own ok l vs Ba→qb kk l b=some b'→
   ∃cells',Instr.fill (fun i=>some (i * kk.size,kk.size)) cells ((l.map (·.1)).zip vs)=some cells'∧cells'.size=N * kk.size∧(bz++Ba).length=b'.xs.length∧
    ∀i (hi:i<b'.xs.length),Ow h own ok kk b'.xs[i] (nS cells'.toList kk.size i) ((bz++Ba).getD i []):=by
 intro l
 induction l with
 | nil=>
  intro vs Ba b b' cells bz hN hs hf hO hP hb
  cases vs with
  | nil=>
   cases Ba with
   | nil=>
    simp only [qb,apd] at hb
    subst hb
    exact ⟨cells,rfl,hs,by simpa using hf,by simpa using hO⟩
   | cons f fs=>exact hP.elim
  | cons v vs=>cases Ba <;> exact hP.elim
 | cons p l ih=>
  obtain ⟨n,tk⟩:=p
  intro vs Ba b b' cells bz hN hs hf hO hP hb
  cases vs with
  | nil=>cases Ba <;> exact hP.elim
  | cons v vs=>
   cases Ba with
   | nil=>exact hP.elim
   | cons ft Ba=>
    obtain ⟨⟨cst,hv,hOt⟩,hP'⟩:=hP
    unfold qb at hb
    cases hc:bP tk.k kk tk.x with
    | none=>rw [hc] at hb; simp at hb
    | some y=>
     rw [hc] at hb
     simp only at hb
     cases hn:Nat.beq n (gG b.xs) with
     | false=>rw [hn] at hb; simp at hb
     | true=>
      rw [hn] at hb
      simp only [cond_true] at hb
      have en:n=b.xs.length:=by rw [aph hn,qd]
      subst en
      obtain ⟨ek,ey⟩:=bL hc
      have hOy:Ow h own ok kk y cst ft:=Aa ek ey hOt
      have hcl:cst.length=kk.size:=dn hOy
      have Jw:v.cells=cst.toArray:=by
       have:=hv.cells
       apply Array.ext'
       simpa using this
      simp only [apB] at hN
      have hle:(b.xs.length+1) * kk.size≤N * kk.size:=apJ _ (by omega)
      rw [Nat.add_mul,Nat.one_mul] at hle
      have hoff:b.xs.length * kk.size+cst.length≤cells.size:=by rw [hs,hcl]; exact hle
      rw [List.map_cons,List.zip_cons_cons,NT (place:=fun i=>some (i * kk.size,kk.size)) (off:=b.xs.length * kk.size) (vs:=cst) (by simp [hcl]) Jw hoff]
      have hsz:(cells.toList.take (b.xs.length * kk.size)++(cst++cells.toList.drop (b.xs.length * kk.size+cst.length))).toArray.size=N * kk.size:=by
       simp
       omega
      obtain ⟨cells',g1,g2,g3,g4⟩:=ih (bz:=bz++[ft]) (b:={ xs:=b.xs++[y],bad:=tk.bad++b.bad,tags:=iP (tk.jV) b.tags,ws:=b.ws++tk.ws,keep:=tk.keep || b.keep,all:=tk.tags++b.all }) (by simp; omega) hsz (by simp [hf]) (by
       intro i hi
       simp only [apl,apB,List.length_nil,Nat.zero_add] at hi
       rw [FC]
       by_cases h0:i<b.xs.length
       ·rw [if_pos (by rw [hf]; exact h0)]
        have e1:(b.xs++[y])[i]'(by simp; omega)=b.xs[i]:=List.getElem_append_left h0
        show Ow h own ok kk ((b.xs++[y])[i]'(by simp; omega)) _ _
        rw [e1]
        have e2:nS (cells.toList.take (b.xs.length * kk.size)++(cst++cells.toList.drop (b.xs.length * kk.size+cst.length))) kk.size i=nS cells.toList kk.size i:=by
         have hl2:(i+1) * kk.size≤b.xs.length * kk.size:=apJ _ (by omega)
         rw [Nat.add_mul,Nat.one_mul] at hl2
         apply List.ext_getElem?
         intro j
         by_cases hj:j<kk.size
         ·rw [mH hj,mH hj,List.getElem?_append_left (by simp; omega),List.getElem?_take_of_lt (by omega)]
         ·unfold nS
          rw [List.getElem?_eq_none (by simp; omega),List.getElem?_eq_none (by simp; omega)]
        simp only
        rw [e2]
        exact hO i h0
       ·have:i=b.xs.length:=by omega
        subst this
        rw [if_neg (by omega),hf,Nat.sub_self]
        have e1:(b.xs++[y])[b.xs.length]'(by simp)=y:=by simp
        show Ow h own ok kk ((b.xs++[y])[b.xs.length]'(by simp)) _ _
        rw [e1]
        have e2:nS (cells.toList.take (b.xs.length * kk.size)++(cst++cells.toList.drop (b.xs.length * kk.size+cst.length))) kk.size b.xs.length=cst:=by
         have hl:(cells.toList.take (b.xs.length * kk.size)).length=b.xs.length * kk.size:=by simp; omega
         unfold nS
         conv=>lhs; arg 2; arg 1; rw [←hl]
         rw [List.drop_left, ←hcl,List.take_left]
        simp only
        rw [e2]
        exact hOy) hP' hb
      refine ⟨cells',g1,g2, ?_, ?_⟩
      ·rw [←g3]; simp
      ·intro i hi
       have:=g4 i hi
       simp only [apz,List.cons_append,List.nil_append] at this
       exact this
end
end
end Go.Proofs.YtdknpknohipffaaGreat.Ow
